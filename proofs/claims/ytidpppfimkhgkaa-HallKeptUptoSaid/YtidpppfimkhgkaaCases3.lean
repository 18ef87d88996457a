/- Contract of cases.Do. -/
import Derived.Test.YtidpppfimkhgkaaCases2
import Derived.Deep.RegionHeld3
namespace Go.Tok
open Go.RowKit
/-- ints do not lie in a block of slices -/
theorem Ints.set_apart {w : World} {v : Value} {xs : List Int} {g : Nat} {t : TypeId} {a a' : Option Addr} {n c n' c' : Nat} (h : Ints w v xs) (hb : Blk w g t #[.slice a n c, .slice a' n' c']) (i : Nat) (u : Value) : Ints (w.setCell ⟨g, i, none⟩ u) v xs := by
  refine h.other (fun hx k hk e => ?_) u
  change k = g at e
  subst e
  have h0 : 0 < xs.length := by cases xs with | nil => exact absurd rfl hx | cons => simp
  obtain ⟨ad, cap, rfl, _, _⟩ := h.len
  obtain ⟨b, o, rfl, hc⟩ := h.cell h0
  obtain rfl : b = k := by simpa [Value.ownBlock] using hk
  have hb' := hb
  unfold Blk at hb'
  have hr := cell_of_row w b (o + 0) _ t (0, 0) hb'
  rw [hc] at hr
  have h1 : (o + 0) < 2 := by
    by_cases h1 : (o + 0) < 2
    · exact h1
    · rw [Array.getElem?_eq_none (by simp; omega)] at hr; cases hr
  have h2 : (o + 0) = 0 ∨ (o + 0) = 1 := by omega
  rcases h2 with h2 | h2 <;> rw [h2] at hr <;> simp at hr
theorem CaseR.sets {w : World} {v : Value} {c : CaseD} {g : Nat} {t : TypeId} {a a' b b' : Option Addr} {n k n' k' m l m' l' : Nat} (h : CaseR w v c) (hb : Blk w g t #[.slice a n k, .slice a' n' k']) :
    CaseR ((w.setCell ⟨g, 0, none⟩ (.slice b m l)).setCell ⟨g, 1, none⟩ (.slice b' m' l')) v c := by
  obtain ⟨vm, vb, h1, h2, h3⟩ := h
  have hb2 : Blk (w.setCell ⟨g, 0, none⟩ (.slice b m l)) g t #[.slice b m l, .slice a' n' k'] := by simpa using hb.set 0 (.slice b m l)
  exact ⟨vm, vb, h1, (h2.set_apart hb 0 _).set_apart hb2 1 _, (h3.set_apart hb 0 _).set_apart hb2 1 _⟩
end Go.Tok
namespace Go.Proofs.Ytidpppfimkhgkaa
open Go.RowKit Go.Tok
set_option linter.unusedVariables false

set_option maxHeartbeats 4000000 in
set_option maxRecDepth 100000 in
theorem Do_one (v u : Value) (N : NetD) (c : CaseD) (t : Nat) (w : World) (hN : NetR w v N) (hc : CaseR w u c) (e0 : caseOkB N c = true) (hj : t < N.trans.length) (h5 : (N.tr t).label = 0) :
    Calls Try.prog 105 #[v, u, .agg #[.int .i64 1, .int .i64 t]] w (RetCE w (doF N c 1 t)) := by
  have hN' := hN
  obtain ⟨a, cap, rfl, hnl, hncap, hpl, hT⟩ := hN.open_
  have hpl1 := hpl.1
  have hpl2 := hpl.2
  have hc0 := hc
  obtain ⟨ma, mc, ba, bc, rfl, hml, hml', hbl, hbl', hM, hB⟩ := hc.open_
  have hO := caseOk_iff.1 e0
  have h24 := (fits_sizes hO.fits).1
  have hml16 := (fits_sizes hO.fits).2.2.2.1
  have hbl24 : c.busy.length ≤ 24 := by rw [hO.bl]; exact h24
  have F := netOk_tr hO.ok hj
  have hpl16 : (N.tr t).pre.length ≤ 16 := by have := F.pre; have := hO.ml; omega
  have hql16 : (N.tr t).post.length ≤ 16 := by have := F.post; have := hO.ml; omega
  have hbt : t < c.busy.length := by rw [hO.bl]; exact hj
  have hbr := hO.br
  obtain ⟨pb, po, vp, vq, ha, c0, c1, c2, hlab, hp, hq⟩ := hT.at_ hj
  obtain ⟨pa, pc, rfl, _, _⟩ := hp.len
  obtain ⟨qa, qc, rfl, _, _⟩ := hq.len
  have HA := Lib.hid ha
  have hlabB := Lib.hid h5
  clear hO ha F
  have q2 : ((N.tr t).label == 0) = true := by simp [h5]
  have hd := doF_ok e0 (by decide) hj (by simp [h5] : (decide ((1 : Int) = 1) != decide ((N.tr t).label = 0)) = false)
  rw [doK1] at hd
  rcases hf : fireF N c.mark t with ⟨m, e⟩
  have HF := Lib.hid hf
  rw [hf] at hd
  have tI : I64 (t : Int) := by unfold I64; omega
  by_cases he : e = 0
  · subst he
    have HC := Lib.hid (hd.trans (withM_ok rfl))
    clear h5 hd hf
    have b0 : Blk ((((w.alloc (.cells #[.int .i64 N.places, .slice a N.trans.length cap] 28)).alloc (.cells #[.slice ma c.mark.length mc, .slice ba c.busy.length bc] 63)).alloc (.cells #[.int .i64 (1), .int .i64 t] 105)).alloc (.cells #[.slice none 0 0, .slice none 0 0] 63)) w.heap.size 28 #[.int .i64 N.places, .slice a N.trans.length cap] := (Blk.new rfl).gr ((((Gr.refl _).alloc _).alloc _).alloc _)
    have b1 : Blk ((((w.alloc (.cells #[.int .i64 N.places, .slice a N.trans.length cap] 28)).alloc (.cells #[.slice ma c.mark.length mc, .slice ba c.busy.length bc] 63)).alloc (.cells #[.int .i64 (1), .int .i64 t] 105)).alloc (.cells #[.slice none 0 0, .slice none 0 0] 63)) (w.heap.size + 1) 63 #[.slice ma c.mark.length mc, .slice ba c.busy.length bc] := (Blk.new (by simp)).gr (((Gr.refl _).alloc _).alloc _)
    have b2 : Blk ((((w.alloc (.cells #[.int .i64 N.places, .slice a N.trans.length cap] 28)).alloc (.cells #[.slice ma c.mark.length mc, .slice ba c.busy.length bc] 63)).alloc (.cells #[.int .i64 (1), .int .i64 t] 105)).alloc (.cells #[.slice none 0 0, .slice none 0 0] 63)) (w.heap.size + 1 + 1) 105 #[.int .i64 (1), .int .i64 t] := (Blk.new (by simp)).gr ((Gr.refl _).alloc _)
    have b3 : Blk ((((w.alloc (.cells #[.int .i64 N.places, .slice a N.trans.length cap] 28)).alloc (.cells #[.slice ma c.mark.length mc, .slice ba c.busy.length bc] 63)).alloc (.cells #[.int .i64 (1), .int .i64 t] 105)).alloc (.cells #[.slice none 0 0, .slice none 0 0] 63)) (w.heap.size + 1 + 1 + 1) 63 #[.slice none 0 0, .slice none 0 0] := Blk.new (by simp)
    go_enter Try.func105, Try.ntmps105
    go_wp2_with fail
    refine (CaseRight_calls _ _ N c _ (hN.gr (by (repeat (first | exact Gr.refl _ | assumption | apply Gr.alloc | apply Gr.drew | apply Gr.drewN | refine Gr.trans ?_ (by assumption))))) (hc.gr (by (repeat (first | exact Gr.refl _ | assumption | apply Gr.alloc | apply Gr.drew | apply Gr.drewN | refine Gr.trans ?_ (by assumption)))))).mono ?_
    rw [e0]; rintro _ w1 ⟨rfl, g1⟩
    replace b0 := b0.gr g1
    replace b1 := b1.gr g1
    replace b2 := b2.gr g1
    replace b3 := b3.gr g1
    have gw : Gr w w1 := by (repeat (first | exact Gr.refl _ | assumption | apply Gr.alloc | apply Gr.drew | apply Gr.drewN | refine Gr.trans ?_ (by assumption)))
    clear g1
    have A0 := b0.cell (i := 0) rfl
    have A1 := b0.cell (i := 1) rfl
    have B0 := b1.cell (i := 0) rfl
    have B1 := b1.cell (i := 1) rfl
    have O0 := b2.cell (i := 0) rfl
    have O1 := b2.cell (i := 1) rfl
    have ha := HA.out
    subst ha
    clear HA
    have S0 := cell_gr c0 gw
    have S1 := cell_gr c1 gw
    have S2 := cell_gr c2 gw
    go_wp2_with fail
    go_quiet (fail)
    have gd : Gr w1 (w1.drewN nq) := (Gr.refl _).drewN _
    generalize w1.drewN nq = wd at gd ⊢
    replace b0 := b0.gr gd
    replace b1 := b1.gr gd
    replace b2 := b2.gr gd
    replace b3 := b3.gr gd
    replace gw := gw.trans gd
    replace S0 := cell_gr S0 gd
    replace S1 := cell_gr S1 gd
    replace S2 := cell_gr S2 gd
    replace A0 := cell_gr A0 gd
    replace A1 := cell_gr A1 gd
    replace B0 := cell_gr B0 gd
    replace B1 := cell_gr B1 gd
    replace O0 := cell_gr O0 gd
    replace O1 := cell_gr O1 gd
    clear gd
    go_wp2_with fail
    go_region_held3 (fun w' => w'.cell? ⟨w.heap.size + 1, 0, none⟩ = some (.slice ma c.mark.length mc) ∧ w'.cell? ⟨w.heap.size + 1, 1, none⟩ = some (.slice ba c.busy.length bc)) (first | go_keep | exact ⟨cell_gr B0 (by (repeat (first | exact Gr.refl _ | assumption | apply Gr.alloc | apply Gr.drew | apply Gr.drewN | refine Gr.trans ?_ (by assumption)))), cell_gr B1 (by (repeat (first | exact Gr.refl _ | assumption | apply Gr.alloc | apply Gr.drew | apply Gr.drewN | refine Gr.trans ?_ (by assumption))))⟩) (first | (go_at_call 44; (with_reducible refine (Clone_calls _ c.busy _ (hB.gr (by (repeat (first | exact Gr.refl _ | assumption | apply Gr.alloc | apply Gr.drew | apply Gr.drewN | refine Gr.trans ?_ (by assumption))))) (by omega)).mono ?_); rintro _ w2 ⟨v2, rfl, o2, g2⟩))
    have GT : Gr (wd.alloc (.cells #[.int .i64 (N.tr t).label, .slice pa (N.tr t).pre.length pc, .slice qa (N.tr t).post.length qc] 34)) w2 := by (repeat (first | exact Gr.refl _ | assumption | apply Gr.alloc | apply Gr.drew | apply Gr.drewN | refine Gr.trans ?_ (by assumption)))
    have G2 : Gr wd w2 := ((Gr.refl _).alloc _).trans GT
    have T1 := box_cell GT (i := 1) rfl
    have T2 := box_cell GT (i := 2) rfl
    have hbw : w.heap.size + 1 + 1 + 1 < wd.heap.size := b3.lt
    have hw0 := gw.le
    have hw2 := G2.le
    have I2 := o2.lower (show wd.heap.size ≤ _ from by simp)
    obtain ⟨va, vc, rfl, _, _⟩ := I2.ints.len
    replace b1 := b1.gr G2
    replace b3 := b3.gr G2
    replace gw := gw.trans G2
    have K0 := hN.gr gw
    have KM := hM.gr gw
    have KB := hB.gr gw
    have KP := hp.gr gw
    have KQ := hq.gr gw
    replace A0 := cell_gr A0 G2
    replace A1 := cell_gr A1 G2
    replace B0 := cell_gr B0 G2
    replace B1 := cell_gr B1 G2
    replace O0 := cell_gr O0 G2
    replace O1 := cell_gr O1 G2
    clear g2 GT o2 G2 S0 S1 S2 b0 b2
    go_wp2_with fail
    refine (Fire_own _ _ N c.mark t _ K0 KM tI).mono ?_
    rw [HF.out]; rintro _ w3 ⟨v3, rfl, i3, g3⟩
    obtain ⟨a3, n3, rfl, _, _⟩ := i3.ints.len
    replace b3 := b3.gr g3
    replace gw := gw.trans g3
    have HI := Lib.hid (CaseO.mk_ (e := 3) (base := wd.heap.size) (c := ⟨m, c.busy⟩) (i3.lower hw2) (I2.gr g3))
    have D0 := b3.cell (i := 0) rfl
    have D1 := b3.cell (i := 1) rfl
    have F0 := b3.frozen 0
    have hb2 := b3.set 0 (.slice a3 m.length n3)
    have F1 := hb2.frozen 1
    have D2 := hb2.cell (i := 1) rfl
    have hb3 := hb2.set 1 (.slice va c.busy.length vc)
    have E0 := hb3.cell (i := 0) rfl
    have E1 := hb3.cell (i := 1) rfl
    go_wp2_with fail
    refine bodyPost_ret (v := .tuple #[.agg #[.slice a3 m.length n3, .slice va c.busy.length vc], .int .i64 0]) (by simp [results, Try.results105, go_sem, E0, E1]) rfl ?_
    exact RetCE.mk HC.out ((HI.out.set (by simp; omega) _).set (by simp; omega) _) hw0 ((gw.setCell (by simp; omega) _).setCell (by simp; omega) _)
  · have q1 : (e != 0) = true := by simpa using he
    have HC := Lib.hid (hd.trans (withM_bad he))
    clear h5 hd hf he
    have b0 : Blk ((((w.alloc (.cells #[.int .i64 N.places, .slice a N.trans.length cap] 28)).alloc (.cells #[.slice ma c.mark.length mc, .slice ba c.busy.length bc] 63)).alloc (.cells #[.int .i64 (1), .int .i64 t] 105)).alloc (.cells #[.slice none 0 0, .slice none 0 0] 63)) w.heap.size 28 #[.int .i64 N.places, .slice a N.trans.length cap] := (Blk.new rfl).gr ((((Gr.refl _).alloc _).alloc _).alloc _)
    have b1 : Blk ((((w.alloc (.cells #[.int .i64 N.places, .slice a N.trans.length cap] 28)).alloc (.cells #[.slice ma c.mark.length mc, .slice ba c.busy.length bc] 63)).alloc (.cells #[.int .i64 (1), .int .i64 t] 105)).alloc (.cells #[.slice none 0 0, .slice none 0 0] 63)) (w.heap.size + 1) 63 #[.slice ma c.mark.length mc, .slice ba c.busy.length bc] := (Blk.new (by simp)).gr (((Gr.refl _).alloc _).alloc _)
    have b2 : Blk ((((w.alloc (.cells #[.int .i64 N.places, .slice a N.trans.length cap] 28)).alloc (.cells #[.slice ma c.mark.length mc, .slice ba c.busy.length bc] 63)).alloc (.cells #[.int .i64 (1), .int .i64 t] 105)).alloc (.cells #[.slice none 0 0, .slice none 0 0] 63)) (w.heap.size + 1 + 1) 105 #[.int .i64 (1), .int .i64 t] := (Blk.new (by simp)).gr ((Gr.refl _).alloc _)
    have b3 : Blk ((((w.alloc (.cells #[.int .i64 N.places, .slice a N.trans.length cap] 28)).alloc (.cells #[.slice ma c.mark.length mc, .slice ba c.busy.length bc] 63)).alloc (.cells #[.int .i64 (1), .int .i64 t] 105)).alloc (.cells #[.slice none 0 0, .slice none 0 0] 63)) (w.heap.size + 1 + 1 + 1) 63 #[.slice none 0 0, .slice none 0 0] := Blk.new (by simp)
    go_enter Try.func105, Try.ntmps105
    go_wp2_with fail
    refine (CaseRight_calls _ _ N c _ (hN.gr (by (repeat (first | exact Gr.refl _ | assumption | apply Gr.alloc | apply Gr.drew | apply Gr.drewN | refine Gr.trans ?_ (by assumption))))) (hc.gr (by (repeat (first | exact Gr.refl _ | assumption | apply Gr.alloc | apply Gr.drew | apply Gr.drewN | refine Gr.trans ?_ (by assumption)))))).mono ?_
    rw [e0]; rintro _ w1 ⟨rfl, g1⟩
    replace b0 := b0.gr g1
    replace b1 := b1.gr g1
    replace b2 := b2.gr g1
    replace b3 := b3.gr g1
    have gw : Gr w w1 := by (repeat (first | exact Gr.refl _ | assumption | apply Gr.alloc | apply Gr.drew | apply Gr.drewN | refine Gr.trans ?_ (by assumption)))
    clear g1
    have A0 := b0.cell (i := 0) rfl
    have A1 := b0.cell (i := 1) rfl
    have B0 := b1.cell (i := 0) rfl
    have B1 := b1.cell (i := 1) rfl
    have O0 := b2.cell (i := 0) rfl
    have O1 := b2.cell (i := 1) rfl
    have ha := HA.out
    subst ha
    clear HA
    have S0 := cell_gr c0 gw
    have S1 := cell_gr c1 gw
    have S2 := cell_gr c2 gw
    go_wp2_with fail
    go_quiet (fail)
    have gd : Gr w1 (w1.drewN nq) := (Gr.refl _).drewN _
    generalize w1.drewN nq = wd at gd ⊢
    replace b0 := b0.gr gd
    replace b1 := b1.gr gd
    replace b2 := b2.gr gd
    replace b3 := b3.gr gd
    replace gw := gw.trans gd
    replace S0 := cell_gr S0 gd
    replace S1 := cell_gr S1 gd
    replace S2 := cell_gr S2 gd
    replace A0 := cell_gr A0 gd
    replace A1 := cell_gr A1 gd
    replace B0 := cell_gr B0 gd
    replace B1 := cell_gr B1 gd
    replace O0 := cell_gr O0 gd
    replace O1 := cell_gr O1 gd
    clear gd
    go_wp2_with fail
    go_region_held3 (fun w' => w'.cell? ⟨w.heap.size + 1, 0, none⟩ = some (.slice ma c.mark.length mc) ∧ w'.cell? ⟨w.heap.size + 1, 1, none⟩ = some (.slice ba c.busy.length bc)) (first | go_keep | exact ⟨cell_gr B0 (by (repeat (first | exact Gr.refl _ | assumption | apply Gr.alloc | apply Gr.drew | apply Gr.drewN | refine Gr.trans ?_ (by assumption)))), cell_gr B1 (by (repeat (first | exact Gr.refl _ | assumption | apply Gr.alloc | apply Gr.drew | apply Gr.drewN | refine Gr.trans ?_ (by assumption))))⟩) (first | (go_at_call 44; (with_reducible refine (Clone_calls _ c.busy _ (hB.gr (by (repeat (first | exact Gr.refl _ | assumption | apply Gr.alloc | apply Gr.drew | apply Gr.drewN | refine Gr.trans ?_ (by assumption))))) (by omega)).mono ?_); rintro _ w2 ⟨v2, rfl, o2, g2⟩))
    have GT : Gr (wd.alloc (.cells #[.int .i64 (N.tr t).label, .slice pa (N.tr t).pre.length pc, .slice qa (N.tr t).post.length qc] 34)) w2 := by (repeat (first | exact Gr.refl _ | assumption | apply Gr.alloc | apply Gr.drew | apply Gr.drewN | refine Gr.trans ?_ (by assumption)))
    have G2 : Gr wd w2 := ((Gr.refl _).alloc _).trans GT
    have T1 := box_cell GT (i := 1) rfl
    have T2 := box_cell GT (i := 2) rfl
    have hbw : w.heap.size + 1 + 1 + 1 < wd.heap.size := b3.lt
    have hw0 := gw.le
    have hw2 := G2.le
    have I2 := o2.lower (show wd.heap.size ≤ _ from by simp)
    obtain ⟨va, vc, rfl, _, _⟩ := I2.ints.len
    replace b1 := b1.gr G2
    replace b3 := b3.gr G2
    replace gw := gw.trans G2
    have K0 := hN.gr gw
    have KM := hM.gr gw
    have KB := hB.gr gw
    have KP := hp.gr gw
    have KQ := hq.gr gw
    replace A0 := cell_gr A0 G2
    replace A1 := cell_gr A1 G2
    replace B0 := cell_gr B0 G2
    replace B1 := cell_gr B1 G2
    replace O0 := cell_gr O0 G2
    replace O1 := cell_gr O1 G2
    clear g2 GT o2 G2 S0 S1 S2 b0 b2
    go_wp2_with fail
    refine (Fire_own _ _ N c.mark t _ K0 KM tI).mono ?_
    rw [HF.out]; rintro _ w3 ⟨v3, rfl, i3, g3⟩
    replace b3 := b3.gr g3
    replace gw := gw.trans g3
    go_wp2_with fail
    refine (Do1_calls _ _).mono ?_
    rintro _ w9 ⟨rfl, g9⟩
    have g10 : Gr w3 w9 := by (repeat (first | exact Gr.refl _ | assumption | apply Gr.alloc | apply Gr.drew | apply Gr.drewN | refine Gr.trans ?_ (by assumption)))
    replace b3 := b3.gr g10
    replace gw := gw.trans g10
    have D0 := b3.cell (i := 0) rfl
    have D1 := b3.cell (i := 1) rfl
    have F0 := b3.frozen 0
    have hb2 := b3.set 0 (.slice none 0 0)
    have F1 := hb2.frozen 1
    have D2 := hb2.cell (i := 1) rfl
    have hb3 := hb2.set 1 (.slice none 0 0)
    have E0 := hb3.cell (i := 0) rfl
    have E1 := hb3.cell (i := 1) rfl
    go_wp2_with fail
    refine bodyPost_ret (v := .tuple #[.agg #[.slice none 0 0, .slice none 0 0], .int .i64 (e)]) (by simp [results, Try.results105, go_sem, E0, E1]) rfl ?_
    exact RetCE.mk HC.out (CaseO.zero _ _ _) (Nat.le_refl _) ((gw.setCell (by simp; omega) _).setCell (by simp; omega) _)

set_option maxHeartbeats 4000000 in
set_option maxRecDepth 100000 in
theorem Do_two (v u : Value) (N : NetD) (c : CaseD) (t : Nat) (w : World) (hN : NetR w v N) (hc : CaseR w u c) (e0 : caseOkB N c = true) (hj : t < N.trans.length) (h5 : (N.tr t).label ≠ 0) :
    Calls Try.prog 105 #[v, u, .agg #[.int .i64 2, .int .i64 t]] w (RetCE w (doF N c 2 t)) := by
  have hN' := hN
  obtain ⟨a, cap, rfl, hnl, hncap, hpl, hT⟩ := hN.open_
  have hpl1 := hpl.1
  have hpl2 := hpl.2
  have hc0 := hc
  obtain ⟨ma, mc, ba, bc, rfl, hml, hml', hbl, hbl', hM, hB⟩ := hc.open_
  have hO := caseOk_iff.1 e0
  have h24 := (fits_sizes hO.fits).1
  have hml16 := (fits_sizes hO.fits).2.2.2.1
  have hbl24 : c.busy.length ≤ 24 := by rw [hO.bl]; exact h24
  have F := netOk_tr hO.ok hj
  have hpl16 : (N.tr t).pre.length ≤ 16 := by have := F.pre; have := hO.ml; omega
  have hql16 : (N.tr t).post.length ≤ 16 := by have := F.post; have := hO.ml; omega
  have hbt : t < c.busy.length := by rw [hO.bl]; exact hj
  have hbr := hO.br
  obtain ⟨pb, po, vp, vq, ha, c0, c1, c2, hlab, hp, hq⟩ := hT.at_ hj
  obtain ⟨pa, pc, rfl, _, _⟩ := hp.len
  obtain ⟨qa, qc, rfl, _, _⟩ := hq.len
  have HA := Lib.hid ha
  have hlabB := Lib.hid h5
  clear hO ha F
  have q2 : ((N.tr t).label == 0) = false := by simpa using h5
  have hd := doF_ok e0 (by decide) hj (kind2' (by decide : (2 : Int) ≠ 1) h5)
  rw [doK2] at hd
  rcases hf : zipF minusf c.mark (N.tr t).pre with ⟨m, e⟩
  have HF := Lib.hid hf
  rw [hf] at hd
  rcases hg : busyL c.busy t 1 with ⟨b, f⟩
  have HG := Lib.hid hg
  rw [hg] at hd
  by_cases he : e = 0
  · subst he
    by_cases hf0 : f = 0
    · subst hf0
      have HC := Lib.hid (hd.trans (withMB_ok rfl rfl))
      clear h5 hd hf hg
      have b0 : Blk ((((w.alloc (.cells #[.int .i64 N.places, .slice a N.trans.length cap] 28)).alloc (.cells #[.slice ma c.mark.length mc, .slice ba c.busy.length bc] 63)).alloc (.cells #[.int .i64 (2), .int .i64 t] 105)).alloc (.cells #[.slice none 0 0, .slice none 0 0] 63)) w.heap.size 28 #[.int .i64 N.places, .slice a N.trans.length cap] := (Blk.new rfl).gr ((((Gr.refl _).alloc _).alloc _).alloc _)
      have b1 : Blk ((((w.alloc (.cells #[.int .i64 N.places, .slice a N.trans.length cap] 28)).alloc (.cells #[.slice ma c.mark.length mc, .slice ba c.busy.length bc] 63)).alloc (.cells #[.int .i64 (2), .int .i64 t] 105)).alloc (.cells #[.slice none 0 0, .slice none 0 0] 63)) (w.heap.size + 1) 63 #[.slice ma c.mark.length mc, .slice ba c.busy.length bc] := (Blk.new (by simp)).gr (((Gr.refl _).alloc _).alloc _)
      have b2 : Blk ((((w.alloc (.cells #[.int .i64 N.places, .slice a N.trans.length cap] 28)).alloc (.cells #[.slice ma c.mark.length mc, .slice ba c.busy.length bc] 63)).alloc (.cells #[.int .i64 (2), .int .i64 t] 105)).alloc (.cells #[.slice none 0 0, .slice none 0 0] 63)) (w.heap.size + 1 + 1) 105 #[.int .i64 (2), .int .i64 t] := (Blk.new (by simp)).gr ((Gr.refl _).alloc _)
      have b3 : Blk ((((w.alloc (.cells #[.int .i64 N.places, .slice a N.trans.length cap] 28)).alloc (.cells #[.slice ma c.mark.length mc, .slice ba c.busy.length bc] 63)).alloc (.cells #[.int .i64 (2), .int .i64 t] 105)).alloc (.cells #[.slice none 0 0, .slice none 0 0] 63)) (w.heap.size + 1 + 1 + 1) 63 #[.slice none 0 0, .slice none 0 0] := Blk.new (by simp)
      go_enter Try.func105, Try.ntmps105
      go_wp2_with fail
      refine (CaseRight_calls _ _ N c _ (hN.gr (by (repeat (first | exact Gr.refl _ | assumption | apply Gr.alloc | apply Gr.drew | apply Gr.drewN | refine Gr.trans ?_ (by assumption))))) (hc.gr (by (repeat (first | exact Gr.refl _ | assumption | apply Gr.alloc | apply Gr.drew | apply Gr.drewN | refine Gr.trans ?_ (by assumption)))))).mono ?_
      rw [e0]; rintro _ w1 ⟨rfl, g1⟩
      replace b0 := b0.gr g1
      replace b1 := b1.gr g1
      replace b2 := b2.gr g1
      replace b3 := b3.gr g1
      have gw : Gr w w1 := by (repeat (first | exact Gr.refl _ | assumption | apply Gr.alloc | apply Gr.drew | apply Gr.drewN | refine Gr.trans ?_ (by assumption)))
      clear g1
      have A0 := b0.cell (i := 0) rfl
      have A1 := b0.cell (i := 1) rfl
      have B0 := b1.cell (i := 0) rfl
      have B1 := b1.cell (i := 1) rfl
      have O0 := b2.cell (i := 0) rfl
      have O1 := b2.cell (i := 1) rfl
      have ha := HA.out
      subst ha
      clear HA
      have S0 := cell_gr c0 gw
      have S1 := cell_gr c1 gw
      have S2 := cell_gr c2 gw
      go_wp2_with fail
      go_quiet (fail)
      have gd : Gr w1 (w1.drewN nq) := (Gr.refl _).drewN _
      generalize w1.drewN nq = wd at gd ⊢
      replace b0 := b0.gr gd
      replace b1 := b1.gr gd
      replace b2 := b2.gr gd
      replace b3 := b3.gr gd
      replace gw := gw.trans gd
      replace S0 := cell_gr S0 gd
      replace S1 := cell_gr S1 gd
      replace S2 := cell_gr S2 gd
      replace A0 := cell_gr A0 gd
      replace A1 := cell_gr A1 gd
      replace B0 := cell_gr B0 gd
      replace B1 := cell_gr B1 gd
      replace O0 := cell_gr O0 gd
      replace O1 := cell_gr O1 gd
      clear gd
      go_wp2_with fail
      go_region_held3 (fun w' => w'.cell? ⟨w.heap.size + 1, 0, none⟩ = some (.slice ma c.mark.length mc) ∧ w'.cell? ⟨w.heap.size + 1, 1, none⟩ = some (.slice ba c.busy.length bc)) (first | go_keep | exact ⟨cell_gr B0 (by (repeat (first | exact Gr.refl _ | assumption | apply Gr.alloc | apply Gr.drew | apply Gr.drewN | refine Gr.trans ?_ (by assumption)))), cell_gr B1 (by (repeat (first | exact Gr.refl _ | assumption | apply Gr.alloc | apply Gr.drew | apply Gr.drewN | refine Gr.trans ?_ (by assumption))))⟩) (first | (go_at_call 44; (with_reducible refine (Clone_calls _ c.busy _ (hB.gr (by (repeat (first | exact Gr.refl _ | assumption | apply Gr.alloc | apply Gr.drew | apply Gr.drewN | refine Gr.trans ?_ (by assumption))))) (by omega)).mono ?_); rintro _ w2 ⟨v2, rfl, o2, g2⟩))
      have GT : Gr (wd.alloc (.cells #[.int .i64 (N.tr t).label, .slice pa (N.tr t).pre.length pc, .slice qa (N.tr t).post.length qc] 34)) w2 := by (repeat (first | exact Gr.refl _ | assumption | apply Gr.alloc | apply Gr.drew | apply Gr.drewN | refine Gr.trans ?_ (by assumption)))
      have G2 : Gr wd w2 := ((Gr.refl _).alloc _).trans GT
      have T1 := box_cell GT (i := 1) rfl
      have T2 := box_cell GT (i := 2) rfl
      have hbw : w.heap.size + 1 + 1 + 1 < wd.heap.size := b3.lt
      have hw0 := gw.le
      have hw2 := G2.le
      have I2 := o2.lower (show wd.heap.size ≤ _ from by simp)
      obtain ⟨va, vc, rfl, _, _⟩ := I2.ints.len
      replace b1 := b1.gr G2
      replace b3 := b3.gr G2
      replace gw := gw.trans G2
      have K0 := hN.gr gw
      have KM := hM.gr gw
      have KB := hB.gr gw
      have KP := hp.gr gw
      have KQ := hq.gr gw
      replace A0 := cell_gr A0 G2
      replace A1 := cell_gr A1 G2
      replace B0 := cell_gr B0 G2
      replace B1 := cell_gr B1 G2
      replace O0 := cell_gr O0 G2
      replace O1 := cell_gr O1 G2
      clear g2 GT o2 G2 S0 S1 S2 b0 b2
      go_wp2_with fail
      refine (Minus_own _ _ c.mark (N.tr t).pre _ KM KP (by omega) (by omega)).mono ?_
      rw [HF.out]; rintro _ w3 ⟨v3, rfl, i3, g3⟩
      obtain ⟨a3, n3, rfl, _, _⟩ := i3.ints.len
      replace b3 := b3.gr g3
      replace gw := gw.trans g3
      replace B0 := cell_gr B0 g3
      replace B1 := cell_gr B1 g3
      replace O1 := cell_gr O1 g3
      go_wp2_with fail
      refine (busy_own _ c t 1 _ (hc0.gr gw) hbt hbr hbl24 (by decide)).mono ?_
      rw [HG.out]; rintro _ w4 ⟨v4, rfl, i4, g4⟩
      obtain ⟨a4, n4, rfl, _, _⟩ := i4.ints.len
      replace b3 := b3.gr g4
      replace gw := gw.trans g4
      have HI := Lib.hid (CaseO.mk_ (e := 3) (base := wd.heap.size) (c := ⟨m, b⟩) ((i3.lower hw2).gr g4) (i4.lower (Nat.le_trans hw2 g3.le)))
      have D0 := b3.cell (i := 0) rfl
      have D1 := b3.cell (i := 1) rfl
      have F0 := b3.frozen 0
      have hb2 := b3.set 0 (.slice a3 m.length n3)
      have F1 := hb2.frozen 1
      have D2 := hb2.cell (i := 1) rfl
      have hb3 := hb2.set 1 (.slice a4 b.length n4)
      have E0 := hb3.cell (i := 0) rfl
      have E1 := hb3.cell (i := 1) rfl
      go_wp2_with fail
      refine bodyPost_ret (v := .tuple #[.agg #[.slice a3 m.length n3, .slice a4 b.length n4], .int .i64 0]) (by simp [results, Try.results105, go_sem, E0, E1]) rfl ?_
      exact RetCE.mk HC.out ((HI.out.set (by simp; omega) _).set (by simp; omega) _) hw0 ((gw.setCell (by simp; omega) _).setCell (by simp; omega) _)
    · have q1 : (f != 0) = true := by simpa using hf0
      have HC := Lib.hid (hd.trans (withMB_b rfl hf0))
      clear h5 hd hf hg hf0
      have b0 : Blk ((((w.alloc (.cells #[.int .i64 N.places, .slice a N.trans.length cap] 28)).alloc (.cells #[.slice ma c.mark.length mc, .slice ba c.busy.length bc] 63)).alloc (.cells #[.int .i64 (2), .int .i64 t] 105)).alloc (.cells #[.slice none 0 0, .slice none 0 0] 63)) w.heap.size 28 #[.int .i64 N.places, .slice a N.trans.length cap] := (Blk.new rfl).gr ((((Gr.refl _).alloc _).alloc _).alloc _)
      have b1 : Blk ((((w.alloc (.cells #[.int .i64 N.places, .slice a N.trans.length cap] 28)).alloc (.cells #[.slice ma c.mark.length mc, .slice ba c.busy.length bc] 63)).alloc (.cells #[.int .i64 (2), .int .i64 t] 105)).alloc (.cells #[.slice none 0 0, .slice none 0 0] 63)) (w.heap.size + 1) 63 #[.slice ma c.mark.length mc, .slice ba c.busy.length bc] := (Blk.new (by simp)).gr (((Gr.refl _).alloc _).alloc _)
      have b2 : Blk ((((w.alloc (.cells #[.int .i64 N.places, .slice a N.trans.length cap] 28)).alloc (.cells #[.slice ma c.mark.length mc, .slice ba c.busy.length bc] 63)).alloc (.cells #[.int .i64 (2), .int .i64 t] 105)).alloc (.cells #[.slice none 0 0, .slice none 0 0] 63)) (w.heap.size + 1 + 1) 105 #[.int .i64 (2), .int .i64 t] := (Blk.new (by simp)).gr ((Gr.refl _).alloc _)
      have b3 : Blk ((((w.alloc (.cells #[.int .i64 N.places, .slice a N.trans.length cap] 28)).alloc (.cells #[.slice ma c.mark.length mc, .slice ba c.busy.length bc] 63)).alloc (.cells #[.int .i64 (2), .int .i64 t] 105)).alloc (.cells #[.slice none 0 0, .slice none 0 0] 63)) (w.heap.size + 1 + 1 + 1) 63 #[.slice none 0 0, .slice none 0 0] := Blk.new (by simp)
      go_enter Try.func105, Try.ntmps105
      go_wp2_with fail
      refine (CaseRight_calls _ _ N c _ (hN.gr (by (repeat (first | exact Gr.refl _ | assumption | apply Gr.alloc | apply Gr.drew | apply Gr.drewN | refine Gr.trans ?_ (by assumption))))) (hc.gr (by (repeat (first | exact Gr.refl _ | assumption | apply Gr.alloc | apply Gr.drew | apply Gr.drewN | refine Gr.trans ?_ (by assumption)))))).mono ?_
      rw [e0]; rintro _ w1 ⟨rfl, g1⟩
      replace b0 := b0.gr g1
      replace b1 := b1.gr g1
      replace b2 := b2.gr g1
      replace b3 := b3.gr g1
      have gw : Gr w w1 := by (repeat (first | exact Gr.refl _ | assumption | apply Gr.alloc | apply Gr.drew | apply Gr.drewN | refine Gr.trans ?_ (by assumption)))
      clear g1
      have A0 := b0.cell (i := 0) rfl
      have A1 := b0.cell (i := 1) rfl
      have B0 := b1.cell (i := 0) rfl
      have B1 := b1.cell (i := 1) rfl
      have O0 := b2.cell (i := 0) rfl
      have O1 := b2.cell (i := 1) rfl
      have ha := HA.out
      subst ha
      clear HA
      have S0 := cell_gr c0 gw
      have S1 := cell_gr c1 gw
      have S2 := cell_gr c2 gw
      go_wp2_with fail
      go_quiet (fail)
      have gd : Gr w1 (w1.drewN nq) := (Gr.refl _).drewN _
      generalize w1.drewN nq = wd at gd ⊢
      replace b0 := b0.gr gd
      replace b1 := b1.gr gd
      replace b2 := b2.gr gd
      replace b3 := b3.gr gd
      replace gw := gw.trans gd
      replace S0 := cell_gr S0 gd
      replace S1 := cell_gr S1 gd
      replace S2 := cell_gr S2 gd
      replace A0 := cell_gr A0 gd
      replace A1 := cell_gr A1 gd
      replace B0 := cell_gr B0 gd
      replace B1 := cell_gr B1 gd
      replace O0 := cell_gr O0 gd
      replace O1 := cell_gr O1 gd
      clear gd
      go_wp2_with fail
      go_region_held3 (fun w' => w'.cell? ⟨w.heap.size + 1, 0, none⟩ = some (.slice ma c.mark.length mc) ∧ w'.cell? ⟨w.heap.size + 1, 1, none⟩ = some (.slice ba c.busy.length bc)) (first | go_keep | exact ⟨cell_gr B0 (by (repeat (first | exact Gr.refl _ | assumption | apply Gr.alloc | apply Gr.drew | apply Gr.drewN | refine Gr.trans ?_ (by assumption)))), cell_gr B1 (by (repeat (first | exact Gr.refl _ | assumption | apply Gr.alloc | apply Gr.drew | apply Gr.drewN | refine Gr.trans ?_ (by assumption))))⟩) (first | (go_at_call 44; (with_reducible refine (Clone_calls _ c.busy _ (hB.gr (by (repeat (first | exact Gr.refl _ | assumption | apply Gr.alloc | apply Gr.drew | apply Gr.drewN | refine Gr.trans ?_ (by assumption))))) (by omega)).mono ?_); rintro _ w2 ⟨v2, rfl, o2, g2⟩))
      have GT : Gr (wd.alloc (.cells #[.int .i64 (N.tr t).label, .slice pa (N.tr t).pre.length pc, .slice qa (N.tr t).post.length qc] 34)) w2 := by (repeat (first | exact Gr.refl _ | assumption | apply Gr.alloc | apply Gr.drew | apply Gr.drewN | refine Gr.trans ?_ (by assumption)))
      have G2 : Gr wd w2 := ((Gr.refl _).alloc _).trans GT
      have T1 := box_cell GT (i := 1) rfl
      have T2 := box_cell GT (i := 2) rfl
      have hbw : w.heap.size + 1 + 1 + 1 < wd.heap.size := b3.lt
      have hw0 := gw.le
      have hw2 := G2.le
      have I2 := o2.lower (show wd.heap.size ≤ _ from by simp)
      obtain ⟨va, vc, rfl, _, _⟩ := I2.ints.len
      replace b1 := b1.gr G2
      replace b3 := b3.gr G2
      replace gw := gw.trans G2
      have K0 := hN.gr gw
      have KM := hM.gr gw
      have KB := hB.gr gw
      have KP := hp.gr gw
      have KQ := hq.gr gw
      replace A0 := cell_gr A0 G2
      replace A1 := cell_gr A1 G2
      replace B0 := cell_gr B0 G2
      replace B1 := cell_gr B1 G2
      replace O0 := cell_gr O0 G2
      replace O1 := cell_gr O1 G2
      clear g2 GT o2 G2 S0 S1 S2 b0 b2
      go_wp2_with fail
      refine (Minus_own _ _ c.mark (N.tr t).pre _ KM KP (by omega) (by omega)).mono ?_
      rw [HF.out]; rintro _ w3 ⟨v3, rfl, i3, g3⟩
      replace b3 := b3.gr g3
      replace gw := gw.trans g3
      replace B0 := cell_gr B0 g3
      replace B1 := cell_gr B1 g3
      replace O1 := cell_gr O1 g3
      go_wp2_with fail
      refine (busy_own _ c t 1 _ (hc0.gr gw) hbt hbr hbl24 (by decide)).mono ?_
      rw [HG.out]; rintro _ w4 ⟨v4, rfl, i4, g4⟩
      replace b3 := b3.gr g4
      replace gw := gw.trans g4
      go_wp2_with fail
      refine (Do1_calls _ _).mono ?_
      rintro _ w9 ⟨rfl, g9⟩
      have g10 : Gr w4 w9 := by (repeat (first | exact Gr.refl _ | assumption | apply Gr.alloc | apply Gr.drew | apply Gr.drewN | refine Gr.trans ?_ (by assumption)))
      replace b3 := b3.gr g10
      replace gw := gw.trans g10
      have D0 := b3.cell (i := 0) rfl
      have D1 := b3.cell (i := 1) rfl
      have F0 := b3.frozen 0
      have hb2 := b3.set 0 (.slice none 0 0)
      have F1 := hb2.frozen 1
      have D2 := hb2.cell (i := 1) rfl
      have hb3 := hb2.set 1 (.slice none 0 0)
      have E0 := hb3.cell (i := 0) rfl
      have E1 := hb3.cell (i := 1) rfl
      go_wp2_with fail
      refine bodyPost_ret (v := .tuple #[.agg #[.slice none 0 0, .slice none 0 0], .int .i64 (f)]) (by simp [results, Try.results105, go_sem, E0, E1]) rfl ?_
      exact RetCE.mk HC.out (CaseO.zero _ _ _) (Nat.le_refl _) ((gw.setCell (by simp; omega) _).setCell (by simp; omega) _)
  · have q1 : (e != 0) = true := by simpa using he
    have q3 : (e == 0) = false := by simpa using he
    have HC := Lib.hid (hd.trans (withMB_m he))
    clear h5 hd hf hg he
    have b0 : Blk ((((w.alloc (.cells #[.int .i64 N.places, .slice a N.trans.length cap] 28)).alloc (.cells #[.slice ma c.mark.length mc, .slice ba c.busy.length bc] 63)).alloc (.cells #[.int .i64 (2), .int .i64 t] 105)).alloc (.cells #[.slice none 0 0, .slice none 0 0] 63)) w.heap.size 28 #[.int .i64 N.places, .slice a N.trans.length cap] := (Blk.new rfl).gr ((((Gr.refl _).alloc _).alloc _).alloc _)
    have b1 : Blk ((((w.alloc (.cells #[.int .i64 N.places, .slice a N.trans.length cap] 28)).alloc (.cells #[.slice ma c.mark.length mc, .slice ba c.busy.length bc] 63)).alloc (.cells #[.int .i64 (2), .int .i64 t] 105)).alloc (.cells #[.slice none 0 0, .slice none 0 0] 63)) (w.heap.size + 1) 63 #[.slice ma c.mark.length mc, .slice ba c.busy.length bc] := (Blk.new (by simp)).gr (((Gr.refl _).alloc _).alloc _)
    have b2 : Blk ((((w.alloc (.cells #[.int .i64 N.places, .slice a N.trans.length cap] 28)).alloc (.cells #[.slice ma c.mark.length mc, .slice ba c.busy.length bc] 63)).alloc (.cells #[.int .i64 (2), .int .i64 t] 105)).alloc (.cells #[.slice none 0 0, .slice none 0 0] 63)) (w.heap.size + 1 + 1) 105 #[.int .i64 (2), .int .i64 t] := (Blk.new (by simp)).gr ((Gr.refl _).alloc _)
    have b3 : Blk ((((w.alloc (.cells #[.int .i64 N.places, .slice a N.trans.length cap] 28)).alloc (.cells #[.slice ma c.mark.length mc, .slice ba c.busy.length bc] 63)).alloc (.cells #[.int .i64 (2), .int .i64 t] 105)).alloc (.cells #[.slice none 0 0, .slice none 0 0] 63)) (w.heap.size + 1 + 1 + 1) 63 #[.slice none 0 0, .slice none 0 0] := Blk.new (by simp)
    go_enter Try.func105, Try.ntmps105
    go_wp2_with fail
    refine (CaseRight_calls _ _ N c _ (hN.gr (by (repeat (first | exact Gr.refl _ | assumption | apply Gr.alloc | apply Gr.drew | apply Gr.drewN | refine Gr.trans ?_ (by assumption))))) (hc.gr (by (repeat (first | exact Gr.refl _ | assumption | apply Gr.alloc | apply Gr.drew | apply Gr.drewN | refine Gr.trans ?_ (by assumption)))))).mono ?_
    rw [e0]; rintro _ w1 ⟨rfl, g1⟩
    replace b0 := b0.gr g1
    replace b1 := b1.gr g1
    replace b2 := b2.gr g1
    replace b3 := b3.gr g1
    have gw : Gr w w1 := by (repeat (first | exact Gr.refl _ | assumption | apply Gr.alloc | apply Gr.drew | apply Gr.drewN | refine Gr.trans ?_ (by assumption)))
    clear g1
    have A0 := b0.cell (i := 0) rfl
    have A1 := b0.cell (i := 1) rfl
    have B0 := b1.cell (i := 0) rfl
    have B1 := b1.cell (i := 1) rfl
    have O0 := b2.cell (i := 0) rfl
    have O1 := b2.cell (i := 1) rfl
    have ha := HA.out
    subst ha
    clear HA
    have S0 := cell_gr c0 gw
    have S1 := cell_gr c1 gw
    have S2 := cell_gr c2 gw
    go_wp2_with fail
    go_quiet (fail)
    have gd : Gr w1 (w1.drewN nq) := (Gr.refl _).drewN _
    generalize w1.drewN nq = wd at gd ⊢
    replace b0 := b0.gr gd
    replace b1 := b1.gr gd
    replace b2 := b2.gr gd
    replace b3 := b3.gr gd
    replace gw := gw.trans gd
    replace S0 := cell_gr S0 gd
    replace S1 := cell_gr S1 gd
    replace S2 := cell_gr S2 gd
    replace A0 := cell_gr A0 gd
    replace A1 := cell_gr A1 gd
    replace B0 := cell_gr B0 gd
    replace B1 := cell_gr B1 gd
    replace O0 := cell_gr O0 gd
    replace O1 := cell_gr O1 gd
    clear gd
    go_wp2_with fail
    go_region_held3 (fun w' => w'.cell? ⟨w.heap.size + 1, 0, none⟩ = some (.slice ma c.mark.length mc) ∧ w'.cell? ⟨w.heap.size + 1, 1, none⟩ = some (.slice ba c.busy.length bc)) (first | go_keep | exact ⟨cell_gr B0 (by (repeat (first | exact Gr.refl _ | assumption | apply Gr.alloc | apply Gr.drew | apply Gr.drewN | refine Gr.trans ?_ (by assumption)))), cell_gr B1 (by (repeat (first | exact Gr.refl _ | assumption | apply Gr.alloc | apply Gr.drew | apply Gr.drewN | refine Gr.trans ?_ (by assumption))))⟩) (first | (go_at_call 44; (with_reducible refine (Clone_calls _ c.busy _ (hB.gr (by (repeat (first | exact Gr.refl _ | assumption | apply Gr.alloc | apply Gr.drew | apply Gr.drewN | refine Gr.trans ?_ (by assumption))))) (by omega)).mono ?_); rintro _ w2 ⟨v2, rfl, o2, g2⟩))
    have GT : Gr (wd.alloc (.cells #[.int .i64 (N.tr t).label, .slice pa (N.tr t).pre.length pc, .slice qa (N.tr t).post.length qc] 34)) w2 := by (repeat (first | exact Gr.refl _ | assumption | apply Gr.alloc | apply Gr.drew | apply Gr.drewN | refine Gr.trans ?_ (by assumption)))
    have G2 : Gr wd w2 := ((Gr.refl _).alloc _).trans GT
    have T1 := box_cell GT (i := 1) rfl
    have T2 := box_cell GT (i := 2) rfl
    have hbw : w.heap.size + 1 + 1 + 1 < wd.heap.size := b3.lt
    have hw0 := gw.le
    have hw2 := G2.le
    have I2 := o2.lower (show wd.heap.size ≤ _ from by simp)
    obtain ⟨va, vc, rfl, _, _⟩ := I2.ints.len
    replace b1 := b1.gr G2
    replace b3 := b3.gr G2
    replace gw := gw.trans G2
    have K0 := hN.gr gw
    have KM := hM.gr gw
    have KB := hB.gr gw
    have KP := hp.gr gw
    have KQ := hq.gr gw
    replace A0 := cell_gr A0 G2
    replace A1 := cell_gr A1 G2
    replace B0 := cell_gr B0 G2
    replace B1 := cell_gr B1 G2
    replace O0 := cell_gr O0 G2
    replace O1 := cell_gr O1 G2
    clear g2 GT o2 G2 S0 S1 S2 b0 b2
    go_wp2_with fail
    refine (Minus_own _ _ c.mark (N.tr t).pre _ KM KP (by omega) (by omega)).mono ?_
    rw [HF.out]; rintro _ w3 ⟨v3, rfl, i3, g3⟩
    replace b3 := b3.gr g3
    replace gw := gw.trans g3
    go_wp2_with fail
    refine (Do1_calls _ _).mono ?_
    rintro _ w9 ⟨rfl, g9⟩
    have g10 : Gr w3 w9 := by (repeat (first | exact Gr.refl _ | assumption | apply Gr.alloc | apply Gr.drew | apply Gr.drewN | refine Gr.trans ?_ (by assumption)))
    replace b3 := b3.gr g10
    replace gw := gw.trans g10
    have D0 := b3.cell (i := 0) rfl
    have D1 := b3.cell (i := 1) rfl
    have F0 := b3.frozen 0
    have hb2 := b3.set 0 (.slice none 0 0)
    have F1 := hb2.frozen 1
    have D2 := hb2.cell (i := 1) rfl
    have hb3 := hb2.set 1 (.slice none 0 0)
    have E0 := hb3.cell (i := 0) rfl
    have E1 := hb3.cell (i := 1) rfl
    go_wp2_with fail
    refine bodyPost_ret (v := .tuple #[.agg #[.slice none 0 0, .slice none 0 0], .int .i64 (e)]) (by simp [results, Try.results105, go_sem, E0, E1]) rfl ?_
    exact RetCE.mk HC.out (CaseO.zero _ _ _) (Nat.le_refl _) ((gw.setCell (by simp; omega) _).setCell (by simp; omega) _)
end Go.Proofs.Ytidpppfimkhgkaa
