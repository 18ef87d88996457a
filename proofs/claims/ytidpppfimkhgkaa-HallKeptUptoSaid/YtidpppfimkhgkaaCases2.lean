/- Contract of cases.Do. -/
import Derived.Test.YtidpppfimkhgkaaCases
import Derived.Test.YtidpppfimkhgkaaGN
namespace Go.Proofs.Ytidpppfimkhgkaa
open Go.RowKit Go.Tok
set_option linter.unusedVariables false

def RetCE (w : World) (r : CaseD × Int) (e : Ending) (w' : World) : Prop := ∃ v, e = .returned (.tuple #[v, .int .i64 r.2]) ∧ CaseO 3 w.heap.size w' v r.1 ∧ Gr w w'
theorem RetCE.mk {w w' : World} {v : Value} {x : Int} {r : CaseD × Int} {c : CaseD} {base : Nat} (hr : r = (c, x)) (hv : CaseO 3 base w' v c) (hbase : w.heap.size ≤ base) (hb : Gr w w') : RetCE w r (.returned (.tuple #[v, .int .i64 x])) w' := by subst hr; exact ⟨v, rfl, hv.lower hbase, hb⟩

set_option maxRecDepth 100000 in
theorem Do1_calls (x : Int) (w : World) : Calls Try.prog 139 #[.int .i64 x] w fun e w' => e = .returned (.tuple #[.agg #[.slice none 0 0, .slice none 0 0], .int .i64 x]) ∧ Gr w w' := by
  have b1 : Blk (w.alloc (.cells #[.slice none 0 0, .slice none 0 0] 63)) w.heap.size 63 #[.slice none 0 0, .slice none 0 0] := Blk.new rfl
  have D0 := b1.cell (i := 0) rfl
  have D1 := b1.cell (i := 1) rfl
  have gw : Gr w (w.alloc (.cells #[.slice none 0 0, .slice none 0 0] 63)) := (Gr.refl w).alloc _
  go_enter Try.func139, Try.ntmps139
  go_wp2_with fail
  refine bodyPost_ret (v := .tuple #[.agg #[.slice none 0 0, .slice none 0 0], .int .i64 x]) (by simp [results, Try.results139, go_sem, D0, D1]) rfl ?_
  exact ⟨rfl, gw⟩


set_option maxHeartbeats 4000000 in
set_option maxRecDepth 100000 in
theorem Do_form (v u : Value) (N : NetD) (c : CaseD) (k : Int) (t : Nat) (w : World) (hN : NetR w v N) (hc : CaseR w u c) (hk : I64 k) (e0 : caseOkB N c = true) (hk2 : 1 ≤ k ∧ k ≤ 4) (hj : t < N.trans.length) (h5 : (decide (k = 1) != decide ((N.tr t).label = 0)) = true) :
    Calls Try.prog 105 #[v, u, .agg #[.int .i64 k, .int .i64 t]] w (RetCE w (doF N c k t)) := by
  have hN' := hN
  obtain ⟨a, cap, rfl, hnl, hncap, hpl, hT⟩ := hN.open_
  have hpl1 := hpl.1
  have hpl2 := hpl.2
  have hc0 := hc
  obtain ⟨ma, mc, ba, bc, rfl, hml, hml', hbl, hbl', hM, hB⟩ := hc.open_
  have hO := caseOk_iff.1 e0
  have HC := Lib.hid (doF_form e0 hk2 hj h5)
  have k1 := hk2.1
  have k2 := hk2.2
  have h24 := (fits_sizes hO.fits).1
  obtain ⟨pb, po, vp, vq, ha, c0, c1, c2, hlab, hp, hq⟩ := hT.at_ hj
  obtain ⟨pa, pc, rfl, _, _⟩ := hp.len
  obtain ⟨qa, qc, rfl, _, _⟩ := hq.len
  have HA := Lib.hid ha
  by_cases hk1 : k = 1
  · have q1 : (k == 1) = true := by simp [hk1]
    have q2 : ((N.tr t).label == 0) = false := by
      rw [decide_eq_true hk1] at h5
      simpa using h5
    clear hO h5 hk2 ha hk1
    have b0 : Blk ((((w.alloc (.cells #[.int .i64 N.places, .slice a N.trans.length cap] 28)).alloc (.cells #[.slice ma c.mark.length mc, .slice ba c.busy.length bc] 63)).alloc (.cells #[.int .i64 (k), .int .i64 t] 105)).alloc (.cells #[.slice none 0 0, .slice none 0 0] 63)) w.heap.size 28 #[.int .i64 N.places, .slice a N.trans.length cap] := (Blk.new rfl).gr ((((Gr.refl _).alloc _).alloc _).alloc _)
    have b1 : Blk ((((w.alloc (.cells #[.int .i64 N.places, .slice a N.trans.length cap] 28)).alloc (.cells #[.slice ma c.mark.length mc, .slice ba c.busy.length bc] 63)).alloc (.cells #[.int .i64 (k), .int .i64 t] 105)).alloc (.cells #[.slice none 0 0, .slice none 0 0] 63)) (w.heap.size + 1) 63 #[.slice ma c.mark.length mc, .slice ba c.busy.length bc] := (Blk.new (by simp)).gr (((Gr.refl _).alloc _).alloc _)
    have b2 : Blk ((((w.alloc (.cells #[.int .i64 N.places, .slice a N.trans.length cap] 28)).alloc (.cells #[.slice ma c.mark.length mc, .slice ba c.busy.length bc] 63)).alloc (.cells #[.int .i64 (k), .int .i64 t] 105)).alloc (.cells #[.slice none 0 0, .slice none 0 0] 63)) (w.heap.size + 1 + 1) 105 #[.int .i64 (k), .int .i64 t] := (Blk.new (by simp)).gr ((Gr.refl _).alloc _)
    have b3 : Blk ((((w.alloc (.cells #[.int .i64 N.places, .slice a N.trans.length cap] 28)).alloc (.cells #[.slice ma c.mark.length mc, .slice ba c.busy.length bc] 63)).alloc (.cells #[.int .i64 (k), .int .i64 t] 105)).alloc (.cells #[.slice none 0 0, .slice none 0 0] 63)) (w.heap.size + 1 + 1 + 1) 63 #[.slice none 0 0, .slice none 0 0] := Blk.new (by simp)
    go_enter Try.func105, Try.ntmps105
    go_wp2_with fail
    refine (CaseRight_calls _ _ N c _ (hN.gr (by (repeat (first | exact Gr.refl _ | assumption | apply Gr.alloc | apply Gr.drew | apply Gr.drewN | refine Gr.trans ?_ (by assumption))))) (hc.gr (by (repeat (first | exact Gr.refl _ | assumption | apply Gr.alloc | apply Gr.drew | apply Gr.drewN | refine Gr.trans ?_ (by assumption)))))).mono ?_
    rw [e0]; rintro _ w1 ⟨rfl, g1⟩
    replace b0 := b0.gr g1
    replace b1 := b1.gr g1
    replace b2 := b2.gr g1
    replace b3 := b3.gr g1
    have gw : Gr w w1 := by (repeat (first | exact Gr.refl _ | assumption | apply Gr.alloc | apply Gr.drew | apply Gr.drewN | refine Gr.trans ?_ (by assumption)))
    clear g1
    have A0 := b0.cell (i := 0) rfl
    have A1 := b0.cell (i := 1) rfl
    have B0 := b1.cell (i := 0) rfl
    have B1 := b1.cell (i := 1) rfl
    have O0 := b2.cell (i := 0) rfl
    have O1 := b2.cell (i := 1) rfl
    have ha := HA.out
    subst ha
    clear HA
    have S0 := cell_gr c0 gw
    go_wp2_with fail
    go_quiet (fail)
    go_wp2_with fail
    refine (Do1_calls _ _).mono ?_
    rintro _ w9 ⟨rfl, g9⟩
    have g10 : Gr w1 w9 := by (repeat (first | exact Gr.refl _ | assumption | apply Gr.alloc | apply Gr.drew | apply Gr.drewN | refine Gr.trans ?_ (by assumption)))
    replace b3 := b3.gr g10
    replace gw := gw.trans g10
    have D0 := b3.cell (i := 0) rfl
    have D1 := b3.cell (i := 1) rfl
    have F0 := b3.frozen 0
    have hb2 := b3.set 0 (.slice none 0 0)
    have F1 := hb2.frozen 1
    have D2 := hb2.cell (i := 1) rfl
    have hb3 := hb2.set 1 (.slice none 0 0)
    have E0 := hb3.cell (i := 0) rfl
    have E1 := hb3.cell (i := 1) rfl
    go_wp2_with fail
    refine bodyPost_ret (v := .tuple #[.agg #[.slice none 0 0, .slice none 0 0], .int .i64 (1)]) (by simp [results, Try.results105, go_sem, E0, E1]) rfl ?_
    exact RetCE.mk HC.out (CaseO.zero _ _ _) (Nat.le_refl _) ((gw.setCell (by simp; omega) _).setCell (by simp; omega) _)
  · have q1 : (k == 1) = false := by simp [hk1]
    have q2 : ((N.tr t).label == 0) = true := by
      rw [decide_eq_false hk1] at h5
      simpa using h5
    clear hO h5 hk2 ha hk1
    have b0 : Blk ((((w.alloc (.cells #[.int .i64 N.places, .slice a N.trans.length cap] 28)).alloc (.cells #[.slice ma c.mark.length mc, .slice ba c.busy.length bc] 63)).alloc (.cells #[.int .i64 (k), .int .i64 t] 105)).alloc (.cells #[.slice none 0 0, .slice none 0 0] 63)) w.heap.size 28 #[.int .i64 N.places, .slice a N.trans.length cap] := (Blk.new rfl).gr ((((Gr.refl _).alloc _).alloc _).alloc _)
    have b1 : Blk ((((w.alloc (.cells #[.int .i64 N.places, .slice a N.trans.length cap] 28)).alloc (.cells #[.slice ma c.mark.length mc, .slice ba c.busy.length bc] 63)).alloc (.cells #[.int .i64 (k), .int .i64 t] 105)).alloc (.cells #[.slice none 0 0, .slice none 0 0] 63)) (w.heap.size + 1) 63 #[.slice ma c.mark.length mc, .slice ba c.busy.length bc] := (Blk.new (by simp)).gr (((Gr.refl _).alloc _).alloc _)
    have b2 : Blk ((((w.alloc (.cells #[.int .i64 N.places, .slice a N.trans.length cap] 28)).alloc (.cells #[.slice ma c.mark.length mc, .slice ba c.busy.length bc] 63)).alloc (.cells #[.int .i64 (k), .int .i64 t] 105)).alloc (.cells #[.slice none 0 0, .slice none 0 0] 63)) (w.heap.size + 1 + 1) 105 #[.int .i64 (k), .int .i64 t] := (Blk.new (by simp)).gr ((Gr.refl _).alloc _)
    have b3 : Blk ((((w.alloc (.cells #[.int .i64 N.places, .slice a N.trans.length cap] 28)).alloc (.cells #[.slice ma c.mark.length mc, .slice ba c.busy.length bc] 63)).alloc (.cells #[.int .i64 (k), .int .i64 t] 105)).alloc (.cells #[.slice none 0 0, .slice none 0 0] 63)) (w.heap.size + 1 + 1 + 1) 63 #[.slice none 0 0, .slice none 0 0] := Blk.new (by simp)
    go_enter Try.func105, Try.ntmps105
    go_wp2_with fail
    refine (CaseRight_calls _ _ N c _ (hN.gr (by (repeat (first | exact Gr.refl _ | assumption | apply Gr.alloc | apply Gr.drew | apply Gr.drewN | refine Gr.trans ?_ (by assumption))))) (hc.gr (by (repeat (first | exact Gr.refl _ | assumption | apply Gr.alloc | apply Gr.drew | apply Gr.drewN | refine Gr.trans ?_ (by assumption)))))).mono ?_
    rw [e0]; rintro _ w1 ⟨rfl, g1⟩
    replace b0 := b0.gr g1
    replace b1 := b1.gr g1
    replace b2 := b2.gr g1
    replace b3 := b3.gr g1
    have gw : Gr w w1 := by (repeat (first | exact Gr.refl _ | assumption | apply Gr.alloc | apply Gr.drew | apply Gr.drewN | refine Gr.trans ?_ (by assumption)))
    clear g1
    have A0 := b0.cell (i := 0) rfl
    have A1 := b0.cell (i := 1) rfl
    have B0 := b1.cell (i := 0) rfl
    have B1 := b1.cell (i := 1) rfl
    have O0 := b2.cell (i := 0) rfl
    have O1 := b2.cell (i := 1) rfl
    have ha := HA.out
    subst ha
    clear HA
    have S0 := cell_gr c0 gw
    go_wp2_with fail
    go_quiet (fail)
    go_wp2_with fail
    refine (Do1_calls _ _).mono ?_
    rintro _ w9 ⟨rfl, g9⟩
    have g10 : Gr w1 w9 := by (repeat (first | exact Gr.refl _ | assumption | apply Gr.alloc | apply Gr.drew | apply Gr.drewN | refine Gr.trans ?_ (by assumption)))
    replace b3 := b3.gr g10
    replace gw := gw.trans g10
    have D0 := b3.cell (i := 0) rfl
    have D1 := b3.cell (i := 1) rfl
    have F0 := b3.frozen 0
    have hb2 := b3.set 0 (.slice none 0 0)
    have F1 := hb2.frozen 1
    have D2 := hb2.cell (i := 1) rfl
    have hb3 := hb2.set 1 (.slice none 0 0)
    have E0 := hb3.cell (i := 0) rfl
    have E1 := hb3.cell (i := 1) rfl
    go_wp2_with fail
    refine bodyPost_ret (v := .tuple #[.agg #[.slice none 0 0, .slice none 0 0], .int .i64 (1)]) (by simp [results, Try.results105, go_sem, E0, E1]) rfl ?_
    exact RetCE.mk HC.out (CaseO.zero _ _ _) (Nat.le_refl _) ((gw.setCell (by simp; omega) _).setCell (by simp; omega) _)

set_option maxHeartbeats 4000000 in
set_option maxRecDepth 100000 in
theorem Do_bad (v u : Value) (N : NetD) (c : CaseD) (k t : Int) (w : World) (hN : NetR w v N) (hc : CaseR w u c) (hk : I64 k) (ht : I64 t) (hz : ¬ (CaseOk N c ∧ (1 ≤ k ∧ k ≤ 4) ∧ ∃ j : Nat, t = j ∧ j < N.trans.length ∧ (decide (k = 1) != decide ((N.tr j).label = 0)) = false)) :
    Calls Try.prog 105 #[v, u, .agg #[.int .i64 k, .int .i64 t]] w (RetCE w (doF N c k t)) := by
  have hN' := hN
  obtain ⟨a, cap, rfl, hnl, hncap, hpl, hT⟩ := hN.open_
  have hpl1 := hpl.1
  have hpl2 := hpl.2
  have hc0 := hc
  obtain ⟨ma, mc, ba, bc, rfl, hml, hml', hbl, hbl', hM, hB⟩ := hc.open_
  cases e0 : caseOkB N c
  · have HC := Lib.hid (doF_wrong (k := k) (t := t) e0)
    clear hz
    have b0 : Blk ((((w.alloc (.cells #[.int .i64 N.places, .slice a N.trans.length cap] 28)).alloc (.cells #[.slice ma c.mark.length mc, .slice ba c.busy.length bc] 63)).alloc (.cells #[.int .i64 (k), .int .i64 t] 105)).alloc (.cells #[.slice none 0 0, .slice none 0 0] 63)) w.heap.size 28 #[.int .i64 N.places, .slice a N.trans.length cap] := (Blk.new rfl).gr ((((Gr.refl _).alloc _).alloc _).alloc _)
    have b1 : Blk ((((w.alloc (.cells #[.int .i64 N.places, .slice a N.trans.length cap] 28)).alloc (.cells #[.slice ma c.mark.length mc, .slice ba c.busy.length bc] 63)).alloc (.cells #[.int .i64 (k), .int .i64 t] 105)).alloc (.cells #[.slice none 0 0, .slice none 0 0] 63)) (w.heap.size + 1) 63 #[.slice ma c.mark.length mc, .slice ba c.busy.length bc] := (Blk.new (by simp)).gr (((Gr.refl _).alloc _).alloc _)
    have b2 : Blk ((((w.alloc (.cells #[.int .i64 N.places, .slice a N.trans.length cap] 28)).alloc (.cells #[.slice ma c.mark.length mc, .slice ba c.busy.length bc] 63)).alloc (.cells #[.int .i64 (k), .int .i64 t] 105)).alloc (.cells #[.slice none 0 0, .slice none 0 0] 63)) (w.heap.size + 1 + 1) 105 #[.int .i64 (k), .int .i64 t] := (Blk.new (by simp)).gr ((Gr.refl _).alloc _)
    have b3 : Blk ((((w.alloc (.cells #[.int .i64 N.places, .slice a N.trans.length cap] 28)).alloc (.cells #[.slice ma c.mark.length mc, .slice ba c.busy.length bc] 63)).alloc (.cells #[.int .i64 (k), .int .i64 t] 105)).alloc (.cells #[.slice none 0 0, .slice none 0 0] 63)) (w.heap.size + 1 + 1 + 1) 63 #[.slice none 0 0, .slice none 0 0] := Blk.new (by simp)
    go_enter Try.func105, Try.ntmps105
    go_wp2_with fail
    refine (CaseRight_calls _ _ N c _ (hN.gr (by (repeat (first | exact Gr.refl _ | assumption | apply Gr.alloc | apply Gr.drew | apply Gr.drewN | refine Gr.trans ?_ (by assumption))))) (hc.gr (by (repeat (first | exact Gr.refl _ | assumption | apply Gr.alloc | apply Gr.drew | apply Gr.drewN | refine Gr.trans ?_ (by assumption)))))).mono ?_
    rw [e0]; rintro _ w1 ⟨rfl, g1⟩
    replace b0 := b0.gr g1
    replace b1 := b1.gr g1
    replace b2 := b2.gr g1
    replace b3 := b3.gr g1
    have gw : Gr w w1 := by (repeat (first | exact Gr.refl _ | assumption | apply Gr.alloc | apply Gr.drew | apply Gr.drewN | refine Gr.trans ?_ (by assumption)))
    clear g1
    have A0 := b0.cell (i := 0) rfl
    have A1 := b0.cell (i := 1) rfl
    have B0 := b1.cell (i := 0) rfl
    have B1 := b1.cell (i := 1) rfl
    have O0 := b2.cell (i := 0) rfl
    have O1 := b2.cell (i := 1) rfl
    go_wp2_with fail
    refine (Do1_calls _ _).mono ?_
    rintro _ w9 ⟨rfl, g9⟩
    have g10 : Gr w1 w9 := by (repeat (first | exact Gr.refl _ | assumption | apply Gr.alloc | apply Gr.drew | apply Gr.drewN | refine Gr.trans ?_ (by assumption)))
    replace b3 := b3.gr g10
    replace gw := gw.trans g10
    have D0 := b3.cell (i := 0) rfl
    have D1 := b3.cell (i := 1) rfl
    have F0 := b3.frozen 0
    have hb2 := b3.set 0 (.slice none 0 0)
    have F1 := hb2.frozen 1
    have D2 := hb2.cell (i := 1) rfl
    have hb3 := hb2.set 1 (.slice none 0 0)
    have E0 := hb3.cell (i := 0) rfl
    have E1 := hb3.cell (i := 1) rfl
    go_wp2_with fail
    refine bodyPost_ret (v := .tuple #[.agg #[.slice none 0 0, .slice none 0 0], .int .i64 (2)]) (by simp [results, Try.results105, go_sem, E0, E1]) rfl ?_
    exact RetCE.mk HC.out (CaseO.zero _ _ _) (Nat.le_refl _) ((gw.setCell (by simp; omega) _).setCell (by simp; omega) _)
  · have hO := caseOk_iff.1 e0
    by_cases h1 : k < 1
    · have HC := Lib.hid (doF_kind (t := t) e0 (.inl h1))
      clear hz hO
      have b0 : Blk ((((w.alloc (.cells #[.int .i64 N.places, .slice a N.trans.length cap] 28)).alloc (.cells #[.slice ma c.mark.length mc, .slice ba c.busy.length bc] 63)).alloc (.cells #[.int .i64 (k), .int .i64 t] 105)).alloc (.cells #[.slice none 0 0, .slice none 0 0] 63)) w.heap.size 28 #[.int .i64 N.places, .slice a N.trans.length cap] := (Blk.new rfl).gr ((((Gr.refl _).alloc _).alloc _).alloc _)
      have b1 : Blk ((((w.alloc (.cells #[.int .i64 N.places, .slice a N.trans.length cap] 28)).alloc (.cells #[.slice ma c.mark.length mc, .slice ba c.busy.length bc] 63)).alloc (.cells #[.int .i64 (k), .int .i64 t] 105)).alloc (.cells #[.slice none 0 0, .slice none 0 0] 63)) (w.heap.size + 1) 63 #[.slice ma c.mark.length mc, .slice ba c.busy.length bc] := (Blk.new (by simp)).gr (((Gr.refl _).alloc _).alloc _)
      have b2 : Blk ((((w.alloc (.cells #[.int .i64 N.places, .slice a N.trans.length cap] 28)).alloc (.cells #[.slice ma c.mark.length mc, .slice ba c.busy.length bc] 63)).alloc (.cells #[.int .i64 (k), .int .i64 t] 105)).alloc (.cells #[.slice none 0 0, .slice none 0 0] 63)) (w.heap.size + 1 + 1) 105 #[.int .i64 (k), .int .i64 t] := (Blk.new (by simp)).gr ((Gr.refl _).alloc _)
      have b3 : Blk ((((w.alloc (.cells #[.int .i64 N.places, .slice a N.trans.length cap] 28)).alloc (.cells #[.slice ma c.mark.length mc, .slice ba c.busy.length bc] 63)).alloc (.cells #[.int .i64 (k), .int .i64 t] 105)).alloc (.cells #[.slice none 0 0, .slice none 0 0] 63)) (w.heap.size + 1 + 1 + 1) 63 #[.slice none 0 0, .slice none 0 0] := Blk.new (by simp)
      go_enter Try.func105, Try.ntmps105
      go_wp2_with fail
      refine (CaseRight_calls _ _ N c _ (hN.gr (by (repeat (first | exact Gr.refl _ | assumption | apply Gr.alloc | apply Gr.drew | apply Gr.drewN | refine Gr.trans ?_ (by assumption))))) (hc.gr (by (repeat (first | exact Gr.refl _ | assumption | apply Gr.alloc | apply Gr.drew | apply Gr.drewN | refine Gr.trans ?_ (by assumption)))))).mono ?_
      rw [e0]; rintro _ w1 ⟨rfl, g1⟩
      replace b0 := b0.gr g1
      replace b1 := b1.gr g1
      replace b2 := b2.gr g1
      replace b3 := b3.gr g1
      have gw : Gr w w1 := by (repeat (first | exact Gr.refl _ | assumption | apply Gr.alloc | apply Gr.drew | apply Gr.drewN | refine Gr.trans ?_ (by assumption)))
      clear g1
      have A0 := b0.cell (i := 0) rfl
      have A1 := b0.cell (i := 1) rfl
      have B0 := b1.cell (i := 0) rfl
      have B1 := b1.cell (i := 1) rfl
      have O0 := b2.cell (i := 0) rfl
      have O1 := b2.cell (i := 1) rfl
      go_wp2_with fail
      refine (Do1_calls _ _).mono ?_
      rintro _ w9 ⟨rfl, g9⟩
      have g10 : Gr w1 w9 := by (repeat (first | exact Gr.refl _ | assumption | apply Gr.alloc | apply Gr.drew | apply Gr.drewN | refine Gr.trans ?_ (by assumption)))
      replace b3 := b3.gr g10
      replace gw := gw.trans g10
      have D0 := b3.cell (i := 0) rfl
      have D1 := b3.cell (i := 1) rfl
      have F0 := b3.frozen 0
      have hb2 := b3.set 0 (.slice none 0 0)
      have F1 := hb2.frozen 1
      have D2 := hb2.cell (i := 1) rfl
      have hb3 := hb2.set 1 (.slice none 0 0)
      have E0 := hb3.cell (i := 0) rfl
      have E1 := hb3.cell (i := 1) rfl
      go_wp2_with fail
      refine bodyPost_ret (v := .tuple #[.agg #[.slice none 0 0, .slice none 0 0], .int .i64 (5)]) (by simp [results, Try.results105, go_sem, E0, E1]) rfl ?_
      exact RetCE.mk HC.out (CaseO.zero _ _ _) (Nat.le_refl _) ((gw.setCell (by simp; omega) _).setCell (by simp; omega) _)
    · by_cases h2 : 4 < k
      · have HC := Lib.hid (doF_kind (t := t) e0 (.inr h2))
        clear hz hO
        have b0 : Blk ((((w.alloc (.cells #[.int .i64 N.places, .slice a N.trans.length cap] 28)).alloc (.cells #[.slice ma c.mark.length mc, .slice ba c.busy.length bc] 63)).alloc (.cells #[.int .i64 (k), .int .i64 t] 105)).alloc (.cells #[.slice none 0 0, .slice none 0 0] 63)) w.heap.size 28 #[.int .i64 N.places, .slice a N.trans.length cap] := (Blk.new rfl).gr ((((Gr.refl _).alloc _).alloc _).alloc _)
        have b1 : Blk ((((w.alloc (.cells #[.int .i64 N.places, .slice a N.trans.length cap] 28)).alloc (.cells #[.slice ma c.mark.length mc, .slice ba c.busy.length bc] 63)).alloc (.cells #[.int .i64 (k), .int .i64 t] 105)).alloc (.cells #[.slice none 0 0, .slice none 0 0] 63)) (w.heap.size + 1) 63 #[.slice ma c.mark.length mc, .slice ba c.busy.length bc] := (Blk.new (by simp)).gr (((Gr.refl _).alloc _).alloc _)
        have b2 : Blk ((((w.alloc (.cells #[.int .i64 N.places, .slice a N.trans.length cap] 28)).alloc (.cells #[.slice ma c.mark.length mc, .slice ba c.busy.length bc] 63)).alloc (.cells #[.int .i64 (k), .int .i64 t] 105)).alloc (.cells #[.slice none 0 0, .slice none 0 0] 63)) (w.heap.size + 1 + 1) 105 #[.int .i64 (k), .int .i64 t] := (Blk.new (by simp)).gr ((Gr.refl _).alloc _)
        have b3 : Blk ((((w.alloc (.cells #[.int .i64 N.places, .slice a N.trans.length cap] 28)).alloc (.cells #[.slice ma c.mark.length mc, .slice ba c.busy.length bc] 63)).alloc (.cells #[.int .i64 (k), .int .i64 t] 105)).alloc (.cells #[.slice none 0 0, .slice none 0 0] 63)) (w.heap.size + 1 + 1 + 1) 63 #[.slice none 0 0, .slice none 0 0] := Blk.new (by simp)
        go_enter Try.func105, Try.ntmps105
        go_wp2_with fail
        refine (CaseRight_calls _ _ N c _ (hN.gr (by (repeat (first | exact Gr.refl _ | assumption | apply Gr.alloc | apply Gr.drew | apply Gr.drewN | refine Gr.trans ?_ (by assumption))))) (hc.gr (by (repeat (first | exact Gr.refl _ | assumption | apply Gr.alloc | apply Gr.drew | apply Gr.drewN | refine Gr.trans ?_ (by assumption)))))).mono ?_
        rw [e0]; rintro _ w1 ⟨rfl, g1⟩
        replace b0 := b0.gr g1
        replace b1 := b1.gr g1
        replace b2 := b2.gr g1
        replace b3 := b3.gr g1
        have gw : Gr w w1 := by (repeat (first | exact Gr.refl _ | assumption | apply Gr.alloc | apply Gr.drew | apply Gr.drewN | refine Gr.trans ?_ (by assumption)))
        clear g1
        have A0 := b0.cell (i := 0) rfl
        have A1 := b0.cell (i := 1) rfl
        have B0 := b1.cell (i := 0) rfl
        have B1 := b1.cell (i := 1) rfl
        have O0 := b2.cell (i := 0) rfl
        have O1 := b2.cell (i := 1) rfl
        go_wp2_with fail
        refine (Do1_calls _ _).mono ?_
        rintro _ w9 ⟨rfl, g9⟩
        have g10 : Gr w1 w9 := by (repeat (first | exact Gr.refl _ | assumption | apply Gr.alloc | apply Gr.drew | apply Gr.drewN | refine Gr.trans ?_ (by assumption)))
        replace b3 := b3.gr g10
        replace gw := gw.trans g10
        have D0 := b3.cell (i := 0) rfl
        have D1 := b3.cell (i := 1) rfl
        have F0 := b3.frozen 0
        have hb2 := b3.set 0 (.slice none 0 0)
        have F1 := hb2.frozen 1
        have D2 := hb2.cell (i := 1) rfl
        have hb3 := hb2.set 1 (.slice none 0 0)
        have E0 := hb3.cell (i := 0) rfl
        have E1 := hb3.cell (i := 1) rfl
        go_wp2_with fail
        refine bodyPost_ret (v := .tuple #[.agg #[.slice none 0 0, .slice none 0 0], .int .i64 (5)]) (by simp [results, Try.results105, go_sem, E0, E1]) rfl ?_
        exact RetCE.mk HC.out (CaseO.zero _ _ _) (Nat.le_refl _) ((gw.setCell (by simp; omega) _).setCell (by simp; omega) _)
      · by_cases h3 : t < 0
        · have HC := Lib.hid (doF_none (k := k) e0 (by omega) (.inl h3))
          clear hz hO
          have b0 : Blk ((((w.alloc (.cells #[.int .i64 N.places, .slice a N.trans.length cap] 28)).alloc (.cells #[.slice ma c.mark.length mc, .slice ba c.busy.length bc] 63)).alloc (.cells #[.int .i64 (k), .int .i64 t] 105)).alloc (.cells #[.slice none 0 0, .slice none 0 0] 63)) w.heap.size 28 #[.int .i64 N.places, .slice a N.trans.length cap] := (Blk.new rfl).gr ((((Gr.refl _).alloc _).alloc _).alloc _)
          have b1 : Blk ((((w.alloc (.cells #[.int .i64 N.places, .slice a N.trans.length cap] 28)).alloc (.cells #[.slice ma c.mark.length mc, .slice ba c.busy.length bc] 63)).alloc (.cells #[.int .i64 (k), .int .i64 t] 105)).alloc (.cells #[.slice none 0 0, .slice none 0 0] 63)) (w.heap.size + 1) 63 #[.slice ma c.mark.length mc, .slice ba c.busy.length bc] := (Blk.new (by simp)).gr (((Gr.refl _).alloc _).alloc _)
          have b2 : Blk ((((w.alloc (.cells #[.int .i64 N.places, .slice a N.trans.length cap] 28)).alloc (.cells #[.slice ma c.mark.length mc, .slice ba c.busy.length bc] 63)).alloc (.cells #[.int .i64 (k), .int .i64 t] 105)).alloc (.cells #[.slice none 0 0, .slice none 0 0] 63)) (w.heap.size + 1 + 1) 105 #[.int .i64 (k), .int .i64 t] := (Blk.new (by simp)).gr ((Gr.refl _).alloc _)
          have b3 : Blk ((((w.alloc (.cells #[.int .i64 N.places, .slice a N.trans.length cap] 28)).alloc (.cells #[.slice ma c.mark.length mc, .slice ba c.busy.length bc] 63)).alloc (.cells #[.int .i64 (k), .int .i64 t] 105)).alloc (.cells #[.slice none 0 0, .slice none 0 0] 63)) (w.heap.size + 1 + 1 + 1) 63 #[.slice none 0 0, .slice none 0 0] := Blk.new (by simp)
          go_enter Try.func105, Try.ntmps105
          go_wp2_with fail
          refine (CaseRight_calls _ _ N c _ (hN.gr (by (repeat (first | exact Gr.refl _ | assumption | apply Gr.alloc | apply Gr.drew | apply Gr.drewN | refine Gr.trans ?_ (by assumption))))) (hc.gr (by (repeat (first | exact Gr.refl _ | assumption | apply Gr.alloc | apply Gr.drew | apply Gr.drewN | refine Gr.trans ?_ (by assumption)))))).mono ?_
          rw [e0]; rintro _ w1 ⟨rfl, g1⟩
          replace b0 := b0.gr g1
          replace b1 := b1.gr g1
          replace b2 := b2.gr g1
          replace b3 := b3.gr g1
          have gw : Gr w w1 := by (repeat (first | exact Gr.refl _ | assumption | apply Gr.alloc | apply Gr.drew | apply Gr.drewN | refine Gr.trans ?_ (by assumption)))
          clear g1
          have A0 := b0.cell (i := 0) rfl
          have A1 := b0.cell (i := 1) rfl
          have B0 := b1.cell (i := 0) rfl
          have B1 := b1.cell (i := 1) rfl
          have O0 := b2.cell (i := 0) rfl
          have O1 := b2.cell (i := 1) rfl
          go_wp2_with fail
          refine (Do1_calls _ _).mono ?_
          rintro _ w9 ⟨rfl, g9⟩
          have g10 : Gr w1 w9 := by (repeat (first | exact Gr.refl _ | assumption | apply Gr.alloc | apply Gr.drew | apply Gr.drewN | refine Gr.trans ?_ (by assumption)))
          replace b3 := b3.gr g10
          replace gw := gw.trans g10
          have D0 := b3.cell (i := 0) rfl
          have D1 := b3.cell (i := 1) rfl
          have F0 := b3.frozen 0
          have hb2 := b3.set 0 (.slice none 0 0)
          have F1 := hb2.frozen 1
          have D2 := hb2.cell (i := 1) rfl
          have hb3 := hb2.set 1 (.slice none 0 0)
          have E0 := hb3.cell (i := 0) rfl
          have E1 := hb3.cell (i := 1) rfl
          go_wp2_with fail
          refine bodyPost_ret (v := .tuple #[.agg #[.slice none 0 0, .slice none 0 0], .int .i64 (3)]) (by simp [results, Try.results105, go_sem, E0, E1]) rfl ?_
          exact RetCE.mk HC.out (CaseO.zero _ _ _) (Nat.le_refl _) ((gw.setCell (by simp; omega) _).setCell (by simp; omega) _)
        · by_cases h4 : (N.trans.length : Int) ≤ t
          · have HC := Lib.hid (doF_none (k := k) e0 (by omega) (.inr h4))
            clear hz hO
            have b0 : Blk ((((w.alloc (.cells #[.int .i64 N.places, .slice a N.trans.length cap] 28)).alloc (.cells #[.slice ma c.mark.length mc, .slice ba c.busy.length bc] 63)).alloc (.cells #[.int .i64 (k), .int .i64 t] 105)).alloc (.cells #[.slice none 0 0, .slice none 0 0] 63)) w.heap.size 28 #[.int .i64 N.places, .slice a N.trans.length cap] := (Blk.new rfl).gr ((((Gr.refl _).alloc _).alloc _).alloc _)
            have b1 : Blk ((((w.alloc (.cells #[.int .i64 N.places, .slice a N.trans.length cap] 28)).alloc (.cells #[.slice ma c.mark.length mc, .slice ba c.busy.length bc] 63)).alloc (.cells #[.int .i64 (k), .int .i64 t] 105)).alloc (.cells #[.slice none 0 0, .slice none 0 0] 63)) (w.heap.size + 1) 63 #[.slice ma c.mark.length mc, .slice ba c.busy.length bc] := (Blk.new (by simp)).gr (((Gr.refl _).alloc _).alloc _)
            have b2 : Blk ((((w.alloc (.cells #[.int .i64 N.places, .slice a N.trans.length cap] 28)).alloc (.cells #[.slice ma c.mark.length mc, .slice ba c.busy.length bc] 63)).alloc (.cells #[.int .i64 (k), .int .i64 t] 105)).alloc (.cells #[.slice none 0 0, .slice none 0 0] 63)) (w.heap.size + 1 + 1) 105 #[.int .i64 (k), .int .i64 t] := (Blk.new (by simp)).gr ((Gr.refl _).alloc _)
            have b3 : Blk ((((w.alloc (.cells #[.int .i64 N.places, .slice a N.trans.length cap] 28)).alloc (.cells #[.slice ma c.mark.length mc, .slice ba c.busy.length bc] 63)).alloc (.cells #[.int .i64 (k), .int .i64 t] 105)).alloc (.cells #[.slice none 0 0, .slice none 0 0] 63)) (w.heap.size + 1 + 1 + 1) 63 #[.slice none 0 0, .slice none 0 0] := Blk.new (by simp)
            go_enter Try.func105, Try.ntmps105
            go_wp2_with fail
            refine (CaseRight_calls _ _ N c _ (hN.gr (by (repeat (first | exact Gr.refl _ | assumption | apply Gr.alloc | apply Gr.drew | apply Gr.drewN | refine Gr.trans ?_ (by assumption))))) (hc.gr (by (repeat (first | exact Gr.refl _ | assumption | apply Gr.alloc | apply Gr.drew | apply Gr.drewN | refine Gr.trans ?_ (by assumption)))))).mono ?_
            rw [e0]; rintro _ w1 ⟨rfl, g1⟩
            replace b0 := b0.gr g1
            replace b1 := b1.gr g1
            replace b2 := b2.gr g1
            replace b3 := b3.gr g1
            have gw : Gr w w1 := by (repeat (first | exact Gr.refl _ | assumption | apply Gr.alloc | apply Gr.drew | apply Gr.drewN | refine Gr.trans ?_ (by assumption)))
            clear g1
            have A0 := b0.cell (i := 0) rfl
            have A1 := b0.cell (i := 1) rfl
            have B0 := b1.cell (i := 0) rfl
            have B1 := b1.cell (i := 1) rfl
            have O0 := b2.cell (i := 0) rfl
            have O1 := b2.cell (i := 1) rfl
            go_wp2_with fail
            refine (Do1_calls _ _).mono ?_
            rintro _ w9 ⟨rfl, g9⟩
            have g10 : Gr w1 w9 := by (repeat (first | exact Gr.refl _ | assumption | apply Gr.alloc | apply Gr.drew | apply Gr.drewN | refine Gr.trans ?_ (by assumption)))
            replace b3 := b3.gr g10
            replace gw := gw.trans g10
            have D0 := b3.cell (i := 0) rfl
            have D1 := b3.cell (i := 1) rfl
            have F0 := b3.frozen 0
            have hb2 := b3.set 0 (.slice none 0 0)
            have F1 := hb2.frozen 1
            have D2 := hb2.cell (i := 1) rfl
            have hb3 := hb2.set 1 (.slice none 0 0)
            have E0 := hb3.cell (i := 0) rfl
            have E1 := hb3.cell (i := 1) rfl
            go_wp2_with fail
            refine bodyPost_ret (v := .tuple #[.agg #[.slice none 0 0, .slice none 0 0], .int .i64 (3)]) (by simp [results, Try.results105, go_sem, E0, E1]) rfl ?_
            exact RetCE.mk HC.out (CaseO.zero _ _ _) (Nat.le_refl _) ((gw.setCell (by simp; omega) _).setCell (by simp; omega) _)
          · obtain ⟨t, rfl⟩ := Int.eq_ofNat_of_zero_le (show 0 ≤ t by omega)
            have hj : t < N.trans.length := by omega
            cases h5 : (decide (k = 1) != decide ((N.tr t).label = 0))
            · exact absurd ⟨hO, ⟨by omega, by omega⟩, t, rfl, hj, h5⟩ hz
            · exact Do_form _ _ N c k t w hN' hc hk e0 ⟨by omega, by omega⟩ hj h5
end Go.Proofs.Ytidpppfimkhgkaa
