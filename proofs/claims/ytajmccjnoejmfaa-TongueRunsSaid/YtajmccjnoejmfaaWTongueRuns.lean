/- The walk of TongueRuns: at every net, marks and sequence it answers true. -/
import Derived.Test.YtajmccjnoejmfaaAlive12
import Derived.Test.YtajmccjnoejmfaaGN
import Derived.Test.YtajmccjnoejmfaaGS
import Derived.Deep.RegionHeld3
namespace Go.Tok
open Go.RowKit Go.Proofs.Ytajmccjnoejmfaa
set_option linter.unusedVariables false
def seenOne (N : NetD) (t : Int) : List Int := if 0 ≤ t ∧ t < (N.trans.length : Int) ∧ 0 < (N.tr t.toNat).label then [(N.tr t.toNat).label] else []
def seenTo (N : NetD) (seq : List Int) (k : Nat) : List Int := (seq.take k).flatMap (seenOne N)
theorem seenTo_zero (N : NetD) (seq : List Int) : seenTo N seq 0 = [] := by simp [seenTo]
theorem seenTo_succ (N : NetD) {seq : List Int} {k : Nat} (h : k < seq.length) : seenTo N seq (k + 1) = seenTo N seq k ++ seenOne N (nth seq k) := by
  unfold seenTo; rw [List.take_succ_eq_append_getElem h, List.flatMap_append, nth_lt h]; simp
theorem seenTo_len (N : NetD) (seq : List Int) : ∀ k, (seenTo N seq k).length ≤ k
  | 0 => by simp [seenTo]
  | k + 1 => by
    by_cases h : k < seq.length
    · rw [seenTo_succ N h, List.length_append]
      have := seenTo_len N seq k
      have : (seenOne N (nth seq k)).length ≤ 1 := by unfold seenOne; split <;> simp
      omega
    · have e : seenTo N seq (k + 1) = seenTo N seq k := by unfold seenTo; rw [List.take_of_length_le (by omega), List.take_of_length_le (by omega)]
      rw [e]; have := seenTo_len N seq k; omega
theorem runs_seen {N : NetD} {x y seq : List Int} (h : Runs N x seq y) : seq.flatMap (seenOne N) = seenL N seq := by
  induction h with
  | nil => rfl
  | cons h _ ih =>
    rename_i k _
    rw [List.flatMap_cons, ih, seen_cons]
    have hk := h.lt
    unfold seenOne
    by_cases h0 : 0 < (N.tr k).label
    · rw [if_pos ⟨by omega, by omega, by simpa using h0⟩, if_pos h0]; simp
    · rw [if_neg (fun h => h0 (by simpa using h.2.2)), if_neg h0]
theorem runs_said {N : NetD} {i o : Int} {seq : List Int} {b : Bool} (hm : HasMeans N i o (seenTo N seq seq.length) b) (he : hasErr N i o = 0) (hr : runF N (oneN (startLen N) i) seq = (oneN (startLen N) o, 0)) : b = true := by
  obtain ⟨a, c, s, rfl, rfl, hO, _, hb⟩ := hm.2 he
  have hf := hO.fits (p := a) hO.hi
  rw [runF_fit hf] at hr
  have hR := runs_of hf hr
  refine hb.2 ⟨seq, hR, ?_⟩
  rw [← runs_seen hR]
  unfold seenTo
  rw [List.take_length]
end Go.Tok
namespace Go.Proofs.Ytajmccjnoejmfaa
open Go.RowKit Go.Tok
set_option linter.unusedVariables false
set_option maxHeartbeats 8000000 in
set_option maxRecDepth 100000 in
theorem TongueRuns_walk {v z : Value} {N : NetD} {i o : Int} {seq : List Int} (w : World) (hN : NetR w v N) (hi : I64 i) (ho : I64 o) (h2 : Ints w z seq ∧ seq.length ≤ 17592186043904) : Calls Try.prog 11 #[v, .int .i64 i, .int .i64 o, z] w fun e w' => e = .returned (.bool true) ∧ Gr w w' := by
  obtain ⟨hs, ls⟩ := h2
  have hN' := hN
  obtain ⟨a, cap, rfl, hnl, hncap, hpl, hT⟩ := hN.open_
  have hpl1 := hpl.1
  have hpl2 := hpl.2
  obtain ⟨sa, sc, rfl, sl, sl'⟩ := hs.len
  have b0 : Blk (w.alloc (.cells #[.int .i64 N.places, .slice a N.trans.length cap] 28)) w.heap.size 28 #[.int .i64 N.places, .slice a N.trans.length cap] := Blk.new rfl
  have GA : Gr w (w.alloc (.cells #[.int .i64 N.places, .slice a N.trans.length cap] 28)) := (Gr.refl _).alloc _
  rcases hR : runF N (oneN (startLen N) i) seq with ⟨y, e⟩
  have HR := Lib.hid hR
  clear hR
  go_enter Try.func11, Try.ntmps11
  go_wp2_with fail
  refine (alive12_calls _).mono ?_
  rintro _ w1 ⟨rfl, g1⟩
  have b1 := b0.gr g1
  have GB := GA.trans g1
  have K1 := hN'.gr GB
  have S1 := hs.gr GB
  have B0 := b1.cell (i := 0) (v := .int .i64 N.places) rfl
  have B1 := b1.cell (i := 1) (v := .slice a N.trans.length cap) rfl
  clear g1 b0 GA
  go_wp2_with fail
  go_region_held3 (fun w' => w'.cell? ⟨w.heap.size, 0, none⟩ = some (.int .i64 N.places) ∧ w'.cell? ⟨w.heap.size, 1, none⟩ = some (.slice a N.trans.length cap)) (first | go_keep | ((refine ⟨cell_gr B0 ?_, cell_gr B1 ?_⟩); ((focus ((repeat (first | exact Gr.refl _ | assumption | apply Gr.alloc | apply Gr.drew | apply Gr.drewN | refine Gr.trans ?_ (by assumption))); done))); ((focus ((repeat (first | exact Gr.refl _ | assumption | apply Gr.alloc | apply Gr.drew | apply Gr.drewN | refine Gr.trans ?_ (by assumption))); done))))) (first | (go_at_call 16; (with_reducible refine (Start_calls _ N _ _ (K1.gr ?_) hi).mono ?_); ((focus ((repeat (first | exact Gr.refl _ | assumption | apply Gr.alloc | apply Gr.drew | apply Gr.drewN | refine Gr.trans ?_ (by assumption))); done))); rintro _ w3 ⟨v3, rfl, o3, g3⟩) | (go_at_call 15; (with_reducible refine (Run_calls _ _ _ N _ seq _ (K1.gr ?_) (o3.ints.gr ?_) (S1.gr ?_)).mono ?_); ((focus ((repeat (first | exact Gr.refl _ | assumption | apply Gr.alloc | apply Gr.drew | apply Gr.drewN | refine Gr.trans ?_ (by assumption))); done))); ((focus ((repeat (first | exact Gr.refl _ | assumption | apply Gr.alloc | apply Gr.drew | apply Gr.drewN | refine Gr.trans ?_ (by assumption))); done))); ((focus ((repeat (first | exact Gr.refl _ | assumption | apply Gr.alloc | apply Gr.drew | apply Gr.drewN | refine Gr.trans ?_ (by assumption))); done))); rw [HR.out]; rintro _ w4 ⟨v4, rfl, i4, g4⟩))
  obtain ⟨ya, yc, rfl, _, _⟩ := i4.len
  have GF : Gr w1 w4 := by (repeat (first | exact Gr.refl _ | assumption | apply Gr.alloc | apply Gr.drew | apply Gr.drewN | refine Gr.trans ?_ (by assumption)))
  have B0 := b1.cell (i := 0) (v := .int .i64 N.places) rfl
  have b4 := b1.gr GF
  have K4 := K1.gr GF
  have S4 := S1.gr GF
  have GW := GB.trans GF
  have hT4 := (hT.gr GB).gr GF
  clear o3 g3 g4 GF B0 B1 b1 K1 S1 GB hT
  have T := intTy
  go_wp2_with fail
  go_loopw [29, 11] (fun q wv' wr => ∃ (k : Nat) (wv : Value), wv = wv' ∧ q = .int .i64 k ∧ k ≤ seq.length ∧ OwnI 3 w4.heap.size wr wv (seenTo N seq k) ∧ Gr w4 wr) (fun q _ _ => seq.length - (intOf q).toNat)
  case atStart => exact ⟨0, _, rfl, rfl, Nat.zero_le _, by rw [seenTo_zero]; exact OwnI.nil _ _ _, Gr.refl _⟩
  case round =>
    rename World => wr
    obtain ⟨k, wv, rfl, rfl, hk, ho', hgr⟩ := hrel
    have A0 := (b4.gr hgr).cell (i := 0) (v := .int .i64 N.places) rfl
    have A1 := (b4.gr hgr).cell (i := 1) (v := .slice a N.trans.length cap) rfl
    by_cases hlt : k < seq.length
    · obtain ⟨sb, so, rfl, c0⟩ := (S4.gr hgr).cell hlt
      have hkI : (k : Int) < (seq.length : Int) := by omega
      have hnext := seenTo_succ N hlt
      have hln := seenTo_len N seq k
      have hI := S4.range k
      obtain ⟨t, ht⟩ : ∃ t, t = nth seq k := ⟨_, rfl⟩
      rw [← ht] at c0 hnext hI
      clear ht
      unfold seenOne at hnext
      by_cases p1 : 0 ≤ t
      case neg =>
        rw [if_neg (fun h => p1 h.1), List.append_nil] at hnext
        have HE := Lib.hid hnext
        clear hnext
        go_wp2_with fail
        go_roundw
        case rel => exact ⟨k + 1, _, rfl, by go_num, by omega, by rw [HE.out]; exact ho', hgr⟩
        case measure => simp [intOf]; omega
      by_cases p2 : t < (N.trans.length : Int)
      case neg =>
        rw [if_neg (fun h => p2 h.2.1), List.append_nil] at hnext
        have HE := Lib.hid hnext
        clear hnext
        go_wp2_with fail
        go_roundw
        case rel => exact ⟨k + 1, _, rfl, by go_num, by omega, by rw [HE.out]; exact ho', hgr⟩
        case measure => simp [intOf]; omega
      obtain ⟨j, rfl⟩ := Int.eq_ofNat_of_zero_le p1
      have hj : j < N.trans.length := by omega
      obtain ⟨tb, tf, vp, vq, rfl, d0, d1, d2, hlab, hp, hq⟩ := (hT4.gr hgr).at_ hj
      by_cases p3 : 0 < (N.tr j).label
      · rw [if_pos ⟨p1, p2, by simpa using p3⟩] at hnext
        have hn2 : seenTo N seq (k + 1) = seenTo N seq k ++ [(N.tr j).label] := by rw [hnext]; simp
        have HE := Lib.hid hn2
        clear hnext hn2 hp hq d1 d2
        go_wp2_with (at_builtin; refine app_int T _ _ w4.heap.size _ (seenTo N seq k) ⟨wr.heap.size, 0, none⟩ (N.tr j).label (by rfl) (by rfl) (by rfl) (by rfl) (ho'.gr ((Gr.refl _).alloc _)) (lit_cell rfl) hlab (by omega) (by have := hgr.le; simp; omega) ?_; intro v' w' ho2 hg' hgb hat)
        have hg2 := hg' w4 (Nat.le_refl _) (hgr.trans ((Gr.refl _).alloc _))
        go_roundw
        case rel => exact ⟨k + 1, _, rfl, by go_num, by omega, by rw [HE.out]; exact ho2, hg2⟩
        case measure => simp [intOf]; omega
      · rw [if_neg (fun h => p3 (by simpa using h.2.2)), List.append_nil] at hnext
        clear hp hq d1 d2
        have HE := Lib.hid hnext
        clear hnext
        go_wp2_with fail
        go_roundw
        case rel => exact ⟨k + 1, _, rfl, by go_num, by omega, by rw [HE.out]; exact ho', hgr⟩
        case measure => simp [intOf]; omega
    · obtain rfl : k = seq.length := by omega
      have hln := seenTo_len N seq seq.length
      have HU := Lib.hid ho'.ints
      obtain ⟨ua, uc, rfl, hul, hul2⟩ := ho'.ints.len
      have GX := GW.trans hgr
      clear hul hul2
      go_wp2_with fail
      refine (Has_calls _ _ N i o (seenTo N seq seq.length) _ (K4.gr hgr) hi ho HU.out (by omega)).mono ?_
      rintro _ w5 ⟨b, rfl, g5, hM⟩
      replace A0 := cell_gr A0 g5
      replace A1 := cell_gr A1 g5
      have K5 := K4.gr (hgr.trans g5)
      have G5 := GX.trans g5
      have i5 := (i4.gr hgr).gr g5
      have HM := Lib.hid hM
      obtain ⟨x, hx⟩ : ∃ x, x = hasErr N i o := ⟨_, rfl⟩
      rw [← hx]
      have HX := Lib.hid hx
      clear hM hx ho' K4 S4 hT4 i4
      by_cases he : e = 0
      case neg =>
        have he1 : (e != 0) = true := by simpa using he
        clear he
        go_wp2_with fail
        go_ret
        exact ⟨rfl, by (repeat (first | exact Gr.refl _ | assumption | apply Gr.alloc | apply Gr.drew | apply Gr.drewN | refine Gr.trans ?_ (by assumption)))⟩
      subst he
      by_cases hx : x = 0
      case neg =>
        have he1 : (x != 0) = true := by simpa using hx
        clear hx
        go_wp2_with fail
        go_ret
        exact ⟨rfl, by (repeat (first | exact Gr.refl _ | assumption | apply Gr.alloc | apply Gr.drew | apply Gr.drewN | refine Gr.trans ?_ (by assumption)))⟩
      subst hx
      go_wp2_with fail
      refine (Start_calls _ N o _ K5 ho).mono ?_
      rintro _ w6 ⟨v6, rfl, o6, g6⟩
      obtain ⟨oa, oc, rfl, _, _⟩ := o6.ints.len
      go_wp2_with fail
      refine (Equal_calls _ _ y (oneN (startLen N) o) _ (i5.gr g6) o6.ints).mono ?_
      rintro _ w7 ⟨rfl, g7⟩
      cases hq : eqB y (oneN (startLen N) o)
      · go_wp2_with fail
        go_ret
        exact ⟨rfl, by (repeat (first | exact Gr.refl _ | assumption | apply Gr.alloc | apply Gr.drew | apply Gr.drewN | refine Gr.trans ?_ (by assumption)))⟩
      · have hy := (eqB_iff _ _).1 hq
        have hb : b = true := runs_said HM.out HX.out.symm (by rw [HR.out, hy])
        subst hb
        clear hy hq
        go_wp2_with fail
        go_ret
        exact ⟨rfl, by (repeat (first | exact Gr.refl _ | assumption | apply Gr.alloc | apply Gr.drew | apply Gr.drewN | refine Gr.trans ?_ (by assumption)))⟩
end Go.Proofs.Ytajmccjnoejmfaa
