/- Contracts of cases.Right, cases.busy, tokenhallref.SameCase. -/
import Derived.Test.YtidpppfimkhgkaaCaseLaw
import Derived.Test.YtidpppfimkhgkaaGN
import Derived.Test.YtidpppfimkhgkaaPA
import Derived.Test.YtidpppfimkhgkaaGM
import Derived.BigQuiet
namespace Go.Proofs.Ytidpppfimkhgkaa
open Go.RowKit Go.Tok
set_option linter.unusedVariables false

set_option maxHeartbeats 1000000 in
set_option maxRecDepth 100000 in
theorem CaseRight_calls (v u : Value) (N : NetD) (c : CaseD) (w : World) (hN : NetR w v N) (hc : CaseR w u c) :
    Calls Try.prog 140 #[v, u] w fun e w' => e = .returned (.bool (caseOkB N c)) ∧ Gr w w' := by
  obtain ⟨a, cap, rfl, hnl, hncap, hpl, hT⟩ := hN.open_
  have hpl1 := hpl.1
  have hpl2 := hpl.2
  obtain ⟨ma, mc, ba, bc, rfl, hml, hml', hbl, hbl', hM, hB⟩ := hc.open_
  cases h0 : netOkB N
  · have e0 := wrongC_no h0
    have HF := Lib.hid (show caseOkB N c = false from caseOk_no fun h => by rw [h.ok] at h0; cases h0)
    clear h0
    go_enter Try.func140, Try.ntmps140
    go_wp2_with fail
    refine (Wrong_calls _ N _ (hN.gr (by (repeat (first | exact Gr.refl _ | assumption | apply Gr.alloc | apply Gr.drew | apply Gr.drewN | refine Gr.trans ?_ (by assumption)))))).mono ?_
    rw [e0]; rintro _ w1 ⟨rfl, g1⟩
    have b0 : Blk ((w.alloc (.cells #[.int .i64 N.places, .slice a N.trans.length cap] 28)).alloc (.cells #[.slice ma c.mark.length mc, .slice ba c.busy.length bc] 63)) w.heap.size 28 #[.int .i64 N.places, .slice a N.trans.length cap] := (Blk.new rfl).gr ((Gr.refl _).alloc _)
    have b1 : Blk ((w.alloc (.cells #[.int .i64 N.places, .slice a N.trans.length cap] 28)).alloc (.cells #[.slice ma c.mark.length mc, .slice ba c.busy.length bc] 63)) (w.heap.size + 1) 63 #[.slice ma c.mark.length mc, .slice ba c.busy.length bc] := Blk.new (by simp)
    have C0 := (b0.gr g1).cell (i := 0) rfl
    have C1 := (b0.gr g1).cell (i := 1) rfl
    have C2 := (b1.gr g1).cell (i := 0) rfl
    have C3 := (b1.gr g1).cell (i := 1) rfl
    have G1 : Gr w w1 := by (repeat (first | exact Gr.refl _ | assumption | apply Gr.alloc | apply Gr.drew | apply Gr.drewN | refine Gr.trans ?_ (by assumption)))
    clear b0 b1 g1
    go_wp2_with fail
    go_ret
    exact ⟨ret_bool HF.out.symm, G1⟩
  · have e0 := wrongC_yes h0
    by_cases h1 : (c.mark.length : Int) = N.places
    · have q1 : ((c.mark.length : Int) == N.places) = true := by simp [h1]
      by_cases h2 : c.busy.length = N.trans.length
      · have q2 : ((c.busy.length : Int) == (N.trans.length : Int)) = true := by simp [h2]
        cases h3 : rightB c.mark
        · have HF := Lib.hid (show caseOkB N c = false from caseOk_no fun h => by rw [h.mr] at h3; cases h3)
          clear h0 h1 h2
          go_enter Try.func140, Try.ntmps140
          go_wp2_with fail
          refine (Wrong_calls _ N _ (hN.gr (by (repeat (first | exact Gr.refl _ | assumption | apply Gr.alloc | apply Gr.drew | apply Gr.drewN | refine Gr.trans ?_ (by assumption)))))).mono ?_
          rw [e0]; rintro _ w1 ⟨rfl, g1⟩
          have b0 : Blk ((w.alloc (.cells #[.int .i64 N.places, .slice a N.trans.length cap] 28)).alloc (.cells #[.slice ma c.mark.length mc, .slice ba c.busy.length bc] 63)) w.heap.size 28 #[.int .i64 N.places, .slice a N.trans.length cap] := (Blk.new rfl).gr ((Gr.refl _).alloc _)
          have b1 : Blk ((w.alloc (.cells #[.int .i64 N.places, .slice a N.trans.length cap] 28)).alloc (.cells #[.slice ma c.mark.length mc, .slice ba c.busy.length bc] 63)) (w.heap.size + 1) 63 #[.slice ma c.mark.length mc, .slice ba c.busy.length bc] := Blk.new (by simp)
          have C0 := (b0.gr g1).cell (i := 0) rfl
          have C1 := (b0.gr g1).cell (i := 1) rfl
          have C2 := (b1.gr g1).cell (i := 0) rfl
          have C3 := (b1.gr g1).cell (i := 1) rfl
          have G1 : Gr w w1 := by (repeat (first | exact Gr.refl _ | assumption | apply Gr.alloc | apply Gr.drew | apply Gr.drewN | refine Gr.trans ?_ (by assumption)))
          clear b0 b1 g1
          go_wp2_with fail
          refine (Right_calls _ c.mark _ (hM.gr (by (repeat (first | exact Gr.refl _ | assumption | apply Gr.alloc | apply Gr.drew | apply Gr.drewN | refine Gr.trans ?_ (by assumption)))))).mono ?_
          rw [h3]; rintro _ _ ⟨rfl, rfl⟩
          go_wp2_with fail
          go_ret
          exact ⟨ret_bool HF.out.symm, G1⟩
        · cases h4 : rightB c.busy
          · have HF := Lib.hid (show caseOkB N c = false from caseOk_no fun h => by rw [h.br] at h4; cases h4)
            clear h0 h1 h2
            go_enter Try.func140, Try.ntmps140
            go_wp2_with fail
            refine (Wrong_calls _ N _ (hN.gr (by (repeat (first | exact Gr.refl _ | assumption | apply Gr.alloc | apply Gr.drew | apply Gr.drewN | refine Gr.trans ?_ (by assumption)))))).mono ?_
            rw [e0]; rintro _ w1 ⟨rfl, g1⟩
            have b0 : Blk ((w.alloc (.cells #[.int .i64 N.places, .slice a N.trans.length cap] 28)).alloc (.cells #[.slice ma c.mark.length mc, .slice ba c.busy.length bc] 63)) w.heap.size 28 #[.int .i64 N.places, .slice a N.trans.length cap] := (Blk.new rfl).gr ((Gr.refl _).alloc _)
            have b1 : Blk ((w.alloc (.cells #[.int .i64 N.places, .slice a N.trans.length cap] 28)).alloc (.cells #[.slice ma c.mark.length mc, .slice ba c.busy.length bc] 63)) (w.heap.size + 1) 63 #[.slice ma c.mark.length mc, .slice ba c.busy.length bc] := Blk.new (by simp)
            have C0 := (b0.gr g1).cell (i := 0) rfl
            have C1 := (b0.gr g1).cell (i := 1) rfl
            have C2 := (b1.gr g1).cell (i := 0) rfl
            have C3 := (b1.gr g1).cell (i := 1) rfl
            have G1 : Gr w w1 := by (repeat (first | exact Gr.refl _ | assumption | apply Gr.alloc | apply Gr.drew | apply Gr.drewN | refine Gr.trans ?_ (by assumption)))
            clear b0 b1 g1
            go_wp2_with fail
            refine (Right_calls _ c.mark _ (hM.gr (by (repeat (first | exact Gr.refl _ | assumption | apply Gr.alloc | apply Gr.drew | apply Gr.drewN | refine Gr.trans ?_ (by assumption)))))).mono ?_
            rw [h3]; rintro _ _ ⟨rfl, rfl⟩
            go_wp2_with fail
            refine (Right_calls _ c.busy _ (hB.gr (by (repeat (first | exact Gr.refl _ | assumption | apply Gr.alloc | apply Gr.drew | apply Gr.drewN | refine Gr.trans ?_ (by assumption)))))).mono ?_
            rw [h4]; rintro _ _ ⟨rfl, rfl⟩
            go_wp2_with fail
            go_ret
            exact ⟨ret_bool HF.out.symm, G1⟩
          · have HF := Lib.hid (show caseOkB N c = true from caseOk_iff.2 ⟨h0, h1, h2, h3, h4⟩)
            clear h0 h1 h2
            go_enter Try.func140, Try.ntmps140
            go_wp2_with fail
            refine (Wrong_calls _ N _ (hN.gr (by (repeat (first | exact Gr.refl _ | assumption | apply Gr.alloc | apply Gr.drew | apply Gr.drewN | refine Gr.trans ?_ (by assumption)))))).mono ?_
            rw [e0]; rintro _ w1 ⟨rfl, g1⟩
            have b0 : Blk ((w.alloc (.cells #[.int .i64 N.places, .slice a N.trans.length cap] 28)).alloc (.cells #[.slice ma c.mark.length mc, .slice ba c.busy.length bc] 63)) w.heap.size 28 #[.int .i64 N.places, .slice a N.trans.length cap] := (Blk.new rfl).gr ((Gr.refl _).alloc _)
            have b1 : Blk ((w.alloc (.cells #[.int .i64 N.places, .slice a N.trans.length cap] 28)).alloc (.cells #[.slice ma c.mark.length mc, .slice ba c.busy.length bc] 63)) (w.heap.size + 1) 63 #[.slice ma c.mark.length mc, .slice ba c.busy.length bc] := Blk.new (by simp)
            have C0 := (b0.gr g1).cell (i := 0) rfl
            have C1 := (b0.gr g1).cell (i := 1) rfl
            have C2 := (b1.gr g1).cell (i := 0) rfl
            have C3 := (b1.gr g1).cell (i := 1) rfl
            have G1 : Gr w w1 := by (repeat (first | exact Gr.refl _ | assumption | apply Gr.alloc | apply Gr.drew | apply Gr.drewN | refine Gr.trans ?_ (by assumption)))
            clear b0 b1 g1
            go_wp2_with fail
            refine (Right_calls _ c.mark _ (hM.gr (by (repeat (first | exact Gr.refl _ | assumption | apply Gr.alloc | apply Gr.drew | apply Gr.drewN | refine Gr.trans ?_ (by assumption)))))).mono ?_
            rw [h3]; rintro _ _ ⟨rfl, rfl⟩
            go_wp2_with fail
            refine (Right_calls _ c.busy _ (hB.gr (by (repeat (first | exact Gr.refl _ | assumption | apply Gr.alloc | apply Gr.drew | apply Gr.drewN | refine Gr.trans ?_ (by assumption)))))).mono ?_
            rw [h4]; rintro _ _ ⟨rfl, rfl⟩
            go_wp2_with fail
            go_ret
            exact ⟨ret_bool HF.out.symm, G1⟩
      · have q2 : ((c.busy.length : Int) == (N.trans.length : Int)) = false := by simp; omega
        have HF := Lib.hid (show caseOkB N c = false from caseOk_no fun h => h2 h.bl)
        clear h0 h1 h2
        go_enter Try.func140, Try.ntmps140
        go_wp2_with fail
        refine (Wrong_calls _ N _ (hN.gr (by (repeat (first | exact Gr.refl _ | assumption | apply Gr.alloc | apply Gr.drew | apply Gr.drewN | refine Gr.trans ?_ (by assumption)))))).mono ?_
        rw [e0]; rintro _ w1 ⟨rfl, g1⟩
        have b0 : Blk ((w.alloc (.cells #[.int .i64 N.places, .slice a N.trans.length cap] 28)).alloc (.cells #[.slice ma c.mark.length mc, .slice ba c.busy.length bc] 63)) w.heap.size 28 #[.int .i64 N.places, .slice a N.trans.length cap] := (Blk.new rfl).gr ((Gr.refl _).alloc _)
        have b1 : Blk ((w.alloc (.cells #[.int .i64 N.places, .slice a N.trans.length cap] 28)).alloc (.cells #[.slice ma c.mark.length mc, .slice ba c.busy.length bc] 63)) (w.heap.size + 1) 63 #[.slice ma c.mark.length mc, .slice ba c.busy.length bc] := Blk.new (by simp)
        have C0 := (b0.gr g1).cell (i := 0) rfl
        have C1 := (b0.gr g1).cell (i := 1) rfl
        have C2 := (b1.gr g1).cell (i := 0) rfl
        have C3 := (b1.gr g1).cell (i := 1) rfl
        have G1 : Gr w w1 := by (repeat (first | exact Gr.refl _ | assumption | apply Gr.alloc | apply Gr.drew | apply Gr.drewN | refine Gr.trans ?_ (by assumption)))
        clear b0 b1 g1
        go_wp2_with fail
        go_ret
        exact ⟨ret_bool HF.out.symm, G1⟩
    · have q1 : ((c.mark.length : Int) == N.places) = false := by simpa using h1
      have HF := Lib.hid (show caseOkB N c = false from caseOk_no fun h => h1 h.ml)
      clear h0 h1
      go_enter Try.func140, Try.ntmps140
      go_wp2_with fail
      refine (Wrong_calls _ N _ (hN.gr (by (repeat (first | exact Gr.refl _ | assumption | apply Gr.alloc | apply Gr.drew | apply Gr.drewN | refine Gr.trans ?_ (by assumption)))))).mono ?_
      rw [e0]; rintro _ w1 ⟨rfl, g1⟩
      have b0 : Blk ((w.alloc (.cells #[.int .i64 N.places, .slice a N.trans.length cap] 28)).alloc (.cells #[.slice ma c.mark.length mc, .slice ba c.busy.length bc] 63)) w.heap.size 28 #[.int .i64 N.places, .slice a N.trans.length cap] := (Blk.new rfl).gr ((Gr.refl _).alloc _)
      have b1 : Blk ((w.alloc (.cells #[.int .i64 N.places, .slice a N.trans.length cap] 28)).alloc (.cells #[.slice ma c.mark.length mc, .slice ba c.busy.length bc] 63)) (w.heap.size + 1) 63 #[.slice ma c.mark.length mc, .slice ba c.busy.length bc] := Blk.new (by simp)
      have C0 := (b0.gr g1).cell (i := 0) rfl
      have C1 := (b0.gr g1).cell (i := 1) rfl
      have C2 := (b1.gr g1).cell (i := 0) rfl
      have C3 := (b1.gr g1).cell (i := 1) rfl
      have G1 : Gr w w1 := by (repeat (first | exact Gr.refl _ | assumption | apply Gr.alloc | apply Gr.drew | apply Gr.drewN | refine Gr.trans ?_ (by assumption)))
      clear b0 b1 g1
      go_wp2_with fail
      go_ret
      exact ⟨ret_bool HF.out.symm, G1⟩

set_option maxHeartbeats 1000000 in
set_option maxRecDepth 100000 in
theorem busy_own (u : Value) (c : CaseD) (t : Nat) (more : Int) (w : World) (hc : CaseR w u c) (ht : t < c.busy.length) (hr : rightB c.busy = true) (hl : c.busy.length ≤ 24) (hm : -1 ≤ more ∧ more ≤ 1) :
    Calls Try.prog 141 #[u, .int .i64 (t : Int), .int .i64 more] w (RetIO 3 w (busyL c.busy t more)) := by
  obtain ⟨ma, mc, ba, bc, rfl, hml, hml', hbl, hbl', hM, hB⟩ := hc.open_
  have hb := rightB_nth hr t
  have hb1 := hb.1
  have hb2 := hb.2
  have hm1 := hm.1
  have hm2 := hm.2
  have hI : I64 (nth c.busy t + more) := by unfold I64; omega
  have t1 : (0 : Int) ≤ (t : Int) := by omega
  have t2 : (t : Int) < (c.busy.length : Int) := by omega
  have B1 := box_cell (Gr.refl (w.alloc (.cells #[.slice ma c.mark.length mc, .slice ba c.busy.length bc] 63))) (i := 1) rfl
  have HLO := Lib.hid (fun h => busyL_low (b := c.busy) (t := t) (more := more) h)
  have HHI := Lib.hid (fun h => busyL_high (b := c.busy) (t := t) (more := more) h)
  have HOK := Lib.hid (fun h h' => busyL_ok (b := c.busy) (t := t) (more := more) h h')
  clear hb hm hr
  go_enter Try.func141, Try.ntmps141
  go_wp2_with fail
  refine (Clone_calls _ c.busy _ (hB.gr (by (repeat (first | exact Gr.refl _ | assumption | apply Gr.alloc | apply Gr.drew | apply Gr.drewN | refine Gr.trans ?_ (by assumption))))) (by omega)).mono ?_
  rintro _ w1 ⟨v1, rfl, o1, g1⟩
  rcases o1.form with ⟨rfl, h0⟩ | ⟨g, n, rfl, h1, h2, _, _⟩
  · rw [h0] at ht; simp at ht
  · have E0 := o1.cell ht
    have F0 := o1.frozen t
    have o2 := o1.set t _ hI
    have ht2 : t < (c.busy.set t (nth c.busy t + more)).length := by simpa using ht
    have E1 := o2.cell ht2
    rw [nth_set_self ht] at E1
    have G2 : Gr w (w1.setCell ⟨g, t, none⟩ (.int .i64 (nth c.busy t + more))) := Gr.setCell (by (repeat (first | exact Gr.refl _ | assumption | apply Gr.alloc | apply Gr.drew | apply Gr.drewN | refine Gr.trans ?_ (by assumption)))) (by simp at h1 ⊢; omega) _
    by_cases hlo : nth c.busy t + more < 0
    · have HC := Lib.hid (HLO.out hlo)
      go_wp2_with fail
      go_ret2
      exact RetIO.nil HC.out G2
    · by_cases hhi : 1000000 < nth c.busy t + more
      · have HC := Lib.hid (HHI.out hhi)
        go_wp2_with fail
        go_ret2
        exact RetIO.nil HC.out G2
      · have HC := Lib.hid (HOK.out (by omega) (by omega))
        go_wp2_with fail
        go_ret2
        exact RetIO.mk HC.out o2 (by simp) G2

theorem SameInts_calls (v u : Value) (xs ys : List Int) (w : World) (hv : Ints w v xs) (hu : Ints w u ys) :
    Calls Try.prog 130 #[v, u] w fun e w' => e = .returned (.bool (eqB xs ys)) ∧ Gr w w' := by
  go_enter Try.func130, Try.ntmps130
  go_wp2_with fail
  refine (Equal_calls _ _ xs ys _ hv hu).mono ?_
  rintro _ w1 ⟨rfl, g1⟩
  go_wp2_with fail
  go_ret
  exact ⟨rfl, by (repeat (first | exact Gr.refl _ | assumption | apply Gr.alloc | apply Gr.drew | apply Gr.drewN | refine Gr.trans ?_ (by assumption)))⟩

def sameC (c d : CaseD) : Bool := eqB c.mark d.mark && eqB c.busy d.busy
theorem sameC_self (c : CaseD) : sameC c c = true := by unfold sameC; rw [eqB_yes rfl, eqB_yes rfl]; rfl
theorem sameC_no {c d : CaseD} (h : eqB c.mark d.mark = false) : sameC c d = false := by unfold sameC; rw [h]; rfl
theorem sameC_yes {c d : CaseD} (h : eqB c.mark d.mark = true) : sameC c d = eqB c.busy d.busy := by unfold sameC; rw [h]; rfl
theorem sameC_iff {c d : CaseD} : sameC c d = true ↔ c = d := by
  unfold sameC
  rw [Bool.and_eq_true, eqB_iff, eqB_iff]
  constructor
  · intro ⟨h1, h2⟩; cases c; cases d; simp_all
  · rintro rfl; exact ⟨rfl, rfl⟩
set_option maxRecDepth 100000 in
theorem SameCase_calls (v u : Value) (c d : CaseD) (w : World) (hv : CaseR w v c) (hu : CaseR w u d) :
    Calls Try.prog 80 #[v, u] w fun e w' => e = .returned (.bool (sameC c d)) ∧ Gr w w' := by
  obtain ⟨ma, mc, ba, bc, rfl, hml, hml', hbl, hbl', hM, hB⟩ := hv.open_
  obtain ⟨ma', mc', ba', bc', rfl, hmm, hmm', hbb, hbb', hM', hB'⟩ := hu.open_
  have b0 : Blk ((w.alloc (.cells #[.slice ma c.mark.length mc, .slice ba c.busy.length bc] 63)).alloc (.cells #[.slice ma' d.mark.length mc', .slice ba' d.busy.length bc'] 63)) w.heap.size 63 #[.slice ma c.mark.length mc, .slice ba c.busy.length bc] := (Blk.new rfl).gr ((Gr.refl _).alloc _)
  have b1 : Blk ((w.alloc (.cells #[.slice ma c.mark.length mc, .slice ba c.busy.length bc] 63)).alloc (.cells #[.slice ma' d.mark.length mc', .slice ba' d.busy.length bc'] 63)) (w.heap.size + 1) 63 #[.slice ma' d.mark.length mc', .slice ba' d.busy.length bc'] := Blk.new (by simp)
  have C0 := b0.cell (i := 0) rfl
  have C1 := b1.cell (i := 0) rfl
  have HN := Lib.hid (fun h => sameC_no (c := c) (d := d) h)
  have HY := Lib.hid (fun h => sameC_yes (c := c) (d := d) h)
  go_enter Try.func80, Try.ntmps80
  go_wp2_with fail
  refine (SameInts_calls _ _ c.mark d.mark _ (hM.gr (by (repeat (first | exact Gr.refl _ | assumption | apply Gr.alloc | apply Gr.drew | apply Gr.drewN | refine Gr.trans ?_ (by assumption))))) (hM'.gr (by (repeat (first | exact Gr.refl _ | assumption | apply Gr.alloc | apply Gr.drew | apply Gr.drewN | refine Gr.trans ?_ (by assumption)))))).mono ?_
  rintro _ w1 ⟨rfl, g1⟩
  have D0 := (b0.gr g1).cell (i := 1) rfl
  have D1 := (b1.gr g1).cell (i := 1) rfl
  have G1 : Gr w w1 := by (repeat (first | exact Gr.refl _ | assumption | apply Gr.alloc | apply Gr.drew | apply Gr.drewN | refine Gr.trans ?_ (by assumption)))
  clear b0 b1
  cases h : eqB c.mark d.mark
  · have HC := Lib.hid (HN.out h)
    go_wp2_with fail
    go_ret
    exact ⟨ret_bool HC.out.symm, G1⟩
  · have HC := Lib.hid (HY.out h)
    go_wp2_with fail
    refine (SameInts_calls _ _ c.busy d.busy _ (hB.gr (by (repeat (first | exact Gr.refl _ | assumption | apply Gr.alloc | apply Gr.drew | apply Gr.drewN | refine Gr.trans ?_ (by assumption))))) (hB'.gr (by (repeat (first | exact Gr.refl _ | assumption | apply Gr.alloc | apply Gr.drew | apply Gr.drewN | refine Gr.trans ?_ (by assumption)))))).mono ?_
    rintro _ w2 ⟨rfl, g2⟩
    go_wp2_with fail
    go_ret
    exact ⟨ret_bool HC.out.symm, by (repeat (first | exact Gr.refl _ | assumption | apply Gr.alloc | apply Gr.drew | apply Gr.drewN | refine Gr.trans ?_ (by assumption)))⟩
end Go.Proofs.Ytidpppfimkhgkaa
