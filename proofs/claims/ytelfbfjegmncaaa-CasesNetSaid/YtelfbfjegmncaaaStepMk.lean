/- 'make([]int, n)' as an operation alone, in a region that draws its order. No program is in sight here. -/
import Derived.Test.YtelfbfjegmncaaaStep
import Derived.Test.YtelfbfjegmncaaaLast
namespace Go.Tok
open Go.RowKit
set_option linter.unusedVariables false

theorem step_mk_ints {P : Program} {t e : TypeId} (T : IntTy P t e) {ops : Array Oper} {o : Oper} {a : Act} {w : World} {K : Act → World → Prop} {Q : Exit → Act → World → Prop} {E : Prop} (hgd : o.guard = none) (l c : Operand)
    (ho : o.op = Op.makeSlice t l c) (base n : Nat) (L C : Int) (hl : a.eval l = .int .i64 L) (hc : a.eval c = .int .i64 C) (hL : L = (n : Int)) (hC : C = (n : Int)) (hn : n ≤ 35184372088832) (hbase : base ≤ w.heap.size)
    (hK : ∀ w', OwnI e base w' (.slice (some ⟨w.heap.size, 0, none⟩) n n) (List.replicate n 0) → Gr w w' → w.heap.size < w'.heap.size → K (a.put o.dst (.slice (some ⟨w.heap.size, 0, none⟩) n n)) w') :
    if Region.wanted o (yielded ops a.tmps) = true then Oper.wp P o a w K Q else E := by
  have hw : Region.wanted o (yielded ops a.tmps) = true := by simp [Region.wanted, hgd]
  rw [if_pos hw]
  obtain ⟨i, hi, hz, hs, hb⟩ := info_parts T.info
  obtain ⟨w', hrun, r1, r2⟩ := run_make_full (P := P) w base t e i _ 1 T.und hi hz hs .i64 .i64 n (by rw [hb]; omega) (by unfold maxLen; omega) hbase
  subst hL
  subst hC
  unfold Oper.wp
  simp [execOp, ho, hl, hc, hrun, Result.andThen]
  refine hK w' ?_ ?_ ?_
  · unfold OwnI
    refine ⟨?_, replicate_i64 n⟩
    simp only [Value.cells, Nat.mul_one, toList_madeCells_one] at r1
    simpa using r1
  · unfold Gr
    exact ⟨r2.os, r2.tape, r2.output, r2.size, fun k hk => r2.block k hk (by simp)⟩
  · exact (r1.lt w.heap.size rfl).2
/-- 'make([]int, n)' as an equation of its run, for a region that draws its order -/
theorem run_mk_ints {P : Program} {t e : TypeId} (T : IntTy P t e) (n : Nat) (hn : n ≤ 35184372088832) : ∃ f : World → World, ∀ w,
    (Instr.makeSlice t (.int .i64 (n : Int)) (.int .i64 (n : Int))).run P w = .ok (.slice (some ⟨w.heap.size, 0, none⟩) n n) (f w) ∧
      OwnI e w.heap.size (f w) (.slice (some ⟨w.heap.size, 0, none⟩) n n) (List.replicate n 0) ∧ Gr w (f w) ∧ w.heap.size < (f w).heap.size := by
  have h : ∀ w : World, ∃ w', (Instr.makeSlice t (.int .i64 (n : Int)) (.int .i64 (n : Int))).run P w = .ok (.slice (some ⟨w.heap.size, 0, none⟩) n n) w' ∧
      OwnI e w.heap.size w' (.slice (some ⟨w.heap.size, 0, none⟩) n n) (List.replicate n 0) ∧ Gr w w' ∧ w.heap.size < w'.heap.size := by
    intro w
    obtain ⟨i, hi, hz, hs, hb⟩ := info_parts T.info
    obtain ⟨w', hrun, r1, r2⟩ := run_make_full (P := P) w w.heap.size t e i _ 1 T.und hi hz hs .i64 .i64 n (by rw [hb]; omega) (by unfold maxLen; omega) (Nat.le_refl _)
    refine ⟨w', hrun, ?_, ?_, (r1.lt w.heap.size rfl).2⟩
    · unfold OwnI
      refine ⟨?_, replicate_i64 n⟩
      simp only [Value.cells, Nat.mul_one, toList_madeCells_one] at r1
      simpa using r1
    · unfold Gr
      exact ⟨r2.os, r2.tape, r2.output, r2.size, fun k hk => r2.block k hk (by simp)⟩
  exact ⟨fun w => Classical.choose (h w), fun w => Classical.choose_spec (h w)⟩
end Go.Tok
namespace Go.Proofs.Ytelfbfjegmncaaa
open Go.RowKit Go.Tok
/-- two operations are ready: either may be the next one -/
theorem fork {P : Program} {Q : Exit → Act → World → Prop} {S : World → Prop} {md : Region.Mode} {ops : Array Oper} {i j : Nat} {oi oj : Oper} {fuel : Nat} {listed : Array Bool} {a : Act} {w : World} (hi : ops[i]? = some oi) (hj : ops[j]? = some oj) (hr : Region.ready md ops listed = [i, j])
    (h1 : ∀ K' : Act → World → Prop, Shut (∀ a w, S w → (S w → wpAnyH P md ops Q S fuel (listed.setIfInBounds i true) a w) → K' a w) → if Region.wanted oi (yielded ops a.tmps) = true then Oper.wp P oi a w K' Q else K' (a.put oi.dst undef) w)
    (h2 : ∀ K' : Act → World → Prop, Shut (∀ a w, S w → (S w → wpAnyH P md ops Q S fuel (listed.setIfInBounds j true) a w) → K' a w) → if Region.wanted oj (yielded ops a.tmps) = true then Oper.wp P oj a w K' Q else K' (a.put oj.dst undef) w) :
    wpAnyH P md ops Q S (fuel + 1) listed a w :=
  wpAnyH_ready hr (by simp) (AllReadyH.cons (o := oi) hi h1 (AllReadyH.cons (o := oj) hj h2 AllReadyH.nil))
theorem fork_2_6 {P : Program} {Q : Exit → Act → World → Prop} {S : World → Prop} {md : Region.Mode} {o0 o1 o2 o3 o4 o5 o6 : Oper} {rest : List Oper} {fuel : Nat} {listed : Array Bool} {a : Act} {w : World}
    (hr : Region.ready md (List.toArray (o0 :: o1 :: o2 :: o3 :: o4 :: o5 :: o6 :: rest)) listed = [2, 6])
    (h2 : ∀ K' : Act → World → Prop, Shut (∀ a w, S w → (S w → wpAnyH P md (List.toArray (o0 :: o1 :: o2 :: o3 :: o4 :: o5 :: o6 :: rest)) Q S fuel (listed.setIfInBounds 2 true) a w) → K' a w) → if Region.wanted o2 (yielded (List.toArray (o0 :: o1 :: o2 :: o3 :: o4 :: o5 :: o6 :: rest)) a.tmps) = true then Oper.wp P o2 a w K' Q else K' (a.put o2.dst undef) w)
    (h6 : ∀ K' : Act → World → Prop, Shut (∀ a w, S w → (S w → wpAnyH P md (List.toArray (o0 :: o1 :: o2 :: o3 :: o4 :: o5 :: o6 :: rest)) Q S fuel (listed.setIfInBounds 6 true) a w) → K' a w) → if Region.wanted o6 (yielded (List.toArray (o0 :: o1 :: o2 :: o3 :: o4 :: o5 :: o6 :: rest)) a.tmps) = true then Oper.wp P o6 a w K' Q else K' (a.put o6.dst undef) w) : wpAnyH P md (List.toArray (o0 :: o1 :: o2 :: o3 :: o4 :: o5 :: o6 :: rest)) Q S (fuel + 1) listed a w := fork (i := 2) (j := 6) rfl rfl hr h2 h6
end Go.Proofs.Ytelfbfjegmncaaa
