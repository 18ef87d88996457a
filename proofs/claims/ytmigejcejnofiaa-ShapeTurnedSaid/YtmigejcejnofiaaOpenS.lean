/- A net among the arguments: its lists are no longer than the memory allows. -/
import Derived.Test.YtmigejcejnofiaaOpen
import Derived.Test.YtmigejcejnofiaaNet4
namespace Go.Proofs.Ytmigejcejnofiaa
open Go.RowKit Go.Tok Go.ChangeShapes Go.WideShapes Go.ChangeAt
set_option linter.unusedVariables false

section
variable {H : Type} {enc : TypeId × Value → H}
theorem weightsAll_mem {P : Program} {e : TypeId} {d : DataW H} {es : List (DataW H)} (h : d ∈ es) {n : Nat} (hn : n ∈ d.weights P e) : n ∈ DataW.weightsAll P e es := by
  induction es with
  | nil => simp at h
  | cons a r ih =>
    simp only [DataW.weightsAll, List.mem_append]
    rcases List.mem_cons.1 h with rfl | h
    · exact .inl hn
    · exact .inr (ih h)
set_option maxRecDepth 100000 in
theorem netS_arg (W : World) {base : Nat} {v : Value} {d : DataW H} {ps : List MemPlace} (hval : Value.okWide Try.prog W .any base 24 v) (hd : DataW.Trod enc Try.prog W 0 (fun _ => true) true 24 v d ps)
    (hw : ∀ n ∈ d.weights Try.prog 24, n ≤ reachBytes) : ∃ N, NetR W v N ∧ NetSmall N := by
  have hr : reachBytes = 140737488351232 := by decide
  obtain ⟨fn, ft, T⟩ := netTy
  obtain ⟨N, h1, d0, d1, rfl, h2⟩ := net_open T hval hd
  obtain ⟨f0, f1, rfl, _, _, _, ht1⟩ := T.nets
  refine ⟨N, h1, ?_⟩
  have hw1 : ∀ n ∈ d1.weights Try.prog 22, n ≤ reachBytes := fun n hn => hw n (by simp [DataW.weights, T.net, DataW.weightsEach, ht1, hn])
  unfold NetSmall
  rcases h2 with ⟨rfl, h3⟩ | ⟨es, sp, rfl, h3, h4⟩
  · rw [h3]; simp
  · have hl := hw1 ((es.length + sp.length) * Try.prog.bytesOf 74) (by simp [DataW.weights, T.trans])
    rw [show Try.prog.bytesOf 74 = 56 by kernel_rfl, hr] at hl
    refine ⟨by omega, fun k hk => ?_⟩
    obtain ⟨e0, e1, e2, k1, k2, k3⟩ := h4 k hk
    have hm : DataW.agg [e0, e1, e2] ∈ es := List.mem_of_getElem? k1
    obtain ⟨g0, g1, g2, rfl, _, _, _, _, t1, t2⟩ := T.trs
    have hwe : ∀ n ∈ (DataW.agg [e0, e1, e2]).weights Try.prog 74, n ≤ reachBytes := fun n hn => hw1 n (by
      simp only [DataW.weights, T.trans, List.mem_cons, List.mem_append]
      exact .inr (.inl (weightsAll_mem hm hn)))
    have w1 : ∀ n ∈ e1.weights Try.prog 30, n ≤ reachBytes := fun n hn => hwe n (by simp [DataW.weights, T.tran, DataW.weightsEach, t1, hn])
    have w2 : ∀ n ∈ e2.weights Try.prog 30, n ≤ reachBytes := fun n hn => hwe n (by simp [DataW.weights, T.tran, DataW.weightsEach, t2, hn])
    have l1 := k2.reach T.uSl (by kernel_rfl) w1
    have l2 := k3.reach T.uSl (by kernel_rfl) w2
    omega
end
end Go.Proofs.Ytmigejcejnofiaa
