/- The arguments' types of this translation, opened. -/
import Derived.Test.YtiflolklgmmgeaaDoorRows
import Derived.Test.YtiflolklgmmgeaaDoorPD
namespace Go.Proofs.YtiflolklgmmgeaaDoor
open Go.RowKit Go.Tok Go.ChangeShapes Go.WideShapes Go.ChangeAt
set_option linter.unusedVariables false

set_option maxRecDepth 100000 in
theorem own : ownKnob Tryd.prog.godebug = none := by kernel_rfl
set_option maxRecDepth 100000 in
theorem laidOut : laidOutB Tryd.prog = true := by kernel_rfl

section
variable {H : Type} {enc : TypeId × Value → H}
theorem weightsEach_nil (ts : List TypeId) (ds : List (DataW H)) : DataW.weightsEach Tryd.prog (ts ++ []) (ds ++ []) = DataW.weightsEach Tryd.prog ts ds := by rw [List.append_nil, List.append_nil]

set_option maxRecDepth 100000 in
theorem ints_arg (W : World) {base : Nat} {v : Value} {d : DataW H} {ps : List MemPlace} (hval : Value.okWide Tryd.prog W .any base 39 v) (hd : DataW.Trod enc Tryd.prog W 0 (fun _ => true) true 39 v d ps)
    (hw : ∀ n ∈ d.weights Tryd.prog 39, n ≤ reachBytes) : ∃ xs, Ints W v xs ∧ xs.length ≤ 17592186043904 := by
  obtain ⟨xs, h1, h2⟩ := ints_open Tryd.underlying39 Tryd.underlying3 (by kernel_rfl) hval hd
  exact ⟨xs, h1, h2.reach Tryd.underlying39 (by kernel_rfl) hw⟩

set_option maxRecDepth 100000 in
theorem netTy : ∃ fn ft, NetTy Tryd.prog 25 23 41 39 3 fn ft :=
  ⟨_, _, Tryd.underlying25, ⟨_, _, rfl, rfl, rfl, rfl, rfl⟩, Tryd.underlying23, Tryd.underlying41, ⟨_, _, _, rfl, rfl, rfl, rfl, rfl, rfl, rfl⟩, Tryd.underlying39, Tryd.underlying3, by kernel_rfl, by kernel_rfl, by kernel_rfl, by kernel_rfl, by kernel_rfl⟩

set_option maxRecDepth 100000 in
theorem net_arg (W : World) {base : Nat} {v : Value} {d : DataW H} {ps : List MemPlace} (hval : Value.okWide Tryd.prog W .any base 25 v) (hd : DataW.Trod enc Tryd.prog W 0 (fun _ => true) true 25 v d ps)
    (hw : ∀ n ∈ d.weights Tryd.prog 25, n ≤ reachBytes) : ∃ N, NetR W v N := by
  obtain ⟨fn, ft, T⟩ := netTy
  obtain ⟨N, h1, _⟩ := net_open T hval hd
  exact ⟨N, h1⟩
end
end Go.Proofs.YtiflolklgmmgeaaDoor
