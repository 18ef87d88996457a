/- The arguments' types of this translation, opened. -/
import Derived.Test.YtjpapgbdhflgnaaRows
import Derived.Test.YtjpapgbdhflgnaaPD
namespace Go.Proofs.Ytjpapgbdhflgnaa
open Go.RowKit Go.Tok Go.ChangeShapes Go.WideShapes Go.ChangeAt
set_option linter.unusedVariables false

set_option maxRecDepth 100000 in
theorem own : ownKnob Try.prog.godebug = none := by kernel_rfl
set_option maxRecDepth 100000 in
theorem laidOut : laidOutB Try.prog = true := by kernel_rfl

section
variable {H : Type} {enc : TypeId × Value → H}
theorem weightsEach_nil (ts : List TypeId) (ds : List (DataW H)) : DataW.weightsEach Try.prog (ts ++ []) (ds ++ []) = DataW.weightsEach Try.prog ts ds := by rw [List.append_nil, List.append_nil]

set_option maxRecDepth 100000 in
theorem ints_arg (W : World) {base : Nat} {v : Value} {d : DataW H} {ps : List MemPlace} (hval : Value.okWide Try.prog W .any base 39 v) (hd : DataW.Trod enc Try.prog W 0 (fun _ => true) true 39 v d ps)
    (hw : ∀ n ∈ d.weights Try.prog 39, n ≤ reachBytes) : ∃ xs, Ints W v xs ∧ xs.length ≤ 17592186043904 := by
  obtain ⟨xs, h1, h2⟩ := ints_open Try.underlying39 Try.underlying3 (by kernel_rfl) hval hd
  exact ⟨xs, h1, h2.reach Try.underlying39 (by kernel_rfl) hw⟩

set_option maxRecDepth 100000 in
theorem netTy : ∃ fn ft, NetTy Try.prog 28 26 48 39 3 fn ft :=
  ⟨_, _, Try.underlying28, ⟨_, _, rfl, rfl, rfl, rfl, rfl⟩, Try.underlying26, Try.underlying48, ⟨_, _, _, rfl, rfl, rfl, rfl, rfl, rfl, rfl⟩, Try.underlying39, Try.underlying3, by kernel_rfl, by kernel_rfl, by kernel_rfl, by kernel_rfl, by kernel_rfl⟩

set_option maxRecDepth 100000 in
theorem net_arg (W : World) {base : Nat} {v : Value} {d : DataW H} {ps : List MemPlace} (hval : Value.okWide Try.prog W .any base 28 v) (hd : DataW.Trod enc Try.prog W 0 (fun _ => true) true 28 v d ps)
    (hw : ∀ n ∈ d.weights Try.prog 28, n ≤ reachBytes) : ∃ N, NetR W v N := by
  obtain ⟨fn, ft, T⟩ := netTy
  obtain ⟨N, h1, _⟩ := net_open T hval hd
  exact ⟨N, h1⟩
end
end Go.Proofs.Ytjpapgbdhflgnaa
