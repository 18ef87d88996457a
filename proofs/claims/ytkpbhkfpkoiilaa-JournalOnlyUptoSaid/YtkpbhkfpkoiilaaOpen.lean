/- The arguments' types of this translation, opened. -/
import Derived.Test.YtkpbhkfpkoiilaaRows
import Derived.Test.YtkpbhkfpkoiilaaWrap
import Derived.Test.YtkpbhkfpkoiilaaNetArg
namespace Go.Proofs.Ytkpbhkfpkoiilaa
open Go.RowKit Go.Tok Go.ChangeShapes Go.WideShapes Go.ChangeAt
set_option linter.unusedVariables false

theorem own : ownKnob Try.prog.godebug = none := by kernel_rfl
theorem laidOut : laidOutB Try.prog = true := by kernel_rfl

section
variable {H : Type} {enc : TypeId × Value → H}
theorem weightsEach_nil (ts : List TypeId) (ds : List (DataW H)) : DataW.weightsEach Try.prog (ts ++ []) (ds ++ []) = DataW.weightsEach Try.prog ts ds := by rw [List.append_nil, List.append_nil]

theorem ints_arg (W : World) {base : Nat} {v : Value} {d : DataW H} {ps : List MemPlace} (hval : Value.okWide Try.prog W .any base 36 v) (hd : DataW.Trod enc Try.prog W 0 (fun _ => true) true 36 v d ps)
    (hw : ∀ n ∈ d.weights Try.prog 36, n ≤ reachBytes) : ∃ xs, Ints W v xs ∧ xs.length ≤ 17592186043904 := by
  obtain ⟨xs, h1, h2⟩ := ints_open Try.underlying36 Try.underlying3 (by kernel_rfl) hval hd
  exact ⟨xs, h1, h2.reach Try.underlying36 (by kernel_rfl) hw⟩

theorem netTy : ∃ fn ft, NetTy Try.prog 44 42 54 36 3 fn ft :=
  ⟨_, _, Try.underlying44, ⟨_, _, rfl, rfl, rfl, rfl, rfl⟩, Try.underlying42, Try.underlying54, ⟨_, _, _, rfl, rfl, rfl, rfl, rfl, rfl, rfl⟩, Try.underlying36, Try.underlying3, by kernel_rfl, by kernel_rfl, by kernel_rfl, by kernel_rfl, by kernel_rfl⟩

theorem net_arg (W : World) {base : Nat} {v : Value} {d : DataW H} {ps : List MemPlace} (hval : Value.okWide Try.prog W .any base 44 v) (hd : DataW.Trod enc Try.prog W 0 (fun _ => true) true 44 v d ps)
    (hw : ∀ n ∈ d.weights Try.prog 44, n ≤ reachBytes) : ∃ N, NetR W v N := by
  obtain ⟨fn, ft, T⟩ := netTy
  obtain ⟨N, h1, _⟩ := net_open T hval hd
  exact ⟨N, h1⟩
end
end Go.Proofs.Ytkpbhkfpkoiilaa
