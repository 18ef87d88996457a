/- The arguments' types of this translation, opened. -/
import Derived.Test.YtkpbhkfpkoiilaaRows
import Derived.Test.YtkpbhkfpkoiilaaWrap
namespace Go.Proofs.Ytkpbhkfpkoiilaa
open Go.RowKit Go.Tok Go.ChangeShapes Go.WideShapes Go.ChangeAt

theorem own : ownKnob Try.prog.godebug = none := by kernel_rfl
theorem laidOut : laidOutB Try.prog = true := by kernel_rfl

section
variable {H : Type} {enc : TypeId × Value → H}
theorem weightsEach_nil (ts : List TypeId) (ds : List (DataW H)) : DataW.weightsEach Try.prog (ts ++ []) (ds ++ []) = DataW.weightsEach Try.prog ts ds := by rw [List.append_nil, List.append_nil]

theorem ints_arg (W : World) {base : Nat} {v : Value} {d : DataW H} {ps : List MemPlace} (hval : Value.okWide Try.prog W .any base 36 v) (hd : DataW.Trod enc Try.prog W 0 (fun _ => true) true 36 v d ps)
    (hw : ∀ n ∈ d.weights Try.prog 36, n ≤ reachBytes) : ∃ xs, Ints W v xs ∧ xs.length ≤ 17592186043904 :=
  ints_open Try.underlying36 Try.underlying3 (by kernel_rfl) (by kernel_rfl) hval hd hw
end
end Go.Proofs.Ytkpbhkfpkoiilaa
