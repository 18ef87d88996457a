/- Contracts of cmp.Less and slices.IsSorted at ints: an ascending list is sorted. -/
import Derived.Test.YtkanaoebpajbfaaGM
import Derived.BigQuiet
import Derived.Deep.QuietTactic
import Derived.IntWalk
import Derived.Test.YtkanaoebpajbfaaPA
namespace Go.Proofs.Ytkanaoebpajbfaa
open Go.RowKit Go.Tok
set_option linter.unusedVariables false

theorem isNaN_calls (x : Int) (w : World) : Calls Try.prog 147 #[.int .i64 x] w fun e w' => e = .returned (.bool false) ∧ w = w' := by
  go_enter Try.func147, Try.ntmps147
  go_wp2
  go_ret
  exact ⟨rfl, rfl⟩
theorem Less_calls (x y : Int) (w : World) : Calls Try.prog 175 #[.int .i64 x, .int .i64 y] w fun e w' => e = .returned (.bool (decide (x < y))) ∧ w = w' := by
  go_enter Try.func175, Try.ntmps175
  go_wp2_with (go_at_call 147; refine (isNaN_calls _ _).mono ?_; rintro e w' ⟨rfl, rfl⟩)
  go_ret
  exact ⟨ret_bool (by simp), rfl⟩
theorem asc_nth {xs : List Int} (h : xs.Pairwise (· < ·)) {i : Nat} (hi : i + 1 < xs.length) : nth xs i ≤ nth xs (i + 1) := by
  rw [nth_lt (by omega), nth_lt hi]
  have := List.pairwise_iff_getElem.1 h i (i + 1) (by omega) hi (by omega)
  omega
end Go.Proofs.Ytkanaoebpajbfaa
