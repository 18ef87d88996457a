/- Contracts of cmp.Less and slices.IsSorted at ints: an ascending list is sorted. -/
import Derived.Test.YtmigejcejnofiaaMark
import Derived.BigQuiet
import Derived.Deep.QuietTactic
import Derived.IntWalk
import Derived.Test.YtmigejcejnofiaaStep
namespace Go.Proofs.Ytmigejcejnofiaa
open Go.RowKit Go.Tok
set_option linter.unusedVariables false

theorem isNaN_calls (x : Int) (w : World) : Calls Try.prog 103 #[.int .i64 x] w fun e w' => e = .returned (.bool false) ∧ w = w' := by
  go_enter Try.func103, Try.ntmps103
  go_wp2
  go_ret
  exact ⟨rfl, rfl⟩
theorem Less_calls (x y : Int) (w : World) : Calls Try.prog 72 #[.int .i64 x, .int .i64 y] w fun e w' => e = .returned (.bool (decide (x < y))) ∧ w = w' := by
  go_enter Try.func72, Try.ntmps72
  go_wp2_with (go_at_call 103; refine (isNaN_calls _ _).mono ?_; rintro e w' ⟨rfl, rfl⟩)
  go_ret
  exact ⟨ret_bool (by simp), rfl⟩
theorem asc_nth {xs : List Int} (h : xs.Pairwise (· < ·)) {i : Nat} (hi : i + 1 < xs.length) : nth xs i ≤ nth xs (i + 1) := by
  rw [nth_lt (by omega), nth_lt hi]
  have := List.pairwise_iff_getElem.1 h i (i + 1) (by omega) hi (by omega)
  omega
set_option maxHeartbeats 1000000 in
theorem IsSorted_calls (v : Value) (xs : List Int) (w : World) (hv : Ints w v xs) (hs : xs.Pairwise (· < ·)) :
    Calls Try.prog 29 #[v] w fun e w' => e = .returned (.bool true) ∧ Gr w w' := by
  obtain ⟨a, cap, rfl, hlc, hcap⟩ := hv.len
  go_enter Try.func29, Try.ntmps29
  go_wp2_with fail
  go_loopw [3] (fun i wr => ∃ k : Nat, k ≤ xs.length ∧ i = .int .i64 ((xs.length : Int) - 1 - k) ∧ Gr w wr) (fun i _ => (intOf i).toNat)
  case atStart => exact ⟨0, by omega, by simp, Gr.refl _⟩
  case round =>
    rename_i wr _
    obtain ⟨k, hk, rfl, hgr⟩ := hrel
    by_cases hlt : k + 1 < xs.length
    · obtain ⟨j, hj⟩ : ∃ j, xs.length = k + 2 + j := ⟨xs.length - 2 - k, by omega⟩
      have e1 : (xs.length : Int) - 1 - k = ((j + 1 : Nat) : Int) := by omega
      have e2 : ((j + 1 : Nat) : Int) - 1 = (j : Int) := by omega
      have hle := asc_nth hs (i := j) (by omega)
      obtain ⟨b, o, rfl, c1⟩ := (hv.gr hgr).cell (show j + 1 < xs.length by omega)
      obtain ⟨b', o', hb, c2⟩ := (hv.gr hgr).cell (show j < xs.length by omega)
      cases hb
      have n1 : (0 : Int) ≤ ((j + 1 : Nat) : Int) := by omega
      have n2 : ((j + 1 : Nat) : Int) < (xs.length : Int) := by omega
      have n3 : (0 : Int) ≤ (j : Int) := by omega
      have n4 : (j : Int) < (xs.length : Int) := by omega
      have n5 : (j : Int) + 1 < (xs.length : Int) := by omega
      rw [e1]
      have HJ := Lib.hid hj
      clear hj e1
      go_wp2_with fail
      have e3 : decide (nth xs (j + 1) < nth xs j) = false := by simpa using hle
      have e4 : IntKind.i64.wrap (((j + 1 : Nat) : Int) - 1) = (j : Int) := by rw [e2]; exact IntWalk.i64_in _ (by omega)
      go_quiet ((go_at_call 72; exact Calls.quiet_of_same (same_quiet (Less_calls _ _ _))))
      clear e4
      go_wp2_with fail
      go_roundw
      case rel => exact ⟨k + 1, by omega, by have := HJ.out; simp; omega, hgr.drewN _⟩
      case measure => simp [intOf]
    · go_wp2_with fail
      go_ret
      exact ⟨rfl, hgr⟩
end Go.Proofs.Ytmigejcejnofiaa
