/- The largest of a list; contract of slices.Max at '[]int'. -/
import Derived.Test.YtelfbfjegmncaaaSl
namespace Go.Tok
set_option linter.unusedVariables false

/-- the largest of the first k + 1 -/
def maxTo (xs : List Int) : Nat → Int
  | 0 => nth xs 0
  | k + 1 => max (maxTo xs k) (nth xs (k + 1))
theorem maxTo_zero (xs : List Int) : maxTo xs 0 = nth xs 0 := rfl
theorem maxTo_succ (xs : List Int) (k : Nat) : maxTo xs (k + 1) = max (maxTo xs k) (nth xs (k + 1)) := rfl
theorem maxTo_step (xs : List Int) (k : Nat) : maxTo xs (k + 1) = if maxTo xs k < nth xs (k + 1) then nth xs (k + 1) else maxTo xs k := by
  rw [maxTo_succ]; split <;> omega
theorem maxTo_le (xs : List Int) (b : Int) (k : Nat) : maxTo xs k ≤ b ↔ ∀ i, i ≤ k → nth xs i ≤ b := by
  induction k with
  | zero =>
    rw [maxTo_zero]
    constructor
    · intro h i hi; obtain rfl : i = 0 := by omega
      exact h
    · intro h; exact h 0 (Nat.le_refl _)
  | succ k ih =>
    rw [maxTo_succ]
    constructor
    · intro h i hi
      have h1 := ih.1 (by omega)
      by_cases he : i = k + 1
      · subst he; omega
      · exact h1 i (by omega)
    · intro h
      have h1 := ih.2 fun i hi => h i (by omega)
      have h2 := h (k + 1) (Nat.le_refl _)
      omega
def maxF (xs : List Int) : Int := maxTo xs (xs.length - 1)
theorem maxF_def (xs : List Int) : maxF xs = maxTo xs (xs.length - 1) := rfl
theorem maxF_le {xs : List Int} (b : Int) : maxF (xs ++ [0]) ≤ b ↔ 0 ≤ b ∧ ∀ x ∈ xs, x ≤ b := by
  rw [maxF_def, maxTo_le]
  constructor
  · intro h
    refine ⟨?_, fun x hx => ?_⟩
    · have := h xs.length (by simp)
      rw [nth_lt (by simp)] at this
      simpa using this
    · obtain ⟨i, hi, rfl⟩ := List.getElem_of_mem hx
      have := h i (by simp; omega)
      rw [nth_lt (by simp; omega), List.getElem_append_left hi] at this
      exact this
  · rintro ⟨h0, h⟩ i hi
    by_cases hx : i < xs.length
    · rw [nth_lt (by simp; omega), List.getElem_append_left hx]
      exact h _ (List.getElem_mem hx)
    · by_cases hx2 : i < (xs ++ [0]).length
      · rw [nth_lt hx2, List.getElem_append_right (by omega)]; simpa using h0
      · rw [nth_ge (by omega)]; exact h0
theorem maxF_ge (xs : List Int) : 0 ≤ maxF (xs ++ [0]) := by
  have := (maxF_le (xs := xs) (-1))
  omega
attribute [irreducible] maxTo maxF
end Go.Tok
namespace Go.Proofs.Ytelfbfjegmncaaa
open Go.RowKit Go.Tok
set_option linter.unusedVariables false

set_option maxHeartbeats 1000000 in
theorem Max_calls (v : Value) (xs : List Int) (w : World) (hv : Ints w v xs) (h0 : 0 < xs.length) :
    Calls Try.prog 106 #[v] w fun e w' => e = .returned (.int .i64 (maxF xs)) ∧ w = w' := by
  obtain ⟨a, cap, rfl, hlc, hcap⟩ := hv.len
  obtain ⟨b, o, rfl, c0⟩ := hv.cell h0
  rw [Nat.add_zero] at c0
  go_enter Try.func106, Try.ntmps106
  go_wp2_with fail
  go_loop [3, 4] (fun m i => ∃ k : Nat, k + 1 ≤ xs.length ∧ i = .int .i64 ((k : Int) + 1) ∧ m = .int .i64 (maxTo xs k)) (fun _ i => xs.length - (intOf i).toNat)
  case atStart => exact ⟨0, h0, rfl, by rw [maxTo_zero]⟩
  case round =>
    obtain ⟨k, hk, rfl, rfl⟩ := hrel
    by_cases hlt : k + 1 < xs.length
    · obtain ⟨_, _, hb, hcell⟩ := hv.cell hlt
      cases hb
      have e1 : ((k : Int) + 1) = ((k + 1 : Nat) : Int) := by simp
      have HE := Lib.hid e1
      have n1 : (0 : Int) ≤ ((k + 1 : Nat) : Int) := by omega
      have n2 : ((k + 1 : Nat) : Int) < (xs.length : Int) := by omega
      rw [e1]
      clear e1
      go_wp2_with fail
      go_round
      case rel => exact ⟨k + 1, by omega, by simp, by rw [maxTo_step]⟩
      case measure => simp [intOf]; omega
    · have hk' : xs.length - 1 = k := by omega
      have HK := Lib.hid hk'
      clear hk'
      go_wp2_with fail
      go_ret
      exact ⟨ret_i64 (by rw [maxF_def, HK.out]), rfl⟩
end Go.Proofs.Ytelfbfjegmncaaa
