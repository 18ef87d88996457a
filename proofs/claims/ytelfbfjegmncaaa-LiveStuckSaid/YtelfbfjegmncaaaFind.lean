/- The first element that meets a predicate. No program is in sight here. -/
import Derived.Test.YtelfbfjegmncaaaGen
import Derived.Test.YtelfbfjegmncaaaNetD
namespace Go.Tok
open Go.RowKit
set_option linter.unusedVariables false

section
variable {α : Type}
/-- the first place at which p holds, or -1 -/
def firstI (p : α → Bool) : List α → Int
  | [] => -1
  | x :: r => if p x then 0 else if firstI p r = -1 then -1 else firstI p r + 1
def NoneI [Inhabited α] (p : α → Bool) (xs : List α) (k : Nat) : Prop := ∀ i, i < k → p (ix xs i) = false
theorem NoneI.intro [Inhabited α] {p : α → Bool} {xs : List α} {k : Nat} (h : ∀ i, i < k → p (ix xs i) = false) : NoneI p xs k := h
theorem NoneI.zero [Inhabited α] (p : α → Bool) (xs : List α) : NoneI p xs 0 := fun i hi => by omega
theorem NoneI.succ [Inhabited α] {p : α → Bool} {xs : List α} {k : Nat} (h : NoneI p xs k) (hk : p (ix xs k) = false) : NoneI p xs (k + 1) := fun i hi => by
  rcases Nat.lt_or_ge i k with h1 | h1
  · exact h i h1
  · obtain rfl : i = k := by omega
    exact hk
theorem NoneI.all [Inhabited α] {p : α → Bool} {xs : List α} (h : NoneI p xs xs.length) : xs.any p = false := by
  rw [List.any_eq_false]
  intro x hx
  obtain ⟨i, hi, rfl⟩ := List.getElem_of_mem hx
  have := h i hi
  rw [ix_lt hi] at this
  simp [this]
theorem firstI_ge (p : α → Bool) (xs : List α) : -1 ≤ firstI p xs := by
  induction xs with
  | nil => simp [firstI]
  | cons x r ih => simp only [firstI]; split <;> (try split) <;> omega
theorem firstI_hit [Inhabited α] {p : α → Bool} {xs : List α} {k : Nat} (h : NoneI p xs k) (hk : k < xs.length) (hp : p (ix xs k) = true) : firstI p xs = k := by
  induction xs generalizing k with
  | nil => simp at hk
  | cons x r ih =>
    cases k with
    | zero => rw [ix_zero] at hp; simp [firstI, hp]
    | succ k =>
      have h0 : p x = false := by have := h 0 (by omega); rwa [ix_zero] at this
      have hr := ih (k := k) (fun i hi => by have := h (i + 1) (by omega); rwa [ix_succ] at this) (by simpa using hk) (by rwa [ix_succ] at hp)
      simp only [firstI]
      rw [if_neg (by simp [h0]), hr, if_neg (by omega)]
      simp
theorem firstI_miss [Inhabited α] {p : α → Bool} {xs : List α} (h : NoneI p xs xs.length) : firstI p xs = -1 := by
  induction xs with
  | nil => rfl
  | cons x r ih =>
    have h0 : p x = false := by have := h 0 (by simp); rwa [ix_zero] at this
    have hr := ih (fun i hi => by have := h (i + 1) (by simp; omega); rwa [ix_succ] at this)
    simp [firstI, h0, hr]
theorem firstI_any (p : α → Bool) (xs : List α) : decide (0 ≤ firstI p xs) = xs.any p := by
  induction xs with
  | nil => simp [firstI]
  | cons x r ih =>
    have := firstI_ge p r
    simp only [firstI, List.any_cons]
    by_cases h : p x = true
    · simp [h]
    · simp only [h, Bool.false_or, ← ih]
      simp only [Bool.false_eq_true, if_false]
      split
      · rename_i h1; rw [h1]
      · rw [decide_eq_decide]; omega
theorem firstI_nil (p : α → Bool) : firstI p [] = -1 := by simp [firstI]
theorem firstI_lt (p : α → Bool) (xs : List α) : firstI p xs < xs.length ∨ xs = [] := by
  induction xs with
  | nil => exact .inr rfl
  | cons x r ih =>
    left
    simp only [firstI, List.length_cons]
    rcases ih with h | h
    · split <;> (try split) <;> omega
    · subst h; simp [firstI]; split <;> omega
/-- what is found -/
theorem firstI_some [Inhabited α] {p : α → Bool} {xs : List α} {k : Nat} (h : firstI p xs = k) : k < xs.length ∧ p (ix xs k) = true ∧ NoneI p xs k := by
  induction xs generalizing k with
  | nil => simp [firstI] at h
  | cons x r ih =>
    simp only [firstI] at h
    by_cases hx : p x = true
    · rw [if_pos hx] at h
      have : k = 0 := by omega
      subst this
      exact ⟨by simp, by rw [ix_zero]; exact hx, NoneI.zero _ _⟩
    · rw [if_neg hx] at h
      split at h
      · omega
      · have hg := firstI_ge p r
        obtain ⟨j, hj⟩ : ∃ j : Nat, firstI p r = j := ⟨(firstI p r).toNat, by omega⟩
        obtain ⟨h1, h2, h3⟩ := ih hj
        have : k = j + 1 := by omega
        subst this
        refine ⟨by simp; omega, by rw [ix_succ]; exact h2, fun i hi => ?_⟩
        cases i with
        | zero => rw [ix_zero]; simpa using hx
        | succ i => rw [ix_succ]; exact h3 i (by omega)
theorem firstI_none {p : α → Bool} {xs : List α} (h : firstI p xs = -1) : xs.any p = false := by
  rw [← firstI_any, h]; rfl
end
theorem TransR.at_ix {w : World} {a : Option Addr} {n cap : Nat} {ts : List TranD} (h : TransR w (.slice a n cap) ts) {i : Nat} (hi : i < ts.length) :
    ∃ b o vp vq, a = some ⟨b, o, none⟩ ∧ w.cell? ⟨b, o + i * 3, none⟩ = some (.int .i64 (ix ts i).label) ∧ w.cell? ⟨b, o + i * 3 + 1, none⟩ = some vp ∧ w.cell? ⟨b, o + i * 3 + 2, none⟩ = some vq ∧
      I64 (ix ts i).label ∧ Ints w vp (ix ts i).pre ∧ Ints w vq (ix ts i).post := by
  unfold TransR at h
  obtain ⟨a', cap', h1, h2, h3, h4⟩ := h
  cases h1
  rw [ix_def]
  exact h4 i hi
theorem TransR.len {w : World} {v : Value} {ts : List TranD} (h : TransR w v ts) : ∃ a cap, v = .slice a ts.length cap ∧ ts.length ≤ cap ∧ cap ≤ 9223372036854775807 := by
  unfold TransR at h
  obtain ⟨a, cap, h1, h2, h3, _⟩ := h
  exact ⟨a, cap, h1, h2, by unfold maxLen at h3; omega⟩
theorem tr_ix (N : NetD) (i : Nat) : N.tr i = ix N.trans i := by unfold NetD.tr ix; rfl
attribute [irreducible] firstI NoneI
end Go.Tok
