/- The largest of a list; when all weights of a transition are 0 or 1 and it takes something. No program is in sight here. -/
import Derived.Test.YtmigejcejnofiaaSiphLaw
namespace Go.Tok
set_option linter.unusedVariables false

/-- the largest of the first k + 1 -/
def maxTo (xs : List Int) : Nat → Int
  | 0 => nth xs 0
  | k + 1 => max (maxTo xs k) (nth xs (k + 1))
theorem maxTo_zero (xs : List Int) : maxTo xs 0 = nth xs 0 := rfl
theorem maxTo_succ (xs : List Int) (k : Nat) : maxTo xs (k + 1) = max (maxTo xs k) (nth xs (k + 1)) := rfl
theorem maxTo_step (xs : List Int) (k : Nat) : maxTo xs (k + 1) = if maxTo xs k < nth xs (k + 1) then nth xs (k + 1) else maxTo xs k := by
  rw [maxTo_succ]; split <;> omega
theorem maxTo_le (xs : List Int) (b : Int) (k : Nat) : maxTo xs k ≤ b ↔ ∀ i, i ≤ k → nth xs i ≤ b := by
  induction k with
  | zero =>
    rw [maxTo_zero]
    constructor
    · intro h i hi; obtain rfl : i = 0 := by omega
      exact h
    · intro h; exact h 0 (Nat.le_refl _)
  | succ k ih =>
    rw [maxTo_succ]
    constructor
    · intro h i hi
      have h1 := ih.1 (by omega)
      by_cases he : i = k + 1
      · subst he; omega
      · exact h1 i (by omega)
    · intro h
      have h1 := ih.2 fun i hi => h i (by omega)
      have h2 := h (k + 1) (Nat.le_refl _)
      omega
def maxF (xs : List Int) : Int := maxTo xs (xs.length - 1)
theorem maxF_def (xs : List Int) : maxF xs = maxTo xs (xs.length - 1) := rfl
theorem maxF_le {xs : List Int} (b : Int) : maxF (xs ++ [0]) ≤ b ↔ 0 ≤ b ∧ ∀ x ∈ xs, x ≤ b := by
  rw [maxF_def, maxTo_le]
  constructor
  · intro h
    refine ⟨?_, fun x hx => ?_⟩
    · have := h xs.length (by simp)
      rw [nth_lt (by simp)] at this
      simpa using this
    · obtain ⟨i, hi, rfl⟩ := List.getElem_of_mem hx
      have := h i (by simp; omega)
      rw [nth_lt (by simp; omega), List.getElem_append_left hi] at this
      exact this
  · rintro ⟨h0, h⟩ i hi
    by_cases hx : i < xs.length
    · rw [nth_lt (by simp; omega), List.getElem_append_left hx]
      exact h _ (List.getElem_mem hx)
    · by_cases hx2 : i < (xs ++ [0]).length
      · rw [nth_lt hx2, List.getElem_append_right (by omega)]; simpa using h0
      · rw [nth_ge (by omega)]; exact h0
theorem maxF_ge (xs : List Int) : 0 ≤ maxF (xs ++ [0]) := by
  have := (maxF_le (xs := xs) (-1))
  omega
theorem ordT_def (t : TranD) : ordT t = ((t.pre ++ t.post).all (fun x => decide (x ≤ 1)) && t.pre.any (fun x => decide (0 < x))) := by unfold ordT; rfl
theorem ord_cases (t : TranD) : (1 < maxF (t.pre ++ t.post ++ [0]) ∧ ordT t = false) ∨ (maxF (t.pre ++ t.post ++ [0]) ≤ 1 ∧ maxF (t.pre ++ [0]) = 0 ∧ ordT t = false) ∨ (maxF (t.pre ++ t.post ++ [0]) ≤ 1 ∧ maxF (t.pre ++ [0]) ≠ 0 ∧ ordT t = true) := by
  rw [ordT_def]
  by_cases h1 : maxF (t.pre ++ t.post ++ [0]) ≤ 1
  · have h2 := ((maxF_le (xs := t.pre ++ t.post) 1).1 h1).2
    have h3 : ((t.pre ++ t.post).all fun x => decide (x ≤ 1)) = true := by
      rw [List.all_eq_true]; exact fun x hx => decide_eq_true (h2 x hx)
    have h0 := maxF_ge t.pre
    by_cases h4 : maxF (t.pre ++ [0]) = 0
    · refine .inr (.inl ⟨h1, h4, ?_⟩)
      have h5 := ((maxF_le (xs := t.pre) 0).1 (by omega)).2
      rw [h3, Bool.true_and, List.any_eq_false]
      intro x hx
      have := h5 x hx
      simp; omega
    · refine .inr (.inr ⟨h1, h4, ?_⟩)
      rw [h3, Bool.true_and, List.any_eq_true]
      rcases Classical.em (∃ x, x ∈ t.pre ∧ decide (0 < x) = true) with h5 | h5
      · exact h5
      · exfalso
        have := (maxF_le (xs := t.pre) 0).2 ⟨by omega, fun x hx => by
          rcases Int.lt_or_le 0 x with h6 | h6
          · exact absurd ⟨x, hx, decide_eq_true h6⟩ h5
          · exact h6⟩
        omega
  · refine .inl ⟨by omega, ?_⟩
    have h3 : ((t.pre ++ t.post).all fun x => decide (x ≤ 1)) = false := by
      rw [Bool.eq_false_iff]
      intro h
      rw [List.all_eq_true] at h
      exact h1 ((maxF_le (xs := t.pre ++ t.post) 1).2 ⟨by omega, fun x hx => by simpa using h x hx⟩)
    rw [h3]; rfl
def OrdUpto (N : NetD) (k : Nat) : Prop := ∀ i, i < k → ordT (N.tr i) = true
theorem OrdUpto.zero (N : NetD) : OrdUpto N 0 := fun i hi => by omega
theorem OrdUpto.succ {N : NetD} {k : Nat} (h : OrdUpto N k) (hk : ordT (N.tr k) = true) : OrdUpto N (k + 1) := fun i hi => by
  rcases Nat.lt_or_ge i k with h1 | h1
  · exact h i h1
  · obtain rfl : i = k := by omega
    exact hk
theorem ordB_def (N : NetD) : ordB N = (N.trans.all ordT && netOkB N && decide (0 < N.trans.length)) := by unfold ordB; rfl
theorem ordB_no {N : NetD} {k : Nat} (hk : k < N.trans.length) (h : ordT (N.tr k) = false) : ordB N = false := by
  rw [ordB_def]
  have : N.trans.all ordT = false := by
    rw [Bool.eq_false_iff]
    intro h1
    rw [List.all_eq_true] at h1
    rw [h1 _ (NetD.tr_mem hk)] at h; cases h
  rw [this]; rfl
theorem OrdUpto.all {N : NetD} (h : OrdUpto N N.trans.length) : ordB N = (netOkB N && decide (0 < N.trans.length)) := by
  rw [ordB_def]
  have : N.trans.all ordT = true := by
    rw [List.all_eq_true]
    intro t ht
    obtain ⟨i, hi, rfl⟩ := List.getElem_of_mem ht
    have := h i hi
    unfold NetD.tr at this
    rwa [List.getD_eq_getElem?_getD, List.getElem?_eq_getElem hi] at this
  rw [this, Bool.true_and]
attribute [irreducible] maxTo maxF OrdUpto
end Go.Tok
