/- A search lays at most 7300 arcs. No program is in sight here. -/
import Derived.Test.YtjpapgbdhflgnaaPB
namespace Go.Tok
open Go.RowKit
set_option linter.unusedVariables false
theorem steps_arcs {N : NetD} {most : Nat} {m : List Int} {i : Nat} : ∀ (l : List Int) (s : FinD), (stepsF N most m i s l).1.arcs.length ≤ s.arcs.length + l.length := by
  have one : ∀ (s : FinD) (t : Int), (stepF N most m i s t).1.arcs.length ≤ s.arcs.length + 1 := fun s t => by
    unfold stepF
    split
    · unfold addArc findF
      by_cases h1 : (fireF N m t).1 ∈ s.marks
      · rw [if_pos h1]; simp
      · rw [if_neg h1]
        by_cases h2 : s.marks.length = most
        · rw [if_pos h2]; simp
        · rw [if_neg h2]; simp
    · simp
  intro l
  induction l with
  | nil => intro s; exact Nat.le_refl _
  | cons t l ih =>
    intro s
    rw [steps_cons]
    have h1 := one s t
    split
    · have := ih (stepF N most m i s t).1
      simp only [List.length_cons]; omega
    · simp only [List.length_cons]; omega
theorem expl_arcs {N : NetD} {most : Nat} (hn : N.trans.length ≤ 24) : ∀ (f i : Nat) (s : FinD), (explF N most f i s).1.arcs.length ≤ s.arcs.length + 24 * f
  | 0, i, s => Nat.le_refl _
  | f + 1, i, s => by
    rw [expl_succ]
    have hl : (enabledL N (ix s.marks i)).length ≤ 24 := by rw [← enUpto_all]; exact Nat.le_trans (enUpto_len _ _ _) hn
    have h1 := steps_arcs (N := N) (most := most) (m := ix s.marks i) (i := i) (enabledL N (ix s.marks i)) s
    split
    · split
      · have := expl_arcs (most := most) hn f (i + 1) (stepsF N most (ix s.marks i) i s (enabledL N (ix s.marks i))).1
        omega
      · omega
    · show s.arcs.length ≤ _; omega
theorem search_arcs {N : NetD} {m : List Int} {most : Int} {s : FinD} (h : searchF N m most = (s, 0)) : s.arcs.length ≤ 7300 := by
  obtain ⟨h1, h2, hf, hW⟩ := search_ok h
  have hn := (fits_sizes hf).1
  unfold searchF at h
  rw [if_neg (by omega), if_neg (by rw [hf]; decide)] at h
  have := expl_arcs (N := N) (most := most.toNat) hn 301 0 (fin0 m)
  rw [h] at this
  have h0 : (fin0 m).arcs.length = 0 := rfl
  simp only [] at this
  omega
end Go.Tok
