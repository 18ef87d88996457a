/- How many items lie at a desk. No program is in sight here. -/
import Derived.Test.YtidpppfimkhgkaaDeskLaw
namespace Go.Tok
open Go.RowKit
theorem beginK_items (N : NetD) (roles : List (List Int)) (k : DeskD) (o : OpD) : (beginK N roles k o).1.1.items.length ≤ k.items.length + 1 := by
  rcases beginK_cases N roles k o with ⟨e, h, _⟩ | ⟨j, c, _, _, _, _, h⟩ <;> rw [h] <;> simp
theorem changeK_items (N : NetD) (roles : List (List Int)) (k : DeskD) (o : OpD) : (changeK N roles k o).1.1.items.length = k.items.length := by
  unfold changeK
  repeat' split
  all_goals simp
theorem deskF_items (N : NetD) (roles : List (List Int)) (k : DeskD) (o : OpD) : (deskF N roles k o).1.items.length ≤ k.items.length + 1 := by
  unfold deskF
  split
  · exact beginK_items N roles k o
  · split
    · have h := changeK_items N roles k o
      show (changeK N roles k o).1.1.items.length ≤ _
      omega
    · split
      · split <;> simp
      · simp
theorem deskTo_items (N : NetD) (roles : List (List Int)) (c : CaseD) (ops : List OpD) : ∀ n, (deskTo N roles ⟨c, []⟩ ops n).1.items.length ≤ n
  | 0 => by simp [deskTo]
  | n + 1 => by
    have := deskTo_items N roles c ops n
    have := deskF_items N roles (deskTo N roles ⟨c, []⟩ ops n).1 (ix ops n)
    rw [deskTo]; simp only; omega
end Go.Tok
