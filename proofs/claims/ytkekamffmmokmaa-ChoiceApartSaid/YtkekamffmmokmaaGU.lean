/- A row of rows that hangs on some blocks: each of its rows does. -/
import Derived.Test.YtkekamffmmokmaaGM
namespace Go.Tok
open Go.RowKit
theorem cell_set_self {w : World} {b k : Nat} {v : Value} (h : w.cell? ⟨b, k, none⟩ = some v) (u : Value) : (w.setCell ⟨b, k, none⟩ u).cell? ⟨b, k, none⟩ = some u := by
  unfold World.cell? at h
  split at h
  · rename_i cs t fr hb
    have hk : k < cs.size := by
      rcases Nat.lt_or_ge k cs.size with h1 | h1
      · exact h1
      · simp [Array.getElem?_eq_none h1] at h
    have h2 : (w.setCell ⟨b, k, none⟩ u).heap[b]? = some (.cells (cs.setIfInBounds k u) t fr) := by
      simp at hb
      simp [World.setCell, Array.getElem?_modify, hb]
    rw [cell_of_row _ b k (cs.setIfInBounds k u) t fr h2]
    simp [hk]
  · cases h
theorem on_rowI {S : Nat → Prop} {w : World} {a : Option Addr} {n cap : Nat} {xs : List (List Int)} (h : On S (fun w => Rd rowK w (.slice a n cap) xs) w) {i : Nat} (hi : i < xs.length) :
    ∃ b o u, a = some ⟨b, o, none⟩ ∧ w.cell? ⟨b, o + i, none⟩ = some u ∧ On S (fun w => Ints w u (ix xs i)) w := by
  obtain ⟨b, o, u, ha, c0, hI⟩ := h.now.row hi
  have hS : S b := by
    apply Classical.byContradiction
    intro hn
    obtain ⟨b2, o2, u2, ha2, c2, hI2⟩ := (h.kp (set_kp (a := ⟨b, o + i, none⟩) hn (.int .i64 0))).now.row hi
    rw [ha] at ha2
    cases ha2
    rw [cell_set_self c0] at c2
    cases c2
    obtain ⟨_, _, h3, _⟩ := hI2.len
    cases h3
  refine ⟨b, o, u, ha, c0, ?_⟩
  unfold On
  intro w' k
  obtain ⟨b2, o2, u2, ha2, c2, hI2⟩ := (h.kp k).now.row hi
  rw [ha] at ha2
  cases ha2
  rw [cell_kp k c0 hS] at c2
  cases c2
  exact hI2
end Go.Tok
