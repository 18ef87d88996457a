/- Slices of slices of any element, as they stand in memory; room by append(nil, make(..)...). No program is in sight here. -/
import Derived.Test.YtkanaoebpajbfaaPA
import Derived.Lib.AppendZeros
namespace Go.Tok
open Go.RowKit
section
variable {α : Type} [Inhabited α] {K : Kind α}
/-- v reads as the rows l in w -/
def MatK (K : Kind α) (w : World) (v : Value) (l : List (List α)) : Prop :=
  ∃ a cap, v = .slice a l.length cap ∧ l.length ≤ cap ∧ cap ≤ maxLen ∧ (a = none → cap = 0) ∧
    ∀ i, i < l.length → ∃ b o u, a = some ⟨b, o, none⟩ ∧ w.cell? ⟨b, o + i, none⟩ = some u ∧ Rd K w u (ix l i)
theorem MatK.len {w : World} {v : Value} {l : List (List α)} (h : MatK K w v l) : ∃ a cap, v = .slice a l.length cap ∧ l.length ≤ cap ∧ cap ≤ 9223372036854775807 := by
  obtain ⟨a, cap, h1, h2, h3, _⟩ := h
  exact ⟨a, cap, h1, h2, by unfold maxLen at h3; omega⟩
theorem MatK.at_ {w : World} {a : Option Addr} {n cap : Nat} {l : List (List α)} (h : MatK K w (.slice a n cap) l) {i : Nat} (hi : i < l.length) :
    ∃ b o u, a = some ⟨b, o, none⟩ ∧ w.cell? ⟨b, o + i, none⟩ = some u ∧ Rd K w u (ix l i) := by
  obtain ⟨a', cap', h1, h2, h3, h4, h5⟩ := h
  cases h1
  exact h5 i hi
theorem MatK.gr {w w' : World} {v : Value} {l : List (List α)} (h : MatK K w v l) (g : Gr w w') : MatK K w' v l := by
  obtain ⟨a, cap, h1, h2, h3, h4, h5⟩ := h
  refine ⟨a, cap, h1, h2, h3, h4, fun i hi => ?_⟩
  obtain ⟨b, o, u, ha, hc, hu⟩ := h5 i hi
  exact ⟨b, o, u, ha, cell_gr hc g, hu.gr g⟩
/-- two rows, as a variadic call lays them -/
theorem MatK.lit2 {w : World} {H : Nat} {t : TypeId} {p q : Value} {a b : List α} (hH : w.heap.size = H) (hp : Rd K w p a) (hq : Rd K w q b) : MatK K (w.alloc (.cells #[p, q] t)) (.slice (some ⟨H, 0, none⟩) 2 2) [a, b] := by
  subst hH
  refine ⟨some ⟨w.heap.size, 0, none⟩, 2, rfl, by simp, by unfold maxLen; omega, (fun h => by cases h), fun i hi => ?_⟩
  rcases i with _ | _ | i
  · exact ⟨_, 0, p, rfl, box_cell (Gr.refl _) rfl, by rw [ix_zero]; exact hp.alloc _⟩
  · exact ⟨_, 0, q, rfl, box_cell (Gr.refl _) rfl, by rw [ix_succ, ix_zero]; exact hq.alloc _⟩
  · simp at hi; omega
/-- three rows -/
theorem MatK.lit3 {w : World} {H : Nat} {t : TypeId} {p q r : Value} {a b c : List α} (hH : w.heap.size = H) (hp : Rd K w p a) (hq : Rd K w q b) (hr : Rd K w r c) : MatK K (w.alloc (.cells #[p, q, r] t)) (.slice (some ⟨H, 0, none⟩) 3 3) [a, b, c] := by
  subst hH
  refine ⟨some ⟨w.heap.size, 0, none⟩, 3, rfl, by simp, by unfold maxLen; omega, (fun h => by cases h), fun i hi => ?_⟩
  rcases i with _ | _ | _ | i
  · exact ⟨_, 0, p, rfl, box_cell (Gr.refl _) rfl, by rw [ix_zero]; exact hp.alloc _⟩
  · exact ⟨_, 0, q, rfl, box_cell (Gr.refl _) rfl, by rw [ix_succ, ix_zero]; exact hq.alloc _⟩
  · exact ⟨_, 0, r, rfl, box_cell (Gr.refl _) rfl, by rw [ix_succ, ix_succ, ix_zero]; exact hr.alloc _⟩
  · simp at hi; omega
end
section
variable {α : Type} {K : Kind α}
def sumK (l : List (List α)) (k : Nat) : Nat := ((l.take k).map List.length).sum
def flatK (l : List (List α)) (k : Nat) : List α := (l.take k).flatten
theorem sumK_zero (l : List (List α)) : sumK l 0 = 0 := by simp [sumK]
theorem flatK_zero (l : List (List α)) : flatK l 0 = [] := by simp [flatK]
theorem takeK_row {l : List (List α)} {k : Nat} (h : k < l.length) : l.take (k + 1) = l.take k ++ [ix l k] := by
  rw [List.take_succ_eq_append_getElem h, ix_lt h]
theorem sumK_succ {l : List (List α)} {k : Nat} (h : k < l.length) : sumK l (k + 1) = sumK l k + (ix l k).length := by
  simp [sumK, takeK_row h]
theorem flatK_succ {l : List (List α)} {k : Nat} (h : k < l.length) : flatK l (k + 1) = flatK l k ++ ix l k := by
  simp [flatK, takeK_row h]
theorem flatK_len (l : List (List α)) (k : Nat) : (flatK l k).length = sumK l k := by
  simp [flatK, sumK, List.length_flatten]
theorem flatK_all (l : List (List α)) : flatK l l.length = l.flatten := by simp [flatK]
theorem sumK_all (l : List (List α)) : sumK l l.length = l.flatten.length := by rw [← flatK_len, flatK_all]
theorem sumK_le (l : List (List α)) (k : Nat) : sumK l k ≤ sumK l l.length := by
  have : l.take l.length = l.take k ++ l.drop k := by simp
  unfold sumK
  rw [this, List.map_append, List.sum_append]
  omega
variable {P : Program} {t e tn : TypeId} {bytes : Nat} {z : Value}
/-- 'append(nil, make([]E, n)...)', cut to nothing: room for n -/
theorem own_roomK {w : World} {n : Nat} (T : KTy P t e K bytes z) (htn : P.underlying tn = some (.int .i64)) (h0 : 0 < n) (hn : n * bytes ≤ 281474976710656) (hn' : n ≤ maxLen) :
    ∃ cap w', (∀ ty, (Builtin.append_ #[t, tn] ty #[.slice none 0 0, .int .i64 n]).run P w = .ok (.slice (some ⟨w.heap.size, 0, none⟩) n cap) w') ∧ n ≤ cap ∧ cap ≤ 9223372036854775807 ∧ (∀ S, OwnR K e w.heap.size S w' (.slice (some ⟨w.heap.size, 0, none⟩) 0 cap) []) ∧ Gr w w' := by
  obtain ⟨i, hi, hz, hs, hb⟩ := info_parts T.info
  have h1 := grownCap_ge w n 0 e
  have h2 := grownCap_le_maxLen w n 0 e hn'
  have hc : (Builtin.zeroCells z.cells n ++ Builtin.zeroCells z.cells (grownCap w n 0 e - n)).size = grownCap w n 0 e * K.size := by
    rw [Array.size_append, size_zeroCells, size_zeroCells, T.zs, ← Nat.add_mul]
    congr 1
    omega
  refine ⟨_, _, fun ty => Lib.run_append_nil_zeros w t tn ty e i _ .i64 .i64 T.und htn hi hz n h0 (by rw [hs]; exact T.pos) (by unfold maxLen at hn'; omega) (by rw [hb]; omega), h1, by unfold maxLen at h2; omega, fun S => ?_, ((Gr.refl _).drew).alloc _⟩
  have := World.ownsRow_made (base := w.heap.size) (e := e) (size := K.size) w.drew _ (grownCap w n 0 e) (Nat.le_refl _) h2 hc
  exact OwnR.empty this
end
attribute [irreducible] MatK sumK flatK
end Go.Tok
