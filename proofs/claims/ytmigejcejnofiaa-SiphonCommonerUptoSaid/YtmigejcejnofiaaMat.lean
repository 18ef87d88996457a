/- Slices of slices of ints, as they stand in memory. No program is in sight here. -/
import Derived.Test.YtmigejcejnofiaaCore
import Derived.Lib.AppendZeros
namespace Go.Tok
open Go.RowKit

theorem OwnI.mk_ {e base : Nat} {w : World} {v : Value} {xs : List Int} (h : w.ownsRow base e 1 v xs.length (xs.map (Value.int .i64))) (h2 : ∀ x ∈ xs, I64 x) : OwnI e base w v xs := by
  unfold OwnI
  exact ⟨h, h2⟩

/-- row i -/
def lrow (l : List (List Int)) (i : Nat) : List Int := l.getD i []
/-- v reads as the rows l in w -/
def Mat (w : World) (v : Value) (l : List (List Int)) : Prop :=
  ∃ a cap, v = .slice a l.length cap ∧ l.length ≤ cap ∧ cap ≤ maxLen ∧ (a = none → cap = 0) ∧
    ∀ i, i < l.length → ∃ b o u, a = some ⟨b, o, none⟩ ∧ w.cell? ⟨b, o + i, none⟩ = some u ∧ Ints w u (lrow l i)
theorem Mat.len {w : World} {v : Value} {l : List (List Int)} (h : Mat w v l) : ∃ a cap, v = .slice a l.length cap ∧ l.length ≤ cap ∧ cap ≤ 9223372036854775807 := by
  obtain ⟨a, cap, h1, h2, h3, _⟩ := h
  exact ⟨a, cap, h1, h2, by unfold maxLen at h3; omega⟩
theorem Mat.at_ {w : World} {a : Option Addr} {n cap : Nat} {l : List (List Int)} (h : Mat w (.slice a n cap) l) {i : Nat} (hi : i < l.length) :
    ∃ b o u, a = some ⟨b, o, none⟩ ∧ w.cell? ⟨b, o + i, none⟩ = some u ∧ Ints w u (lrow l i) := by
  obtain ⟨a', cap', h1, h2, h3, h4, h5⟩ := h
  cases h1
  exact h5 i hi
theorem Mat.gr {w w' : World} {v : Value} {l : List (List Int)} (h : Mat w v l) (g : Gr w w') : Mat w' v l := by
  obtain ⟨a, cap, h1, h2, h3, h4, h5⟩ := h
  refine ⟨a, cap, h1, h2, h3, h4, fun i hi => ?_⟩
  obtain ⟨b, o, u, ha, hc, hu⟩ := h5 i hi
  exact ⟨b, o, u, ha, cell_gr hc g, hu.gr g⟩
theorem Mat.nil (w : World) : Mat w (.slice none 0 0) [] := ⟨none, 0, rfl, Nat.le_refl _, by unfold maxLen; omega, fun _ => rfl, fun i hi => by simp at hi⟩
/-- two rows, as a variadic call lays them -/
theorem Mat.lit2 {w : World} {H : Nat} {t : TypeId} {p q : Value} {a b : List Int} (hH : w.heap.size = H) (hp : Ints w p a) (hq : Ints w q b) : Mat (w.alloc (.cells #[p, q] t)) (.slice (some ⟨H, 0, none⟩) 2 2) [a, b] := by
  subst hH
  refine ⟨some ⟨w.heap.size, 0, none⟩, 2, rfl, by simp, by unfold maxLen; omega, (fun h => by cases h), fun i hi => ?_⟩
  rcases i with _ | _ | i
  · exact ⟨_, 0, p, rfl, box_cell (Gr.refl _) rfl, hp.alloc _⟩
  · exact ⟨_, 0, q, rfl, box_cell (Gr.refl _) rfl, hq.alloc _⟩
  · simp at hi; omega

def sumTo (l : List (List Int)) (k : Nat) : Nat := ((l.take k).map List.length).sum
def flatTo (l : List (List Int)) (k : Nat) : List Int := (l.take k).flatten
theorem sumTo_zero (l : List (List Int)) : sumTo l 0 = 0 := by simp [sumTo]
theorem flatTo_zero (l : List (List Int)) : flatTo l 0 = [] := by simp [flatTo]
theorem take_row {l : List (List Int)} {k : Nat} (h : k < l.length) : l.take (k + 1) = l.take k ++ [lrow l k] := by
  rw [List.take_succ_eq_append_getElem h]
  simp [lrow, h]
theorem sumTo_succ {l : List (List Int)} {k : Nat} (h : k < l.length) : sumTo l (k + 1) = sumTo l k + (lrow l k).length := by
  simp [sumTo, take_row h]
theorem flatTo_succ {l : List (List Int)} {k : Nat} (h : k < l.length) : flatTo l (k + 1) = flatTo l k ++ lrow l k := by
  simp [flatTo, take_row h]
theorem flatTo_len (l : List (List Int)) (k : Nat) : (flatTo l k).length = sumTo l k := by
  simp [flatTo, sumTo, List.length_flatten]
theorem flatTo_all (l : List (List Int)) : flatTo l l.length = l.flatten := by simp [flatTo]
theorem sumTo_all (l : List (List Int)) : sumTo l l.length = l.flatten.length := by rw [← flatTo_len, flatTo_all]
theorem sumTo_le (l : List (List Int)) (k : Nat) : sumTo l k ≤ sumTo l l.length := by
  have : l.take l.length = l.take k ++ l.drop k := by simp
  unfold sumTo
  rw [this, List.map_append, List.sum_append]
  omega

section
variable {P : Program} {t e tn : TypeId}
/-- 'append(nil, make([]int, n)...)', cut to nothing: room for n -/
theorem own_room {w : World} {n : Nat} (T : IntTy P t e) (htn : P.underlying tn = some (.int .i64)) (h0 : 0 < n) (hn : n ≤ 17592186044416) :
    ∃ cap w', (∀ ty, (Builtin.append_ #[t, tn] ty #[.slice none 0 0, .int .i64 n]).run P w = .ok (.slice (some ⟨w.heap.size, 0, none⟩) n cap) w') ∧ n ≤ cap ∧ cap ≤ 9223372036854775807 ∧ OwnI e w.heap.size w' (.slice (some ⟨w.heap.size, 0, none⟩) 0 cap) [] ∧ Gr w w' := by
  obtain ⟨i, hi, hz, hs, hb⟩ := info_parts T.info
  have h1 := grownCap_ge w n 0 e
  have h2 := grownCap_le_maxLen w n 0 e (by unfold maxLen; omega)
  have hc : (Builtin.zeroCells (Value.int .i64 0).cells n ++ Builtin.zeroCells (Value.int .i64 0).cells (grownCap w n 0 e - n)).size = grownCap w n 0 e * 1 := by
    rw [Array.size_append, size_zeroCells, size_zeroCells]
    simp [Value.cells]
    omega
  refine ⟨_, _, fun ty => Lib.run_append_nil_zeros w t tn ty e i _ .i64 .i64 T.und htn hi hz n h0 (by omega) (by omega) (by rw [hb]; omega), h1, by unfold maxLen at h2; omega, ?_, ((Gr.refl _).drew).alloc _⟩
  have := World.ownsRow_made (base := w.heap.size) (e := e) (size := 1) w.drew _ (grownCap w n 0 e) (Nat.le_refl _) h2 hc
  exact OwnI.mk_ this (by simp)
end
attribute [irreducible] Mat lrow sumTo flatTo
end Go.Tok
