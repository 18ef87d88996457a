/- Literals of transitions, as the program lays them. No program is in sight here. -/
import Derived.Test.YtelfbfjegmncaaaNetD
namespace Go.Tok
open Go.RowKit

theorem lit_at {w : World} {H i : Nat} {cs : Array Value} {t : TypeId} {v : Value} (hH : w.heap.size = H) (hi : cs[i]? = some v) : (w.alloc (.cells cs t)).cell? ⟨H, i, none⟩ = some v := by
  subst hH
  exact box_cell (Gr.refl _) hi

theorem TransR.intro {w : World} {v : Value} {ts : List TranD} {a : Option Addr} {cap : Nat} (h1 : v = .slice a ts.length cap) (h2 : ts.length ≤ cap) (h3 : cap ≤ maxLen)
    (h4 : ∀ i, i < ts.length → ∃ b o vp vq, a = some ⟨b, o, none⟩ ∧ w.cell? ⟨b, o + i * 3, none⟩ = some (.int .i64 (ts.getD i default).label) ∧ w.cell? ⟨b, o + i * 3 + 1, none⟩ = some vp ∧ w.cell? ⟨b, o + i * 3 + 2, none⟩ = some vq ∧
      I64 (ts.getD i default).label ∧ Ints w vp (ts.getD i default).pre ∧ Ints w vq (ts.getD i default).post) : TransR w v ts := by
  unfold TransR
  exact ⟨a, cap, h1, h2, h3, h4⟩

theorem TransR.lit1 {w : World} {H : Nat} {t : TypeId} {l0 : Int} {p0 q0 : Value} {a0 b0 : List Int} (hH : w.heap.size = H) (h1 : Ints w p0 a0) (h2 : Ints w q0 b0) (hl : I64 l0) :
    TransR (w.alloc (.cells #[.int .i64 l0, p0, q0] t)) (.slice (some ⟨H, 0, none⟩) 1 1) [⟨l0, a0, b0⟩] := by
  refine TransR.intro (a := some ⟨H, 0, none⟩) (cap := 1) rfl (by simp) (by unfold maxLen; omega) fun i hi => ?_
  obtain rfl : i = 0 := by simp at hi; exact hi
  exact ⟨H, 0, p0, q0, rfl, lit_at hH rfl, lit_at hH rfl, lit_at hH rfl, hl, h1.alloc _, h2.alloc _⟩
theorem TransR.lit2 {w : World} {H : Nat} {t : TypeId} {l0 l1 : Int} {p0 q0 p1 q1 : Value} {a0 b0 a1 b1 : List Int} (hH : w.heap.size = H) (h1 : Ints w p0 a0) (h2 : Ints w q0 b0) (h3 : Ints w p1 a1) (h4 : Ints w q1 b1) (hl : I64 l0) (hl1 : I64 l1) :
    TransR (w.alloc (.cells #[.int .i64 l0, p0, q0, .int .i64 l1, p1, q1] t)) (.slice (some ⟨H, 0, none⟩) 2 2) [⟨l0, a0, b0⟩, ⟨l1, a1, b1⟩] := by
  refine TransR.intro (a := some ⟨H, 0, none⟩) (cap := 2) rfl (by simp) (by unfold maxLen; omega) fun i hi => ?_
  rcases i with _ | _ | i
  · exact ⟨H, 0, p0, q0, rfl, lit_at hH rfl, lit_at hH rfl, lit_at hH rfl, hl, h1.alloc _, h2.alloc _⟩
  · exact ⟨H, 0, p1, q1, rfl, lit_at hH rfl, lit_at hH rfl, lit_at hH rfl, hl1, h3.alloc _, h4.alloc _⟩
  · simp at hi; omega
end Go.Tok
