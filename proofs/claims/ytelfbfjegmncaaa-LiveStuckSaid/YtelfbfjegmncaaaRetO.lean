/- Calls that hand back a row of their own, and an error. No program is in sight here. -/
import Derived.Test.YtelfbfjegmncaaaCore
namespace Go.Tok
open Go.RowKit
theorem OwnI.lower {e base base' : Nat} {w : World} {v : Value} {xs : List Int} (h : OwnI e base w v xs) (hb : base' ≤ base) : OwnI e base' w v xs := by
  unfold OwnI at *
  refine ⟨⟨h.1.1, ?_⟩, h.2⟩
  rcases h.1.2 with h4 | ⟨g, cap, cur, h4, h5, h6⟩
  · exact .inl h4
  · exact .inr ⟨g, cap, cur, h4, Nat.le_trans hb h5, h6⟩
def RetIO (t : TypeId) (w : World) (r : List Int × Int) (e : Ending) (w' : World) : Prop :=
  ∃ v, e = .returned (.tuple #[v, .int .i64 r.2]) ∧ OwnI t w.heap.size w' v r.1 ∧ Gr w w'
theorem RetIO.mk {t : TypeId} {w w' : World} {v : Value} {x : Int} {r : List Int × Int} {xs : List Int} {base : Nat} (hr : r = (xs, x)) (hv : OwnI t base w' v xs) (hbase : w.heap.size ≤ base) (hb : Gr w w') : RetIO t w r (.returned (.tuple #[v, .int .i64 x])) w' := by
  subst hr
  exact ⟨v, rfl, hv.lower hbase, hb⟩
theorem RetIO.nil {t : TypeId} {w w' : World} {x : Int} {r : List Int × Int} (hr : r = ([], x)) (hb : Gr w w') : RetIO t w r (.returned (.tuple #[.slice none 0 0, .int .i64 x])) w' := RetIO.mk hr (OwnI.nil _ _ _) (Nat.le_refl _) hb
theorem RetIO.ie {t : TypeId} {w : World} {r : List Int × Int} {e : Ending} {w' : World} (h : RetIO t w r e w') : RetIE w r e w' := by
  obtain ⟨v, h1, h2, h3⟩ := h
  exact ⟨v, h1, h2.ints, h3⟩
end Go.Tok
