/- Contract of tongue.Has. -/
import Derived.Test.YtkanaoebpajbfaaTong3
import Derived.Test.YtkanaoebpajbfaaGS
namespace Go.Tok
open Go.RowKit Go.Proofs.Ytkanaoebpajbfaa
set_option linter.unusedVariables false
/-- what Has says -/
def HasMeans (N : NetD) (i o : Int) (u : List Int) (b : Bool) : Prop :=
  (hasErr N i o ≠ 0 → b = false) ∧ (hasErr N i o = 0 → ∃ (a c : Nat) (s : FinD), i = a ∧ o = c ∧ ShapeOk N a c ∧ Whole N (oneN (startLen N) (a : Int)) 300 s ∧ (b = true ↔ IsWord N (oneN (startLen N) (a : Int)) (oneN (startLen N) (c : Int)) u))
theorem HasMeans.bad {N : NetD} {i o : Int} {u : List Int} (h : hasErr N i o ≠ 0) : HasMeans N i o u false := ⟨fun _ => rfl, fun e => absurd e h⟩
/-- what the walk of Has stands on -/
structure HasOk (N : NetD) (i o : Int) (A : SpaceD) : Prop where
  n0 : 0 < A.marks.length
  nl : A.marks.length ≤ 300
  al : A.arcs.length ≤ 7300
  arcs : ArcsOk A.marks.length (labN N).length A.arcs
  mean : ∀ (u : List Int) (b : Bool), (b = true ↔ ∃ k, Way (labN N) A.arcs 0 u k ∧ ix A.marks k = oneN (startLen N) o) → HasMeans N i o u b
theorem hasOk_mk {N : NetD} {i o : Int} {A : SpaceD} (h0 : hasErr N i o = 0) (hs : shapeC N i o = 0) (hg : graphF N (oneN (startLen N) i) 300 = (A, 0)) : HasOk N i o A := by
  obtain ⟨a, c, rfl, rfl, hO⟩ := shape_ok hs
  obtain ⟨s, h1, rfl, h2, h3, h4, hW⟩ := search_of_graph hg
  refine ⟨hW.zero.1, by have := hW.le; simp only []; omega, search_arcs h1, by rw [labN_len]; exact hW.arcsOk, fun u b hb => ⟨fun e => absurd h0 e, fun _ => ⟨a, c, s, rfl, rfl, hO, hW, ?_⟩⟩⟩
  rw [hb]
  exact hW.says hO.ok _ _
end Go.Tok
namespace Go.Proofs.Ytkanaoebpajbfaa
open Go.RowKit Go.Tok
set_option linter.unusedVariables false
def RetHas (N : NetD) (i o : Int) (u : List Int) (w : World) (e : Ending) (w' : World) : Prop := ∃ b, e = .returned (.tuple #[.bool b, .int .i64 (hasErr N i o)]) ∧ Gr w w' ∧ HasMeans N i o u b
theorem RetHas.mk {N : NetD} {i o : Int} {u : List Int} {w w' : World} {b : Bool} {x : Int} (hx : hasErr N i o = x) (g : Gr w w') (h : HasMeans N i o u b) : RetHas N i o u w (.returned (.tuple #[.bool b, .int .i64 x])) w' := by subst hx; exact ⟨b, rfl, g, h⟩
end Go.Proofs.Ytkanaoebpajbfaa
