/- Contract of tongue.Words. -/
import Derived.Test.YtkekamffmmokmaaTong7
import Derived.Test.YtkekamffmmokmaaStartRow
namespace Go.Tok
open Go.RowKit Go.Proofs.Ytkekamffmmokmaa
set_option linter.unusedVariables false
def wordsN (N : NetD) (o most : Int) (A : SpaceD) : Option (List (List Int)) := (sayN N o most A).wordsF (most.toNat + 1) 0 [([], firstN N A)] []
/-- what Words answers -/
def WordsIs (N : NetD) (i o most : Int) (out : List (List Int)) (e : Int) : Prop :=
  (hasErr N i o ≠ 0 ∧ out = [] ∧ e = hasErr N i o) ∨ (hasErr N i o = 0 ∧ (((most < 0 ∨ 8 < most) ∧ out = [] ∧ e = 2) ∨ (0 ≤ most ∧ most ≤ 8 ∧ ∃ A, HasOk N i o A ∧ shapeC N i o = 0 ∧ graphF N (oneN (startLen N) i) 300 = (A, 0) ∧ ((wordsN N o most A = none ∧ out = [] ∧ e = 4) ∨ (wordsN N o most A = some out ∧ e = 0)))))
/-- between two lengths -/
structure OuterI (D : SayD) (n M : Nat) (R : Option (List (List Int))) (k : Nat) (now : List StD) (out : List (List Int)) : Prop where
  le : k ≤ M + 1
  is : D.wordsF (M + 1 - k) k now out = R
  nl : now.length ≤ 400
  ol : out.length ≤ 400
  sets : ∀ x ∈ now, x.2.length = n ∧ x.1.length ≤ k
end Go.Tok
namespace Go.Proofs.Ytkekamffmmokmaa
open Go.RowKit Go.Tok
set_option linter.unusedVariables false
/-- the box of a beginning, and what it holds -/
def BoxP (bx : Nat) (uv vv : Value) (wd : List Int) (st : List Bool) (p : World → Prop) (w : World) : Prop := (Ints w uv wd ∧ Rd boolK w vv st) ∧ (w.cell? ⟨bx, 0, none⟩ = some uv ∧ w.cell? ⟨bx, 1, none⟩ = some vv) ∧ p w
theorem two_cell (w : World) (u v : Value) (t : TypeId) : ∀ (j : Nat) (x : Value), [u, v][j]? = some x → (w.alloc (.cells #[u, v] t)).cell? ((⟨w.heap.size, 0, none⟩ : Addr).add j) = some x := by
  intro j x hj
  rw [add_none, Nat.zero_add]
  exact box_cell (Gr.refl _) (i := j) (by simpa using hj)
def RetWo (N : NetD) (i o most : Int) (w : World) (e : Ending) (w' : World) : Prop := ∃ v out x, e = .returned (.tuple #[v, .int .i64 x]) ∧ Gr w w' ∧ Rd rowK w' v out ∧ WordsIs N i o most out x
end Go.Proofs.Ytkekamffmmokmaa
