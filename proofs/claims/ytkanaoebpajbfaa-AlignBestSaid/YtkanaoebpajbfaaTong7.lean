/- Contract of tongue.Least. -/
import Derived.Test.YtkanaoebpajbfaaTong4
import Derived.Test.YtkanaoebpajbfaaTong6
import Derived.Test.YtkanaoebpajbfaaWordLaw
import Derived.Test.YtkanaoebpajbfaaCompI
namespace Go.Tok
open Go.RowKit Go.Proofs.Ytkanaoebpajbfaa
set_option linter.unusedVariables false
def endsN (N : NetD) (o : Int) (A : SpaceD) : List Bool := A.marks.map fun m => eqB m (oneN (startLen N) o)
def sayN (N : NetD) (o most : Int) (A : SpaceD) : SayD := ⟨labN N, A.arcs, endsN N o A, farN (labN N) A.arcs (endsN N o A), Go.Lib.compact (sortI (labN N)), most⟩
def firstN (N : NetD) (A : SpaceD) : List Bool := firstF A.marks.length (labN N) A.arcs
theorem endsN_len (N : NetD) (o : Int) (A : SpaceD) : (endsN N o A).length = A.marks.length := by simp [endsN]
def leastN (N : NetD) (o : Int) (A : SpaceD) : Int := (sayN N o 0 A).hope (firstN N A)
/-- what Least answers -/
def LeastIs (N : NetD) (i o k e : Int) : Prop :=
  (hasErr N i o ≠ 0 ∧ k = 0 ∧ e = hasErr N i o) ∨ (hasErr N i o = 0 ∧ ∃ A, HasOk N i o A ∧ shapeC N i o = 0 ∧ graphF N (oneN (startLen N) i) 300 = (A, 0) ∧ ((leastN N o A < 0 ∧ k = 0 ∧ e = 3) ∨ (0 ≤ leastN N o A ∧ k = leastN N o A ∧ e = 0)))
end Go.Tok
namespace Go.Proofs.Ytkanaoebpajbfaa
open Go.RowKit Go.Tok
set_option linter.unusedVariables false
def RetLe (N : NetD) (i o : Int) (w : World) (e : Ending) (w' : World) : Prop := ∃ k x, e = .returned (.tuple #[.int .i64 k, .int .i64 x]) ∧ Gr w w' ∧ LeastIs N i o k x
end Go.Proofs.Ytkanaoebpajbfaa
