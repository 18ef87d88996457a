/- The test '==' at two pairs of ints. -/
import Derived.Test.YtjpapgbdhflgnaaGM
import Derived.Laws.StructEq
namespace Go.Proofs.Ytjpapgbdhflgnaa
open Go.RowKit Go.Tok
set_option linter.unusedVariables false
end Go.Proofs.Ytjpapgbdhflgnaa
