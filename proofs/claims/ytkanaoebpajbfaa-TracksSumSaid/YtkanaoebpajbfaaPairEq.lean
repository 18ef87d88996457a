/- The test '==' at two pairs of ints. -/
import Derived.Test.YtkanaoebpajbfaaGM
import Derived.Laws.StructEq
namespace Go.Proofs.Ytkanaoebpajbfaa
open Go.RowKit Go.Tok
set_option linter.unusedVariables false
set_option maxRecDepth 100000 in
theorem run_eq_pair (x1 x2 y1 y2 : Int) (w : World) : (Op.equalIn 10000 71 (.agg #[.int .i64 x1, .int .i64 x2]) (.agg #[.int .i64 y1, .int .i64 y2])).run Try.prog w = .ok ((x1 == y1) && (x2 == y2)) w := by
  show (Op.equalIn (9998 + 1 + 1) 71 _ _).run Try.prog w = _
  rw [Op.equalIn]
  simp only [Sem.run_bind, run_underlying Try.underlying71, Result.andThen_ok]
  rcases h1 : x1 == y1 with _ | _ <;> rcases h2 : x2 == y2 with _ | _ <;>
    simp [go_sem, Std.Legacy.Range.forIn_eq_forIn_range', List.range', h1, h2, Try.underlying3, Try.sizeOf3]
end Go.Proofs.Ytkanaoebpajbfaa
