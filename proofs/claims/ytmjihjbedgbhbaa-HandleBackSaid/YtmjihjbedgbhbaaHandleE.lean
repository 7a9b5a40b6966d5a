/- The law HandleBack, walked. -/
import Derived.Test.YtmjihjbedgbhbaaHandleC
namespace Go.Proofs.Ytmjihjbedgbhbaa
set_option linter.unusedVariables false
set_option linter.unusedSimpArgs false
open Go.RowKit

theorem eql_e2 (s g l : Int) (w : World) : (binOp .eql 71 (.agg #[.int .i64 s, .int .i64 g, .int .u64 l]) (.agg #[.int .i64 s, .int .i64 g, .int .u64 l])).run Try.prog w = .ok (.bool true) w := by
  simp [go_sem]
theorem neq_e0 (w : World) : (binOp .neq 71 (.agg #[.int .i64 0, .int .i64 0, .int .u64 0]) (.agg #[.int .i64 0, .int .i64 0, .int .u64 0])).run Try.prog w = .ok (.bool false) w := by
  simp [go_sem]
end Go.Proofs.Ytmjihjbedgbhbaa
