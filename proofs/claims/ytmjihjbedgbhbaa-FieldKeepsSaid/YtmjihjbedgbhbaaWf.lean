/- What fits its kind, as bounds. -/
import Derived.Test.YtmjihjbedgbhbaaFieldA
import Derived.ProofKit
import Derived.OpenShut
namespace Go.Proofs.Ytmjihjbedgbhbaa
set_option linter.unusedVariables false

theorem U64.wf {n : Int} (h : (Lit.int .u64 n).wf = true) : U64 n := by
  have h1 : IntKind.u64.min = 0 := by decide
  have h2 : IntKind.u64.max = 18446744073709551615 := by decide
  simp [Lit.wf, h1, h2] at h
  unfold U64
  omega
theorem I64.wf {n : Int} (h : (Lit.int .i64 n).wf = true) : I64 n := by
  have h1 : IntKind.i64.min = -9223372036854775808 := by decide
  have h2 : IntKind.i64.max = 9223372036854775807 := by decide
  simp [Lit.wf, h1, h2] at h
  unfold I64
  omega
end Go.Proofs.Ytmjihjbedgbhbaa
