/- What comes in: numbers. -/
import Derived.Test.YtlnnnaefmgikpaaOpen
import Derived.Test.YtlnnnaefmgikpaaWarC
namespace Go.Proofs.Ytlnnnaefmgikpaa
set_option linter.unusedVariables false
open Go.RowKit Go.ChangeShapes Go.WideShapes
theorem wf_i {n : Int} (h : (Lit.int .i64 n).wf = true) : wfI n := by
  have h1 : IntKind.i64.min = -9223372036854775808 := by decide
  have h2 : IntKind.i64.max = 9223372036854775807 := by decide
  unfold wfI
  simp [Lit.wf, h1, h2] at h
  omega
theorem wf_u {n : Int} (h : (Lit.int .u64 n).wf = true) : U64 n := by
  have h1 : IntKind.u64.min = 0 := by decide
  have h2 : IntKind.u64.max = 18446744073709551615 := by decide
  unfold U64
  simp [Lit.wf, h1, h2] at h
  omega
end Go.Proofs.Ytlnnnaefmgikpaa
