/- A script and where its entries are laid, that come in. -/
import Derived.Test.YtijffncgokcidaaPurgeOpen
import Derived.Test.YtijffncgokcidaaPurgeL
namespace Go.Proofs.Ytijffncgokcidaa
set_option linter.unusedVariables false
open Go.RowKit Go.ChangeShapes Go.WideShapes
theorem cells_it : Try.prog.cellsOf 3 = 1 := by kernel_rfl
theorem leaves_it : leaves Try.prog 4 3 = some [3] := by kernel_rfl
theorem hel_it {H : Type} {enc : TypeId × Value → H} {w : World} {base : Nat} {spare : Nat → Bool} {held : Bool} (m : Nat) (cs : List Value) (y : DataW H × List MemPlace)
    (h : DataW.trod enc Try.prog w base spare held m 3 cs = some y) : ∃ x : Int, cs = itc x ∧ True := by
  have hl := leaves_of _ _ _ _ _ _ leaves_it h
  obtain ⟨v0, r0, rfl, l0, hl⟩ := hl.cons_
  obtain rfl := hl.nil_
  obtain ⟨n0, rfl, w0⟩ := l0.int_ Try.underlying3
  exact ⟨n0, rfl, trivial⟩
theorem wf_i {n : Int} (h : (Lit.int .i64 n).wf = true) : -9223372036854775808 ≤ n ∧ n ≤ 9223372036854775807 := by
  have h1 : IntKind.i64.min = -9223372036854775808 := by decide
  have h2 : IntKind.i64.max = 9223372036854775807 := by decide
  simp [Lit.wf, h1, h2] at h
  omega
end Go.Proofs.Ytijffncgokcidaa
