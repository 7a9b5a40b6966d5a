/- Rows that come in. -/
import Derived.Test.YtklpnjenddkmaaaOpen
import Derived.Test.YtklpnjenddkmaaaRowA
namespace Go.Proofs.Ytklpnjenddkmaaa
set_option linter.unusedVariables false
open Go.RowKit Go.ChangeShapes Go.WideShapes
theorem cells_rw : Try.prog.cellsOf 29 = 3 := by kernel_rfl
theorem leaves_rw : leaves Try.prog 6 29 = some [2, 25, 25] := by kernel_rfl
theorem hel_rw {H : Type} {enc : TypeId × Value → H} {w : World} {base : Nat} {spare : Nat → Bool} {held : Bool} (m : Nat) (cs : List Value) (y : DataW H × List MemPlace)
    (h : DataW.trod enc Try.prog w base spare held m 29 cs = some y) : ∃ x : RV, cs = rvc x ∧ True := by
  have hl := leaves_of _ _ _ _ _ _ leaves_rw h
  obtain ⟨v0, r0, rfl, l0, hl⟩ := hl.cons_
  obtain ⟨v1, r1, rfl, l1, hl⟩ := hl.cons_
  obtain ⟨v2, r2, rfl, l2, hl⟩ := hl.cons_
  obtain rfl := hl.nil_
  obtain ⟨n0, rfl, w0⟩ := l0.int_ Try.underlying2
  obtain ⟨n1, rfl, w1⟩ := l1.int_ Try.underlying25
  obtain ⟨n2, rfl, w2⟩ := l2.int_ Try.underlying25
  exact ⟨⟨n0, n1, n2⟩, rfl, trivial⟩
end Go.Proofs.Ytklpnjenddkmaaa
