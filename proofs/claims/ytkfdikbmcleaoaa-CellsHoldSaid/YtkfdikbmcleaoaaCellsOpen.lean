/- Words and accesses that come in. -/
import Derived.Test.YtkfdikbmcleaoaaOpen
import Derived.Test.YtkfdikbmcleaoaaCellsF
namespace Go.Proofs.Ytkfdikbmcleaoaa
set_option linter.unusedVariables false
open Go.RowKit Go.ChangeShapes Go.WideShapes
instance instInhabitedMOp : Inhabited MOp := ⟨⟨0, 0, 0, 0⟩⟩
theorem cells_us : Try.prog.cellsOf 24 = 1 := by kernel_rfl
theorem leaves_us : leaves Try.prog 4 24 = some [24] := by kernel_rfl
theorem hel_us {H : Type} {enc : TypeId × Value → H} {w : World} {base : Nat} {spare : Nat → Bool} {held : Bool} (m : Nat) (cs : List Value) (y : DataW H × List MemPlace)
    (h : DataW.trod enc Try.prog w base spare held m 24 cs = some y) : ∃ x : Int, cs = us x ∧ True := by
  have hl := leaves_of _ _ _ _ _ _ leaves_us h
  obtain ⟨v0, r0, rfl, l0, hl⟩ := hl.cons_
  obtain rfl := hl.nil_
  obtain ⟨n0, rfl, w0⟩ := l0.int_ Try.underlying24
  exact ⟨n0, rfl, trivial⟩
theorem cells_op : Try.prog.cellsOf 34 = 4 := by kernel_rfl
theorem leaves_op : leaves Try.prog 4 34 = some [3, 3, 24, 24] := by kernel_rfl
theorem hel_op {H : Type} {enc : TypeId × Value → H} {w : World} {base : Nat} {spare : Nat → Bool} {held : Bool} (m : Nat) (cs : List Value) (y : DataW H × List MemPlace)
    (h : DataW.trod enc Try.prog w base spare held m 34 cs = some y) : ∃ x : MOp, cs = opc x ∧ True := by
  have hl := leaves_of _ _ _ _ _ _ leaves_op h
  obtain ⟨v0, r0, rfl, l0, hl⟩ := hl.cons_
  obtain ⟨v1, r1, rfl, l1, hl⟩ := hl.cons_
  obtain ⟨v2, r2, rfl, l2, hl⟩ := hl.cons_
  obtain ⟨v3, r3, rfl, l3, hl⟩ := hl.cons_
  obtain rfl := hl.nil_
  obtain ⟨n0, rfl, w0⟩ := l0.int_ Try.underlying3
  obtain ⟨n1, rfl, w1⟩ := l1.int_ Try.underlying3
  obtain ⟨n2, rfl, w2⟩ := l2.int_ Try.underlying24
  obtain ⟨n3, rfl, w3⟩ := l3.int_ Try.underlying24
  exact ⟨⟨n0, n1, n2, n3⟩, rfl, trivial⟩
end Go.Proofs.Ytkfdikbmcleaoaa
