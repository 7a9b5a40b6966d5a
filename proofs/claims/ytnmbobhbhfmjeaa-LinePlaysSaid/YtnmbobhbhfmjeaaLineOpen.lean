/- Pairs and ints that come in. -/
import Derived.Test.YtnmbobhbhfmjeaaOpen
import Derived.Test.YtnmbobhbhfmjeaaLine
namespace Go.Proofs.Ytnmbobhbhfmjeaa
set_option linter.unusedVariables false
open Go.RowKit Go.ChangeShapes Go.WideShapes
theorem cells_p : Try.prog.cellsOf 29 = 2 := by kernel_rfl
theorem cells_i : Try.prog.cellsOf 3 = 1 := by kernel_rfl
theorem leaves_p : leaves Try.prog 4 29 = some [27, 27] := by kernel_rfl
theorem leaves_i : leaves Try.prog 4 3 = some [3] := by kernel_rfl
def PWf (p : Pr) : Prop := (Lit.int .u64 p.1).wf = true ∧ (Lit.int .u64 p.2).wf = true
theorem hel_p {H : Type} {enc : TypeId × Value → H} {w : World} {base : Nat} {spare : Nat → Bool} {held : Bool} (m : Nat) (cs : List Value) (y : DataW H × List MemPlace)
    (h : DataW.trod enc Try.prog w base spare held m 29 cs = some y) : ∃ x : Pr, cs = pc x ∧ PWf x := by
  have hl := leaves_of _ _ _ _ _ _ leaves_p h
  obtain ⟨v0, r0, rfl, l0, hl⟩ := hl.cons_
  obtain ⟨v1, r1, rfl, l1, hl⟩ := hl.cons_
  obtain rfl := hl.nil_
  obtain ⟨n0, rfl, w0⟩ := l0.int_ Try.underlying27
  obtain ⟨n1, rfl, w1⟩ := l1.int_ Try.underlying27
  exact ⟨(n0, n1), rfl, w0, w1⟩
theorem hel_i {H : Type} {enc : TypeId × Value → H} {w : World} {base : Nat} {spare : Nat → Bool} {held : Bool} (m : Nat) (cs : List Value) (y : DataW H × List MemPlace)
    (h : DataW.trod enc Try.prog w base spare held m 3 cs = some y) : ∃ x : Int, cs = ic x ∧ (Lit.int .i64 x).wf = true := by
  have hl := leaves_of _ _ _ _ _ _ leaves_i h
  obtain ⟨v0, r0, rfl, l0, hl⟩ := hl.cons_
  obtain rfl := hl.nil_
  obtain ⟨n0, rfl, w0⟩ := l0.int_ Try.underlying3
  exact ⟨n0, rfl, w0⟩
end Go.Proofs.Ytnmbobhbhfmjeaa
