/- Slices of numbers that come in. -/
import Derived.Test.YtmjihjbedgbhbaaOpen
import Derived.Test.YtmjihjbedgbhbaaFieldB
namespace Go.Proofs.Ytmjihjbedgbhbaa
set_option linter.unusedVariables false
open Go.RowKit Go.ChangeShapes Go.WideShapes
theorem cells_i : Try.prog.cellsOf 3 = 1 := by kernel_rfl
theorem cells_u : Try.prog.cellsOf 22 = 1 := by kernel_rfl
theorem leaves_i : leaves Try.prog 4 3 = some [3] := by kernel_rfl
theorem leaves_u : leaves Try.prog 4 22 = some [22] := by kernel_rfl
theorem hel_i {H : Type} {enc : TypeId × Value → H} {w : World} {base : Nat} {spare : Nat → Bool} {held : Bool} (m : Nat) (cs : List Value) (y : DataW H × List MemPlace)
    (h : DataW.trod enc Try.prog w base spare held m 3 cs = some y) : ∃ x : Int, cs = ic x ∧ (Lit.int .i64 x).wf = true := by
  have hl := leaves_of _ _ _ _ _ _ leaves_i h
  obtain ⟨v0, r0, rfl, l0, hl⟩ := hl.cons_
  obtain rfl := hl.nil_
  obtain ⟨n0, rfl, w0⟩ := l0.int_ Try.underlying3
  exact ⟨n0, rfl, w0⟩
theorem hel_u {H : Type} {enc : TypeId × Value → H} {w : World} {base : Nat} {spare : Nat → Bool} {held : Bool} (m : Nat) (cs : List Value) (y : DataW H × List MemPlace)
    (h : DataW.trod enc Try.prog w base spare held m 22 cs = some y) : ∃ x : Int, cs = uc x ∧ (Lit.int .u64 x).wf = true := by
  have hl := leaves_of _ _ _ _ _ _ leaves_u h
  obtain ⟨v0, r0, rfl, l0, hl⟩ := hl.cons_
  obtain rfl := hl.nil_
  obtain ⟨n0, rfl, w0⟩ := l0.int_ Try.underlying22
  exact ⟨n0, rfl, w0⟩
end Go.Proofs.Ytmjihjbedgbhbaa
