/- Scripts that come in, with what their words may be. -/
import Derived.Test.YtknngjdcbldmgaaDoorScrOpen
import Derived.Test.YtknngjdcbldmgaaDoorScrS
namespace Go.Proofs.YtknngjdcbldmgaaDoor
set_option linter.unusedVariables false
open Go.RowKit Go.ChangeShapes Go.WideShapes
theorem wf_i {n : Int} (h : (Lit.int .i64 n).wf = true) : I64 n := by
  have h1 : IntKind.i64.min = -9223372036854775808 := by decide
  have h2 : IntKind.i64.max = 9223372036854775807 := by decide
  simp [Lit.wf, h1, h2] at h
  unfold I64
  omega
theorem wf_u {n : Int} (h : (Lit.int .u64 n).wf = true) : U64 n := by
  have h1 : IntKind.u64.min = 0 := by decide
  have h2 : IntKind.u64.max = 18446744073709551615 := by decide
  simp [Lit.wf, h1, h2] at h
  unfold U64
  omega
theorem cells_ck : Tryd.prog.cellsOf 63 = 7 := by kernel_rfl
theorem leaves_ck : leaves Tryd.prog 6 63 = some [3, 3, 2, 59, 59, 59, 3] := by kernel_rfl
theorem hel_ck {H : Type} {enc : TypeId × Value → H} {w : World} {base : Nat} {spare : Nat → Bool} {held : Bool} (m : Nat) (cs : List Value) (y : DataW H × List MemPlace)
    (h : DataW.trod enc Tryd.prog w base spare held m 63 cs = some y) : ∃ x : CV, cs = cvc x ∧ CVk x := by
  have hl := leaves_of _ _ _ _ _ _ leaves_ck h
  obtain ⟨v0, r0, rfl, l0, hl⟩ := hl.cons_
  obtain ⟨v1, r1, rfl, l1, hl⟩ := hl.cons_
  obtain ⟨v2, r2, rfl, l2, hl⟩ := hl.cons_
  obtain ⟨v3, r3, rfl, l3, hl⟩ := hl.cons_
  obtain ⟨v4, r4, rfl, l4, hl⟩ := hl.cons_
  obtain ⟨v5, r5, rfl, l5, hl⟩ := hl.cons_
  obtain ⟨v6, r6, rfl, l6, hl⟩ := hl.cons_
  obtain rfl := hl.nil_
  obtain ⟨n0, rfl, w0⟩ := l0.int_ Tryd.underlying3
  obtain ⟨n1, rfl, w1⟩ := l1.int_ Tryd.underlying3
  obtain ⟨n2, rfl, w2⟩ := l2.int_ Tryd.underlying2
  obtain ⟨n3, rfl, w3⟩ := l3.int_ Tryd.underlying59
  obtain ⟨n4, rfl, w4⟩ := l4.int_ Tryd.underlying59
  obtain ⟨n5, rfl, w5⟩ := l5.int_ Tryd.underlying59
  obtain ⟨n6, rfl, w6⟩ := l6.int_ Tryd.underlying3
  exact ⟨⟨n0, n1, n2, n3, n4, n5, n6⟩, rfl, ⟨wf_u w3, wf_u w4, wf_u w5⟩, wf_i w2⟩
end Go.Proofs.YtknngjdcbldmgaaDoor
