/- Ops that come in, with their bounds. -/
import Derived.Test.YtlnnnaefmgikpaaWarOpenO
namespace Go.Proofs.Ytlnnnaefmgikpaa
set_option linter.unusedVariables false
open Go.RowKit Go.ChangeShapes Go.WideShapes
theorem hel_opw {H : Type} {enc : TypeId × Value → H} {w : World} {base : Nat} {spare : Nat → Bool} {held : Bool} (m : Nat) (cs : List Value) (y : DataW H × List MemPlace)
    (h : DataW.trod enc Try.prog w base spare held m 24 cs = some y) : ∃ x : OpV, cs = opc x ∧ (wfI x.a ∧ wfI x.b) := by
  have hl := leaves_of _ _ _ _ _ _ leaves_op h
  obtain ⟨v0, r0, rfl, l0, hl⟩ := hl.cons_
  obtain ⟨v1, r1, rfl, l1, hl⟩ := hl.cons_
  obtain ⟨v2, r2, rfl, l2, hl⟩ := hl.cons_
  obtain rfl := hl.nil_
  obtain ⟨n0, rfl⟩ := l0.bool_ Try.underlying4
  obtain ⟨n1, rfl, w1⟩ := l1.int_ Try.underlying3
  obtain ⟨n2, rfl, w2⟩ := l2.int_ Try.underlying3
  exact ⟨⟨n0, n1, n2⟩, rfl, wf_i w1, wf_i w2⟩
end Go.Proofs.Ytlnnnaefmgikpaa
