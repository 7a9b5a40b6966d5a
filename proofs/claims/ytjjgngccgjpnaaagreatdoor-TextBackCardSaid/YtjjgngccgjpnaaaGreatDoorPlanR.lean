/- A load of a whole row, as a step of the walk in a class of worlds. No program in sight. -/
import Derived.Test.YtjjgngccgjpnaaaGreatDoorPlanS
import Derived.Deep.MidRow
namespace Go.Proofs.YtjjgngccgjpnaaaGreatDoor
set_option linter.unusedVariables false
set_option linter.unusedSimpArgs false
open Go.RowKit

theorem wpQuiet_load_mid {P : Program} {ops : Array Oper} {C : World → Prop} {Q : Act → Prop} {rest : List Oper} {o : Oper} {a : Act} (hw : Region.wanted o (yielded ops a.tmps) = true) (ty : TypeId) (x : Operand) (ho : o.op = .load ty x)
    (g off : Nat) (hx : a.eval x = .pointer (some ⟨g, off, none⟩)) (cs : List Value) (d : TypeDesc) (hg : ∀ w, C w → w.rangeAt g off cs)
    (hu : P.underlying ty = some d) (hd : d.isRow = true) (hi : (P.info? ty).map (·.size) = some cs.length)
    (h : wpQuiet P ops C Q rest (a.put o.dst (.agg cs.toArray))) : wpQuiet P ops C Q (o :: rest) a := by
  unfold wpQuiet
  rw [if_pos hw]
  refine ⟨.agg cs.toArray, fun w hw => ?_, h⟩
  unfold Oper.quietAt execOp
  simp only [ho, hx, Instr.loadAt, Instr.sureAddr, Sem.run_bind, Sem.run_pure, Result.andThen_ok, run_loadVar_mid w g off ty cs d (hg w hw) hu hd hi]
  exact ⟨rfl, rfl⟩
theorem range_ext {W : World} {g off : Nat} {cs : List Value} (h : W.rangeAt g off cs) : ∀ w, (∃ x : Ext W, w = x.w) → w.rangeAt g off cs := by
  rintro w ⟨x, rfl⟩ j v hj
  exact x.keep (h j v hj)
end Go.Proofs.YtjjgngccgjpnaaaGreatDoor
