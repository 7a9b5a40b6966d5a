/- Regions that draw their order and whose callees may make memory: one walk of the text's order. No program in sight. -/
import Derived.Test.YtnmbobhbhfmjeaaBase
namespace Go.Proofs.Ytnmbobhbhfmjeaa
set_option linter.unusedVariables false
set_option linter.unusedSimpArgs false
open Go.RowKit

/-- A world that has grown out of W; what was there is as it was. -/
structure Ext (W : World) where
  w : World
  b : Below W.heap.size W w

theorem Ext.cell {W : World} (x : Ext W) (b o : Nat) (h : b < W.heap.size) : x.w.cell? ⟨b, o, none⟩ = W.cell? ⟨b, o, none⟩ := x.b.cell (p := ⟨b, o, none⟩) h
theorem Ext.frozen {W : World} (x : Ext W) (b o : Nat) (h : b < W.heap.size) : x.w.frozen? ⟨b, o, none⟩ = W.frozen? ⟨b, o, none⟩ := x.b.frozen (p := ⟨b, o, none⟩) h
theorem Ext.keep {W : World} (x : Ext W) {b o : Nat} {u : Value} (h : W.cell? ⟨b, o, none⟩ = some u) : x.w.cell? ⟨b, o, none⟩ = some u := keep_below h x.b

/-- The class of these worlds. -/
def Grows (W : World) : World → Prop := fun w' => ∃ x : Ext W, w' = x.w

theorem ext_call {P : Program} {f : FuncId} {args : Array Value} {W : World} {x : Ext W} {v : Value} (h : Calls P f args x.w fun e w' => e = .returned v ∧ Below x.w.heap.size x.w w') :
    Calls P f args x.w fun e w'' => e = .returned v ∧ ∃ y : Ext W, w'' = y.w :=
  h.mono fun e w' ⟨he, hb⟩ => ⟨he, ⟨w', bnext x.b hb⟩, rfl⟩
theorem ext_same {P : Program} {f : FuncId} {args : Array Value} {W : World} {x : Ext W} {v : Value} (h : Calls P f args x.w fun e w' => e = .returned v ∧ x.w = w') :
    Calls P f args x.w fun e w'' => e = .returned v ∧ ∃ y : Ext W, w'' = y.w :=
  h.mono fun e w' ⟨he, hw⟩ => ⟨he, x, hw.symm⟩
theorem ext_drawn {P : Program} {f : FuncId} {args : Array Value} {W : World} {x : Ext W} {v : Value} (h : Calls P f args x.w fun e w' => e = .returned v ∧ ∃ d, w' = x.w.drewN d) :
    Calls P f args x.w fun e w'' => e = .returned v ∧ ∃ y : Ext W, w'' = y.w :=
  h.mono fun e w' ⟨he, d, hw⟩ => ⟨he, ⟨w', hw ▸ below_drewN x.b d⟩, rfl⟩

theorem wp_region_ext {P : Program} {id : Nat} {Q : Exit → Act → World → Prop} {a : Act} {w : World} {l : List Oper} (hm : P.follows .mixedOrders = true) (hB : Region.lexB .any l.toArray = true)
    (h : wpQuiet P l.toArray (fun w' => ∃ x : Ext w, w' = x.w) (fun a' => ∀ w', (∃ x : Ext w, w' = x.w) → Q .normal a' w') l a) : (Code.region id l.toArray true).wp P Q a w :=
  wp_region_quiet (C := fun w' => ∃ x : Ext w, w' = x.w) hm hB ⟨⟨w.drew, (brefl w).drew⟩, rfl⟩ (by simpa using h)

end Go.Proofs.Ytnmbobhbhfmjeaa
