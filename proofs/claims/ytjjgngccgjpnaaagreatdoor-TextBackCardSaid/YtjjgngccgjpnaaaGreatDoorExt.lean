/- Regions that draw their order and whose callees may make memory: one walk of the text's order. No program in sight. -/
import Derived.Test.YtjjgngccgjpnaaaGreatDoorBase
import Derived.Deep.LoopGhost
import Derived.Deep.Cut
import Derived.Deep.CutRange
import Derived.Deep.DeepCutAuto
import Derived.Deep.CutBlock
import Derived.Deep.DeepFit
namespace Go.Proofs.YtjjgngccgjpnaaaGreatDoor
set_option linter.unusedVariables false
set_option linter.unusedSimpArgs false
open Go.RowKit

/-- A world that has grown out of W; what was there is as it was. -/
structure Ext (W : World) where
  w : World
  b : Below W.heap.size W w

instance instNonemptyExt (W : World) : Nonempty (Ext W) := ⟨⟨W, brefl W⟩⟩

theorem Ext.cell {W : World} (x : Ext W) (b o : Nat) (h : b < W.heap.size) : x.w.cell? ⟨b, o, none⟩ = W.cell? ⟨b, o, none⟩ := x.b.cell (p := ⟨b, o, none⟩) h
theorem Ext.frozen {W : World} (x : Ext W) (b o : Nat) (h : b < W.heap.size) : x.w.frozen? ⟨b, o, none⟩ = W.frozen? ⟨b, o, none⟩ := x.b.frozen (p := ⟨b, o, none⟩) h
theorem Ext.keep {W : World} (x : Ext W) {b o : Nat} {u : Value} (h : W.cell? ⟨b, o, none⟩ = some u) : x.w.cell? ⟨b, o, none⟩ = some u := keep_below h x.b

theorem bcell {W w1 : World} (hb : Below W.heap.size W w1) : (∀ b o, b < W.heap.size → w1.cell? ⟨b, o, none⟩ = W.cell? ⟨b, o, none⟩) ∧ (∀ b o, b < W.heap.size → w1.frozen? ⟨b, o, none⟩ = W.frozen? ⟨b, o, none⟩) ∧ W.heap.size ≤ w1.heap.size :=
  ⟨fun b o h => hb.cell (p := ⟨b, o, none⟩) h, fun b o h => hb.frozen (p := ⟨b, o, none⟩) h, hb.size⟩

/-- The class of these worlds. -/
def Grows (W : World) : World → Prop := fun w' => ∃ x : Ext W, w' = x.w

theorem ext_call {P : Program} {f : FuncId} {args : Array Value} {W : World} {x : Ext W} {v : Value} (h : Calls P f args x.w fun e w' => e = .returned v ∧ Below x.w.heap.size x.w w') :
    Calls P f args x.w fun e w'' => e = .returned v ∧ ∃ y : Ext W, w'' = y.w :=
  h.mono fun e w' ⟨he, hb⟩ => ⟨he, ⟨w', bnext x.b hb⟩, rfl⟩
theorem ext_same {P : Program} {f : FuncId} {args : Array Value} {W : World} {x : Ext W} {v : Value} (h : Calls P f args x.w fun e w' => e = .returned v ∧ x.w = w') :
    Calls P f args x.w fun e w'' => e = .returned v ∧ ∃ y : Ext W, w'' = y.w :=
  h.mono fun e w' ⟨he, hw⟩ => ⟨he, x, hw.symm⟩
theorem ext_drawn {P : Program} {f : FuncId} {args : Array Value} {W : World} {x : Ext W} {v : Value} (h : Calls P f args x.w fun e w' => e = .returned v ∧ ∃ d, w' = x.w.drewN d) :
    Calls P f args x.w fun e w'' => e = .returned v ∧ ∃ y : Ext W, w'' = y.w :=
  h.mono fun e w' ⟨he, d, hw⟩ => ⟨he, ⟨w', hw ▸ below_drewN x.b d⟩, rfl⟩

theorem wp_region_ext {P : Program} {id : Nat} {Q : Exit → Act → World → Prop} {a : Act} {w : World} {l : List Oper} (hm : P.follows .mixedOrders = true) (hB : Region.lexB .any l.toArray = true)
    (h : wpQuiet P l.toArray (fun w' => ∃ x : Ext w, w' = x.w) (fun a' => ∀ w', (∃ x : Ext w, w' = x.w) → Q .normal a' w') l a) : (Code.region id l.toArray true).wp P Q a w :=
  wp_region_quiet (C := fun w' => ∃ x : Ext w, w' = x.w) hm hB ⟨⟨w.drew, (brefl w).drew⟩, rfl⟩ (by simpa using h)


theorem own_below {w w' : World} {B e size n : Nat} {v : Value} {xs : List Value} (h : w.ownsRow B e size v n xs) (hb : Below w.heap.size w w') : w'.ownsRow B e size v n xs :=
  ⟨h.1, h.2.imp id fun ⟨g, cap, cur, h1, h2, h3, h4⟩ => ⟨g, cap, cur, h1, h2, (hb.block g (by
    rcases Nat.lt_or_ge g w.heap.size with hlt | hge
    · exact hlt
    · rw [Array.getElem?_eq_none hge] at h3
      cases h3)).trans h3, h4⟩⟩

section
variable {P : Program} {t e : TypeId} {i : TypeInfo} {z : Value} {size bytes : Nat}

theorem own_ge {w : World} {base : Nat} {n : Nat} {v : Value} {xs : List Value} (h : w.ownsRow base e size v n xs) : ∀ k, v.ownBlock = some k → base ≤ k := by
  intro k hk
  obtain ⟨A, c, rfl, hA⟩ := own_slice h
  cases A with
  | none => simp [Value.ownBlock] at hk
  | some ad =>
    rcases h.2 with ⟨hv, _⟩ | ⟨g, cap, cur, hv, hg, _⟩
    · cases hv
    · rw [hv] at hk
      simp [Value.ownBlock] at hk
      omega

/-- append onto a slice whose row has been made since W0 (or nil): what was there in W0 is as it was. -/
theorem wp_onto (E : Elem P t e i z size bytes) {W0 w : World} {o : Oper} {a : Act} {K : Act → World → Prop} {Q : Exit → Act → World → Prop} (s x : Operand)
    (ho : o.op = .call { callee := .builtin .append, args := #[s, x], argTypes := #[t, t] }) (hb0 : Below W0.heap.size W0 w) {v : Value} {n : Nat} {xs : List Value} (hs : a.eval s = v) (hown : w.ownsRow W0.heap.size e size v n xs)
    {A : Option Addr} {m c : Nat} {ys : List Value} (hx : a.eval x = .slice A m c) (hl : ys.length = m * size) (hr : Rd w A ys) (h1 : ∀ u ∈ ys, u.oneCell' = true)
    (hn : n + m ≤ maxLen) (hb : (n + m) * bytes ≤ 140737488355328)
    (h : ∀ A' c' w', w'.ownsRow W0.heap.size e size (.slice A' (n + m) c') (n + m) (xs ++ ys) → Below W0.heap.size W0 w' → w.grownBy w' v.ownBlock → K (a.put o.dst (.slice A' (n + m) c')) w') : o.wp P a w K Q :=
  wp_app E s x ho W0.heap.size hs hown hx hl hr h1 hn hb hb0.size fun A' c' w' h2 h3 _ => h A' c' w' h2 (hb0.grown h3 hb0.size (own_ge hown)) h3
theorem wpList_onto (E : Elem P t e i z size bytes) {W0 w : World} {ops : Array Oper} {rest : List Oper} {o : Oper} {a : Act} {Q : Exit → Act → World → Prop} (hgd : o.guard = none) (s x : Operand)
    (ho : o.op = .call { callee := .builtin .append, args := #[s, x], argTypes := #[t, t] }) (hb0 : Below W0.heap.size W0 w) {v : Value} {n : Nat} {xs : List Value} (hs : a.eval s = v) (hown : w.ownsRow W0.heap.size e size v n xs)
    {A : Option Addr} {m c : Nat} {ys : List Value} (hx : a.eval x = .slice A m c) (hl : ys.length = m * size) (hr : Rd w A ys) (h1 : ∀ u ∈ ys, u.oneCell' = true)
    (hn : n + m ≤ maxLen) (hb : (n + m) * bytes ≤ 140737488355328)
    (h : ∀ A' c' w', w'.ownsRow W0.heap.size e size (.slice A' (n + m) c') (n + m) (xs ++ ys) → Below W0.heap.size W0 w' → w.grownBy w' v.ownBlock → wpList P ops Q rest (a.put o.dst (.slice A' (n + m) c')) w') : wpList P ops Q (o :: rest) a w :=
  wpList_plain hgd fun _ hK => wp_onto E s x ho hb0 hs hown hx hl hr h1 hn hb fun A' c' w' h2 h3 h4 => hK _ _ (h A' c' w' h2 h3 h4)
theorem step_onto (E : Elem P t e i z size bytes) {W0 w : World} {ops : Array Oper} {o : Oper} {a : Act} {K : Act → World → Prop} {Q : Exit → Act → World → Prop} {L : Prop} (hgd : o.guard = none) (s x : Operand)
    (ho : o.op = .call { callee := .builtin .append, args := #[s, x], argTypes := #[t, t] }) (hb0 : Below W0.heap.size W0 w) {v : Value} {n : Nat} {xs : List Value} (hs : a.eval s = v) (hown : w.ownsRow W0.heap.size e size v n xs)
    {A : Option Addr} {m c : Nat} {ys : List Value} (hx : a.eval x = .slice A m c) (hl : ys.length = m * size) (hr : Rd w A ys) (h1 : ∀ u ∈ ys, u.oneCell' = true)
    (hn : n + m ≤ maxLen) (hb : (n + m) * bytes ≤ 140737488355328)
    (h : ∀ A' c' w', w'.ownsRow W0.heap.size e size (.slice A' (n + m) c') (n + m) (xs ++ ys) → Below W0.heap.size W0 w' → w.grownBy w' v.ownBlock → K (a.put o.dst (.slice A' (n + m) c')) w') :
    if Region.wanted o (yielded ops a.tmps) = true then Oper.wp P o a w K Q else L := by
  rw [if_pos (by simp [Region.wanted, hgd])]
  exact wp_onto E s x ho hb0 hs hown hx hl hr h1 hn hb h
/-- append onto an empty slice that has been made since W0. -/
theorem wp_fresh (E : Elem P t e i z size bytes) {W0 w : World} {o : Oper} {a : Act} {K : Act → World → Prop} {Q : Exit → Act → World → Prop} (s x : Operand)
    (ho : o.op = .call { callee := .builtin .append, args := #[s, x], argTypes := #[t, t] }) (hb0 : Below W0.heap.size W0 w) {g : Nat} (hs : a.eval s = .slice (some ⟨g, 0, none⟩) 0 0) (hown : w.ownsRow W0.heap.size e size (.slice (some ⟨g, 0, none⟩) 0 0) 0 [])
    {A : Option Addr} {m c : Nat} {ys : List Value} (hx : a.eval x = .slice A m c) (hl : ys.length = m * size) (hr : Rd w A ys) (h1 : ∀ u ∈ ys, u.oneCell' = true)
    (hn : m ≤ maxLen) (hb : m * bytes ≤ 140737488355328)
    (h : ∀ A' c' w', w'.ownsRow W0.heap.size e size (.slice A' m c') m ys → Below W0.heap.size W0 w' → w.grownBy w' (some g) → K (a.put o.dst (.slice A' m c')) w') : o.wp P a w K Q :=
  wp_onto (n := 0) (xs := []) E s x ho hb0 hs hown hx hl hr h1 (by omega) (by rw [Nat.zero_add]; exact hb) fun A' c' w' h2 h3 h4 => by
    rw [Nat.zero_add] at h2 ⊢
    exact h A' c' w' h2 h3 h4
theorem wpList_fresh (E : Elem P t e i z size bytes) {W0 w : World} {ops : Array Oper} {rest : List Oper} {o : Oper} {a : Act} {Q : Exit → Act → World → Prop} (hgd : o.guard = none) (s x : Operand)
    (ho : o.op = .call { callee := .builtin .append, args := #[s, x], argTypes := #[t, t] }) (hb0 : Below W0.heap.size W0 w) {g : Nat} (hs : a.eval s = .slice (some ⟨g, 0, none⟩) 0 0) (hown : w.ownsRow W0.heap.size e size (.slice (some ⟨g, 0, none⟩) 0 0) 0 [])
    {A : Option Addr} {m c : Nat} {ys : List Value} (hx : a.eval x = .slice A m c) (hl : ys.length = m * size) (hr : Rd w A ys) (h1 : ∀ u ∈ ys, u.oneCell' = true)
    (hn : m ≤ maxLen) (hb : m * bytes ≤ 140737488355328)
    (h : ∀ A' c' w', w'.ownsRow W0.heap.size e size (.slice A' m c') m ys → Below W0.heap.size W0 w' → w.grownBy w' (some g) → wpList P ops Q rest (a.put o.dst (.slice A' m c')) w') : wpList P ops Q (o :: rest) a w :=
  wpList_plain hgd fun _ hK => wp_fresh E s x ho hb0 hs hown hx hl hr h1 hn hb fun A' c' w' h2 h3 h4 => hK _ _ (h A' c' w' h2 h3 h4)
theorem step_fresh (E : Elem P t e i z size bytes) {W0 w : World} {ops : Array Oper} {o : Oper} {a : Act} {K : Act → World → Prop} {Q : Exit → Act → World → Prop} {L : Prop} (hgd : o.guard = none) (s x : Operand)
    (ho : o.op = .call { callee := .builtin .append, args := #[s, x], argTypes := #[t, t] }) (hb0 : Below W0.heap.size W0 w) {g : Nat} (hs : a.eval s = .slice (some ⟨g, 0, none⟩) 0 0) (hown : w.ownsRow W0.heap.size e size (.slice (some ⟨g, 0, none⟩) 0 0) 0 [])
    {A : Option Addr} {m c : Nat} {ys : List Value} (hx : a.eval x = .slice A m c) (hl : ys.length = m * size) (hr : Rd w A ys) (h1 : ∀ u ∈ ys, u.oneCell' = true)
    (hn : m ≤ maxLen) (hb : m * bytes ≤ 140737488355328)
    (h : ∀ A' c' w', w'.ownsRow W0.heap.size e size (.slice A' m c') m ys → Below W0.heap.size W0 w' → w.grownBy w' (some g) → K (a.put o.dst (.slice A' m c')) w') :
    if Region.wanted o (yielded ops a.tmps) = true then Oper.wp P o a w K Q else L := by
  rw [if_pos (by simp [Region.wanted, hgd])]
  exact wp_fresh E s x ho hb0 hs hown hx hl hr h1 hn hb h
/-- An empty slice that has just been made. -/
theorem own_empty {W0 w : World} (hb : Below W0.heap.size W0 w) {g : Nat} (hg : g = w.heap.size) : (w.alloc (.cells #[] e)).ownsRow W0.heap.size e size (.slice (some ⟨g, 0, none⟩) 0 0) 0 [] := by
  subst hg
  have := own_new (e := e) (size := size) w (n := 0) (c := 0) (cs := #[]) hb.size (by decide) (Nat.le_refl _) (by simp)
  simpa using this
end

end Go.Proofs.YtjjgngccgjpnaaaGreatDoor
