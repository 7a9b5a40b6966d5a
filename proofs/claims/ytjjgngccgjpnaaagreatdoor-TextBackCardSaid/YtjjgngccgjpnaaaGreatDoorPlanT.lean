/- A region that draws its order, walked in a tree of orders: where two acts may come up, both ways. No program in sight. -/
import Derived.Test.YtjjgngccgjpnaaaGreatDoorPlan
import Derived.Test.YtjjgngccgjpnaaaGreatDoorKeep
namespace Go.Proofs.YtjjgngccgjpnaaaGreatDoor
set_option linter.unusedVariables false
set_option linter.unusedSimpArgs false
open Go.RowKit

/-- A world that differs from W in the block q alone, of what was there. -/
structure ExtK (q : Nat) (W : World) where
  w : World
  k : Keeps (fun b => b = q) W w
instance instNonemptyExtK (q : Nat) (W : World) : Nonempty (ExtK q W) := ⟨⟨W, Keeps.refl _ W⟩⟩
theorem ExtK.cell {q : Nat} {W : World} (x : ExtK q W) (b o : Nat) (h : b < W.heap.size) (hne : b ≠ q) : x.w.cell? ⟨b, o, none⟩ = W.cell? ⟨b, o, none⟩ := World.cell?_of_block (w := W) (x.k.block b h hne)

theorem of_drew {w w' : World} (h : Below w.drew.heap.size w.drew w') : Below w.heap.size w w' := ⟨h.os, h.tape, h.output, h.size, h.block⟩
theorem keepq_set {q o : Nat} {v : Value} {a w : World} (h : Keeps (fun b => b = q) a w) : Keeps (fun b => b = q) a (w.setCell ⟨q, o, none⟩ v) := h.setCell (fun _ => rfl) v
theorem keepq_drew {q : Nat} {a w : World} (h : Keeps (fun b => b = q) a w) : Keeps (fun b => b = q) a w.drew := h.drew
theorem extk_mem {q : Nat} {W w' : World} (h : Keeps (fun b => b = q) W w') : ∃ x : ExtK q W, w' = x.w := ⟨⟨w', h⟩, rfl⟩
theorem ext_mem {W w' : World} (h : Below W.heap.size W w') : ∃ x : Ext W, w' = x.w := ⟨⟨w', h⟩, rfl⟩

inductive PT
  | fin (seg : List Nat)
  | one (seg : List Nat) (i : Nat) (r : PT)
  | two (seg : List Nat) (i : Nat) (r : PT) (j : Nat) (s : PT)

section
variable {P : Program} {l : List Oper} {Q : Exit → Act → World → Prop} {S : World → Prop}

def treeOk (l : List Oper) : PT → Nat → Array Bool → Bool
  | .fin seg, fuel, listed => segOk l (fun _ listed => Region.ready .any l.toArray listed == []) seg fuel listed
  | .one seg i r, fuel, listed => segOk l (fun fuel listed => Region.ready .any l.toArray listed == [i] && (match fuel with | 0 => false | fuel + 1 => treeOk l r fuel (listed.setIfInBounds i true))) seg fuel listed
  | .two seg i r j s, fuel, listed => segOk l (fun fuel listed => Region.ready .any l.toArray listed == [i, j] && (match fuel with | 0 => false | fuel + 1 => treeOk l r fuel (listed.setIfInBounds i true) && treeOk l s fuel (listed.setIfInBounds j true))) seg fuel listed

def wpTree (P : Program) (l : List Oper) (Q : Exit → Act → World → Prop) (S : World → Prop) : PT → Act → World → Prop
  | .fin seg, a, w => wpQuiet P l.toArray S (fun a' => Q .normal a' w) (pickOps l seg) a
  | .one seg i r, a, w => wpQuiet P l.toArray S (fun a' => planAct P l Q S l[i]? (wpTree P l Q S r) a' w) (pickOps l seg) a
  | .two seg i r j s, a, w => wpQuiet P l.toArray S (fun a' => planAct P l Q S l[i]? (wpTree P l Q S r) a' w ∧ planAct P l Q S l[j]? (wpTree P l Q S s) a' w) (pickOps l seg) a

theorem tree_step {rs : List Nat} {fuel : Nat} {listed : Array Bool} {a : Act} {w : World} (hr : Region.ready .any l.toArray listed = rs) (hne : rs ≠ []) (T : Nat → Act → World → Prop)
    (hT : ∀ j ∈ rs, ∀ a w, S w → T j a w → wpAnyH P .any l.toArray Q S fuel (listed.setIfInBounds j true) a w) (h : ∀ j ∈ rs, planAct P l Q S l[j]? (T j) a w) : wpAnyH P .any l.toArray Q S (fuel + 1) listed a w := by
  refine wpAnyH_all hr hne fun j hj => ?_
  have hin := (mem_ready.1 (by rw [hr]; exact hj : j ∈ Region.ready .any l.toArray listed)).2
  obtain ⟨o, ho, _⟩ := hin
  have ho' : l[j]? = some o := by simpa using ho
  have hx := h j hj
  simp only [planAct, ho'] at hx
  exact wpOp_step ho fun K' hK => hx K' (fun a w hs hw => hK a w ⟨hs, hT j hj a w hs hw⟩)

theorem tree_any (hsel : Region.noSelect l.toArray = true) (hQ : ∀ c (a : Act) d v w, Q (.panic c) (a.put d v) w → Q (.panic c) a w) :
    ∀ (t : PT) (fuel : Nat) (listed : Array Bool) (a : Act) (w : World), treeOk l t fuel listed = true → S w → wpTree P l Q S t a w → wpAnyH P .any l.toArray Q S fuel listed a w
  | .fin seg, fuel, listed, a, w, hk, hS, h => seg_take hsel hQ hS (fun fuel listed a hk hx => wpAnyH_done (by simpa using hk) hx fuel) seg fuel listed a hk h
  | .one seg i r, fuel, listed, a, w, hk, hS, h => by
    refine seg_take hsel hQ hS (fun fuel listed a hk hx => ?_) seg fuel listed a hk h
    simp only [Bool.and_eq_true] at hk
    obtain ⟨h1, h2⟩ := hk
    cases fuel with
    | zero => simp at h2
    | succ fuel =>
      simp only at h2
      refine tree_step (rs := [i]) (by simpa using h1) (by simp) (fun _ => wpTree P l Q S r) (fun j hj a w hs hw => ?_) (fun j hj => ?_)
      · obtain rfl : j = i := by simpa using hj
        exact tree_any hsel hQ r fuel _ a w h2 hs hw
      · obtain rfl : j = i := by simpa using hj
        exact hx
  | .two seg i r k s, fuel, listed, a, w, hk, hS, h => by
    refine seg_take hsel hQ hS (fun fuel listed a hk hx => ?_) seg fuel listed a hk h
    simp only [Bool.and_eq_true] at hk
    obtain ⟨h1, h2⟩ := hk
    cases fuel with
    | zero => simp at h2
    | succ fuel =>
      simp only [Bool.and_eq_true] at h2
      refine tree_step (rs := [i, k]) (by simpa using h1) (by simp) (fun j => if j = i then wpTree P l Q S r else wpTree P l Q S s) (fun j hj a w hs hw => ?_) (fun j hj => ?_)
      · by_cases hji : j = i
        · subst hji
          rw [if_pos rfl] at hw
          exact tree_any hsel hQ r fuel _ a w h2.1 hs hw
        · obtain rfl : j = k := by simp at hj; omega
          rw [if_neg hji] at hw
          exact tree_any hsel hQ s fuel _ a w h2.2 hs hw
      · by_cases hji : j = i
        · subst hji
          simp only [if_pos]
          exact hx.1
        · obtain rfl : j = k := by simp at hj; omega
          simp only [if_neg hji]
          exact hx.2

theorem wpTree_one {seg : List Nat} {i : Nat} {r : PT} {a : Act} {w : World} (h : wpQuiet P l.toArray S (fun a' => planAct P l Q S l[i]? (wpTree P l Q S r) a' w) (pickOps l seg) a) : wpTree P l Q S (.one seg i r) a w := h
theorem wpTree_two {seg : List Nat} {i j : Nat} {r s : PT} {a : Act} {w : World} (h : wpQuiet P l.toArray S (fun a' => planAct P l Q S l[i]? (wpTree P l Q S r) a' w ∧ planAct P l Q S l[j]? (wpTree P l Q S s) a' w) (pickOps l seg) a) : wpTree P l Q S (.two seg i r j s) a w := h
theorem wpTree_fin {seg : List Nat} {a : Act} {w : World} (h : wpQuiet P l.toArray S (fun a' => Q .normal a' w) (pickOps l seg) a) : wpTree P l Q S (.fin seg) a w := h

/-- **A region in a tree of orders.** -/
theorem wp_region_tree {id : Nat} {a : Act} {w : World} (S : World → Prop) (t : PT) (hm : P.follows .mixedOrders = true) (hsel : Region.noSelect l.toArray = true)
    (hok : treeOk l t l.toArray.size (Array.replicate l.toArray.size false) = true) (hQ : ∀ c (a : Act) d v w, Q (.panic c) (a.put d v) w → Q (.panic c) a w) (hS : S w.drew)
    (h : wpTree P l Q S t a w.drew) : (Code.region id l.toArray true).wp P Q a w :=
  wp_region_held_drew hm hS fun hS => tree_any hsel hQ t _ _ a _ hok hS h
end
end Go.Proofs.YtjjgngccgjpnaaaGreatDoor
