/- A region that draws its order and whose last operation, which waits for all others, may leave the class of worlds behind (a store into a cell that was loaded). No program in sight. -/
import Derived.Test.YtjjgngccgjpnaaaGreatDoorPlanT
import Derived.Laws.Rows
namespace Go.Proofs.YtjjgngccgjpnaaaGreatDoor
set_option linter.unusedVariables false
set_option linter.unusedSimpArgs false
open Go.RowKit

section
variable {P : Program} {ops : Array Oper} {Q : Exit → Act → World → Prop} {S : World → Prop} {z : Nat}

/-- In whatever order: S is asked of each world in which z is still to come. -/
def Ways (P : Program) (ops : Array Oper) (Q : Exit → Act → World → Prop) (S : World → Prop) (z : Nat) : Nat → Array Bool → Act → World → Prop
  | 0, done, a, w => Region.ready .any ops done = [] ∧ Q .normal a w
  | n + 1, done, a, w => (Region.ready .any ops done = [] → Q .normal a w) ∧
      ∀ i ∈ Region.ready .any ops done, wpOp P ops Q i (fun a' w' => ((done.setIfInBounds i true).getD z true = false → S w') ∧ Ways P ops Q S z n (done.setIfInBounds i true) a' w') a w

theorem Ways.any : ∀ (n : Nat) (done : Array Bool) (a : Act) (w : World), Ways P ops Q S z n done a w → wpAny P .any ops Q n done a w
  | 0, _, _, _, h => h
  | n + 1, _, _, _, h => ⟨h.1, fun i hi => wpOp_mono (fun a' w' h' => Ways.any n _ a' w' h'.2) (h.2 i hi)⟩

theorem Ways.end_ {n : Nat} {done : Array Bool} {a : Act} {w : World} (hr : Region.ready .any ops done = []) (h : Q .normal a w) : Ways P ops Q S z n done a w := by
  cases n with
  | zero => exact ⟨hr, h⟩
  | succ n => exact ⟨fun _ => h, fun i hi => by rw [hr] at hi; cases hi⟩

/-- z waits for i. -/
def waits (ops : Array Oper) (z i : Nat) : Bool := match ops[z]? with
  | none => false
  | some o => o.after.toList.any fun e => Region.binds .any e && e.on == i && z != i
theorem waits_spec {i j : Nat} {done : Array Bool} (h : waits ops z i = true) (hi : i ∈ Region.ready .any ops done) (hj : j ∈ Region.ready .any ops done) : j ≠ z ∧ i ≠ z := by
  unfold waits at h
  cases ho : ops[z]? with
  | none => rw [ho] at h; cases h
  | some oz =>
    rw [ho] at h
    obtain ⟨e, he, h2⟩ := List.any_eq_true.1 h
    simp only [Bool.and_eq_true, beq_iff_eq, bne_iff_ne] at h2
    obtain ⟨⟨hb, hon⟩, hzi⟩ := h2
    refine ⟨?_, fun q => hzi q.symm⟩
    rintro rfl
    obtain ⟨_, o, ho2, hall⟩ := mem_ready.1 hj
    rw [ho] at ho2
    cases ho2
    have h1 := hall e (by simpa using he) hb
    have h3 := (mem_ready.1 hi).1
    rw [hon] at h1
    rw [Array.getD_eq_getD_getElem?] at h1 h3
    cases hd : done[i]? with
    | none => rw [hd] at h1; simp at h1
    | some b => rw [hd] at h1 h3; simp at h1 h3; rw [h1] at h3; cases h3

theorem Ways.take {i : Nat} {oi : Oper} {v : Value} (hi : ops[i]? = some oi) (hsel : Region.noSelect ops = true) (hQ : ∀ c a w, Q (.panic c) (a.put oi.dst v) w → Q (.panic c) a w) (hw : waits ops z i = true)
    (n : Nat) : ∀ (done : Array Bool) (a : Act) (w : World), done.getD z true = false → (∀ j oj, ops[j]? = some oj → j ≠ i → done.getD j true = false → (∀ e ∈ oj.after, Region.binds .any e = true → e.on ≠ i) → oi.apart ops oj = true) →
      i ∈ Region.ready .any ops done → YieldsIf P ops S oi v a → S w → Ways P ops Q S z n (done.setIfInBounds i true) (a.put oi.dst v) w → Ways P ops Q S z (n + 1) done a w := by
  induction n with
  | zero =>
    intro done a w hz _ hr hy hS H
    refine ⟨fun h => absurd hr (by rw [h]; simp), fun j hj => ?_⟩
    rcases Nat.decEq j i with hne | rfl
    · have := ready_mono hj hne
      rw [H.1] at this
      simp at this
    · exact hy.wpOp hi hS ⟨fun _ => hS, H⟩
  | succ n ih =>
    intro done a w hz hfree hr hy hS H
    refine ⟨fun h => absurd hr (by rw [h]; simp), fun j hj => ?_⟩
    rcases Nat.decEq j i with hne | rfl
    · obtain ⟨hjd, oj, hoj, hall⟩ := mem_ready.1 hj
      obtain ⟨hjz, hiz⟩ := waits_spec hw hr hj
      have hno : ∀ e ∈ oj.after, Region.binds .any e = true → e.on ≠ i := by
        intro e he hb heq
        have h1 := hall e he hb
        have h2 := (mem_ready.1 hr).1
        rw [heq] at h1
        rw [Array.getD_eq_getD_getElem?] at h1 h2
        cases hd : done[i]? with
        | none => rw [hd] at h1; simp at h1
        | some b => rw [hd] at h1 h2; simp at h1 h2; rw [h1] at h2; cases h2
      have hs := fun j o cs b => Region.noSelect_spec hsel (ops := ops) j o cs b
      have h2 := wpOp_putIf hoj (hfree j oj hoj hne hjd hno) (fun cs b => hs i oi cs b hi) (fun cs b => hs j oj cs b hoj) hQ hy (H.2 j (ready_mono hj hne))
      have hri := ready_mono hr (Ne.symm hne)
      refine wpOp_mono (fun a' w' h3 => ?_) h2
      obtain ⟨hy', hS', hW⟩ := h3
      rw [Array.setIfInBounds_comm _ _ (Ne.symm hne)] at hS' hW
      have hzj : (done.setIfInBounds j true).getD z true = false := by rwa [getD_set_ne true hjz]
      have hSw : S w' := hS' (by rwa [getD_set_ne true hiz])
      refine ⟨fun _ => hSw, ih _ a' w' hzj (fun k ok hk hki hkd hkn => ?_) hri hy' hSw hW⟩
      refine hfree k ok hk hki ?_ hkn
      rcases Nat.decEq j k with hjk | rfl
      · rwa [getD_set_ne true hjk] at hkd
      · exact hjd
    · exact hy.wpOp hi hS ⟨fun _ => hS, H⟩
end

inductive PG
  | fin (seg : List Nat)
  | one (seg : List Nat) (i : Nat) (r : PG)
  | two (seg : List Nat) (i : Nat) (r : PG) (j : Nat) (s : PG)

section
variable {P : Program} {l : List Oper} {Q : Exit → Act → World → Prop} {S : World → Prop} {z : Nat}

/-- The stills of a piece, ahead of z. -/
def segG (l : List Oper) (z : Nat) (k : Nat → Array Bool → Bool) : List Nat → Nat → Array Bool → Bool
  | [], fuel, done => k fuel done
  | _ :: _, 0, _ => false
  | i :: r, fuel + 1, done => ((l[i]?).map stillOp).getD false && (Region.ready .any l.toArray done).contains i && Region.free .any l.toArray done i && waits l.toArray z i && !(done.getD z true) && segG l z k r fuel (done.setIfInBounds i true)
/-- The last piece is z alone. -/
def treeG (l : List Oper) (z : Nat) : PG → Nat → Array Bool → Bool
  | .fin seg, fuel, done => segG l z (fun fuel done => Region.ready .any l.toArray done == [z] && decide (0 < fuel) && (Region.ready .any l.toArray (done.setIfInBounds z true) == []) && ((done.setIfInBounds z true).getD z false)) seg fuel done
  | .one seg i r, fuel, done => segG l z (fun fuel done => Region.ready .any l.toArray done == [i] && (match fuel with | 0 => false | fuel + 1 => treeG l z r fuel (done.setIfInBounds i true))) seg fuel done
  | .two seg i r j s, fuel, done => segG l z (fun fuel done => Region.ready .any l.toArray done == [i, j] && (match fuel with | 0 => false | fuel + 1 => treeG l z r fuel (done.setIfInBounds i true) && treeG l z s fuel (done.setIfInBounds j true))) seg fuel done

/-- The last act: no class is asked behind it. -/
def lastG (P : Program) (l : List Oper) (Q : Exit → Act → World → Prop) (o : Option Oper) (a : Act) (w : World) : Prop :=
  match o with
  | none => Q .normal a w
  | some o => ∀ K' : Act → World → Prop, Shut (∀ a w, Q .normal a w → K' a w) → if Region.wanted o (yielded l.toArray a.tmps) = true then Oper.wp P o a w K' Q else K' (a.put o.dst undef) w
theorem lastG_some {o : Oper} {a : Act} {w : World}
    (h : ∀ K' : Act → World → Prop, Shut (∀ a w, Q .normal a w → K' a w) → if Region.wanted o (yielded l.toArray a.tmps) = true then Oper.wp P o a w K' Q else K' (a.put o.dst undef) w) : lastG P l Q (some o) a w := h

def wpG (P : Program) (l : List Oper) (Q : Exit → Act → World → Prop) (S : World → Prop) (z : Nat) : PG → Act → World → Prop
  | .fin seg, a, w => wpQuiet P l.toArray S (fun a' => lastG P l Q l[z]? a' w) (pickOps l seg) a
  | .one seg i r, a, w => wpQuiet P l.toArray S (fun a' => planAct P l Q S l[i]? (wpG P l Q S z r) a' w) (pickOps l seg) a
  | .two seg i r j s, a, w => wpQuiet P l.toArray S (fun a' => planAct P l Q S l[i]? (wpG P l Q S z r) a' w ∧ planAct P l Q S l[j]? (wpG P l Q S z s) a' w) (pickOps l seg) a

theorem segG_take (hsel : Region.noSelect l.toArray = true) (hQ : ∀ c (a : Act) d v w, Q (.panic c) (a.put d v) w → Q (.panic c) a w) {k : Nat → Array Bool → Bool} {X : Act → Prop} {w : World} (hS : S w)
    (hX : ∀ fuel done a, k fuel done = true → X a → Ways P l.toArray Q S z fuel done a w) :
    ∀ (seg : List Nat) (fuel : Nat) (done : Array Bool) (a : Act), segG l z k seg fuel done = true → wpQuiet P l.toArray S X (pickOps l seg) a → Ways P l.toArray Q S z fuel done a w
  | [], fuel, done, a, hk, h => hX _ _ _ hk h
  | i :: r, 0, done, a, hk, h => by simp [segG] at hk
  | i :: r, fuel + 1, done, a, hk, h => by
    simp only [segG, Bool.and_eq_true] at hk
    obtain ⟨⟨⟨⟨⟨h1, h2⟩, h3⟩, h5⟩, h6⟩, h4⟩ := hk
    have h6 : done.getD z true = false := by simpa using h6
    cases ho : l[i]? with
    | none => rw [ho] at h1; simp at h1
    | some o =>
      rw [ho] at h1
      simp only [Option.map_some, Option.getD_some] at h1
      simp only [pickOps, ho, Option.elim_some, wpQuiet] at h
      have hi : l.toArray[i]? = some o := by simpa using ho
      by_cases hw : Region.wanted o (yielded l.toArray a.tmps) = true
      · rw [if_pos hw] at h
        obtain ⟨v, hv, hr⟩ := h
        exact Ways.take hi hsel (fun c a w => hQ c a _ _ w) h5 fuel done a w h6 (Region.free_spec hi h3) (by simpa using h2) (.inl ⟨hw, still_yields h1 hv⟩) hS (segG_take hsel hQ hS hX r fuel _ _ h4 hr)
      · rw [if_neg hw] at h
        exact Ways.take hi hsel (fun c a w => hQ c a _ _ w) h5 fuel done a w h6 (Region.free_spec hi h3) (by simpa using h2) (.inr ⟨by simpa using hw, rfl⟩) hS (segG_take hsel hQ hS hX r fuel _ _ h4 h)

theorem ways_step {rs : List Nat} {fuel : Nat} {done : Array Bool} {a : Act} {w : World} (hr : Region.ready .any l.toArray done = rs) (hne : rs ≠ []) (T : Nat → Act → World → Prop)
    (hT : ∀ j ∈ rs, ∀ a w, S w → T j a w → Ways P l.toArray Q S z fuel (done.setIfInBounds j true) a w) (h : ∀ j ∈ rs, planAct P l Q S l[j]? (T j) a w) : Ways P l.toArray Q S z (fuel + 1) done a w := by
  refine ⟨fun h0 => absurd (hr ▸ h0) hne, fun j hj => ?_⟩
  rw [hr] at hj
  have hin := (mem_ready.1 (by rw [hr]; exact hj : j ∈ Region.ready .any l.toArray done)).2
  obtain ⟨o, ho, _⟩ := hin
  have ho' : l[j]? = some o := by simpa using ho
  have hx := h j hj
  simp only [planAct, ho'] at hx
  exact wpOp_step ho fun K' hK => hx K' (fun a w hs hw => hK a w ⟨fun _ => hs, hT j hj a w hs hw⟩)

theorem treeG_ways (hsel : Region.noSelect l.toArray = true) (hQ : ∀ c (a : Act) d v w, Q (.panic c) (a.put d v) w → Q (.panic c) a w) :
    ∀ (t : PG) (fuel : Nat) (done : Array Bool) (a : Act) (w : World), treeG l z t fuel done = true → S w → wpG P l Q S z t a w → Ways P l.toArray Q S z fuel done a w
  | .fin seg, fuel, done, a, w, hk, hS, h => by
    refine segG_take hsel hQ hS (fun fuel done a hk hx => ?_) seg fuel done a hk h
    simp only [Bool.and_eq_true] at hk
    obtain ⟨⟨⟨h1, h2⟩, h3⟩, h4⟩ := hk
    have h1 : Region.ready .any l.toArray done = [z] := by simpa using h1
    have h3 : Region.ready .any l.toArray (done.setIfInBounds z true) = [] := by simpa using h3
    cases fuel with
    | zero => simp at h2
    | succ fuel =>
      refine ⟨fun h0 => (by rw [h1] at h0; cases h0), fun j hj => ?_⟩
      have hin := (mem_ready.1 hj).2
      rw [h1] at hj
      obtain rfl : j = z := by simpa using hj
      obtain ⟨o, ho, _⟩ := hin
      have ho' : l[j]? = some o := by simpa using ho
      simp only [lastG, ho'] at hx
      refine wpOp_step ho fun K' hK => hx K' (fun a w hq => hK a w ⟨fun hz => ?_, Ways.end_ h3 hq⟩)
      rw [Array.getD_eq_getD_getElem?] at hz h4
      cases hd : (done.setIfInBounds j true)[j]? with
      | none => rw [hd] at h4; simp at h4
      | some b => rw [hd] at hz h4; simp at hz h4; rw [h4] at hz; cases hz
  | .one seg i r, fuel, done, a, w, hk, hS, h => by
    refine segG_take hsel hQ hS (fun fuel done a hk hx => ?_) seg fuel done a hk h
    simp only [Bool.and_eq_true] at hk
    obtain ⟨h1, h2⟩ := hk
    cases fuel with
    | zero => simp at h2
    | succ fuel =>
      simp only at h2
      refine ways_step (rs := [i]) (by simpa using h1) (by simp) (fun _ => wpG P l Q S z r) (fun j hj a w hs hw => ?_) (fun j hj => ?_)
      · obtain rfl : j = i := by simpa using hj
        exact treeG_ways hsel hQ r fuel _ a w h2 hs hw
      · obtain rfl : j = i := by simpa using hj
        exact hx
  | .two seg i r k s, fuel, done, a, w, hk, hS, h => by
    refine segG_take hsel hQ hS (fun fuel done a hk hx => ?_) seg fuel done a hk h
    simp only [Bool.and_eq_true] at hk
    obtain ⟨h1, h2⟩ := hk
    cases fuel with
    | zero => simp at h2
    | succ fuel =>
      simp only [Bool.and_eq_true] at h2
      refine ways_step (rs := [i, k]) (by simpa using h1) (by simp) (fun j => if j = i then wpG P l Q S z r else wpG P l Q S z s) (fun j hj a w hs hw => ?_) (fun j hj => ?_)
      · by_cases hji : j = i
        · subst hji
          rw [if_pos rfl] at hw
          exact treeG_ways hsel hQ r fuel _ a w h2.1 hs hw
        · obtain rfl : j = k := by simp at hj; omega
          rw [if_neg hji] at hw
          exact treeG_ways hsel hQ s fuel _ a w h2.2 hs hw
      · by_cases hji : j = i
        · subst hji
          simp only [if_pos]
          exact hx.1
        · obtain rfl : j = k := by simp at hj; omega
          simp only [if_neg hji]
          exact hx.2

theorem wpG_one {seg : List Nat} {i : Nat} {r : PG} {a : Act} {w : World} (h : wpQuiet P l.toArray S (fun a' => planAct P l Q S l[i]? (wpG P l Q S z r) a' w) (pickOps l seg) a) : wpG P l Q S z (.one seg i r) a w := h
theorem wpG_two {seg : List Nat} {i j : Nat} {r s : PG} {a : Act} {w : World} (h : wpQuiet P l.toArray S (fun a' => planAct P l Q S l[i]? (wpG P l Q S z r) a' w ∧ planAct P l Q S l[j]? (wpG P l Q S z s) a' w) (pickOps l seg) a) : wpG P l Q S z (.two seg i r j s) a w := h
theorem wpG_fin {seg : List Nat} {a : Act} {w : World} (h : wpQuiet P l.toArray S (fun a' => lastG P l Q l[z]? a' w) (pickOps l seg) a) : wpG P l Q S z (.fin seg) a w := h

/-- **A region in a tree of orders, z its last.** -/
theorem wp_region_last {id : Nat} {a : Act} {w : World} (S : World → Prop) (z : Nat) (t : PG) (hm : P.follows .mixedOrders = true) (hsel : Region.noSelect l.toArray = true)
    (hok : treeG l z t l.toArray.size (Array.replicate l.toArray.size false) = true) (hQ : ∀ c (a : Act) d v w, Q (.panic c) (a.put d v) w → Q (.panic c) a w) (hS : S w.drew)
    (h : wpG P l Q S z t a w.drew) : (Code.region id l.toArray true).wp P Q a w :=
  wp_region_any hm (Ways.any _ _ _ _ (treeG_ways hsel hQ t _ _ a _ hok hS h))
end

/-- A load of a whole block, as a step of the walk in a class of worlds. -/
theorem wpQuiet_load_row {P : Program} {ops : Array Oper} {C : World → Prop} {Q : Act → Prop} {rest : List Oper} {o : Oper} {a : Act} (hgd : o.guard = none) (ty : TypeId) (x : Operand) (ho : o.op = .load ty x)
    (g : Nat) (hx : a.eval x = .pointer (some ⟨g, 0, none⟩)) (t : TypeId) (cs : Array Value) (d : TypeDesc) (hg : ∀ w, C w → Blk w g t cs)
    (hu : P.underlying ty = some d) (hd : (match d with | .struct _ | .array _ _ => true | _ => false) = true) (hi : (P.info? ty).map (·.size) = some cs.size)
    (h : wpQuiet P ops C Q rest (a.put o.dst (.agg cs))) : wpQuiet P ops C Q (o :: rest) a := by
  unfold wpQuiet
  rw [if_pos (by simp [Region.wanted, hgd])]
  refine ⟨.agg cs, fun w hw => ?_, h⟩
  unfold Oper.quietAt execOp
  simp only [ho, hx, Instr.loadAt, Instr.sureAddr, Sem.run_bind, Sem.run_pure, Result.andThen_ok, run_loadVar_row w g t ty cs (0, 0) d (hg w hw) hu hd hi]
  exact ⟨rfl, rfl⟩
theorem blk_ext {W : World} {g : Nat} {t : TypeId} {cs : Array Value} (h : Blk W g t cs) : ∀ w, (∃ x : Ext W, w = x.w) → Blk w g t cs := by
  rintro w ⟨x, rfl⟩
  exact h.below_ x.b
end Go.Proofs.YtjjgngccgjpnaaaGreatDoor
