/- XPlan, XPlanS and XPlanU anew, with the checks whether a pointer is nil among the operations that hand on a value; regions whose last call gives up. No program in sight. -/
import Derived.Test.YtjjgngccgjpnaaaGreatDoorPlanU
namespace Go.Proofs.YtjjgngccgjpnaaaGreatDoor
set_option linter.unusedVariables false
set_option linter.unusedSimpArgs false
open Go.RowKit
namespace NC

/-- Operations that hand on a value and leave the world alone. -/
def stillOp (o : Oper) : Bool := (match o.op with
  | .nilCheck _ => true
  | _ => false) || Go.Proofs.YtjjgngccgjpnaaaGreatDoor.stillOp o

theorem nil_value {P : Program} {ρ : Operand → Value} {x : Operand} {o : Oper} {w w' : World} {n : Next} (ho : o.op = .nilCheck x) (h : (execOp ρ o).run P w = .ok n w') : ∃ x, n = .value x := by
  unfold execOp at h
  rw [ho] at h
  dsimp only at h
  split at h
  · simp [runtimePanic] at h
  · simp [runtimePanic] at h
  · simp [runtimePanic] at h
  · split at h
    · simp [runtimePanic] at h
    · rw [Sem.run_bind] at h
      cases hp : Sem.run P program w with
      | halt x w1 => rw [hp] at h; simp [Result.andThen] at h
      | ok a w1 =>
        rw [hp] at h
        simp only [Result.andThen] at h
        rw [Sem.run_bind] at h
        generalize Sem.run P (nilAhead _ _ _ _) w1 = r at h
        cases r with
        | halt x w2 => simp [Result.andThen] at h
        | ok y w2 =>
          simp only [Result.andThen] at h
          split at h
          · rw [Sem.run_bind] at h; simp [Result.andThen] at h
          · simp [Sem.run_pure] at h; exact ⟨_, h.1.symm⟩
    · simp [Sem.run_pure] at h; exact ⟨_, h.1.symm⟩
  · simp [Sem.run_pure] at h; exact ⟨_, h.1.symm⟩
theorem value_only {P : Program} {ρ : Operand → Value} {o : Oper} {w w' : World} {n : Next} (hk : stillOp o = true) (h : (execOp ρ o).run P w = .ok n w') : ∃ x, n = .value x := by
  by_cases hn : ∃ x, o.op = .nilCheck x
  · obtain ⟨x, hx⟩ := hn
    exact nil_value hx h
  · refine Go.Proofs.YtjjgngccgjpnaaaGreatDoor.value_only ?_ h
    unfold stillOp at hk
    split at hk
    · rename_i x heq
      exact absurd ⟨x, heq⟩ hn
    · simpa using hk

section
variable {P : Program} {l : List Oper} {Q : Exit → Act → World → Prop} {S : World → Prop}

theorem still_yields {o : Oper} {v : Value} {a : Act} (hk : stillOp o = true) (h : ∀ w, S w → o.quietAt P a S w v) : ∀ w, S w → (execOp a.eval o).run P w = .ok (.value v) w := by
  intro w hw
  have := h w hw
  unfold Oper.quietAt at this
  cases hr : (execOp a.eval o).run P w with
  | ok n w' =>
    rw [hr] at this
    obtain ⟨x, rfl⟩ := value_only hk hr
    obtain ⟨h1, h2⟩ := this
    rw [h1, h2]
  | halt x w' =>
    rw [hr] at this
    exact absurd this (by simp [Oper.quietUpon])

def pickOps (l : List Oper) : List Nat → List Oper
  | [] => []
  | i :: r => (l[i]?).elim (pickOps l r) (fun o => o :: pickOps l r)

/-- The stills of a piece, each as it may come up. -/
def segOk (l : List Oper) (k : Nat → Array Bool → Bool) : List Nat → Nat → Array Bool → Bool
  | [], fuel, listed => k fuel listed
  | _ :: _, 0, _ => false
  | i :: r, fuel + 1, listed => ((l[i]?).map stillOp).getD false && (Region.ready .any l.toArray listed).contains i && Region.free .any l.toArray listed i && segOk l k r fuel (listed.setIfInBounds i true)

def planOk (l : List Oper) : List (List Nat × Nat) → List Nat → Nat → Array Bool → Bool
  | [], last, fuel, listed => segOk l (fun _ listed => Region.ready .any l.toArray listed == []) last fuel listed
  | (seg, i) :: r, last, fuel, listed => segOk l (fun fuel listed => Region.ready .any l.toArray listed == [i] && (match fuel with | 0 => false | fuel + 1 => planOk l r last fuel (listed.setIfInBounds i true))) seg fuel listed

/-- The act behind a piece. -/
def planAct (P : Program) (l : List Oper) (Q : Exit → Act → World → Prop) (S : World → Prop) (o : Option Oper) (K : Act → World → Prop) (a : Act) (w : World) : Prop :=
  match o with
  | none => K a w
  | some o => ∀ K' : Act → World → Prop, Shut (∀ a w, S w → K a w → K' a w) → if Region.wanted o (yielded l.toArray a.tmps) = true then Oper.wp P o a w K' Q else K' (a.put o.dst undef) w

def wpPlan (P : Program) (l : List Oper) (Q : Exit → Act → World → Prop) (S : World → Prop) : List (List Nat × Nat) → List Nat → Act → World → Prop
  | [], last, a, w => wpQuiet P l.toArray S (fun a' => Q .normal a' w) (pickOps l last) a
  | (seg, i) :: r, last, a, w => wpQuiet P l.toArray S (fun a' => planAct P l Q S l[i]? (wpPlan P l Q S r last) a' w) (pickOps l seg) a

theorem seg_take (hsel : Region.noSelect l.toArray = true) (hQ : ∀ c (a : Act) d v w, Q (.panic c) (a.put d v) w → Q (.panic c) a w) {k : Nat → Array Bool → Bool} {X : Act → Prop} {w : World} (hS : S w)
    (hX : ∀ fuel listed a, k fuel listed = true → X a → wpAnyH P .any l.toArray Q S fuel listed a w) :
    ∀ (seg : List Nat) (fuel : Nat) (listed : Array Bool) (a : Act), segOk l k seg fuel listed = true → wpQuiet P l.toArray S X (pickOps l seg) a → wpAnyH P .any l.toArray Q S fuel listed a w
  | [], fuel, listed, a, hk, h => hX _ _ _ hk h
  | i :: r, 0, listed, a, hk, h => by simp [segOk] at hk
  | i :: r, fuel + 1, listed, a, hk, h => by
    simp only [segOk, Bool.and_eq_true] at hk
    obtain ⟨⟨⟨h1, h2⟩, h3⟩, h4⟩ := hk
    cases ho : l[i]? with
    | none => rw [ho] at h1; simp at h1
    | some o =>
      rw [ho] at h1
      simp only [Option.map_some, Option.getD_some] at h1
      simp only [pickOps, ho, Option.elim_some, wpQuiet] at h
      have hi : l.toArray[i]? = some o := by simpa using ho
      by_cases hw : Region.wanted o (yielded l.toArray a.tmps) = true
      · rw [if_pos hw] at h
        obtain ⟨v, hv, hr⟩ := h
        exact wpAnyH_take hi hsel h3 h2 (fun c a w => hQ c a _ _ w) (.inl ⟨hw, still_yields h1 hv⟩) hS (seg_take hsel hQ hS hX r fuel _ _ h4 hr)
      · rw [if_neg hw] at h
        exact wpAnyH_take hi hsel h3 h2 (fun c a w => hQ c a _ _ w) (.inr ⟨by simpa using hw, rfl⟩) hS (seg_take hsel hQ hS hX r fuel _ _ h4 h)

theorem plan_any (hsel : Region.noSelect l.toArray = true) (hQ : ∀ c (a : Act) d v w, Q (.panic c) (a.put d v) w → Q (.panic c) a w) (last : List Nat) :
    ∀ (plan : List (List Nat × Nat)) (fuel : Nat) (listed : Array Bool) (a : Act) (w : World), planOk l plan last fuel listed = true → S w → wpPlan P l Q S plan last a w → wpAnyH P .any l.toArray Q S fuel listed a w
  | [], fuel, listed, a, w, hk, hS, h => seg_take hsel hQ hS (fun fuel listed a hk hx => wpAnyH_done (by simpa using hk) hx fuel) last fuel listed a hk h
  | (seg, i) :: r, fuel, listed, a, w, hk, hS, h => by
    refine seg_take hsel hQ hS (fun fuel listed a hk hx => ?_) seg fuel listed a hk h
    simp only [Bool.and_eq_true] at hk
    obtain ⟨h1, h2⟩ := hk
    have hr : Region.ready .any l.toArray listed = [i] := by simpa using h1
    cases fuel with
    | zero => simp at h2
    | succ fuel =>
      simp only at h2
      refine wpAnyH_all hr (by simp) fun j hj => ?_
      obtain rfl : j = i := by simpa using hj
      have hin := (mem_ready.1 (by rw [hr]; exact List.mem_singleton_self j : j ∈ Region.ready .any l.toArray listed)).2
      obtain ⟨o, ho, _⟩ := hin
      have ho' : l[j]? = some o := by simpa using ho
      simp only [planAct, ho'] at hx
      exact wpOp_step ho fun K' hK => hx K' (fun a w hs hw => hK a w ⟨hs, plan_any hsel hQ last r fuel _ a w h2 hs hw⟩)

theorem wpPlan_cons {seg : List Nat} {i : Nat} {r : List (List Nat × Nat)} {last : List Nat} {a : Act} {w : World} (h : wpQuiet P l.toArray S (fun a' => planAct P l Q S l[i]? (wpPlan P l Q S r last) a' w) (pickOps l seg) a) : wpPlan P l Q S ((seg, i) :: r) last a w := h
theorem wpPlan_last {last : List Nat} {a : Act} {w : World} (h : wpQuiet P l.toArray S (fun a' => Q .normal a' w) (pickOps l last) a) : wpPlan P l Q S [] last a w := h
theorem planAct_some {o : Oper} {K : Act → World → Prop} {a : Act} {w : World}
    (h : ∀ K' : Act → World → Prop, Shut (∀ a w, S w → K a w → K' a w) → if Region.wanted o (yielded l.toArray a.tmps) = true then Oper.wp P o a w K' Q else K' (a.put o.dst undef) w) : planAct P l Q S (some o) K a w := h

/-- **A region in the order that is handed in.** -/
theorem wp_region_plan {id : Nat} {a : Act} {w : World} (S : World → Prop) (plan : List (List Nat × Nat)) (last : List Nat) (hm : P.follows .mixedOrders = true) (hsel : Region.noSelect l.toArray = true)
    (hok : planOk l plan last l.toArray.size (Array.replicate l.toArray.size false) = true) (hQ : ∀ c (a : Act) d v w, Q (.panic c) (a.put d v) w → Q (.panic c) a w) (hS : S w.drew)
    (h : wpPlan P l Q S plan last a w.drew) : (Code.region id l.toArray true).wp P Q a w :=
  wp_region_held_drew hm hS fun hS => plan_any hsel hQ last plan _ _ a _ hok hS h
end

section
variable {P : Program} {ops : Array Oper} {Q : Exit → Act → World → Prop} {S : World → Prop} {z : Nat}

/-- In whatever order: S is asked of each world in which z is still to come. -/
def Ways (P : Program) (ops : Array Oper) (Q : Exit → Act → World → Prop) (S : World → Prop) (z : Nat) : Nat → Array Bool → Act → World → Prop
  | 0, done, a, w => Region.ready .any ops done = [] ∧ Q .normal a w
  | n + 1, done, a, w => (Region.ready .any ops done = [] → Q .normal a w) ∧
      ∀ i ∈ Region.ready .any ops done, wpOp P ops Q i (fun a' w' => ((done.setIfInBounds i true).getD z true = false → S w') ∧ Ways P ops Q S z n (done.setIfInBounds i true) a' w') a w

theorem Ways.any : ∀ (n : Nat) (done : Array Bool) (a : Act) (w : World), Ways P ops Q S z n done a w → wpAny P .any ops Q n done a w
  | 0, _, _, _, h => h
  | n + 1, _, _, _, h => ⟨h.1, fun i hi => wpOp_mono (fun a' w' h' => Ways.any n _ a' w' h'.2) (h.2 i hi)⟩

theorem Ways.end_ {n : Nat} {done : Array Bool} {a : Act} {w : World} (hr : Region.ready .any ops done = []) (h : Q .normal a w) : Ways P ops Q S z n done a w := by
  cases n with
  | zero => exact ⟨hr, h⟩
  | succ n => exact ⟨fun _ => h, fun i hi => by rw [hr] at hi; cases hi⟩

/-- z waits for i. -/
def waits (ops : Array Oper) (z i : Nat) : Bool := match ops[z]? with
  | none => false
  | some o => o.after.toList.any fun e => Region.binds .any e && e.on == i && z != i
theorem waits_spec {i j : Nat} {done : Array Bool} (h : waits ops z i = true) (hi : i ∈ Region.ready .any ops done) (hj : j ∈ Region.ready .any ops done) : j ≠ z ∧ i ≠ z := by
  unfold waits at h
  cases ho : ops[z]? with
  | none => rw [ho] at h; cases h
  | some oz =>
    rw [ho] at h
    obtain ⟨e, he, h2⟩ := List.any_eq_true.1 h
    simp only [Bool.and_eq_true, beq_iff_eq, bne_iff_ne] at h2
    obtain ⟨⟨hb, hon⟩, hzi⟩ := h2
    refine ⟨?_, fun q => hzi q.symm⟩
    rintro rfl
    obtain ⟨_, o, ho2, hall⟩ := mem_ready.1 hj
    rw [ho] at ho2
    cases ho2
    have h1 := hall e (by simpa using he) hb
    have h3 := (mem_ready.1 hi).1
    rw [hon] at h1
    rw [Array.getD_eq_getD_getElem?] at h1 h3
    cases hd : done[i]? with
    | none => rw [hd] at h1; simp at h1
    | some b => rw [hd] at h1 h3; simp at h1 h3; rw [h1] at h3; cases h3

theorem Ways.take {i : Nat} {oi : Oper} {v : Value} (hi : ops[i]? = some oi) (hsel : Region.noSelect ops = true) (hQ : ∀ c a w, Q (.panic c) (a.put oi.dst v) w → Q (.panic c) a w) (hw : waits ops z i = true)
    (n : Nat) : ∀ (done : Array Bool) (a : Act) (w : World), done.getD z true = false → (∀ j oj, ops[j]? = some oj → j ≠ i → done.getD j true = false → (∀ e ∈ oj.after, Region.binds .any e = true → e.on ≠ i) → oi.apart ops oj = true) →
      i ∈ Region.ready .any ops done → YieldsIf P ops S oi v a → S w → Ways P ops Q S z n (done.setIfInBounds i true) (a.put oi.dst v) w → Ways P ops Q S z (n + 1) done a w := by
  induction n with
  | zero =>
    intro done a w hz _ hr hy hS H
    refine ⟨fun h => absurd hr (by rw [h]; simp), fun j hj => ?_⟩
    rcases Nat.decEq j i with hne | rfl
    · have := ready_mono hj hne
      rw [H.1] at this
      simp at this
    · exact hy.wpOp hi hS ⟨fun _ => hS, H⟩
  | succ n ih =>
    intro done a w hz hfree hr hy hS H
    refine ⟨fun h => absurd hr (by rw [h]; simp), fun j hj => ?_⟩
    rcases Nat.decEq j i with hne | rfl
    · obtain ⟨hjd, oj, hoj, hall⟩ := mem_ready.1 hj
      obtain ⟨hjz, hiz⟩ := waits_spec hw hr hj
      have hno : ∀ e ∈ oj.after, Region.binds .any e = true → e.on ≠ i := by
        intro e he hb heq
        have h1 := hall e he hb
        have h2 := (mem_ready.1 hr).1
        rw [heq] at h1
        rw [Array.getD_eq_getD_getElem?] at h1 h2
        cases hd : done[i]? with
        | none => rw [hd] at h1; simp at h1
        | some b => rw [hd] at h1 h2; simp at h1 h2; rw [h1] at h2; cases h2
      have hs := fun j o cs b => Region.noSelect_spec hsel (ops := ops) j o cs b
      have h2 := wpOp_putIf hoj (hfree j oj hoj hne hjd hno) (fun cs b => hs i oi cs b hi) (fun cs b => hs j oj cs b hoj) hQ hy (H.2 j (ready_mono hj hne))
      have hri := ready_mono hr (Ne.symm hne)
      refine wpOp_mono (fun a' w' h3 => ?_) h2
      obtain ⟨hy', hS', hW⟩ := h3
      rw [Array.setIfInBounds_comm _ _ (Ne.symm hne)] at hS' hW
      have hzj : (done.setIfInBounds j true).getD z true = false := by rwa [getD_set_ne true hjz]
      have hSw : S w' := hS' (by rwa [getD_set_ne true hiz])
      refine ⟨fun _ => hSw, ih _ a' w' hzj (fun k ok hk hki hkd hkn => ?_) hri hy' hSw hW⟩
      refine hfree k ok hk hki ?_ hkn
      rcases Nat.decEq j k with hjk | rfl
      · rwa [getD_set_ne true hjk] at hkd
      · exact hjd
    · exact hy.wpOp hi hS ⟨fun _ => hS, H⟩
end

inductive PG
  | fin (seg : List Nat)
  | one (seg : List Nat) (i : Nat) (r : PG)
  | two (seg : List Nat) (i : Nat) (r : PG) (j : Nat) (s : PG)

section
variable {P : Program} {l : List Oper} {Q : Exit → Act → World → Prop} {S : World → Prop} {z : Nat}

/-- The stills of a piece, ahead of z. -/
def segG (l : List Oper) (z : Nat) (k : Nat → Array Bool → Bool) : List Nat → Nat → Array Bool → Bool
  | [], fuel, done => k fuel done
  | _ :: _, 0, _ => false
  | i :: r, fuel + 1, done => ((l[i]?).map stillOp).getD false && (Region.ready .any l.toArray done).contains i && Region.free .any l.toArray done i && waits l.toArray z i && !(done.getD z true) && segG l z k r fuel (done.setIfInBounds i true)
/-- The last piece is z alone. -/
def treeG (l : List Oper) (z : Nat) : PG → Nat → Array Bool → Bool
  | .fin seg, fuel, done => segG l z (fun fuel done => Region.ready .any l.toArray done == [z] && decide (0 < fuel) && (Region.ready .any l.toArray (done.setIfInBounds z true) == []) && ((done.setIfInBounds z true).getD z false)) seg fuel done
  | .one seg i r, fuel, done => segG l z (fun fuel done => Region.ready .any l.toArray done == [i] && (match fuel with | 0 => false | fuel + 1 => treeG l z r fuel (done.setIfInBounds i true))) seg fuel done
  | .two seg i r j s, fuel, done => segG l z (fun fuel done => Region.ready .any l.toArray done == [i, j] && (match fuel with | 0 => false | fuel + 1 => treeG l z r fuel (done.setIfInBounds i true) && treeG l z s fuel (done.setIfInBounds j true))) seg fuel done

/-- The last act: no class is asked behind it. -/
def lastG (P : Program) (l : List Oper) (Q : Exit → Act → World → Prop) (o : Option Oper) (a : Act) (w : World) : Prop :=
  match o with
  | none => Q .normal a w
  | some o => ∀ K' : Act → World → Prop, Shut (∀ a w, Q .normal a w → K' a w) → if Region.wanted o (yielded l.toArray a.tmps) = true then Oper.wp P o a w K' Q else K' (a.put o.dst undef) w
theorem lastG_some {o : Oper} {a : Act} {w : World}
    (h : ∀ K' : Act → World → Prop, Shut (∀ a w, Q .normal a w → K' a w) → if Region.wanted o (yielded l.toArray a.tmps) = true then Oper.wp P o a w K' Q else K' (a.put o.dst undef) w) : lastG P l Q (some o) a w := h

def wpG (P : Program) (l : List Oper) (Q : Exit → Act → World → Prop) (S : World → Prop) (z : Nat) : PG → Act → World → Prop
  | .fin seg, a, w => wpQuiet P l.toArray S (fun a' => lastG P l Q l[z]? a' w) (pickOps l seg) a
  | .one seg i r, a, w => wpQuiet P l.toArray S (fun a' => planAct P l Q S l[i]? (wpG P l Q S z r) a' w) (pickOps l seg) a
  | .two seg i r j s, a, w => wpQuiet P l.toArray S (fun a' => planAct P l Q S l[i]? (wpG P l Q S z r) a' w ∧ planAct P l Q S l[j]? (wpG P l Q S z s) a' w) (pickOps l seg) a

theorem segG_take (hsel : Region.noSelect l.toArray = true) (hQ : ∀ c (a : Act) d v w, Q (.panic c) (a.put d v) w → Q (.panic c) a w) {k : Nat → Array Bool → Bool} {X : Act → Prop} {w : World} (hS : S w)
    (hX : ∀ fuel done a, k fuel done = true → X a → Ways P l.toArray Q S z fuel done a w) :
    ∀ (seg : List Nat) (fuel : Nat) (done : Array Bool) (a : Act), segG l z k seg fuel done = true → wpQuiet P l.toArray S X (pickOps l seg) a → Ways P l.toArray Q S z fuel done a w
  | [], fuel, done, a, hk, h => hX _ _ _ hk h
  | i :: r, 0, done, a, hk, h => by simp [segG] at hk
  | i :: r, fuel + 1, done, a, hk, h => by
    simp only [segG, Bool.and_eq_true] at hk
    obtain ⟨⟨⟨⟨⟨h1, h2⟩, h3⟩, h5⟩, h6⟩, h4⟩ := hk
    have h6 : done.getD z true = false := by simpa using h6
    cases ho : l[i]? with
    | none => rw [ho] at h1; simp at h1
    | some o =>
      rw [ho] at h1
      simp only [Option.map_some, Option.getD_some] at h1
      simp only [pickOps, ho, Option.elim_some, wpQuiet] at h
      have hi : l.toArray[i]? = some o := by simpa using ho
      by_cases hw : Region.wanted o (yielded l.toArray a.tmps) = true
      · rw [if_pos hw] at h
        obtain ⟨v, hv, hr⟩ := h
        exact Ways.take hi hsel (fun c a w => hQ c a _ _ w) h5 fuel done a w h6 (Region.free_spec hi h3) (by simpa using h2) (.inl ⟨hw, still_yields h1 hv⟩) hS (segG_take hsel hQ hS hX r fuel _ _ h4 hr)
      · rw [if_neg hw] at h
        exact Ways.take hi hsel (fun c a w => hQ c a _ _ w) h5 fuel done a w h6 (Region.free_spec hi h3) (by simpa using h2) (.inr ⟨by simpa using hw, rfl⟩) hS (segG_take hsel hQ hS hX r fuel _ _ h4 h)

theorem ways_step {rs : List Nat} {fuel : Nat} {done : Array Bool} {a : Act} {w : World} (hr : Region.ready .any l.toArray done = rs) (hne : rs ≠ []) (T : Nat → Act → World → Prop)
    (hT : ∀ j ∈ rs, ∀ a w, S w → T j a w → Ways P l.toArray Q S z fuel (done.setIfInBounds j true) a w) (h : ∀ j ∈ rs, planAct P l Q S l[j]? (T j) a w) : Ways P l.toArray Q S z (fuel + 1) done a w := by
  refine ⟨fun h0 => absurd (hr ▸ h0) hne, fun j hj => ?_⟩
  rw [hr] at hj
  have hin := (mem_ready.1 (by rw [hr]; exact hj : j ∈ Region.ready .any l.toArray done)).2
  obtain ⟨o, ho, _⟩ := hin
  have ho' : l[j]? = some o := by simpa using ho
  have hx := h j hj
  simp only [planAct, ho'] at hx
  exact wpOp_step ho fun K' hK => hx K' (fun a w hs hw => hK a w ⟨fun _ => hs, hT j hj a w hs hw⟩)

theorem treeG_ways (hsel : Region.noSelect l.toArray = true) (hQ : ∀ c (a : Act) d v w, Q (.panic c) (a.put d v) w → Q (.panic c) a w) :
    ∀ (t : PG) (fuel : Nat) (done : Array Bool) (a : Act) (w : World), treeG l z t fuel done = true → S w → wpG P l Q S z t a w → Ways P l.toArray Q S z fuel done a w
  | .fin seg, fuel, done, a, w, hk, hS, h => by
    refine segG_take hsel hQ hS (fun fuel done a hk hx => ?_) seg fuel done a hk h
    simp only [Bool.and_eq_true] at hk
    obtain ⟨⟨⟨h1, h2⟩, h3⟩, h4⟩ := hk
    have h1 : Region.ready .any l.toArray done = [z] := by simpa using h1
    have h3 : Region.ready .any l.toArray (done.setIfInBounds z true) = [] := by simpa using h3
    cases fuel with
    | zero => simp at h2
    | succ fuel =>
      refine ⟨fun h0 => (by rw [h1] at h0; cases h0), fun j hj => ?_⟩
      have hin := (mem_ready.1 hj).2
      rw [h1] at hj
      obtain rfl : j = z := by simpa using hj
      obtain ⟨o, ho, _⟩ := hin
      have ho' : l[j]? = some o := by simpa using ho
      simp only [lastG, ho'] at hx
      refine wpOp_step ho fun K' hK => hx K' (fun a w hq => hK a w ⟨fun hz => ?_, Ways.end_ h3 hq⟩)
      rw [Array.getD_eq_getD_getElem?] at hz h4
      cases hd : (done.setIfInBounds j true)[j]? with
      | none => rw [hd] at h4; simp at h4
      | some b => rw [hd] at hz h4; simp at hz h4; rw [h4] at hz; cases hz
  | .one seg i r, fuel, done, a, w, hk, hS, h => by
    refine segG_take hsel hQ hS (fun fuel done a hk hx => ?_) seg fuel done a hk h
    simp only [Bool.and_eq_true] at hk
    obtain ⟨h1, h2⟩ := hk
    cases fuel with
    | zero => simp at h2
    | succ fuel =>
      simp only at h2
      refine ways_step (rs := [i]) (by simpa using h1) (by simp) (fun _ => wpG P l Q S z r) (fun j hj a w hs hw => ?_) (fun j hj => ?_)
      · obtain rfl : j = i := by simpa using hj
        exact treeG_ways hsel hQ r fuel _ a w h2 hs hw
      · obtain rfl : j = i := by simpa using hj
        exact hx
  | .two seg i r k s, fuel, done, a, w, hk, hS, h => by
    refine segG_take hsel hQ hS (fun fuel done a hk hx => ?_) seg fuel done a hk h
    simp only [Bool.and_eq_true] at hk
    obtain ⟨h1, h2⟩ := hk
    cases fuel with
    | zero => simp at h2
    | succ fuel =>
      simp only [Bool.and_eq_true] at h2
      refine ways_step (rs := [i, k]) (by simpa using h1) (by simp) (fun j => if j = i then wpG P l Q S z r else wpG P l Q S z s) (fun j hj a w hs hw => ?_) (fun j hj => ?_)
      · by_cases hji : j = i
        · subst hji
          rw [if_pos rfl] at hw
          exact treeG_ways hsel hQ r fuel _ a w h2.1 hs hw
        · obtain rfl : j = k := by simp at hj; omega
          rw [if_neg hji] at hw
          exact treeG_ways hsel hQ s fuel _ a w h2.2 hs hw
      · by_cases hji : j = i
        · subst hji
          simp only [if_pos]
          exact hx.1
        · obtain rfl : j = k := by simp at hj; omega
          simp only [if_neg hji]
          exact hx.2

theorem wpG_one {seg : List Nat} {i : Nat} {r : PG} {a : Act} {w : World} (h : wpQuiet P l.toArray S (fun a' => planAct P l Q S l[i]? (wpG P l Q S z r) a' w) (pickOps l seg) a) : wpG P l Q S z (.one seg i r) a w := h
theorem wpG_two {seg : List Nat} {i j : Nat} {r s : PG} {a : Act} {w : World} (h : wpQuiet P l.toArray S (fun a' => planAct P l Q S l[i]? (wpG P l Q S z r) a' w ∧ planAct P l Q S l[j]? (wpG P l Q S z s) a' w) (pickOps l seg) a) : wpG P l Q S z (.two seg i r j s) a w := h
theorem wpG_fin {seg : List Nat} {a : Act} {w : World} (h : wpQuiet P l.toArray S (fun a' => lastG P l Q l[z]? a' w) (pickOps l seg) a) : wpG P l Q S z (.fin seg) a w := h

/-- **A region in a tree of orders, z its last.** -/
theorem wp_region_last {id : Nat} {a : Act} {w : World} (S : World → Prop) (z : Nat) (t : PG) (hm : P.follows .mixedOrders = true) (hsel : Region.noSelect l.toArray = true)
    (hok : treeG l z t l.toArray.size (Array.replicate l.toArray.size false) = true) (hQ : ∀ c (a : Act) d v w, Q (.panic c) (a.put d v) w → Q (.panic c) a w) (hS : S w.drew)
    (h : wpG P l Q S z t a w.drew) : (Code.region id l.toArray true).wp P Q a w :=
  wp_region_any hm (Ways.any _ _ _ _ (treeG_ways hsel hQ t _ _ a _ hok hS h))
end

section
variable {P : Program} {ops : Array Oper} {Q : Exit → Act → World → Prop} {S : World → Prop} {z : Nat}

/-- z waits for i, or for another one that waits for i and is to come. -/
def waitsN (ops : Array Oper) (i : Nat) (done : Array Bool) : Nat → Nat → Bool
  | 0, z => waits ops z i
  | n + 1, z => waits ops z i || (List.range ops.size).any fun y => waits ops z y && !(done.getD y true) && waitsN ops i done n y
def waitsU (ops : Array Oper) (z i : Nat) (done : Array Bool) : Bool := waitsN ops i done 8 z
theorem not_ready {y : Nat} {done : Array Bool} (h : waits ops z y = true) (hy : done.getD y true = false) : z ∉ Region.ready .any ops done := by
  intro hz
  unfold waits at h
  obtain ⟨_, o, ho, hall⟩ := mem_ready.1 hz
  rw [ho] at h
  obtain ⟨e, he, h2⟩ := List.any_eq_true.1 h
  simp only [Bool.and_eq_true, beq_iff_eq, bne_iff_ne] at h2
  obtain ⟨⟨hb, hon⟩, hzi⟩ := h2
  have h1 := hall e (by simpa using he) hb
  rw [hon] at h1
  rw [Array.getD_eq_getD_getElem?] at h1 hy
  cases hd : done[y]? with
  | none => rw [hd] at h1; simp at h1
  | some b => rw [hd] at h1 hy; simp at h1 hy; rw [h1] at hy; cases hy
theorem waitsN_spec {i j : Nat} {done : Array Bool} (hi : i ∈ Region.ready .any ops done) (hj : j ∈ Region.ready .any ops done) (hne : j ≠ i) : ∀ (n z : Nat), waitsN ops i done n z = true → (j ≠ z ∧ i ≠ z) ∧ waitsN ops i (done.setIfInBounds j true) n z = true
  | 0, z, h => ⟨waits_spec h hi hj, h⟩
  | n + 1, z, h => by
    unfold waitsN at h ⊢
    rw [Bool.or_eq_true] at h ⊢
    rcases h with h | h
    · exact ⟨waits_spec h hi hj, .inl h⟩
    · obtain ⟨y, hy, h2⟩ := List.any_eq_true.1 h
      simp only [Bool.and_eq_true, Bool.not_eq_true'] at h2
      obtain ⟨⟨h3, h4⟩, h5⟩ := h2
      obtain ⟨⟨h6, _⟩, h7⟩ := waitsN_spec hi hj hne n y h5
      refine ⟨⟨fun e => not_ready h3 h4 (e ▸ hj), fun e => not_ready h3 h4 (e ▸ hi)⟩, .inr (List.any_eq_true.2 ⟨y, hy, ?_⟩)⟩
      simp only [Bool.and_eq_true, Bool.not_eq_true']
      exact ⟨⟨h3, by rwa [getD_set_ne true h6]⟩, h7⟩
theorem waitsU_spec {i j : Nat} {done : Array Bool} (h : waitsU ops z i done = true) (hi : i ∈ Region.ready .any ops done) (hj : j ∈ Region.ready .any ops done) (hne : j ≠ i) : (j ≠ z ∧ i ≠ z) ∧ waitsU ops z i (done.setIfInBounds j true) = true := waitsN_spec hi hj hne 8 z h

theorem Ways.takeU {i : Nat} {oi : Oper} {v : Value} (hi : ops[i]? = some oi) (hsel : Region.noSelect ops = true) (hQ : ∀ c a w, Q (.panic c) (a.put oi.dst v) w → Q (.panic c) a w)
    (n : Nat) : ∀ (done : Array Bool) (a : Act) (w : World), done.getD z true = false → waitsU ops z i done = true → (∀ j oj, ops[j]? = some oj → j ≠ i → done.getD j true = false → (∀ e ∈ oj.after, Region.binds .any e = true → e.on ≠ i) → oi.apart ops oj = true) →
      i ∈ Region.ready .any ops done → YieldsIf P ops S oi v a → S w → Ways P ops Q S z n (done.setIfInBounds i true) (a.put oi.dst v) w → Ways P ops Q S z (n + 1) done a w := by
  induction n with
  | zero =>
    intro done a w hz _ _ hr hy hS H
    refine ⟨fun h => absurd hr (by rw [h]; simp), fun j hj => ?_⟩
    rcases Nat.decEq j i with hne | rfl
    · have := ready_mono hj hne
      rw [H.1] at this
      simp at this
    · exact hy.wpOp hi hS ⟨fun _ => hS, H⟩
  | succ n ih =>
    intro done a w hz hw hfree hr hy hS H
    refine ⟨fun h => absurd hr (by rw [h]; simp), fun j hj => ?_⟩
    rcases Nat.decEq j i with hne | rfl
    · obtain ⟨hjd, oj, hoj, hall⟩ := mem_ready.1 hj
      obtain ⟨⟨hjz, hiz⟩, hw'⟩ := waitsU_spec hw hr hj hne
      have hno : ∀ e ∈ oj.after, Region.binds .any e = true → e.on ≠ i := by
        intro e he hb heq
        have h1 := hall e he hb
        have h2 := (mem_ready.1 hr).1
        rw [heq] at h1
        rw [Array.getD_eq_getD_getElem?] at h1 h2
        cases hd : done[i]? with
        | none => rw [hd] at h1; simp at h1
        | some b => rw [hd] at h1 h2; simp at h1 h2; rw [h1] at h2; cases h2
      have hs := fun j o cs b => Region.noSelect_spec hsel (ops := ops) j o cs b
      have h2 := wpOp_putIf hoj (hfree j oj hoj hne hjd hno) (fun cs b => hs i oi cs b hi) (fun cs b => hs j oj cs b hoj) hQ hy (H.2 j (ready_mono hj hne))
      have hri := ready_mono hr (Ne.symm hne)
      refine wpOp_mono (fun a' w' h3 => ?_) h2
      obtain ⟨hy', hS', hW⟩ := h3
      rw [Array.setIfInBounds_comm _ _ (Ne.symm hne)] at hS' hW
      have hzj : (done.setIfInBounds j true).getD z true = false := by rwa [getD_set_ne true hjz]
      have hSw : S w' := hS' (by rwa [getD_set_ne true hiz])
      refine ⟨fun _ => hSw, ih _ a' w' hzj hw' (fun k ok hk hki hkd hkn => ?_) hri hy' hSw hW⟩
      refine hfree k ok hk hki ?_ hkn
      rcases Nat.decEq j k with hjk | rfl
      · rwa [getD_set_ne true hjk] at hkd
      · exact hjd
    · exact hy.wpOp hi hS ⟨fun _ => hS, H⟩
end

section
variable {P : Program} {l : List Oper} {Q : Exit → Act → World → Prop} {S : World → Prop} {z : Nat}

/-- The stills of a piece, ahead of z. -/
def segU (l : List Oper) (z : Nat) (k : Nat → Array Bool → Bool) : List Nat → Nat → Array Bool → Bool
  | [], fuel, done => k fuel done
  | _ :: _, 0, _ => false
  | i :: r, fuel + 1, done => ((l[i]?).map stillOp).getD false && (Region.ready .any l.toArray done).contains i && Region.free .any l.toArray done i && waitsU l.toArray z i done && !(done.getD z true) && segU l z k r fuel (done.setIfInBounds i true)
/-- The last piece is z alone. -/
def treeU (l : List Oper) (z : Nat) : PG → Nat → Array Bool → Bool
  | .fin seg, fuel, done => segU l z (fun fuel done => Region.ready .any l.toArray done == [z] && decide (0 < fuel) && (Region.ready .any l.toArray (done.setIfInBounds z true) == []) && ((done.setIfInBounds z true).getD z false)) seg fuel done
  | .one seg i r, fuel, done => segU l z (fun fuel done => Region.ready .any l.toArray done == [i] && (match fuel with | 0 => false | fuel + 1 => treeU l z r fuel (done.setIfInBounds i true))) seg fuel done
  | .two seg i r j s, fuel, done => segU l z (fun fuel done => Region.ready .any l.toArray done == [i, j] && (match fuel with | 0 => false | fuel + 1 => treeU l z r fuel (done.setIfInBounds i true) && treeU l z s fuel (done.setIfInBounds j true))) seg fuel done

theorem segU_take (hsel : Region.noSelect l.toArray = true) (hQ : ∀ c (a : Act) d v w, Q (.panic c) (a.put d v) w → Q (.panic c) a w) {k : Nat → Array Bool → Bool} {X : Act → Prop} {w : World} (hS : S w)
    (hX : ∀ fuel done a, k fuel done = true → X a → Ways P l.toArray Q S z fuel done a w) :
    ∀ (seg : List Nat) (fuel : Nat) (done : Array Bool) (a : Act), segU l z k seg fuel done = true → wpQuiet P l.toArray S X (pickOps l seg) a → Ways P l.toArray Q S z fuel done a w
  | [], fuel, done, a, hk, h => hX _ _ _ hk h
  | i :: r, 0, done, a, hk, h => by simp [segU] at hk
  | i :: r, fuel + 1, done, a, hk, h => by
    simp only [segU, Bool.and_eq_true] at hk
    obtain ⟨⟨⟨⟨⟨h1, h2⟩, h3⟩, h5⟩, h6⟩, h4⟩ := hk
    have h6 : done.getD z true = false := by simpa using h6
    cases ho : l[i]? with
    | none => rw [ho] at h1; simp at h1
    | some o =>
      rw [ho] at h1
      simp only [Option.map_some, Option.getD_some] at h1
      simp only [pickOps, ho, Option.elim_some, wpQuiet] at h
      have hi : l.toArray[i]? = some o := by simpa using ho
      by_cases hw : Region.wanted o (yielded l.toArray a.tmps) = true
      · rw [if_pos hw] at h
        obtain ⟨v, hv, hr⟩ := h
        exact Ways.takeU hi hsel (fun c a w => hQ c a _ _ w) fuel done a w h6 h5 (Region.free_spec hi h3) (by simpa using h2) (.inl ⟨hw, still_yields h1 hv⟩) hS (segU_take hsel hQ hS hX r fuel _ _ h4 hr)
      · rw [if_neg hw] at h
        exact Ways.takeU hi hsel (fun c a w => hQ c a _ _ w) fuel done a w h6 h5 (Region.free_spec hi h3) (by simpa using h2) (.inr ⟨by simpa using hw, rfl⟩) hS (segU_take hsel hQ hS hX r fuel _ _ h4 h)

theorem treeU_ways (hsel : Region.noSelect l.toArray = true) (hQ : ∀ c (a : Act) d v w, Q (.panic c) (a.put d v) w → Q (.panic c) a w) :
    ∀ (t : PG) (fuel : Nat) (done : Array Bool) (a : Act) (w : World), treeU l z t fuel done = true → S w → wpG P l Q S z t a w → Ways P l.toArray Q S z fuel done a w
  | .fin seg, fuel, done, a, w, hk, hS, h => by
    refine segU_take hsel hQ hS (fun fuel done a hk hx => ?_) seg fuel done a hk h
    simp only [Bool.and_eq_true] at hk
    obtain ⟨⟨⟨h1, h2⟩, h3⟩, h4⟩ := hk
    have h1 : Region.ready .any l.toArray done = [z] := by simpa using h1
    have h3 : Region.ready .any l.toArray (done.setIfInBounds z true) = [] := by simpa using h3
    cases fuel with
    | zero => simp at h2
    | succ fuel =>
      refine ⟨fun h0 => (by rw [h1] at h0; cases h0), fun j hj => ?_⟩
      have hin := (mem_ready.1 hj).2
      rw [h1] at hj
      obtain rfl : j = z := by simpa using hj
      obtain ⟨o, ho, _⟩ := hin
      have ho' : l[j]? = some o := by simpa using ho
      simp only [lastG, ho'] at hx
      refine wpOp_step ho fun K' hK => hx K' (fun a w hq => hK a w ⟨fun hz => ?_, Ways.end_ h3 hq⟩)
      rw [Array.getD_eq_getD_getElem?] at hz h4
      cases hd : (done.setIfInBounds j true)[j]? with
      | none => rw [hd] at h4; simp at h4
      | some b => rw [hd] at hz h4; simp at hz h4; rw [h4] at hz; cases hz
  | .one seg i r, fuel, done, a, w, hk, hS, h => by
    refine segU_take hsel hQ hS (fun fuel done a hk hx => ?_) seg fuel done a hk h
    simp only [Bool.and_eq_true] at hk
    obtain ⟨h1, h2⟩ := hk
    cases fuel with
    | zero => simp at h2
    | succ fuel =>
      simp only at h2
      refine ways_step (rs := [i]) (by simpa using h1) (by simp) (fun _ => wpG P l Q S z r) (fun j hj a w hs hw => ?_) (fun j hj => ?_)
      · obtain rfl : j = i := by simpa using hj
        exact treeU_ways hsel hQ r fuel _ a w h2 hs hw
      · obtain rfl : j = i := by simpa using hj
        exact hx
  | .two seg i r k s, fuel, done, a, w, hk, hS, h => by
    refine segU_take hsel hQ hS (fun fuel done a hk hx => ?_) seg fuel done a hk h
    simp only [Bool.and_eq_true] at hk
    obtain ⟨h1, h2⟩ := hk
    cases fuel with
    | zero => simp at h2
    | succ fuel =>
      simp only [Bool.and_eq_true] at h2
      refine ways_step (rs := [i, k]) (by simpa using h1) (by simp) (fun j => if j = i then wpG P l Q S z r else wpG P l Q S z s) (fun j hj a w hs hw => ?_) (fun j hj => ?_)
      · by_cases hji : j = i
        · subst hji
          rw [if_pos rfl] at hw
          exact treeU_ways hsel hQ r fuel _ a w h2.1 hs hw
        · obtain rfl : j = k := by simp at hj; omega
          rw [if_neg hji] at hw
          exact treeU_ways hsel hQ s fuel _ a w h2.2 hs hw
      · by_cases hji : j = i
        · subst hji
          simp only [if_pos]
          exact hx.1
        · obtain rfl : j = k := by simp at hj; omega
          simp only [if_neg hji]
          exact hx.2

/-- **A region in a tree of orders, z its last.** -/
theorem wp_region_lastU {id : Nat} {a : Act} {w : World} (S : World → Prop) (z : Nat) (t : PG) (hm : P.follows .mixedOrders = true) (hsel : Region.noSelect l.toArray = true)
    (hok : treeU l z t l.toArray.size (Array.replicate l.toArray.size false) = true) (hQ : ∀ c (a : Act) d v w, Q (.panic c) (a.put d v) w → Q (.panic c) a w) (hS : S w.drew)
    (h : wpG P l Q S z t a w.drew) : (Code.region id l.toArray true).wp P Q a w :=
  wp_region_any hm (Ways.any _ _ _ _ (treeU_ways hsel hQ t _ _ a _ hok hS h))
end
end NC
def OnPanic (R : List PanicEntry → Act → World → Prop) (Q : Exit → Act → World → Prop) : Exit → Act → World → Prop
  | .panic c, a, w => R c a w
  | e, a, w => Q e a w
theorem wp_region_panic {P : Program} {id : Nat} {ops : Array Oper} {b : Bool} {Q : Exit → Act → World → Prop} {a : Act} {w : World} (R : List PanicEntry → Act → World → Prop) (hR : ∀ c a w, R c a w → Q (.panic c) a w) (h : (Code.region id ops b).wp P (OnPanic R Q) a w) : (Code.region id ops b).wp P Q a w :=
  Code.wp_mono (fun e a w h => by cases e <;> first | exact hR _ _ _ h | exact h) h
theorem put_defers (a : Act) (d : Option Nat) (v : Value) : (a.put d v).defers = a.defers := by cases d <;> rfl
theorem OnPanic.normal {R : List PanicEntry → Act → World → Prop} {Q : Exit → Act → World → Prop} {a : Act} {w : World} (h : Q .normal a w) : OnPanic R Q .normal a w := h
end Go.Proofs.YtjjgngccgjpnaaaGreatDoor
