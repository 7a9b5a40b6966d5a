/- A region that draws its order, walked once in an order that is handed in: what yields the same in every world of a class is taken as soon as it may come up; else one operation alone may come up. No program in sight. -/
import Derived.Test.YtjjgngccgjpnaaaGreatDoorExt
namespace Go.Proofs.YtjjgngccgjpnaaaGreatDoor
set_option linter.unusedVariables false
set_option linter.unusedSimpArgs false
open Go.RowKit

/-- Operations that hand on a value and leave the world alone. -/
def stillOp (o : Oper) : Bool :=
  match o.op with
  | .move _ | .assign _ | .pick _ _ _ | .binOp _ _ _ _ _ | .unOp _ _ _ | .convert _ _ _ | .fieldAddr _ _ _ | .field _ _ _ | .indexAddr _ _ _ | .extract _ _ | .slice _ _ _ _ _ | .load _ _ | .index _ _ _ | .build _ _ => true
  | .call c => match c.callee with
    | .builtin .len => true
    | .builtin .cap => true
    | .builtin .min => true
    | .builtin .max => true
    | _ => false
  | _ => false

theorem run_value {P : Program} {s : Sem Value} {w w' : World} {n : Next} (h : (do pure (Next.value (← s)) : Sem Next).run P w = .ok n w') : ∃ x, n = .value x := by
  rw [Sem.run_bind] at h
  cases hs : s.run P w with
  | ok v w1 =>
    rw [hs] at h
    simp [Sem.run_pure] at h
    exact ⟨v, h.1.symm⟩
  | halt x w1 =>
    rw [hs] at h
    simp at h

theorem run_value2 {α : Type} {P : Program} {s : Sem α} {f : α → Value} {w w' : World} {n : Next} (h : (do pure (Next.value (f (← s))) : Sem Next).run P w = .ok n w') : ∃ x, n = .value x := by
  rw [Sem.run_bind] at h
  cases hs : s.run P w with
  | ok v w1 =>
    rw [hs] at h
    simp [Sem.run_pure] at h
    exact ⟨_, h.1.symm⟩
  | halt x w1 =>
    rw [hs] at h
    simp at h

theorem value_only {P : Program} {ρ : Operand → Value} {o : Oper} {w w' : World} {n : Next} (hk : stillOp o = true) (h : (execOp ρ o).run P w = .ok n w') : ∃ x, n = .value x := by
  unfold stillOp at hk
  unfold execOp at h
  split at hk <;> rename_i heq <;> (try rw [heq] at h) <;> (try dsimp only at h)
  all_goals first
    | exact run_value h
    | exact run_value2 (f := fun b => if b = true then _ else _) h
    | (simp [Sem.run_pure] at h; exact ⟨_, h.1.symm⟩)
    | skip
  split at hk <;> rename_i hc
  all_goals first
    | (simp only [resolve, hc, Sem.run_bind, Sem.run_pure, Result.andThen_ok, invoke, builtin] at h; exact run_value (by rw [Sem.run_bind]; exact h))
    | cases hk

section
variable {P : Program} {l : List Oper} {Q : Exit → Act → World → Prop} {S : World → Prop}

theorem still_yields {o : Oper} {v : Value} {a : Act} (hk : stillOp o = true) (h : ∀ w, S w → o.quietAt P a S w v) : ∀ w, S w → (execOp a.eval o).run P w = .ok (.value v) w := by
  intro w hw
  have := h w hw
  unfold Oper.quietAt at this
  cases hr : (execOp a.eval o).run P w with
  | ok n w' =>
    rw [hr] at this
    obtain ⟨x, rfl⟩ := value_only hk hr
    obtain ⟨h1, h2⟩ := this
    rw [h1, h2]
  | halt x w' =>
    rw [hr] at this
    exact absurd this (by simp [Oper.quietUpon])

def pickOps (l : List Oper) : List Nat → List Oper
  | [] => []
  | i :: r => (l[i]?).elim (pickOps l r) (fun o => o :: pickOps l r)

/-- The stills of a piece, each as it may come up. -/
def segOk (l : List Oper) (k : Nat → Array Bool → Bool) : List Nat → Nat → Array Bool → Bool
  | [], fuel, listed => k fuel listed
  | _ :: _, 0, _ => false
  | i :: r, fuel + 1, listed => ((l[i]?).map stillOp).getD false && (Region.ready .any l.toArray listed).contains i && Region.free .any l.toArray listed i && segOk l k r fuel (listed.setIfInBounds i true)

def planOk (l : List Oper) : List (List Nat × Nat) → List Nat → Nat → Array Bool → Bool
  | [], last, fuel, listed => segOk l (fun _ listed => Region.ready .any l.toArray listed == []) last fuel listed
  | (seg, i) :: r, last, fuel, listed => segOk l (fun fuel listed => Region.ready .any l.toArray listed == [i] && (match fuel with | 0 => false | fuel + 1 => planOk l r last fuel (listed.setIfInBounds i true))) seg fuel listed

/-- The act behind a piece. -/
def planAct (P : Program) (l : List Oper) (Q : Exit → Act → World → Prop) (S : World → Prop) (o : Option Oper) (K : Act → World → Prop) (a : Act) (w : World) : Prop :=
  match o with
  | none => K a w
  | some o => ∀ K' : Act → World → Prop, Shut (∀ a w, S w → K a w → K' a w) → if Region.wanted o (yielded l.toArray a.tmps) = true then Oper.wp P o a w K' Q else K' (a.put o.dst undef) w

def wpPlan (P : Program) (l : List Oper) (Q : Exit → Act → World → Prop) (S : World → Prop) : List (List Nat × Nat) → List Nat → Act → World → Prop
  | [], last, a, w => wpQuiet P l.toArray S (fun a' => Q .normal a' w) (pickOps l last) a
  | (seg, i) :: r, last, a, w => wpQuiet P l.toArray S (fun a' => planAct P l Q S l[i]? (wpPlan P l Q S r last) a' w) (pickOps l seg) a

theorem seg_take (hsel : Region.noSelect l.toArray = true) (hQ : ∀ c (a : Act) d v w, Q (.panic c) (a.put d v) w → Q (.panic c) a w) {k : Nat → Array Bool → Bool} {X : Act → Prop} {w : World} (hS : S w)
    (hX : ∀ fuel listed a, k fuel listed = true → X a → wpAnyH P .any l.toArray Q S fuel listed a w) :
    ∀ (seg : List Nat) (fuel : Nat) (listed : Array Bool) (a : Act), segOk l k seg fuel listed = true → wpQuiet P l.toArray S X (pickOps l seg) a → wpAnyH P .any l.toArray Q S fuel listed a w
  | [], fuel, listed, a, hk, h => hX _ _ _ hk h
  | i :: r, 0, listed, a, hk, h => by simp [segOk] at hk
  | i :: r, fuel + 1, listed, a, hk, h => by
    simp only [segOk, Bool.and_eq_true] at hk
    obtain ⟨⟨⟨h1, h2⟩, h3⟩, h4⟩ := hk
    cases ho : l[i]? with
    | none => rw [ho] at h1; simp at h1
    | some o =>
      rw [ho] at h1
      simp only [Option.map_some, Option.getD_some] at h1
      simp only [pickOps, ho, Option.elim_some, wpQuiet] at h
      have hi : l.toArray[i]? = some o := by simpa using ho
      by_cases hw : Region.wanted o (yielded l.toArray a.tmps) = true
      · rw [if_pos hw] at h
        obtain ⟨v, hv, hr⟩ := h
        exact wpAnyH_take hi hsel h3 h2 (fun c a w => hQ c a _ _ w) (.inl ⟨hw, still_yields h1 hv⟩) hS (seg_take hsel hQ hS hX r fuel _ _ h4 hr)
      · rw [if_neg hw] at h
        exact wpAnyH_take hi hsel h3 h2 (fun c a w => hQ c a _ _ w) (.inr ⟨by simpa using hw, rfl⟩) hS (seg_take hsel hQ hS hX r fuel _ _ h4 h)

theorem plan_any (hsel : Region.noSelect l.toArray = true) (hQ : ∀ c (a : Act) d v w, Q (.panic c) (a.put d v) w → Q (.panic c) a w) (last : List Nat) :
    ∀ (plan : List (List Nat × Nat)) (fuel : Nat) (listed : Array Bool) (a : Act) (w : World), planOk l plan last fuel listed = true → S w → wpPlan P l Q S plan last a w → wpAnyH P .any l.toArray Q S fuel listed a w
  | [], fuel, listed, a, w, hk, hS, h => seg_take hsel hQ hS (fun fuel listed a hk hx => wpAnyH_done (by simpa using hk) hx fuel) last fuel listed a hk h
  | (seg, i) :: r, fuel, listed, a, w, hk, hS, h => by
    refine seg_take hsel hQ hS (fun fuel listed a hk hx => ?_) seg fuel listed a hk h
    simp only [Bool.and_eq_true] at hk
    obtain ⟨h1, h2⟩ := hk
    have hr : Region.ready .any l.toArray listed = [i] := by simpa using h1
    cases fuel with
    | zero => simp at h2
    | succ fuel =>
      simp only at h2
      refine wpAnyH_all hr (by simp) fun j hj => ?_
      obtain rfl : j = i := by simpa using hj
      have hin := (mem_ready.1 (by rw [hr]; exact List.mem_singleton_self j : j ∈ Region.ready .any l.toArray listed)).2
      obtain ⟨o, ho, _⟩ := hin
      have ho' : l[j]? = some o := by simpa using ho
      simp only [planAct, ho'] at hx
      exact wpOp_step ho fun K' hK => hx K' (fun a w hs hw => hK a w ⟨hs, plan_any hsel hQ last r fuel _ a w h2 hs hw⟩)

theorem wpPlan_cons {seg : List Nat} {i : Nat} {r : List (List Nat × Nat)} {last : List Nat} {a : Act} {w : World} (h : wpQuiet P l.toArray S (fun a' => planAct P l Q S l[i]? (wpPlan P l Q S r last) a' w) (pickOps l seg) a) : wpPlan P l Q S ((seg, i) :: r) last a w := h
theorem wpPlan_last {last : List Nat} {a : Act} {w : World} (h : wpQuiet P l.toArray S (fun a' => Q .normal a' w) (pickOps l last) a) : wpPlan P l Q S [] last a w := h
theorem planAct_some {o : Oper} {K : Act → World → Prop} {a : Act} {w : World}
    (h : ∀ K' : Act → World → Prop, Shut (∀ a w, S w → K a w → K' a w) → if Region.wanted o (yielded l.toArray a.tmps) = true then Oper.wp P o a w K' Q else K' (a.put o.dst undef) w) : planAct P l Q S (some o) K a w := h

/-- **A region in the order that is handed in.** -/
theorem wp_region_plan {id : Nat} {a : Act} {w : World} (S : World → Prop) (plan : List (List Nat × Nat)) (last : List Nat) (hm : P.follows .mixedOrders = true) (hsel : Region.noSelect l.toArray = true)
    (hok : planOk l plan last l.toArray.size (Array.replicate l.toArray.size false) = true) (hQ : ∀ c (a : Act) d v w, Q (.panic c) (a.put d v) w → Q (.panic c) a w) (hS : S w.drew)
    (h : wpPlan P l Q S plan last a w.drew) : (Code.region id l.toArray true).wp P Q a w :=
  wp_region_held_drew hm hS fun hS => plan_any hsel hQ last plan _ _ a _ hok hS h
end
end Go.Proofs.YtjjgngccgjpnaaaGreatDoor
