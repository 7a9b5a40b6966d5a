/- A region that draws its order and whose last operation waits for all others, for some by way of another one. No program in sight. -/
import Derived.Test.YtjjgngccgjpnaaaGreatDoorPlanS
namespace Go.Proofs.YtjjgngccgjpnaaaGreatDoor
set_option linter.unusedVariables false
set_option linter.unusedSimpArgs false
open Go.RowKit

section
variable {P : Program} {ops : Array Oper} {Q : Exit → Act → World → Prop} {S : World → Prop} {z : Nat}

/-- z waits for i, or for another one that waits for i and is to come. -/
def waitsU (ops : Array Oper) (z i : Nat) (done : Array Bool) : Bool := waits ops z i || (List.range ops.size).any fun y => waits ops z y && waits ops y i && !(done.getD y true)
theorem not_ready {y : Nat} {done : Array Bool} (h : waits ops z y = true) (hy : done.getD y true = false) : z ∉ Region.ready .any ops done := by
  intro hz
  unfold waits at h
  obtain ⟨_, o, ho, hall⟩ := mem_ready.1 hz
  rw [ho] at h
  obtain ⟨e, he, h2⟩ := List.any_eq_true.1 h
  simp only [Bool.and_eq_true, beq_iff_eq, bne_iff_ne] at h2
  obtain ⟨⟨hb, hon⟩, hzi⟩ := h2
  have h1 := hall e (by simpa using he) hb
  rw [hon] at h1
  rw [Array.getD_eq_getD_getElem?] at h1 hy
  cases hd : done[y]? with
  | none => rw [hd] at h1; simp at h1
  | some b => rw [hd] at h1 hy; simp at h1 hy; rw [h1] at hy; cases hy
theorem waitsU_spec {i j : Nat} {done : Array Bool} (h : waitsU ops z i done = true) (hi : i ∈ Region.ready .any ops done) (hj : j ∈ Region.ready .any ops done) (hne : j ≠ i) : (j ≠ z ∧ i ≠ z) ∧ waitsU ops z i (done.setIfInBounds j true) = true := by
  unfold waitsU at h ⊢
  rw [Bool.or_eq_true] at h ⊢
  rcases h with h | h
  · exact ⟨waits_spec h hi hj, .inl h⟩
  · obtain ⟨y, hy, h2⟩ := List.any_eq_true.1 h
    simp only [Bool.and_eq_true, Bool.not_eq_true'] at h2
    obtain ⟨⟨h3, h4⟩, h5⟩ := h2
    obtain ⟨h6, _⟩ := waits_spec h4 hi hj
    refine ⟨⟨fun e => not_ready h3 h5 (e ▸ hj), fun e => not_ready h3 h5 (e ▸ hi)⟩, .inr (List.any_eq_true.2 ⟨y, hy, ?_⟩)⟩
    simp only [Bool.and_eq_true, Bool.not_eq_true']
    exact ⟨⟨h3, h4⟩, by rwa [getD_set_ne true h6]⟩

theorem Ways.takeU {i : Nat} {oi : Oper} {v : Value} (hi : ops[i]? = some oi) (hsel : Region.noSelect ops = true) (hQ : ∀ c a w, Q (.panic c) (a.put oi.dst v) w → Q (.panic c) a w)
    (n : Nat) : ∀ (done : Array Bool) (a : Act) (w : World), done.getD z true = false → waitsU ops z i done = true → (∀ j oj, ops[j]? = some oj → j ≠ i → done.getD j true = false → (∀ e ∈ oj.after, Region.binds .any e = true → e.on ≠ i) → oi.apart ops oj = true) →
      i ∈ Region.ready .any ops done → YieldsIf P ops S oi v a → S w → Ways P ops Q S z n (done.setIfInBounds i true) (a.put oi.dst v) w → Ways P ops Q S z (n + 1) done a w := by
  induction n with
  | zero =>
    intro done a w hz _ _ hr hy hS H
    refine ⟨fun h => absurd hr (by rw [h]; simp), fun j hj => ?_⟩
    rcases Nat.decEq j i with hne | rfl
    · have := ready_mono hj hne
      rw [H.1] at this
      simp at this
    · exact hy.wpOp hi hS ⟨fun _ => hS, H⟩
  | succ n ih =>
    intro done a w hz hw hfree hr hy hS H
    refine ⟨fun h => absurd hr (by rw [h]; simp), fun j hj => ?_⟩
    rcases Nat.decEq j i with hne | rfl
    · obtain ⟨hjd, oj, hoj, hall⟩ := mem_ready.1 hj
      obtain ⟨⟨hjz, hiz⟩, hw'⟩ := waitsU_spec hw hr hj hne
      have hno : ∀ e ∈ oj.after, Region.binds .any e = true → e.on ≠ i := by
        intro e he hb heq
        have h1 := hall e he hb
        have h2 := (mem_ready.1 hr).1
        rw [heq] at h1
        rw [Array.getD_eq_getD_getElem?] at h1 h2
        cases hd : done[i]? with
        | none => rw [hd] at h1; simp at h1
        | some b => rw [hd] at h1 h2; simp at h1 h2; rw [h1] at h2; cases h2
      have hs := fun j o cs b => Region.noSelect_spec hsel (ops := ops) j o cs b
      have h2 := wpOp_putIf hoj (hfree j oj hoj hne hjd hno) (fun cs b => hs i oi cs b hi) (fun cs b => hs j oj cs b hoj) hQ hy (H.2 j (ready_mono hj hne))
      have hri := ready_mono hr (Ne.symm hne)
      refine wpOp_mono (fun a' w' h3 => ?_) h2
      obtain ⟨hy', hS', hW⟩ := h3
      rw [Array.setIfInBounds_comm _ _ (Ne.symm hne)] at hS' hW
      have hzj : (done.setIfInBounds j true).getD z true = false := by rwa [getD_set_ne true hjz]
      have hSw : S w' := hS' (by rwa [getD_set_ne true hiz])
      refine ⟨fun _ => hSw, ih _ a' w' hzj hw' (fun k ok hk hki hkd hkn => ?_) hri hy' hSw hW⟩
      refine hfree k ok hk hki ?_ hkn
      rcases Nat.decEq j k with hjk | rfl
      · rwa [getD_set_ne true hjk] at hkd
      · exact hjd
    · exact hy.wpOp hi hS ⟨fun _ => hS, H⟩
end

section
variable {P : Program} {l : List Oper} {Q : Exit → Act → World → Prop} {S : World → Prop} {z : Nat}

/-- The stills of a piece, ahead of z. -/
def segU (l : List Oper) (z : Nat) (k : Nat → Array Bool → Bool) : List Nat → Nat → Array Bool → Bool
  | [], fuel, done => k fuel done
  | _ :: _, 0, _ => false
  | i :: r, fuel + 1, done => ((l[i]?).map stillOp).getD false && (Region.ready .any l.toArray done).contains i && Region.free .any l.toArray done i && waitsU l.toArray z i done && !(done.getD z true) && segU l z k r fuel (done.setIfInBounds i true)
/-- The last piece is z alone. -/
def treeU (l : List Oper) (z : Nat) : PG → Nat → Array Bool → Bool
  | .fin seg, fuel, done => segU l z (fun fuel done => Region.ready .any l.toArray done == [z] && decide (0 < fuel) && (Region.ready .any l.toArray (done.setIfInBounds z true) == []) && ((done.setIfInBounds z true).getD z false)) seg fuel done
  | .one seg i r, fuel, done => segU l z (fun fuel done => Region.ready .any l.toArray done == [i] && (match fuel with | 0 => false | fuel + 1 => treeU l z r fuel (done.setIfInBounds i true))) seg fuel done
  | .two seg i r j s, fuel, done => segU l z (fun fuel done => Region.ready .any l.toArray done == [i, j] && (match fuel with | 0 => false | fuel + 1 => treeU l z r fuel (done.setIfInBounds i true) && treeU l z s fuel (done.setIfInBounds j true))) seg fuel done

theorem segU_take (hsel : Region.noSelect l.toArray = true) (hQ : ∀ c (a : Act) d v w, Q (.panic c) (a.put d v) w → Q (.panic c) a w) {k : Nat → Array Bool → Bool} {X : Act → Prop} {w : World} (hS : S w)
    (hX : ∀ fuel done a, k fuel done = true → X a → Ways P l.toArray Q S z fuel done a w) :
    ∀ (seg : List Nat) (fuel : Nat) (done : Array Bool) (a : Act), segU l z k seg fuel done = true → wpQuiet P l.toArray S X (pickOps l seg) a → Ways P l.toArray Q S z fuel done a w
  | [], fuel, done, a, hk, h => hX _ _ _ hk h
  | i :: r, 0, done, a, hk, h => by simp [segU] at hk
  | i :: r, fuel + 1, done, a, hk, h => by
    simp only [segU, Bool.and_eq_true] at hk
    obtain ⟨⟨⟨⟨⟨h1, h2⟩, h3⟩, h5⟩, h6⟩, h4⟩ := hk
    have h6 : done.getD z true = false := by simpa using h6
    cases ho : l[i]? with
    | none => rw [ho] at h1; simp at h1
    | some o =>
      rw [ho] at h1
      simp only [Option.map_some, Option.getD_some] at h1
      simp only [pickOps, ho, Option.elim_some, wpQuiet] at h
      have hi : l.toArray[i]? = some o := by simpa using ho
      by_cases hw : Region.wanted o (yielded l.toArray a.tmps) = true
      · rw [if_pos hw] at h
        obtain ⟨v, hv, hr⟩ := h
        exact Ways.takeU hi hsel (fun c a w => hQ c a _ _ w) fuel done a w h6 h5 (Region.free_spec hi h3) (by simpa using h2) (.inl ⟨hw, still_yields h1 hv⟩) hS (segU_take hsel hQ hS hX r fuel _ _ h4 hr)
      · rw [if_neg hw] at h
        exact Ways.takeU hi hsel (fun c a w => hQ c a _ _ w) fuel done a w h6 h5 (Region.free_spec hi h3) (by simpa using h2) (.inr ⟨by simpa using hw, rfl⟩) hS (segU_take hsel hQ hS hX r fuel _ _ h4 h)

theorem treeU_ways (hsel : Region.noSelect l.toArray = true) (hQ : ∀ c (a : Act) d v w, Q (.panic c) (a.put d v) w → Q (.panic c) a w) :
    ∀ (t : PG) (fuel : Nat) (done : Array Bool) (a : Act) (w : World), treeU l z t fuel done = true → S w → wpG P l Q S z t a w → Ways P l.toArray Q S z fuel done a w
  | .fin seg, fuel, done, a, w, hk, hS, h => by
    refine segU_take hsel hQ hS (fun fuel done a hk hx => ?_) seg fuel done a hk h
    simp only [Bool.and_eq_true] at hk
    obtain ⟨⟨⟨h1, h2⟩, h3⟩, h4⟩ := hk
    have h1 : Region.ready .any l.toArray done = [z] := by simpa using h1
    have h3 : Region.ready .any l.toArray (done.setIfInBounds z true) = [] := by simpa using h3
    cases fuel with
    | zero => simp at h2
    | succ fuel =>
      refine ⟨fun h0 => (by rw [h1] at h0; cases h0), fun j hj => ?_⟩
      have hin := (mem_ready.1 hj).2
      rw [h1] at hj
      obtain rfl : j = z := by simpa using hj
      obtain ⟨o, ho, _⟩ := hin
      have ho' : l[j]? = some o := by simpa using ho
      simp only [lastG, ho'] at hx
      refine wpOp_step ho fun K' hK => hx K' (fun a w hq => hK a w ⟨fun hz => ?_, Ways.end_ h3 hq⟩)
      rw [Array.getD_eq_getD_getElem?] at hz h4
      cases hd : (done.setIfInBounds j true)[j]? with
      | none => rw [hd] at h4; simp at h4
      | some b => rw [hd] at hz h4; simp at hz h4; rw [h4] at hz; cases hz
  | .one seg i r, fuel, done, a, w, hk, hS, h => by
    refine segU_take hsel hQ hS (fun fuel done a hk hx => ?_) seg fuel done a hk h
    simp only [Bool.and_eq_true] at hk
    obtain ⟨h1, h2⟩ := hk
    cases fuel with
    | zero => simp at h2
    | succ fuel =>
      simp only at h2
      refine ways_step (rs := [i]) (by simpa using h1) (by simp) (fun _ => wpG P l Q S z r) (fun j hj a w hs hw => ?_) (fun j hj => ?_)
      · obtain rfl : j = i := by simpa using hj
        exact treeU_ways hsel hQ r fuel _ a w h2 hs hw
      · obtain rfl : j = i := by simpa using hj
        exact hx
  | .two seg i r k s, fuel, done, a, w, hk, hS, h => by
    refine segU_take hsel hQ hS (fun fuel done a hk hx => ?_) seg fuel done a hk h
    simp only [Bool.and_eq_true] at hk
    obtain ⟨h1, h2⟩ := hk
    cases fuel with
    | zero => simp at h2
    | succ fuel =>
      simp only [Bool.and_eq_true] at h2
      refine ways_step (rs := [i, k]) (by simpa using h1) (by simp) (fun j => if j = i then wpG P l Q S z r else wpG P l Q S z s) (fun j hj a w hs hw => ?_) (fun j hj => ?_)
      · by_cases hji : j = i
        · subst hji
          rw [if_pos rfl] at hw
          exact treeU_ways hsel hQ r fuel _ a w h2.1 hs hw
        · obtain rfl : j = k := by simp at hj; omega
          rw [if_neg hji] at hw
          exact treeU_ways hsel hQ s fuel _ a w h2.2 hs hw
      · by_cases hji : j = i
        · subst hji
          simp only [if_pos]
          exact hx.1
        · obtain rfl : j = k := by simp at hj; omega
          simp only [if_neg hji]
          exact hx.2

/-- **A region in a tree of orders, z its last.** -/
theorem wp_region_lastU {id : Nat} {a : Act} {w : World} (S : World → Prop) (z : Nat) (t : PG) (hm : P.follows .mixedOrders = true) (hsel : Region.noSelect l.toArray = true)
    (hok : treeU l z t l.toArray.size (Array.replicate l.toArray.size false) = true) (hQ : ∀ c (a : Act) d v w, Q (.panic c) (a.put d v) w → Q (.panic c) a w) (hS : S w.drew)
    (h : wpG P l Q S z t a w.drew) : (Code.region id l.toArray true).wp P Q a w :=
  wp_region_any hm (Ways.any _ _ _ _ (treeU_ways hsel hQ t _ _ a _ hok hS h))
end
end Go.Proofs.YtjjgngccgjpnaaaGreatDoor
