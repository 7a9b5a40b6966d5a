/- Arguments opened, with the form's reach: each cell's own reading, its weights bounded. No program in sight. -/
import Derived.Test.YtjjgngccgjpnaaaGreatDoorOpen
import Derived.SizedLaws
namespace Go.Proofs.YtjjgngccgjpnaaaGreatDoor
set_option linter.unusedVariables false
set_option linter.unusedSimpArgs false
open Go.RowKit Go.ChangeShapes Go.WideShapes Go.Deep

section
variable {H : Type} {enc : TypeId × Value → H} {P : Program} {w : World} {base : Nat} {spare : Nat → Bool} {held : Bool} {B : Nat}

/-- One cell's own reading, its weights within B. -/
def LeafR (enc : TypeId × Value → H) (P : Program) (w : World) (base : Nat) (spare : Nat → Bool) (held : Bool) (B : Nat) (t : TypeId) (v : Value) : Prop :=
  ∃ (m : Nat) (y : DataW H × List MemPlace), DataW.trod enc P w base spare held m t [v] = some y ∧ ∀ n ∈ y.1.weights P t, n ≤ B
theorem LeafR.leaf {t : TypeId} {v : Value} (h : LeafR enc P w base spare held B t v) : Leaf enc P w base spare held t v := by
  obtain ⟨m, y, hy, _⟩ := h
  exact ⟨m, y, hy⟩
def AllLeavesR (enc : TypeId × Value → H) (P : Program) (w : World) (base : Nat) (spare : Nat → Bool) (held : Bool) (B : Nat) : List TypeId → List Value → Prop
  | [], [] => True
  | t :: ts, v :: vs => LeafR enc P w base spare held B t v ∧ AllLeavesR enc P w base spare held B ts vs
  | _, _ => False
theorem AllLeavesR.app : ∀ {ts ts' : List TypeId} {vs vs' : List Value}, AllLeavesR enc P w base spare held B ts vs → AllLeavesR enc P w base spare held B ts' vs' → AllLeavesR enc P w base spare held B (ts ++ ts') (vs ++ vs')
  | [], _, [], _, _, h' => h'
  | t :: ts, _, v :: vs, _, h, h' => ⟨h.1, AllLeavesR.app h.2 h'⟩
theorem AllLeavesR.cons_ {t : TypeId} {ts : List TypeId} {vs : List Value} (h : AllLeavesR enc P w base spare held B (t :: ts) vs) : ∃ v r, vs = v :: r ∧ LeafR enc P w base spare held B t v ∧ AllLeavesR enc P w base spare held B ts r := by
  cases vs with
  | nil => exact h.elim
  | cons v r => exact ⟨v, r, rfl, h.1, h.2⟩
theorem AllLeavesR.nil_ {vs : List Value} (h : AllLeavesR enc P w base spare held B [] vs) : vs = [] := by
  cases vs with
  | nil => rfl
  | cons v r => exact h.elim
theorem leafR_one {t : TypeId} {fuel : Nat} {cs : List Value} {x : DataW H × List MemPlace} {v : Value} (hv : cs = [v]) (h : DataW.trod enc P w base spare held fuel t cs = some x) (hw : ∀ n ∈ x.1.weights P t, n ≤ B) : AllLeavesR enc P w base spare held B [t] cs := by
  subst hv
  exact ⟨⟨_, _, h, hw⟩, trivial⟩
theorem mem_all {e : TypeId} : ∀ (l : List (DataW H)) (d : DataW H), d ∈ l → ∀ n ∈ d.weights P e, n ∈ DataW.weightsAll P e l
  | x :: r, d, hd, n, hn => by
    simp only [DataW.weightsAll, List.mem_append]
    rcases List.mem_cons.1 hd with rfl | hd
    · exact .inl hn
    · exact .inr (mem_all r d hd n hn)
theorem leavesFields_ofR {n : Nat} (ih : ∀ (t : TypeId) (l : List TypeId) (fuel : Nat) (cs : List Value) (x : DataW H × List MemPlace), leaves P n t = some l → DataW.trod enc P w base spare held fuel t cs = some x → (∀ n ∈ x.1.weights P t, n ≤ B) → AllLeavesR enc P w base spare held B l cs)
    (cs : List Value) (fuel : Nat) (xs : List (DataW H × List MemPlace)) :
    ∀ (fs : List Field) (i off : Nat) (l : List TypeId), leavesFields P (leaves P n) off fs = some l → off + l.length ≤ cs.length → i + fs.length ≤ xs.length →
      (∀ (j : Nat) (f : Field), fs[j]? = some f → DataW.trod enc P w base spare held fuel f.type ((cs.drop f.offset).take (P.cellsOf f.type)) = xs[i + j]? ∧ ∀ y, xs[i + j]? = some y → ∀ n ∈ y.1.weights P f.type, n ≤ B) → AllLeavesR enc P w base spare held B l ((cs.drop off).take l.length)
  | [], i, off, l, hl, _, _, _ => by
    simp only [leavesFields, Option.some.injEq] at hl
    subst hl
    simp [AllLeavesR]
  | f :: r, i, off, l, hl, hlen, hi, hf => by
    simp only [leavesFields] at hl
    split at hl
    · cases hl
    · rename_i lf hlf
      split at hl
      · rename_i hoff
        split at hl
        · cases hl
        · rename_i m hm
          simp only [Option.some.injEq] at hl
          subst hl
          simp only [List.length_append] at hlen
          obtain ⟨h0, hw0⟩ := hf 0 f rfl
          rw [Nat.add_zero, hoff.1, hoff.2, List.getElem?_eq_getElem (by simp at hi; omega)] at h0
          have a1 := ih _ _ _ _ _ hlf h0 (hw0 _ (by rw [Nat.add_zero]; exact List.getElem?_eq_getElem (by simp at hi; omega)))
          have a2 := leavesFields_ofR ih cs fuel xs r (i + 1) (off + lf.length) m hm (by omega) (by simp at hi; omega) (fun j g hg => by
            have := hf (j + 1) g (by simpa using hg)
            rwa [show i + (j + 1) = i + 1 + j by omega] at this)
          have := a1.app a2
          rwa [← List.drop_drop, ← List.take_add, ← List.length_append] at this
      · cases hl
theorem replicate_leavesR {k s : Nat} {l : List TypeId} (hs : l.length = s) : ∀ (cs : List Value), cs.length = k * s → (∀ i, i < k → AllLeavesR enc P w base spare held B l ((cs.drop (i * s)).take s)) → AllLeavesR enc P w base spare held B (List.replicate k l).flatten cs := by
  induction k with
  | zero =>
    intro cs hc _
    obtain rfl : cs = [] := List.eq_nil_of_length_eq_zero (by simpa using hc)
    trivial
  | succ k ih =>
    intro cs hc h
    have h0 := h 0 (by omega)
    simp only [Nat.zero_mul, List.drop_zero] at h0
    have hsp : cs = cs.take s ++ cs.drop s := (List.take_append_drop s cs).symm
    rw [hsp, List.replicate_succ, List.flatten_cons]
    refine h0.app (ih _ ?_ fun i hi => ?_)
    · rw [List.length_drop, hc, Nat.add_mul]; omega
    · have := h (i + 1) (by omega)
      rwa [List.drop_drop, show s + i * s = (i + 1) * s by rw [Nat.add_mul]; omega]
theorem leaves_ofR : ∀ (n : Nat) (t : TypeId) (l : List TypeId) (fuel : Nat) (cs : List Value) (x : DataW H × List MemPlace), leaves P n t = some l → DataW.trod enc P w base spare held fuel t cs = some x → (∀ n ∈ x.1.weights P t, n ≤ B) → AllLeavesR enc P w base spare held B l cs
  | 0, t, l, fuel, cs, x, hl, _, _ => by simp [leaves] at hl
  | n + 1, t, l, fuel, cs, x, hl, h, hw => by
    unfold leaves at hl
    split at hl
    · rename_i fs ht
      split at hl
      · rename_i l' hl'
        split at hl
        · rename_i hC
          simp only [Option.some.injEq] at hl
          subst hl
          obtain ⟨xs, m, _, hx, hcs, hxs, hf⟩ := DataW.trod_struct ht h
          have hlen : cs.length = l'.length := by rw [hcs, hC]
          have := leavesFields_ofR (leaves_ofR n) cs m xs fs.toList 0 0 l' hl' (by omega) (by simp [hxs]) (fun j f hj => by
            rw [Nat.zero_add]
            refine ⟨hf j f (by simpa using hj), fun y hy k hk => hw k ?_⟩
            rw [hx]
            simp only [DataW.weights, ht]
            exact DataW.weights_mem_each (j := j) (t := f.type) (d := y.1) (by rw [List.getElem?_map, hj]; rfl) (by rw [List.getElem?_map, hy]; rfl) k hk)
          rwa [List.drop_zero, ← hlen, List.take_length] at this
        · cases hl
      · cases hl
    · rename_i k e ht
      split at hl
      · rename_i l' hl'
        split at hl
        · rename_i hC
          simp only [Option.some.injEq] at hl
          subst hl
          obtain ⟨xs, m, _, hx, hcs, hxs, hf⟩ := DataW.trod_array ht h
          refine replicate_leavesR (s := l'.length) rfl cs (by rw [hcs, hC.2]) fun i hi => ?_
          have h0 := hf i hi
          rw [hC.1, List.getElem?_eq_getElem (by omega)] at h0
          refine leaves_ofR n _ _ _ _ _ hl' h0 fun k hk => hw k ?_
          rw [hx]
          simp only [DataW.weights, ht]
          exact mem_all _ _ (List.mem_map.2 ⟨xs[i], List.getElem_mem _, rfl⟩) k hk
        · cases hl
      · cases hl
    · rename_i k ht
      simp only [Option.some.injEq] at hl
      subst hl
      obtain ⟨_, hcs, _⟩ := DataW.trod_int ht h
      exact leafR_one hcs h hw
    · rename_i ht
      simp only [Option.some.injEq] at hl
      subst hl
      obtain ⟨_, hcs, _⟩ := DataW.trod_bool ht h
      exact leafR_one hcs h hw
    · rename_i ht
      simp only [Option.some.injEq] at hl
      subst hl
      obtain ⟨_, hcs, _⟩ := DataW.trod_string ht h
      exact leafR_one hcs h hw
    · rename_i e ht
      simp only [Option.some.injEq] at hl
      subst hl
      rcases open_slice ht h with ⟨hcs, _⟩ | ⟨a, len, cap, m, n', D, Pl, hcs, _⟩
      · exact leafR_one hcs h hw
      · exact leafR_one hcs h hw
    · cases hl
/-- A slice's length, by the reach. -/
theorem LeafR.len_ {t e : TypeId} {A : Option Addr} {n c : Nat} (ht : P.underlying t = some (.slice e)) (h : LeafR enc P w base spare held B t (.slice A n c)) : n * P.bytesOf e ≤ B := by
  obtain ⟨m, y, hy, hw⟩ := h
  rcases open_slice ht hy with ⟨hcs, _⟩ | ⟨a, len, cap, m', n', D, Pl, hcs, _, _, _, _, hx, _⟩
  · simp at hcs
    rw [hcs.2.1]
    simp
  · simp at hcs
    have := hw ((len + (m' - len)) * P.bytesOf e) (by rw [hx]; simp [DataW.weights, ht])
    rw [hcs.2.1]
    exact Nat.le_trans (Nat.mul_le_mul_right _ (Nat.le_add_right _ _)) this
end
end Go.Proofs.YtjjgngccgjpnaaaGreatDoor
