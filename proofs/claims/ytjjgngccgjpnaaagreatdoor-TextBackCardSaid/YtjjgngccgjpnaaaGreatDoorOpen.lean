/- Arguments opened: a struct or an array, whatever it holds, as the list of its cells, each with its own reading; a slice of such. No program in sight. -/
import Derived.Test.YtjjgngccgjpnaaaGreatDoorBase
import Derived.ProofKit
import Derived.OpenShut
import Derived.Deep.Slices
namespace Go.Proofs.YtjjgngccgjpnaaaGreatDoor
set_option linter.unusedVariables false
set_option linter.unusedSimpArgs false
open Go.RowKit Go.ChangeShapes Go.WideShapes Go.Deep

def leavesFields (P : Program) (rec_ : TypeId → Option (List TypeId)) : Nat → List Field → Option (List TypeId)
  | _, [] => some []
  | off, f :: r => match rec_ f.type with
    | none => none
    | some l => if f.offset = off ∧ P.cellsOf f.type = l.length then
        match leavesFields P rec_ (off + l.length) r with
        | none => none
        | some m => some (l ++ m)
      else none

/-- The types of a type's cells, one behind the other. -/
def leaves (P : Program) : Nat → TypeId → Option (List TypeId)
  | 0, _ => none
  | n + 1, t => match P.underlying t with
    | some (.struct fs) => match leavesFields P (leaves P n) 0 fs.toList with
      | some l => if P.cellsOf t = l.length then some l else none
      | none => none
    | some (.array k e) => match leaves P n e with
      | some l => if P.cellsOf e = l.length ∧ P.cellsOf t = k * l.length then some (List.replicate k l).flatten else none
      | none => none
    | some (.int _) => some [t]
    | some .bool => some [t]
    | some .string => some [t]
    | some (.slice _) => some [t]
    | _ => none

section
variable {H : Type} {enc : TypeId × Value → H} {P : Program} {w : World} {base : Nat} {spare : Nat → Bool} {held : Bool}

/-- One cell's own reading. -/
def Leaf (enc : TypeId × Value → H) (P : Program) (w : World) (base : Nat) (spare : Nat → Bool) (held : Bool) (t : TypeId) (v : Value) : Prop :=
  ∃ (m : Nat) (y : DataW H × List MemPlace), DataW.trod enc P w base spare held m t [v] = some y

def AllLeaves (enc : TypeId × Value → H) (P : Program) (w : World) (base : Nat) (spare : Nat → Bool) (held : Bool) : List TypeId → List Value → Prop
  | [], [] => True
  | t :: ts, v :: vs => Leaf enc P w base spare held t v ∧ AllLeaves enc P w base spare held ts vs
  | _, _ => False

theorem AllLeaves.len : ∀ {ts : List TypeId} {vs : List Value}, AllLeaves enc P w base spare held ts vs → vs.length = ts.length
  | [], [], _ => rfl
  | t :: ts, v :: vs, h => by simp [AllLeaves.len h.2]
theorem AllLeaves.app : ∀ {ts ts' : List TypeId} {vs vs' : List Value}, AllLeaves enc P w base spare held ts vs → AllLeaves enc P w base spare held ts' vs' → AllLeaves enc P w base spare held (ts ++ ts') (vs ++ vs')
  | [], _, [], _, _, h' => h'
  | t :: ts, _, v :: vs, _, h, h' => ⟨h.1, AllLeaves.app h.2 h'⟩

theorem leaf_one {t : TypeId} {fuel : Nat} {cs : List Value} {x : DataW H × List MemPlace} {v : Value} (hv : cs = [v]) (h : DataW.trod enc P w base spare held fuel t cs = some x) : AllLeaves enc P w base spare held [t] cs := by
  subst hv
  exact ⟨⟨_, _, h⟩, trivial⟩

theorem leavesFields_of {n : Nat} (ih : ∀ (t : TypeId) (l : List TypeId) (fuel : Nat) (cs : List Value) (x : DataW H × List MemPlace), leaves P n t = some l → DataW.trod enc P w base spare held fuel t cs = some x → AllLeaves enc P w base spare held l cs)
    (cs : List Value) (fuel : Nat) (xs : List (DataW H × List MemPlace)) :
    ∀ (fs : List Field) (i off : Nat) (l : List TypeId), leavesFields P (leaves P n) off fs = some l → off + l.length ≤ cs.length → i + fs.length ≤ xs.length →
      (∀ (j : Nat) (f : Field), fs[j]? = some f → DataW.trod enc P w base spare held fuel f.type ((cs.drop f.offset).take (P.cellsOf f.type)) = xs[i + j]?) → AllLeaves enc P w base spare held l ((cs.drop off).take l.length)
  | [], i, off, l, hl, _, _, _ => by
    simp only [leavesFields, Option.some.injEq] at hl
    subst hl
    simp [AllLeaves]
  | f :: r, i, off, l, hl, hlen, hi, hf => by
    simp only [leavesFields] at hl
    split at hl
    · cases hl
    · rename_i lf hlf
      split at hl
      · rename_i hoff
        split at hl
        · cases hl
        · rename_i m hm
          simp only [Option.some.injEq] at hl
          subst hl
          simp only [List.length_append] at hlen
          have h0 := hf 0 f rfl
          rw [Nat.add_zero, hoff.1, hoff.2, List.getElem?_eq_getElem (by simp at hi; omega)] at h0
          have a1 := ih _ _ _ _ _ hlf h0
          have a2 := leavesFields_of ih cs fuel xs r (i + 1) (off + lf.length) m hm (by omega) (by simp at hi; omega) (fun j g hg => by
            have := hf (j + 1) g (by simpa using hg)
            rwa [show i + (j + 1) = i + 1 + j by omega] at this)
          have := a1.app a2
          rwa [← List.drop_drop, ← List.take_add, ← List.length_append] at this
      · cases hl

theorem replicate_leaves {k s : Nat} {l : List TypeId} (hs : l.length = s) : ∀ (cs : List Value), cs.length = k * s → (∀ i, i < k → AllLeaves enc P w base spare held l ((cs.drop (i * s)).take s)) → AllLeaves enc P w base spare held (List.replicate k l).flatten cs := by
  induction k with
  | zero =>
    intro cs hc _
    obtain rfl : cs = [] := List.eq_nil_of_length_eq_zero (by simpa using hc)
    trivial
  | succ k ih =>
    intro cs hc h
    have h0 := h 0 (by omega)
    simp only [Nat.zero_mul, List.drop_zero] at h0
    have hsp : cs = cs.take s ++ cs.drop s := (List.take_append_drop s cs).symm
    rw [hsp, List.replicate_succ, List.flatten_cons]
    refine h0.app (ih _ ?_ fun i hi => ?_)
    · rw [List.length_drop, hc, Nat.add_mul]; omega
    · have := h (i + 1) (by omega)
      rwa [List.drop_drop, show s + i * s = (i + 1) * s by rw [Nat.add_mul]; omega]

theorem leaves_of : ∀ (n : Nat) (t : TypeId) (l : List TypeId) (fuel : Nat) (cs : List Value) (x : DataW H × List MemPlace), leaves P n t = some l → DataW.trod enc P w base spare held fuel t cs = some x → AllLeaves enc P w base spare held l cs
  | 0, t, l, fuel, cs, x, hl, _ => by simp [leaves] at hl
  | n + 1, t, l, fuel, cs, x, hl, h => by
    unfold leaves at hl
    split at hl
    · rename_i fs ht
      split at hl
      · rename_i l' hl'
        split at hl
        · rename_i hC
          simp only [Option.some.injEq] at hl
          subst hl
          obtain ⟨xs, m, _, _, hcs, hxs, hf⟩ := DataW.trod_struct ht h
          have hlen : cs.length = l'.length := by rw [hcs, hC]
          have := leavesFields_of (leaves_of n) cs m xs fs.toList 0 0 l' hl' (by omega) (by simp [hxs]) (fun j f hj => by
            rw [Nat.zero_add]
            exact hf j f (by simpa using hj))
          rwa [List.drop_zero, ← hlen, List.take_length] at this
        · cases hl
      · cases hl
    · rename_i k e ht
      split at hl
      · rename_i l' hl'
        split at hl
        · rename_i hC
          simp only [Option.some.injEq] at hl
          subst hl
          obtain ⟨xs, m, _, _, hcs, hxs, hf⟩ := DataW.trod_array ht h
          refine replicate_leaves (s := l'.length) rfl cs (by rw [hcs, hC.2]) fun i hi => ?_
          have h0 := hf i hi
          rw [hC.1, List.getElem?_eq_getElem (by omega)] at h0
          exact leaves_of n _ _ _ _ _ hl' h0
        · cases hl
      · cases hl
    · rename_i k ht
      simp only [Option.some.injEq] at hl
      subst hl
      obtain ⟨_, hcs, _⟩ := DataW.trod_int ht h
      exact leaf_one hcs h
    · rename_i ht
      simp only [Option.some.injEq] at hl
      subst hl
      obtain ⟨_, hcs, _⟩ := DataW.trod_bool ht h
      exact leaf_one hcs h
    · rename_i ht
      simp only [Option.some.injEq] at hl
      subst hl
      obtain ⟨_, hcs, _⟩ := DataW.trod_string ht h
      exact leaf_one hcs h
    · rename_i e ht
      simp only [Option.some.injEq] at hl
      subst hl
      rcases open_slice ht h with ⟨hcs, _⟩ | ⟨a, len, cap, m, n', D, Pl, hcs, _⟩
      · exact leaf_one hcs h
      · exact leaf_one hcs h
    · cases hl

theorem AllLeaves.cons_ {t : TypeId} {ts : List TypeId} {vs : List Value} (h : AllLeaves enc P w base spare held (t :: ts) vs) : ∃ v r, vs = v :: r ∧ Leaf enc P w base spare held t v ∧ AllLeaves enc P w base spare held ts r := by
  cases vs with
  | nil => exact h.elim
  | cons v r => exact ⟨v, r, rfl, h.1, h.2⟩
theorem AllLeaves.nil_ {vs : List Value} (h : AllLeaves enc P w base spare held [] vs) : vs = [] := by
  cases vs with
  | nil => rfl
  | cons v r => exact h.elim

theorem Leaf.int_ {t : TypeId} {k : IntKind} {v : Value} (ht : P.underlying t = some (.int k)) (h : Leaf enc P w base spare held t v) : ∃ n, v = .int k n ∧ (Lit.int k n).wf = true := by
  obtain ⟨m, y, hy⟩ := h
  obtain ⟨n, hv, _, hw⟩ := DataW.trod_int ht hy
  exact ⟨n, by simpa using hv, hw⟩
theorem Leaf.bool_ {t : TypeId} {v : Value} (ht : P.underlying t = some .bool) (h : Leaf enc P w base spare held t v) : ∃ b, v = .bool b := by
  obtain ⟨m, y, hy⟩ := h
  obtain ⟨b, hv, _⟩ := DataW.trod_bool ht hy
  exact ⟨b, by simpa using hv⟩

/-- A slice: each element read off its cells by 'hel'. -/
theorem Leaf.slice_ {α : Type} [Inhabited α] {f : α → List Value} {wfx : α → Prop} {s : Nat} (hf : ∀ x, (f x).length = s) {t e : TypeId} {v : Value} (ht : P.underlying t = some (.slice e)) (hC : P.cellsOf e = s)
    (hel : ∀ (m : Nat) (cs : List Value) (y : DataW H × List MemPlace), DataW.trod enc P w base spare held m e cs = some y → ∃ x : α, cs = f x ∧ wfx x) (h : Leaf enc P w base spare held t v) :
    ∃ A n c l, v = .slice A n c ∧ Sl f w A n c l ∧ (∀ x ∈ l, wfx x) ∧ c ≤ maxLen := by
  obtain ⟨m, y, hy⟩ := h
  rcases open_slice ht hy with ⟨hcs, _⟩ | ⟨a, len, cap, m', n', D, Pl, hcs, _, hl, hm, hmm, _, hi⟩
  · refine ⟨none, 0, 0, [], by simpa using hcs, ⟨rfl, Nat.le_refl _, Rd.nil _ _, fun _ => ⟨rfl, rfl⟩⟩, by simp, by simp [maxLen]⟩
  · have hlm : len ≤ m' := by rw [hmm]; split <;> omega
    have h1 : ∀ i, i < len → ∃ x : α, wfx x ∧ w.cells? base (a.add (i * s)) s = some (f x) := fun i hil => by
      obtain ⟨cs', hc, ht'⟩ := hi i (by omega)
      obtain ⟨x, rfl, hw⟩ := hel _ _ _ ht'
      rw [hC] at hc
      exact ⟨x, hw, hc⟩
    obtain ⟨g, hg⟩ := choose_lt h1
    refine ⟨some a, len, cap, (List.range len).map g, by simpa using hcs, ⟨by simp, hl, Rd.mk_ fun j u hj => ?_, fun h => by cases h⟩, ?_, hm⟩
    · have hjl : j < len * s := by
        have := (List.getElem?_eq_some_iff.1 hj).1
        rwa [flat_len hf, List.length_map, List.length_range] at this
      rcases Nat.eq_zero_or_pos s with hs0 | hs0
      · subst hs0; simp at hjl
      have hd : j / s < len := (Nat.div_lt_iff_lt_mul hs0).2 hjl
      have hmd : j % s < s := Nat.mod_lt _ hs0
      have hj' : j = j / s * s + j % s := by rw [Nat.mul_comm]; exact (Nat.div_add_mod j s).symm
      obtain ⟨_, hc⟩ := hg _ hd
      obtain ⟨_, hcl, hat⟩ := World.cells?_some hc
      have hu : (f (g (j / s)))[j % s]? = some u := by
        have hx : (((List.range len).map g))[j / s]? = some (g (j / s)) := by simp [hd]
        have hlt : j % s < (f (g (j / s))).length := by rw [hf]; exact hmd
        have := flat_get hf _ _ (j % s) _ _ hx (List.getElem?_eq_getElem hlt)
        rw [← hj', hj] at this
        rw [List.getElem?_eq_getElem hlt]
        exact this.symm
      have := hat (j % s) hmd
      rw [ad_add, ← hj'] at this
      rw [this, hu]
    · intro x hx
      simp only [List.mem_map, List.mem_range] at hx
      obtain ⟨i, hil, rfl⟩ := hx
      exact (hg i hil).1
end

theorem trod_leaf {H : Type} {enc : TypeId × Value → H} {P : Program} {w : World} {base : Nat} {spare : Nat → Bool} {held : Bool} {t : TypeId} {v : Value} {d : DataW H} {p : List MemPlace} (h : DataW.Trod enc P w base spare held t v d p) (h1 : v.cells = #[v]) : Leaf enc P w base spare held t v := by
  obtain ⟨m, hm⟩ := h
  rw [h1] at hm
  exact ⟨m, _, hm⟩

theorem okWide_array {P : Program} {w : World} {r : Reach} {base : Nat} {t e : TypeId} {k : Nat} {v : Value} (ht : P.underlying t = some (.array k e)) (h : Value.okWide P w r base t v) : ∃ cs, v = .agg cs := by
  simp only [Value.okWide, ht] at h
  obtain ⟨cs, h1, _⟩ := h
  exact ⟨cs, h1⟩
end Go.Proofs.YtjjgngccgjpnaaaGreatDoor
