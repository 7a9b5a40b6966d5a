/- Scripts, woven: the program's walk; the plain laws of PurgeKeeps. -/
import Derived.Test.YtijffncgokcidaaPurgeM
namespace Go.Proofs.Ytijffncgokcidaa
set_option linter.unusedVariables false
set_option linter.unusedSimpArgs false
open Go.RowKit

/-- What is woven: programs, entries. -/
def wP (c c2 : Cf) (ps ps2 : List (List CV)) (lv : Int) : List (List CV) := if c = c2 then wvP c ps ps2 lv else psK (stTo c lv) ps 8
def wE (c c2 : Cf) (es es2 : List En) (lv : Int) (al : List Int) : List En := if c = c2 then wvE c es es2 lv al else es.filter fun e => stTo c lv e.th
theorem weave_any {w : World} {c c2 : Cf} {us us2 : List Value} {ps ps2 : List (List CV)} {EA EA2 AA : Option Addr} {en ec en2 ec2 an ad : Nat} {es es2 : List En} {al : List Int} (hP : PIn (fun _ => False) w us ps) (hE : Sl enc_ w EA en ec es) (hP2 : PIn (fun _ => False) w us2 ps2) (hE2 : Sl enc_ w EA2 en2 ec2 es2) (hAl : Sl itc w AA an ad al) (hen : en ≤ 1000000) (hen2 : en2 ≤ 1000000) (han : an ≤ 1000000) (hre : ∀ l, l ∈ ps → l.length * 56 ≤ 140737488351232) (hre2 : ∀ l, l ∈ ps2 → l.length * 56 ≤ 140737488351232) (lv : Int) :
    Calls Try.prog 14 #[.agg (scc c us (.slice EA en ec)).toArray, .agg (scc c2 us2 (.slice EA2 en2 ec2)).toArray, .int .i64 lv, .slice AA an ad] w fun e w' => ∃ us' A m d, e = .returned (.agg (scc c us' (.slice A m d)).toArray) ∧ PIn (fun _ => False) w' us' (wP c c2 ps ps2 lv) ∧ Sl enc_ w' A m d (wE c c2 es es2 lv al) ∧ Below w.heap.size w w' := by
  unfold wP wE
  by_cases hc : c = c2
  · rw [if_pos hc, if_pos hc]
    subst hc
    exact weave_b hP hE hP2 hE2 hAl hen hen2 han hre hre2 lv
  · rw [if_neg hc, if_neg hc]
    exact weave_a hP hE hP2 hE2 hAl hen hen2 han hre hre2 lv hc
theorem mg_len (al : List Int) (x y : List En) : ∀ (f i k : Nat), (mgf al x y f i k).length ≤ (x.length - i) + f
  | 0, i, k => by rw [mgf, List.length_drop]; omega
  | f + 1, i, k => by
    rw [mgf]
    cases y[k]? with
    | none => (simp <;> omega)
    | some e =>
      dsimp only
      split
      · cases hx : x[i]? with
        | none => simp
        | some a =>
          have hi := (List.getElem?_eq_some_iff.1 hx).1
          have := mg_len al x y f (i + 1) k
          simp
          omega
      · have := mg_len al x y f i (k + 1)
        simp
        omega
theorem mg_le (al : List Int) (x y : List En) : (mg al x y 0 0).length ≤ 2 * x.length + y.length := by
  have := mg_len al x y (x.length - 0 + (y.length - 0)) 0 0
  unfold mg
  omega
theorem wvP_re {c : Cf} {ps ps2 : List (List CV)} {lv : Int} (h : ∀ l, l ∈ ps → l.length * 56 ≤ 140737488351232) (h2 : ∀ l, l ∈ ps2 → l.length * 56 ≤ 140737488351232) : ∀ l, l ∈ wvP c ps ps2 lv → l.length * 56 ≤ 140737488351232 := by
  intro l hl
  unfold wvP psW at hl
  obtain ⟨j, hj, rfl⟩ := List.mem_map.1 hl
  have g : ∀ P : List (List CV), (∀ l, l ∈ P → l.length * 56 ≤ 140737488351232) → (P.getD j []).length * 56 ≤ 140737488351232 := fun P hP => by
    rw [List.getD_eq_getElem?_getD]
    cases hp : P[j]? with
    | none => simp
    | some x => exact hP x (List.mem_of_getElem? hp)
  split
  · exact g _ (psK_re h2)
  · exact g _ (psK_re h)
theorem wP_re {c c2 : Cf} {ps ps2 : List (List CV)} {lv : Int} (h : ∀ l, l ∈ ps → l.length * 56 ≤ 140737488351232) (h2 : ∀ l, l ∈ ps2 → l.length * 56 ≤ 140737488351232) : ∀ l, l ∈ wP c c2 ps ps2 lv → l.length * 56 ≤ 140737488351232 := by
  unfold wP
  split
  · exact wvP_re h h2
  · exact psK_re h
/-- Purged twice. -/
theorem psK_twice {st st' : Int → Bool} (h : ∀ t, st t = true → st' t = true) (ps : List (List CV)) : psK st' (psK st ps 8) 8 = psK st ps 8 := by
  apply List.ext_getElem?
  intro j
  by_cases hj : j < 8
  · rw [psK_get _ _ _ hj, psK_get _ _ _ hj]
    congr 1
    by_cases hs : st (j : Int) = true
    · rw [if_pos ⟨hj, h _ hs⟩, if_pos ⟨hj, hs⟩, List.getD_eq_getElem?_getD, psK_get _ _ _ hj, if_pos ⟨hj, hs⟩]
      rfl
    · have e1 : (if j < 8 ∧ st (j : Int) = true then ps.getD j [] else []) = [] := if_neg (fun q => hs q.2)
      rw [e1]
      split
      · rw [List.getD_eq_getElem?_getD, psK_get _ _ _ hj, e1]
        rfl
      · rfl
  · rw [List.getElem?_eq_none (by rw [psK_len]; omega), List.getElem?_eq_none (by rw [psK_len]; omega)]
theorem filt_twice {st st' : Int → Bool} (h : ∀ t, st t = true → st' t = true) (es : List En) : (es.filter fun e => st e.th).filter (fun e => st' e.th) = es.filter fun e => st e.th := by
  rw [List.filter_eq_self]
  intro e he
  exact h _ (by simpa using (List.mem_filter.1 he).2)
theorem psK_all {st : Int → Bool} (h : ∀ t, st t = true) {ps : List (List CV)} (hl : ps.length = 8) : psK st ps 8 = ps := by
  apply List.ext_getElem?
  intro j
  by_cases hj : j < 8
  · rw [psK_get _ _ _ hj, if_pos ⟨hj, h _⟩, List.getD_eq_getElem?_getD, List.getElem?_eq_getElem (by omega)]
    rfl
  · rw [List.getElem?_eq_none (by rw [psK_len]; omega), List.getElem?_eq_none (by omega)]
theorem level_le (c : Cf) (t : Int) : levelOf c t ≤ 3 := by
  unfold levelOf
  split
  · rename_i h
    have m : c.May := of_decide_eq_true h.1
    have l1 := m.t2
    have l2 := m.l2
    have := m.r t.toNat (by omega)
    omega
  · omega
theorem to_three (c : Cf) (t : Int) : stTo c 3 t = true := by
  unfold stTo abB
  rw [decide_eq_false (by have := level_le c t; omega)]
  rfl
theorem to_up {c : Cf} {lv : Int} (t : Int) (h : stTo c lv t = true) : stTo c (lv + 1) t = true := by
  unfold stTo abB at h ⊢
  simp only [Bool.not_eq_true', decide_eq_false_iff_not] at h ⊢
  omega
/-- What goes and what stays are all. -/
theorem filt_both (c : Cf) (lv : Int) (es : List En) : (es.filter fun e => stTo c lv e.th).length + (es.filter fun e => stAb c lv e.th).length = es.length := by
  induction es with
  | nil => rfl
  | cons e r ih =>
    rw [List.filter_cons, List.filter_cons]
    unfold stTo stAb at *
    cases abB c e.th lv <;> simp at ih ⊢ <;> omega
/-- Of what is woven, purged, the low one's entries stay. -/
theorem mgf_filt (p : En → Bool) (al : List Int) (x y : List En) (hx : ∀ e, e ∈ x → p e = true) (hy : ∀ e, e ∈ y → p e = false) : ∀ (f i k : Nat), (x.length - i) + (y.length - k) ≤ f → i ≤ x.length → (mgf al x y f i k).filter p = x.drop i
  | 0, i, k, _, _ => by
    rw [mgf, List.filter_eq_self]
    intro e he
    exact hx e (List.mem_of_mem_drop he)
  | f + 1, i, k, hf, hi => by
    rw [mgf]
    cases hk : y[k]? with
    | none =>
      dsimp only
      rw [List.filter_eq_self]
      intro e he
      exact hx e (List.mem_of_mem_drop he)
    | some e =>
      have hkl := (List.getElem?_eq_some_iff.1 hk).1
      dsimp only
      split
      · rename_i hs
        have hil : i < x.length := by
          unfold stepB at hs
          split at hs
          · exact (of_decide_eq_true hs).2
          · cases hs
        rw [List.getElem?_eq_getElem hil]
        dsimp only
        rw [List.filter_cons, if_pos (hx _ (List.getElem_mem _)), mgf_filt p al x y hx hy f (i + 1) k (by omega) (by omega), List.drop_eq_getElem_cons hil]
      · rw [List.filter_cons, if_neg (by rw [hy e (List.mem_of_getElem? hk)]; simp), mgf_filt p al x y hx hy f i (k + 1) (by omega) hi]
theorem wE_to (c c2 : Cf) (es es2 : List En) (lv : Int) (al : List Int) : ((wE c c2 es es2 lv al).filter fun e => stTo c lv e.th) = es.filter fun e => stTo c lv e.th := by
  unfold wE
  split
  · unfold wvE mg
    rw [mgf_filt (fun e => stTo c lv e.th) _ _ _ (fun e he => (List.mem_filter.1 he).2) (fun e he => by
      have h : abB c e.th lv = true := (List.mem_filter.1 he).2
      show (!abB c e.th lv) = false
      rw [h]
      rfl) _ 0 0 (by omega) (by omega), List.drop_zero]
  · exact filt_twice (fun t h => h) es
theorem wP_to (c c2 : Cf) (ps ps2 : List (List CV)) (lv : Int) : psK (stTo c lv) (wP c c2 ps ps2 lv) 8 = psK (stTo c lv) ps 8 := by
  unfold wP
  split
  · apply List.ext_getElem?
    intro j
    by_cases hj : j < 8
    · rw [psK_get _ _ _ hj, psK_get _ _ _ hj]
      congr 1
      by_cases hs : stTo c lv (j : Int) = true
      · have hn : ¬ (stAb c lv (j : Int) = true) := by unfold stTo at hs; unfold stAb; simpa using hs
        rw [if_pos ⟨hj, hs⟩, if_pos ⟨hj, hs⟩, List.getD_eq_getElem?_getD, wvP, psW_get _ _ _ _ hj, if_neg (fun q => hn q.2), Option.getD_some, List.getD_eq_getElem?_getD, psK_get _ _ _ hj, if_pos ⟨hj, hs⟩]
        rfl
      · rw [if_neg (fun q => hs q.2), if_neg (fun q => hs q.2)]
    · rw [List.getElem?_eq_none (by rw [psK_len]; omega), List.getElem?_eq_none (by rw [psK_len]; omega)]
  · exact psK_twice (fun t h => h) ps
end Go.Proofs.Ytijffncgokcidaa
