/- Scripts, woven: the plain law. -/
import Derived.Test.YtijffncgokcidaaPurgeH
namespace Go.Proofs.Ytijffncgokcidaa
set_option linter.unusedVariables false
set_option linter.unusedSimpArgs false
open Go.RowKit

/-- Is the next entry one of x's, at place i, before the k-th of y's? -/
def stepB (al : List Int) (x : List En) (i k : Nat) : Bool := match al[k]? with
  | some a => decide ((i : Int) < a ∧ i < x.length)
  | none => false
theorem step_yes {al : List Int} {x : List En} {i k : Nat} {a : Int} (h : al[k]? = some a) (h1 : (i : Int) < a) (h2 : i < x.length) : stepB al x i k = true := by
  unfold stepB
  rw [h]
  exact decide_eq_true ⟨h1, h2⟩
theorem step_no {al : List Int} {x : List En} {i k : Nat} (h : ∀ a, al[k]? = some a → ¬ ((i : Int) < a ∧ i < x.length)) : stepB al x i k = false := by
  unfold stepB
  cases hk : al[k]? with
  | none => rfl
  | some a => exact decide_eq_false (h a hk)
/-- What is still to come, by so many steps. -/
def mgf (al : List Int) (x y : List En) : Nat → Nat → Nat → List En
  | 0, i, _ => x.drop i
  | f + 1, i, k => match y[k]? with
    | none => x.drop i
    | some e => if stepB al x i k = true then (match x[i]? with
        | some a => a :: mgf al x y f (i + 1) k
        | none => [])
      else e :: mgf al x y f i (k + 1)
def mg (al : List Int) (x y : List En) (i k : Nat) : List En := mgf al x y ((x.length - i) + (y.length - k)) i k
theorem mg_x {al : List Int} {x y : List En} {i k : Nat} {a : En} (hk : k < y.length) (hs : stepB al x i k = true) (ha : x[i]? = some a) : mg al x y i k = a :: mg al x y (i + 1) k := by
  have hi := (List.getElem?_eq_some_iff.1 ha).1
  unfold mg
  rw [show x.length - i + (y.length - k) = (x.length - (i + 1) + (y.length - k)) + 1 by omega, mgf, List.getElem?_eq_getElem hk]
  dsimp only
  rw [if_pos hs, ha]
theorem mg_y {al : List Int} {x y : List En} {i k : Nat} {e : En} (he : y[k]? = some e) (hs : stepB al x i k = false) : mg al x y i k = e :: mg al x y i (k + 1) := by
  have hk := (List.getElem?_eq_some_iff.1 he).1
  unfold mg
  rw [show x.length - i + (y.length - k) = (x.length - i + (y.length - (k + 1))) + 1 by omega, mgf, he]
  dsimp only
  rw [if_neg (by simp [hs])]
theorem mg_end {al : List Int} {x y : List En} {i k : Nat} (hk : y.length ≤ k) : mg al x y i k = x.drop i := by
  unfold mg
  cases hf : x.length - i + (y.length - k) with
  | zero => rfl
  | succ f =>
    rw [mgf, List.getElem?_eq_none hk]
/-- The programs of what is woven. -/
def psW (st : Int → Bool) (P Q : List (List CV)) (k : Nat) : List (List CV) := (List.range 8).map fun (j : Nat) => if j < k ∧ st (j : Int) = true then Q.getD j [] else P.getD j []
theorem psW_get (st : Int → Bool) (P Q : List (List CV)) (k : Nat) {j : Nat} (hj : j < 8) : (psW st P Q k)[j]? = some (if j < k ∧ st (j : Int) = true then Q.getD j [] else P.getD j []) := by
  unfold psW
  rw [List.getElem?_map, List.getElem?_range hj]
  rfl
theorem psW_len (st : Int → Bool) (P Q : List (List CV)) (k : Nat) : (psW st P Q k).length = 8 := by simp [psW]
theorem psW_zero (st : Int → Bool) (P Q : List (List CV)) (h : P.length = 8) : psW st P Q 0 = P := by
  apply List.ext_getElem?
  intro j
  by_cases hj : j < 8
  · rw [psW_get _ _ _ _ hj, if_neg (by omega), List.getD_eq_getElem?_getD, List.getElem?_eq_getElem (by omega)]
    rfl
  · rw [List.getElem?_eq_none (by rw [psW_len]; omega), List.getElem?_eq_none (by omega)]
theorem psW_no (st : Int → Bool) (P Q : List (List CV)) (k : Nat) (h : st (k : Int) = false) : psW st P Q (k + 1) = psW st P Q k := by
  unfold psW
  congr 1
  funext j
  by_cases hj : j = k
  · subst hj
    simp [h]
  · have : j < k + 1 ↔ j < k := by omega
    simp [this]
theorem PIn.putW {S : Nat → Prop} {w : World} {us : List Value} {st : Int → Bool} {P Q : List (List CV)} {k : Nat} (h : PIn S w us (psW st P Q k)) (hk : k < 8) (hst : st (k : Int) = true) {A : Option Addr} {n c : Nat} (hs : Sl cvc w A n c (Q.getD k [])) (hA : ∀ ad, A = some ad → Q.getD k [] ≠ [] → ¬ S ad.block) : PIn S w (us.set k (Value.slice A n c)) (psW st P Q (k + 1)) :=
  ⟨by rw [List.length_set]; exact h.u8, psW_len _ _ _ _, fun j l hl => by
    have hj : j < 8 := by have := (List.getElem?_eq_some_iff.1 hl).1; rwa [psW_len] at this
    rw [psW_get _ _ _ _ hj] at hl
    by_cases hjk : j = k
    · subst hjk
      rw [if_pos ⟨by omega, hst⟩] at hl
      cases hl
      exact ⟨A, n, c, by rw [List.getElem?_set_self (by rw [h.u8]; exact hj)], hs, fun ad e hne => hA ad e hne⟩
    · have : (psW st P Q k)[j]? = some l := by
        rw [psW_get _ _ _ _ hj, ← hl]
        have : j < k + 1 ↔ j < k := by omega
        simp [this]
      obtain ⟨A', n', c', h1, h2, h3⟩ := h.at_ j l this
      exact ⟨A', n', c', by rw [List.getElem?_set_ne (fun e => hjk e.symm)]; exact h1, h2, h3⟩⟩
/-- The entries of what is woven; its programs. -/
def wvE (c : Cf) (es es2 : List En) (lv : Int) (al : List Int) : List En := mg al (es.filter fun e => stTo c lv e.th) (es2.filter fun e => stAb c lv e.th) 0 0
def wvP (c : Cf) (ps ps2 : List (List CV)) (lv : Int) : List (List CV) := psW (stAb c lv) (psK (stTo c lv) ps 8) (psK (stAb c lv) ps2 8) 8
end Go.Proofs.Ytijffncgokcidaa
