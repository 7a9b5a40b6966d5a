/- The plain law of words as numbers. -/
import Derived.Test.YtjjgngccgjpnaaaGreatDoorTxtB
namespace Go.Proofs.YtjjgngccgjpnaaaGreatDoor
set_option linter.unusedVariables false
set_option linter.unusedSimpArgs false
open Go.RowKit

def dig (c : UInt8) : Bool := decide (48 ≤ c.toNat ∧ c.toNat ≤ 57)
/-- The document's loop. -/
def rB : Nat → List UInt8 → Option Nat
  | acc, [] => some acc
  | acc, c :: r => if dig c = false then none else if (18446744073709551615 - (c.toNat - 48)) / 10 < acc then none else rB (10 * acc + (c.toNat - 48)) r
def refU (l : List UInt8) : Option Nat := if l = [] ∨ 20 < l.length ∨ (l.head? = some 48 ∧ 1 < l.length) then none else rB 0 l
def okU : Lib.NumEnd Nat → Option Nat
  | .ok u => some u
  | _ => none
theorem rB_eq : ∀ (l : List UInt8) (acc : Nat), rB acc l = okU (Lib.parseUintM 18446744073709551615 acc l)
  | [], acc => rfl
  | c :: r, acc => by
    rw [rB, Lib.parseUintM]
    by_cases hd : 48 ≤ c.toNat ∧ c.toNat ≤ 57
    · rw [if_neg (by rw [dig, decide_eq_true hd]; decide), if_pos hd]
      by_cases h1 : 1844674407370955162 ≤ acc
      · rw [if_pos h1, if_pos (by omega)]; rfl
      · rw [if_neg h1]
        by_cases h2 : 18446744073709551615 < acc * 10 + (c.toNat - 48)
        · rw [if_pos h2, if_pos (by omega)]; rfl
        · rw [if_neg h2, if_neg (by omega), rB_eq r, Nat.mul_comm 10 acc]
    · rw [if_pos (by rw [dig, decide_eq_false hd]), if_neg hd]; rfl
def val (acc : Nat) (l : List UInt8) : Nat := l.foldl (fun a c => a * 10 + (c.toNat - 48)) acc
theorem parse_val : ∀ (l : List UInt8) (acc u : Nat), Lib.parseUintM 18446744073709551615 acc l = .ok u → u = val acc l ∧ ∀ c, c ∈ l → 48 ≤ c.toNat ∧ c.toNat ≤ 57
  | [], acc, u, h => by injection h with h; exact ⟨h.symm, fun c hc => by cases hc⟩
  | c :: r, acc, u, h => by
    rw [Lib.parseUintM] at h
    by_cases hd : 48 ≤ c.toNat ∧ c.toNat ≤ 57
    · rw [if_pos hd] at h
      by_cases h1 : 1844674407370955162 ≤ acc
      · rw [if_pos h1] at h; cases h
      · rw [if_neg h1] at h
        by_cases h2 : 18446744073709551615 < acc * 10 + (c.toNat - 48)
        · rw [if_pos h2] at h; cases h
        · rw [if_neg h2] at h
          have := parse_val r _ _ h
          refine ⟨this.1, fun x hx => ?_⟩
          rcases List.mem_cons.1 hx with rfl | hx
          · exact hd
          · exact this.2 x hx
    · rw [if_neg hd] at h; cases h
theorem dig_back {c : UInt8} (h : 48 ≤ c.toNat ∧ c.toNat ≤ 57) : UInt8.ofNat (48 + (c.toNat - 48)) = c := by
  rw [show 48 + (c.toNat - 48) = c.toNat by omega]
  simp
theorem val_snoc (acc : Nat) (l : List UInt8) (c : UInt8) : val acc (l ++ [c]) = val acc l * 10 + (c.toNat - 48) := by simp [val]
theorem val_ge (l : List UInt8) : ∀ acc : Nat, acc ≤ val acc l := by
  induction l with
  | nil => intro acc; exact Nat.le_refl _
  | cons c r ih => intro acc; exact Nat.le_trans (by omega) (ih (acc * 10 + (c.toNat - 48)))
theorem val_pos {c : UInt8} {r : List UInt8} (h : 48 < c.toNat) : 1 ≤ val 0 (c :: r) := by
  have h1 : val 0 (c :: r) = val (0 * 10 + (c.toNat - 48)) r := rfl
  have := val_ge r (0 * 10 + (c.toNat - 48))
  omega
theorem dec_val : ∀ (n : Nat) (l : List UInt8), l.length = n → l ≠ [] → (∀ c, c ∈ l → 48 ≤ c.toNat ∧ c.toNat ≤ 57) → ¬ (l.head? = some 48 ∧ 1 < l.length) → Lib.decDigits (val 0 l) = l
  | 0, l, hn, h0, _, _ => absurd (List.length_eq_zero_iff.1 hn) h0
  | n + 1, l, hn, h0, hd, hz => by
    obtain ⟨r, c, rfl⟩ : ∃ r c, l = r ++ [c] := ⟨l.dropLast, l.getLast h0, (List.dropLast_concat_getLast h0).symm⟩
    have hc := hd c (by simp)
    rw [val_snoc, Lib.decDigits]
    have hr : r.length = n := by simpa using hn
    by_cases hr0 : r = []
    · subst hr0
      rw [dif_pos (by simp [val]; omega)]
      have : val 0 [] * 10 + (c.toNat - 48) = c.toNat - 48 := by simp [val]
      rw [this, dig_back hc]
      rfl
    · obtain ⟨a, t, rfl⟩ := List.exists_cons_of_ne_nil hr0
      have ha : 48 < a.toNat := by
        have h1 := hd a (by simp)
        have h2 : a ≠ 48 := fun e => hz ⟨by simp [e], by simp⟩
        have h3 : a.toNat ≠ 48 := fun e => h2 (UInt8.toNat_inj.1 e)
        omega
      have hv := val_pos (r := t) ha
      have ih := dec_val n (a :: t) hr (by simp) (fun x hx => hd x (by rcases List.mem_cons.1 hx with q | q <;> simp [q])) (fun q => by
        have h2 : a = 48 := by simpa using q.1
        subst h2
        exact absurd ha (by decide))
      rw [dif_neg (by omega), show (val 0 (a :: t) * 10 + (c.toNat - 48)) / 10 = val 0 (a :: t) by omega, show (val 0 (a :: t) * 10 + (c.toNat - 48)) % 10 = c.toNat - 48 by omega, ih, dig_back hc]
theorem dec_digit {u : Nat} {c : UInt8} (hc : c ∈ Lib.decDigits u) : 48 ≤ c.toNat ∧ c.toNat ≤ 57 := by
  rw [Lib.decDigits_eq] at hc
  obtain ⟨t, _, rfl⟩ := List.mem_map.1 hc
  unfold Lib.dg
  rw [UInt8.toNat_ofNat']
  omega
theorem dec_head : ∀ (n u : Nat), u ≤ n → 1 ≤ u → (Lib.decDigits u).head? ≠ some 48
  | 0, u, h, h1 => by omega
  | n + 1, u, h, h1 => by
    rw [Lib.decDigits]
    by_cases h10 : u < 10
    · rw [dif_pos h10]
      intro q
      have : UInt8.ofNat (48 + u) = 48 := by simpa using q
      have h2 := congrArg UInt8.toNat this
      rw [UInt8.toNat_ofNat'] at h2
      have h3 : (48 : UInt8).toNat = 48 := rfl
      omega
    · rw [dif_neg h10]
      have ih := dec_head n (u / 10) (by omega) (by omega)
      intro q
      cases hd : Lib.decDigits (u / 10) with
      | nil =>
        have := Lib.decDigits_length (u / 10)
        rw [hd] at this
        rw [Lib.nDigits] at this
        split at this <;> simp at this
      | cons a t =>
        rw [hd] at q ih
        exact ih (by simpa using q)
theorem numU_ref (l : List UInt8) : numU l = refU l := by
  unfold numU refU Lib.parseUintB
  by_cases h0 : l = []
  · subst h0
    rfl
  rw [if_neg h0, show 2 ^ 64 - 1 = 18446744073709551615 by decide, rB_eq]
  rcases hp : Lib.parseUintM 18446744073709551615 0 l with u | _ | _
  rotate_left
  · simp [okU]
  · simp [okU]
  ·
    obtain ⟨hu, hd⟩ := parse_val l 0 u hp
    have hle := Lib.parseUintM_le 18446744073709551615 l 0 u (Nat.zero_le _) hp
    by_cases hz : l.head? = some 48 ∧ 1 < l.length
    · rw [if_pos (.inr (.inr hz))]
      simp only [okU]
      rw [if_neg]
      intro q
      rcases Nat.eq_zero_or_pos u with rfl | hpos
      · rw [Lib.decDigits_one (by decide)] at q
        rw [← q] at hz
        simp at hz
      · exact dec_head u u (Nat.le_refl _) hpos (by rw [q]; exact hz.1)
    · have hdec : Lib.decDigits u = l := by rw [hu]; exact dec_val l.length l rfl h0 hd hz
      have hlen : l.length ≤ 20 := by
        rw [← hdec, Lib.decDigits_length]
        rcases Nat.eq_zero_or_pos u with rfl | hpos
        · rw [Lib.nDigits_small (by decide)]; decide
        · have := Lib.numDigits_eq u hpos (by omega)
          split at this <;> omega
      simp only [okU, hdec, if_pos]
      rw [if_neg (by rintro (q | q | q); exact h0 q; omega; exact hz q)]
def refI (l : List UInt8) : Option Int := if l.head? = some 45 then (match refU (l.drop 1) with
    | none => none
    | some n => if n = 0 ∨ 9223372036854775808 < n then none else some (-(n : Int)))
  else match refU l with
    | none => none
    | some n => if 9223372036854775807 < n then none else some (n : Int)
theorem numI_ref (l : List UInt8) : numI l = refI l := by
  have hU : ∀ l, refU l = numU l := fun l => (numU_ref l).symm
  have e63 : (2 : Nat) ^ (64 - 1) = 9223372036854775808 := by decide
  unfold numI refI Lib.parseIntB
  cases l with
  | nil => rfl
  | cons c r =>
    simp only [List.head?_cons, List.drop_succ_cons, List.drop_zero, Option.some.injEq, hU, e63]
    by_cases h45 : c = 45
    · subst h45
      have t45 : ((45 : UInt8).toNat = 45) := rfl
      have hor : ((45 : UInt8).toNat = 43 ∨ (45 : UInt8).toNat = 45) := .inr rfl
      rw [if_pos rfl, if_pos hor]
      unfold numU
      rcases hp : Lib.parseUintB 64 r with u | _ | _
      rotate_left
      · rfl
      · rfl
      ·
        simp only [t45, not_true_eq_false, false_and, if_false, true_and, if_true]
        by_cases hd : Lib.decDigits u = r
        · simp only [hd, if_true]
          by_cases hb : 9223372036854775808 < u
          · rw [if_pos hb, if_pos (.inr hb)]
          · rw [if_neg hb]
            by_cases h0 : u = 0
            · subst h0
              rw [if_pos (.inl rfl)]
              simp only
              rw [if_neg]
              intro q
              have : Lib.itoa (-((0 : Nat) : Int)) = Lib.decDigits 0 := rfl
              rw [this, Lib.decDigits_one (by decide)] at q
              simp at q
            · rw [if_neg (by omega)]
              simp only
              rw [if_pos (by rw [Lib.itoa_neg u (by omega), hd])]
        · simp only [hd, if_false]
          by_cases hb : 9223372036854775808 < u
          · rw [if_pos hb]
          · rw [if_neg hb]
            simp only
            rw [if_neg]
            intro q
            rcases Nat.eq_zero_or_pos u with rfl | hpos
            · have : Lib.itoa (-((0 : Nat) : Int)) = Lib.decDigits 0 := rfl
              rw [this, Lib.decDigits_one (by decide)] at q
              simp at q
            · rw [Lib.itoa_neg u hpos] at q
              exact hd (by simpa using q)
    · have n45 : ¬ c.toNat = 45 := fun e => h45 (UInt8.toNat_inj.1 e)
      rw [if_neg h45]
      by_cases h43 : c.toNat = 43
      · rw [if_pos (.inl h43)]
        have hbad : ∀ v, Lib.parseUintB 64 (c :: r) ≠ .ok v := fun v q => by
          unfold Lib.parseUintB at q
          rw [if_neg (by simp), Lib.parseUintM, if_neg (by omega)] at q
          cases q
        have hnone : numU (c :: r) = none := by
          unfold numU
          rcases hS : Lib.parseUintB 64 (c :: r) with v | _ | _
          · exact absurd hS (hbad v)
          · rfl
          · rfl
        rw [hnone]
        rcases hp : Lib.parseUintB 64 r with u | _ | _
        rotate_left
        · rfl
        · rfl
        ·
          simp only [n45, not_false_eq_true, true_and, false_and, if_false]
          by_cases hb : 9223372036854775808 ≤ u
          · rw [if_pos hb]
          · rw [if_neg hb]
            simp only
            rw [if_neg]
            intro q
            rw [Lib.itoa_nonneg] at q
            have := dec_digit (u := u) (c := c) (by rw [q]; simp)
            omega
      · rw [if_neg (by omega)]
        unfold numU
        rcases hp : Lib.parseUintB 64 (c :: r) with u | _ | _
        rotate_left
        · rfl
        · rfl
        ·
          simp only [n45, not_false_eq_true, true_and, false_and, if_false]
          by_cases hb : 9223372036854775808 ≤ u
          · rw [if_pos hb]
            simp only
            by_cases hd : Lib.decDigits u = c :: r
            · rw [if_pos hd]; simp only; rw [if_pos (by omega)]
            · rw [if_neg hd]
          · rw [if_neg hb]
            simp only
            rw [Lib.itoa_nonneg]
            by_cases hd : Lib.decDigits u = c :: r
            · rw [if_pos hd, if_pos hd]; simp only; rw [if_neg (by omega)]
            · rw [if_neg hd, if_neg hd]
end Go.Proofs.YtjjgngccgjpnaaaGreatDoor
