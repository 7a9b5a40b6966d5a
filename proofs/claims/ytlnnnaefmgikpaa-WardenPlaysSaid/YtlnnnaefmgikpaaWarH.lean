/- A warden: what Take and Drop leave; the plain laws of levels. -/
import Derived.Test.YtlnnnaefmgikpaaWarG
namespace Go.Proofs.Ytlnnnaefmgikpaa
set_option linter.unusedVariables false
set_option linter.unusedSimpArgs false
open Go.RowKit

def takeB (s : St) (a b : Int) : Bool := inR s a b && !s.H a b
def dropB (s : St) (a b : Int) : Bool := inR s a b && s.H a b
def St.take (s : St) (a b : Int) : St := if takeB s a b = true then { s with H := upd s.H a b true } else { s with slips := s.slips + 1 }
def St.drop (s : St) (a b : Int) : St := if dropB s a b = true then { s with H := upd s.H a b false, G := upd s.G a b (s.G a b + 1) } else { s with slips := s.slips + 1 }
theorem take_any {w : World} {p bh bg N : Nat} {s : St} (h : WB w p bh bg N s) (hN : N ≤ 900000) (a b : Int) : Calls Try.prog 8 #[.pointer (some ⟨p, 0, none⟩), .int .i64 a, .int .i64 b] w fun e w' => e = .returned (.bool (takeB s a b)) ∧ WB w' p bh bg (N + 1) (s.take a b) ∧ Keeps (fun x => x = p ∨ x = bh ∨ x = bg) w w' := by
  unfold St.take takeB
  cases hir : inR s a b with
  | false => exact take_out h hN a b hir
  | true =>
    cases hH : s.H a b with
    | true => exact take_held h hN a b hir hH
    | false => exact take_free h hN a b hir hH
theorem drop_any {w : World} {p bh bg N : Nat} {s : St} (h : WB w p bh bg N s) (hN : N ≤ 900000) (a b : Int) : Calls Try.prog 9 #[.pointer (some ⟨p, 0, none⟩), .int .i64 a, .int .i64 b] w fun e w' => e = .returned (.bool (dropB s a b)) ∧ WB w' p bh bg (N + 1) (s.drop a b) ∧ Keeps (fun x => x = p ∨ x = bh ∨ x = bg) w w' := by
  unfold St.drop dropB
  cases hir : inR s a b with
  | false => exact drop_out h hN a b hir
  | true =>
    cases hH : s.H a b with
    | true => exact drop_held h hN a b hir hH
    | false => exact drop_free h hN a b hir hH
/-- What is the same at level a, of so many levels and slots. -/
structure SameAt (s s' : St) (a : Int) : Prop where
  lv : s'.lv = s.lv
  sl : s'.sl = s.sl
  H : ∀ y, s'.H a y = s.H a y
  G : ∀ y, s'.G a y = s.G a y
theorem take_dim (s : St) (a b : Int) : (s.take a b).lv = s.lv ∧ (s.take a b).sl = s.sl := by unfold St.take; split <;> exact ⟨rfl, rfl⟩
theorem drop_dim (s : St) (a b : Int) : (s.drop a b).lv = s.lv ∧ (s.drop a b).sl = s.sl := by unfold St.drop; split <;> exact ⟨rfl, rfl⟩
theorem take_other {s : St} {a x : Int} (h : x ≠ a) (b : Int) : SameAt s (s.take x b) a := by
  unfold St.take
  split
  · exact ⟨rfl, rfl, fun y => upd_other _ _ (fun q => h q.1.symm), fun y => rfl⟩
  · exact ⟨rfl, rfl, fun y => rfl, fun y => rfl⟩
theorem drop_other {s : St} {a x : Int} (h : x ≠ a) (b : Int) : SameAt s (s.drop x b) a := by
  unfold St.drop
  split
  · exact ⟨rfl, rfl, fun y => upd_other _ _ (fun q => h q.1.symm), fun y => upd_other _ _ (fun q => h q.1.symm)⟩
  · exact ⟨rfl, rfl, fun y => rfl, fun y => rfl⟩
theorem SameAt.inR {s s' : St} {a : Int} (h : SameAt s s' a) (b : Int) : inR s' a b = inR s a b := by unfold Proofs.Ytlnnnaefmgikpaa.inR; rw [h.lv, h.sl]
theorem SameAt.link {s s' : St} {a : Int} (h : SameAt s s' a) (b : Int) : linkV s' a b = linkV s a b := by unfold linkV; rw [h.inR, h.G]
theorem SameAt.leads {s s' : St} {a : Int} (h : SameAt s s' a) (n : Int) : leadsB s' a n = leadsB s a n := by unfold leadsB; rw [h.inR, h.H, h.link]
theorem SameAt.held {s s' : St} {a : Int} (h : SameAt s s' a) : heldN s' a = heldN s a := by
  unfold heldN
  exact cntM_same 60 (fun j _ _ => h.H (j : Int))
theorem lSlot_lmk {b g : Int} (h0 : 0 ≤ b) (h1 : b < 256) : ((lSlot (lmk b g) : Nat) : Int) = b := by
  unfold lSlot lmk Fld.u64
  omega
theorem lmk_plain {b g g' : Int} (h0 : 0 ≤ b) (h1 : b < 256) (hg : 0 ≤ g) (hg1 : g ≤ 1000000) (hg' : 0 ≤ g') (hg1' : g' ≤ 1000000) : lPlain (lmk b g) = lPlain (lmk b g') ↔ g = g' := by
  unfold lPlain lmk Fld.u64
  omega
theorem inR_b {s : St} {a b : Int} (h : inR s a b = true) (h60 : s.sl ≤ 60) : 0 ≤ b ∧ b < 256 := by
  have := of_decide_eq_true h
  omega
/-- A spot's own link leads there just if it is held. -/
theorem led_eq {s : St} (h60 : s.sl ≤ 60) (a b : Int) : leadsB s a (linkV s a b : Nat) = (inR s a b && s.H a b) := by
  unfold leadsB
  rw [Int.toNat_natCast]
  cases hi : inR s a b with
  | false =>
    have hl : linkV s a b = 0 := by unfold linkV; rw [hi]; rfl
    have h0 : inR s a ((lSlot (linkV s a b) : Nat) : Int) = false := by
      rw [hl]
      refine decide_eq_false fun q => ?_
      have := q.2.2.1
      simp [lSlot] at this
    rw [h0]
    rfl
  | true =>
    have hb := inR_b hi h60
    have hl : linkV s a b = lmk b (s.G a b) := by unfold linkV; rw [hi]; rfl
    rw [hl, lSlot_lmk hb.1 hb.2, hi, hl, decide_eq_true rfl, Bool.and_true]
/-- A link of the same spot, of another generation. -/
theorem led_old {s : St} (h60 : s.sl ≤ 60) {a b g : Int} (hi : inR s a b = true) (hg : 0 ≤ g) (hg1 : g ≤ 1000000) (hG : 0 ≤ s.G a b) (hG1 : s.G a b ≤ 1000000) : leadsB s a (lmk b g : Nat) = (s.H a b && decide (g = s.G a b)) := by
  have hb := inR_b hi h60
  have hl : linkV s a b = lmk b (s.G a b) := by unfold linkV; rw [hi]; rfl
  unfold leadsB
  rw [Int.toNat_natCast, lSlot_lmk hb.1 hb.2, hi, hl, Bool.true_and]
  congr 1
  rw [decide_eq_decide]
  exact lmk_plain hb.1 hb.2 hg hg1 hG hG1
theorem held_less {s s' : St} {a b : Int} (hi : inR s a b = true) (h60 : s.sl ≤ 60) (h1 : s.H a b = true) (h2 : s'.H a b = false) (ho : ∀ y, y ≠ b → s'.H a y = s.H a y) : heldN s' a + 1 = heldN s a := by
  obtain ⟨j, hj, hj1, hj2⟩ := inR_slot hi h60
  subst hj
  exact cntM_less (j0 := j) hj1 h1 h2 (fun i hi => ho (i : Int) (by omega)) 60 hj2
theorem heldN_le (s : St) (a : Int) : heldN s a ≤ 60 := cntM_le _ 60
end Go.Proofs.Ytlnnnaefmgikpaa
