/- The law HandleBack, for every input. -/
import Derived.Test.YtmjihjbedgbhbaaHandleD
import Derived.Test.YtmjihjbedgbhbaaHandleE0
import Derived.Test.YtmjihjbedgbhbaaHandleE1
import Derived.Test.YtmjihjbedgbhbaaHandleE2
import Derived.Test.YtmjihjbedgbhbaaHandleE3
import Derived.Test.YtmjihjbedgbhbaaHandleE4
import Derived.Test.YtmjihjbedgbhbaaHandleE5
namespace Go.Proofs.Ytmjihjbedgbhbaa
set_option linter.unusedVariables false
set_option linter.unusedSimpArgs false
open Go.RowKit

theorem u64_small {n : Int} (h0 : 0 ≤ n) (h1 : n < 18446744073709551616) : ((Fld.u64 n : Nat) : Int) = n := by unfold Fld.u64; omega

theorem kind_cell (s g l : Int) : hKind ((hCell s g l : Nat) : Int) = 2 := by
  unfold hKind hCell
  rw [if_neg (by omega), if_neg (by omega)]
theorem kind_hold (t : Int) : hKind ((hHold t : Nat) : Int) = 1 := by
  unfold hKind hHold
  rw [if_neg (by omega), if_pos (by omega)]
theorem what_hold (t : Int) : hwA ((hHold t : Nat) : Int) = 0 ∧ hwG ((hHold t : Nat) : Int) = 0 ∧ hwL ((hHold t : Nat) : Int) = 0 := by
  unfold hwA hwG hwL
  rw [kind_hold]
  exact ⟨rfl, rfl, rfl⟩
theorem what_cell {s g l : Int} (hl : 0 ≤ l) (x0 : ¬ s < 0) (x1 : ¬ 255 < s) (x2 : ¬ g < 0) (x3 : ¬ 16777215 < g) (x4 : ¬ 1073741823 < l) :
    hwA ((hCell s g l : Nat) : Int) = s ∧ hwG ((hCell s g l : Nat) : Int) = g ∧ hwL ((hCell s g l : Nat) : Int) = l := by
  unfold hwA hwG hwL
  rw [kind_cell]
  simp only [if_true]
  have e1 := u64_small (n := s) (by omega) (by omega)
  have e2 := u64_small (n := g) (by omega) (by omega)
  unfold hCell
  omega

theorem back_any (a b d s g l t : Int) (hl : U64 l) (w : World) :
    Calls Try.prog 15 #[.agg #[.int .i64 a, .int .i64 b, .int .i64 d], .agg #[.int .i64 s, .int .i64 g, .int .u64 l], .int .i64 t] w fun e w' => e = .returned (.bool true) ∧ Below w.heap.size w w' := by
  have hl0 : 0 ≤ l := hl.1
  have ccell := cell_any s g l hl
  have ckC := kind_any _ (U64.nat (hCell_lt s g l))
  rw [kind_cell] at ckC
  have cwC := what_any _ (U64.nat (hCell_lt s g l))
  have chold := hold_any t
  have ckO := kind_any _ (U64.nat (hHold_lt t))
  rw [kind_hold] at ckO
  have cwO := what_any _ (U64.nat (hHold_lt t))
  rw [(what_hold t).1, (what_hold t).2.1, (what_hold t).2.2] at cwO
  have ck0 : ∀ w : World, Calls Try.prog 65 #[.int .u64 0] w fun e w' => e = .returned (.int .i64 0) ∧ w = w' := kind_any 0 ⟨by decide, by decide⟩
  have cold := fun (m : Int) (hm : U64 m) => old_any l m hl hm
  have cmake := hmake_any a b d
  have cparts := parts_any _ (U64.nat (hk_lt a b d))
  have chead := head_any d a
  have cstate := state_any _ (U64.nat (hdk_lt d a))
  by_cases x0 : s < 0
  · by_cases y0 : 0 ≤ a
    · by_cases y1 : a < 16
      · by_cases y2 : 0 < b
        · by_cases y3 : b < 256
          · by_cases y4 : 0 ≤ d
            · by_cases y5 : d < 4294967296
              · have e1 := u64_small (n := a) (by omega) (by omega)
                have e2 := u64_small (n := b) (by omega) (by omega)
                have e3 := u64_small (n := d) (by omega) (by omega)
                have cparts' : ∀ w : World, Calls Try.prog 29 #[.int .u64 (hk a b d : Nat)] w fun e w' => e = .returned (.tuple #[.int .i64 a, .int .i64 b, .int .i64 d, .bool true]) ∧ w = w' := by
                  have h1 : hparts (((hk a b d : Nat) : Int)).toNat = .tuple #[.int .i64 a, .int .i64 b, .int .i64 d, .bool true] := by
                    unfold hparts
                    have g1 : ((hAt (((hk a b d : Nat) : Int)).toNat : Nat) : Int) = a := by unfold hAt hk; omega
                    have g2 : ((hSlot (((hk a b d : Nat) : Int)).toNat : Nat) : Int) = b := by unfold hSlot hk; omega
                    have g3 : ((hGen (((hk a b d : Nat) : Int)).toNat : Nat) : Int) = d := by unfold hGen hk; omega
                    have g4 : hright (((hk a b d : Nat) : Int)).toNat = true := by unfold hright hk; rw [decide_eq_true_eq]; omega
                    rw [g1, g2, g3, g4]
                  rw [h1] at cparts
                  exact cparts
                have hr1 : a % 4 = a % 4 := rfl
                have hr2 : a.tmod 4 = a % 4 := Int.tmod_eq_emod_of_nonneg (by omega)
                have cstate' : ∀ w : World, Calls Try.prog 24 #[.int .u64 (hdk d a : Nat)] w fun e w' => e = .returned (.tuple #[.int .i64 d, .int .i64 (a % 4)]) ∧ w = w' := by
                  have g1 : ((stGen (((hdk d a : Nat) : Int)).toNat : Nat) : Int) = d := by unfold stGen hdk; omega
                  have g2 : ((stState (((hdk d a : Nat) : Int)).toNat : Nat) : Int) = a % 4 := by unfold stState hdk; omega
                  rw [g1, g2] at cstate
                  exact cstate
                exact back_0_6 (f := hOld l) (t := t) y0 y1 y2 y3 y4 y5 x0 hl0 cmake cparts' chead cstate' ccell ckC chold ckO cwO ck0 lives03 hr1 hr2 w
              · exact back_0_5 (f := hOld l) (t := t) (M := 0) (D := 0) (r := 0) y0 y1 y2 y3 y4 y5 x0 hl0 ccell ckC chold ckO cwO ck0 lives03 w
            · exact back_0_4 (f := hOld l) (t := t) (M := 0) (D := 0) (r := 0) y0 y1 y2 y3 y4 x0 hl0 ccell ckC chold ckO cwO ck0 lives03 w
          · exact back_0_3 (f := hOld l) (t := t) (M := 0) (D := 0) (r := 0) y0 y1 y2 y3 x0 hl0 ccell ckC chold ckO cwO ck0 lives03 w
        · exact back_0_2 (f := hOld l) (t := t) (M := 0) (D := 0) (r := 0) y0 y1 y2 x0 hl0 ccell ckC chold ckO cwO ck0 lives03 w
      · exact back_0_1 (f := hOld l) (t := t) (M := 0) (D := 0) (r := 0) y0 y1 x0 hl0 ccell ckC chold ckO cwO ck0 lives03 w
    · exact back_0_0 (f := hOld l) (t := t) (M := 0) (D := 0) (r := 0) y0 x0 hl0 ccell ckC chold ckO cwO ck0 lives03 w
  · by_cases x1 : 255 < s
    · by_cases y0 : 0 ≤ a
      · by_cases y1 : a < 16
        · by_cases y2 : 0 < b
          · by_cases y3 : b < 256
            · by_cases y4 : 0 ≤ d
              · by_cases y5 : d < 4294967296
                · have e1 := u64_small (n := a) (by omega) (by omega)
                  have e2 := u64_small (n := b) (by omega) (by omega)
                  have e3 := u64_small (n := d) (by omega) (by omega)
                  have cparts' : ∀ w : World, Calls Try.prog 29 #[.int .u64 (hk a b d : Nat)] w fun e w' => e = .returned (.tuple #[.int .i64 a, .int .i64 b, .int .i64 d, .bool true]) ∧ w = w' := by
                    have h1 : hparts (((hk a b d : Nat) : Int)).toNat = .tuple #[.int .i64 a, .int .i64 b, .int .i64 d, .bool true] := by
                      unfold hparts
                      have g1 : ((hAt (((hk a b d : Nat) : Int)).toNat : Nat) : Int) = a := by unfold hAt hk; omega
                      have g2 : ((hSlot (((hk a b d : Nat) : Int)).toNat : Nat) : Int) = b := by unfold hSlot hk; omega
                      have g3 : ((hGen (((hk a b d : Nat) : Int)).toNat : Nat) : Int) = d := by unfold hGen hk; omega
                      have g4 : hright (((hk a b d : Nat) : Int)).toNat = true := by unfold hright hk; rw [decide_eq_true_eq]; omega
                      rw [g1, g2, g3, g4]
                    rw [h1] at cparts
                    exact cparts
                  have hr1 : a % 4 = a % 4 := rfl
                  have hr2 : a.tmod 4 = a % 4 := Int.tmod_eq_emod_of_nonneg (by omega)
                  have cstate' : ∀ w : World, Calls Try.prog 24 #[.int .u64 (hdk d a : Nat)] w fun e w' => e = .returned (.tuple #[.int .i64 d, .int .i64 (a % 4)]) ∧ w = w' := by
                    have g1 : ((stGen (((hdk d a : Nat) : Int)).toNat : Nat) : Int) = d := by unfold stGen hdk; omega
                    have g2 : ((stState (((hdk d a : Nat) : Int)).toNat : Nat) : Int) = a % 4 := by unfold stState hdk; omega
                    rw [g1, g2] at cstate
                    exact cstate
                  exact back_1_6 (f := hOld l) (t := t) y0 y1 y2 y3 y4 y5 x0 x1 hl0 cmake cparts' chead cstate' ccell ckC chold ckO cwO ck0 lives03 hr1 hr2 w
                · exact back_1_5 (f := hOld l) (t := t) (M := 0) (D := 0) (r := 0) y0 y1 y2 y3 y4 y5 x0 x1 hl0 ccell ckC chold ckO cwO ck0 lives03 w
              · exact back_1_4 (f := hOld l) (t := t) (M := 0) (D := 0) (r := 0) y0 y1 y2 y3 y4 x0 x1 hl0 ccell ckC chold ckO cwO ck0 lives03 w
            · exact back_1_3 (f := hOld l) (t := t) (M := 0) (D := 0) (r := 0) y0 y1 y2 y3 x0 x1 hl0 ccell ckC chold ckO cwO ck0 lives03 w
          · exact back_1_2 (f := hOld l) (t := t) (M := 0) (D := 0) (r := 0) y0 y1 y2 x0 x1 hl0 ccell ckC chold ckO cwO ck0 lives03 w
        · exact back_1_1 (f := hOld l) (t := t) (M := 0) (D := 0) (r := 0) y0 y1 x0 x1 hl0 ccell ckC chold ckO cwO ck0 lives03 w
      · exact back_1_0 (f := hOld l) (t := t) (M := 0) (D := 0) (r := 0) y0 x0 x1 hl0 ccell ckC chold ckO cwO ck0 lives03 w
    · by_cases x2 : g < 0
      · by_cases y0 : 0 ≤ a
        · by_cases y1 : a < 16
          · by_cases y2 : 0 < b
            · by_cases y3 : b < 256
              · by_cases y4 : 0 ≤ d
                · by_cases y5 : d < 4294967296
                  · have e1 := u64_small (n := a) (by omega) (by omega)
                    have e2 := u64_small (n := b) (by omega) (by omega)
                    have e3 := u64_small (n := d) (by omega) (by omega)
                    have cparts' : ∀ w : World, Calls Try.prog 29 #[.int .u64 (hk a b d : Nat)] w fun e w' => e = .returned (.tuple #[.int .i64 a, .int .i64 b, .int .i64 d, .bool true]) ∧ w = w' := by
                      have h1 : hparts (((hk a b d : Nat) : Int)).toNat = .tuple #[.int .i64 a, .int .i64 b, .int .i64 d, .bool true] := by
                        unfold hparts
                        have g1 : ((hAt (((hk a b d : Nat) : Int)).toNat : Nat) : Int) = a := by unfold hAt hk; omega
                        have g2 : ((hSlot (((hk a b d : Nat) : Int)).toNat : Nat) : Int) = b := by unfold hSlot hk; omega
                        have g3 : ((hGen (((hk a b d : Nat) : Int)).toNat : Nat) : Int) = d := by unfold hGen hk; omega
                        have g4 : hright (((hk a b d : Nat) : Int)).toNat = true := by unfold hright hk; rw [decide_eq_true_eq]; omega
                        rw [g1, g2, g3, g4]
                      rw [h1] at cparts
                      exact cparts
                    have hr1 : a % 4 = a % 4 := rfl
                    have hr2 : a.tmod 4 = a % 4 := Int.tmod_eq_emod_of_nonneg (by omega)
                    have cstate' : ∀ w : World, Calls Try.prog 24 #[.int .u64 (hdk d a : Nat)] w fun e w' => e = .returned (.tuple #[.int .i64 d, .int .i64 (a % 4)]) ∧ w = w' := by
                      have g1 : ((stGen (((hdk d a : Nat) : Int)).toNat : Nat) : Int) = d := by unfold stGen hdk; omega
                      have g2 : ((stState (((hdk d a : Nat) : Int)).toNat : Nat) : Int) = a % 4 := by unfold stState hdk; omega
                      rw [g1, g2] at cstate
                      exact cstate
                    exact back_2_6 (f := hOld l) (t := t) y0 y1 y2 y3 y4 y5 x0 x1 x2 hl0 cmake cparts' chead cstate' ccell ckC chold ckO cwO ck0 lives03 hr1 hr2 w
                  · exact back_2_5 (f := hOld l) (t := t) (M := 0) (D := 0) (r := 0) y0 y1 y2 y3 y4 y5 x0 x1 x2 hl0 ccell ckC chold ckO cwO ck0 lives03 w
                · exact back_2_4 (f := hOld l) (t := t) (M := 0) (D := 0) (r := 0) y0 y1 y2 y3 y4 x0 x1 x2 hl0 ccell ckC chold ckO cwO ck0 lives03 w
              · exact back_2_3 (f := hOld l) (t := t) (M := 0) (D := 0) (r := 0) y0 y1 y2 y3 x0 x1 x2 hl0 ccell ckC chold ckO cwO ck0 lives03 w
            · exact back_2_2 (f := hOld l) (t := t) (M := 0) (D := 0) (r := 0) y0 y1 y2 x0 x1 x2 hl0 ccell ckC chold ckO cwO ck0 lives03 w
          · exact back_2_1 (f := hOld l) (t := t) (M := 0) (D := 0) (r := 0) y0 y1 x0 x1 x2 hl0 ccell ckC chold ckO cwO ck0 lives03 w
        · exact back_2_0 (f := hOld l) (t := t) (M := 0) (D := 0) (r := 0) y0 x0 x1 x2 hl0 ccell ckC chold ckO cwO ck0 lives03 w
      · by_cases x3 : 16777215 < g
        · by_cases y0 : 0 ≤ a
          · by_cases y1 : a < 16
            · by_cases y2 : 0 < b
              · by_cases y3 : b < 256
                · by_cases y4 : 0 ≤ d
                  · by_cases y5 : d < 4294967296
                    · have e1 := u64_small (n := a) (by omega) (by omega)
                      have e2 := u64_small (n := b) (by omega) (by omega)
                      have e3 := u64_small (n := d) (by omega) (by omega)
                      have cparts' : ∀ w : World, Calls Try.prog 29 #[.int .u64 (hk a b d : Nat)] w fun e w' => e = .returned (.tuple #[.int .i64 a, .int .i64 b, .int .i64 d, .bool true]) ∧ w = w' := by
                        have h1 : hparts (((hk a b d : Nat) : Int)).toNat = .tuple #[.int .i64 a, .int .i64 b, .int .i64 d, .bool true] := by
                          unfold hparts
                          have g1 : ((hAt (((hk a b d : Nat) : Int)).toNat : Nat) : Int) = a := by unfold hAt hk; omega
                          have g2 : ((hSlot (((hk a b d : Nat) : Int)).toNat : Nat) : Int) = b := by unfold hSlot hk; omega
                          have g3 : ((hGen (((hk a b d : Nat) : Int)).toNat : Nat) : Int) = d := by unfold hGen hk; omega
                          have g4 : hright (((hk a b d : Nat) : Int)).toNat = true := by unfold hright hk; rw [decide_eq_true_eq]; omega
                          rw [g1, g2, g3, g4]
                        rw [h1] at cparts
                        exact cparts
                      have hr1 : a % 4 = a % 4 := rfl
                      have hr2 : a.tmod 4 = a % 4 := Int.tmod_eq_emod_of_nonneg (by omega)
                      have cstate' : ∀ w : World, Calls Try.prog 24 #[.int .u64 (hdk d a : Nat)] w fun e w' => e = .returned (.tuple #[.int .i64 d, .int .i64 (a % 4)]) ∧ w = w' := by
                        have g1 : ((stGen (((hdk d a : Nat) : Int)).toNat : Nat) : Int) = d := by unfold stGen hdk; omega
                        have g2 : ((stState (((hdk d a : Nat) : Int)).toNat : Nat) : Int) = a % 4 := by unfold stState hdk; omega
                        rw [g1, g2] at cstate
                        exact cstate
                      exact back_3_6 (f := hOld l) (t := t) y0 y1 y2 y3 y4 y5 x0 x1 x2 x3 hl0 cmake cparts' chead cstate' ccell ckC chold ckO cwO ck0 lives03 hr1 hr2 w
                    · exact back_3_5 (f := hOld l) (t := t) (M := 0) (D := 0) (r := 0) y0 y1 y2 y3 y4 y5 x0 x1 x2 x3 hl0 ccell ckC chold ckO cwO ck0 lives03 w
                  · exact back_3_4 (f := hOld l) (t := t) (M := 0) (D := 0) (r := 0) y0 y1 y2 y3 y4 x0 x1 x2 x3 hl0 ccell ckC chold ckO cwO ck0 lives03 w
                · exact back_3_3 (f := hOld l) (t := t) (M := 0) (D := 0) (r := 0) y0 y1 y2 y3 x0 x1 x2 x3 hl0 ccell ckC chold ckO cwO ck0 lives03 w
              · exact back_3_2 (f := hOld l) (t := t) (M := 0) (D := 0) (r := 0) y0 y1 y2 x0 x1 x2 x3 hl0 ccell ckC chold ckO cwO ck0 lives03 w
            · exact back_3_1 (f := hOld l) (t := t) (M := 0) (D := 0) (r := 0) y0 y1 x0 x1 x2 x3 hl0 ccell ckC chold ckO cwO ck0 lives03 w
          · exact back_3_0 (f := hOld l) (t := t) (M := 0) (D := 0) (r := 0) y0 x0 x1 x2 x3 hl0 ccell ckC chold ckO cwO ck0 lives03 w
        · by_cases x4 : 1073741823 < l
          · by_cases y0 : 0 ≤ a
            · by_cases y1 : a < 16
              · by_cases y2 : 0 < b
                · by_cases y3 : b < 256
                  · by_cases y4 : 0 ≤ d
                    · by_cases y5 : d < 4294967296
                      · have e1 := u64_small (n := a) (by omega) (by omega)
                        have e2 := u64_small (n := b) (by omega) (by omega)
                        have e3 := u64_small (n := d) (by omega) (by omega)
                        have cparts' : ∀ w : World, Calls Try.prog 29 #[.int .u64 (hk a b d : Nat)] w fun e w' => e = .returned (.tuple #[.int .i64 a, .int .i64 b, .int .i64 d, .bool true]) ∧ w = w' := by
                          have h1 : hparts (((hk a b d : Nat) : Int)).toNat = .tuple #[.int .i64 a, .int .i64 b, .int .i64 d, .bool true] := by
                            unfold hparts
                            have g1 : ((hAt (((hk a b d : Nat) : Int)).toNat : Nat) : Int) = a := by unfold hAt hk; omega
                            have g2 : ((hSlot (((hk a b d : Nat) : Int)).toNat : Nat) : Int) = b := by unfold hSlot hk; omega
                            have g3 : ((hGen (((hk a b d : Nat) : Int)).toNat : Nat) : Int) = d := by unfold hGen hk; omega
                            have g4 : hright (((hk a b d : Nat) : Int)).toNat = true := by unfold hright hk; rw [decide_eq_true_eq]; omega
                            rw [g1, g2, g3, g4]
                          rw [h1] at cparts
                          exact cparts
                        have hr1 : a % 4 = a % 4 := rfl
                        have hr2 : a.tmod 4 = a % 4 := Int.tmod_eq_emod_of_nonneg (by omega)
                        have cstate' : ∀ w : World, Calls Try.prog 24 #[.int .u64 (hdk d a : Nat)] w fun e w' => e = .returned (.tuple #[.int .i64 d, .int .i64 (a % 4)]) ∧ w = w' := by
                          have g1 : ((stGen (((hdk d a : Nat) : Int)).toNat : Nat) : Int) = d := by unfold stGen hdk; omega
                          have g2 : ((stState (((hdk d a : Nat) : Int)).toNat : Nat) : Int) = a % 4 := by unfold stState hdk; omega
                          rw [g1, g2] at cstate
                          exact cstate
                        exact back_4_6 (f := hOld l) (t := t) y0 y1 y2 y3 y4 y5 x0 x1 x2 x3 x4 hl0 cmake cparts' chead cstate' ccell ckC chold ckO cwO ck0 lives03 hr1 hr2 w
                      · exact back_4_5 (f := hOld l) (t := t) (M := 0) (D := 0) (r := 0) y0 y1 y2 y3 y4 y5 x0 x1 x2 x3 x4 hl0 ccell ckC chold ckO cwO ck0 lives03 w
                    · exact back_4_4 (f := hOld l) (t := t) (M := 0) (D := 0) (r := 0) y0 y1 y2 y3 y4 x0 x1 x2 x3 x4 hl0 ccell ckC chold ckO cwO ck0 lives03 w
                  · exact back_4_3 (f := hOld l) (t := t) (M := 0) (D := 0) (r := 0) y0 y1 y2 y3 x0 x1 x2 x3 x4 hl0 ccell ckC chold ckO cwO ck0 lives03 w
                · exact back_4_2 (f := hOld l) (t := t) (M := 0) (D := 0) (r := 0) y0 y1 y2 x0 x1 x2 x3 x4 hl0 ccell ckC chold ckO cwO ck0 lives03 w
              · exact back_4_1 (f := hOld l) (t := t) (M := 0) (D := 0) (r := 0) y0 y1 x0 x1 x2 x3 x4 hl0 ccell ckC chold ckO cwO ck0 lives03 w
            · exact back_4_0 (f := hOld l) (t := t) (M := 0) (D := 0) (r := 0) y0 x0 x1 x2 x3 x4 hl0 ccell ckC chold ckO cwO ck0 lives03 w
          · have cwC' : ∀ w : World, Calls Try.prog 60 #[.int .u64 (hCell s g l : Nat)] w fun e w' => e = .returned (.agg #[.int .i64 s, .int .i64 g, .int .u64 l]) ∧ Below w.heap.size w w' := by
              obtain ⟨g1, g2, g3⟩ := what_cell hl0 x0 x1 x2 x3 x4
              rw [g1, g2, g3] at cwC
              exact cwC
            have hf1 : hOld l (l + 2) = true := by unfold hOld; rw [decide_eq_true_eq]; omega
            have hf2 : hOld l (l + 1) = false := by unfold hOld; rw [decide_eq_false_iff_not]; omega
            by_cases y0 : 0 ≤ a
            · by_cases y1 : a < 16
              · by_cases y2 : 0 < b
                · by_cases y3 : b < 256
                  · by_cases y4 : 0 ≤ d
                    · by_cases y5 : d < 4294967296
                      · have e1 := u64_small (n := a) (by omega) (by omega)
                        have e2 := u64_small (n := b) (by omega) (by omega)
                        have e3 := u64_small (n := d) (by omega) (by omega)
                        have cparts' : ∀ w : World, Calls Try.prog 29 #[.int .u64 (hk a b d : Nat)] w fun e w' => e = .returned (.tuple #[.int .i64 a, .int .i64 b, .int .i64 d, .bool true]) ∧ w = w' := by
                          have h1 : hparts (((hk a b d : Nat) : Int)).toNat = .tuple #[.int .i64 a, .int .i64 b, .int .i64 d, .bool true] := by
                            unfold hparts
                            have g1 : ((hAt (((hk a b d : Nat) : Int)).toNat : Nat) : Int) = a := by unfold hAt hk; omega
                            have g2 : ((hSlot (((hk a b d : Nat) : Int)).toNat : Nat) : Int) = b := by unfold hSlot hk; omega
                            have g3 : ((hGen (((hk a b d : Nat) : Int)).toNat : Nat) : Int) = d := by unfold hGen hk; omega
                            have g4 : hright (((hk a b d : Nat) : Int)).toNat = true := by unfold hright hk; rw [decide_eq_true_eq]; omega
                            rw [g1, g2, g3, g4]
                          rw [h1] at cparts
                          exact cparts
                        have hr1 : a % 4 = a % 4 := rfl
                        have hr2 : a.tmod 4 = a % 4 := Int.tmod_eq_emod_of_nonneg (by omega)
                        have cstate' : ∀ w : World, Calls Try.prog 24 #[.int .u64 (hdk d a : Nat)] w fun e w' => e = .returned (.tuple #[.int .i64 d, .int .i64 (a % 4)]) ∧ w = w' := by
                          have g1 : ((stGen (((hdk d a : Nat) : Int)).toNat : Nat) : Int) = d := by unfold stGen hdk; omega
                          have g2 : ((stState (((hdk d a : Nat) : Int)).toNat : Nat) : Int) = a % 4 := by unfold stState hdk; omega
                          rw [g1, g2] at cstate
                          exact cstate
                        exact back_5_6 (f := hOld l) (t := t) y0 y1 y2 y3 y4 y5 x0 x1 x2 x3 x4 hl0 cmake cparts' chead cstate' ccell ckC chold ckO cwO ck0 lives03 cwC' cold hr1 hr2 hf1 hf2 w
                      · exact back_5_5 (f := hOld l) (t := t) (M := 0) (D := 0) (r := 0) y0 y1 y2 y3 y4 y5 x0 x1 x2 x3 x4 hl0 ccell ckC chold ckO cwO ck0 lives03 cwC' cold hf1 hf2 w
                    · exact back_5_4 (f := hOld l) (t := t) (M := 0) (D := 0) (r := 0) y0 y1 y2 y3 y4 x0 x1 x2 x3 x4 hl0 ccell ckC chold ckO cwO ck0 lives03 cwC' cold hf1 hf2 w
                  · exact back_5_3 (f := hOld l) (t := t) (M := 0) (D := 0) (r := 0) y0 y1 y2 y3 x0 x1 x2 x3 x4 hl0 ccell ckC chold ckO cwO ck0 lives03 cwC' cold hf1 hf2 w
                · exact back_5_2 (f := hOld l) (t := t) (M := 0) (D := 0) (r := 0) y0 y1 y2 x0 x1 x2 x3 x4 hl0 ccell ckC chold ckO cwO ck0 lives03 cwC' cold hf1 hf2 w
              · exact back_5_1 (f := hOld l) (t := t) (M := 0) (D := 0) (r := 0) y0 y1 x0 x1 x2 x3 x4 hl0 ccell ckC chold ckO cwO ck0 lives03 cwC' cold hf1 hf2 w
            · exact back_5_0 (f := hOld l) (t := t) (M := 0) (D := 0) (r := 0) y0 x0 x1 x2 x3 x4 hl0 ccell ckC chold ckO cwO ck0 lives03 cwC' cold hf1 hf2 w
end Go.Proofs.Ytmjihjbedgbhbaa
