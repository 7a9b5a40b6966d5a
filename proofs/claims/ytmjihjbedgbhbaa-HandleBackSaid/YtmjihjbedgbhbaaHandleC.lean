/- The contracts of handle's cells, and of their reference. -/
import Derived.Test.YtmjihjbedgbhbaaHandleA
namespace Go.Proofs.Ytmjihjbedgbhbaa
set_option linter.unusedVariables false
set_option linter.unusedSimpArgs false
open Go.RowKit

def hKind (n : Int) : Int := if n = 0 then 0 else if 9223372036854775808 ≤ n then 1 else 2
def hHold (t : Int) : Nat := 9223372036854775808 + Fld.u64 t % 256
def hCell (s g l : Int) : Nat := Fld.u64 s % 256 + 256 * (Fld.u64 g % 16777216) + 4294967296 * (l.toNat % 1073741824) + 4611686018427387904
def hwA (n : Int) : Int := if hKind n = 2 then n % 256 else 0
def hwG (n : Int) : Int := if hKind n = 2 then n / 256 % 16777216 else 0
def hwL (n : Int) : Int := if hKind n = 2 then n / 4294967296 % 1073741824 else 0
def hOld (l e : Int) : Bool := decide (2 ≤ e ∧ l ≤ e - 2)
theorem hHold_lt (t : Int) : hHold t < 2 ^ 64 := by unfold hHold; omega
theorem hCell_lt (s g l : Int) : hCell s g l < 2 ^ 64 := by unfold hCell; omega
theorem bit63 {n : Int} (hn : U64 n) : Fld.bitZ n.toNat 63 = decide (9223372036854775808 ≤ n) := by
  have h2 : Fld.bitZ n.toNat ((63 : Nat) : Int) = decide (9223372036854775808 ≤ n) := by
    rw [Fld.bitZ_nat, Nat.testBit_eq_decide_div_mod_eq, decide_eq_decide]
    have := hn.lt
    have := hn.cast
    have e : (2 : Nat) ^ 63 = 9223372036854775808 := by decide
    rw [e]
    omega
  exact h2

set_option maxHeartbeats 400000 in
theorem hold_any (t : Int) (w : World) :
    Calls Try.prog 63 #[.int .i64 t] w fun e w' => e = .returned (.int .u64 (hHold t : Nat)) ∧ w = w' := by
  have hw := wrap_n t
  have f : Hid (Fld.set (Fld.cut (Fld.u64 t) 0 8) 63 1 1 = hHold t) := by
    rw [Hid, Fld.c0_8, Fld.s63_1 (by omega), hHold]
    omega
  go_enter Try.func63, Try.ntmps63
  go_wp2_with fail
  refine (cut_any _ 0 8 _ (U64.nat (Fld.u64_lt t)) (by unfold I64; omega) (by unfold I64; omega)).mono ?_
  rintro e w' ⟨rfl, rfl⟩
  go_wp2_with fail
  refine (turn_any _ 63 true _ (U64.nat (Fld.cut_lt _ _ _)) (by unfold I64; omega)).mono ?_
  rintro e w' ⟨rfl, rfl⟩
  go_wp2
  go_ret
  exact ⟨ret_int (by simp [f.out]), rfl⟩

set_option maxHeartbeats 400000 in
theorem rhold_any (t : Int) (w : World) :
    Calls Try.prog 64 #[.int .i64 t] w fun e w' => e = .returned (.int .u64 (hHold t : Nat)) ∧ w = w' := by
  have hw := wrap_n t
  have p : (0 : Int) ≤ ((Fld.u64 t : Nat) : Int) := by omega
  go_enter Try.func64, Try.ntmps64
  go_wp2
  go_ret
  exact ⟨ret_int (by unfold hHold; omega), rfl⟩

set_option maxHeartbeats 400000 in
theorem kind_any (n : Int) (hn : U64 n) (w : World) :
    Calls Try.prog 65 #[.int .u64 n] w fun e w' => e = .returned (.int .i64 (hKind n)) ∧ w = w' := by
  have h0 := hn.1
  have h1 : n ≤ 18446744073709551615 := by have := hn.2; omega
  by_cases z : n = 0
  · subst z
    go_enter Try.func65, Try.ntmps65
    go_wp2
    go_ret
    exact ⟨rfl, rfl⟩
  have z1 : (n == 0) = false := by rw [beq_eq_false_iff_ne]; exact z
  by_cases b : 9223372036854775808 ≤ n
  · have hE : Hid (hKind n = 1) := by rw [Hid, hKind, if_neg z, if_pos b]
    have b3 := bit63 hn
    rw [decide_eq_true b] at b3
    have b2 : ¬ n < 9223372036854775808 := by omega
    clear z
    go_enter Try.func65, Try.ntmps65
    go_wp2_with fail
    refine (has_any n 63 _ hn (by unfold I64; omega)).mono ?_
    rintro e w' ⟨rfl, rfl⟩
    go_wp2
    go_ret
    exact ⟨ret_int (by rw [hE.out]), rfl⟩
  · have hE : Hid (hKind n = 2) := by rw [Hid, hKind, if_neg z, if_neg b]
    have b3 := bit63 hn
    rw [decide_eq_false b] at b3
    have b2 : n < 9223372036854775808 := by omega
    clear z
    go_enter Try.func65, Try.ntmps65
    go_wp2_with fail
    refine (has_any n 63 _ hn (by unfold I64; omega)).mono ?_
    rintro e w' ⟨rfl, rfl⟩
    go_wp2
    go_ret
    exact ⟨ret_int (by rw [hE.out]), rfl⟩

set_option maxHeartbeats 400000 in
theorem rkind_any (n : Int) (hn : U64 n) (w : World) :
    Calls Try.prog 66 #[.int .u64 n] w fun e w' => e = .returned (.int .i64 (hKind n)) ∧ w = w' := by
  have h0 := hn.1
  have h1 : n ≤ 18446744073709551615 := by have := hn.2; omega
  by_cases z : n = 0
  · subst z
    go_enter Try.func66, Try.ntmps66
    go_wp2
    go_ret
    exact ⟨rfl, rfl⟩
  have z1 : (n == 0) = false := by rw [beq_eq_false_iff_ne]; exact z
  by_cases b : 9223372036854775808 ≤ n
  · have hE : Hid (hKind n = 1) := by rw [Hid, hKind, if_neg z, if_pos b]
    have b3 := bit63 hn
    rw [decide_eq_true b] at b3
    have b2 : ¬ n < 9223372036854775808 := by omega
    clear z
    go_enter Try.func66, Try.ntmps66
    go_wp2
    go_ret
    exact ⟨ret_int (by rw [hE.out]), rfl⟩
  · have hE : Hid (hKind n = 2) := by rw [Hid, hKind, if_neg z, if_neg b]
    have b3 := bit63 hn
    rw [decide_eq_false b] at b3
    have b2 : n < 9223372036854775808 := by omega
    clear z
    go_enter Try.func66, Try.ntmps66
    go_wp2
    go_ret
    exact ⟨ret_int (by rw [hE.out]), rfl⟩

set_option maxHeartbeats 400000 in
theorem old_any (l m : Int) (hl : U64 l) (hm : U64 m) (w : World) :
    Calls Try.prog 68 #[.int .u64 l, .int .u64 m] w fun e w' => e = .returned (.bool (hOld l m)) ∧ w = w' := by
  have h0 := hm.1
  have h1 : m ≤ 18446744073709551615 := by have := hm.2; omega
  by_cases b : 2 ≤ m
  · have hE : Hid (hOld l m = decide (l ≤ m - 2)) := by rw [Hid, hOld, decide_eq_decide]; omega
    have hw : IntKind.u64.wrap (m - 2) = m - 2 := by rw [IntKind.wrap_u64]; omega
    go_enter Try.func68, Try.ntmps68
    go_wp2
    go_ret
    exact ⟨ret_bool (by rw [hE.out]), rfl⟩
  · have hE : Hid (hOld l m = false) := by rw [Hid, hOld, decide_eq_false_iff_not]; omega
    go_enter Try.func68, Try.ntmps68
    go_wp2
    go_ret
    exact ⟨ret_bool (by rw [hE.out]), rfl⟩

set_option maxHeartbeats 400000 in
theorem rold_any (l m : Int) (hl : U64 l) (hm : U64 m) (w : World) :
    Calls Try.prog 69 #[.int .u64 l, .int .u64 m] w fun e w' => e = .returned (.bool (hOld l m)) ∧ w = w' := by
  have h0 := hl.1
  have h1 := hm.2
  by_cases b : l < 18446744073709551614
  · have hE : Hid (hOld l m = decide (l + 2 ≤ m)) := by rw [Hid, hOld, decide_eq_decide]; omega
    have hw : IntKind.u64.wrap (l + 2) = l + 2 := by rw [IntKind.wrap_u64]; omega
    go_enter Try.func69, Try.ntmps69
    go_wp2
    go_ret
    exact ⟨ret_bool (by rw [hE.out]), rfl⟩
  · have hE : Hid (hOld l m = false) := by rw [Hid, hOld, decide_eq_false_iff_not]; omega
    go_enter Try.func69, Try.ntmps69
    go_wp2
    go_ret
    exact ⟨ret_bool (by rw [hE.out]), rfl⟩

set_option maxHeartbeats 800000 in
theorem what_any (n : Int) (hn : U64 n) (w : World) :
    Calls Try.prog 60 #[.int .u64 n] w fun e w' => e = .returned (.agg #[.int .i64 (hwA n), .int .i64 (hwG n), .int .u64 (hwL n)]) ∧ Below w.heap.size w w' := by
  have h0 := hn.1
  have h1 : n ≤ 18446744073709551615 := by have := hn.2; omega
  have hk := kind_any n hn
  by_cases z : hKind n = 2
  · have e1 : Hid (hwA n = n % 256) := if_pos z
    have e2 : Hid (hwG n = n / 256 % 16777216) := if_pos z
    have e3 : Hid (hwL n = n / 4294967296 % 1073741824) := if_pos z
    rw [z] at hk
    clear z
    have f1 : Hid (((Fld.cut n.toNat 0 8 : Nat) : Int) = n % 256) := by rw [Hid, Fld.c0_8]; have := hn.cast; omega
    have f2 : Hid (((Fld.cut n.toNat 8 24 : Nat) : Int) = n / 256 % 16777216) := by rw [Hid, Fld.c8_24]; have := hn.cast; omega
    have f3 : Hid (((Fld.cut n.toNat 32 30 : Nat) : Int) = n / 4294967296 % 1073741824) := by rw [Hid, Fld.c32_30]; have := hn.cast; omega
    have b1 : ((Fld.cut n.toNat 0 8 : Nat) : Int) ≤ 255 := by rw [f1.out]; omega
    have b2 : ((Fld.cut n.toNat 8 24 : Nat) : Int) ≤ 16777215 := by rw [f2.out]; omega
    go_enter Try.func60, Try.ntmps60
    go_wp2_with fail
    refine (hk _).mono ?_
    rintro e w' ⟨rfl, rfl⟩
    go_wp2_with fail
    refine (cut_any _ 0 8 _ hn (by unfold I64; omega) (by unfold I64; omega)).mono ?_
    rintro e w' ⟨rfl, rfl⟩
    go_wp2_with fail
    refine (cut_any _ 8 24 _ hn (by unfold I64; omega) (by unfold I64; omega)).mono ?_
    rintro e w' ⟨rfl, rfl⟩
    go_wp2_with fail
    refine (cut_any _ 32 30 _ hn (by unfold I64; omega) (by unfold I64; omega)).mono ?_
    rintro e w' ⟨rfl, rfl⟩
    go_wp2
    refine bodyPost_ret (v := .agg #[.int .i64 (hwA n), .int .i64 (hwG n), .int .u64 (hwL n)]) ?_ rfl ⟨rfl, ?_⟩
    · simp [results, Try.results60, go_sem, e1.out, e2.out, e3.out, f1.out, f2.out, f3.out]
    · repeat (first | assumption | exact Below.refl _ _ | refine Below.drew ?_ | refine below_drewN ?_ _ | refine Below.setCell ?_ (by simp <;> omega) _ | refine Below.alloc ?_ (by simp <;> omega) _)
  · have e1 : Hid (hwA n = 0) := if_neg z
    have e2 : Hid (hwG n = 0) := if_neg z
    have e3 : Hid (hwL n = 0) := if_neg z
    have z2 : (hKind n != 2) = true := by rw [bne_iff_ne]; exact z
    obtain ⟨K, hK⟩ : ∃ K, hKind n = K := ⟨_, rfl⟩
    rw [hK] at hk z2
    clear z hK
    go_enter Try.func60, Try.ntmps60
    go_wp2_with fail
    refine (hk _).mono ?_
    rintro e w' ⟨rfl, rfl⟩
    go_wp2
    refine bodyPost_ret (v := .agg #[.int .i64 (hwA n), .int .i64 (hwG n), .int .u64 (hwL n)]) ?_ rfl ⟨rfl, ?_⟩
    · simp [results, Try.results60, go_sem, e1.out, e2.out, e3.out]
    · repeat (first | assumption | exact Below.refl _ _ | refine Below.drew ?_ | refine below_drewN ?_ _ | refine Below.setCell ?_ (by simp <;> omega) _ | refine Below.alloc ?_ (by simp <;> omega) _)

set_option maxHeartbeats 800000 in
theorem rwhat_any (n : Int) (hn : U64 n) (w : World) :
    Calls Try.prog 67 #[.int .u64 n] w fun e w' => e = .returned (.agg #[.int .i64 (hwA n), .int .i64 (hwG n), .int .u64 (hwL n)]) ∧ Below w.heap.size w w' := by
  have h0 := hn.1
  have h1 : n ≤ 18446744073709551615 := by have := hn.2; omega
  have hk := rkind_any n hn
  by_cases z : hKind n = 2
  · have e1 : Hid (hwA n = n % 256) := if_pos z
    have e2 : Hid (hwG n = n / 256 % 16777216) := if_pos z
    have e3 : Hid (hwL n = n / 4294967296 % 1073741824) := if_pos z
    rw [z] at hk
    clear z
    go_enter Try.func67, Try.ntmps67
    go_wp2_with fail
    refine (hk _).mono ?_
    rintro e w' ⟨rfl, rfl⟩
    go_wp2
    refine bodyPost_ret (v := .agg #[.int .i64 (hwA n), .int .i64 (hwG n), .int .u64 (hwL n)]) ?_ rfl ⟨rfl, ?_⟩
    · simp [results, Try.results67, go_sem, e1.out, e2.out, e3.out]
    · repeat (first | assumption | exact Below.refl _ _ | refine Below.drew ?_ | refine below_drewN ?_ _ | refine Below.setCell ?_ (by simp <;> omega) _ | refine Below.alloc ?_ (by simp <;> omega) _)
  · have e1 : Hid (hwA n = 0) := if_neg z
    have e2 : Hid (hwG n = 0) := if_neg z
    have e3 : Hid (hwL n = 0) := if_neg z
    have z2 : (hKind n != 2) = true := by rw [bne_iff_ne]; exact z
    obtain ⟨K, hK⟩ : ∃ K, hKind n = K := ⟨_, rfl⟩
    rw [hK] at hk z2
    clear z hK
    go_enter Try.func67, Try.ntmps67
    go_wp2_with fail
    refine (hk _).mono ?_
    rintro e w' ⟨rfl, rfl⟩
    go_wp2
    refine bodyPost_ret (v := .agg #[.int .i64 (hwA n), .int .i64 (hwG n), .int .u64 (hwL n)]) ?_ rfl ⟨rfl, ?_⟩
    · simp [results, Try.results67, go_sem, e1.out, e2.out, e3.out]
    · repeat (first | assumption | exact Below.refl _ _ | refine Below.drew ?_ | refine below_drewN ?_ _ | refine Below.setCell ?_ (by simp <;> omega) _ | refine Below.alloc ?_ (by simp <;> omega) _)

set_option maxHeartbeats 800000 in
theorem rcell_any (s g l : Int) (hl : U64 l) (w : World) :
    Calls Try.prog 62 #[.agg #[.int .i64 s, .int .i64 g, .int .u64 l]] w fun e w' => e = .returned (.int .u64 (hCell s g l : Nat)) ∧ Below w.heap.size w w' := by
  have hw1 := wrap_n s
  have hw2 := wrap_n g
  have p1 : (0 : Int) ≤ ((Fld.u64 s : Nat) : Int) := by omega
  have p2 : (0 : Int) ≤ ((Fld.u64 g : Nat) : Int) := by omega
  have p3 := hl.1
  have hc : Hid (((l.toNat : Nat) : Int) = l) := hl.cast
  go_enter Try.func62, Try.ntmps62
  go_wp2
  go_ret
  refine ⟨ret_int (by unfold hCell; have := hc.out; omega), ?_⟩
  repeat (first | assumption | exact Below.refl _ _ | refine Below.drew ?_ | refine below_drewN ?_ _ | refine Below.setCell ?_ (by simp <;> omega) _ | refine Below.alloc ?_ (by simp <;> omega) _)

set_option maxHeartbeats 800000 in
theorem cell_any (s g l : Int) (hl : U64 l) (w : World) :
    Calls Try.prog 61 #[.agg #[.int .i64 s, .int .i64 g, .int .u64 l]] w fun e w' => e = .returned (.int .u64 (hCell s g l : Nat)) ∧ Below w.heap.size w w' := by
  have hw1 := wrap_n s
  have hw2 := wrap_n g
  have c1 := fun w => cut_any (Fld.u64 s : Nat) 0 8 w (U64.nat (Fld.u64_lt s)) (by unfold I64; omega) (by unfold I64; omega)
  rw [Int.toNat_natCast] at c1
  have c2 := fun w => set_any (Fld.cut (Fld.u64 s) 0 8 : Nat) 8 24 (Fld.u64 g : Nat) w (U64.nat (Fld.cut_lt _ _ _)) (by unfold I64; omega) (by unfold I64; omega) (U64.nat (Fld.u64_lt g))
  rw [Int.toNat_natCast, Int.toNat_natCast] at c2
  obtain ⟨A, hA⟩ : ∃ A, Fld.set (Fld.cut (Fld.u64 s) 0 8) 8 24 (Fld.u64 g) = A := ⟨_, rfl⟩
  have hAlt : A < 2 ^ 64 := by rw [← hA]; exact Fld.set_lt _ _ _ _
  have c3 := fun w => set_any (A : Nat) 32 30 l w (U64.nat hAlt) (by unfold I64; omega) (by unfold I64; omega) hl
  rw [Int.toNat_natCast] at c3
  obtain ⟨B, hB⟩ : ∃ B, Fld.set A 32 30 l.toNat = B := ⟨_, rfl⟩
  have hBlt : B < 2 ^ 64 := by rw [← hB]; exact Fld.set_lt _ _ _ _
  have c4 := fun w => turn_any (B : Nat) 62 true w (U64.nat hBlt) (by unfold I64; omega)
  rw [Int.toNat_natCast] at c4
  have hfin : Hid (Fld.set B 62 1 1 = hCell s g l) := by
    rw [Hid, ← hB, ← hA, Fld.s62_1 (Fld.set_lt _ _ _ _), Fld.s32_30 (Fld.set_lt _ _ _ _), Fld.s8_24 (Fld.cut_lt _ _ _), Fld.c0_8, hCell]
    omega
  rw [hA] at c2
  rw [hB] at c3
  obtain ⟨X, hX⟩ : ∃ X, Fld.cut (Fld.u64 s) 0 8 = X := ⟨_, rfl⟩
  rw [hX] at c1 c2
  have c4' : ∀ w : World, Calls Try.prog 53 #[.int .u64 (B : Nat), .int .i64 62, .bool true] w fun e w' => e = .returned (.int .u64 (hCell s g l : Nat)) ∧ w = w' := by
    intro w
    rw [← hfin.out]
    exact c4 w
  clear hA hB hX c4 hfin
  go_enter Try.func61, Try.ntmps61
  go_wp2_with fail
  go_quiet ((first | (go_at_call 47; exact q_same (c1 _)) | (go_at_call 52; exact q_same (c2 _))))
  go_wp2_with fail
  refine (c3 _).mono ?_
  rintro e w' ⟨rfl, rfl⟩
  go_wp2_with fail
  refine (c4' _).mono ?_
  rintro e w' ⟨rfl, rfl⟩
  go_wp2
  go_ret
  refine ⟨rfl, ?_⟩
  repeat (first | assumption | exact Below.refl _ _ | refine Below.drew ?_ | refine below_drewN ?_ _ | refine Below.setCell ?_ (by simp <;> omega) _ | refine Below.alloc ?_ (by simp <;> omega) _)
end Go.Proofs.Ytmjihjbedgbhbaa
