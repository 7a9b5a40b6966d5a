/- The contracts of package link, and of its reference. -/
import Derived.Test.YtmjihjbedgbhbaaFieldA
namespace Go.Proofs.Ytmjihjbedgbhbaa
set_option linter.unusedVariables false
set_option linter.unusedSimpArgs false
open Go.RowKit

theorem wrap_n (n : Int) : IntKind.u64.wrap n = ((Fld.u64 n : Nat) : Int) := by
  rw [IntKind.wrap_u64]
  exact (Fld.cast_u64 n).symm
/-- A link's word of numbers. -/
def lmk (slot gen : Int) : Nat := Fld.u64 slot % 256 + 256 * (Fld.u64 gen % 4294967296)
def tmk (slot : Int) (ch : Nat) : Nat := Fld.u64 slot % 256 + 256 * (ch % 72057594037927936)
theorem lmk_lt (slot gen : Int) : lmk slot gen < 2 ^ 64 := by unfold lmk; omega
theorem tmk_lt (slot : Int) (ch : Nat) : tmk slot ch < 2 ^ 64 := by unfold tmk; omega

set_option maxHeartbeats 400000 in
theorem low_any (n m : Int) (h0 : 0 < m) (w : World) :
    Calls Try.prog 70 #[.int .i64 n, .int .u64 m] w fun e w' => e = .returned (.int .u64 (((Fld.u64 n : Nat) : Int) % m)) ∧ w = w' := by
  have hw := wrap_n n
  have hm0 : (m == 0) = false := by rw [beq_eq_false_iff_ne]; omega
  have hnn : (0 : Int) ≤ ((Fld.u64 n : Nat) : Int) := by omega
  go_enter Try.func70, Try.ntmps70
  go_wp2
  go_ret
  exact ⟨rfl, rfl⟩

set_option maxHeartbeats 400000 in
theorem link_make (slot gen : Int) (w : World) :
    Calls Try.prog 16 #[.int .i64 slot, .int .i64 gen] w fun e w' => e = .returned (.int .u64 (lmk slot gen : Nat)) ∧ w = w' := by
  have hw1 := wrap_n slot
  have hw2 := wrap_n gen
  have hfin : Hid (Fld.set (Fld.cut (Fld.u64 slot) 0 8) 8 32 (Fld.u64 gen) = lmk slot gen) := by
    rw [Hid, Fld.c0_8, Fld.s8_32 (by omega)]
    unfold lmk
    have := Fld.u64_lt slot
    omega
  go_enter Try.func16, Try.ntmps16
  go_wp2_with fail
  refine (cut_any _ 0 8 _ (U64.nat (Fld.u64_lt slot)) (by unfold I64; omega) (by unfold I64; omega)).mono ?_
  rintro e w' ⟨rfl, rfl⟩
  go_wp2_with fail
  refine (set_any _ 8 32 _ _ (U64.nat (Fld.cut_lt _ _ _)) (by unfold I64; omega) (by unfold I64; omega) (U64.nat (Fld.u64_lt gen))).mono ?_
  rintro e w' ⟨rfl, rfl⟩
  go_wp2
  go_ret
  exact ⟨ret_int (by rw [hfin.out]), rfl⟩

set_option maxHeartbeats 400000 in
theorem ref_make (slot gen : Int) (w : World) :
    Calls Try.prog 17 #[.int .i64 slot, .int .i64 gen] w fun e w' => e = .returned (.int .u64 (lmk slot gen : Nat)) ∧ w = w' := by
  go_enter Try.func17, Try.ntmps17
  go_wp2_with fail
  refine (low_any slot 256 (by omega) _).mono ?_
  rintro e w' ⟨rfl, rfl⟩
  go_wp2_with fail
  refine (low_any gen 4294967296 (by omega) _).mono ?_
  rintro e w' ⟨rfl, rfl⟩
  go_wp2
  go_ret
  exact ⟨ret_int (by unfold lmk; omega), rfl⟩

set_option maxHeartbeats 400000 in
theorem link_top (slot ch : Int) (hc : U64 ch) (w : World) :
    Calls Try.prog 19 #[.int .i64 slot, .int .u64 ch] w fun e w' => e = .returned (.int .u64 (tmk slot ch.toNat : Nat)) ∧ w = w' := by
  have hw1 := wrap_n slot
  have hfin : Hid (Fld.set (Fld.cut (Fld.u64 slot) 0 8) 8 56 ch.toNat = tmk slot ch.toNat) := by
    rw [Hid, Fld.c0_8, Fld.s8_56 (by omega)]
    unfold tmk
    omega
  go_enter Try.func19, Try.ntmps19
  go_wp2_with fail
  refine (cut_any _ 0 8 _ (U64.nat (Fld.u64_lt slot)) (by unfold I64; omega) (by unfold I64; omega)).mono ?_
  rintro e w' ⟨rfl, rfl⟩
  go_wp2_with fail
  refine (set_any _ 8 56 _ _ (U64.nat (Fld.cut_lt _ _ _)) (by unfold I64; omega) (by unfold I64; omega) hc).mono ?_
  rintro e w' ⟨rfl, rfl⟩
  go_wp2
  go_ret
  exact ⟨ret_int (by rw [hfin.out]), rfl⟩

set_option maxHeartbeats 400000 in
theorem ref_top (slot ch : Int) (hc : U64 ch) (w : World) :
    Calls Try.prog 20 #[.int .i64 slot, .int .u64 ch] w fun e w' => e = .returned (.int .u64 (tmk slot ch.toNat : Nat)) ∧ w = w' := by
  have hc0 := hc.1
  go_enter Try.func20, Try.ntmps20
  go_wp2_with fail
  refine (low_any slot 256 (by omega) _).mono ?_
  rintro e w' ⟨rfl, rfl⟩
  go_wp2
  go_ret
  exact ⟨ret_int (by unfold tmk; have := hc.cast; omega), rfl⟩

set_option maxHeartbeats 400000 in
theorem link_under (n : Int) (hn : U64 n) (w : World) :
    Calls Try.prog 21 #[.int .u64 n] w fun e w' => e = .returned (.int .i64 ((n.toNat % 256 : Nat) : Int)) ∧ w = w' := by
  have hfin : Hid (Fld.cut n.toNat 0 8 = n.toNat % 256) := Fld.c0_8 _
  go_enter Try.func21, Try.ntmps21
  go_wp2_with fail
  refine (cut_any _ 0 8 _ hn (by unfold I64; omega) (by unfold I64; omega)).mono ?_
  rintro e w' ⟨rfl, rfl⟩
  have hb : Fld.cut n.toNat 0 8 ≤ 255 := by rw [hfin.out]; omega
  go_wp2
  go_ret
  exact ⟨ret_int (by rw [hfin.out]), rfl⟩

set_option maxHeartbeats 400000 in
theorem link_changed (n slot : Int) (hn : U64 n) (w : World) :
    Calls Try.prog 22 #[.int .u64 n, .int .i64 slot] w fun e w' => e = .returned (.int .u64 (tmk slot (n.toNat / 256 + 1) : Nat)) ∧ w = w' := by
  have hfin : Hid (Fld.cut n.toNat 8 56 = n.toNat / 256) := by
    rw [Hid, Fld.c8_56]
    have := hn.lt
    omega
  go_enter Try.func22, Try.ntmps22
  go_wp2_with fail
  refine (cut_any _ 8 56 _ hn (by unfold I64; omega) (by unfold I64; omega)).mono ?_
  rintro e w' ⟨rfl, rfl⟩
  have hb : Fld.cut n.toNat 8 56 ≤ 72057594037927935 := by rw [hfin.out]; have := hn.lt; omega
  go_wp2_with fail
  refine (link_top slot _ ⟨by omega, by omega⟩ _).mono ?_
  rintro e w' ⟨rfl, rfl⟩
  go_wp2
  go_ret
  refine ⟨ret_int ?_, rfl⟩
  rw [← hfin.out]

set_option maxHeartbeats 400000 in
theorem ref_changed (n slot : Int) (hn : U64 n) (w : World) :
    Calls Try.prog 23 #[.int .u64 n, .int .i64 slot] w fun e w' => e = .returned (.int .u64 (tmk slot (n.toNat / 256 + 1) : Nat)) ∧ w = w' := by
  have hc0 := hn.1
  have hc1 : n ≤ 18446744073709551615 := by have := hn.2; omega
  go_enter Try.func23, Try.ntmps23
  go_wp2_with fail
  refine (ref_top slot _ ⟨by omega, by omega⟩ _).mono ?_
  rintro e w' ⟨rfl, rfl⟩
  go_wp2
  go_ret
  refine ⟨ret_int ?_, rfl⟩
  congr 2
  have := hn.cast
  omega

set_option maxHeartbeats 400000 in
theorem lives02 (w : World) :
    Calls Try.prog 18 #[] w fun e w' => e = .returned (.bool true) ∧ w = w' := by
  have e1 : ((lmk 3 1 : Nat) : Int) = 259 := by decide +kernel
  have e2 : ((tmk 5 (0 / 256 + 1) : Nat) : Int) = 261 := by decide +kernel
  go_enter Try.func18, Try.ntmps18
  go_wp2_with fail
  refine (link_make 3 1 _).mono ?_
  rintro e w' ⟨rfl, rfl⟩
  go_wp2_with (go_at_call 22; refine (link_changed 0 5 ⟨by omega, by omega⟩ _).mono ?_; rintro e w' ⟨rfl, rfl⟩)
  go_ret
  exact ⟨rfl, rfl⟩

set_option maxHeartbeats 400000 in
theorem makes_any (slot gen : Int) (w : World) :
    Calls Try.prog 3 #[.int .i64 slot, .int .i64 gen] w fun e w' => e = .returned (.bool true) ∧ w = w' := by
  go_enter Try.func3, Try.ntmps3
  go_wp2_with fail
  refine (link_make slot gen _).mono ?_
  rintro e w' ⟨rfl, rfl⟩
  go_wp2_with fail
  refine (ref_make slot gen _).mono ?_
  rintro e w' ⟨rfl, rfl⟩
  go_wp2_with fail
  refine (lives02 _).mono ?_
  rintro e w' ⟨rfl, rfl⟩
  go_wp2
  go_ret
  exact ⟨rfl, rfl⟩

set_option maxHeartbeats 400000 in
theorem tops_any (n slot ch : Int) (hn : U64 n) (hc : U64 ch) (w : World) :
    Calls Try.prog 4 #[.int .u64 n, .int .i64 slot, .int .u64 ch] w fun e w' => e = .returned (.bool true) ∧ w = w' := by
  have hc0 := hn.1
  have hc1 : n ≤ 18446744073709551615 := by have := hn.2; omega
  have hm : n % 256 = ((n.toNat % 256 : Nat) : Int) := by omega
  go_enter Try.func4, Try.ntmps4
  go_wp2_with fail
  refine (link_top slot ch hc _).mono ?_
  rintro e w' ⟨rfl, rfl⟩
  go_wp2_with fail
  refine (ref_top slot ch hc _).mono ?_
  rintro e w' ⟨rfl, rfl⟩
  go_wp2_with fail
  refine (link_under n hn _).mono ?_
  rintro e w' ⟨rfl, rfl⟩
  go_wp2_with fail
  refine (link_changed n slot hn _).mono ?_
  rintro e w' ⟨rfl, rfl⟩
  go_wp2_with fail
  refine (ref_changed n slot hn _).mono ?_
  rintro e w' ⟨rfl, rfl⟩
  go_wp2_with fail
  refine (lives02 _).mono ?_
  rintro e w' ⟨rfl, rfl⟩
  go_wp2
  go_ret
  exact ⟨rfl, rfl⟩
end Go.Proofs.Ytmjihjbedgbhbaa
