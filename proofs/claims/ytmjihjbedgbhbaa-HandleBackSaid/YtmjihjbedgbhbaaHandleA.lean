/- The contracts of package handle, and of its reference: Heads, handles. -/
import Derived.Test.YtmjihjbedgbhbaaLinkA
namespace Go.Proofs.Ytmjihjbedgbhbaa
set_option linter.unusedVariables false
set_option linter.unusedSimpArgs false
open Go.RowKit

def hdk (gen state : Int) : Nat := Fld.u64 state % 4 + 4 * (Fld.u64 gen % 4294967296)
def hk (at_ slot gen : Int) : Nat := Fld.u64 slot % 256 + 256 * (Fld.u64 gen % 4294967296) + 1152921504606846976 * (Fld.u64 at_ % 16)
theorem hdk_lt (gen state : Int) : hdk gen state < 2 ^ 64 := by unfold hdk; omega
theorem hk_lt (at_ slot gen : Int) : hk at_ slot gen < 2 ^ 64 := by unfold hk; omega
def hAt (n : Nat) : Nat := n / 1152921504606846976
def hSlot (n : Nat) : Nat := n % 256
def hGen (n : Nat) : Nat := n / 256 % 4294967296
def stGen (n : Nat) : Nat := n / 4 % 4294967296
def stState (n : Nat) : Nat := n % 4
/-- Is a word a handle? -/
def hright (n : Nat) : Bool := decide (0 < n % 256 ∧ n / 1099511627776 % 1048576 = 0)
def hparts (n : Nat) : Value := .tuple #[.int .i64 (hAt n : Nat), .int .i64 (hSlot n : Nat), .int .i64 (hGen n : Nat), .bool (hright n)]

set_option maxHeartbeats 400000 in
theorem head_any (gen state : Int) (w : World) :
    Calls Try.prog 26 #[.int .i64 gen, .int .i64 state] w fun e w' => e = .returned (.int .u64 (hdk gen state : Nat)) ∧ w = w' := by
  have hw1 := wrap_n state
  have hw2 := wrap_n gen
  have hfin : Hid (Fld.set (Fld.cut (Fld.u64 state) 0 2) 2 32 (Fld.u64 gen) = hdk gen state) := by
    rw [Hid, Fld.c0_2, Fld.s2_32 (by omega)]
    unfold hdk
    omega
  go_enter Try.func26, Try.ntmps26
  go_wp2_with fail
  refine (cut_any _ 0 2 _ (U64.nat (Fld.u64_lt state)) (by unfold I64; omega) (by unfold I64; omega)).mono ?_
  rintro e w' ⟨rfl, rfl⟩
  go_wp2_with fail
  refine (set_any _ 2 32 _ _ (U64.nat (Fld.cut_lt _ _ _)) (by unfold I64; omega) (by unfold I64; omega) (U64.nat (Fld.u64_lt gen))).mono ?_
  rintro e w' ⟨rfl, rfl⟩
  go_wp2
  go_ret
  exact ⟨ret_int (by rw [hfin.out]), rfl⟩

set_option maxHeartbeats 400000 in
theorem rhead_any (gen state : Int) (w : World) :
    Calls Try.prog 27 #[.int .i64 gen, .int .i64 state] w fun e w' => e = .returned (.int .u64 (hdk gen state : Nat)) ∧ w = w' := by
  have hw1 := wrap_n state
  have hw2 := wrap_n gen
  have p1 : (0 : Int) ≤ ((Fld.u64 state : Nat) : Int) := by omega
  have p2 : (0 : Int) ≤ ((Fld.u64 gen : Nat) : Int) := by omega
  go_enter Try.func27, Try.ntmps27
  go_wp2
  go_ret
  exact ⟨ret_int (by unfold hdk; omega), rfl⟩

set_option maxHeartbeats 400000 in
theorem state_any (n : Int) (hn : U64 n) (w : World) :
    Calls Try.prog 24 #[.int .u64 n] w fun e w' => e = .returned (.tuple #[.int .i64 (stGen n.toNat : Nat), .int .i64 (stState n.toNat : Nat)]) ∧ w = w' := by
  have f1 : Hid (Fld.cut n.toNat 2 32 = stGen n.toNat) := Fld.c2_32 _
  have f2 : Hid (Fld.cut n.toNat 0 2 = stState n.toNat) := Fld.c0_2 _
  have b1 : Fld.cut n.toNat 2 32 ≤ 4294967295 := by rw [f1.out, stGen]; omega
  have b2 : Fld.cut n.toNat 0 2 ≤ 3 := by rw [f2.out, stState]; omega
  go_enter Try.func24, Try.ntmps24
  go_wp2_with fail
  refine (cut_any _ 2 32 _ hn (by unfold I64; omega) (by unfold I64; omega)).mono ?_
  rintro e w' ⟨rfl, rfl⟩
  go_wp2_with fail
  refine (cut_any _ 0 2 _ hn (by unfold I64; omega) (by unfold I64; omega)).mono ?_
  rintro e w' ⟨rfl, rfl⟩
  go_wp2
  go_ret2
  exact ⟨by rw [f1.out, f2.out]; rfl, rfl⟩

set_option maxHeartbeats 400000 in
theorem rstate_any (n : Int) (hn : U64 n) (w : World) :
    Calls Try.prog 25 #[.int .u64 n] w fun e w' => e = .returned (.tuple #[.int .i64 (stGen n.toNat : Nat), .int .i64 (stState n.toNat : Nat)]) ∧ w = w' := by
  have h0 := hn.1
  have h1 : n ≤ 18446744073709551615 := by have := hn.2; omega
  have f1 : Hid (n / 4 % 4294967296 = (stGen n.toNat : Nat)) := by rw [Hid, stGen]; omega
  have f2 : Hid (n % 4 = (stState n.toNat : Nat)) := by rw [Hid, stState]; omega
  go_enter Try.func25, Try.ntmps25
  go_wp2
  go_ret2
  exact ⟨by rw [f1.out, f2.out]; rfl, rfl⟩

set_option maxHeartbeats 400000 in
theorem hmake_any (at_ slot gen : Int) (w : World) :
    Calls Try.prog 31 #[.int .i64 at_, .int .i64 slot, .int .i64 gen] w fun e w' => e = .returned (.int .u64 (hk at_ slot gen : Nat)) ∧ w = w' := by
  have hw1 := wrap_n slot
  have hw2 := wrap_n gen
  have hw3 := wrap_n at_
  have hfin : Hid (Fld.set (Fld.set (Fld.cut (Fld.u64 slot) 0 8) 8 32 (Fld.u64 gen)) 60 4 (Fld.u64 at_) = hk at_ slot gen) := by
    rw [Hid, Fld.c0_8, Fld.s8_32 (by omega), Fld.s60_4 (by omega)]
    unfold hk
    omega
  go_enter Try.func31, Try.ntmps31
  go_wp2_with fail
  refine (cut_any _ 0 8 _ (U64.nat (Fld.u64_lt slot)) (by unfold I64; omega) (by unfold I64; omega)).mono ?_
  rintro e w' ⟨rfl, rfl⟩
  go_wp2_with fail
  refine (set_any _ 8 32 _ _ (U64.nat (Fld.cut_lt _ _ _)) (by unfold I64; omega) (by unfold I64; omega) (U64.nat (Fld.u64_lt gen))).mono ?_
  rintro e w' ⟨rfl, rfl⟩
  go_wp2_with fail
  refine (set_any _ 60 4 _ _ (U64.nat (Fld.set_lt _ _ _ _)) (by unfold I64; omega) (by unfold I64; omega) (U64.nat (Fld.u64_lt at_))).mono ?_
  rintro e w' ⟨rfl, rfl⟩
  go_wp2
  go_ret
  exact ⟨ret_int (by rw [hfin.out]), rfl⟩

set_option maxHeartbeats 800000 in
theorem parts_any (n : Int) (hn : U64 n) (w : World) :
    Calls Try.prog 29 #[.int .u64 n] w fun e w' => e = .returned (hparts n.toNat) ∧ w = w' := by
  have h0 := hn.1
  have h1 := hn.lt
  have f1 : Hid (Fld.cut n.toNat 60 4 = hAt n.toNat) := by rw [Hid, Fld.c60_4, hAt]; omega
  have f2 : Hid (Fld.cut n.toNat 0 8 = hSlot n.toNat) := Fld.c0_8 _
  have f3 : Hid (Fld.cut n.toNat 8 32 = hGen n.toNat) := Fld.c8_32 _
  have b1 : Fld.cut n.toNat 60 4 ≤ 15 := by rw [f1.out, hAt]; omega
  have b2 : Fld.cut n.toNat 0 8 ≤ 255 := by rw [f2.out, hSlot]; omega
  have b3 : Fld.cut n.toNat 8 32 ≤ 4294967295 := by rw [f3.out, hGen]; omega
  have hmk : Hid (hk (Fld.cut n.toNat 60 4 : Nat) (Fld.cut n.toNat 0 8 : Nat) (Fld.cut n.toNat 8 32 : Nat) = n.toNat % 1099511627776 + 1152921504606846976 * (n.toNat / 1152921504606846976)) := by
    rw [Hid, hk, Fld.u64_nat (by omega), Fld.u64_nat (by omega), Fld.u64_nat (by omega), f1.out, f2.out, f3.out]
    unfold hAt hSlot hGen
    omega
  clear h1
  by_cases s0 : n.toNat % 256 = 0
  · have t0 : Hid (n.toNat % 256 = 0) := s0
    have t1 : (((Fld.cut n.toNat 0 8 : Nat) : Int) != 0) = false := by rw [f2.out, hSlot, s0]; rfl
    clear s0
    go_enter Try.func29, Try.ntmps29
    go_wp2_with fail
    refine (cut_any _ 60 4 _ hn (by unfold I64; omega) (by unfold I64; omega)).mono ?_
    rintro e w' ⟨rfl, rfl⟩
    go_wp2_with fail
    refine (cut_any _ 0 8 _ hn (by unfold I64; omega) (by unfold I64; omega)).mono ?_
    rintro e w' ⟨rfl, rfl⟩
    go_wp2_with fail
    refine (cut_any _ 8 32 _ hn (by unfold I64; omega) (by unfold I64; omega)).mono ?_
    rintro e w' ⟨rfl, rfl⟩
    go_wp2
    refine bodyPost_ret (v := hparts n.toNat) ?_ rfl ⟨rfl, rfl⟩
    have t3 : hright n.toNat = false := by rw [hright, decide_eq_false_iff_not]; have := t0.out; omega
    simp [results, Try.results29, hparts, t3, f1.out, f2.out, f3.out]
  · have t0 : Hid (0 < n.toNat % 256) := by rw [Hid]; omega
    have t1 : (((Fld.cut n.toNat 0 8 : Nat) : Int) != 0) = true := by rw [f2.out, hSlot]; simp; omega
    clear s0
    have t2 : Hid ((((hk (Fld.cut n.toNat 60 4 : Nat) (Fld.cut n.toNat 0 8 : Nat) (Fld.cut n.toNat 8 32 : Nat) : Nat) : Int) == n) = hright n.toNat) := by
      rw [Hid, hmk.out, Bool.eq_iff_iff, beq_iff_eq, hright, decide_eq_true_eq]
      have := t0.out
      have := hn.cast
      have := hn.lt
      omega
    go_enter Try.func29, Try.ntmps29
    go_wp2_with fail
    refine (cut_any _ 60 4 _ hn (by unfold I64; omega) (by unfold I64; omega)).mono ?_
    rintro e w' ⟨rfl, rfl⟩
    go_wp2_with fail
    refine (cut_any _ 0 8 _ hn (by unfold I64; omega) (by unfold I64; omega)).mono ?_
    rintro e w' ⟨rfl, rfl⟩
    go_wp2_with fail
    refine (cut_any _ 8 32 _ hn (by unfold I64; omega) (by unfold I64; omega)).mono ?_
    rintro e w' ⟨rfl, rfl⟩
    go_wp2_with fail
    refine (hmake_any _ _ _ _).mono ?_
    rintro e w' ⟨rfl, rfl⟩
    go_wp2
    refine bodyPost_ret (v := hparts n.toNat) ?_ rfl ⟨rfl, rfl⟩
    have t3 := t2.out
    rw [f1.out, f2.out, f3.out] at t3
    simp [results, Try.results29, hparts, f1.out, f2.out, f3.out, t3]

set_option maxHeartbeats 800000 in
theorem rparts_any (n : Int) (hn : U64 n) (w : World) :
    Calls Try.prog 30 #[.int .u64 n] w fun e w' => e = .returned (.tuple #[.agg #[.int .i64 (hAt n.toNat : Nat), .int .i64 (hSlot n.toNat : Nat), .int .i64 (hGen n.toNat : Nat)], .bool (hright n.toNat)]) ∧ Below w.heap.size w w' := by
  have h0 := hn.1
  have h1 : n ≤ 18446744073709551615 := by have := hn.2; omega
  have f1 : Hid (n / 1152921504606846976 = (hAt n.toNat : Nat)) := by rw [Hid, hAt]; omega
  have f2 : Hid (n % 256 = (hSlot n.toNat : Nat)) := by rw [Hid, hSlot]; omega
  have f3 : Hid (n / 256 % 4294967296 = (hGen n.toNat : Nat)) := by rw [Hid, hGen]; omega
  by_cases s0 : n % 256 = 0
  · have t0 : Hid (hright n.toNat = false) := by rw [Hid, hright, decide_eq_false_iff_not]; omega
    have t1 : ¬ (0 : Int) < n % 256 := by omega
    clear s0
    go_enter Try.func30, Try.ntmps30
    go_wp2
    refine bodyPost_ret (v := .tuple #[.agg #[.int .i64 (hAt n.toNat : Nat), .int .i64 (hSlot n.toNat : Nat), .int .i64 (hGen n.toNat : Nat)], .bool (hright n.toNat)]) ?_ rfl ⟨rfl, ?_⟩
    · simp [results, Try.results30, go_sem, f1.out, f2.out, f3.out, t0.out]
    · repeat (first | assumption | exact Below.refl _ _ | refine Below.drew ?_ | refine below_drewN ?_ _ | refine Below.setCell ?_ (by simp <;> omega) _ | refine Below.alloc ?_ (by simp <;> omega) _)
  · have t1 : (0 : Int) < n % 256 := by omega
    have t0 : Hid ((n / 1099511627776 % 1048576 == 0) = hright n.toNat) := by
      rw [Hid, Bool.eq_iff_iff, beq_iff_eq, hright, decide_eq_true_eq]
      omega
    clear s0
    go_enter Try.func30, Try.ntmps30
    go_wp2
    refine bodyPost_ret (v := .tuple #[.agg #[.int .i64 (hAt n.toNat : Nat), .int .i64 (hSlot n.toNat : Nat), .int .i64 (hGen n.toNat : Nat)], .bool (hright n.toNat)]) ?_ rfl ⟨rfl, ?_⟩
    · simp only [t0.out]
      simp [results, Try.results30, go_sem, f1.out, f2.out, f3.out]
    · repeat (first | assumption | exact Below.refl _ _ | refine Below.drew ?_ | refine below_drewN ?_ _ | refine Below.setCell ?_ (by simp <;> omega) _ | refine Below.alloc ?_ (by simp <;> omega) _)

set_option maxHeartbeats 800000 in
theorem rmake_any (a s g : Int) (w : World) :
    Calls Try.prog 32 #[.agg #[.int .i64 a, .int .i64 s, .int .i64 g]] w fun e w' => e = .returned (.int .u64 (hk a s g : Nat)) ∧ Below w.heap.size w w' := by
  have hw1 := wrap_n s
  have hw2 := wrap_n g
  have hw3 := wrap_n a
  have p1 : (0 : Int) ≤ ((Fld.u64 s : Nat) : Int) := by omega
  have p2 : (0 : Int) ≤ ((Fld.u64 g : Nat) : Int) := by omega
  have p3 : (0 : Int) ≤ ((Fld.u64 a : Nat) : Int) := by omega
  go_enter Try.func32, Try.ntmps32
  go_wp2
  go_ret
  refine ⟨ret_int (by unfold hk; omega), ?_⟩
  repeat (first | assumption | exact Below.refl _ _ | refine Below.drew ?_ | refine below_drewN ?_ _ | refine Below.setCell ?_ (by simp <;> omega) _ | refine Below.alloc ?_ (by simp <;> omega) _)

set_option maxHeartbeats 400000 in
theorem lives03 (w : World) :
    Calls Try.prog 28 #[] w fun e w' => e = .returned (.bool true) ∧ w = w' := by
  have e1 : ((hk 1 3 2 : Nat) : Int) = 1152921504606847491 := by decide +kernel
  have e2 : ((hdk 1 2 : Nat) : Int) = 6 := by decide +kernel
  go_enter Try.func28, Try.ntmps28
  go_wp2_with fail
  refine (hmake_any 1 3 2 _).mono ?_
  rintro e w' ⟨rfl, rfl⟩
  go_wp2_with (go_at_call 26; refine (head_any 1 2 _).mono ?_; rintro e w' ⟨rfl, rfl⟩)
  go_ret
  exact ⟨rfl, rfl⟩

set_option maxHeartbeats 400000 in
theorem heads_any (gen state n : Int) (hn : U64 n) (w : World) :
    Calls Try.prog 5 #[.int .i64 gen, .int .i64 state, .int .u64 n] w fun e w' => e = .returned (.bool true) ∧ w = w' := by
  go_enter Try.func5, Try.ntmps5
  go_wp2_with fail
  refine (state_any n hn _).mono ?_
  rintro e w' ⟨rfl, rfl⟩
  go_wp2_with fail
  refine (rstate_any n hn _).mono ?_
  rintro e w' ⟨rfl, rfl⟩
  go_wp2_with fail
  refine (head_any gen state _).mono ?_
  rintro e w' ⟨rfl, rfl⟩
  go_wp2_with fail
  refine (rhead_any gen state _).mono ?_
  rintro e w' ⟨rfl, rfl⟩
  go_wp2_with fail
  refine (lives03 _).mono ?_
  rintro e w' ⟨rfl, rfl⟩
  go_wp2
  go_ret
  exact ⟨rfl, rfl⟩

set_option maxHeartbeats 2000000 in
theorem hparts_walk (a s g n : Int) (hn : U64 n) (w : World) :
    Calls Try.prog 6 #[.agg #[.int .i64 a, .int .i64 s, .int .i64 g], .int .u64 n] w fun e w' => e = .returned (.bool true) ∧ Below w.heap.size w w' := by
  go_enter Try.func6, Try.ntmps6
  go_wp2_with fail
  refine (parts_any n hn _).mono ?_
  rintro e w1 ⟨rfl, rfl⟩
  simp only [hparts]
  go_wp2_with fail
  refine (rparts_any n hn _).mono ?_
  rintro e w2 ⟨rfl, hb2⟩
  go_wp2_with fail
  have fc00 := hb2.cell (p := ⟨w.heap.size, 0, none⟩) (by simp <;> omega); have ff00 := hb2.frozen (p := ⟨w.heap.size, 0, none⟩) (by simp <;> omega); have fc01 := hb2.cell (p := ⟨w.heap.size, 1, none⟩) (by simp <;> omega); have ff01 := hb2.frozen (p := ⟨w.heap.size, 1, none⟩) (by simp <;> omega); have fc02 := hb2.cell (p := ⟨w.heap.size, 2, none⟩) (by simp <;> omega); have ff02 := hb2.frozen (p := ⟨w.heap.size, 2, none⟩) (by simp <;> omega); have hz0 : w.heap.size < w2.heap.size := (by have := hb2.size; simp at this; omega)
  have hbb : Below w.heap.size w w2 := bnext ((Below.refl _ _).alloc (Nat.le_refl _) _) hb2
  obtain ⟨W0, hW0, k0, k1, k2, k3, k4, k5, kb⟩ : ∃ W0, w2.alloc (.cells #[.int .i64 (hAt n.toNat : Nat), .int .i64 (hSlot n.toNat : Nat), .int .i64 (hGen n.toNat : Nat)] 36) = W0 ∧ W0.cell? ⟨w.heap.size, 0, none⟩ = some (.int .i64 a) ∧ W0.cell? ⟨w.heap.size, 1, none⟩ = some (.int .i64 s) ∧ W0.cell? ⟨w.heap.size, 2, none⟩ = some (.int .i64 g) ∧ W0.cell? ⟨w2.heap.size, 0, none⟩ = some (.int .i64 (hAt n.toNat : Nat)) ∧ W0.cell? ⟨w2.heap.size, 1, none⟩ = some (.int .i64 (hSlot n.toNat : Nat)) ∧ W0.cell? ⟨w2.heap.size, 2, none⟩ = some (.int .i64 (hGen n.toNat : Nat)) ∧ Below w.heap.size w W0 :=
    ⟨_, rfl, by go_simp, by go_simp, by go_simp, by go_simp, by go_simp, by go_simp, hbb.alloc (by omega) _⟩
  rw [hW0]
  clear hW0
  go_region_held3 (fun w' => w'.cell? ⟨w.heap.size, 0, none⟩ = some (.int .i64 a) ∧ w'.cell? ⟨w.heap.size, 1, none⟩ = some (.int .i64 s) ∧ w'.cell? ⟨w.heap.size, 2, none⟩ = some (.int .i64 g) ∧ w'.cell? ⟨w2.heap.size, 0, none⟩ = some (.int .i64 (hAt n.toNat : Nat)) ∧ w'.cell? ⟨w2.heap.size, 1, none⟩ = some (.int .i64 (hSlot n.toNat : Nat)) ∧ w'.cell? ⟨w2.heap.size, 2, none⟩ = some (.int .i64 (hGen n.toNat : Nat)))
    (((try dsimp only); go_split_ands; (refine ⟨?_, ?_, ?_, ?_, ?_, ?_⟩) <;> ((repeat (refine keep_set ?_ (by dsimp only; omega))); (first | assumption | go_keep | exact keep_below (by assumption) hb5))))
    ((first | (go_at_call 31; refine (hmake_any a s g _).mono ?_; rintro e w' ⟨rfl, rfl⟩) | (go_at_call 32; refine (rmake_any a s g _).mono ?_; rintro e w5 ⟨rfl, hb5⟩) | (go_at_call 28; refine (lives03 _).mono ?_; rintro e w' ⟨rfl, rfl⟩)))
  go_wp2
  go_ret
  refine ⟨rfl, ?_⟩
  exact bnext (Below.drew kb) hb5
end Go.Proofs.Ytmjihjbedgbhbaa
