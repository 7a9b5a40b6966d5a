/- The contracts of a link's parts. -/
import Derived.Test.YtmjihjbedgbhbaaLinkA
namespace Go.Proofs.Ytmjihjbedgbhbaa
set_option linter.unusedVariables false
set_option linter.unusedSimpArgs false
open Go.RowKit

def lSlot (n : Nat) : Nat := n % 256
def lGen (n : Nat) : Nat := n / 256 % 4294967296
def lMarked (n : Nat) : Bool := decide (9223372036854775808 ≤ n)
def lMark (n : Nat) : Nat := n % 9223372036854775808 + 9223372036854775808
def lPlain (n : Nat) : Nat := n % 1099511627776
theorem lMark_lt (n : Nat) : lMark n < 2 ^ 64 := by unfold lMark; omega
theorem lPlain_lt (n : Nat) : lPlain n < 2 ^ 64 := by unfold lPlain; omega

set_option maxHeartbeats 400000 in
theorem slot_any (n : Int) (hn : U64 n) (w : World) :
    Calls Try.prog 34 #[.int .u64 n] w fun e w' => e = .returned (.int .i64 (lSlot n.toNat : Nat)) ∧ w = w' := by
  have f : Hid (Fld.cut n.toNat 0 8 = lSlot n.toNat) := Fld.c0_8 _
  have b : Fld.cut n.toNat 0 8 ≤ 255 := by rw [f.out, lSlot]; omega
  go_enter Try.func34, Try.ntmps34
  go_wp2_with fail
  refine (cut_any _ 0 8 _ hn (by unfold I64; omega) (by unfold I64; omega)).mono ?_
  rintro e w' ⟨rfl, rfl⟩
  go_wp2
  go_ret
  exact ⟨ret_int (by rw [f.out]), rfl⟩

set_option maxHeartbeats 400000 in
theorem gen_any (n : Int) (hn : U64 n) (w : World) :
    Calls Try.prog 35 #[.int .u64 n] w fun e w' => e = .returned (.int .i64 (lGen n.toNat : Nat)) ∧ w = w' := by
  have f : Hid (Fld.cut n.toNat 8 32 = lGen n.toNat) := Fld.c8_32 _
  have b : Fld.cut n.toNat 8 32 ≤ 4294967295 := by rw [f.out, lGen]; omega
  go_enter Try.func35, Try.ntmps35
  go_wp2_with fail
  refine (cut_any _ 8 32 _ hn (by unfold I64; omega) (by unfold I64; omega)).mono ?_
  rintro e w' ⟨rfl, rfl⟩
  go_wp2
  go_ret
  exact ⟨ret_int (by rw [f.out]), rfl⟩

set_option maxHeartbeats 400000 in
theorem marked_any (n : Int) (hn : U64 n) (w : World) :
    Calls Try.prog 36 #[.int .u64 n] w fun e w' => e = .returned (.bool (lMarked n.toNat)) ∧ w = w' := by
  have f : Hid (Fld.bitZ n.toNat 63 = lMarked n.toNat) := by
    have h2 : Fld.bitZ n.toNat ((63 : Nat) : Int) = lMarked n.toNat := by
      rw [Fld.bitZ_nat, Nat.testBit_eq_decide_div_mod_eq, lMarked, Bool.eq_iff_iff, decide_eq_true_eq, decide_eq_true_eq]
      have := hn.lt
      have e : (2 : Nat) ^ 63 = 9223372036854775808 := by decide
      rw [e]
      omega
    exact h2
  go_enter Try.func36, Try.ntmps36
  go_wp2_with fail
  refine (has_any _ 63 _ hn (by unfold I64; omega)).mono ?_
  rintro e w' ⟨rfl, rfl⟩
  go_wp2
  go_ret
  exact ⟨ret_bool (by rw [f.out]), rfl⟩

set_option maxHeartbeats 400000 in
theorem mark_any (n : Int) (hn : U64 n) (w : World) :
    Calls Try.prog 37 #[.int .u64 n] w fun e w' => e = .returned (.int .u64 (lMark n.toNat : Nat)) ∧ w = w' := by
  have f : Hid (Fld.set n.toNat 63 1 1 = lMark n.toNat) := by
    rw [Hid, Fld.s63_1 hn.lt]
    unfold lMark
    omega
  go_enter Try.func37, Try.ntmps37
  go_wp2_with fail
  refine (turn_any _ 63 true _ hn (by unfold I64; omega)).mono ?_
  rintro e w' ⟨rfl, rfl⟩
  go_wp2
  go_ret
  exact ⟨ret_int (by simp [f.out]), rfl⟩

set_option maxHeartbeats 400000 in
theorem plain_any (n : Int) (hn : U64 n) (w : World) :
    Calls Try.prog 38 #[.int .u64 n] w fun e w' => e = .returned (.int .u64 (lPlain n.toNat : Nat)) ∧ w = w' := by
  have f : Hid (lmk (lSlot n.toNat : Nat) (lGen n.toNat : Nat) = lPlain n.toNat) := by
    have h1 : lSlot n.toNat < 2 ^ 64 := by unfold lSlot; omega
    have h2 : lGen n.toNat < 2 ^ 64 := by unfold lGen; omega
    rw [Hid, lmk, Fld.u64_nat h1, Fld.u64_nat h2]
    unfold lSlot lGen lPlain
    omega
  go_enter Try.func38, Try.ntmps38
  go_wp2_with fail
  refine (slot_any n hn _).mono ?_
  rintro e w' ⟨rfl, rfl⟩
  go_wp2_with fail
  refine (gen_any n hn _).mono ?_
  rintro e w' ⟨rfl, rfl⟩
  go_wp2_with fail
  refine (link_make _ _ _).mono ?_
  rintro e w' ⟨rfl, rfl⟩
  go_wp2
  go_ret
  exact ⟨ret_int (by rw [f.out]), rfl⟩

set_option maxHeartbeats 400000 in
theorem same_any (n m : Int) (hn : U64 n) (hm : U64 m) (w : World) :
    Calls Try.prog 39 #[.int .u64 n, .int .u64 m] w fun e w' => e = .returned (.bool (decide (lPlain n.toNat = lPlain m.toNat))) ∧ w = w' := by
  have f : Hid ((((lPlain n.toNat : Nat) : Int) == ((lPlain m.toNat : Nat) : Int)) = decide (lPlain n.toNat = lPlain m.toNat)) := by
    rw [Hid, Bool.eq_iff_iff, beq_iff_eq, decide_eq_true_eq]
    omega
  go_enter Try.func39, Try.ntmps39
  go_wp2_with fail
  refine (plain_any n hn _).mono ?_
  rintro e w' ⟨rfl, rfl⟩
  go_wp2_with fail
  refine (plain_any m hm _).mono ?_
  rintro e w' ⟨rfl, rfl⟩
  go_wp2
  go_ret
  exact ⟨ret_bool (by simpa using f.out), rfl⟩

set_option maxHeartbeats 400000 in
theorem read02_any (n : Int) (hn : U64 n) (w : World) :
    Calls Try.prog 33 #[.int .u64 n] w fun e w' => e = .returned (.agg #[.int .i64 (lSlot n.toNat : Nat), .int .i64 (lGen n.toNat : Nat), .bool (lMarked n.toNat)]) ∧ Below w.heap.size w w' := by
  have h0 := hn.1
  have h1 : n ≤ 18446744073709551615 := by have := hn.2; omega
  have f1 : Hid (n % 256 = ((lSlot n.toNat : Nat) : Int)) := by rw [Hid, lSlot]; omega
  have f2 : Hid (n / 256 % 4294967296 = ((lGen n.toNat : Nat) : Int)) := by rw [Hid, lGen]; omega
  have f3 : Hid (decide (9223372036854775808 ≤ n) = lMarked n.toNat) := by rw [Hid, lMarked, Bool.eq_iff_iff, decide_eq_true_eq, decide_eq_true_eq]; omega
  go_enter Try.func33, Try.ntmps33
  go_wp2
  refine bodyPost_ret (v := .agg #[.int .i64 (lSlot n.toNat : Nat), .int .i64 (lGen n.toNat : Nat), .bool (lMarked n.toNat)]) ?_ rfl ⟨rfl, ?_⟩
  · simp [results, Try.results33, go_sem, f1.out, f2.out, f3.out]
  · repeat (first | assumption | exact Below.refl _ _ | refine Below.drew ?_ | refine below_drewN ?_ _ | refine Below.setCell ?_ (by simp <;> omega) _ | refine Below.alloc ?_ (by simp <;> omega) _)

theorem neq_l (a b : Int) (c : Bool) (w : World) : (binOp .neq 45 (.agg #[.int .i64 a, .int .i64 b, .bool c]) (.agg #[.int .i64 a, .int .i64 b, .bool c])).run Try.prog w = .ok (.bool false) w := by
  cases c <;> simp [go_sem]

set_option maxHeartbeats 2000000 in
set_option maxRecDepth 100000 in
theorem parts02_1 {n m K X A A' G G' : Int} {M M' s : Bool} (hn : U64 n) (hK : U64 K) (hA : (A == A') = true) (hG : (G == G') = true) (hs : s = true)
    (cslot : ∀ w : World, Calls Try.prog 34 #[.int .u64 n] w fun e w' => e = .returned (.int .i64 A) ∧ w = w')
    (cgen : ∀ w : World, Calls Try.prog 35 #[.int .u64 n] w fun e w' => e = .returned (.int .i64 G) ∧ w = w')
    (cmarked : ∀ w : World, Calls Try.prog 36 #[.int .u64 n] w fun e w' => e = .returned (.bool M) ∧ w = w')
    (cmark : ∀ w : World, Calls Try.prog 37 #[.int .u64 n] w fun e w' => e = .returned (.int .u64 K) ∧ w = w')
    (crn : ∀ w : World, Calls Try.prog 33 #[.int .u64 n] w fun e w' => e = .returned (.agg #[.int .i64 A, .int .i64 G, .bool M]) ∧ Below w.heap.size w w')
    (crm : ∀ w : World, Calls Try.prog 33 #[.int .u64 m] w fun e w' => e = .returned (.agg #[.int .i64 A', .int .i64 G', .bool M']) ∧ Below w.heap.size w w')
    (crk : ∀ w : World, Calls Try.prog 33 #[.int .u64 K] w fun e w' => e = .returned (.agg #[.int .i64 A, .int .i64 G, .bool true]) ∧ Below w.heap.size w w')
    (cplain : ∀ w : World, Calls Try.prog 38 #[.int .u64 n] w fun e w' => e = .returned (.int .u64 X) ∧ w = w')
    (cmake : ∀ w : World, Calls Try.prog 17 #[.int .i64 A, .int .i64 G] w fun e w' => e = .returned (.int .u64 X) ∧ w = w')
    (csame : ∀ w : World, Calls Try.prog 39 #[.int .u64 n, .int .u64 m] w fun e w' => e = .returned (.bool s) ∧ w = w')
    (clives : ∀ w : World, Calls Try.prog 18 #[] w fun e w' => e = .returned (.bool true) ∧ w = w')
    (e4 : K / 1099511627776 % 8388608 = n / 1099511627776 % 8388608) (w : World) :
    Calls Try.prog 7 #[.int .u64 n, .int .u64 m] w fun e w' => e = .returned (.bool true) ∧ Below w.heap.size w w' := by
  have h0 := hn.1
  have h1 : n ≤ 18446744073709551615 := by have := hn.2; omega
  have h2 := hK.1
  have h3 : K ≤ 18446744073709551615 := by have := hK.2; omega
  have hne := neq_l A G true
  go_enter Try.func7, Try.ntmps7
  go_wp2_with fail
  refine (crn _).mono ?_
  rintro e w1 ⟨rfl, hb1⟩
  go_wp2_with fail
  refine (crm _).mono ?_
  rintro e w2 ⟨rfl, hb2⟩
  have hbb : Below w.heap.size w w2 := bnext hb1 hb2
  go_wp2_with fail
  obtain ⟨W0, hW0, k0, k1, k2, k3, k4, k5, k6, k7, k8, kb⟩ : ∃ W0, ((w2.alloc (.cells #[.int .i64 A, .int .i64 G, .bool M] 45)).alloc (.cells #[.int .i64 A', .int .i64 G', .bool M'] 45)).alloc (.cells #[.int .i64 A, .int .i64 G, .bool true] 45) = W0 ∧ W0.cell? ⟨w2.heap.size, 0, none⟩ = some (.int .i64 A) ∧ W0.cell? ⟨w2.heap.size, 1, none⟩ = some (.int .i64 G) ∧ W0.cell? ⟨w2.heap.size, 2, none⟩ = some (.bool M) ∧ W0.cell? ⟨w2.heap.size + 1, 0, none⟩ = some (.int .i64 A') ∧ W0.cell? ⟨w2.heap.size + 1, 1, none⟩ = some (.int .i64 G') ∧ W0.cell? ⟨w2.heap.size + 1, 2, none⟩ = some (.bool M') ∧ W0.cell? ⟨w2.heap.size + 1 + 1, 0, none⟩ = some (.int .i64 A) ∧ W0.cell? ⟨w2.heap.size + 1 + 1, 1, none⟩ = some (.int .i64 G) ∧ W0.cell? ⟨w2.heap.size + 1 + 1, 2, none⟩ = some (.bool true) ∧ Below w.heap.size w W0 :=
    ⟨_, rfl, by go_simp, by go_simp, by go_simp, by go_simp, by go_simp, by go_simp, by go_simp, by go_simp, by go_simp, ((hbb.alloc hbb.size _).alloc (by have := hbb.size; simp; omega) _).alloc (by have := hbb.size; simp; omega) _⟩
  rw [hW0]
  clear hW0
  go_region_held3 (fun w' => w'.cell? ⟨w2.heap.size, 0, none⟩ = some (.int .i64 A) ∧ w'.cell? ⟨w2.heap.size, 1, none⟩ = some (.int .i64 G) ∧ w'.cell? ⟨w2.heap.size, 2, none⟩ = some (.bool M) ∧ w'.cell? ⟨w2.heap.size + 1, 0, none⟩ = some (.int .i64 A') ∧ w'.cell? ⟨w2.heap.size + 1, 1, none⟩ = some (.int .i64 G') ∧ w'.cell? ⟨w2.heap.size + 1, 2, none⟩ = some (.bool M') ∧ w'.cell? ⟨w2.heap.size + 1 + 1, 0, none⟩ = some (.int .i64 A) ∧ w'.cell? ⟨w2.heap.size + 1 + 1, 1, none⟩ = some (.int .i64 G) ∧ w'.cell? ⟨w2.heap.size + 1 + 1, 2, none⟩ = some (.bool true))
    (first | exact ⟨k0, k1, k2, k3, k4, k5, k6, k7, k8⟩ | exact ⟨keep_below (w := W0.drew) k0 hb5, keep_below (w := W0.drew) k1 hb5, keep_below (w := W0.drew) k2 hb5, keep_below (w := W0.drew) k3 hb5, keep_below (w := W0.drew) k4 hb5, keep_below (w := W0.drew) k5 hb5, keep_below (w := W0.drew) k6 hb5, keep_below (w := W0.drew) k7 hb5, keep_below (w := W0.drew) k8 hb5⟩ | ((try dsimp only); go_split_ands; (refine ⟨?_, ?_, ?_, ?_, ?_, ?_, ?_, ?_, ?_⟩) <;> ((repeat (refine keep_set ?_ (by dsimp only; omega))); (first | assumption | go_keep))))
    ((first | (go_at_call 34; refine (cslot _).mono ?_; rintro e w' ⟨rfl, rfl⟩) | (go_at_call 35; refine (cgen _).mono ?_; rintro e w' ⟨rfl, rfl⟩) | (go_at_call 36; refine (cmarked _).mono ?_; rintro e w' ⟨rfl, rfl⟩) | (go_at_call 37; refine (cmark _).mono ?_; rintro e w' ⟨rfl, rfl⟩) | (go_at_call 33; refine (crk _).mono ?_; rintro e w5 ⟨rfl, hb5⟩)))
  obtain ⟨j0, j1, j2, j3, j4, j5, j6, j7, j8⟩ : w5.cell? ⟨w2.heap.size, 0, none⟩ = some (.int .i64 A) ∧ w5.cell? ⟨w2.heap.size, 1, none⟩ = some (.int .i64 G) ∧ w5.cell? ⟨w2.heap.size, 2, none⟩ = some (.bool M) ∧ w5.cell? ⟨w2.heap.size + 1, 0, none⟩ = some (.int .i64 A') ∧ w5.cell? ⟨w2.heap.size + 1, 1, none⟩ = some (.int .i64 G') ∧ w5.cell? ⟨w2.heap.size + 1, 2, none⟩ = some (.bool M') ∧ w5.cell? ⟨w2.heap.size + 1 + 1, 0, none⟩ = some (.int .i64 A) ∧ w5.cell? ⟨w2.heap.size + 1 + 1, 1, none⟩ = some (.int .i64 G) ∧ w5.cell? ⟨w2.heap.size + 1 + 1, 2, none⟩ = some (.bool true) := by assumption
  clear k0 k1 k2 k3 k4 k5 k6 k7 k8
  go_wp2_with fail
  refine (cmark _).mono ?_
  rintro e w' ⟨rfl, rfl⟩
  go_wp2_with fail
  go_quiet ((first | (go_at_call 38; exact q_same (cplain _)) | (go_at_call 17; exact q_same (cmake _)) | (go_at_call 39; exact q_same (csame _)) | (go_at_call 18; exact q_same (clives _))))
  go_wp2
  go_ret
  exact ⟨rfl, below_drewN (bnext (Below.drew kb) hb5) _⟩

set_option maxHeartbeats 2000000 in
set_option maxRecDepth 100000 in
theorem parts02_2 {n m K X A A' G G' : Int} {M M' s : Bool} (hn : U64 n) (hK : U64 K) (hA : (A == A') = true) (hG : (G == G') = false) (hs : s = false)
    (cslot : ∀ w : World, Calls Try.prog 34 #[.int .u64 n] w fun e w' => e = .returned (.int .i64 A) ∧ w = w')
    (cgen : ∀ w : World, Calls Try.prog 35 #[.int .u64 n] w fun e w' => e = .returned (.int .i64 G) ∧ w = w')
    (cmarked : ∀ w : World, Calls Try.prog 36 #[.int .u64 n] w fun e w' => e = .returned (.bool M) ∧ w = w')
    (cmark : ∀ w : World, Calls Try.prog 37 #[.int .u64 n] w fun e w' => e = .returned (.int .u64 K) ∧ w = w')
    (crn : ∀ w : World, Calls Try.prog 33 #[.int .u64 n] w fun e w' => e = .returned (.agg #[.int .i64 A, .int .i64 G, .bool M]) ∧ Below w.heap.size w w')
    (crm : ∀ w : World, Calls Try.prog 33 #[.int .u64 m] w fun e w' => e = .returned (.agg #[.int .i64 A', .int .i64 G', .bool M']) ∧ Below w.heap.size w w')
    (crk : ∀ w : World, Calls Try.prog 33 #[.int .u64 K] w fun e w' => e = .returned (.agg #[.int .i64 A, .int .i64 G, .bool true]) ∧ Below w.heap.size w w')
    (cplain : ∀ w : World, Calls Try.prog 38 #[.int .u64 n] w fun e w' => e = .returned (.int .u64 X) ∧ w = w')
    (cmake : ∀ w : World, Calls Try.prog 17 #[.int .i64 A, .int .i64 G] w fun e w' => e = .returned (.int .u64 X) ∧ w = w')
    (csame : ∀ w : World, Calls Try.prog 39 #[.int .u64 n, .int .u64 m] w fun e w' => e = .returned (.bool s) ∧ w = w')
    (clives : ∀ w : World, Calls Try.prog 18 #[] w fun e w' => e = .returned (.bool true) ∧ w = w')
    (e4 : K / 1099511627776 % 8388608 = n / 1099511627776 % 8388608) (w : World) :
    Calls Try.prog 7 #[.int .u64 n, .int .u64 m] w fun e w' => e = .returned (.bool true) ∧ Below w.heap.size w w' := by
  have h0 := hn.1
  have h1 : n ≤ 18446744073709551615 := by have := hn.2; omega
  have h2 := hK.1
  have h3 : K ≤ 18446744073709551615 := by have := hK.2; omega
  have hne := neq_l A G true
  go_enter Try.func7, Try.ntmps7
  go_wp2_with fail
  refine (crn _).mono ?_
  rintro e w1 ⟨rfl, hb1⟩
  go_wp2_with fail
  refine (crm _).mono ?_
  rintro e w2 ⟨rfl, hb2⟩
  have hbb : Below w.heap.size w w2 := bnext hb1 hb2
  go_wp2_with fail
  obtain ⟨W0, hW0, k0, k1, k2, k3, k4, k5, k6, k7, k8, kb⟩ : ∃ W0, ((w2.alloc (.cells #[.int .i64 A, .int .i64 G, .bool M] 45)).alloc (.cells #[.int .i64 A', .int .i64 G', .bool M'] 45)).alloc (.cells #[.int .i64 A, .int .i64 G, .bool true] 45) = W0 ∧ W0.cell? ⟨w2.heap.size, 0, none⟩ = some (.int .i64 A) ∧ W0.cell? ⟨w2.heap.size, 1, none⟩ = some (.int .i64 G) ∧ W0.cell? ⟨w2.heap.size, 2, none⟩ = some (.bool M) ∧ W0.cell? ⟨w2.heap.size + 1, 0, none⟩ = some (.int .i64 A') ∧ W0.cell? ⟨w2.heap.size + 1, 1, none⟩ = some (.int .i64 G') ∧ W0.cell? ⟨w2.heap.size + 1, 2, none⟩ = some (.bool M') ∧ W0.cell? ⟨w2.heap.size + 1 + 1, 0, none⟩ = some (.int .i64 A) ∧ W0.cell? ⟨w2.heap.size + 1 + 1, 1, none⟩ = some (.int .i64 G) ∧ W0.cell? ⟨w2.heap.size + 1 + 1, 2, none⟩ = some (.bool true) ∧ Below w.heap.size w W0 :=
    ⟨_, rfl, by go_simp, by go_simp, by go_simp, by go_simp, by go_simp, by go_simp, by go_simp, by go_simp, by go_simp, ((hbb.alloc hbb.size _).alloc (by have := hbb.size; simp; omega) _).alloc (by have := hbb.size; simp; omega) _⟩
  rw [hW0]
  clear hW0
  go_region_held3 (fun w' => w'.cell? ⟨w2.heap.size, 0, none⟩ = some (.int .i64 A) ∧ w'.cell? ⟨w2.heap.size, 1, none⟩ = some (.int .i64 G) ∧ w'.cell? ⟨w2.heap.size, 2, none⟩ = some (.bool M) ∧ w'.cell? ⟨w2.heap.size + 1, 0, none⟩ = some (.int .i64 A') ∧ w'.cell? ⟨w2.heap.size + 1, 1, none⟩ = some (.int .i64 G') ∧ w'.cell? ⟨w2.heap.size + 1, 2, none⟩ = some (.bool M') ∧ w'.cell? ⟨w2.heap.size + 1 + 1, 0, none⟩ = some (.int .i64 A) ∧ w'.cell? ⟨w2.heap.size + 1 + 1, 1, none⟩ = some (.int .i64 G) ∧ w'.cell? ⟨w2.heap.size + 1 + 1, 2, none⟩ = some (.bool true))
    (first | exact ⟨k0, k1, k2, k3, k4, k5, k6, k7, k8⟩ | exact ⟨keep_below (w := W0.drew) k0 hb5, keep_below (w := W0.drew) k1 hb5, keep_below (w := W0.drew) k2 hb5, keep_below (w := W0.drew) k3 hb5, keep_below (w := W0.drew) k4 hb5, keep_below (w := W0.drew) k5 hb5, keep_below (w := W0.drew) k6 hb5, keep_below (w := W0.drew) k7 hb5, keep_below (w := W0.drew) k8 hb5⟩ | ((try dsimp only); go_split_ands; (refine ⟨?_, ?_, ?_, ?_, ?_, ?_, ?_, ?_, ?_⟩) <;> ((repeat (refine keep_set ?_ (by dsimp only; omega))); (first | assumption | go_keep))))
    ((first | (go_at_call 34; refine (cslot _).mono ?_; rintro e w' ⟨rfl, rfl⟩) | (go_at_call 35; refine (cgen _).mono ?_; rintro e w' ⟨rfl, rfl⟩) | (go_at_call 36; refine (cmarked _).mono ?_; rintro e w' ⟨rfl, rfl⟩) | (go_at_call 37; refine (cmark _).mono ?_; rintro e w' ⟨rfl, rfl⟩) | (go_at_call 33; refine (crk _).mono ?_; rintro e w5 ⟨rfl, hb5⟩)))
  obtain ⟨j0, j1, j2, j3, j4, j5, j6, j7, j8⟩ : w5.cell? ⟨w2.heap.size, 0, none⟩ = some (.int .i64 A) ∧ w5.cell? ⟨w2.heap.size, 1, none⟩ = some (.int .i64 G) ∧ w5.cell? ⟨w2.heap.size, 2, none⟩ = some (.bool M) ∧ w5.cell? ⟨w2.heap.size + 1, 0, none⟩ = some (.int .i64 A') ∧ w5.cell? ⟨w2.heap.size + 1, 1, none⟩ = some (.int .i64 G') ∧ w5.cell? ⟨w2.heap.size + 1, 2, none⟩ = some (.bool M') ∧ w5.cell? ⟨w2.heap.size + 1 + 1, 0, none⟩ = some (.int .i64 A) ∧ w5.cell? ⟨w2.heap.size + 1 + 1, 1, none⟩ = some (.int .i64 G) ∧ w5.cell? ⟨w2.heap.size + 1 + 1, 2, none⟩ = some (.bool true) := by assumption
  clear k0 k1 k2 k3 k4 k5 k6 k7 k8
  go_wp2_with fail
  refine (cmark _).mono ?_
  rintro e w' ⟨rfl, rfl⟩
  go_wp2_with fail
  go_quiet ((first | (go_at_call 38; exact q_same (cplain _)) | (go_at_call 17; exact q_same (cmake _)) | (go_at_call 39; exact q_same (csame _)) | (go_at_call 18; exact q_same (clives _))))
  go_wp2
  go_ret
  exact ⟨rfl, below_drewN (bnext (Below.drew kb) hb5) _⟩

set_option maxHeartbeats 2000000 in
set_option maxRecDepth 100000 in
theorem parts02_3 {n m K X A A' G G' : Int} {M M' s : Bool} (hn : U64 n) (hK : U64 K) (hA : (A == A') = false) (hA2 : decide (A = A') = false) (hs : s = false)
    (cslot : ∀ w : World, Calls Try.prog 34 #[.int .u64 n] w fun e w' => e = .returned (.int .i64 A) ∧ w = w')
    (cgen : ∀ w : World, Calls Try.prog 35 #[.int .u64 n] w fun e w' => e = .returned (.int .i64 G) ∧ w = w')
    (cmarked : ∀ w : World, Calls Try.prog 36 #[.int .u64 n] w fun e w' => e = .returned (.bool M) ∧ w = w')
    (cmark : ∀ w : World, Calls Try.prog 37 #[.int .u64 n] w fun e w' => e = .returned (.int .u64 K) ∧ w = w')
    (crn : ∀ w : World, Calls Try.prog 33 #[.int .u64 n] w fun e w' => e = .returned (.agg #[.int .i64 A, .int .i64 G, .bool M]) ∧ Below w.heap.size w w')
    (crm : ∀ w : World, Calls Try.prog 33 #[.int .u64 m] w fun e w' => e = .returned (.agg #[.int .i64 A', .int .i64 G', .bool M']) ∧ Below w.heap.size w w')
    (crk : ∀ w : World, Calls Try.prog 33 #[.int .u64 K] w fun e w' => e = .returned (.agg #[.int .i64 A, .int .i64 G, .bool true]) ∧ Below w.heap.size w w')
    (cplain : ∀ w : World, Calls Try.prog 38 #[.int .u64 n] w fun e w' => e = .returned (.int .u64 X) ∧ w = w')
    (cmake : ∀ w : World, Calls Try.prog 17 #[.int .i64 A, .int .i64 G] w fun e w' => e = .returned (.int .u64 X) ∧ w = w')
    (csame : ∀ w : World, Calls Try.prog 39 #[.int .u64 n, .int .u64 m] w fun e w' => e = .returned (.bool s) ∧ w = w')
    (clives : ∀ w : World, Calls Try.prog 18 #[] w fun e w' => e = .returned (.bool true) ∧ w = w')
    (e4 : K / 1099511627776 % 8388608 = n / 1099511627776 % 8388608) (w : World) :
    Calls Try.prog 7 #[.int .u64 n, .int .u64 m] w fun e w' => e = .returned (.bool true) ∧ Below w.heap.size w w' := by
  have h0 := hn.1
  have h1 : n ≤ 18446744073709551615 := by have := hn.2; omega
  have h2 := hK.1
  have h3 : K ≤ 18446744073709551615 := by have := hK.2; omega
  have hne := neq_l A G true
  go_enter Try.func7, Try.ntmps7
  go_wp2_with fail
  refine (crn _).mono ?_
  rintro e w1 ⟨rfl, hb1⟩
  go_wp2_with fail
  refine (crm _).mono ?_
  rintro e w2 ⟨rfl, hb2⟩
  have hbb : Below w.heap.size w w2 := bnext hb1 hb2
  go_wp2_with fail
  obtain ⟨W0, hW0, k0, k1, k2, k3, k4, k5, k6, k7, k8, kb⟩ : ∃ W0, ((w2.alloc (.cells #[.int .i64 A, .int .i64 G, .bool M] 45)).alloc (.cells #[.int .i64 A', .int .i64 G', .bool M'] 45)).alloc (.cells #[.int .i64 A, .int .i64 G, .bool true] 45) = W0 ∧ W0.cell? ⟨w2.heap.size, 0, none⟩ = some (.int .i64 A) ∧ W0.cell? ⟨w2.heap.size, 1, none⟩ = some (.int .i64 G) ∧ W0.cell? ⟨w2.heap.size, 2, none⟩ = some (.bool M) ∧ W0.cell? ⟨w2.heap.size + 1, 0, none⟩ = some (.int .i64 A') ∧ W0.cell? ⟨w2.heap.size + 1, 1, none⟩ = some (.int .i64 G') ∧ W0.cell? ⟨w2.heap.size + 1, 2, none⟩ = some (.bool M') ∧ W0.cell? ⟨w2.heap.size + 1 + 1, 0, none⟩ = some (.int .i64 A) ∧ W0.cell? ⟨w2.heap.size + 1 + 1, 1, none⟩ = some (.int .i64 G) ∧ W0.cell? ⟨w2.heap.size + 1 + 1, 2, none⟩ = some (.bool true) ∧ Below w.heap.size w W0 :=
    ⟨_, rfl, by go_simp, by go_simp, by go_simp, by go_simp, by go_simp, by go_simp, by go_simp, by go_simp, by go_simp, ((hbb.alloc hbb.size _).alloc (by have := hbb.size; simp; omega) _).alloc (by have := hbb.size; simp; omega) _⟩
  rw [hW0]
  clear hW0
  go_region_held3 (fun w' => w'.cell? ⟨w2.heap.size, 0, none⟩ = some (.int .i64 A) ∧ w'.cell? ⟨w2.heap.size, 1, none⟩ = some (.int .i64 G) ∧ w'.cell? ⟨w2.heap.size, 2, none⟩ = some (.bool M) ∧ w'.cell? ⟨w2.heap.size + 1, 0, none⟩ = some (.int .i64 A') ∧ w'.cell? ⟨w2.heap.size + 1, 1, none⟩ = some (.int .i64 G') ∧ w'.cell? ⟨w2.heap.size + 1, 2, none⟩ = some (.bool M') ∧ w'.cell? ⟨w2.heap.size + 1 + 1, 0, none⟩ = some (.int .i64 A) ∧ w'.cell? ⟨w2.heap.size + 1 + 1, 1, none⟩ = some (.int .i64 G) ∧ w'.cell? ⟨w2.heap.size + 1 + 1, 2, none⟩ = some (.bool true))
    (first | exact ⟨k0, k1, k2, k3, k4, k5, k6, k7, k8⟩ | exact ⟨keep_below (w := W0.drew) k0 hb5, keep_below (w := W0.drew) k1 hb5, keep_below (w := W0.drew) k2 hb5, keep_below (w := W0.drew) k3 hb5, keep_below (w := W0.drew) k4 hb5, keep_below (w := W0.drew) k5 hb5, keep_below (w := W0.drew) k6 hb5, keep_below (w := W0.drew) k7 hb5, keep_below (w := W0.drew) k8 hb5⟩ | ((try dsimp only); go_split_ands; (refine ⟨?_, ?_, ?_, ?_, ?_, ?_, ?_, ?_, ?_⟩) <;> ((repeat (refine keep_set ?_ (by dsimp only; omega))); (first | assumption | go_keep))))
    ((first | (go_at_call 34; refine (cslot _).mono ?_; rintro e w' ⟨rfl, rfl⟩) | (go_at_call 35; refine (cgen _).mono ?_; rintro e w' ⟨rfl, rfl⟩) | (go_at_call 36; refine (cmarked _).mono ?_; rintro e w' ⟨rfl, rfl⟩) | (go_at_call 37; refine (cmark _).mono ?_; rintro e w' ⟨rfl, rfl⟩) | (go_at_call 33; refine (crk _).mono ?_; rintro e w5 ⟨rfl, hb5⟩)))
  obtain ⟨j0, j1, j2, j3, j4, j5, j6, j7, j8⟩ : w5.cell? ⟨w2.heap.size, 0, none⟩ = some (.int .i64 A) ∧ w5.cell? ⟨w2.heap.size, 1, none⟩ = some (.int .i64 G) ∧ w5.cell? ⟨w2.heap.size, 2, none⟩ = some (.bool M) ∧ w5.cell? ⟨w2.heap.size + 1, 0, none⟩ = some (.int .i64 A') ∧ w5.cell? ⟨w2.heap.size + 1, 1, none⟩ = some (.int .i64 G') ∧ w5.cell? ⟨w2.heap.size + 1, 2, none⟩ = some (.bool M') ∧ w5.cell? ⟨w2.heap.size + 1 + 1, 0, none⟩ = some (.int .i64 A) ∧ w5.cell? ⟨w2.heap.size + 1 + 1, 1, none⟩ = some (.int .i64 G) ∧ w5.cell? ⟨w2.heap.size + 1 + 1, 2, none⟩ = some (.bool true) := by assumption
  clear k0 k1 k2 k3 k4 k5 k6 k7 k8
  go_wp2_with fail
  refine (cmark _).mono ?_
  rintro e w' ⟨rfl, rfl⟩
  go_wp2_with fail
  go_quiet ((first | (go_at_call 38; exact q_same (cplain _)) | (go_at_call 17; exact q_same (cmake _)) | (go_at_call 39; exact q_same (csame _)) | (go_at_call 18; exact q_same (clives _))))
  go_wp2
  go_ret
  exact ⟨rfl, below_drewN (bnext (Below.drew kb) hb5) _⟩

theorem parts02_walk (n m : Int) (hn : U64 n) (hm : U64 m) (w : World) :
    Calls Try.prog 7 #[.int .u64 n, .int .u64 m] w fun e w' => e = .returned (.bool true) ∧ Below w.heap.size w w' := by
  have e1 : lSlot (lMark n.toNat) = lSlot n.toNat := by unfold lSlot lMark; omega
  have e2 : lGen (lMark n.toNat) = lGen n.toNat := by unfold lGen lMark; omega
  have e3 : lMarked (lMark n.toNat) = true := by unfold lMarked lMark; rw [decide_eq_true_eq]; omega
  have h0 := hn.1
  have h1 := hn.2
  have e4 : ((lMark n.toNat : Nat) : Int) / 1099511627776 % 8388608 = n / 1099511627776 % 8388608 := by unfold lMark; omega
  have e5 : lmk (lSlot n.toNat : Nat) (lGen n.toNat : Nat) = lPlain n.toNat := by
    have h1 : lSlot n.toNat < 2 ^ 64 := by unfold lSlot; omega
    have h2 : lGen n.toNat < 2 ^ 64 := by unfold lGen; omega
    rw [lmk, Fld.u64_nat h1, Fld.u64_nat h2]
    unfold lSlot lGen lPlain
    omega
  have hr := read02_any ((lMark n.toNat : Nat) : Int) (U64.nat (lMark_lt _))
  rw [Int.toNat_natCast, e1, e2, e3] at hr
  have hmk := ref_make (lSlot n.toNat : Nat) (lGen n.toNat : Nat)
  rw [e5] at hmk
  have hs := fun w => same_any n m hn hm w
  by_cases q1 : lSlot n.toNat = lSlot m.toNat
  · by_cases q2 : lGen n.toNat = lGen m.toNat
    · exact parts02_1 hn (U64.nat (lMark_lt _)) (by rw [q1, beq_self_eq_true]) (by rw [q2, beq_self_eq_true]) (decide_eq_true (by unfold lSlot at q1; unfold lGen at q2; unfold lPlain; omega)) (slot_any n hn) (gen_any n hn) (marked_any n hn) (mark_any n hn) (read02_any n hn) (read02_any m hm) hr (plain_any n hn) hmk hs lives02 e4 w
    · exact parts02_2 hn (U64.nat (lMark_lt _)) (by rw [q1, beq_self_eq_true]) (by rw [beq_eq_false_iff_ne]; omega) (decide_eq_false (by unfold lGen at q2; unfold lPlain; omega)) (slot_any n hn) (gen_any n hn) (marked_any n hn) (mark_any n hn) (read02_any n hn) (read02_any m hm) hr (plain_any n hn) hmk hs lives02 e4 w
  · exact parts02_3 hn (U64.nat (lMark_lt _)) (by rw [beq_eq_false_iff_ne]; omega) (decide_eq_false (by omega)) (decide_eq_false (by unfold lSlot at q1; unfold lPlain; omega)) (slot_any n hn) (gen_any n hn) (marked_any n hn) (mark_any n hn) (read02_any n hn) (read02_any m hm) hr (plain_any n hn) hmk hs lives02 e4 w
end Go.Proofs.Ytmjihjbedgbhbaa
