/- Fields and links: the contracts that a warden rests on. -/
import Derived.Test.YtlnnnaefmgikpaaBase
import Derived.Test.YtlnnnaefmgikpaaFld
import Derived.Test.YtlnnnaefmgikpaaProg
namespace Go.Proofs.Ytlnnnaefmgikpaa
set_option linter.unusedVariables false
set_option linter.unusedSimpArgs false
open Go.RowKit

/-- A word of 64 bits. -/
def U64 (n : Int) : Prop := 0 ≤ n ∧ n < 18446744073709551616
theorem U64.nat {n : Nat} (h : n < 2 ^ 64) : U64 (n : Int) := ⟨by omega, by omega⟩
theorem U64.lt {n : Int} (h : U64 n) : n.toNat < 2 ^ 64 := by unfold U64 at h; omega
theorem U64.cast {n : Int} (h : U64 n) : ((n.toNat : Nat) : Int) = n := by unfold U64 at h; omega
/-- A whole number of 64 bits. -/
def I64 (n : Int) : Prop := -9223372036854775808 ≤ n ∧ n ≤ 9223372036854775807

theorem mask_fin {a s : Int} (X f l : Int) (hX : X = 18446744073709551615 / 2 ^ (64 - (l - f)).toNat * 2 ^ f.toNat) (h1 : 1 ≤ s) (h2 : a < 64) (h3 : 0 < a + s) (hf : f = max 0 a) (hl : l = min 64 (a + s)) :
    IntKind.u64.wrap X = ((Fld.mask a s : Nat) : Int) := by
  rw [← Fld.mask_int f l h1 h2 h3 hf hl, hX, IntKind.wrap_u64]
  simp
theorem mask_full {a s : Int} (h1 : 1 ≤ s) (h2 : a ≤ 0) (h3 : 64 ≤ a + s) : (18446744073709551615 : Int) = ((Fld.mask a s : Nat) : Int) := by
  rw [← Fld.mask_int 0 64 h1 (by omega) (by omega) (by omega) (by omega)]
  simp
theorem shift_up {n : Int} (hn : U64 n) {b : Int} (h1 : 0 ≤ b) (h2 : b < 64) : IntKind.u64.wrap (n * 2 ^ b.toNat) = ((Fld.shift n.toNat b : Nat) : Int) := by
  unfold Fld.shift
  rw [if_neg (by omega), if_pos h1, IntKind.wrap_u64]
  have := hn.cast
  simp [this]
theorem shift_down {n : Int} (hn : U64 n) {b : Int} (h1 : b < 0) (h2 : -64 < b) : n / 2 ^ (-b).toNat = ((Fld.shift n.toNat b : Nat) : Int) := by
  unfold Fld.shift
  rw [if_neg (by omega), if_neg (by omega)]
  have := hn.cast
  simp [this]

set_option maxHeartbeats 400000 in
theorem mask_any (a s : Int) (w : World) (ha : I64 a) (hs : I64 s) :
    Calls Try.prog 38 #[.int .i64 a, .int .i64 s] w fun e w' => e = .returned (.int .u64 (Fld.mask a s : Nat)) ∧ w = w' := by
  unfold I64 at ha hs
  obtain ⟨ha1, ha2⟩ := ha
  obtain ⟨hs1, hs2⟩ := hs
  by_cases h1 : s < 1
  · have hm : Hid (Fld.mask a s = 0) := Fld.mask_none (.inl h1)
    go_enter Try.func38, Try.ntmps38
    go_wp2
    go_ret
    exact ⟨ret_int (by rw [hm.out]; rfl), rfl⟩
  · by_cases h2 : 64 ≤ a
    · have hm : Hid (Fld.mask a s = 0) := Fld.mask_none (.inr (.inl h2))
      go_enter Try.func38, Try.ntmps38
      go_wp2
      go_ret
      exact ⟨ret_int (by rw [hm.out]; rfl), rfl⟩
    · by_cases h3 : a < 0
      · by_cases h4 : a + s ≤ 0
        · have hm : Hid (Fld.mask a s = 0) := Fld.mask_none (.inr (.inr h4))
          go_enter Try.func38, Try.ntmps38
          go_wp2
          go_ret
          exact ⟨ret_int (by rw [hm.out]; rfl), rfl⟩
        · by_cases h6 : a + s < 64
          · go_enter Try.func38, Try.ntmps38
            go_wp2
            go_ret
            exact ⟨ret_int (mask_fin _ 0 (a + s) (by simp) (by omega) (by omega) (by omega) (by omega) (by omega)), rfl⟩
          · go_enter Try.func38, Try.ntmps38
            go_wp2
            go_ret
            exact ⟨ret_int (mask_full (by omega) (by omega) (by omega)), rfl⟩
      · by_cases h5 : s < 64 - a
        · by_cases h7 : a = 0
          · subst h7
            go_enter Try.func38, Try.ntmps38
            go_wp2
            go_ret
            exact ⟨ret_int (mask_fin _ 0 s (by simp) (by omega) (by omega) (by omega) (by omega) (by omega)), rfl⟩
          · have h8 : 0 < a := by omega
            have h9 : a + s < 64 := by omega
            clear h7
            go_enter Try.func38, Try.ntmps38
            go_wp2
            go_ret
            exact ⟨ret_int (mask_fin _ a (a + s) (by simp) (by omega) (by omega) (by omega) (by omega) (by omega)), rfl⟩
        · by_cases h7 : a = 0
          · subst h7
            go_enter Try.func38, Try.ntmps38
            go_wp2
            go_ret
            exact ⟨ret_int (mask_full (by omega) (by omega) (by omega)), rfl⟩
          · have h8 : 0 < a := by omega
            clear h7
            go_enter Try.func38, Try.ntmps38
            go_wp2
            go_ret
            exact ⟨ret_int (mask_fin _ a 64 (by simp) (by omega) (by omega) (by omega) (by omega) (by omega)), rfl⟩

set_option maxHeartbeats 400000 in
theorem shift_any (n b : Int) (w : World) (hn : U64 n) (hb : I64 b) :
    Calls Try.prog 39 #[.int .u64 n, .int .i64 b] w fun e w' => e = .returned (.int .u64 (Fld.shift n.toNat b : Nat)) ∧ w = w' := by
  unfold I64 at hb
  obtain ⟨hb1, hb2⟩ := hb
  by_cases h1 : 64 ≤ b
  · have hm : Hid (Fld.shift n.toNat b = 0) := by unfold Fld.shift; exact if_pos (.inl h1)
    go_enter Try.func39, Try.ntmps39
    go_wp2
    go_ret
    exact ⟨ret_int (by rw [hm.out]; rfl), rfl⟩
  · by_cases h2 : b ≤ -64
    · have hm : Hid (Fld.shift n.toNat b = 0) := by unfold Fld.shift; exact if_pos (.inr h2)
      go_enter Try.func39, Try.ntmps39
      go_wp2
      go_ret
      exact ⟨ret_int (by rw [hm.out]; rfl), rfl⟩
    · by_cases h3 : 0 ≤ b
      · go_enter Try.func39, Try.ntmps39
        go_wp2
        go_ret
        exact ⟨ret_int (shift_up hn h3 (by omega)), rfl⟩
      · go_enter Try.func39, Try.ntmps39
        go_wp2
        go_ret
        exact ⟨ret_int (shift_down hn (by omega) (by omega)), rfl⟩

theorem u64_band {m : Int} {k : Nat} (hm : U64 m) (hk : k < 2 ^ 64) : bits .and .u64 m (k : Int) = ((m.toNat &&& k : Nat) : Int) := by
  have h := u64_and m k hm.1 hm.2 (by omega) (by omega)
  simpa using h

set_option maxHeartbeats 400000 in
theorem cut_any (n a s : Int) (w : World) (hn : U64 n) (ha : I64 a) (hs : I64 s) :
    Calls Try.prog 32 #[.int .u64 n, .int .i64 a, .int .i64 s] w fun e w' => e = .returned (.int .u64 (Fld.cut n.toNat a s : Nat)) ∧ w = w' := by
  have hc : Hid (Fld.shift (n.toNat &&& Fld.mask a s) (-(max (-64) a)) = Fld.cut n.toNat a s) := Fld.cut_shift hn.lt a s
  have hlt : n.toNat &&& Fld.mask a s < 2 ^ 64 := Nat.and_lt_two_pow _ (Fld.mask_lt _ _)
  have hand : bits .and .u64 n ((Fld.mask a s : Nat) : Int) = ((n.toNat &&& Fld.mask a s : Nat) : Int) := u64_band hn (Fld.mask_lt _ _)
  have ha' := ha
  unfold I64 at ha'
  obtain ⟨ha1, ha2⟩ := ha'
  by_cases h1 : a ≤ -64
  · have hmx : Hid (-(max (-64) a) = 64) := by rw [Hid]; omega
    go_enter Try.func32, Try.ntmps32
    go_wp2_with fail
    refine (mask_any a s _ ha hs).mono ?_
    rintro e w' ⟨rfl, rfl⟩
    go_wp2_with fail
    refine (shift_any _ (64) _ (U64.nat hlt) (by unfold I64; omega)).mono ?_
    rintro e w' ⟨rfl, rfl⟩
    go_wp2
    go_ret
    refine ⟨ret_int ?_, rfl⟩
    have e1 := hc.out
    rw [hmx.out] at e1
    rw [← e1]
  · have hmx : Hid (-(max (-64) a) = -a) := by rw [Hid]; omega
    go_enter Try.func32, Try.ntmps32
    go_wp2_with fail
    refine (mask_any a s _ ha hs).mono ?_
    rintro e w' ⟨rfl, rfl⟩
    go_wp2_with fail
    refine (shift_any _ (-a) _ (U64.nat hlt) (by unfold I64; omega)).mono ?_
    rintro e w' ⟨rfl, rfl⟩
    go_wp2
    go_ret
    refine ⟨ret_int ?_, rfl⟩
    have e1 := hc.out
    rw [hmx.out] at e1
    rw [← e1]

theorem or_nat {a b : Nat} (ha : a < 2 ^ 64) (hb : b < 2 ^ 64) : bits .or .u64 (a : Int) (b : Int) = ((a ||| b : Nat) : Int) := u64_or_nat a b ha hb
theorem u64_bnot {m : Int} {k : Nat} (hm : U64 m) (hk : k < 2 ^ 64) : bits .andNot .u64 m (k : Int) = ((m.toNat &&& (18446744073709551615 - k) : Nat) : Int) := by
  have h := u64_andNot m k hm.1 hm.2 (by omega) (by omega)
  simpa using h
theorem u64_bor {m : Int} {k : Nat} (hm : U64 m) (hk : k < 2 ^ 64) : bits .or .u64 m (k : Int) = ((m.toNat ||| k : Nat) : Int) := by
  have h := u64_or m k hm.1 hm.2 (by omega) (by omega)
  simpa using h

set_option maxHeartbeats 400000 in
theorem set_any (n a s m : Int) (w : World) (hn : U64 n) (ha : I64 a) (hs : I64 s) (hm : U64 m) :
    Calls Try.prog 31 #[.int .u64 n, .int .i64 a, .int .i64 s, .int .u64 m] w fun e w' => e = .returned (.int .u64 (Fld.set n.toNat a s m.toNat : Nat)) ∧ w = w' := by
  have hc : Hid ((n.toNat &&& (18446744073709551615 - Fld.mask a s)) ||| (Fld.shift m.toNat (max (-64) a) &&& Fld.mask a s) = Fld.set n.toNat a s m.toNat) := Fld.set_shift hm.lt a s
  have hnot : bits .andNot .u64 n ((Fld.mask a s : Nat) : Int) = ((n.toNat &&& (18446744073709551615 - Fld.mask a s) : Nat) : Int) := u64_bnot hn (Fld.mask_lt _ _)
  have hl1 : n.toNat &&& (18446744073709551615 - Fld.mask a s) < 2 ^ 64 := Nat.and_lt_two_pow _ (by omega)
  have hand : ∀ b : Int, bits .and .u64 ((Fld.shift m.toNat b : Nat) : Int) ((Fld.mask a s : Nat) : Int) = ((Fld.shift m.toNat b &&& Fld.mask a s : Nat) : Int) := fun b => u64_and_nat _ _ (Fld.shift_lt hm.lt b) (Fld.mask_lt _ _)
  have hor : ∀ b : Int, bits .or .u64 ((n.toNat &&& (18446744073709551615 - Fld.mask a s) : Nat) : Int) ((Fld.shift m.toNat b &&& Fld.mask a s : Nat) : Int) = (((n.toNat &&& (18446744073709551615 - Fld.mask a s)) ||| (Fld.shift m.toNat b &&& Fld.mask a s) : Nat) : Int) :=
    fun b => u64_or_nat _ _ hl1 (Nat.and_lt_two_pow _ (Fld.mask_lt _ _))
  clear hl1
  have ha' := ha
  unfold I64 at ha'
  obtain ⟨ha1, ha2⟩ := ha'
  by_cases h1 : a ≤ -64
  · have hmx : Hid (max (-64) a = -64) := by rw [Hid]; omega
    go_enter Try.func31, Try.ntmps31
    go_wp2_with fail
    refine (mask_any a s _ ha hs).mono ?_
    rintro e w' ⟨rfl, rfl⟩
    go_wp2_with fail
    refine (shift_any m (-64) _ hm (by unfold I64; omega)).mono ?_
    rintro e w' ⟨rfl, rfl⟩
    go_wp2
    go_ret
    refine ⟨ret_int ?_, rfl⟩
    have e1 := hc.out
    rw [hmx.out] at e1
    rw [← e1]
  · have hmx : Hid (max (-64) a = a) := by rw [Hid]; omega
    go_enter Try.func31, Try.ntmps31
    go_wp2_with fail
    refine (mask_any a s _ ha hs).mono ?_
    rintro e w' ⟨rfl, rfl⟩
    go_wp2_with fail
    refine (shift_any m (a) _ hm (by unfold I64; omega)).mono ?_
    rintro e w' ⟨rfl, rfl⟩
    go_wp2
    go_ret
    refine ⟨ret_int ?_, rfl⟩
    have e1 := hc.out
    rw [hmx.out] at e1
    rw [← e1]


theorem wrap_n (n : Int) : IntKind.u64.wrap n = ((Fld.u64 n : Nat) : Int) := by
  rw [IntKind.wrap_u64]
  exact (Fld.cast_u64 n).symm
/-- A link's word of numbers. -/
def lmk (slot gen : Int) : Nat := Fld.u64 slot % 256 + 256 * (Fld.u64 gen % 4294967296)
theorem lmk_lt (slot gen : Int) : lmk slot gen < 2 ^ 64 := by unfold lmk; omega
set_option maxHeartbeats 400000 in
theorem low_any (n m : Int) (h0 : 0 < m) (w : World) :
    Calls Try.prog 36 #[.int .i64 n, .int .u64 m] w fun e w' => e = .returned (.int .u64 (((Fld.u64 n : Nat) : Int) % m)) ∧ w = w' := by
  have hw := wrap_n n
  have hm0 : (m == 0) = false := by rw [beq_eq_false_iff_ne]; omega
  have hnn : (0 : Int) ≤ ((Fld.u64 n : Nat) : Int) := by omega
  go_enter Try.func36, Try.ntmps36
  go_wp2
  go_ret
  exact ⟨rfl, rfl⟩

set_option maxHeartbeats 400000 in
theorem link_make (slot gen : Int) (w : World) :
    Calls Try.prog 21 #[.int .i64 slot, .int .i64 gen] w fun e w' => e = .returned (.int .u64 (lmk slot gen : Nat)) ∧ w = w' := by
  have hw1 := wrap_n slot
  have hw2 := wrap_n gen
  have hfin : Hid (Fld.set (Fld.cut (Fld.u64 slot) 0 8) 8 32 (Fld.u64 gen) = lmk slot gen) := by
    rw [Hid, Fld.c0_8, Fld.s8_32 (by omega)]
    unfold lmk
    have := Fld.u64_lt slot
    omega
  go_enter Try.func21, Try.ntmps21
  go_wp2_with fail
  refine (cut_any _ 0 8 _ (U64.nat (Fld.u64_lt slot)) (by unfold I64; omega) (by unfold I64; omega)).mono ?_
  rintro e w' ⟨rfl, rfl⟩
  go_wp2_with fail
  refine (set_any _ 8 32 _ _ (U64.nat (Fld.cut_lt _ _ _)) (by unfold I64; omega) (by unfold I64; omega) (U64.nat (Fld.u64_lt gen))).mono ?_
  rintro e w' ⟨rfl, rfl⟩
  go_wp2
  go_ret
  exact ⟨ret_int (by rw [hfin.out]), rfl⟩

set_option maxHeartbeats 400000 in
theorem ref_make (slot gen : Int) (w : World) :
    Calls Try.prog 29 #[.int .i64 slot, .int .i64 gen] w fun e w' => e = .returned (.int .u64 (lmk slot gen : Nat)) ∧ w = w' := by
  go_enter Try.func29, Try.ntmps29
  go_wp2_with fail
  refine (low_any slot 256 (by omega) _).mono ?_
  rintro e w' ⟨rfl, rfl⟩
  go_wp2_with fail
  refine (low_any gen 4294967296 (by omega) _).mono ?_
  rintro e w' ⟨rfl, rfl⟩
  go_wp2
  go_ret
  exact ⟨ret_int (by unfold lmk; omega), rfl⟩


def lSlot (n : Nat) : Nat := n % 256
def lGen (n : Nat) : Nat := n / 256 % 4294967296
def lMarked (n : Nat) : Bool := decide (9223372036854775808 ≤ n)
def lPlain (n : Nat) : Nat := n % 1099511627776
theorem lPlain_lt (n : Nat) : lPlain n < 2 ^ 64 := by unfold lPlain; omega

set_option maxHeartbeats 400000 in
theorem slot_any (n : Int) (hn : U64 n) (w : World) :
    Calls Try.prog 22 #[.int .u64 n] w fun e w' => e = .returned (.int .i64 (lSlot n.toNat : Nat)) ∧ w = w' := by
  have f : Hid (Fld.cut n.toNat 0 8 = lSlot n.toNat) := Fld.c0_8 _
  have b : Fld.cut n.toNat 0 8 ≤ 255 := by rw [f.out, lSlot]; omega
  go_enter Try.func22, Try.ntmps22
  go_wp2_with fail
  refine (cut_any _ 0 8 _ hn (by unfold I64; omega) (by unfold I64; omega)).mono ?_
  rintro e w' ⟨rfl, rfl⟩
  go_wp2
  go_ret
  exact ⟨ret_int (by rw [f.out]), rfl⟩

set_option maxHeartbeats 400000 in
theorem gen_any (n : Int) (hn : U64 n) (w : World) :
    Calls Try.prog 40 #[.int .u64 n] w fun e w' => e = .returned (.int .i64 (lGen n.toNat : Nat)) ∧ w = w' := by
  have f : Hid (Fld.cut n.toNat 8 32 = lGen n.toNat) := Fld.c8_32 _
  have b : Fld.cut n.toNat 8 32 ≤ 4294967295 := by rw [f.out, lGen]; omega
  go_enter Try.func40, Try.ntmps40
  go_wp2_with fail
  refine (cut_any _ 8 32 _ hn (by unfold I64; omega) (by unfold I64; omega)).mono ?_
  rintro e w' ⟨rfl, rfl⟩
  go_wp2
  go_ret
  exact ⟨ret_int (by rw [f.out]), rfl⟩

set_option maxHeartbeats 400000 in
theorem plain_any (n : Int) (hn : U64 n) (w : World) :
    Calls Try.prog 33 #[.int .u64 n] w fun e w' => e = .returned (.int .u64 (lPlain n.toNat : Nat)) ∧ w = w' := by
  have f : Hid (lmk (lSlot n.toNat : Nat) (lGen n.toNat : Nat) = lPlain n.toNat) := by
    have h1 : lSlot n.toNat < 2 ^ 64 := by unfold lSlot; omega
    have h2 : lGen n.toNat < 2 ^ 64 := by unfold lGen; omega
    rw [Hid, lmk, Fld.u64_nat h1, Fld.u64_nat h2]
    unfold lSlot lGen lPlain
    omega
  go_enter Try.func33, Try.ntmps33
  go_wp2_with fail
  refine (slot_any n hn _).mono ?_
  rintro e w' ⟨rfl, rfl⟩
  go_wp2_with fail
  refine (gen_any n hn _).mono ?_
  rintro e w' ⟨rfl, rfl⟩
  go_wp2_with fail
  refine (link_make _ _ _).mono ?_
  rintro e w' ⟨rfl, rfl⟩
  go_wp2
  go_ret
  exact ⟨ret_int (by rw [f.out]), rfl⟩

set_option maxHeartbeats 400000 in
theorem same_any (n m : Int) (hn : U64 n) (hm : U64 m) (w : World) :
    Calls Try.prog 23 #[.int .u64 n, .int .u64 m] w fun e w' => e = .returned (.bool (decide (lPlain n.toNat = lPlain m.toNat))) ∧ w = w' := by
  have f : Hid ((((lPlain n.toNat : Nat) : Int) == ((lPlain m.toNat : Nat) : Int)) = decide (lPlain n.toNat = lPlain m.toNat)) := by
    rw [Hid, Bool.eq_iff_iff, beq_iff_eq, decide_eq_true_eq]
    omega
  go_enter Try.func23, Try.ntmps23
  go_wp2_with fail
  refine (plain_any n hn _).mono ?_
  rintro e w' ⟨rfl, rfl⟩
  go_wp2_with fail
  refine (plain_any m hm _).mono ?_
  rintro e w' ⟨rfl, rfl⟩
  go_wp2
  go_ret
  exact ⟨ret_bool (by simpa using f.out), rfl⟩

set_option maxHeartbeats 400000 in
theorem read02_any (n : Int) (hn : U64 n) (w : World) :
    Calls Try.prog 35 #[.int .u64 n] w fun e w' => e = .returned (.agg #[.int .i64 (lSlot n.toNat : Nat), .int .i64 (lGen n.toNat : Nat), .bool (lMarked n.toNat)]) ∧ Below w.heap.size w w' := by
  have h0 := hn.1
  have h1 : n ≤ 18446744073709551615 := by have := hn.2; omega
  have f1 : Hid (n % 256 = ((lSlot n.toNat : Nat) : Int)) := by rw [Hid, lSlot]; omega
  have f2 : Hid (n / 256 % 4294967296 = ((lGen n.toNat : Nat) : Int)) := by rw [Hid, lGen]; omega
  have f3 : Hid (decide (9223372036854775808 ≤ n) = lMarked n.toNat) := by rw [Hid, lMarked, Bool.eq_iff_iff, decide_eq_true_eq, decide_eq_true_eq]; omega
  go_enter Try.func35, Try.ntmps35
  go_wp2
  refine bodyPost_ret (v := .agg #[.int .i64 (lSlot n.toNat : Nat), .int .i64 (lGen n.toNat : Nat), .bool (lMarked n.toNat)]) ?_ rfl ⟨rfl, ?_⟩
  · simp [results, Try.results35, go_sem, f1.out, f2.out, f3.out]
  · repeat (first | assumption | exact Below.refl _ _ | refine Below.drew ?_ | refine below_drewN ?_ _ | refine Below.setCell ?_ (by simp <;> omega) _ | refine Below.alloc ?_ (by simp <;> omega) _)

end Go.Proofs.Ytlnnnaefmgikpaa
