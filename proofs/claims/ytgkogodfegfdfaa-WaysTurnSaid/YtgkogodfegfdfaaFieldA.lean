/- The contracts of package field: Mask, shift, Cut, Set, Has, Turn. -/
import Derived.Test.YtgkogodfegfdfaaBase
import Derived.Test.YtgkogodfegfdfaaFld
import Derived.Test.YtgkogodfegfdfaaProg
namespace Go.Proofs.Ytgkogodfegfdfaa
set_option linter.unusedVariables false
set_option linter.unusedSimpArgs false
open Go.RowKit

/-- A word of 64 bits. -/
def U64 (n : Int) : Prop := 0 ≤ n ∧ n < 18446744073709551616
theorem U64.nat {n : Nat} (h : n < 2 ^ 64) : U64 (n : Int) := ⟨by omega, by omega⟩
theorem U64.lt {n : Int} (h : U64 n) : n.toNat < 2 ^ 64 := by unfold U64 at h; omega
theorem U64.cast {n : Int} (h : U64 n) : ((n.toNat : Nat) : Int) = n := by unfold U64 at h; omega
/-- A whole number of 64 bits. -/
def I64 (n : Int) : Prop := -9223372036854775808 ≤ n ∧ n ≤ 9223372036854775807

theorem mask_fin {a s : Int} (X f l : Int) (hX : X = 18446744073709551615 / 2 ^ (64 - (l - f)).toNat * 2 ^ f.toNat) (h1 : 1 ≤ s) (h2 : a < 64) (h3 : 0 < a + s) (hf : f = max 0 a) (hl : l = min 64 (a + s)) :
    IntKind.u64.wrap X = ((Fld.mask a s : Nat) : Int) := by
  rw [← Fld.mask_int f l h1 h2 h3 hf hl, hX, IntKind.wrap_u64]
  simp
theorem mask_full {a s : Int} (h1 : 1 ≤ s) (h2 : a ≤ 0) (h3 : 64 ≤ a + s) : (18446744073709551615 : Int) = ((Fld.mask a s : Nat) : Int) := by
  rw [← Fld.mask_int 0 64 h1 (by omega) (by omega) (by omega) (by omega)]
  simp
theorem shift_up {n : Int} (hn : U64 n) {b : Int} (h1 : 0 ≤ b) (h2 : b < 64) : IntKind.u64.wrap (n * 2 ^ b.toNat) = ((Fld.shift n.toNat b : Nat) : Int) := by
  unfold Fld.shift
  rw [if_neg (by omega), if_pos h1, IntKind.wrap_u64]
  have := hn.cast
  simp [this]
theorem shift_down {n : Int} (hn : U64 n) {b : Int} (h1 : b < 0) (h2 : -64 < b) : n / 2 ^ (-b).toNat = ((Fld.shift n.toNat b : Nat) : Int) := by
  unfold Fld.shift
  rw [if_neg (by omega), if_neg (by omega)]
  have := hn.cast
  simp [this]

set_option maxHeartbeats 400000 in
theorem mask_any (a s : Int) (w : World) (ha : I64 a) (hs : I64 s) :
    Calls Try.prog 27 #[.int .i64 a, .int .i64 s] w fun e w' => e = .returned (.int .u64 (Fld.mask a s : Nat)) ∧ w = w' := by
  unfold I64 at ha hs
  obtain ⟨ha1, ha2⟩ := ha
  obtain ⟨hs1, hs2⟩ := hs
  by_cases h1 : s < 1
  · have hm : Hid (Fld.mask a s = 0) := Fld.mask_none (.inl h1)
    go_enter Try.func27, Try.ntmps27
    go_wp2
    go_ret
    exact ⟨ret_int (by rw [hm.out]; rfl), rfl⟩
  · by_cases h2 : 64 ≤ a
    · have hm : Hid (Fld.mask a s = 0) := Fld.mask_none (.inr (.inl h2))
      go_enter Try.func27, Try.ntmps27
      go_wp2
      go_ret
      exact ⟨ret_int (by rw [hm.out]; rfl), rfl⟩
    · by_cases h3 : a < 0
      · by_cases h4 : a + s ≤ 0
        · have hm : Hid (Fld.mask a s = 0) := Fld.mask_none (.inr (.inr h4))
          go_enter Try.func27, Try.ntmps27
          go_wp2
          go_ret
          exact ⟨ret_int (by rw [hm.out]; rfl), rfl⟩
        · by_cases h6 : a + s < 64
          · go_enter Try.func27, Try.ntmps27
            go_wp2
            go_ret
            exact ⟨ret_int (mask_fin _ 0 (a + s) (by simp) (by omega) (by omega) (by omega) (by omega) (by omega)), rfl⟩
          · go_enter Try.func27, Try.ntmps27
            go_wp2
            go_ret
            exact ⟨ret_int (mask_full (by omega) (by omega) (by omega)), rfl⟩
      · by_cases h5 : s < 64 - a
        · by_cases h7 : a = 0
          · subst h7
            go_enter Try.func27, Try.ntmps27
            go_wp2
            go_ret
            exact ⟨ret_int (mask_fin _ 0 s (by simp) (by omega) (by omega) (by omega) (by omega) (by omega)), rfl⟩
          · have h8 : 0 < a := by omega
            have h9 : a + s < 64 := by omega
            clear h7
            go_enter Try.func27, Try.ntmps27
            go_wp2
            go_ret
            exact ⟨ret_int (mask_fin _ a (a + s) (by simp) (by omega) (by omega) (by omega) (by omega) (by omega)), rfl⟩
        · by_cases h7 : a = 0
          · subst h7
            go_enter Try.func27, Try.ntmps27
            go_wp2
            go_ret
            exact ⟨ret_int (mask_full (by omega) (by omega) (by omega)), rfl⟩
          · have h8 : 0 < a := by omega
            clear h7
            go_enter Try.func27, Try.ntmps27
            go_wp2
            go_ret
            exact ⟨ret_int (mask_fin _ a 64 (by simp) (by omega) (by omega) (by omega) (by omega) (by omega)), rfl⟩

set_option maxHeartbeats 400000 in
theorem shift_any (n b : Int) (w : World) (hn : U64 n) (hb : I64 b) :
    Calls Try.prog 28 #[.int .u64 n, .int .i64 b] w fun e w' => e = .returned (.int .u64 (Fld.shift n.toNat b : Nat)) ∧ w = w' := by
  unfold I64 at hb
  obtain ⟨hb1, hb2⟩ := hb
  by_cases h1 : 64 ≤ b
  · have hm : Hid (Fld.shift n.toNat b = 0) := by unfold Fld.shift; exact if_pos (.inl h1)
    go_enter Try.func28, Try.ntmps28
    go_wp2
    go_ret
    exact ⟨ret_int (by rw [hm.out]; rfl), rfl⟩
  · by_cases h2 : b ≤ -64
    · have hm : Hid (Fld.shift n.toNat b = 0) := by unfold Fld.shift; exact if_pos (.inr h2)
      go_enter Try.func28, Try.ntmps28
      go_wp2
      go_ret
      exact ⟨ret_int (by rw [hm.out]; rfl), rfl⟩
    · by_cases h3 : 0 ≤ b
      · go_enter Try.func28, Try.ntmps28
        go_wp2
        go_ret
        exact ⟨ret_int (shift_up hn h3 (by omega)), rfl⟩
      · go_enter Try.func28, Try.ntmps28
        go_wp2
        go_ret
        exact ⟨ret_int (shift_down hn (by omega) (by omega)), rfl⟩

theorem u64_band {m : Int} {k : Nat} (hm : U64 m) (hk : k < 2 ^ 64) : bits .and .u64 m (k : Int) = ((m.toNat &&& k : Nat) : Int) := by
  have h := u64_and m k hm.1 hm.2 (by omega) (by omega)
  simpa using h

set_option maxHeartbeats 400000 in
theorem cut_any (n a s : Int) (w : World) (hn : U64 n) (ha : I64 a) (hs : I64 s) :
    Calls Try.prog 25 #[.int .u64 n, .int .i64 a, .int .i64 s] w fun e w' => e = .returned (.int .u64 (Fld.cut n.toNat a s : Nat)) ∧ w = w' := by
  have hc : Hid (Fld.shift (n.toNat &&& Fld.mask a s) (-(max (-64) a)) = Fld.cut n.toNat a s) := Fld.cut_shift hn.lt a s
  have hlt : n.toNat &&& Fld.mask a s < 2 ^ 64 := Nat.and_lt_two_pow _ (Fld.mask_lt _ _)
  have hand : bits .and .u64 n ((Fld.mask a s : Nat) : Int) = ((n.toNat &&& Fld.mask a s : Nat) : Int) := u64_band hn (Fld.mask_lt _ _)
  have ha' := ha
  unfold I64 at ha'
  obtain ⟨ha1, ha2⟩ := ha'
  by_cases h1 : a ≤ -64
  · have hmx : Hid (-(max (-64) a) = 64) := by rw [Hid]; omega
    go_enter Try.func25, Try.ntmps25
    go_wp2_with fail
    refine (mask_any a s _ ha hs).mono ?_
    rintro e w' ⟨rfl, rfl⟩
    go_wp2_with fail
    refine (shift_any _ (64) _ (U64.nat hlt) (by unfold I64; omega)).mono ?_
    rintro e w' ⟨rfl, rfl⟩
    go_wp2
    go_ret
    refine ⟨ret_int ?_, rfl⟩
    have e1 := hc.out
    rw [hmx.out] at e1
    rw [← e1]
  · have hmx : Hid (-(max (-64) a) = -a) := by rw [Hid]; omega
    go_enter Try.func25, Try.ntmps25
    go_wp2_with fail
    refine (mask_any a s _ ha hs).mono ?_
    rintro e w' ⟨rfl, rfl⟩
    go_wp2_with fail
    refine (shift_any _ (-a) _ (U64.nat hlt) (by unfold I64; omega)).mono ?_
    rintro e w' ⟨rfl, rfl⟩
    go_wp2
    go_ret
    refine ⟨ret_int ?_, rfl⟩
    have e1 := hc.out
    rw [hmx.out] at e1
    rw [← e1]

theorem or_nat {a b : Nat} (ha : a < 2 ^ 64) (hb : b < 2 ^ 64) : bits .or .u64 (a : Int) (b : Int) = ((a ||| b : Nat) : Int) := u64_or_nat a b ha hb
theorem u64_bnot {m : Int} {k : Nat} (hm : U64 m) (hk : k < 2 ^ 64) : bits .andNot .u64 m (k : Int) = ((m.toNat &&& (18446744073709551615 - k) : Nat) : Int) := by
  have h := u64_andNot m k hm.1 hm.2 (by omega) (by omega)
  simpa using h
theorem u64_bor {m : Int} {k : Nat} (hm : U64 m) (hk : k < 2 ^ 64) : bits .or .u64 m (k : Int) = ((m.toNat ||| k : Nat) : Int) := by
  have h := u64_or m k hm.1 hm.2 (by omega) (by omega)
  simpa using h

set_option maxHeartbeats 400000 in
theorem set_any (n a s m : Int) (w : World) (hn : U64 n) (ha : I64 a) (hs : I64 s) (hm : U64 m) :
    Calls Try.prog 22 #[.int .u64 n, .int .i64 a, .int .i64 s, .int .u64 m] w fun e w' => e = .returned (.int .u64 (Fld.set n.toNat a s m.toNat : Nat)) ∧ w = w' := by
  have hc : Hid ((n.toNat &&& (18446744073709551615 - Fld.mask a s)) ||| (Fld.shift m.toNat (max (-64) a) &&& Fld.mask a s) = Fld.set n.toNat a s m.toNat) := Fld.set_shift hm.lt a s
  have hnot : bits .andNot .u64 n ((Fld.mask a s : Nat) : Int) = ((n.toNat &&& (18446744073709551615 - Fld.mask a s) : Nat) : Int) := u64_bnot hn (Fld.mask_lt _ _)
  have hl1 : n.toNat &&& (18446744073709551615 - Fld.mask a s) < 2 ^ 64 := Nat.and_lt_two_pow _ (by omega)
  have hand : ∀ b : Int, bits .and .u64 ((Fld.shift m.toNat b : Nat) : Int) ((Fld.mask a s : Nat) : Int) = ((Fld.shift m.toNat b &&& Fld.mask a s : Nat) : Int) := fun b => u64_and_nat _ _ (Fld.shift_lt hm.lt b) (Fld.mask_lt _ _)
  have hor : ∀ b : Int, bits .or .u64 ((n.toNat &&& (18446744073709551615 - Fld.mask a s) : Nat) : Int) ((Fld.shift m.toNat b &&& Fld.mask a s : Nat) : Int) = (((n.toNat &&& (18446744073709551615 - Fld.mask a s)) ||| (Fld.shift m.toNat b &&& Fld.mask a s) : Nat) : Int) :=
    fun b => u64_or_nat _ _ hl1 (Nat.and_lt_two_pow _ (Fld.mask_lt _ _))
  clear hl1
  have ha' := ha
  unfold I64 at ha'
  obtain ⟨ha1, ha2⟩ := ha'
  by_cases h1 : a ≤ -64
  · have hmx : Hid (max (-64) a = -64) := by rw [Hid]; omega
    go_enter Try.func22, Try.ntmps22
    go_wp2_with fail
    refine (mask_any a s _ ha hs).mono ?_
    rintro e w' ⟨rfl, rfl⟩
    go_wp2_with fail
    refine (shift_any m (-64) _ hm (by unfold I64; omega)).mono ?_
    rintro e w' ⟨rfl, rfl⟩
    go_wp2
    go_ret
    refine ⟨ret_int ?_, rfl⟩
    have e1 := hc.out
    rw [hmx.out] at e1
    rw [← e1]
  · have hmx : Hid (max (-64) a = a) := by rw [Hid]; omega
    go_enter Try.func22, Try.ntmps22
    go_wp2_with fail
    refine (mask_any a s _ ha hs).mono ?_
    rintro e w' ⟨rfl, rfl⟩
    go_wp2_with fail
    refine (shift_any m (a) _ hm (by unfold I64; omega)).mono ?_
    rintro e w' ⟨rfl, rfl⟩
    go_wp2
    go_ret
    refine ⟨ret_int ?_, rfl⟩
    have e1 := hc.out
    rw [hmx.out] at e1
    rw [← e1]

set_option maxHeartbeats 400000 in
theorem has_any (n b : Int) (w : World) (hn : U64 n) (hb : I64 b) :
    Calls Try.prog 26 #[.int .u64 n, .int .i64 b] w fun e w' => e = .returned (.bool (Fld.bitZ n.toNat b)) ∧ w = w' := by
  have hc : Hid ((((Fld.cut n.toNat b 1 : Nat) : Int) == 1) = Fld.bitZ n.toNat b) := by rw [Hid, Fld.cut_one]; cases Fld.bitZ n.toNat b <;> rfl
  go_enter Try.func26, Try.ntmps26
  go_wp2_with fail
  refine (cut_any n b 1 _ hn hb (by unfold I64; omega)).mono ?_
  rintro e w' ⟨rfl, rfl⟩
  go_wp2
  go_ret
  exact ⟨ret_bool hc.out, rfl⟩

set_option maxHeartbeats 400000 in
theorem turn_any (n b : Int) (on : Bool) (w : World) (hn : U64 n) (hb : I64 b) :
    Calls Try.prog 23 #[.int .u64 n, .int .i64 b, .bool on] w fun e w' => e = .returned (.int .u64 (Fld.set n.toNat b 1 (if on = true then 1 else 0) : Nat)) ∧ w = w' := by
  have hnot : bits .andNot .u64 n ((Fld.mask b 1 : Nat) : Int) = ((n.toNat &&& (18446744073709551615 - Fld.mask b 1) : Nat) : Int) := u64_bnot hn (Fld.mask_lt _ _)
  have hor : bits .or .u64 n ((Fld.mask b 1 : Nat) : Int) = ((n.toNat ||| Fld.mask b 1 : Nat) : Int) := u64_bor hn (Fld.mask_lt _ _)
  have h1 : Hid (n.toNat ||| Fld.mask b 1 = Fld.set n.toNat b 1 1) := Fld.turn_on hn.lt b
  have h2 : Hid (n.toNat &&& (18446744073709551615 - Fld.mask b 1) = Fld.set n.toNat b 1 0) := Fld.turn_off b
  cases on
  · go_enter Try.func23, Try.ntmps23
    go_wp2_with fail
    refine (mask_any b 1 _ hb (by unfold I64; omega)).mono ?_
    rintro e w' ⟨rfl, rfl⟩
    go_wp2
    go_ret
    exact ⟨ret_int (by rw [h2.out]), rfl⟩
  · go_enter Try.func23, Try.ntmps23
    go_wp2_with fail
    refine (mask_any b 1 _ hb (by unfold I64; omega)).mono ?_
    rintro e w' ⟨rfl, rfl⟩
    go_wp2
    go_ret
    exact ⟨ret_int (by rw [h1.out]), rfl⟩
end Go.Proofs.Ytgkogodfegfdfaa
