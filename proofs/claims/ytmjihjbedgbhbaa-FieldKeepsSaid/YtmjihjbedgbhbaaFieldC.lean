/- The reference's Bit, Mask, Cut and Set, walked. -/
import Derived.Test.YtmjihjbedgbhbaaFieldB
namespace Go.Proofs.Ytmjihjbedgbhbaa
set_option linter.unusedVariables false
set_option linter.unusedSimpArgs false
open Go.RowKit

theorem pow_le {k m : Nat} (h : k ≤ m) : 2 ^ k ≤ 2 ^ m := Nat.pow_le_pow_right (by decide) h

set_option maxHeartbeats 400000 in
theorem power_any (n : Nat) (hn : n < 64) (w : World) :
    Calls Try.prog 73 #[.int .i64 n] w fun e w' => e = .returned (.int .u64 ((2 ^ n : Nat) : Int)) ∧ w = w' := by
  go_enter Try.func73, Try.ntmps73
  go_wp2
  go_loop [3, 4] (fun p i => ∃ k P : Nat, k ≤ n ∧ i = .int .i64 k ∧ p = .int .u64 (P : Nat) ∧ Hid (P = 2 ^ k)) (fun _ i => n - (intOf i).toNat)
  case atStart => exact ⟨0, 1, Nat.zero_le _, rfl, rfl, rfl⟩
  case round =>
  obtain ⟨k, P, hk, rfl, rfl, hP⟩ := hrel
  by_cases hlt : k < n
  · have h2 : 2 ^ (k + 1) ≤ 2 ^ 63 := pow_le (by omega)
    have h3 : 2 ^ (k + 1) = 2 * P := by rw [hP.out, Nat.pow_succ, Nat.mul_comm]
    have h4 : P ≤ 4611686018427387904 := by omega
    have h5 : Hid (2 * P = 2 ^ (k + 1)) := h3.symm
    have hw : IntKind.u64.wrap (2 * ((P : Nat) : Int)) = ((2 * P : Nat) : Int) := by rw [IntKind.wrap_u64]; omega
    have b1 : (k : Int) < (n : Int) := by omega
    clear h2 h3 hP
    go_wp2
    go_round
    case rel => exact ⟨k + 1, 2 * P, by omega, by go_num, by go_num, h5⟩
    case measure => simp [intOf]; omega
  · have hkn : k = n := by omega
    subst hkn
    go_wp2
    go_ret
    exact ⟨ret_int (by simp [hP.out]), rfl⟩

def bt (n : Int) (i : Int) : Int := ((Fld.bitZ n.toNat i).toNat : Nat)
set_option maxHeartbeats 400000 in
theorem bit_any (n i : Int) (hn : U64 n) (w : World) :
    Calls Try.prog 51 #[.int .u64 n, .int .i64 i] w fun e w' => e = .returned (.int .u64 (bt n i)) ∧ w = w' := by
  by_cases h1 : i < 0
  · have hE : Hid (bt n i = 0) := by rw [Hid, bt, Fld.bitZ_neg h1]; rfl
    go_enter Try.func51, Try.ntmps51
    go_wp2
    go_ret
    exact ⟨ret_int (by rw [hE.out]), rfl⟩
  by_cases h2 : 63 < i
  · have hE : Hid (bt n i = 0) := by rw [Hid, bt, Fld.bitZ_lt hn.lt (by omega)]; rfl
    go_enter Try.func51, Try.ntmps51
    go_wp2
    go_ret
    exact ⟨ret_int (by rw [hE.out]), rfl⟩
  obtain ⟨k, rfl⟩ : ∃ k : Nat, i = (k : Int) := ⟨i.toNat, by omega⟩
  have hk : k < 64 := by omega
  have cp := power_any k hk
  have hP1 : 0 < 2 ^ k := Nat.two_pow_pos k
  have hP2 : 2 ^ k ≤ 2 ^ 63 := pow_le (by omega)
  have hE : Hid (bt n k = n / ((2 ^ k : Nat) : Int) % 2) := by
    rw [Hid, bt, Fld.bitZ_nat, ← Fld.bit_div]
    have := hn.cast
    push_cast
    rw [this]
  obtain ⟨P, hP⟩ : ∃ P : Nat, 2 ^ k = P := ⟨_, rfl⟩
  rw [hP] at cp hP1 hP2 hE
  clear hP
  have h0 : 0 ≤ n := hn.1
  have hp0 : (((P : Nat) : Int) == 0) = false := by rw [beq_eq_false_iff_ne]; omega
  have hp1 : (0 : Int) < ((P : Nat) : Int) := by omega
  have hq0 : 0 ≤ n / ((P : Nat) : Int) := Int.ediv_nonneg hn.1 (by omega)
  have hq1 : n / ((P : Nat) : Int) ≤ n := Int.ediv_le_self _ hn.1
  have ht1 : n.tdiv ((P : Nat) : Int) = n / ((P : Nat) : Int) := Int.tdiv_eq_ediv_of_nonneg h0
  have ht2 : (n / ((P : Nat) : Int)).tmod 2 = n / ((P : Nat) : Int) % 2 := Int.tmod_eq_emod_of_nonneg hq0
  have hq : IntKind.u64.wrap (n / ((P : Nat) : Int)) = n / ((P : Nat) : Int) := by rw [IntKind.wrap_u64]; have := hn.2; omega
  go_enter Try.func51, Try.ntmps51
  go_wp2_with fail
  refine (cp _).mono ?_
  rintro e w' ⟨rfl, rfl⟩
  go_wp2
  go_ret
  exact ⟨ret_int (by rw [hE.out]), rfl⟩

set_option maxHeartbeats 400000 in
theorem within_any (k : Nat) (hk : k < 64) (a s : Int) (ha1 : -1000 ≤ a) (ha2 : a ≤ 1000) (hs1 : -1000 ≤ s) (hs2 : s ≤ 1000) (w : World) :
    Calls Try.prog 72 #[.int .i64 k, .int .i64 a, .int .i64 s] w fun e w' => e = .returned (.bool (Fld.within a s k)) ∧ w = w' := by
  have b0 : (0 : Int) ≤ (k : Int) := by omega
  have b1 : (k : Int) ≤ 63 := by omega
  by_cases h1 : s < 1
  · have hE : Hid (Fld.within a s k = false) := by rw [Hid, Bool.eq_false_iff, Ne, Fld.within_iff]; omega
    go_enter Try.func72, Try.ntmps72
    go_wp2
    go_ret
    exact ⟨ret_bool (by rw [hE.out]), rfl⟩
  by_cases h2 : (k : Int) < a
  · have hE : Hid (Fld.within a s k = false) := by rw [Hid, Bool.eq_false_iff, Ne, Fld.within_iff]; omega
    go_enter Try.func72, Try.ntmps72
    go_wp2
    go_ret
    exact ⟨ret_bool (by rw [hE.out]), rfl⟩
  have w1 : IntKind.u64.wrap ((k : Int) - a) = (k : Int) - a := by rw [IntKind.wrap_u64]; omega
  have w2 : IntKind.u64.wrap s = s := by rw [IntKind.wrap_u64]; omega
  have hE : Hid (decide ((k : Int) - a < s) = Fld.within a s k) := by rw [Hid, Bool.eq_iff_iff, decide_eq_true_eq, Fld.within_iff]; omega
  go_enter Try.func72, Try.ntmps72
  go_wp2
  go_ret
  exact ⟨ret_bool (by rw [← hE.out]), rfl⟩

set_option maxHeartbeats 800000 in
theorem rmask_any (a s : Int) (ha1 : -1000 ≤ a) (ha2 : a ≤ 1000) (hs1 : -1000 ≤ s) (hs2 : s ≤ 1000) (w : World) :
    Calls Try.prog 48 #[.int .i64 a, .int .i64 s] w fun e w' => e = .returned (.int .u64 ((Fld.mask a s : Nat) : Int)) ∧ w = w' := by
  go_enter Try.func48, Try.ntmps48
  go_wp2
  go_loop [5, 6] (fun m i => ∃ k M : Nat, k ≤ 64 ∧ i = .int .i64 k ∧ m = .int .u64 (M : Nat) ∧ Hid (M = Fld.ofBits (Fld.within a s) k)) (fun _ i => 64 - (intOf i).toNat)
  case atStart => exact ⟨0, 0, Nat.zero_le _, rfl, rfl, rfl⟩
  case round =>
  obtain ⟨k, M, hk, rfl, rfl, hM⟩ := hrel
  by_cases hlt : k < 64
  · have cw := within_any k hlt a s ha1 ha2 hs1 hs2
    have cp := power_any k hlt
    have hn1 := Fld.ofBits_lt (Fld.within a s) (k + 1)
    have hn2 : Fld.ofBits (Fld.within a s) (k + 1) = M + (Fld.within a s k).toNat * 2 ^ k := by rw [Fld.ofBits_succ, hM.out]
    have hn3 : 2 ^ (k + 1) ≤ 2 ^ 64 := pow_le (by omega)
    obtain ⟨P, hP⟩ : ∃ P : Nat, 2 ^ k = P := ⟨_, rfl⟩
    obtain ⟨B, hB⟩ : ∃ B, Fld.within a s k = B := ⟨_, rfl⟩
    rw [hP] at cp hn2
    rw [hB] at cw hn2
    have b1 : (k : Int) < 64 := by omega
    clear hP hB
    cases B
    · have hM' : Hid (M = Fld.ofBits (Fld.within a s) (k + 1)) := by rw [Hid, hn2]; simp
      clear hn1 hn2 hn3 hM cp
      go_wp2_with fail
      refine (cw _).mono ?_
      rintro e w' ⟨rfl, rfl⟩
      go_wp2
      go_round
      case rel => exact ⟨k + 1, M, by omega, by go_num, rfl, hM'⟩
      case measure => simp [intOf]; omega
    · have hM' : Hid (M + P = Fld.ofBits (Fld.within a s) (k + 1)) := by rw [Hid, hn2]; simp
      have hw : IntKind.u64.wrap (((M : Nat) : Int) + ((P : Nat) : Int)) = ((M + P : Nat) : Int) := by
        rw [IntKind.wrap_u64]
        have := hM'.out
        omega
      clear hn1 hn2 hn3 hM
      go_wp2_with fail
      refine (cw _).mono ?_
      rintro e w' ⟨rfl, rfl⟩
      go_wp2_with fail
      refine (cp _).mono ?_
      rintro e w' ⟨rfl, rfl⟩
      go_wp2
      go_round
      case rel => exact ⟨k + 1, M + P, by omega, by go_num, by go_num, hM'⟩
      case measure => simp [intOf]; omega
  · have hk64 : k = 64 := by omega
    subst hk64
    go_wp2
    go_ret
    exact ⟨ret_int (by rw [hM.out]; rfl), rfl⟩

theorem ofBits_stop {f : Nat → Bool} {k : Nat} : ∀ m, k ≤ m → (∀ i, k ≤ i → i < m → f i = false) → Fld.ofBits f m = Fld.ofBits f k
  | 0, h, _ => by obtain rfl : k = 0 := by omega
                  rfl
  | m + 1, h, hf => by
    by_cases hk : k = m + 1
    · rw [hk]
    · rw [Fld.ofBits_succ, hf m (by omega) (by omega), ofBits_stop m (by omega) (fun i h1 h2 => hf i h1 (by omega))]
      simp

def cutf (n a s : Int) (k : Nat) : Bool := decide ((k : Int) < s) && Fld.bitZ n.toNat (a + k)
theorem cut_ofBits (n a s : Int) : Fld.cut n.toNat a s = Fld.ofBits (cutf n a s) 64 := rfl

set_option maxHeartbeats 800000 in
theorem rcut_any (n a s : Int) (hn : U64 n) (ha1 : -1000 ≤ a) (ha2 : a ≤ 1000) (hs1 : -1000 ≤ s) (hs2 : s ≤ 1000) (w : World) :
    Calls Try.prog 49 #[.int .u64 n, .int .i64 a, .int .i64 s] w fun e w' => e = .returned (.int .u64 ((Fld.cut n.toNat a s : Nat) : Int)) ∧ w = w' := by
  go_enter Try.func49, Try.ntmps49
  go_wp2
  go_loop [7, 8] (fun m i => ∃ k M : Nat, k ≤ 64 ∧ i = .int .i64 k ∧ m = .int .u64 (M : Nat) ∧ Hid (M = Fld.ofBits (cutf n a s) k)) (fun _ i => 64 - (intOf i).toNat)
  case atStart => exact ⟨0, 0, Nat.zero_le _, rfl, rfl, rfl⟩
  case round =>
  obtain ⟨k, M, hk, rfl, rfl, hM⟩ := hrel
  by_cases hlt : k < 64
  · have b1 : (k : Int) < 64 := by omega
    have b0 : (0 : Int) ≤ (k : Int) := by omega
    by_cases hks : (k : Int) < s
    · by_cases g1 : 63 < a
      · have hE : Hid (Fld.cut n.toNat a s = M) := by
          rw [Hid, cut_ofBits, hM.out]
          refine ofBits_stop 64 hk fun i h1 h2 => ?_
          rw [cutf, Fld.bitZ_lt hn.lt (by omega), Bool.and_false]
        clear hM
        go_wp2
        go_ret
        exact ⟨ret_int (by rw [hE.out]), rfl⟩
      by_cases g2 : a < -64
      · have hE : Hid (Fld.cut n.toNat a s = M) := by
          rw [Hid, cut_ofBits, hM.out]
          refine ofBits_stop 64 hk fun i h1 h2 => ?_
          rw [cutf, Fld.bitZ_neg (by omega), Bool.and_false]
        clear hM
        go_wp2
        go_ret
        exact ⟨ret_int (by rw [hE.out]), rfl⟩
      have cb := bit_any n (a + k) hn
      have cp := power_any k hlt
      have hn1 := Fld.ofBits_lt (cutf n a s) (k + 1)
      have hn2 : Fld.ofBits (cutf n a s) (k + 1) = M + (Fld.bitZ n.toNat (a + k)).toNat * 2 ^ k := by rw [Fld.ofBits_succ, hM.out, cutf, decide_eq_true hks, Bool.true_and]
      have hn3 : 2 ^ (k + 1) ≤ 2 ^ 64 := pow_le (by omega)
      unfold bt at cb
      obtain ⟨P, hP⟩ : ∃ P : Nat, 2 ^ k = P := ⟨_, rfl⟩
      obtain ⟨B, hB⟩ : ∃ B, Fld.bitZ n.toNat (a + k) = B := ⟨_, rfl⟩
      rw [hP] at cp hn2
      rw [hB] at cb hn2
      clear hP hB
      have hM' : Hid (M + B.toNat * P = Fld.ofBits (cutf n a s) (k + 1)) := hn2.symm
      have hw1 : IntKind.u64.wrap (((B.toNat : Nat) : Int) * ((P : Nat) : Int)) = ((B.toNat * P : Nat) : Int) := by
        rw [IntKind.wrap_u64]
        have := hM'.out
        cases B
        · show ((0 : Nat) : Int) * ((P : Nat) : Int) % 18446744073709551616 = ((0 * P : Nat) : Int)
          omega
        · have h : M + 1 * P = Fld.ofBits (cutf n a s) (k + 1) := this
          show ((1 : Nat) : Int) * ((P : Nat) : Int) % 18446744073709551616 = ((1 * P : Nat) : Int)
          omega
      have hw2 : IntKind.u64.wrap (((M : Nat) : Int) + ((B.toNat * P : Nat) : Int)) = ((M + B.toNat * P : Nat) : Int) := by
        rw [IntKind.wrap_u64]
        have := hM'.out
        omega
      obtain ⟨X, hX⟩ : ∃ X : Nat, B.toNat * P = X := ⟨_, rfl⟩
      obtain ⟨C, hC⟩ : ∃ C : Int, ((B.toNat : Nat) : Int) = C := ⟨_, rfl⟩
      rw [hX] at hw1 hw2 hM'
      rw [hC] at hw1 cb
      clear hn1 hn2 hn3 hM hX hC
      go_wp2_with fail
      refine (cb _).mono ?_
      rintro e w' ⟨rfl, rfl⟩
      go_wp2_with fail
      refine (cp _).mono ?_
      rintro e w' ⟨rfl, rfl⟩
      go_wp2
      go_round
      case rel => exact ⟨k + 1, M + X, by omega, by go_num, by go_num, hM'⟩
      case measure => simp [intOf]; omega
    · have hE : Hid (Fld.cut n.toNat a s = M) := by
        rw [Hid, cut_ofBits, hM.out]
        refine ofBits_stop 64 hk fun i h1 h2 => ?_
        rw [cutf, decide_eq_false (by omega), Bool.false_and]
      clear hM
      go_wp2
      go_ret
      exact ⟨ret_int (by rw [hE.out]), rfl⟩
  · have hk64 : k = 64 := by omega
    subst hk64
    go_wp2
    go_ret
    exact ⟨ret_int (by rw [hM.out]; rfl), rfl⟩
end Go.Proofs.Ytmjihjbedgbhbaa
