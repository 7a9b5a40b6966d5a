/- The reference's Set, and the laws FieldCuts and FieldSets, walked. -/
import Derived.Test.YtmjihjbedgbhbaaFieldC
namespace Go.Proofs.Ytmjihjbedgbhbaa
set_option linter.unusedVariables false
set_option linter.unusedSimpArgs false
open Go.RowKit

def setf (n a s m : Int) (i : Nat) : Bool := if Fld.within a s i = true then Fld.bitZ m.toNat (i - a) else n.toNat.testBit i
theorem set_ofBits (n a s m : Int) : Fld.set n.toNat a s m.toNat = Fld.ofBits (setf n a s m) 64 := rfl

set_option maxHeartbeats 1000000 in
theorem rset_any (n a s m : Int) (hn : U64 n) (ha1 : -1000 ≤ a) (ha2 : a ≤ 1000) (hs1 : -1000 ≤ s) (hs2 : s ≤ 1000) (hm : U64 m) (w : World) :
    Calls Try.prog 54 #[.int .u64 n, .int .i64 a, .int .i64 s, .int .u64 m] w fun e w' => e = .returned (.int .u64 ((Fld.set n.toNat a s m.toNat : Nat) : Int)) ∧ w = w' := by
  go_enter Try.func54, Try.ntmps54
  go_wp2
  go_loop [9, 10] (fun v i => ∃ k M : Nat, k ≤ 64 ∧ i = .int .i64 k ∧ v = .int .u64 (M : Nat) ∧ Hid (M = Fld.ofBits (setf n a s m) k)) (fun _ i => 64 - (intOf i).toNat)
  case atStart => exact ⟨0, 0, Nat.zero_le _, rfl, rfl, rfl⟩
  case round =>
  obtain ⟨k, M, hk, rfl, rfl, hM⟩ := hrel
  by_cases hlt : k < 64
  · have cw := within_any k hlt a s ha1 ha2 hs1 hs2
    have cp := power_any k hlt
    have cb := bit_any n k hn
    have cb2 := bit_any m ((k : Int) - a) hm
    have hn1 := Fld.ofBits_lt (setf n a s m) (k + 1)
    have hn2 : Fld.ofBits (setf n a s m) (k + 1) = M + (setf n a s m k).toNat * 2 ^ k := by rw [Fld.ofBits_succ, hM.out]
    have hn3 : 2 ^ (k + 1) ≤ 2 ^ 64 := pow_le (by omega)
    unfold bt at cb cb2
    rw [Fld.bitZ_nat] at cb
    have hf : setf n a s m k = if Fld.within a s k = true then Fld.bitZ m.toNat ((k : Int) - a) else n.toNat.testBit k := rfl
    obtain ⟨P, hP⟩ : ∃ P : Nat, 2 ^ k = P := ⟨_, rfl⟩
    obtain ⟨I, hI⟩ : ∃ I, Fld.within a s k = I := ⟨_, rfl⟩
    obtain ⟨X, hX⟩ : ∃ X, setf n a s m k = X := ⟨_, rfl⟩
    rw [hP] at cp hn2
    rw [hI] at cw hf
    rw [hX] at hn2 hf
    have hM' : Hid (M + X.toNat * P = Fld.ofBits (setf n a s m) (k + 1)) := hn2.symm
    have hw1 : IntKind.u64.wrap (((X.toNat : Nat) : Int) * ((P : Nat) : Int)) = ((X.toNat * P : Nat) : Int) := by
      rw [IntKind.wrap_u64]
      have := hM'.out
      cases X
      · show ((0 : Nat) : Int) * ((P : Nat) : Int) % 18446744073709551616 = ((0 * P : Nat) : Int)
        omega
      · have h : M + 1 * P = Fld.ofBits (setf n a s m) (k + 1) := this
        show ((1 : Nat) : Int) * ((P : Nat) : Int) % 18446744073709551616 = ((1 * P : Nat) : Int)
        omega
    have hw2 : IntKind.u64.wrap (((M : Nat) : Int) + ((X.toNat * P : Nat) : Int)) = ((M + X.toNat * P : Nat) : Int) := by
      rw [IntKind.wrap_u64]
      have := hM'.out
      omega
    obtain ⟨Y, hY⟩ : ∃ Y : Nat, X.toNat * P = Y := ⟨_, rfl⟩
    rw [hY] at hw1 hw2 hM'
    have b1 : (k : Int) < 64 := by omega
    have b0 : (0 : Int) ≤ (k : Int) := by omega
    clear hP hX hn1 hn2 hn3 hM hY
    cases I
    · have hf' : X = n.toNat.testBit k := by simpa using hf
      rw [← hf'] at cb
      obtain ⟨C, hC⟩ : ∃ C : Int, ((X.toNat : Nat) : Int) = C := ⟨_, rfl⟩
      rw [hC] at hw1 cb
      clear hf hf' hC hI cb2
      go_wp2_with fail
      refine (cb _).mono ?_
      rintro e w' ⟨rfl, rfl⟩
      go_wp2_with fail
      refine (cw _).mono ?_
      rintro e w' ⟨rfl, rfl⟩
      go_wp2_with fail
      refine (cp _).mono ?_
      rintro e w' ⟨rfl, rfl⟩
      go_wp2
      go_round
      case rel => exact ⟨k + 1, M + Y, by omega, by go_num, by go_num, hM'⟩
      case measure => simp [intOf]; omega
    · have hf' : X = Fld.bitZ m.toNat ((k : Int) - a) := by simpa using hf
      by_cases ha : -64 < a
      · rw [← hf'] at cb2
        obtain ⟨C, hC⟩ : ∃ C : Int, ((X.toNat : Nat) : Int) = C := ⟨_, rfl⟩
        obtain ⟨D, hD⟩ : ∃ D : Int, (((n.toNat.testBit k).toNat : Nat) : Int) = D := ⟨_, rfl⟩
        rw [hC] at hw1 cb2
        rw [hD] at cb
        clear hf hf' hC hI hD
        go_wp2_with fail
        refine (cb _).mono ?_
        rintro e w' ⟨rfl, rfl⟩
        go_wp2_with fail
        refine (cw _).mono ?_
        rintro e w' ⟨rfl, rfl⟩
        go_wp2_with fail
        refine (cb2 _).mono ?_
        rintro e w' ⟨rfl, rfl⟩
        go_wp2_with fail
        refine (cp _).mono ?_
        rintro e w' ⟨rfl, rfl⟩
        go_wp2
        go_round
        case rel => exact ⟨k + 1, M + Y, by omega, by go_num, by go_num, hM'⟩
        case measure => simp [intOf]; omega
      · have hX0 : X = false := by rw [hf', Fld.bitZ_lt hm.lt (by omega)]
        subst hX0
        have hw1' : IntKind.u64.wrap (0 * ((P : Nat) : Int)) = ((Y : Nat) : Int) := hw1
        obtain ⟨D, hD⟩ : ∃ D : Int, (((n.toNat.testBit k).toNat : Nat) : Int) = D := ⟨_, rfl⟩
        rw [hD] at cb
        have hY0 : Hid ((0 : Int) = ((Y : Nat) : Int)) := by rw [Hid, ← hw1', Int.zero_mul]; decide
        have hw3 : IntKind.u64.wrap ((M : Nat) : Int) = ((M : Nat) : Int) := by
          have := hY0.out
          have h0 : Y = 0 := by omega
          rw [h0] at hw2
          simpa using hw2
        have hM2 : Hid (M = Fld.ofBits (setf n a s m) (k + 1)) := by
          have := hY0.out
          have h := hM'.out
          rw [Hid]
          omega
        clear hf hf' hI hD hw1 hw1' hw2
        go_wp2_with fail
        refine (cb _).mono ?_
        rintro e w' ⟨rfl, rfl⟩
        go_wp2_with fail
        refine (cw _).mono ?_
        rintro e w' ⟨rfl, rfl⟩
        go_wp2_with fail
        refine (cp _).mono ?_
        rintro e w' ⟨rfl, rfl⟩
        go_wp2
        go_round
        case rel => exact ⟨k + 1, M, by omega, by go_num, by go_num, hM2⟩
        case measure => simp [intOf]; omega
  · have hk64 : k = 64 := by omega
    subst hk64
    go_wp2
    go_ret
    exact ⟨ret_int (by rw [hM.out]; rfl), rfl⟩

def farB (a s : Int) : Bool := decide (a < -1000 ∨ 1000 < a ∨ s < -1000 ∨ 1000 < s)
set_option maxHeartbeats 400000 in
theorem far_any (a s : Int) (w : World) :
    Calls Try.prog 45 #[.int .i64 a, .int .i64 s] w fun e w' => e = .returned (.bool (farB a s)) ∧ w = w' := by
  by_cases h1 : a < -1000
  · have hE : Hid (farB a s = true) := decide_eq_true (Or.inl h1)
    go_enter Try.func45, Try.ntmps45
    go_wp2
    go_ret
    exact ⟨ret_bool (by rw [hE.out]), rfl⟩
  by_cases h2 : 1000 < a
  · have hE : Hid (farB a s = true) := decide_eq_true (by omega)
    go_enter Try.func45, Try.ntmps45
    go_wp2
    go_ret
    exact ⟨ret_bool (by rw [hE.out]), rfl⟩
  by_cases h3 : s < -1000
  · have hE : Hid (farB a s = true) := decide_eq_true (by omega)
    go_enter Try.func45, Try.ntmps45
    go_wp2
    go_ret
    exact ⟨ret_bool (by rw [hE.out]), rfl⟩
  have hE : Hid (farB a s = decide (1000 < s)) := by rw [Hid, farB, decide_eq_decide]; omega
  go_enter Try.func45, Try.ntmps45
  go_wp2
  go_ret
  exact ⟨ret_bool (by rw [hE.out]), rfl⟩

set_option maxHeartbeats 1000000 in
theorem cuts_far1n {n a s : Int} {t : Bool} (h : a < 64) (g1 : s < 0) (g2 : s ≤ 0) (g3 : ¬ 0 < s) (g4 : ¬ 0 ≤ s)
    (cf : ∀ w : World, Calls Try.prog 45 #[.int .i64 a, .int .i64 s] w fun e w' => e = .returned (.bool true) ∧ w = w')
    (c1 : ∀ w : World, Calls Try.prog 46 #[.int .i64 a, .int .i64 s] w fun e w' => e = .returned (.int .u64 0) ∧ w = w')
    (w : World) :
    Calls Try.prog 10 #[.int .u64 n, .int .i64 a, .int .i64 s] w fun e w' => e = .returned (.bool true) ∧ Below w.heap.size w w' := by
  go_enter Try.func10, Try.ntmps10
  go_wp2_with (first | (go_at_call 45; refine (cf _).mono ?_; rintro e w' ⟨rfl, rfl⟩) | (go_at_call 46; refine (c1 _).mono ?_; rintro e w' ⟨rfl, rfl⟩) | (go_at_call 44; refine (lives01 _).mono ?_; rintro e w5 ⟨rfl, hb5⟩))
  go_ret
  exact ⟨rfl, hb5⟩

set_option maxHeartbeats 1000000 in
theorem cuts_far2n {n a s : Int} {t : Bool} (h : ¬ a < 64) (g1 : s < 0) (g2 : s ≤ 0) (g3 : ¬ 0 < s) (g4 : ¬ 0 ≤ s)
    (cf : ∀ w : World, Calls Try.prog 45 #[.int .i64 a, .int .i64 s] w fun e w' => e = .returned (.bool true) ∧ w = w')
    (c1 : ∀ w : World, Calls Try.prog 46 #[.int .i64 a, .int .i64 s] w fun e w' => e = .returned (.int .u64 0) ∧ w = w')
    (c3 : ∀ w : World, Calls Try.prog 47 #[.int .u64 n, .int .i64 a, .int .i64 s] w fun e w' => e = .returned (.int .u64 0) ∧ w = w')
    (w : World) :
    Calls Try.prog 10 #[.int .u64 n, .int .i64 a, .int .i64 s] w fun e w' => e = .returned (.bool true) ∧ Below w.heap.size w w' := by
  go_enter Try.func10, Try.ntmps10
  go_wp2_with (first | (go_at_call 45; refine (cf _).mono ?_; rintro e w' ⟨rfl, rfl⟩) | (go_at_call 46; refine (c1 _).mono ?_; rintro e w' ⟨rfl, rfl⟩) | (go_at_call 47; refine (c3 _).mono ?_; rintro e w' ⟨rfl, rfl⟩) | (go_at_call 44; refine (lives01 _).mono ?_; rintro e w5 ⟨rfl, hb5⟩))
  go_ret
  exact ⟨rfl, hb5⟩

set_option maxHeartbeats 1000000 in
theorem cuts_far1p {n a s : Int} {t : Bool} (h : a < 64) (g1 : 0 < s) (g2 : 0 ≤ s) (g3 : ¬ s < 0) (g4 : ¬ s ≤ 0)
    (cf : ∀ w : World, Calls Try.prog 45 #[.int .i64 a, .int .i64 s] w fun e w' => e = .returned (.bool true) ∧ w = w')
    (c1 : ∀ w : World, Calls Try.prog 46 #[.int .i64 a, .int .i64 0] w fun e w' => e = .returned (.int .u64 0) ∧ w = w')
    (w : World) :
    Calls Try.prog 10 #[.int .u64 n, .int .i64 a, .int .i64 s] w fun e w' => e = .returned (.bool true) ∧ Below w.heap.size w w' := by
  go_enter Try.func10, Try.ntmps10
  go_wp2_with (first | (go_at_call 45; refine (cf _).mono ?_; rintro e w' ⟨rfl, rfl⟩) | (go_at_call 46; refine (c1 _).mono ?_; rintro e w' ⟨rfl, rfl⟩) | (go_at_call 44; refine (lives01 _).mono ?_; rintro e w5 ⟨rfl, hb5⟩))
  go_ret
  exact ⟨rfl, hb5⟩

set_option maxHeartbeats 1000000 in
theorem cuts_far2p {n a s : Int} {t : Bool} (h : ¬ a < 64) (g1 : 0 < s) (g2 : 0 ≤ s) (g3 : ¬ s < 0) (g4 : ¬ s ≤ 0)
    (cf : ∀ w : World, Calls Try.prog 45 #[.int .i64 a, .int .i64 s] w fun e w' => e = .returned (.bool true) ∧ w = w')
    (c1 : ∀ w : World, Calls Try.prog 46 #[.int .i64 a, .int .i64 0] w fun e w' => e = .returned (.int .u64 0) ∧ w = w')
    (c2 : ∀ w : World, Calls Try.prog 46 #[.int .i64 a, .int .i64 s] w fun e w' => e = .returned (.int .u64 0) ∧ w = w')
    (c3 : ∀ w : World, Calls Try.prog 47 #[.int .u64 n, .int .i64 a, .int .i64 s] w fun e w' => e = .returned (.int .u64 0) ∧ w = w')
    (w : World) :
    Calls Try.prog 10 #[.int .u64 n, .int .i64 a, .int .i64 s] w fun e w' => e = .returned (.bool true) ∧ Below w.heap.size w w' := by
  go_enter Try.func10, Try.ntmps10
  go_wp2_with fail
  refine (cf _).mono ?_
  rintro e w' ⟨rfl, rfl⟩
  go_wp2_with fail
  refine (c1 _).mono ?_
  rintro e w' ⟨rfl, rfl⟩
  go_wp2_with fail
  refine (c2 _).mono ?_
  rintro e w' ⟨rfl, rfl⟩
  go_wp2_with fail
  refine (c3 _).mono ?_
  rintro e w' ⟨rfl, rfl⟩
  go_wp2_with fail
  refine (lives01 _).mono ?_
  rintro e w5 ⟨rfl, hb5⟩
  go_wp2
  go_ret
  exact ⟨rfl, hb5⟩

set_option maxHeartbeats 1000000 in
theorem cuts_far1z {n a s : Int} {t : Bool} (h : a < 64)
    (cf : ∀ w : World, Calls Try.prog 45 #[.int .i64 a, .int .i64 0] w fun e w' => e = .returned (.bool true) ∧ w = w')
    (c1 : ∀ w : World, Calls Try.prog 46 #[.int .i64 a, .int .i64 0] w fun e w' => e = .returned (.int .u64 0) ∧ w = w')
    (w : World) :
    Calls Try.prog 10 #[.int .u64 n, .int .i64 a, .int .i64 0] w fun e w' => e = .returned (.bool true) ∧ Below w.heap.size w w' := by
  go_enter Try.func10, Try.ntmps10
  go_wp2_with (first | (go_at_call 45; refine (cf _).mono ?_; rintro e w' ⟨rfl, rfl⟩) | (go_at_call 46; refine (c1 _).mono ?_; rintro e w' ⟨rfl, rfl⟩) | (go_at_call 44; refine (lives01 _).mono ?_; rintro e w5 ⟨rfl, hb5⟩))
  go_ret
  exact ⟨rfl, hb5⟩

set_option maxHeartbeats 1000000 in
theorem cuts_far2z {n a s : Int} {t : Bool} (h : ¬ a < 64)
    (cf : ∀ w : World, Calls Try.prog 45 #[.int .i64 a, .int .i64 0] w fun e w' => e = .returned (.bool true) ∧ w = w')
    (c1 : ∀ w : World, Calls Try.prog 46 #[.int .i64 a, .int .i64 0] w fun e w' => e = .returned (.int .u64 0) ∧ w = w')
    (c3 : ∀ w : World, Calls Try.prog 47 #[.int .u64 n, .int .i64 a, .int .i64 0] w fun e w' => e = .returned (.int .u64 0) ∧ w = w')
    (w : World) :
    Calls Try.prog 10 #[.int .u64 n, .int .i64 a, .int .i64 0] w fun e w' => e = .returned (.bool true) ∧ Below w.heap.size w w' := by
  go_enter Try.func10, Try.ntmps10
  go_wp2_with (first | (go_at_call 45; refine (cf _).mono ?_; rintro e w' ⟨rfl, rfl⟩) | (go_at_call 46; refine (c1 _).mono ?_; rintro e w' ⟨rfl, rfl⟩) | (go_at_call 47; refine (c3 _).mono ?_; rintro e w' ⟨rfl, rfl⟩) | (go_at_call 44; refine (lives01 _).mono ?_; rintro e w5 ⟨rfl, hb5⟩))
  go_ret
  exact ⟨rfl, hb5⟩

set_option maxHeartbeats 1000000 in
theorem cuts_3 {n a s M : Int} {t : Bool} (h : 64 < s) (h2 : a < 0)
    (cf : ∀ w : World, Calls Try.prog 45 #[.int .i64 a, .int .i64 s] w fun e w' => e = .returned (.bool false) ∧ w = w')
    (c4 : ∀ w : World, Calls Try.prog 46 #[.int .i64 a, .int .i64 s] w fun e w' => e = .returned (.int .u64 M) ∧ w = w')
    (c5 : ∀ w : World, Calls Try.prog 48 #[.int .i64 a, .int .i64 s] w fun e w' => e = .returned (.int .u64 M) ∧ w = w')
    (w : World) :
    Calls Try.prog 10 #[.int .u64 n, .int .i64 a, .int .i64 s] w fun e w' => e = .returned (.bool true) ∧ Below w.heap.size w w' := by
  go_enter Try.func10, Try.ntmps10
  go_wp2_with (first | (go_at_call 45; refine (cf _).mono ?_; rintro e w' ⟨rfl, rfl⟩) | (go_at_call 46; refine (c4 _).mono ?_; rintro e w' ⟨rfl, rfl⟩) | (go_at_call 48; refine (c5 _).mono ?_; rintro e w' ⟨rfl, rfl⟩) | (go_at_call 44; refine (lives01 _).mono ?_; rintro e w5 ⟨rfl, hb5⟩))
  go_ret
  exact ⟨rfl, hb5⟩

set_option maxHeartbeats 1000000 in
theorem cuts_4 {n a s M K b : Int} {t : Bool} (h : 64 < s) (h2 : ¬ a < 0) (h3 : (b == 1) = t)
    (cf : ∀ w : World, Calls Try.prog 45 #[.int .i64 a, .int .i64 s] w fun e w' => e = .returned (.bool false) ∧ w = w')
    (c4 : ∀ w : World, Calls Try.prog 46 #[.int .i64 a, .int .i64 s] w fun e w' => e = .returned (.int .u64 M) ∧ w = w')
    (c5 : ∀ w : World, Calls Try.prog 48 #[.int .i64 a, .int .i64 s] w fun e w' => e = .returned (.int .u64 M) ∧ w = w')
    (c6 : ∀ w : World, Calls Try.prog 47 #[.int .u64 n, .int .i64 a, .int .i64 s] w fun e w' => e = .returned (.int .u64 K) ∧ w = w')
    (c7 : ∀ w : World, Calls Try.prog 49 #[.int .u64 n, .int .i64 a, .int .i64 s] w fun e w' => e = .returned (.int .u64 K) ∧ w = w')
    (c8 : ∀ w : World, Calls Try.prog 50 #[.int .u64 n, .int .i64 a] w fun e w' => e = .returned (.bool t) ∧ w = w')
    (c9 : ∀ w : World, Calls Try.prog 51 #[.int .u64 n, .int .i64 a] w fun e w' => e = .returned (.int .u64 b) ∧ w = w')
    (w : World) :
    Calls Try.prog 10 #[.int .u64 n, .int .i64 a, .int .i64 s] w fun e w' => e = .returned (.bool true) ∧ Below w.heap.size w w' := by
  go_enter Try.func10, Try.ntmps10
  go_wp2_with (first | (go_at_call 45; refine (cf _).mono ?_; rintro e w' ⟨rfl, rfl⟩) | (go_at_call 46; refine (c4 _).mono ?_; rintro e w' ⟨rfl, rfl⟩) | (go_at_call 48; refine (c5 _).mono ?_; rintro e w' ⟨rfl, rfl⟩) | (go_at_call 47; refine (c6 _).mono ?_; rintro e w' ⟨rfl, rfl⟩) | (go_at_call 49; refine (c7 _).mono ?_; rintro e w' ⟨rfl, rfl⟩) | (go_at_call 50; refine (c8 _).mono ?_; rintro e w' ⟨rfl, rfl⟩) | (go_at_call 51; refine (c9 _).mono ?_; rintro e w' ⟨rfl, rfl⟩) | (go_at_call 44; refine (lives01 _).mono ?_; rintro e w5 ⟨rfl, hb5⟩))
  go_ret
  exact ⟨rfl, hb5⟩

set_option maxHeartbeats 1000000 in
theorem cuts_5 {n a s M K b : Int} {t : Bool} (h : ¬ 64 < s) (h3 : (b == 1) = t)
    (cf : ∀ w : World, Calls Try.prog 45 #[.int .i64 a, .int .i64 s] w fun e w' => e = .returned (.bool false) ∧ w = w')
    (c4 : ∀ w : World, Calls Try.prog 46 #[.int .i64 a, .int .i64 s] w fun e w' => e = .returned (.int .u64 M) ∧ w = w')
    (c5 : ∀ w : World, Calls Try.prog 48 #[.int .i64 a, .int .i64 s] w fun e w' => e = .returned (.int .u64 M) ∧ w = w')
    (c6 : ∀ w : World, Calls Try.prog 47 #[.int .u64 n, .int .i64 a, .int .i64 s] w fun e w' => e = .returned (.int .u64 K) ∧ w = w')
    (c7 : ∀ w : World, Calls Try.prog 49 #[.int .u64 n, .int .i64 a, .int .i64 s] w fun e w' => e = .returned (.int .u64 K) ∧ w = w')
    (c8 : ∀ w : World, Calls Try.prog 50 #[.int .u64 n, .int .i64 a] w fun e w' => e = .returned (.bool t) ∧ w = w')
    (c9 : ∀ w : World, Calls Try.prog 51 #[.int .u64 n, .int .i64 a] w fun e w' => e = .returned (.int .u64 b) ∧ w = w')
    (w : World) :
    Calls Try.prog 10 #[.int .u64 n, .int .i64 a, .int .i64 s] w fun e w' => e = .returned (.bool true) ∧ Below w.heap.size w w' := by
  go_enter Try.func10, Try.ntmps10
  go_wp2_with (first | (go_at_call 45; refine (cf _).mono ?_; rintro e w' ⟨rfl, rfl⟩) | (go_at_call 46; refine (c4 _).mono ?_; rintro e w' ⟨rfl, rfl⟩) | (go_at_call 48; refine (c5 _).mono ?_; rintro e w' ⟨rfl, rfl⟩) | (go_at_call 47; refine (c6 _).mono ?_; rintro e w' ⟨rfl, rfl⟩) | (go_at_call 49; refine (c7 _).mono ?_; rintro e w' ⟨rfl, rfl⟩) | (go_at_call 50; refine (c8 _).mono ?_; rintro e w' ⟨rfl, rfl⟩) | (go_at_call 51; refine (c9 _).mono ?_; rintro e w' ⟨rfl, rfl⟩) | (go_at_call 44; refine (lives01 _).mono ?_; rintro e w5 ⟨rfl, hb5⟩))
  go_ret
  exact ⟨rfl, hb5⟩

theorem cuts_any (n a s : Int) (hn : U64 n) (ha : I64 a) (hs : I64 s) (w : World) :
    Calls Try.prog 10 #[.int .u64 n, .int .i64 a, .int .i64 s] w fun e w' => e = .returned (.bool true) ∧ Below w.heap.size w w' := by
  have cf := far_any a s
  by_cases hf : farB a s = true
  · rw [hf] at cf
    have c1 := fun w => mask_any a 0 w ha (by unfold I64; omega)
    rw [Fld.mask_none (by omega)] at c1
    rcases Int.lt_trichotomy s 0 with g | rfl | g
    · have c2 := fun w => mask_any a s w ha hs
      rw [Fld.mask_none (by omega)] at c2
      by_cases h : a < 64
      · exact cuts_far1n (t := true) h g (by omega) (by omega) (by omega) cf c2 w
      · have c3 := fun w => cut_any n a s w hn ha hs
        rw [Fld.cut_high (by omega) hn.lt] at c3
        exact cuts_far2n (t := true) h g (by omega) (by omega) (by omega) cf c2 c3 w
    · by_cases h : a < 64
      · exact cuts_far1z (s := 0) (t := true) h cf c1 w
      · have c3 := fun w => cut_any n a 0 w hn ha hs
        rw [Fld.cut_high (by omega) hn.lt] at c3
        exact cuts_far2z (s := 0) (t := true) h cf c1 c3 w
    · by_cases h : a < 64
      · exact cuts_far1p (t := true) h g (by omega) (by omega) (by omega) cf c1 w
      · have c2 := fun w => mask_any a s w ha hs
        rw [Fld.mask_none (by omega)] at c2
        have c3 := fun w => cut_any n a s w hn ha hs
        rw [Fld.cut_high (by omega) hn.lt] at c3
        exact cuts_far2p (t := true) h g (by omega) (by omega) (by omega) cf c1 c2 c3 w
  · have hf' : farB a s = false := by simpa using hf
    rw [hf'] at cf
    have hb : ¬ (a < -1000 ∨ 1000 < a ∨ s < -1000 ∨ 1000 < s) := of_decide_eq_false hf'
    have e3 : (bt n a == 1) = Fld.bitZ n.toNat a := by unfold bt; cases Fld.bitZ n.toNat a <;> rfl
    by_cases h : 64 < s
    · by_cases h2 : a < 0
      · exact cuts_3 (t := true) h h2 cf (fun w => mask_any a s w ha hs) (rmask_any a s (by omega) (by omega) (by omega) (by omega)) w
      · exact cuts_4 h h2 e3 cf (fun w => mask_any a s w ha hs) (rmask_any a s (by omega) (by omega) (by omega) (by omega)) (fun w => cut_any n a s w hn ha hs) (rcut_any n a s hn (by omega) (by omega) (by omega) (by omega)) (fun w => has_any n a w hn ha) (bit_any n a hn) w
    · exact cuts_5 h e3 cf (fun w => mask_any a s w ha hs) (rmask_any a s (by omega) (by omega) (by omega) (by omega)) (fun w => cut_any n a s w hn ha hs) (rcut_any n a s hn (by omega) (by omega) (by omega) (by omega)) (fun w => has_any n a w hn ha) (bit_any n a hn) w
end Go.Proofs.Ytmjihjbedgbhbaa
