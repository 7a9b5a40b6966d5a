/- Sets of ways: words. -/
import Derived.Test.YtgkogodfegfdfaaWaysE
import Derived.Test.YtgkogodfegfdfaaFieldA
namespace Go.Proofs.Ytgkogodfegfdfaa
set_option linter.unusedVariables false
set_option linter.unusedSimpArgs false
open Go.RowKit

theorem wrap_u (n : Int) : IntKind.u64.wrap n = ((Fld.u64 n : Nat) : Int) := by rw [IntKind.wrap_u64, Fld.cast_u64]
theorem U64.u (n : Int) : U64 ((Fld.u64 n : Nat) : Int) := by
  have := Fld.u64_lt n
  unfold U64
  omega
/-- The word after k ways. -/
def wk (S : WS) : Nat → Nat
  | 0 => Fld.set (Fld.set 0 36 2 (Fld.u64 S.hd)) 38 26 S.tu.toNat
  | k + 1 => Fld.set (Fld.set (wk S k) (9 * (k : Int)) 8 (Fld.u64 (S.sl k))) (9 * (k : Int) + 8) 1 (if S.tc k = true then 1 else 0)
/-- The same, as a sum. -/
def rk (S : WS) : Nat → Nat
  | 0 => Fld.u64 S.hd % 4 * 68719476736 + S.tu.toNat % 67108864 * 274877906944
  | k + 1 => rk S k + Fld.u64 (S.sl k) % 256 * 2 ^ (9 * k) + (if S.tc k = true then 2 ^ (9 * k + 8) else 0)
theorem wk_lt (S : WS) : ∀ k, wk S k < 2 ^ 64
  | 0 => Fld.set_lt _ _ _ _
  | k + 1 => Fld.set_lt _ _ _ _
theorem step0 {A X b L : Nat} (hw : A * 68719476736 + L < 2 ^ 64) (hL : L < 2 ^ (9 * 0)) (hb : b < 2) :
    Fld.set (Fld.set (A * 68719476736 + L) (9 * ((0 : Nat) : Int)) 8 X) (9 * ((0 : Nat) : Int) + 8) 1 b = A * 68719476736 + L + X % 256 * 2 ^ (9 * 0) + b * 2 ^ (9 * 0 + 8) ∧
      ∃ L', A * 68719476736 + L + X % 256 * 2 ^ (9 * 0) + b * 2 ^ (9 * 0 + 8) = A * 68719476736 + L' ∧ L' < 2 ^ (9 * (0 + 1)) := by
  have a1 := Fld.set_eq (w := A * 68719476736 + L) (n := X) (a := 0) (s := 8) hw (by decide)
  have a2 := Fld.set_eq (w := Fld.set (A * 68719476736 + L) ((0 : Nat) : Int) ((8 : Nat) : Int) X) (n := b) (a := 8) (s := 1) (Fld.set_lt _ _ _ _) (by decide)
  have e1 : (9 * ((0 : Nat) : Int)) = ((0 : Nat) : Int) := rfl
  have e2 : (9 * ((0 : Nat) : Int) + 8) = ((8 : Nat) : Int) := rfl
  have e3 : (8 : Int) = ((8 : Nat) : Int) := rfl
  have e4 : (1 : Int) = ((1 : Nat) : Int) := rfl
  rw [e2, e1, e3, e4, a2, a1]
  have p1 : (2 : Nat) ^ 0 = 1 := by decide
  have p2 : (2 : Nat) ^ (0 + 8) = 256 := by decide
  have p3 : (2 : Nat) ^ (8 + 1) = 512 := by decide
  have p4 : (2 : Nat) ^ 8 = 256 := by decide
  have p5 : (2 : Nat) ^ (9 * 0) = 1 := by decide
  have p6 : (2 : Nat) ^ (9 * 0 + 8) = 256 := by decide
  have p7 : (2 : Nat) ^ (9 * (0 + 1)) = 512 := by decide
  have p8 : (2 : Nat) ^ 8 = 256 := by decide
  have p9 : (2 : Nat) ^ 1 = 2 := by decide
  have p10 : (2 : Nat) ^ 64 = 18446744073709551616 := by decide
  rw [p5] at hL
  rw [p10] at hw
  simp only [p1, p2, p3, p4, p5, p6, p7, p8, p9]
  clear a1 a2 e1 e2 e3 e4 p1 p2 p3 p4 p5 p6 p7 p8 p9 p10
  exact ⟨by omega, L + X % 256 * 1 + b * 256, by omega, by omega⟩
theorem step1 {A X b L : Nat} (hw : A * 68719476736 + L < 2 ^ 64) (hL : L < 2 ^ (9 * 1)) (hb : b < 2) :
    Fld.set (Fld.set (A * 68719476736 + L) (9 * ((1 : Nat) : Int)) 8 X) (9 * ((1 : Nat) : Int) + 8) 1 b = A * 68719476736 + L + X % 256 * 2 ^ (9 * 1) + b * 2 ^ (9 * 1 + 8) ∧
      ∃ L', A * 68719476736 + L + X % 256 * 2 ^ (9 * 1) + b * 2 ^ (9 * 1 + 8) = A * 68719476736 + L' ∧ L' < 2 ^ (9 * (1 + 1)) := by
  have a1 := Fld.set_eq (w := A * 68719476736 + L) (n := X) (a := 9) (s := 8) hw (by decide)
  have a2 := Fld.set_eq (w := Fld.set (A * 68719476736 + L) ((9 : Nat) : Int) ((8 : Nat) : Int) X) (n := b) (a := 17) (s := 1) (Fld.set_lt _ _ _ _) (by decide)
  have e1 : (9 * ((1 : Nat) : Int)) = ((9 : Nat) : Int) := rfl
  have e2 : (9 * ((1 : Nat) : Int) + 8) = ((17 : Nat) : Int) := rfl
  have e3 : (8 : Int) = ((8 : Nat) : Int) := rfl
  have e4 : (1 : Int) = ((1 : Nat) : Int) := rfl
  rw [e2, e1, e3, e4, a2, a1]
  have p1 : (2 : Nat) ^ 9 = 512 := by decide
  have p2 : (2 : Nat) ^ (9 + 8) = 131072 := by decide
  have p3 : (2 : Nat) ^ (17 + 1) = 262144 := by decide
  have p4 : (2 : Nat) ^ 17 = 131072 := by decide
  have p5 : (2 : Nat) ^ (9 * 1) = 512 := by decide
  have p6 : (2 : Nat) ^ (9 * 1 + 8) = 131072 := by decide
  have p7 : (2 : Nat) ^ (9 * (1 + 1)) = 262144 := by decide
  have p8 : (2 : Nat) ^ 8 = 256 := by decide
  have p9 : (2 : Nat) ^ 1 = 2 := by decide
  have p10 : (2 : Nat) ^ 64 = 18446744073709551616 := by decide
  rw [p5] at hL
  rw [p10] at hw
  simp only [p1, p2, p3, p4, p5, p6, p7, p8, p9]
  clear a1 a2 e1 e2 e3 e4 p1 p2 p3 p4 p5 p6 p7 p8 p9 p10
  exact ⟨by omega, L + X % 256 * 512 + b * 131072, by omega, by omega⟩
theorem step2 {A X b L : Nat} (hw : A * 68719476736 + L < 2 ^ 64) (hL : L < 2 ^ (9 * 2)) (hb : b < 2) :
    Fld.set (Fld.set (A * 68719476736 + L) (9 * ((2 : Nat) : Int)) 8 X) (9 * ((2 : Nat) : Int) + 8) 1 b = A * 68719476736 + L + X % 256 * 2 ^ (9 * 2) + b * 2 ^ (9 * 2 + 8) ∧
      ∃ L', A * 68719476736 + L + X % 256 * 2 ^ (9 * 2) + b * 2 ^ (9 * 2 + 8) = A * 68719476736 + L' ∧ L' < 2 ^ (9 * (2 + 1)) := by
  have a1 := Fld.set_eq (w := A * 68719476736 + L) (n := X) (a := 18) (s := 8) hw (by decide)
  have a2 := Fld.set_eq (w := Fld.set (A * 68719476736 + L) ((18 : Nat) : Int) ((8 : Nat) : Int) X) (n := b) (a := 26) (s := 1) (Fld.set_lt _ _ _ _) (by decide)
  have e1 : (9 * ((2 : Nat) : Int)) = ((18 : Nat) : Int) := rfl
  have e2 : (9 * ((2 : Nat) : Int) + 8) = ((26 : Nat) : Int) := rfl
  have e3 : (8 : Int) = ((8 : Nat) : Int) := rfl
  have e4 : (1 : Int) = ((1 : Nat) : Int) := rfl
  rw [e2, e1, e3, e4, a2, a1]
  have p1 : (2 : Nat) ^ 18 = 262144 := by decide
  have p2 : (2 : Nat) ^ (18 + 8) = 67108864 := by decide
  have p3 : (2 : Nat) ^ (26 + 1) = 134217728 := by decide
  have p4 : (2 : Nat) ^ 26 = 67108864 := by decide
  have p5 : (2 : Nat) ^ (9 * 2) = 262144 := by decide
  have p6 : (2 : Nat) ^ (9 * 2 + 8) = 67108864 := by decide
  have p7 : (2 : Nat) ^ (9 * (2 + 1)) = 134217728 := by decide
  have p8 : (2 : Nat) ^ 8 = 256 := by decide
  have p9 : (2 : Nat) ^ 1 = 2 := by decide
  have p10 : (2 : Nat) ^ 64 = 18446744073709551616 := by decide
  rw [p5] at hL
  rw [p10] at hw
  simp only [p1, p2, p3, p4, p5, p6, p7, p8, p9]
  clear a1 a2 e1 e2 e3 e4 p1 p2 p3 p4 p5 p6 p7 p8 p9 p10
  exact ⟨by omega, L + X % 256 * 262144 + b * 67108864, by omega, by omega⟩
theorem step3 {A X b L : Nat} (hw : A * 68719476736 + L < 2 ^ 64) (hL : L < 2 ^ (9 * 3)) (hb : b < 2) :
    Fld.set (Fld.set (A * 68719476736 + L) (9 * ((3 : Nat) : Int)) 8 X) (9 * ((3 : Nat) : Int) + 8) 1 b = A * 68719476736 + L + X % 256 * 2 ^ (9 * 3) + b * 2 ^ (9 * 3 + 8) ∧
      ∃ L', A * 68719476736 + L + X % 256 * 2 ^ (9 * 3) + b * 2 ^ (9 * 3 + 8) = A * 68719476736 + L' ∧ L' < 2 ^ (9 * (3 + 1)) := by
  have a1 := Fld.set_eq (w := A * 68719476736 + L) (n := X) (a := 27) (s := 8) hw (by decide)
  have a2 := Fld.set_eq (w := Fld.set (A * 68719476736 + L) ((27 : Nat) : Int) ((8 : Nat) : Int) X) (n := b) (a := 35) (s := 1) (Fld.set_lt _ _ _ _) (by decide)
  have e1 : (9 * ((3 : Nat) : Int)) = ((27 : Nat) : Int) := rfl
  have e2 : (9 * ((3 : Nat) : Int) + 8) = ((35 : Nat) : Int) := rfl
  have e3 : (8 : Int) = ((8 : Nat) : Int) := rfl
  have e4 : (1 : Int) = ((1 : Nat) : Int) := rfl
  rw [e2, e1, e3, e4, a2, a1]
  have p1 : (2 : Nat) ^ 27 = 134217728 := by decide
  have p2 : (2 : Nat) ^ (27 + 8) = 34359738368 := by decide
  have p3 : (2 : Nat) ^ (35 + 1) = 68719476736 := by decide
  have p4 : (2 : Nat) ^ 35 = 34359738368 := by decide
  have p5 : (2 : Nat) ^ (9 * 3) = 134217728 := by decide
  have p6 : (2 : Nat) ^ (9 * 3 + 8) = 34359738368 := by decide
  have p7 : (2 : Nat) ^ (9 * (3 + 1)) = 68719476736 := by decide
  have p8 : (2 : Nat) ^ 8 = 256 := by decide
  have p9 : (2 : Nat) ^ 1 = 2 := by decide
  have p10 : (2 : Nat) ^ 64 = 18446744073709551616 := by decide
  rw [p5] at hL
  rw [p10] at hw
  simp only [p1, p2, p3, p4, p5, p6, p7, p8, p9]
  clear a1 a2 e1 e2 e3 e4 p1 p2 p3 p4 p5 p6 p7 p8 p9 p10
  exact ⟨by omega, L + X % 256 * 134217728 + b * 34359738368, by omega, by omega⟩
theorem wk_rk (S : WS) (k : Nat) (hk : k ≤ 4) : wk S k = rk S k ∧ ∃ L, rk S k = (Fld.u64 S.hd % 4 + S.tu.toNat % 67108864 * 4) * 68719476736 + L ∧ L < 2 ^ (9 * k) := by
  induction k with
  | zero =>
    refine ⟨?_, 0, by unfold rk; omega, by decide⟩
    have h1 := Fld.set_eq (w := 0) (n := Fld.u64 S.hd) (a := 36) (s := 2) (by decide) (by decide)
    have h1' : Fld.set 0 36 2 (Fld.u64 S.hd) = Fld.u64 S.hd % 4 * 68719476736 := by
      have e : Fld.set 0 ((36 : Nat) : Int) ((2 : Nat) : Int) (Fld.u64 S.hd) = Fld.set 0 36 2 (Fld.u64 S.hd) := rfl
      rw [← e, h1]
      omega
    have h2 := Fld.set_eq (w := Fld.u64 S.hd % 4 * 68719476736) (n := S.tu.toNat) (a := 38) (s := 26) (by omega) (by decide)
    have e : Fld.set (Fld.u64 S.hd % 4 * 68719476736) ((38 : Nat) : Int) ((26 : Nat) : Int) S.tu.toNat = Fld.set (Fld.u64 S.hd % 4 * 68719476736) 38 26 S.tu.toNat := rfl
    unfold wk rk
    rw [h1', ← e, h2]
    omega
  | succ k ih =>
    obtain ⟨ih1, L, ih2, ih3⟩ := ih (by omega)
    have hw : rk S k < 2 ^ 64 := by
      rw [← ih1]
      exact wk_lt S k
    rw [wk, ih1, rk]
    rw [ih2] at hw ⊢
    clear ih1 ih2
    generalize Fld.u64 S.hd % 4 + S.tu.toNat % 67108864 * 4 = A at *
    generalize Fld.u64 (S.sl k) = X
    have hb : (if S.tc k = true then 1 else 0) < 2 := by split <;> decide
    have hb2 : (if S.tc k = true then 2 ^ (9 * k + 8) else 0) = (if S.tc k = true then 1 else 0) * 2 ^ (9 * k + 8) := by split <;> simp
    rw [hb2]
    clear hb2
    generalize (if S.tc k = true then 1 else 0) = b at *
    have hk4 : k = 0 ∨ k = 1 ∨ k = 2 ∨ k = 3 := by omega
    clear hk
    rcases hk4 with rfl | rfl | rfl | rfl
    · exact step0 hw ih3 hb
    · exact step1 hw ih3 hb
    · exact step2 hw ih3 hb
    · exact step3 hw ih3 hb

set_option maxHeartbeats 2000000 in
set_option maxRecDepth 100000 in
theorem power_any (n : Nat) (hn : n ≤ 63) (w : World) : Calls Try.prog 24 #[.int .i64 (n : Int)] w fun e w' => e = .returned (.int .u64 ((2 ^ n : Nat) : Int)) ∧ w = w' := by
  go_enter Try.func24, Try.ntmps24
  go_wp2
  go_loopg [3, 4] n (fun gk p i wr => ∃ k : Nat, k + gk = n ∧ i = .int .i64 k ∧ p = .int .u64 ((2 ^ k : Nat) : Int) ∧ w = wr)
  case atStart => exact ⟨0, by omega, rfl, rfl, rfl⟩
  case round =>
    obtain ⟨k, hk, rfl, rfl, rfl⟩ := hrel
    by_cases hlt : k < n
    · have h2 : 2 ^ (k + 1) ≤ 2 ^ 63 := Nat.pow_le_pow_right (by decide) (by omega)
      have hS : Hid (((2 ^ (k + 1) : Nat) : Int) = 2 * ((2 ^ k : Nat) : Int)) := by rw [Hid, Nat.pow_succ]; omega
      rw [Nat.pow_succ] at h2
      have h3 : ((2 ^ k : Nat) : Int) ≤ 4611686018427387904 := by omega
      have h4 : 0 ≤ ((2 ^ k : Nat) : Int) := by omega
      clear h2
      generalize ((2 ^ k : Nat) : Int) = P at *
      have b1 : (k : Int) < (n : Int) := by omega
      go_wp2
      go_roundg (gk - 1)
      case measure => omega
      case rel => exact ⟨k + 1, by omega, by go_num, by rw [hS.out], rfl⟩
    · obtain rfl : k = n := by omega
      generalize hP : ((2 ^ k : Nat) : Int) = P at *
      have HP := Lib.hid hP
      clear hP
      go_wp2
      go_ret
      exact ⟨by rw [HP.out]; rfl, rfl⟩
end Go.Proofs.Ytgkogodfegfdfaa
