/- Sets of ways: Read, the document's Read, lives. -/
import Derived.Test.YtgkogodfegfdfaaWaysG
namespace Go.Proofs.Ytgkogodfegfdfaa
set_option linter.unusedVariables false
set_option linter.unusedSimpArgs false
open Go.RowKit

/-- The set with a word. -/
def readS (n : Nat) : WS := ⟨(n % 256 : Nat), (n / 512 % 256 : Nat), (n / 262144 % 256 : Nat), (n / 134217728 % 256 : Nat), decide (256 ≤ n % 512), decide (256 ≤ n / 512 % 512), decide (256 ≤ n / 262144 % 512), decide (256 ≤ n / 134217728 % 512), (n / 68719476736 % 4 : Nat), (n / 274877906944 : Nat)⟩
theorem rcut {n a s : Nat} (h : a + s ≤ 64) {A S : Nat} (hA : 2 ^ a = A) (hS : 2 ^ s = S) : Fld.cut n (a : Int) (s : Int) = n / A % S := by rw [Fld.cut_eq h, hA, hS]
theorem rbit {n a : Nat} {A : Nat} (hA : 2 ^ a = A) : Fld.bitZ n ((a + 8 : Nat) : Int) = decide (256 ≤ n / A % 512) := by
  have h := Fld.bit_div n (a + 8)
  rw [Nat.pow_add, hA, ← Nat.div_div_eq_div_mul] at h
  have p : (2 : Nat) ^ 8 = 256 := by decide
  rw [p] at h
  rw [Fld.bitZ_nat]
  generalize n / A = x at *
  cases ht : n.testBit (a + 8)
  · rw [ht] at h
    simp at h
    symm
    exact decide_eq_false (by omega)
  · rw [ht] at h
    simp at h
    symm
    exact decide_eq_true (by omega)

set_option maxHeartbeats 4000000 in
set_option maxRecDepth 100000 in
theorem read_w (n : Int) (hn : U64 n) (w : World) : Calls Try.prog 16 #[.int .u64 n] w fun e w' => e = .returned (.agg #[.int .i64 (readS n.toNat).s0, .bool (readS n.toNat).t0, .int .i64 (readS n.toNat).s1, .bool (readS n.toNat).t1, .int .i64 (readS n.toNat).s2, .bool (readS n.toNat).t2, .int .i64 (readS n.toNat).s3, .bool (readS n.toNat).t3, .int .i64 (readS n.toNat).hd, .int .u64 (readS n.toNat).tu]) ∧ Below w.heap.size w w' := by
  have c0 : n.toNat < 18446744073709551616 := hn.lt
  have cn := hn.cast
  have h36 : ∀ w : World, Calls Try.prog 25 #[.int .u64 n, .int .i64 36, .int .i64 2] w fun e w' => e = .returned (.int .u64 ((n.toNat / 68719476736 % 4 : Nat) : Int)) ∧ w = w' := fun w => by have h := cut_any n 36 2 w hn (by unfold I64; omega) (by unfold I64; omega); rw [show Fld.cut n.toNat 36 2 = n.toNat / 68719476736 % 4 from rcut (a := 36) (s := 2) (by decide) (by decide) (by decide)] at h; exact h
  have h38 : ∀ w : World, Calls Try.prog 25 #[.int .u64 n, .int .i64 38, .int .i64 26] w fun e w' => e = .returned (.int .u64 ((n.toNat / 274877906944 : Nat) : Int)) ∧ w = w' := fun w => by
    have h := cut_any n 38 26 w hn (by unfold I64; omega) (by unfold I64; omega)
    rw [show Fld.cut n.toNat 38 26 = n.toNat / 274877906944 % 67108864 from rcut (a := 38) (s := 26) (by decide) (by decide) (by decide), show n.toNat / 274877906944 % 67108864 = n.toNat / 274877906944 by omega] at h
    exact h
  have hc0 : ∀ w : World, Calls Try.prog 25 #[.int .u64 n, .int .i64 0, .int .i64 8] w fun e w' => e = .returned (.int .u64 (((n.toNat % 256) : Nat) : Int)) ∧ w = w' := fun w => by
    have h := cut_any n 0 8 w hn (by unfold I64; omega) (by unfold I64; omega)
    rw [show Fld.cut n.toNat 0 8 = n.toNat / 1 % 256 from rcut (a := 0) (s := 8) (by decide) (by decide) (by decide), Nat.div_one] at h
    exact h
  have hb0 : ∀ w : World, Calls Try.prog 26 #[.int .u64 n, .int .i64 8] w fun e w' => e = .returned (.bool (decide (256 ≤ n.toNat % 512))) ∧ w = w' := fun w => by
    have h := has_any n 8 w hn (by unfold I64; omega)
    rw [show Fld.bitZ n.toNat 8 = decide (256 ≤ n.toNat / 1 % 512) from rbit (a := 0) (by decide), Nat.div_one] at h
    exact h
  have hc1 : ∀ w : World, Calls Try.prog 25 #[.int .u64 n, .int .i64 9, .int .i64 8] w fun e w' => e = .returned (.int .u64 (((n.toNat / 512 % 256) : Nat) : Int)) ∧ w = w' := fun w => by
    have h := cut_any n 9 8 w hn (by unfold I64; omega) (by unfold I64; omega)
    rw [show Fld.cut n.toNat 9 8 = n.toNat / 512 % 256 from rcut (a := 9) (s := 8) (by decide) (by decide) (by decide)] at h
    exact h
  have hb1 : ∀ w : World, Calls Try.prog 26 #[.int .u64 n, .int .i64 17] w fun e w' => e = .returned (.bool (decide (256 ≤ n.toNat / 512 % 512))) ∧ w = w' := fun w => by
    have h := has_any n 17 w hn (by unfold I64; omega)
    rw [show Fld.bitZ n.toNat 17 = decide (256 ≤ n.toNat / 512 % 512) from rbit (a := 9) (by decide)] at h
    exact h
  have hc2 : ∀ w : World, Calls Try.prog 25 #[.int .u64 n, .int .i64 18, .int .i64 8] w fun e w' => e = .returned (.int .u64 (((n.toNat / 262144 % 256) : Nat) : Int)) ∧ w = w' := fun w => by
    have h := cut_any n 18 8 w hn (by unfold I64; omega) (by unfold I64; omega)
    rw [show Fld.cut n.toNat 18 8 = n.toNat / 262144 % 256 from rcut (a := 18) (s := 8) (by decide) (by decide) (by decide)] at h
    exact h
  have hb2 : ∀ w : World, Calls Try.prog 26 #[.int .u64 n, .int .i64 26] w fun e w' => e = .returned (.bool (decide (256 ≤ n.toNat / 262144 % 512))) ∧ w = w' := fun w => by
    have h := has_any n 26 w hn (by unfold I64; omega)
    rw [show Fld.bitZ n.toNat 26 = decide (256 ≤ n.toNat / 262144 % 512) from rbit (a := 18) (by decide)] at h
    exact h
  have hc3 : ∀ w : World, Calls Try.prog 25 #[.int .u64 n, .int .i64 27, .int .i64 8] w fun e w' => e = .returned (.int .u64 (((n.toNat / 134217728 % 256) : Nat) : Int)) ∧ w = w' := fun w => by
    have h := cut_any n 27 8 w hn (by unfold I64; omega) (by unfold I64; omega)
    rw [show Fld.cut n.toNat 27 8 = n.toNat / 134217728 % 256 from rcut (a := 27) (s := 8) (by decide) (by decide) (by decide)] at h
    exact h
  have hb3 : ∀ w : World, Calls Try.prog 26 #[.int .u64 n, .int .i64 35] w fun e w' => e = .returned (.bool (decide (256 ≤ n.toNat / 134217728 % 512))) ∧ w = w' := fun w => by
    have h := has_any n 35 w hn (by unfold I64; omega)
    rw [show Fld.bitZ n.toNat 35 = decide (256 ≤ n.toNat / 134217728 % 512) from rbit (a := 27) (by decide)] at h
    exact h
  obtain ⟨s0, hs0⟩ : ∃ s : Nat, (n.toNat % 256) = s := ⟨_, rfl⟩
  obtain ⟨t0, ht0⟩ : ∃ t : Bool, decide (256 ≤ n.toNat % 512) = t := ⟨_, rfl⟩
  have bs0 : s0 < 256 := by omega
  obtain ⟨s1, hs1⟩ : ∃ s : Nat, (n.toNat / 512 % 256) = s := ⟨_, rfl⟩
  obtain ⟨t1, ht1⟩ : ∃ t : Bool, decide (256 ≤ n.toNat / 512 % 512) = t := ⟨_, rfl⟩
  have bs1 : s1 < 256 := by omega
  obtain ⟨s2, hs2⟩ : ∃ s : Nat, (n.toNat / 262144 % 256) = s := ⟨_, rfl⟩
  obtain ⟨t2, ht2⟩ : ∃ t : Bool, decide (256 ≤ n.toNat / 262144 % 512) = t := ⟨_, rfl⟩
  have bs2 : s2 < 256 := by omega
  obtain ⟨s3, hs3⟩ : ∃ s : Nat, (n.toNat / 134217728 % 256) = s := ⟨_, rfl⟩
  obtain ⟨t3, ht3⟩ : ∃ t : Bool, decide (256 ≤ n.toNat / 134217728 % 512) = t := ⟨_, rfl⟩
  have bs3 : s3 < 256 := by omega
  obtain ⟨hd, hhd⟩ : ∃ s : Nat, n.toNat / 68719476736 % 4 = s := ⟨_, rfl⟩
  obtain ⟨tu, htu⟩ : ∃ s : Nat, n.toNat / 274877906944 = s := ⟨_, rfl⟩
  have bh : hd < 4 := by omega
  have bt : tu < 67108864 := by omega
  have HR : Hid (readS n.toNat = ⟨(s0 : Int), (s1 : Int), (s2 : Int), (s3 : Int), t0, t1, t2, t3, (hd : Int), (tu : Int)⟩) := by rw [Hid, readS, hs0, hs1, hs2, hs3, ht0, ht1, ht2, ht3, hhd, htu]
  rw [hhd] at h36
  rw [htu] at h38
  rw [hs0] at hc0
  rw [ht0] at hb0
  rw [hs1] at hc1
  rw [ht1] at hb1
  rw [hs2] at hc2
  rw [ht2] at hb2
  rw [hs3] at hc3
  rw [ht3] at hb3
  clear hs0 ht0 hs1 ht1 hs2 ht2 hs3 ht3 hhd htu
  have hw0 : IntKind.i64.wrap ((s0 : Nat) : Int) = ((s0 : Nat) : Int) := IntWalk.i64_in _ (by omega)
  have hw1 : IntKind.i64.wrap ((s1 : Nat) : Int) = ((s1 : Nat) : Int) := IntWalk.i64_in _ (by omega)
  have hw2 : IntKind.i64.wrap ((s2 : Nat) : Int) = ((s2 : Nat) : Int) := IntWalk.i64_in _ (by omega)
  have hw3 : IntKind.i64.wrap ((s3 : Nat) : Int) = ((s3 : Nat) : Int) := IntWalk.i64_in _ (by omega)
  have hwh : IntKind.i64.wrap ((hd : Nat) : Int) = ((hd : Nat) : Int) := IntWalk.i64_in _ (by omega)
  have CN := Lib.hid cn
  have u0 : 0 ≤ n := hn.1
  have u1 : n < 18446744073709551616 := hn.2
  clear cn c0 hn
  go_enter Try.func16, Try.ntmps16
  go_wp2_with fail
  refine (h36 _).mono ?_
  rintro e w1 ⟨rfl, rfl⟩
  go_wp2_with fail
  refine (h38 _).mono ?_
  rintro e w1 ⟨rfl, rfl⟩
  clear h36 h38
  go_upto_region 2 with (fail)
  obtain ⟨W0, hW0, hzb, hxb, hbW⟩ : ∃ W0, (w.alloc (.cells #[.int .i64 0, .bool false, .int .i64 0, .bool false, .int .i64 0, .bool false, .int .i64 0, .bool false, .int .i64 0, .int .u64 0] 27)).alloc (.cells #[.int .i64 0, .bool false, .int .i64 0, .bool false, .int .i64 0, .bool false, .int .i64 0, .bool false, .int .i64 (hd : Int), .int .u64 (tu : Int)] 27) = W0 ∧ Blk W0 w.heap.size 27 #[.int .i64 0, .bool false, .int .i64 0, .bool false, .int .i64 0, .bool false, .int .i64 0, .bool false, .int .i64 0, .int .u64 0] ∧ SB W0 (w.heap.size + 1) 27 ⟨0, 0, 0, 0, false, false, false, false, (hd : Int), (tu : Int)⟩ ∧ Below w.heap.size w W0 :=
    ⟨_, rfl, (Blk.new _ _ _).alloc _, Blk.new_ _ _ _ (by simp), bnew (bnew (brefl w) _) _⟩
  rw [hW0]
  clear hW0
  generalize hBB : w.heap.size = B at *
  have HB := Lib.hid hBB
  clear hBB
  have hQ1 : B < B + 1 := by omega
  generalize hQQ : B + 1 = Q at *
  go_wp2_with fail
  go_loopg [11] 4 (fun gk i wr => ∃ (k : Nat) (X : WS), k + gk = 4 ∧ i = .int .i64 k ∧ Hid (X = ⟨if 0 < k then (s0 : Int) else 0, if 1 < k then (s1 : Int) else 0, if 2 < k then (s2 : Int) else 0, if 3 < k then (s3 : Int) else 0, decide (0 < k) && t0, decide (1 < k) && t1, decide (2 < k) && t2, decide (3 < k) && t3, (hd : Int), (tu : Int)⟩) ∧ Blk wr B 27 #[.int .i64 0, .bool false, .int .i64 0, .bool false, .int .i64 0, .bool false, .int .i64 0, .bool false, .int .i64 0, .int .u64 0] ∧ SB wr Q 27 X ∧ Below B w wr)
  case atStart => exact ⟨0, _, rfl, rfl, rfl, hzb, by simpa using hxb, hbW⟩
  case round =>
    clear hzb hxb hbW
    obtain ⟨k, X, hk, rfl, hX, hzb, hxb, hbW⟩ := hrel
    have hBs : B ≤ wr.heap.size := by have := hzb.lt; omega
    have hq2 := hzb.lt
    have hq3 := hxb.lt
    rcases (by omega : k = 0 ∨ k = 1 ∨ k = 2 ∨ k = 3 ∨ k = 4) with rfl | rfl | rfl | rfl | rfl
    · obtain rfl : X = ⟨0, 0, 0, 0, false, false, false, false, (hd : Int), (tu : Int)⟩ := by simpa [Hid] using hX
      have x0 := hxb.cell 0
      have x1 := hxb.cell 1
      have y0 := hxb.frozen 0
      have y1 := hxb.frozen 1
      simp [wcell] at x0 x1
      have HX : Hid (SB ((wr.setCell ⟨Q, 0, none⟩ (.int .i64 (s0 : Int))).setCell ⟨Q, 1, none⟩ (.bool t0)) Q 27 ⟨(s0 : Int), 0, 0, 0, t0, false, false, false, (hd : Int), (tu : Int)⟩) := by
        have := Blk.set_ (Blk.set_ hxb 0 (.int .i64 (s0 : Int))) 1 (.bool t0)
        simpa [SB, wcell, Hid] using this
      have HZ := Lib.hid ((hzb.far (p := ⟨Q, 0, none⟩) (by simp; omega) (.int .i64 (s0 : Int))).far (p := ⟨Q, 1, none⟩) (by simp; omega) (.bool t0))
      have HBW := Lib.hid ((hbW.setCell (p := ⟨Q, 0, none⟩) (by simp; omega) (.int .i64 (s0 : Int))).setCell (p := ⟨Q, 1, none⟩) (by simp; omega) (.bool t0))
      clear hzb hxb hbW hX
      go_wp2_with fail
      refine (hc0 _).mono ?_
      rintro e w1 ⟨rfl, rfl⟩
      go_wp2_with fail
      refine (hb0 _).mono ?_
      rintro e w1 ⟨rfl, rfl⟩
      go_wp2
      go_roundg (gk - 1)
      case measure => omega
      case rel => exact ⟨0 + 1, _, by omega, by first | rfl | go_num, rfl, HZ.out, HX.out, HBW.out⟩
    · obtain rfl : X = ⟨(s0 : Int), 0, 0, 0, t0, false, false, false, (hd : Int), (tu : Int)⟩ := by simpa [Hid] using hX
      have x0 := hxb.cell 2
      have x1 := hxb.cell 3
      have y0 := hxb.frozen 2
      have y1 := hxb.frozen 3
      simp [wcell] at x0 x1
      have HX : Hid (SB ((wr.setCell ⟨Q, 2, none⟩ (.int .i64 (s1 : Int))).setCell ⟨Q, 3, none⟩ (.bool t1)) Q 27 ⟨(s0 : Int), (s1 : Int), 0, 0, t0, t1, false, false, (hd : Int), (tu : Int)⟩) := by
        have := Blk.set_ (Blk.set_ hxb 2 (.int .i64 (s1 : Int))) 3 (.bool t1)
        simpa [SB, wcell, Hid] using this
      have HZ := Lib.hid ((hzb.far (p := ⟨Q, 2, none⟩) (by simp; omega) (.int .i64 (s1 : Int))).far (p := ⟨Q, 3, none⟩) (by simp; omega) (.bool t1))
      have HBW := Lib.hid ((hbW.setCell (p := ⟨Q, 2, none⟩) (by simp; omega) (.int .i64 (s1 : Int))).setCell (p := ⟨Q, 3, none⟩) (by simp; omega) (.bool t1))
      clear hzb hxb hbW hX
      go_wp2_with fail
      refine (hc1 _).mono ?_
      rintro e w1 ⟨rfl, rfl⟩
      go_wp2_with fail
      refine (hb1 _).mono ?_
      rintro e w1 ⟨rfl, rfl⟩
      go_wp2
      go_roundg (gk - 1)
      case measure => omega
      case rel => exact ⟨1 + 1, _, by omega, by first | rfl | go_num, rfl, HZ.out, HX.out, HBW.out⟩
    · obtain rfl : X = ⟨(s0 : Int), (s1 : Int), 0, 0, t0, t1, false, false, (hd : Int), (tu : Int)⟩ := by simpa [Hid] using hX
      have x0 := hxb.cell 4
      have x1 := hxb.cell 5
      have y0 := hxb.frozen 4
      have y1 := hxb.frozen 5
      simp [wcell] at x0 x1
      have HX : Hid (SB ((wr.setCell ⟨Q, 4, none⟩ (.int .i64 (s2 : Int))).setCell ⟨Q, 5, none⟩ (.bool t2)) Q 27 ⟨(s0 : Int), (s1 : Int), (s2 : Int), 0, t0, t1, t2, false, (hd : Int), (tu : Int)⟩) := by
        have := Blk.set_ (Blk.set_ hxb 4 (.int .i64 (s2 : Int))) 5 (.bool t2)
        simpa [SB, wcell, Hid] using this
      have HZ := Lib.hid ((hzb.far (p := ⟨Q, 4, none⟩) (by simp; omega) (.int .i64 (s2 : Int))).far (p := ⟨Q, 5, none⟩) (by simp; omega) (.bool t2))
      have HBW := Lib.hid ((hbW.setCell (p := ⟨Q, 4, none⟩) (by simp; omega) (.int .i64 (s2 : Int))).setCell (p := ⟨Q, 5, none⟩) (by simp; omega) (.bool t2))
      clear hzb hxb hbW hX
      go_wp2_with fail
      refine (hc2 _).mono ?_
      rintro e w1 ⟨rfl, rfl⟩
      go_wp2_with fail
      refine (hb2 _).mono ?_
      rintro e w1 ⟨rfl, rfl⟩
      go_wp2
      go_roundg (gk - 1)
      case measure => omega
      case rel => exact ⟨2 + 1, _, by omega, by first | rfl | go_num, rfl, HZ.out, HX.out, HBW.out⟩
    · obtain rfl : X = ⟨(s0 : Int), (s1 : Int), (s2 : Int), 0, t0, t1, t2, false, (hd : Int), (tu : Int)⟩ := by simpa [Hid] using hX
      have x0 := hxb.cell 6
      have x1 := hxb.cell 7
      have y0 := hxb.frozen 6
      have y1 := hxb.frozen 7
      simp [wcell] at x0 x1
      have HX : Hid (SB ((wr.setCell ⟨Q, 6, none⟩ (.int .i64 (s3 : Int))).setCell ⟨Q, 7, none⟩ (.bool t3)) Q 27 ⟨(s0 : Int), (s1 : Int), (s2 : Int), (s3 : Int), t0, t1, t2, t3, (hd : Int), (tu : Int)⟩) := by
        have := Blk.set_ (Blk.set_ hxb 6 (.int .i64 (s3 : Int))) 7 (.bool t3)
        simpa [SB, wcell, Hid] using this
      have HZ := Lib.hid ((hzb.far (p := ⟨Q, 6, none⟩) (by simp; omega) (.int .i64 (s3 : Int))).far (p := ⟨Q, 7, none⟩) (by simp; omega) (.bool t3))
      have HBW := Lib.hid ((hbW.setCell (p := ⟨Q, 6, none⟩) (by simp; omega) (.int .i64 (s3 : Int))).setCell (p := ⟨Q, 7, none⟩) (by simp; omega) (.bool t3))
      clear hzb hxb hbW hX
      go_wp2_with fail
      refine (hc3 _).mono ?_
      rintro e w1 ⟨rfl, rfl⟩
      go_wp2_with fail
      refine (hb3 _).mono ?_
      rintro e w1 ⟨rfl, rfl⟩
      go_wp2
      go_roundg (gk - 1)
      case measure => omega
      case rel => exact ⟨3 + 1, _, by omega, by first | rfl | go_num, rfl, HZ.out, HX.out, HBW.out⟩
    · obtain rfl : X = ⟨(s0 : Int), (s1 : Int), (s2 : Int), (s3 : Int), t0, t1, t2, t3, (hd : Int), (tu : Int)⟩ := by simpa [Hid] using hX
      have k0 : wr.cell? ⟨Q, 0, none⟩ = some (.int .i64 (s0 : Int)) := hxb.cell 0
      have k1 : wr.cell? ⟨Q, 1, none⟩ = some (.bool t0) := hxb.cell 1
      have k2 : wr.cell? ⟨Q, 2, none⟩ = some (.int .i64 (s1 : Int)) := hxb.cell 2
      have k3 : wr.cell? ⟨Q, 3, none⟩ = some (.bool t1) := hxb.cell 3
      have k4 : wr.cell? ⟨Q, 4, none⟩ = some (.int .i64 (s2 : Int)) := hxb.cell 4
      have k5 : wr.cell? ⟨Q, 5, none⟩ = some (.bool t2) := hxb.cell 5
      have k6 : wr.cell? ⟨Q, 6, none⟩ = some (.int .i64 (s3 : Int)) := hxb.cell 6
      have k7 : wr.cell? ⟨Q, 7, none⟩ = some (.bool t3) := hxb.cell 7
      have k8 : wr.cell? ⟨Q, 8, none⟩ = some (.int .i64 (hd : Int)) := hxb.cell 8
      have k9 : wr.cell? ⟨Q, 9, none⟩ = some (.int .u64 (tu : Int)) := hxb.cell 9
      have z0 : wr.cell? ⟨B, 0, none⟩ = some (.int .i64 0) := hzb.cell 0
      have z1 : wr.cell? ⟨B, 1, none⟩ = some (.bool false) := hzb.cell 1
      have z2 : wr.cell? ⟨B, 2, none⟩ = some (.int .i64 0) := hzb.cell 2
      have z3 : wr.cell? ⟨B, 3, none⟩ = some (.bool false) := hzb.cell 3
      have z4 : wr.cell? ⟨B, 4, none⟩ = some (.int .i64 0) := hzb.cell 4
      have z5 : wr.cell? ⟨B, 5, none⟩ = some (.bool false) := hzb.cell 5
      have z6 : wr.cell? ⟨B, 6, none⟩ = some (.int .i64 0) := hzb.cell 6
      have z7 : wr.cell? ⟨B, 7, none⟩ = some (.bool false) := hzb.cell 7
      have z8 : wr.cell? ⟨B, 8, none⟩ = some (.int .i64 0) := hzb.cell 8
      have z9 : wr.cell? ⟨B, 9, none⟩ = some (.int .u64 0) := hzb.cell 9
      have f0 := hzb.frozen 0
      have f1 := hzb.frozen 1
      have f2 := hzb.frozen 2
      have f3 := hzb.frozen 3
      have f4 := hzb.frozen 4
      have f5 := hzb.frozen 5
      have f6 := hzb.frozen 6
      have f7 := hzb.frozen 7
      have f8 := hzb.frozen 8
      have f9 := hzb.frozen 9
      clear hzb hxb hX
      go_wp2
      refine bodyPost_ret (v := .agg #[.int .i64 (s0 : Int), .bool t0, .int .i64 (s1 : Int), .bool t1, .int .i64 (s2 : Int), .bool t2, .int .i64 (s3 : Int), .bool t3, .int .i64 (hd : Int), .int .u64 (tu : Int)]) (by simp [results, Try.results16, go_sem, z0, z1, z2, z3, z4, z5, z6, z7, z8, z9, hq2, hq3]) rfl ⟨by rw [HR.out], ?_⟩
      rw [HB.out]
      repeat (first | (with_reducible exact hbW) | (with_reducible refine Below.setCell ?_ (by simp <;> omega) _) | (with_reducible refine Below.drew ?_))
end Go.Proofs.Ytgkogodfegfdfaa
