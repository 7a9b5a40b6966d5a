/- Sets of ways: Touch, Swap, Clear, place, Put; the document's Place and Put. -/
import Derived.Test.YtgkogodfegfdfaaWaysA
namespace Go.Proofs.Ytgkogodfegfdfaa
set_option linter.unusedVariables false
set_option linter.unusedSimpArgs false
open Go.RowKit

theorem tc_lt (S : WS) : ∀ k : Nat, k < 4 → (k = 0 ∧ S.tc k = S.t0) ∨ (k = 1 ∧ S.tc k = S.t1) ∨ (k = 2 ∧ S.tc k = S.t2) ∨ (k = 3 ∧ S.tc k = S.t3) := fun k hk => by
  rcases (by omega : k = 0 ∨ k = 1 ∨ k = 2 ∨ k = 3) with rfl | rfl | rfl | rfl <;> simp [WS.tc]

set_option maxHeartbeats 1000000 in
set_option maxRecDepth 100000 in
theorem swap_any (S : WS) (i : Int) (x : Int) (w : World) : Calls Try.prog 9 #[.agg #[.int .i64 S.s0, .bool S.t0, .int .i64 S.s1, .bool S.t1, .int .i64 S.s2, .bool S.t2, .int .i64 S.s3, .bool S.t3, .int .i64 S.hd, .int .u64 S.tu], .int .i64 i, .int .i64 x] w fun e w' => e = .returned (.agg #[.int .i64 (S.with_ i x true).s0, .bool (S.with_ i x true).t0, .int .i64 (S.with_ i x true).s1, .bool (S.with_ i x true).t1, .int .i64 (S.with_ i x true).s2, .bool (S.with_ i x true).t2, .int .i64 (S.with_ i x true).s3, .bool (S.with_ i x true).t3, .int .i64 (S.with_ i x true).hd, .int .u64 (S.with_ i x true).tu]) ∧ Below w.heap.size w w' := by
  have hwi := with_any S i x true
  generalize S.with_ i x true = T at *
  go_enter Try.func9, Try.ntmps9
  go_wp2_with fail
  obtain ⟨W0, hW0, z0, z1, z2, z3, z4, z5, z6, z7, z8, z9, f0, f1, f2, f3, f4, f5, f6, f7, f8, f9, kb, hz⟩ : ∃ W0, (w.alloc (.cells #[.int .i64 S.s0, .bool S.t0, .int .i64 S.s1, .bool S.t1, .int .i64 S.s2, .bool S.t2, .int .i64 S.s3, .bool S.t3, .int .i64 S.hd, .int .u64 S.tu] 27)).alloc (.cells #[.int .i64 0, .bool false, .int .i64 0, .bool false, .int .i64 0, .bool false, .int .i64 0, .bool false, .int .i64 0, .int .u64 0] 27) = W0 ∧ W0.cell? ⟨w.heap.size + 1, 0, none⟩ = some (.int .i64 0) ∧ W0.cell? ⟨w.heap.size + 1, 1, none⟩ = some (.bool false) ∧ W0.cell? ⟨w.heap.size + 1, 2, none⟩ = some (.int .i64 0) ∧ W0.cell? ⟨w.heap.size + 1, 3, none⟩ = some (.bool false) ∧ W0.cell? ⟨w.heap.size + 1, 4, none⟩ = some (.int .i64 0) ∧ W0.cell? ⟨w.heap.size + 1, 5, none⟩ = some (.bool false) ∧ W0.cell? ⟨w.heap.size + 1, 6, none⟩ = some (.int .i64 0) ∧ W0.cell? ⟨w.heap.size + 1, 7, none⟩ = some (.bool false) ∧ W0.cell? ⟨w.heap.size + 1, 8, none⟩ = some (.int .i64 0) ∧ W0.cell? ⟨w.heap.size + 1, 9, none⟩ = some (.int .u64 0) ∧ W0.frozen? ⟨w.heap.size + 1, 0, none⟩ = false ∧ W0.frozen? ⟨w.heap.size + 1, 1, none⟩ = false ∧ W0.frozen? ⟨w.heap.size + 1, 2, none⟩ = false ∧ W0.frozen? ⟨w.heap.size + 1, 3, none⟩ = false ∧ W0.frozen? ⟨w.heap.size + 1, 4, none⟩ = false ∧ W0.frozen? ⟨w.heap.size + 1, 5, none⟩ = false ∧ W0.frozen? ⟨w.heap.size + 1, 6, none⟩ = false ∧ W0.frozen? ⟨w.heap.size + 1, 7, none⟩ = false ∧ W0.frozen? ⟨w.heap.size + 1, 8, none⟩ = false ∧ W0.frozen? ⟨w.heap.size + 1, 9, none⟩ = false ∧ Below w.heap.size w W0 ∧ w.heap.size + 1 < W0.heap.size :=
    ⟨_, rfl, by go_simp, by go_simp, by go_simp, by go_simp, by go_simp, by go_simp, by go_simp, by go_simp, by go_simp, by go_simp, by go_simp, by go_simp, by go_simp, by go_simp, by go_simp, by go_simp, by go_simp, by go_simp, by go_simp, by go_simp, bnew (bnew (brefl w) _) _, by simp⟩
  rw [hW0]
  clear hW0
  refine (hwi _).mono ?_
  rintro e w1 ⟨rfl, hb1⟩
  have z0 := keep_below z0 hb1
  have z1 := keep_below z1 hb1
  have z2 := keep_below z2 hb1
  have z3 := keep_below z3 hb1
  have z4 := keep_below z4 hb1
  have z5 := keep_below z5 hb1
  have z6 := keep_below z6 hb1
  have z7 := keep_below z7 hb1
  have z8 := keep_below z8 hb1
  have z9 := keep_below z9 hb1
  have f0 := keep_frozen f0 hz hb1
  have f1 := keep_frozen f1 hz hb1
  have f2 := keep_frozen f2 hz hb1
  have f3 := keep_frozen f3 hz hb1
  have f4 := keep_frozen f4 hz hb1
  have f5 := keep_frozen f5 hz hb1
  have f6 := keep_frozen f6 hz hb1
  have f7 := keep_frozen f7 hz hb1
  have f8 := keep_frozen f8 hz hb1
  have f9 := keep_frozen f9 hz hb1
  have kb1 := bnext kb hb1
  have hz1 := block_lt_of_cell z0
  clear kb hb1 hwi hz
  go_wp2
  refine bodyPost_ret (v := .agg #[.int .i64 T.s0, .bool T.t0, .int .i64 T.s1, .bool T.t1, .int .i64 T.s2, .bool T.t2, .int .i64 T.s3, .bool T.t3, .int .i64 T.hd, .int .u64 T.tu]) (by simp [results, Try.results9, go_sem, z0, z1, z2, z3, z4, z5, z6, z7, z8, z9]) rfl ⟨rfl, ?_⟩
  repeat (first | (with_reducible exact kb1) | (with_reducible refine bset ?_ (by simp <;> omega) _) | (with_reducible refine Below.drew ?_))

set_option maxHeartbeats 1000000 in
set_option maxRecDepth 100000 in
theorem clear_any (S : WS) (i : Int) (w : World) : Calls Try.prog 10 #[.agg #[.int .i64 S.s0, .bool S.t0, .int .i64 S.s1, .bool S.t1, .int .i64 S.s2, .bool S.t2, .int .i64 S.s3, .bool S.t3, .int .i64 S.hd, .int .u64 S.tu], .int .i64 i] w fun e w' => e = .returned (.agg #[.int .i64 (S.with_ i 0 false).s0, .bool (S.with_ i 0 false).t0, .int .i64 (S.with_ i 0 false).s1, .bool (S.with_ i 0 false).t1, .int .i64 (S.with_ i 0 false).s2, .bool (S.with_ i 0 false).t2, .int .i64 (S.with_ i 0 false).s3, .bool (S.with_ i 0 false).t3, .int .i64 (S.with_ i 0 false).hd, .int .u64 (S.with_ i 0 false).tu]) ∧ Below w.heap.size w w' := by
  have hwi := with_any S i 0 false
  generalize S.with_ i 0 false = T at *
  go_enter Try.func10, Try.ntmps10
  go_wp2_with fail
  obtain ⟨W0, hW0, z0, z1, z2, z3, z4, z5, z6, z7, z8, z9, f0, f1, f2, f3, f4, f5, f6, f7, f8, f9, kb, hz⟩ : ∃ W0, (w.alloc (.cells #[.int .i64 S.s0, .bool S.t0, .int .i64 S.s1, .bool S.t1, .int .i64 S.s2, .bool S.t2, .int .i64 S.s3, .bool S.t3, .int .i64 S.hd, .int .u64 S.tu] 27)).alloc (.cells #[.int .i64 0, .bool false, .int .i64 0, .bool false, .int .i64 0, .bool false, .int .i64 0, .bool false, .int .i64 0, .int .u64 0] 27) = W0 ∧ W0.cell? ⟨w.heap.size + 1, 0, none⟩ = some (.int .i64 0) ∧ W0.cell? ⟨w.heap.size + 1, 1, none⟩ = some (.bool false) ∧ W0.cell? ⟨w.heap.size + 1, 2, none⟩ = some (.int .i64 0) ∧ W0.cell? ⟨w.heap.size + 1, 3, none⟩ = some (.bool false) ∧ W0.cell? ⟨w.heap.size + 1, 4, none⟩ = some (.int .i64 0) ∧ W0.cell? ⟨w.heap.size + 1, 5, none⟩ = some (.bool false) ∧ W0.cell? ⟨w.heap.size + 1, 6, none⟩ = some (.int .i64 0) ∧ W0.cell? ⟨w.heap.size + 1, 7, none⟩ = some (.bool false) ∧ W0.cell? ⟨w.heap.size + 1, 8, none⟩ = some (.int .i64 0) ∧ W0.cell? ⟨w.heap.size + 1, 9, none⟩ = some (.int .u64 0) ∧ W0.frozen? ⟨w.heap.size + 1, 0, none⟩ = false ∧ W0.frozen? ⟨w.heap.size + 1, 1, none⟩ = false ∧ W0.frozen? ⟨w.heap.size + 1, 2, none⟩ = false ∧ W0.frozen? ⟨w.heap.size + 1, 3, none⟩ = false ∧ W0.frozen? ⟨w.heap.size + 1, 4, none⟩ = false ∧ W0.frozen? ⟨w.heap.size + 1, 5, none⟩ = false ∧ W0.frozen? ⟨w.heap.size + 1, 6, none⟩ = false ∧ W0.frozen? ⟨w.heap.size + 1, 7, none⟩ = false ∧ W0.frozen? ⟨w.heap.size + 1, 8, none⟩ = false ∧ W0.frozen? ⟨w.heap.size + 1, 9, none⟩ = false ∧ Below w.heap.size w W0 ∧ w.heap.size + 1 < W0.heap.size :=
    ⟨_, rfl, by go_simp, by go_simp, by go_simp, by go_simp, by go_simp, by go_simp, by go_simp, by go_simp, by go_simp, by go_simp, by go_simp, by go_simp, by go_simp, by go_simp, by go_simp, by go_simp, by go_simp, by go_simp, by go_simp, by go_simp, bnew (bnew (brefl w) _) _, by simp⟩
  rw [hW0]
  clear hW0
  refine (hwi _).mono ?_
  rintro e w1 ⟨rfl, hb1⟩
  have z0 := keep_below z0 hb1
  have z1 := keep_below z1 hb1
  have z2 := keep_below z2 hb1
  have z3 := keep_below z3 hb1
  have z4 := keep_below z4 hb1
  have z5 := keep_below z5 hb1
  have z6 := keep_below z6 hb1
  have z7 := keep_below z7 hb1
  have z8 := keep_below z8 hb1
  have z9 := keep_below z9 hb1
  have f0 := keep_frozen f0 hz hb1
  have f1 := keep_frozen f1 hz hb1
  have f2 := keep_frozen f2 hz hb1
  have f3 := keep_frozen f3 hz hb1
  have f4 := keep_frozen f4 hz hb1
  have f5 := keep_frozen f5 hz hb1
  have f6 := keep_frozen f6 hz hb1
  have f7 := keep_frozen f7 hz hb1
  have f8 := keep_frozen f8 hz hb1
  have f9 := keep_frozen f9 hz hb1
  have kb1 := bnext kb hb1
  have hz1 := block_lt_of_cell z0
  clear kb hb1 hwi hz
  go_wp2
  refine bodyPost_ret (v := .agg #[.int .i64 T.s0, .bool T.t0, .int .i64 T.s1, .bool T.t1, .int .i64 T.s2, .bool T.t2, .int .i64 T.s3, .bool T.t3, .int .i64 T.hd, .int .u64 T.tu]) (by simp [results, Try.results10, go_sem, z0, z1, z2, z3, z4, z5, z6, z7, z8, z9]) rfl ⟨rfl, ?_⟩
  repeat (first | (with_reducible exact kb1) | (with_reducible refine bset ?_ (by simp <;> omega) _) | (with_reducible refine Below.drew ?_))

def WS.touch (S : WS) (i : Int) : WS := if 0 ≤ i ∧ i < 4 then S.with_ i (S.sl i.toNat) true else S
set_option maxHeartbeats 1000000 in
set_option maxRecDepth 100000 in
theorem touch_no (S : WS) {i : Int} (h : i < 0 ∨ 4 ≤ i) (w : World) : Calls Try.prog 8 #[.agg #[.int .i64 S.s0, .bool S.t0, .int .i64 S.s1, .bool S.t1, .int .i64 S.s2, .bool S.t2, .int .i64 S.s3, .bool S.t3, .int .i64 S.hd, .int .u64 S.tu], .int .i64 i] w fun e w' => e = .returned (.agg #[.int .i64 S.s0, .bool S.t0, .int .i64 S.s1, .bool S.t1, .int .i64 S.s2, .bool S.t2, .int .i64 S.s3, .bool S.t3, .int .i64 S.hd, .int .u64 S.tu]) ∧ Below w.heap.size w w' := by
  have hth := there_no h
  go_enter Try.func8, Try.ntmps8
  go_upto_region 1 with (fail)
  obtain ⟨W0, hW0, k0, k1, k2, k3, k4, k5, k6, k7, k8, k9, z0, z1, z2, z3, z4, z5, z6, z7, z8, z9, g0, g1, g2, g3, g4, g5, g6, g7, g8, g9, f0, f1, f2, f3, f4, f5, f6, f7, f8, f9, kb, hz⟩ : ∃ W0, (w.alloc (.cells #[.int .i64 S.s0, .bool S.t0, .int .i64 S.s1, .bool S.t1, .int .i64 S.s2, .bool S.t2, .int .i64 S.s3, .bool S.t3, .int .i64 S.hd, .int .u64 S.tu] 27)).alloc (.cells #[.int .i64 0, .bool false, .int .i64 0, .bool false, .int .i64 0, .bool false, .int .i64 0, .bool false, .int .i64 0, .int .u64 0] 27) = W0 ∧ W0.cell? ⟨w.heap.size, 0, none⟩ = some (.int .i64 S.s0) ∧ W0.cell? ⟨w.heap.size, 1, none⟩ = some (.bool S.t0) ∧ W0.cell? ⟨w.heap.size, 2, none⟩ = some (.int .i64 S.s1) ∧ W0.cell? ⟨w.heap.size, 3, none⟩ = some (.bool S.t1) ∧ W0.cell? ⟨w.heap.size, 4, none⟩ = some (.int .i64 S.s2) ∧ W0.cell? ⟨w.heap.size, 5, none⟩ = some (.bool S.t2) ∧ W0.cell? ⟨w.heap.size, 6, none⟩ = some (.int .i64 S.s3) ∧ W0.cell? ⟨w.heap.size, 7, none⟩ = some (.bool S.t3) ∧ W0.cell? ⟨w.heap.size, 8, none⟩ = some (.int .i64 S.hd) ∧ W0.cell? ⟨w.heap.size, 9, none⟩ = some (.int .u64 S.tu) ∧ W0.cell? ⟨w.heap.size + 1, 0, none⟩ = some (.int .i64 0) ∧ W0.cell? ⟨w.heap.size + 1, 1, none⟩ = some (.bool false) ∧ W0.cell? ⟨w.heap.size + 1, 2, none⟩ = some (.int .i64 0) ∧ W0.cell? ⟨w.heap.size + 1, 3, none⟩ = some (.bool false) ∧ W0.cell? ⟨w.heap.size + 1, 4, none⟩ = some (.int .i64 0) ∧ W0.cell? ⟨w.heap.size + 1, 5, none⟩ = some (.bool false) ∧ W0.cell? ⟨w.heap.size + 1, 6, none⟩ = some (.int .i64 0) ∧ W0.cell? ⟨w.heap.size + 1, 7, none⟩ = some (.bool false) ∧ W0.cell? ⟨w.heap.size + 1, 8, none⟩ = some (.int .i64 0) ∧ W0.cell? ⟨w.heap.size + 1, 9, none⟩ = some (.int .u64 0) ∧ W0.frozen? ⟨w.heap.size, 0, none⟩ = false ∧ W0.frozen? ⟨w.heap.size, 1, none⟩ = false ∧ W0.frozen? ⟨w.heap.size, 2, none⟩ = false ∧ W0.frozen? ⟨w.heap.size, 3, none⟩ = false ∧ W0.frozen? ⟨w.heap.size, 4, none⟩ = false ∧ W0.frozen? ⟨w.heap.size, 5, none⟩ = false ∧ W0.frozen? ⟨w.heap.size, 6, none⟩ = false ∧ W0.frozen? ⟨w.heap.size, 7, none⟩ = false ∧ W0.frozen? ⟨w.heap.size, 8, none⟩ = false ∧ W0.frozen? ⟨w.heap.size, 9, none⟩ = false ∧ W0.frozen? ⟨w.heap.size + 1, 0, none⟩ = false ∧ W0.frozen? ⟨w.heap.size + 1, 1, none⟩ = false ∧ W0.frozen? ⟨w.heap.size + 1, 2, none⟩ = false ∧ W0.frozen? ⟨w.heap.size + 1, 3, none⟩ = false ∧ W0.frozen? ⟨w.heap.size + 1, 4, none⟩ = false ∧ W0.frozen? ⟨w.heap.size + 1, 5, none⟩ = false ∧ W0.frozen? ⟨w.heap.size + 1, 6, none⟩ = false ∧ W0.frozen? ⟨w.heap.size + 1, 7, none⟩ = false ∧ W0.frozen? ⟨w.heap.size + 1, 8, none⟩ = false ∧ W0.frozen? ⟨w.heap.size + 1, 9, none⟩ = false ∧ Below w.heap.size w W0 ∧ w.heap.size + 1 < W0.heap.size :=
    ⟨_, rfl, by go_simp, by go_simp, by go_simp, by go_simp, by go_simp, by go_simp, by go_simp, by go_simp, by go_simp, by go_simp, by go_simp, by go_simp, by go_simp, by go_simp, by go_simp, by go_simp, by go_simp, by go_simp, by go_simp, by go_simp, by go_simp, by go_simp, by go_simp, by go_simp, by go_simp, by go_simp, by go_simp, by go_simp, by go_simp, by go_simp, by go_simp, by go_simp, by go_simp, by go_simp, by go_simp, by go_simp, by go_simp, by go_simp, by go_simp, by go_simp, bnew (bnew (brefl w) _) _, by simp⟩
  rw [hW0]
  clear hW0
  have hz0 := block_lt_of_cell k0
  go_wp2_with (go_at_call 18; refine (hth _).mono ?_; rintro e w1 ⟨rfl, rfl⟩)
  refine bodyPost_ret (v := .agg #[.int .i64 S.s0, .bool S.t0, .int .i64 S.s1, .bool S.t1, .int .i64 S.s2, .bool S.t2, .int .i64 S.s3, .bool S.t3, .int .i64 S.hd, .int .u64 S.tu]) (by simp [results, Try.results8, go_sem, z0, z1, z2, z3, z4, z5, z6, z7, z8, z9]) rfl ⟨rfl, ?_⟩
  repeat (first | (with_reducible exact kb) | (with_reducible refine bset ?_ (by simp <;> omega) _) | (with_reducible refine Below.drew ?_))

set_option maxHeartbeats 1000000 in
set_option maxRecDepth 100000 in
theorem touch_0 (S T : WS) (hwi : ∀ w : World, Calls Try.prog 19 #[.agg #[.int .i64 S.s0, .bool S.t0, .int .i64 S.s1, .bool S.t1, .int .i64 S.s2, .bool S.t2, .int .i64 S.s3, .bool S.t3, .int .i64 S.hd, .int .u64 S.tu], .int .i64 0, .agg #[.int .i64 S.s0, .bool true]] w fun e w' => e = .returned (.agg #[.int .i64 T.s0, .bool T.t0, .int .i64 T.s1, .bool T.t1, .int .i64 T.s2, .bool T.t2, .int .i64 T.s3, .bool T.t3, .int .i64 T.hd, .int .u64 T.tu]) ∧ Below w.heap.size w w') (w : World) : Calls Try.prog 8 #[.agg #[.int .i64 S.s0, .bool S.t0, .int .i64 S.s1, .bool S.t1, .int .i64 S.s2, .bool S.t2, .int .i64 S.s3, .bool S.t3, .int .i64 S.hd, .int .u64 S.tu], .int .i64 0] w fun e w' => e = .returned (.agg #[.int .i64 T.s0, .bool T.t0, .int .i64 T.s1, .bool T.t1, .int .i64 T.s2, .bool T.t2, .int .i64 T.s3, .bool T.t3, .int .i64 T.hd, .int .u64 T.tu]) ∧ Below w.heap.size w w' := by
  have hth := there_yes (i := 0) (by decide) (by decide)
  go_enter Try.func8, Try.ntmps8
  go_upto_region 1 with (fail)
  obtain ⟨W0, hW0, k0, k1, k2, k3, k4, k5, k6, k7, k8, k9, z0, z1, z2, z3, z4, z5, z6, z7, z8, z9, g0, g1, g2, g3, g4, g5, g6, g7, g8, g9, f0, f1, f2, f3, f4, f5, f6, f7, f8, f9, kb, hz⟩ : ∃ W0, (w.alloc (.cells #[.int .i64 S.s0, .bool S.t0, .int .i64 S.s1, .bool S.t1, .int .i64 S.s2, .bool S.t2, .int .i64 S.s3, .bool S.t3, .int .i64 S.hd, .int .u64 S.tu] 27)).alloc (.cells #[.int .i64 0, .bool false, .int .i64 0, .bool false, .int .i64 0, .bool false, .int .i64 0, .bool false, .int .i64 0, .int .u64 0] 27) = W0 ∧ W0.cell? ⟨w.heap.size, 0, none⟩ = some (.int .i64 S.s0) ∧ W0.cell? ⟨w.heap.size, 1, none⟩ = some (.bool S.t0) ∧ W0.cell? ⟨w.heap.size, 2, none⟩ = some (.int .i64 S.s1) ∧ W0.cell? ⟨w.heap.size, 3, none⟩ = some (.bool S.t1) ∧ W0.cell? ⟨w.heap.size, 4, none⟩ = some (.int .i64 S.s2) ∧ W0.cell? ⟨w.heap.size, 5, none⟩ = some (.bool S.t2) ∧ W0.cell? ⟨w.heap.size, 6, none⟩ = some (.int .i64 S.s3) ∧ W0.cell? ⟨w.heap.size, 7, none⟩ = some (.bool S.t3) ∧ W0.cell? ⟨w.heap.size, 8, none⟩ = some (.int .i64 S.hd) ∧ W0.cell? ⟨w.heap.size, 9, none⟩ = some (.int .u64 S.tu) ∧ W0.cell? ⟨w.heap.size + 1, 0, none⟩ = some (.int .i64 0) ∧ W0.cell? ⟨w.heap.size + 1, 1, none⟩ = some (.bool false) ∧ W0.cell? ⟨w.heap.size + 1, 2, none⟩ = some (.int .i64 0) ∧ W0.cell? ⟨w.heap.size + 1, 3, none⟩ = some (.bool false) ∧ W0.cell? ⟨w.heap.size + 1, 4, none⟩ = some (.int .i64 0) ∧ W0.cell? ⟨w.heap.size + 1, 5, none⟩ = some (.bool false) ∧ W0.cell? ⟨w.heap.size + 1, 6, none⟩ = some (.int .i64 0) ∧ W0.cell? ⟨w.heap.size + 1, 7, none⟩ = some (.bool false) ∧ W0.cell? ⟨w.heap.size + 1, 8, none⟩ = some (.int .i64 0) ∧ W0.cell? ⟨w.heap.size + 1, 9, none⟩ = some (.int .u64 0) ∧ W0.frozen? ⟨w.heap.size, 0, none⟩ = false ∧ W0.frozen? ⟨w.heap.size, 1, none⟩ = false ∧ W0.frozen? ⟨w.heap.size, 2, none⟩ = false ∧ W0.frozen? ⟨w.heap.size, 3, none⟩ = false ∧ W0.frozen? ⟨w.heap.size, 4, none⟩ = false ∧ W0.frozen? ⟨w.heap.size, 5, none⟩ = false ∧ W0.frozen? ⟨w.heap.size, 6, none⟩ = false ∧ W0.frozen? ⟨w.heap.size, 7, none⟩ = false ∧ W0.frozen? ⟨w.heap.size, 8, none⟩ = false ∧ W0.frozen? ⟨w.heap.size, 9, none⟩ = false ∧ W0.frozen? ⟨w.heap.size + 1, 0, none⟩ = false ∧ W0.frozen? ⟨w.heap.size + 1, 1, none⟩ = false ∧ W0.frozen? ⟨w.heap.size + 1, 2, none⟩ = false ∧ W0.frozen? ⟨w.heap.size + 1, 3, none⟩ = false ∧ W0.frozen? ⟨w.heap.size + 1, 4, none⟩ = false ∧ W0.frozen? ⟨w.heap.size + 1, 5, none⟩ = false ∧ W0.frozen? ⟨w.heap.size + 1, 6, none⟩ = false ∧ W0.frozen? ⟨w.heap.size + 1, 7, none⟩ = false ∧ W0.frozen? ⟨w.heap.size + 1, 8, none⟩ = false ∧ W0.frozen? ⟨w.heap.size + 1, 9, none⟩ = false ∧ Below w.heap.size w W0 ∧ w.heap.size + 1 < W0.heap.size :=
    ⟨_, rfl, by go_simp, by go_simp, by go_simp, by go_simp, by go_simp, by go_simp, by go_simp, by go_simp, by go_simp, by go_simp, by go_simp, by go_simp, by go_simp, by go_simp, by go_simp, by go_simp, by go_simp, by go_simp, by go_simp, by go_simp, by go_simp, by go_simp, by go_simp, by go_simp, by go_simp, by go_simp, by go_simp, by go_simp, by go_simp, by go_simp, by go_simp, by go_simp, by go_simp, by go_simp, by go_simp, by go_simp, by go_simp, by go_simp, by go_simp, by go_simp, bnew (bnew (brefl w) _) _, by simp⟩
  rw [hW0]
  clear hW0
  have hz0 := block_lt_of_cell k0
  generalize hB : w.heap.size = B at *
  have HB := Lib.hid hB
  clear hB
  go_upto_region 3 with (go_at_call 18; refine (hth _).mono ?_; rintro e w1 ⟨rfl, rfl⟩)
  have hq1 : B ≠ B + 1 := by omega
  have hX := @ExtK.cell (B + 1) W0
  have hzz0 := block_lt_of_cell k0
  refine wp_region_noPanic ?_
  refine wp_region_tree (fun w' => ∃ x : ExtK (B + 1) W0, w' = x.w) (PT.one [0, 1, 2, 3, 4, 5, 6, 7] 8 (PT.one [] 9 (PT.fin []))) (by kernel_rfl) (by kernel_rfl) (by kernel_rfl) (fun _ _ _ _ _ h => h) ⟨⟨_, (Keeps.refl _ W0).drew⟩, rfl⟩ ?_
  refine wpTree_one ?_
  simp only [pickOps, List.getElem?_cons_succ, List.getElem?_cons_zero, Option.elim_some]
  repeat (go_big_quiet_step (fail))
  refine wpQuiet_nil ?_
  refine planAct_some (fun K hK => ?_)
  go_simp
  refine (hwi _).mono ?_
  rintro e wa ⟨rfl, hba0⟩
  have hba := of_drew hba0
  have z0 : wa.cell? ⟨B + 1, 0, none⟩ = some (.int .i64 0) := keep_below z0 hba
  have z1 : wa.cell? ⟨B + 1, 1, none⟩ = some (.bool false) := keep_below z1 hba
  have z2 : wa.cell? ⟨B + 1, 2, none⟩ = some (.int .i64 0) := keep_below z2 hba
  have z3 : wa.cell? ⟨B + 1, 3, none⟩ = some (.bool false) := keep_below z3 hba
  have z4 : wa.cell? ⟨B + 1, 4, none⟩ = some (.int .i64 0) := keep_below z4 hba
  have z5 : wa.cell? ⟨B + 1, 5, none⟩ = some (.bool false) := keep_below z5 hba
  have z6 : wa.cell? ⟨B + 1, 6, none⟩ = some (.int .i64 0) := keep_below z6 hba
  have z7 : wa.cell? ⟨B + 1, 7, none⟩ = some (.bool false) := keep_below z7 hba
  have z8 : wa.cell? ⟨B + 1, 8, none⟩ = some (.int .i64 0) := keep_below z8 hba
  have z9 : wa.cell? ⟨B + 1, 9, none⟩ = some (.int .u64 0) := keep_below z9 hba
  have f0 : wa.frozen? ⟨B + 1, 0, none⟩ = false := keep_frozen f0 hz hba
  have f1 : wa.frozen? ⟨B + 1, 1, none⟩ = false := keep_frozen f1 hz hba
  have f2 : wa.frozen? ⟨B + 1, 2, none⟩ = false := keep_frozen f2 hz hba
  have f3 : wa.frozen? ⟨B + 1, 3, none⟩ = false := keep_frozen f3 hz hba
  have f4 : wa.frozen? ⟨B + 1, 4, none⟩ = false := keep_frozen f4 hz hba
  have f5 : wa.frozen? ⟨B + 1, 5, none⟩ = false := keep_frozen f5 hz hba
  have f6 : wa.frozen? ⟨B + 1, 6, none⟩ = false := keep_frozen f6 hz hba
  have f7 : wa.frozen? ⟨B + 1, 7, none⟩ = false := keep_frozen f7 hz hba
  have f8 : wa.frozen? ⟨B + 1, 8, none⟩ = false := keep_frozen f8 hz hba
  have f9 : wa.frozen? ⟨B + 1, 9, none⟩ = false := keep_frozen f9 hz hba
  have hza : B + 1 < wa.heap.size := block_lt_of_cell z0
  go_wp2_with fail
  refine hK.out _ _ ⟨⟨_, ((Keeps.refl _ W0).drew.trans_ (Keeps.of_below hba0))⟩, rfl⟩ ?_
  clear hK K
  refine wpTree_one ?_
  simp only [pickOps, List.getElem?_cons_succ, List.getElem?_cons_zero, Option.elim_some]
  repeat (go_big_quiet_step (fail))
  refine wpQuiet_nil ?_
  refine planAct_some (fun K hK => ?_)
  go_simp
  refine hK.out _ _ (extk_mem (by repeat (first | (with_reducible exact ((Keeps.refl _ W0).drew.trans_ (Keeps.of_below hba0))) | (with_reducible exact Keeps.refl _ _) | (with_reducible refine keepq_set ?_) | (with_reducible refine keepq_drew ?_)))) ?_
  clear hK K
  refine wpTree_fin ?_
  simp only [pickOps, List.getElem?_cons_succ, List.getElem?_cons_zero, Option.elim_some]
  repeat (go_big_quiet_step (fail))
  refine wpQuiet_nil ?_
  refine NoPanic.normal ?_
  clear hX hzz0
  go_wp2
  refine bodyPost_ret (v := .agg #[.int .i64 T.s0, .bool T.t0, .int .i64 T.s1, .bool T.t1, .int .i64 T.s2, .bool T.t2, .int .i64 T.s3, .bool T.t3, .int .i64 T.hd, .int .u64 T.tu]) (by simp [results, Try.results8, go_sem, z0, z1, z2, z3, z4, z5, z6, z7, z8, z9]) rfl ⟨rfl, ?_⟩
  have kba : Below B w wa := kb.trans (hba.mono (by omega))
  rw [HB.out]
  repeat (first | (with_reducible exact kba) | (with_reducible refine Below.setCell ?_ (by simp <;> omega) _) | (with_reducible refine Below.drew ?_))
set_option maxHeartbeats 1000000 in
set_option maxRecDepth 100000 in
theorem touch_1 (S T : WS) (hwi : ∀ w : World, Calls Try.prog 19 #[.agg #[.int .i64 S.s0, .bool S.t0, .int .i64 S.s1, .bool S.t1, .int .i64 S.s2, .bool S.t2, .int .i64 S.s3, .bool S.t3, .int .i64 S.hd, .int .u64 S.tu], .int .i64 1, .agg #[.int .i64 S.s1, .bool true]] w fun e w' => e = .returned (.agg #[.int .i64 T.s0, .bool T.t0, .int .i64 T.s1, .bool T.t1, .int .i64 T.s2, .bool T.t2, .int .i64 T.s3, .bool T.t3, .int .i64 T.hd, .int .u64 T.tu]) ∧ Below w.heap.size w w') (w : World) : Calls Try.prog 8 #[.agg #[.int .i64 S.s0, .bool S.t0, .int .i64 S.s1, .bool S.t1, .int .i64 S.s2, .bool S.t2, .int .i64 S.s3, .bool S.t3, .int .i64 S.hd, .int .u64 S.tu], .int .i64 1] w fun e w' => e = .returned (.agg #[.int .i64 T.s0, .bool T.t0, .int .i64 T.s1, .bool T.t1, .int .i64 T.s2, .bool T.t2, .int .i64 T.s3, .bool T.t3, .int .i64 T.hd, .int .u64 T.tu]) ∧ Below w.heap.size w w' := by
  have hth := there_yes (i := 1) (by decide) (by decide)
  go_enter Try.func8, Try.ntmps8
  go_upto_region 1 with (fail)
  obtain ⟨W0, hW0, k0, k1, k2, k3, k4, k5, k6, k7, k8, k9, z0, z1, z2, z3, z4, z5, z6, z7, z8, z9, g0, g1, g2, g3, g4, g5, g6, g7, g8, g9, f0, f1, f2, f3, f4, f5, f6, f7, f8, f9, kb, hz⟩ : ∃ W0, (w.alloc (.cells #[.int .i64 S.s0, .bool S.t0, .int .i64 S.s1, .bool S.t1, .int .i64 S.s2, .bool S.t2, .int .i64 S.s3, .bool S.t3, .int .i64 S.hd, .int .u64 S.tu] 27)).alloc (.cells #[.int .i64 0, .bool false, .int .i64 0, .bool false, .int .i64 0, .bool false, .int .i64 0, .bool false, .int .i64 0, .int .u64 0] 27) = W0 ∧ W0.cell? ⟨w.heap.size, 0, none⟩ = some (.int .i64 S.s0) ∧ W0.cell? ⟨w.heap.size, 1, none⟩ = some (.bool S.t0) ∧ W0.cell? ⟨w.heap.size, 2, none⟩ = some (.int .i64 S.s1) ∧ W0.cell? ⟨w.heap.size, 3, none⟩ = some (.bool S.t1) ∧ W0.cell? ⟨w.heap.size, 4, none⟩ = some (.int .i64 S.s2) ∧ W0.cell? ⟨w.heap.size, 5, none⟩ = some (.bool S.t2) ∧ W0.cell? ⟨w.heap.size, 6, none⟩ = some (.int .i64 S.s3) ∧ W0.cell? ⟨w.heap.size, 7, none⟩ = some (.bool S.t3) ∧ W0.cell? ⟨w.heap.size, 8, none⟩ = some (.int .i64 S.hd) ∧ W0.cell? ⟨w.heap.size, 9, none⟩ = some (.int .u64 S.tu) ∧ W0.cell? ⟨w.heap.size + 1, 0, none⟩ = some (.int .i64 0) ∧ W0.cell? ⟨w.heap.size + 1, 1, none⟩ = some (.bool false) ∧ W0.cell? ⟨w.heap.size + 1, 2, none⟩ = some (.int .i64 0) ∧ W0.cell? ⟨w.heap.size + 1, 3, none⟩ = some (.bool false) ∧ W0.cell? ⟨w.heap.size + 1, 4, none⟩ = some (.int .i64 0) ∧ W0.cell? ⟨w.heap.size + 1, 5, none⟩ = some (.bool false) ∧ W0.cell? ⟨w.heap.size + 1, 6, none⟩ = some (.int .i64 0) ∧ W0.cell? ⟨w.heap.size + 1, 7, none⟩ = some (.bool false) ∧ W0.cell? ⟨w.heap.size + 1, 8, none⟩ = some (.int .i64 0) ∧ W0.cell? ⟨w.heap.size + 1, 9, none⟩ = some (.int .u64 0) ∧ W0.frozen? ⟨w.heap.size, 0, none⟩ = false ∧ W0.frozen? ⟨w.heap.size, 1, none⟩ = false ∧ W0.frozen? ⟨w.heap.size, 2, none⟩ = false ∧ W0.frozen? ⟨w.heap.size, 3, none⟩ = false ∧ W0.frozen? ⟨w.heap.size, 4, none⟩ = false ∧ W0.frozen? ⟨w.heap.size, 5, none⟩ = false ∧ W0.frozen? ⟨w.heap.size, 6, none⟩ = false ∧ W0.frozen? ⟨w.heap.size, 7, none⟩ = false ∧ W0.frozen? ⟨w.heap.size, 8, none⟩ = false ∧ W0.frozen? ⟨w.heap.size, 9, none⟩ = false ∧ W0.frozen? ⟨w.heap.size + 1, 0, none⟩ = false ∧ W0.frozen? ⟨w.heap.size + 1, 1, none⟩ = false ∧ W0.frozen? ⟨w.heap.size + 1, 2, none⟩ = false ∧ W0.frozen? ⟨w.heap.size + 1, 3, none⟩ = false ∧ W0.frozen? ⟨w.heap.size + 1, 4, none⟩ = false ∧ W0.frozen? ⟨w.heap.size + 1, 5, none⟩ = false ∧ W0.frozen? ⟨w.heap.size + 1, 6, none⟩ = false ∧ W0.frozen? ⟨w.heap.size + 1, 7, none⟩ = false ∧ W0.frozen? ⟨w.heap.size + 1, 8, none⟩ = false ∧ W0.frozen? ⟨w.heap.size + 1, 9, none⟩ = false ∧ Below w.heap.size w W0 ∧ w.heap.size + 1 < W0.heap.size :=
    ⟨_, rfl, by go_simp, by go_simp, by go_simp, by go_simp, by go_simp, by go_simp, by go_simp, by go_simp, by go_simp, by go_simp, by go_simp, by go_simp, by go_simp, by go_simp, by go_simp, by go_simp, by go_simp, by go_simp, by go_simp, by go_simp, by go_simp, by go_simp, by go_simp, by go_simp, by go_simp, by go_simp, by go_simp, by go_simp, by go_simp, by go_simp, by go_simp, by go_simp, by go_simp, by go_simp, by go_simp, by go_simp, by go_simp, by go_simp, by go_simp, by go_simp, bnew (bnew (brefl w) _) _, by simp⟩
  rw [hW0]
  clear hW0
  have hz0 := block_lt_of_cell k0
  generalize hB : w.heap.size = B at *
  have HB := Lib.hid hB
  clear hB
  go_upto_region 3 with (go_at_call 18; refine (hth _).mono ?_; rintro e w1 ⟨rfl, rfl⟩)
  have hq1 : B ≠ B + 1 := by omega
  have hX := @ExtK.cell (B + 1) W0
  have hzz0 := block_lt_of_cell k0
  refine wp_region_noPanic ?_
  refine wp_region_tree (fun w' => ∃ x : ExtK (B + 1) W0, w' = x.w) (PT.one [0, 1, 2, 3, 4, 5, 6, 7] 8 (PT.one [] 9 (PT.fin []))) (by kernel_rfl) (by kernel_rfl) (by kernel_rfl) (fun _ _ _ _ _ h => h) ⟨⟨_, (Keeps.refl _ W0).drew⟩, rfl⟩ ?_
  refine wpTree_one ?_
  simp only [pickOps, List.getElem?_cons_succ, List.getElem?_cons_zero, Option.elim_some]
  repeat (go_big_quiet_step (fail))
  refine wpQuiet_nil ?_
  refine planAct_some (fun K hK => ?_)
  go_simp
  refine (hwi _).mono ?_
  rintro e wa ⟨rfl, hba0⟩
  have hba := of_drew hba0
  have z0 : wa.cell? ⟨B + 1, 0, none⟩ = some (.int .i64 0) := keep_below z0 hba
  have z1 : wa.cell? ⟨B + 1, 1, none⟩ = some (.bool false) := keep_below z1 hba
  have z2 : wa.cell? ⟨B + 1, 2, none⟩ = some (.int .i64 0) := keep_below z2 hba
  have z3 : wa.cell? ⟨B + 1, 3, none⟩ = some (.bool false) := keep_below z3 hba
  have z4 : wa.cell? ⟨B + 1, 4, none⟩ = some (.int .i64 0) := keep_below z4 hba
  have z5 : wa.cell? ⟨B + 1, 5, none⟩ = some (.bool false) := keep_below z5 hba
  have z6 : wa.cell? ⟨B + 1, 6, none⟩ = some (.int .i64 0) := keep_below z6 hba
  have z7 : wa.cell? ⟨B + 1, 7, none⟩ = some (.bool false) := keep_below z7 hba
  have z8 : wa.cell? ⟨B + 1, 8, none⟩ = some (.int .i64 0) := keep_below z8 hba
  have z9 : wa.cell? ⟨B + 1, 9, none⟩ = some (.int .u64 0) := keep_below z9 hba
  have f0 : wa.frozen? ⟨B + 1, 0, none⟩ = false := keep_frozen f0 hz hba
  have f1 : wa.frozen? ⟨B + 1, 1, none⟩ = false := keep_frozen f1 hz hba
  have f2 : wa.frozen? ⟨B + 1, 2, none⟩ = false := keep_frozen f2 hz hba
  have f3 : wa.frozen? ⟨B + 1, 3, none⟩ = false := keep_frozen f3 hz hba
  have f4 : wa.frozen? ⟨B + 1, 4, none⟩ = false := keep_frozen f4 hz hba
  have f5 : wa.frozen? ⟨B + 1, 5, none⟩ = false := keep_frozen f5 hz hba
  have f6 : wa.frozen? ⟨B + 1, 6, none⟩ = false := keep_frozen f6 hz hba
  have f7 : wa.frozen? ⟨B + 1, 7, none⟩ = false := keep_frozen f7 hz hba
  have f8 : wa.frozen? ⟨B + 1, 8, none⟩ = false := keep_frozen f8 hz hba
  have f9 : wa.frozen? ⟨B + 1, 9, none⟩ = false := keep_frozen f9 hz hba
  have hza : B + 1 < wa.heap.size := block_lt_of_cell z0
  go_wp2_with fail
  refine hK.out _ _ ⟨⟨_, ((Keeps.refl _ W0).drew.trans_ (Keeps.of_below hba0))⟩, rfl⟩ ?_
  clear hK K
  refine wpTree_one ?_
  simp only [pickOps, List.getElem?_cons_succ, List.getElem?_cons_zero, Option.elim_some]
  repeat (go_big_quiet_step (fail))
  refine wpQuiet_nil ?_
  refine planAct_some (fun K hK => ?_)
  go_simp
  refine hK.out _ _ (extk_mem (by repeat (first | (with_reducible exact ((Keeps.refl _ W0).drew.trans_ (Keeps.of_below hba0))) | (with_reducible exact Keeps.refl _ _) | (with_reducible refine keepq_set ?_) | (with_reducible refine keepq_drew ?_)))) ?_
  clear hK K
  refine wpTree_fin ?_
  simp only [pickOps, List.getElem?_cons_succ, List.getElem?_cons_zero, Option.elim_some]
  repeat (go_big_quiet_step (fail))
  refine wpQuiet_nil ?_
  refine NoPanic.normal ?_
  clear hX hzz0
  go_wp2
  refine bodyPost_ret (v := .agg #[.int .i64 T.s0, .bool T.t0, .int .i64 T.s1, .bool T.t1, .int .i64 T.s2, .bool T.t2, .int .i64 T.s3, .bool T.t3, .int .i64 T.hd, .int .u64 T.tu]) (by simp [results, Try.results8, go_sem, z0, z1, z2, z3, z4, z5, z6, z7, z8, z9]) rfl ⟨rfl, ?_⟩
  have kba : Below B w wa := kb.trans (hba.mono (by omega))
  rw [HB.out]
  repeat (first | (with_reducible exact kba) | (with_reducible refine Below.setCell ?_ (by simp <;> omega) _) | (with_reducible refine Below.drew ?_))
set_option maxHeartbeats 1000000 in
set_option maxRecDepth 100000 in
theorem touch_2 (S T : WS) (hwi : ∀ w : World, Calls Try.prog 19 #[.agg #[.int .i64 S.s0, .bool S.t0, .int .i64 S.s1, .bool S.t1, .int .i64 S.s2, .bool S.t2, .int .i64 S.s3, .bool S.t3, .int .i64 S.hd, .int .u64 S.tu], .int .i64 2, .agg #[.int .i64 S.s2, .bool true]] w fun e w' => e = .returned (.agg #[.int .i64 T.s0, .bool T.t0, .int .i64 T.s1, .bool T.t1, .int .i64 T.s2, .bool T.t2, .int .i64 T.s3, .bool T.t3, .int .i64 T.hd, .int .u64 T.tu]) ∧ Below w.heap.size w w') (w : World) : Calls Try.prog 8 #[.agg #[.int .i64 S.s0, .bool S.t0, .int .i64 S.s1, .bool S.t1, .int .i64 S.s2, .bool S.t2, .int .i64 S.s3, .bool S.t3, .int .i64 S.hd, .int .u64 S.tu], .int .i64 2] w fun e w' => e = .returned (.agg #[.int .i64 T.s0, .bool T.t0, .int .i64 T.s1, .bool T.t1, .int .i64 T.s2, .bool T.t2, .int .i64 T.s3, .bool T.t3, .int .i64 T.hd, .int .u64 T.tu]) ∧ Below w.heap.size w w' := by
  have hth := there_yes (i := 2) (by decide) (by decide)
  go_enter Try.func8, Try.ntmps8
  go_upto_region 1 with (fail)
  obtain ⟨W0, hW0, k0, k1, k2, k3, k4, k5, k6, k7, k8, k9, z0, z1, z2, z3, z4, z5, z6, z7, z8, z9, g0, g1, g2, g3, g4, g5, g6, g7, g8, g9, f0, f1, f2, f3, f4, f5, f6, f7, f8, f9, kb, hz⟩ : ∃ W0, (w.alloc (.cells #[.int .i64 S.s0, .bool S.t0, .int .i64 S.s1, .bool S.t1, .int .i64 S.s2, .bool S.t2, .int .i64 S.s3, .bool S.t3, .int .i64 S.hd, .int .u64 S.tu] 27)).alloc (.cells #[.int .i64 0, .bool false, .int .i64 0, .bool false, .int .i64 0, .bool false, .int .i64 0, .bool false, .int .i64 0, .int .u64 0] 27) = W0 ∧ W0.cell? ⟨w.heap.size, 0, none⟩ = some (.int .i64 S.s0) ∧ W0.cell? ⟨w.heap.size, 1, none⟩ = some (.bool S.t0) ∧ W0.cell? ⟨w.heap.size, 2, none⟩ = some (.int .i64 S.s1) ∧ W0.cell? ⟨w.heap.size, 3, none⟩ = some (.bool S.t1) ∧ W0.cell? ⟨w.heap.size, 4, none⟩ = some (.int .i64 S.s2) ∧ W0.cell? ⟨w.heap.size, 5, none⟩ = some (.bool S.t2) ∧ W0.cell? ⟨w.heap.size, 6, none⟩ = some (.int .i64 S.s3) ∧ W0.cell? ⟨w.heap.size, 7, none⟩ = some (.bool S.t3) ∧ W0.cell? ⟨w.heap.size, 8, none⟩ = some (.int .i64 S.hd) ∧ W0.cell? ⟨w.heap.size, 9, none⟩ = some (.int .u64 S.tu) ∧ W0.cell? ⟨w.heap.size + 1, 0, none⟩ = some (.int .i64 0) ∧ W0.cell? ⟨w.heap.size + 1, 1, none⟩ = some (.bool false) ∧ W0.cell? ⟨w.heap.size + 1, 2, none⟩ = some (.int .i64 0) ∧ W0.cell? ⟨w.heap.size + 1, 3, none⟩ = some (.bool false) ∧ W0.cell? ⟨w.heap.size + 1, 4, none⟩ = some (.int .i64 0) ∧ W0.cell? ⟨w.heap.size + 1, 5, none⟩ = some (.bool false) ∧ W0.cell? ⟨w.heap.size + 1, 6, none⟩ = some (.int .i64 0) ∧ W0.cell? ⟨w.heap.size + 1, 7, none⟩ = some (.bool false) ∧ W0.cell? ⟨w.heap.size + 1, 8, none⟩ = some (.int .i64 0) ∧ W0.cell? ⟨w.heap.size + 1, 9, none⟩ = some (.int .u64 0) ∧ W0.frozen? ⟨w.heap.size, 0, none⟩ = false ∧ W0.frozen? ⟨w.heap.size, 1, none⟩ = false ∧ W0.frozen? ⟨w.heap.size, 2, none⟩ = false ∧ W0.frozen? ⟨w.heap.size, 3, none⟩ = false ∧ W0.frozen? ⟨w.heap.size, 4, none⟩ = false ∧ W0.frozen? ⟨w.heap.size, 5, none⟩ = false ∧ W0.frozen? ⟨w.heap.size, 6, none⟩ = false ∧ W0.frozen? ⟨w.heap.size, 7, none⟩ = false ∧ W0.frozen? ⟨w.heap.size, 8, none⟩ = false ∧ W0.frozen? ⟨w.heap.size, 9, none⟩ = false ∧ W0.frozen? ⟨w.heap.size + 1, 0, none⟩ = false ∧ W0.frozen? ⟨w.heap.size + 1, 1, none⟩ = false ∧ W0.frozen? ⟨w.heap.size + 1, 2, none⟩ = false ∧ W0.frozen? ⟨w.heap.size + 1, 3, none⟩ = false ∧ W0.frozen? ⟨w.heap.size + 1, 4, none⟩ = false ∧ W0.frozen? ⟨w.heap.size + 1, 5, none⟩ = false ∧ W0.frozen? ⟨w.heap.size + 1, 6, none⟩ = false ∧ W0.frozen? ⟨w.heap.size + 1, 7, none⟩ = false ∧ W0.frozen? ⟨w.heap.size + 1, 8, none⟩ = false ∧ W0.frozen? ⟨w.heap.size + 1, 9, none⟩ = false ∧ Below w.heap.size w W0 ∧ w.heap.size + 1 < W0.heap.size :=
    ⟨_, rfl, by go_simp, by go_simp, by go_simp, by go_simp, by go_simp, by go_simp, by go_simp, by go_simp, by go_simp, by go_simp, by go_simp, by go_simp, by go_simp, by go_simp, by go_simp, by go_simp, by go_simp, by go_simp, by go_simp, by go_simp, by go_simp, by go_simp, by go_simp, by go_simp, by go_simp, by go_simp, by go_simp, by go_simp, by go_simp, by go_simp, by go_simp, by go_simp, by go_simp, by go_simp, by go_simp, by go_simp, by go_simp, by go_simp, by go_simp, by go_simp, bnew (bnew (brefl w) _) _, by simp⟩
  rw [hW0]
  clear hW0
  have hz0 := block_lt_of_cell k0
  generalize hB : w.heap.size = B at *
  have HB := Lib.hid hB
  clear hB
  go_upto_region 3 with (go_at_call 18; refine (hth _).mono ?_; rintro e w1 ⟨rfl, rfl⟩)
  have hq1 : B ≠ B + 1 := by omega
  have hX := @ExtK.cell (B + 1) W0
  have hzz0 := block_lt_of_cell k0
  refine wp_region_noPanic ?_
  refine wp_region_tree (fun w' => ∃ x : ExtK (B + 1) W0, w' = x.w) (PT.one [0, 1, 2, 3, 4, 5, 6, 7] 8 (PT.one [] 9 (PT.fin []))) (by kernel_rfl) (by kernel_rfl) (by kernel_rfl) (fun _ _ _ _ _ h => h) ⟨⟨_, (Keeps.refl _ W0).drew⟩, rfl⟩ ?_
  refine wpTree_one ?_
  simp only [pickOps, List.getElem?_cons_succ, List.getElem?_cons_zero, Option.elim_some]
  repeat (go_big_quiet_step (fail))
  refine wpQuiet_nil ?_
  refine planAct_some (fun K hK => ?_)
  go_simp
  refine (hwi _).mono ?_
  rintro e wa ⟨rfl, hba0⟩
  have hba := of_drew hba0
  have z0 : wa.cell? ⟨B + 1, 0, none⟩ = some (.int .i64 0) := keep_below z0 hba
  have z1 : wa.cell? ⟨B + 1, 1, none⟩ = some (.bool false) := keep_below z1 hba
  have z2 : wa.cell? ⟨B + 1, 2, none⟩ = some (.int .i64 0) := keep_below z2 hba
  have z3 : wa.cell? ⟨B + 1, 3, none⟩ = some (.bool false) := keep_below z3 hba
  have z4 : wa.cell? ⟨B + 1, 4, none⟩ = some (.int .i64 0) := keep_below z4 hba
  have z5 : wa.cell? ⟨B + 1, 5, none⟩ = some (.bool false) := keep_below z5 hba
  have z6 : wa.cell? ⟨B + 1, 6, none⟩ = some (.int .i64 0) := keep_below z6 hba
  have z7 : wa.cell? ⟨B + 1, 7, none⟩ = some (.bool false) := keep_below z7 hba
  have z8 : wa.cell? ⟨B + 1, 8, none⟩ = some (.int .i64 0) := keep_below z8 hba
  have z9 : wa.cell? ⟨B + 1, 9, none⟩ = some (.int .u64 0) := keep_below z9 hba
  have f0 : wa.frozen? ⟨B + 1, 0, none⟩ = false := keep_frozen f0 hz hba
  have f1 : wa.frozen? ⟨B + 1, 1, none⟩ = false := keep_frozen f1 hz hba
  have f2 : wa.frozen? ⟨B + 1, 2, none⟩ = false := keep_frozen f2 hz hba
  have f3 : wa.frozen? ⟨B + 1, 3, none⟩ = false := keep_frozen f3 hz hba
  have f4 : wa.frozen? ⟨B + 1, 4, none⟩ = false := keep_frozen f4 hz hba
  have f5 : wa.frozen? ⟨B + 1, 5, none⟩ = false := keep_frozen f5 hz hba
  have f6 : wa.frozen? ⟨B + 1, 6, none⟩ = false := keep_frozen f6 hz hba
  have f7 : wa.frozen? ⟨B + 1, 7, none⟩ = false := keep_frozen f7 hz hba
  have f8 : wa.frozen? ⟨B + 1, 8, none⟩ = false := keep_frozen f8 hz hba
  have f9 : wa.frozen? ⟨B + 1, 9, none⟩ = false := keep_frozen f9 hz hba
  have hza : B + 1 < wa.heap.size := block_lt_of_cell z0
  go_wp2_with fail
  refine hK.out _ _ ⟨⟨_, ((Keeps.refl _ W0).drew.trans_ (Keeps.of_below hba0))⟩, rfl⟩ ?_
  clear hK K
  refine wpTree_one ?_
  simp only [pickOps, List.getElem?_cons_succ, List.getElem?_cons_zero, Option.elim_some]
  repeat (go_big_quiet_step (fail))
  refine wpQuiet_nil ?_
  refine planAct_some (fun K hK => ?_)
  go_simp
  refine hK.out _ _ (extk_mem (by repeat (first | (with_reducible exact ((Keeps.refl _ W0).drew.trans_ (Keeps.of_below hba0))) | (with_reducible exact Keeps.refl _ _) | (with_reducible refine keepq_set ?_) | (with_reducible refine keepq_drew ?_)))) ?_
  clear hK K
  refine wpTree_fin ?_
  simp only [pickOps, List.getElem?_cons_succ, List.getElem?_cons_zero, Option.elim_some]
  repeat (go_big_quiet_step (fail))
  refine wpQuiet_nil ?_
  refine NoPanic.normal ?_
  clear hX hzz0
  go_wp2
  refine bodyPost_ret (v := .agg #[.int .i64 T.s0, .bool T.t0, .int .i64 T.s1, .bool T.t1, .int .i64 T.s2, .bool T.t2, .int .i64 T.s3, .bool T.t3, .int .i64 T.hd, .int .u64 T.tu]) (by simp [results, Try.results8, go_sem, z0, z1, z2, z3, z4, z5, z6, z7, z8, z9]) rfl ⟨rfl, ?_⟩
  have kba : Below B w wa := kb.trans (hba.mono (by omega))
  rw [HB.out]
  repeat (first | (with_reducible exact kba) | (with_reducible refine Below.setCell ?_ (by simp <;> omega) _) | (with_reducible refine Below.drew ?_))
set_option maxHeartbeats 1000000 in
set_option maxRecDepth 100000 in
theorem touch_3 (S T : WS) (hwi : ∀ w : World, Calls Try.prog 19 #[.agg #[.int .i64 S.s0, .bool S.t0, .int .i64 S.s1, .bool S.t1, .int .i64 S.s2, .bool S.t2, .int .i64 S.s3, .bool S.t3, .int .i64 S.hd, .int .u64 S.tu], .int .i64 3, .agg #[.int .i64 S.s3, .bool true]] w fun e w' => e = .returned (.agg #[.int .i64 T.s0, .bool T.t0, .int .i64 T.s1, .bool T.t1, .int .i64 T.s2, .bool T.t2, .int .i64 T.s3, .bool T.t3, .int .i64 T.hd, .int .u64 T.tu]) ∧ Below w.heap.size w w') (w : World) : Calls Try.prog 8 #[.agg #[.int .i64 S.s0, .bool S.t0, .int .i64 S.s1, .bool S.t1, .int .i64 S.s2, .bool S.t2, .int .i64 S.s3, .bool S.t3, .int .i64 S.hd, .int .u64 S.tu], .int .i64 3] w fun e w' => e = .returned (.agg #[.int .i64 T.s0, .bool T.t0, .int .i64 T.s1, .bool T.t1, .int .i64 T.s2, .bool T.t2, .int .i64 T.s3, .bool T.t3, .int .i64 T.hd, .int .u64 T.tu]) ∧ Below w.heap.size w w' := by
  have hth := there_yes (i := 3) (by decide) (by decide)
  go_enter Try.func8, Try.ntmps8
  go_upto_region 1 with (fail)
  obtain ⟨W0, hW0, k0, k1, k2, k3, k4, k5, k6, k7, k8, k9, z0, z1, z2, z3, z4, z5, z6, z7, z8, z9, g0, g1, g2, g3, g4, g5, g6, g7, g8, g9, f0, f1, f2, f3, f4, f5, f6, f7, f8, f9, kb, hz⟩ : ∃ W0, (w.alloc (.cells #[.int .i64 S.s0, .bool S.t0, .int .i64 S.s1, .bool S.t1, .int .i64 S.s2, .bool S.t2, .int .i64 S.s3, .bool S.t3, .int .i64 S.hd, .int .u64 S.tu] 27)).alloc (.cells #[.int .i64 0, .bool false, .int .i64 0, .bool false, .int .i64 0, .bool false, .int .i64 0, .bool false, .int .i64 0, .int .u64 0] 27) = W0 ∧ W0.cell? ⟨w.heap.size, 0, none⟩ = some (.int .i64 S.s0) ∧ W0.cell? ⟨w.heap.size, 1, none⟩ = some (.bool S.t0) ∧ W0.cell? ⟨w.heap.size, 2, none⟩ = some (.int .i64 S.s1) ∧ W0.cell? ⟨w.heap.size, 3, none⟩ = some (.bool S.t1) ∧ W0.cell? ⟨w.heap.size, 4, none⟩ = some (.int .i64 S.s2) ∧ W0.cell? ⟨w.heap.size, 5, none⟩ = some (.bool S.t2) ∧ W0.cell? ⟨w.heap.size, 6, none⟩ = some (.int .i64 S.s3) ∧ W0.cell? ⟨w.heap.size, 7, none⟩ = some (.bool S.t3) ∧ W0.cell? ⟨w.heap.size, 8, none⟩ = some (.int .i64 S.hd) ∧ W0.cell? ⟨w.heap.size, 9, none⟩ = some (.int .u64 S.tu) ∧ W0.cell? ⟨w.heap.size + 1, 0, none⟩ = some (.int .i64 0) ∧ W0.cell? ⟨w.heap.size + 1, 1, none⟩ = some (.bool false) ∧ W0.cell? ⟨w.heap.size + 1, 2, none⟩ = some (.int .i64 0) ∧ W0.cell? ⟨w.heap.size + 1, 3, none⟩ = some (.bool false) ∧ W0.cell? ⟨w.heap.size + 1, 4, none⟩ = some (.int .i64 0) ∧ W0.cell? ⟨w.heap.size + 1, 5, none⟩ = some (.bool false) ∧ W0.cell? ⟨w.heap.size + 1, 6, none⟩ = some (.int .i64 0) ∧ W0.cell? ⟨w.heap.size + 1, 7, none⟩ = some (.bool false) ∧ W0.cell? ⟨w.heap.size + 1, 8, none⟩ = some (.int .i64 0) ∧ W0.cell? ⟨w.heap.size + 1, 9, none⟩ = some (.int .u64 0) ∧ W0.frozen? ⟨w.heap.size, 0, none⟩ = false ∧ W0.frozen? ⟨w.heap.size, 1, none⟩ = false ∧ W0.frozen? ⟨w.heap.size, 2, none⟩ = false ∧ W0.frozen? ⟨w.heap.size, 3, none⟩ = false ∧ W0.frozen? ⟨w.heap.size, 4, none⟩ = false ∧ W0.frozen? ⟨w.heap.size, 5, none⟩ = false ∧ W0.frozen? ⟨w.heap.size, 6, none⟩ = false ∧ W0.frozen? ⟨w.heap.size, 7, none⟩ = false ∧ W0.frozen? ⟨w.heap.size, 8, none⟩ = false ∧ W0.frozen? ⟨w.heap.size, 9, none⟩ = false ∧ W0.frozen? ⟨w.heap.size + 1, 0, none⟩ = false ∧ W0.frozen? ⟨w.heap.size + 1, 1, none⟩ = false ∧ W0.frozen? ⟨w.heap.size + 1, 2, none⟩ = false ∧ W0.frozen? ⟨w.heap.size + 1, 3, none⟩ = false ∧ W0.frozen? ⟨w.heap.size + 1, 4, none⟩ = false ∧ W0.frozen? ⟨w.heap.size + 1, 5, none⟩ = false ∧ W0.frozen? ⟨w.heap.size + 1, 6, none⟩ = false ∧ W0.frozen? ⟨w.heap.size + 1, 7, none⟩ = false ∧ W0.frozen? ⟨w.heap.size + 1, 8, none⟩ = false ∧ W0.frozen? ⟨w.heap.size + 1, 9, none⟩ = false ∧ Below w.heap.size w W0 ∧ w.heap.size + 1 < W0.heap.size :=
    ⟨_, rfl, by go_simp, by go_simp, by go_simp, by go_simp, by go_simp, by go_simp, by go_simp, by go_simp, by go_simp, by go_simp, by go_simp, by go_simp, by go_simp, by go_simp, by go_simp, by go_simp, by go_simp, by go_simp, by go_simp, by go_simp, by go_simp, by go_simp, by go_simp, by go_simp, by go_simp, by go_simp, by go_simp, by go_simp, by go_simp, by go_simp, by go_simp, by go_simp, by go_simp, by go_simp, by go_simp, by go_simp, by go_simp, by go_simp, by go_simp, by go_simp, bnew (bnew (brefl w) _) _, by simp⟩
  rw [hW0]
  clear hW0
  have hz0 := block_lt_of_cell k0
  generalize hB : w.heap.size = B at *
  have HB := Lib.hid hB
  clear hB
  go_upto_region 3 with (go_at_call 18; refine (hth _).mono ?_; rintro e w1 ⟨rfl, rfl⟩)
  have hq1 : B ≠ B + 1 := by omega
  have hX := @ExtK.cell (B + 1) W0
  have hzz0 := block_lt_of_cell k0
  refine wp_region_noPanic ?_
  refine wp_region_tree (fun w' => ∃ x : ExtK (B + 1) W0, w' = x.w) (PT.one [0, 1, 2, 3, 4, 5, 6, 7] 8 (PT.one [] 9 (PT.fin []))) (by kernel_rfl) (by kernel_rfl) (by kernel_rfl) (fun _ _ _ _ _ h => h) ⟨⟨_, (Keeps.refl _ W0).drew⟩, rfl⟩ ?_
  refine wpTree_one ?_
  simp only [pickOps, List.getElem?_cons_succ, List.getElem?_cons_zero, Option.elim_some]
  repeat (go_big_quiet_step (fail))
  refine wpQuiet_nil ?_
  refine planAct_some (fun K hK => ?_)
  go_simp
  refine (hwi _).mono ?_
  rintro e wa ⟨rfl, hba0⟩
  have hba := of_drew hba0
  have z0 : wa.cell? ⟨B + 1, 0, none⟩ = some (.int .i64 0) := keep_below z0 hba
  have z1 : wa.cell? ⟨B + 1, 1, none⟩ = some (.bool false) := keep_below z1 hba
  have z2 : wa.cell? ⟨B + 1, 2, none⟩ = some (.int .i64 0) := keep_below z2 hba
  have z3 : wa.cell? ⟨B + 1, 3, none⟩ = some (.bool false) := keep_below z3 hba
  have z4 : wa.cell? ⟨B + 1, 4, none⟩ = some (.int .i64 0) := keep_below z4 hba
  have z5 : wa.cell? ⟨B + 1, 5, none⟩ = some (.bool false) := keep_below z5 hba
  have z6 : wa.cell? ⟨B + 1, 6, none⟩ = some (.int .i64 0) := keep_below z6 hba
  have z7 : wa.cell? ⟨B + 1, 7, none⟩ = some (.bool false) := keep_below z7 hba
  have z8 : wa.cell? ⟨B + 1, 8, none⟩ = some (.int .i64 0) := keep_below z8 hba
  have z9 : wa.cell? ⟨B + 1, 9, none⟩ = some (.int .u64 0) := keep_below z9 hba
  have f0 : wa.frozen? ⟨B + 1, 0, none⟩ = false := keep_frozen f0 hz hba
  have f1 : wa.frozen? ⟨B + 1, 1, none⟩ = false := keep_frozen f1 hz hba
  have f2 : wa.frozen? ⟨B + 1, 2, none⟩ = false := keep_frozen f2 hz hba
  have f3 : wa.frozen? ⟨B + 1, 3, none⟩ = false := keep_frozen f3 hz hba
  have f4 : wa.frozen? ⟨B + 1, 4, none⟩ = false := keep_frozen f4 hz hba
  have f5 : wa.frozen? ⟨B + 1, 5, none⟩ = false := keep_frozen f5 hz hba
  have f6 : wa.frozen? ⟨B + 1, 6, none⟩ = false := keep_frozen f6 hz hba
  have f7 : wa.frozen? ⟨B + 1, 7, none⟩ = false := keep_frozen f7 hz hba
  have f8 : wa.frozen? ⟨B + 1, 8, none⟩ = false := keep_frozen f8 hz hba
  have f9 : wa.frozen? ⟨B + 1, 9, none⟩ = false := keep_frozen f9 hz hba
  have hza : B + 1 < wa.heap.size := block_lt_of_cell z0
  go_wp2_with fail
  refine hK.out _ _ ⟨⟨_, ((Keeps.refl _ W0).drew.trans_ (Keeps.of_below hba0))⟩, rfl⟩ ?_
  clear hK K
  refine wpTree_one ?_
  simp only [pickOps, List.getElem?_cons_succ, List.getElem?_cons_zero, Option.elim_some]
  repeat (go_big_quiet_step (fail))
  refine wpQuiet_nil ?_
  refine planAct_some (fun K hK => ?_)
  go_simp
  refine hK.out _ _ (extk_mem (by repeat (first | (with_reducible exact ((Keeps.refl _ W0).drew.trans_ (Keeps.of_below hba0))) | (with_reducible exact Keeps.refl _ _) | (with_reducible refine keepq_set ?_) | (with_reducible refine keepq_drew ?_)))) ?_
  clear hK K
  refine wpTree_fin ?_
  simp only [pickOps, List.getElem?_cons_succ, List.getElem?_cons_zero, Option.elim_some]
  repeat (go_big_quiet_step (fail))
  refine wpQuiet_nil ?_
  refine NoPanic.normal ?_
  clear hX hzz0
  go_wp2
  refine bodyPost_ret (v := .agg #[.int .i64 T.s0, .bool T.t0, .int .i64 T.s1, .bool T.t1, .int .i64 T.s2, .bool T.t2, .int .i64 T.s3, .bool T.t3, .int .i64 T.hd, .int .u64 T.tu]) (by simp [results, Try.results8, go_sem, z0, z1, z2, z3, z4, z5, z6, z7, z8, z9]) rfl ⟨rfl, ?_⟩
  have kba : Below B w wa := kb.trans (hba.mono (by omega))
  rw [HB.out]
  repeat (first | (with_reducible exact kba) | (with_reducible refine Below.setCell ?_ (by simp <;> omega) _) | (with_reducible refine Below.drew ?_))
theorem touch_any (S : WS) (i : Int) (w : World) : Calls Try.prog 8 #[.agg #[.int .i64 S.s0, .bool S.t0, .int .i64 S.s1, .bool S.t1, .int .i64 S.s2, .bool S.t2, .int .i64 S.s3, .bool S.t3, .int .i64 S.hd, .int .u64 S.tu], .int .i64 i] w fun e w' => e = .returned (.agg #[.int .i64 (S.touch i).s0, .bool (S.touch i).t0, .int .i64 (S.touch i).s1, .bool (S.touch i).t1, .int .i64 (S.touch i).s2, .bool (S.touch i).t2, .int .i64 (S.touch i).s3, .bool (S.touch i).t3, .int .i64 (S.touch i).hd, .int .u64 (S.touch i).tu]) ∧ Below w.heap.size w w' := by
  by_cases h : 0 ≤ i ∧ i < 4
  · rw [WS.touch, if_pos h]
    rcases (by omega : i = 0 ∨ i = 1 ∨ i = 2 ∨ i = 3) with rfl | rfl | rfl | rfl
    · exact touch_0 S _ (with_any S 0 S.s0 true) w
    · exact touch_1 S _ (with_any S 1 S.s1 true) w
    · exact touch_2 S _ (with_any S 2 S.s2 true) w
    · exact touch_3 S _ (with_any S 3 S.s3 true) w
  · rw [WS.touch, if_neg h]
    exact touch_no S (by omega) w
end Go.Proofs.Ytgkogodfegfdfaa
