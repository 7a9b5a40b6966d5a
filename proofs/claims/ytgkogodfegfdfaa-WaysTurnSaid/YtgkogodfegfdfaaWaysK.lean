/- The law WaysTurn. -/
import Derived.Test.YtgkogodfegfdfaaWaysJ
namespace Go.Proofs.Ytgkogodfegfdfaa
set_option linter.unusedVariables false
set_option linter.unusedSimpArgs false
open Go.RowKit

set_option maxHeartbeats 8000000 in
set_option maxRecDepth 100000 in
theorem turn_0 (S : WS)  (slot : Int) (T1 T2 T3 P : WS) (pi : Int) (was : Int) 
    (ht : ∀ w : World, Calls Try.prog 8 #[.agg #[.int .i64 S.s0, .bool S.t0, .int .i64 S.s1, .bool S.t1, .int .i64 S.s2, .bool S.t2, .int .i64 S.s3, .bool S.t3, .int .i64 S.hd, .int .u64 S.tu], .int .i64 0] w fun e w' => e = .returned (.agg #[.int .i64 T1.s0, .bool T1.t0, .int .i64 T1.s1, .bool T1.t1, .int .i64 T1.s2, .bool T1.t2, .int .i64 T1.s3, .bool T1.t3, .int .i64 T1.hd, .int .u64 T1.tu]) ∧ Below w.heap.size w w')
    (hrt : ∀ w : World, Calls Try.prog 7 #[.agg #[.int .i64 S.s0, .bool S.t0, .int .i64 S.s1, .bool S.t1, .int .i64 S.s2, .bool S.t2, .int .i64 S.s3, .bool S.t3, .int .i64 S.hd, .int .u64 S.tu], .int .i64 0, .agg #[.int .i64 S.s0, .bool true]] w fun e w' => e = .returned (.agg #[.int .i64 T1.s0, .bool T1.t0, .int .i64 T1.s1, .bool T1.t1, .int .i64 T1.s2, .bool T1.t2, .int .i64 T1.s3, .bool T1.t3, .int .i64 T1.hd, .int .u64 T1.tu]) ∧ Below w.heap.size w w')
    (hs : ∀ w : World, Calls Try.prog 9 #[.agg #[.int .i64 S.s0, .bool S.t0, .int .i64 S.s1, .bool S.t1, .int .i64 S.s2, .bool S.t2, .int .i64 S.s3, .bool S.t3, .int .i64 S.hd, .int .u64 S.tu], .int .i64 0, .int .i64 slot] w fun e w' => e = .returned (.agg #[.int .i64 T2.s0, .bool T2.t0, .int .i64 T2.s1, .bool T2.t1, .int .i64 T2.s2, .bool T2.t2, .int .i64 T2.s3, .bool T2.t3, .int .i64 T2.hd, .int .u64 T2.tu]) ∧ Below w.heap.size w w')
    (hrs : ∀ w : World, Calls Try.prog 7 #[.agg #[.int .i64 S.s0, .bool S.t0, .int .i64 S.s1, .bool S.t1, .int .i64 S.s2, .bool S.t2, .int .i64 S.s3, .bool S.t3, .int .i64 S.hd, .int .u64 S.tu], .int .i64 0, .agg #[.int .i64 slot, .bool true]] w fun e w' => e = .returned (.agg #[.int .i64 T2.s0, .bool T2.t0, .int .i64 T2.s1, .bool T2.t1, .int .i64 T2.s2, .bool T2.t2, .int .i64 T2.s3, .bool T2.t3, .int .i64 T2.hd, .int .u64 T2.tu]) ∧ Below w.heap.size w w')
    (hc : ∀ w : World, Calls Try.prog 10 #[.agg #[.int .i64 S.s0, .bool S.t0, .int .i64 S.s1, .bool S.t1, .int .i64 S.s2, .bool S.t2, .int .i64 S.s3, .bool S.t3, .int .i64 S.hd, .int .u64 S.tu], .int .i64 0] w fun e w' => e = .returned (.agg #[.int .i64 T3.s0, .bool T3.t0, .int .i64 T3.s1, .bool T3.t1, .int .i64 T3.s2, .bool T3.t2, .int .i64 T3.s3, .bool T3.t3, .int .i64 T3.hd, .int .u64 T3.tu]) ∧ Below w.heap.size w w')
    (hrc : ∀ w : World, Calls Try.prog 7 #[.agg #[.int .i64 S.s0, .bool S.t0, .int .i64 S.s1, .bool S.t1, .int .i64 S.s2, .bool S.t2, .int .i64 S.s3, .bool S.t3, .int .i64 S.hd, .int .u64 S.tu], .int .i64 0, .agg #[.int .i64 0, .bool false]] w fun e w' => e = .returned (.agg #[.int .i64 T3.s0, .bool T3.t0, .int .i64 T3.s1, .bool T3.t1, .int .i64 T3.s2, .bool T3.t2, .int .i64 T3.s3, .bool T3.t3, .int .i64 T3.hd, .int .u64 T3.tu]) ∧ Below w.heap.size w w')
    (hp : ∀ w : World, Calls Try.prog 11 #[.agg #[.int .i64 S.s0, .bool S.t0, .int .i64 S.s1, .bool S.t1, .int .i64 S.s2, .bool S.t2, .int .i64 S.s3, .bool S.t3, .int .i64 S.hd, .int .u64 S.tu], .int .i64 slot] w fun e w' => e = .returned (.tuple #[.agg #[.int .i64 P.s0, .bool P.t0, .int .i64 P.s1, .bool P.t1, .int .i64 P.s2, .bool P.t2, .int .i64 P.s3, .bool P.t3, .int .i64 P.hd, .int .u64 P.tu], .int .i64 pi, .int .i64 was]) ∧ Below w.heap.size w w')
    (hrp : ∀ w : World, Calls Try.prog 12 #[.agg #[.int .i64 S.s0, .bool S.t0, .int .i64 S.s1, .bool S.t1, .int .i64 S.s2, .bool S.t2, .int .i64 S.s3, .bool S.t3, .int .i64 S.hd, .int .u64 S.tu], .int .i64 slot] w fun e w' => e = .returned (.tuple #[.agg #[.int .i64 P.s0, .bool P.t0, .int .i64 P.s1, .bool P.t1, .int .i64 P.s2, .bool P.t2, .int .i64 P.s3, .bool P.t3, .int .i64 P.hd, .int .u64 P.tu], .int .i64 pi, .int .i64 was]) ∧ Below w.heap.size w w') (w : World) :
    Calls Try.prog 3 #[.agg #[.int .i64 S.s0, .bool S.t0, .int .i64 S.s1, .bool S.t1, .int .i64 S.s2, .bool S.t2, .int .i64 S.s3, .bool S.t3, .int .i64 S.hd, .int .u64 S.tu], .int .i64 0, .int .i64 slot] w fun e w' => e = .returned (.bool true) ∧ Below w.heap.size w w' := by
  have n1 := neR T1
  have n2 := neR T2
  have n3 := neR T3
  have n4 := eqR P
  have g1 := to_any T1
  have g2 := to_any T2
  have g3 := to_any T3
  have g4 := to_any P
  have u1 : (pi == pi) = true := by simp
  have u2 : (was == was) = true := by simp
  go_enter Try.func3, Try.ntmps3
  go_wp2_with fail
  obtain ⟨W0, hW0, k0, k1, k2, k3, k4, k5, k6, k7, k8, k9, kb⟩ : ∃ W0, w.alloc (.cells #[.int .i64 S.s0, .bool S.t0, .int .i64 S.s1, .bool S.t1, .int .i64 S.s2, .bool S.t2, .int .i64 S.s3, .bool S.t3, .int .i64 S.hd, .int .u64 S.tu] 27) = W0 ∧ W0.cell? ⟨w.heap.size, 0, none⟩ = some (.int .i64 S.s0) ∧ W0.cell? ⟨w.heap.size, 1, none⟩ = some (.bool S.t0) ∧ W0.cell? ⟨w.heap.size, 2, none⟩ = some (.int .i64 S.s1) ∧ W0.cell? ⟨w.heap.size, 3, none⟩ = some (.bool S.t1) ∧ W0.cell? ⟨w.heap.size, 4, none⟩ = some (.int .i64 S.s2) ∧ W0.cell? ⟨w.heap.size, 5, none⟩ = some (.bool S.t2) ∧ W0.cell? ⟨w.heap.size, 6, none⟩ = some (.int .i64 S.s3) ∧ W0.cell? ⟨w.heap.size, 7, none⟩ = some (.bool S.t3) ∧ W0.cell? ⟨w.heap.size, 8, none⟩ = some (.int .i64 S.hd) ∧ W0.cell? ⟨w.heap.size, 9, none⟩ = some (.int .u64 S.tu) ∧ Below w.heap.size w W0 :=
    ⟨_, rfl, by go_simp, by go_simp, by go_simp, by go_simp, by go_simp, by go_simp, by go_simp, by go_simp, by go_simp, by go_simp, bnew (brefl w) _⟩
  rw [hW0]
  clear hW0
  generalize hBB : w.heap.size = B at *
  have HB := Lib.hid hBB
  clear hBB
  have hz0 : B < W0.heap.size := block_lt_of_cell k0
  refine (to_any S _).mono ?_
  rintro e w1 ⟨rfl, hb1⟩
  have k0 := keep_below k0 hb1
  have k1 := keep_below k1 hb1
  have k2 := keep_below k2 hb1
  have k3 := keep_below k3 hb1
  have k4 := keep_below k4 hb1
  have k5 := keep_below k5 hb1
  have k6 := keep_below k6 hb1
  have k7 := keep_below k7 hb1
  have k8 := keep_below k8 hb1
  have k9 := keep_below k9 hb1
  have kb1 : Below B w w1 := kb.trans (hb1.mono (by omega))
  have hz1 : B < w1.heap.size := block_lt_of_cell k0
  clear kb hb1 hz0
  go_upto_region 4 with (fail)
  obtain ⟨W2, hW2, k0, k1, k2, k3, k4, k5, k6, k7, k8, k9, x0, x1, x2, x3, x4, x5, x6, x7, x8, x9, y0, y1, y2, y3, y4, y5, y6, y7, y8, y9, f0, f1, f2, f3, f4, f5, f6, f7, f8, f9, kb2, hz2⟩ : ∃ W2, (w1.alloc (.cells #[.int .i64 S.s0, .bool S.t0, .int .i64 S.s1, .bool S.t1, .int .i64 S.s2, .bool S.t2, .int .i64 S.s3, .bool S.t3, .int .i64 S.hd, .int .u64 S.tu] 31)).alloc (.cells #[.int .i64 S.s0, .bool S.t0, .int .i64 S.s1, .bool S.t1, .int .i64 S.s2, .bool S.t2, .int .i64 S.s3, .bool S.t3, .int .i64 S.hd, .int .u64 S.tu] 31) = W2 ∧ W2.cell? ⟨B, 0, none⟩ = some (.int .i64 S.s0) ∧ W2.cell? ⟨B, 1, none⟩ = some (.bool S.t0) ∧ W2.cell? ⟨B, 2, none⟩ = some (.int .i64 S.s1) ∧ W2.cell? ⟨B, 3, none⟩ = some (.bool S.t1) ∧ W2.cell? ⟨B, 4, none⟩ = some (.int .i64 S.s2) ∧ W2.cell? ⟨B, 5, none⟩ = some (.bool S.t2) ∧ W2.cell? ⟨B, 6, none⟩ = some (.int .i64 S.s3) ∧ W2.cell? ⟨B, 7, none⟩ = some (.bool S.t3) ∧ W2.cell? ⟨B, 8, none⟩ = some (.int .i64 S.hd) ∧ W2.cell? ⟨B, 9, none⟩ = some (.int .u64 S.tu) ∧ W2.cell? ⟨w1.heap.size, 0, none⟩ = some (.int .i64 S.s0) ∧ W2.cell? ⟨w1.heap.size, 1, none⟩ = some (.bool S.t0) ∧ W2.cell? ⟨w1.heap.size, 2, none⟩ = some (.int .i64 S.s1) ∧ W2.cell? ⟨w1.heap.size, 3, none⟩ = some (.bool S.t1) ∧ W2.cell? ⟨w1.heap.size, 4, none⟩ = some (.int .i64 S.s2) ∧ W2.cell? ⟨w1.heap.size, 5, none⟩ = some (.bool S.t2) ∧ W2.cell? ⟨w1.heap.size, 6, none⟩ = some (.int .i64 S.s3) ∧ W2.cell? ⟨w1.heap.size, 7, none⟩ = some (.bool S.t3) ∧ W2.cell? ⟨w1.heap.size, 8, none⟩ = some (.int .i64 S.hd) ∧ W2.cell? ⟨w1.heap.size, 9, none⟩ = some (.int .u64 S.tu) ∧ W2.cell? ⟨w1.heap.size + 1, 0, none⟩ = some (.int .i64 S.s0) ∧ W2.cell? ⟨w1.heap.size + 1, 1, none⟩ = some (.bool S.t0) ∧ W2.cell? ⟨w1.heap.size + 1, 2, none⟩ = some (.int .i64 S.s1) ∧ W2.cell? ⟨w1.heap.size + 1, 3, none⟩ = some (.bool S.t1) ∧ W2.cell? ⟨w1.heap.size + 1, 4, none⟩ = some (.int .i64 S.s2) ∧ W2.cell? ⟨w1.heap.size + 1, 5, none⟩ = some (.bool S.t2) ∧ W2.cell? ⟨w1.heap.size + 1, 6, none⟩ = some (.int .i64 S.s3) ∧ W2.cell? ⟨w1.heap.size + 1, 7, none⟩ = some (.bool S.t3) ∧ W2.cell? ⟨w1.heap.size + 1, 8, none⟩ = some (.int .i64 S.hd) ∧ W2.cell? ⟨w1.heap.size + 1, 9, none⟩ = some (.int .u64 S.tu) ∧ W2.frozen? ⟨w1.heap.size + 1, 0, none⟩ = false ∧ W2.frozen? ⟨w1.heap.size + 1, 1, none⟩ = false ∧ W2.frozen? ⟨w1.heap.size + 1, 2, none⟩ = false ∧ W2.frozen? ⟨w1.heap.size + 1, 3, none⟩ = false ∧ W2.frozen? ⟨w1.heap.size + 1, 4, none⟩ = false ∧ W2.frozen? ⟨w1.heap.size + 1, 5, none⟩ = false ∧ W2.frozen? ⟨w1.heap.size + 1, 6, none⟩ = false ∧ W2.frozen? ⟨w1.heap.size + 1, 7, none⟩ = false ∧ W2.frozen? ⟨w1.heap.size + 1, 8, none⟩ = false ∧ W2.frozen? ⟨w1.heap.size + 1, 9, none⟩ = false ∧ Below B w W2 ∧ w1.heap.size + 1 < W2.heap.size :=
    ⟨_, rfl, keep_below (keep_below k0 (bnew (brefl _) _)) (bnew (brefl _) _), keep_below (keep_below k1 (bnew (brefl _) _)) (bnew (brefl _) _), keep_below (keep_below k2 (bnew (brefl _) _)) (bnew (brefl _) _), keep_below (keep_below k3 (bnew (brefl _) _)) (bnew (brefl _) _), keep_below (keep_below k4 (bnew (brefl _) _)) (bnew (brefl _) _), keep_below (keep_below k5 (bnew (brefl _) _)) (bnew (brefl _) _), keep_below (keep_below k6 (bnew (brefl _) _)) (bnew (brefl _) _), keep_below (keep_below k7 (bnew (brefl _) _)) (bnew (brefl _) _), keep_below (keep_below k8 (bnew (brefl _) _)) (bnew (brefl _) _), keep_below (keep_below k9 (bnew (brefl _) _)) (bnew (brefl _) _), by go_simp, by go_simp, by go_simp, by go_simp, by go_simp, by go_simp, by go_simp, by go_simp, by go_simp, by go_simp, by go_simp, by go_simp, by go_simp, by go_simp, by go_simp, by go_simp, by go_simp, by go_simp, by go_simp, by go_simp, by go_simp, by go_simp, by go_simp, by go_simp, by go_simp, by go_simp, by go_simp, by go_simp, by go_simp, by go_simp, (kb1.alloc (by omega) _).alloc (by simp; omega) _, by simp⟩
  rw [hW2]
  clear hW2 kb1
  generalize w1.heap.size = Q at *
  have hzB : B < W2.heap.size := block_lt_of_cell k0
  have hzQ : Q < W2.heap.size := block_lt_of_cell x0
  have hq1 : B ≠ Q + 1 := by omega
  have hq2 : Q ≠ Q + 1 := by omega
  have hX := @ExtK.cell (Q + 1) W2
  have hzz0 := block_lt_of_cell k0
  have hzz1 := block_lt_of_cell x0
  have hzz2 := block_lt_of_cell y0
  refine wp_region_noPanic ?_
  refine wp_region_tree (fun w' => ∃ x : ExtK (Q + 1) W2, w' = x.w) (PT.one [0, 1, 2, 3, 4, 5, 6, 7] 8 (PT.one [] 9 (PT.fin []))) (by kernel_rfl) (by kernel_rfl) (by kernel_rfl) (fun _ _ _ _ _ h => h) ⟨⟨_, (Keeps.refl _ W2).drew⟩, rfl⟩ ?_
  refine wpTree_one ?_
  simp only [pickOps, List.getElem?_cons_succ, List.getElem?_cons_zero, Option.elim_some]
  repeat (go_big_quiet_step (fail))
  refine wpQuiet_nil ?_
  refine planAct_some (fun K hK => ?_)
  go_simp
  refine (hrt _).mono ?_
  rintro e wa ⟨rfl, hba0⟩
  have hba := of_drew hba0
  have y0 := keep_below y0 hba
  have y1 := keep_below y1 hba
  have y2 := keep_below y2 hba
  have y3 := keep_below y3 hba
  have y4 := keep_below y4 hba
  have y5 := keep_below y5 hba
  have y6 := keep_below y6 hba
  have y7 := keep_below y7 hba
  have y8 := keep_below y8 hba
  have y9 := keep_below y9 hba
  have f0 := keep_frozen f0 hz2 hba
  have f1 := keep_frozen f1 hz2 hba
  have f2 := keep_frozen f2 hz2 hba
  have f3 := keep_frozen f3 hz2 hba
  have f4 := keep_frozen f4 hz2 hba
  have f5 := keep_frozen f5 hz2 hba
  have f6 := keep_frozen f6 hz2 hba
  have f7 := keep_frozen f7 hz2 hba
  have f8 := keep_frozen f8 hz2 hba
  have f9 := keep_frozen f9 hz2 hba
  have hza : Q + 1 < wa.heap.size := block_lt_of_cell y0
  go_wp2_with fail
  refine hK.out _ _ ⟨⟨_, ((Keeps.refl _ W2).drew.trans_ (Keeps.of_below hba0))⟩, rfl⟩ ?_
  clear hK K
  refine wpTree_one ?_
  simp only [pickOps, List.getElem?_cons_succ, List.getElem?_cons_zero, Option.elim_some]
  repeat (go_big_quiet_step (fail))
  refine wpQuiet_nil ?_
  refine planAct_some (fun K hK => ?_)
  go_simp
  refine hK.out _ _ (extk_mem (by repeat (first | (with_reducible exact ((Keeps.refl _ W2).drew.trans_ (Keeps.of_below hba0))) | (with_reducible exact Keeps.refl _ _) | (with_reducible refine keepq_set ?_) | (with_reducible refine keepq_drew ?_)))) ?_
  clear hK K
  refine wpTree_fin ?_
  simp only [pickOps, List.getElem?_cons_succ, List.getElem?_cons_zero, Option.elim_some]
  repeat (go_big_quiet_step (fail))
  refine wpQuiet_nil ?_
  refine NoPanic.normal ?_
  clear hX hzz0 hzz1 hzz2
  obtain ⟨W3, hW3, k0, k1, k2, k3, k4, k5, k6, k7, k8, k9, x0, x1, x2, x3, x4, x5, x6, x7, x8, x9, y0, y1, y2, y3, y4, y5, y6, y7, y8, y9, kb3⟩ : ∃ W3, ((((((((((wa.setCell ⟨Q + 1, 0, none⟩ (.int .i64 T1.s0)).setCell ⟨Q + 1, 1, none⟩ (.bool T1.t0)).setCell ⟨Q + 1, 2, none⟩ (.int .i64 T1.s1)).setCell ⟨Q + 1, 3, none⟩ (.bool T1.t1)).setCell ⟨Q + 1, 4, none⟩ (.int .i64 T1.s2)).setCell ⟨Q + 1, 5, none⟩ (.bool T1.t2)).setCell ⟨Q + 1, 6, none⟩ (.int .i64 T1.s3)).setCell ⟨Q + 1, 7, none⟩ (.bool T1.t3)).setCell ⟨Q + 1, 8, none⟩ (.int .i64 T1.hd)).setCell ⟨Q + 1, 9, none⟩ (.int .u64 T1.tu)) = W3 ∧ W3.cell? ⟨B, 0, none⟩ = some (.int .i64 S.s0) ∧ W3.cell? ⟨B, 1, none⟩ = some (.bool S.t0) ∧ W3.cell? ⟨B, 2, none⟩ = some (.int .i64 S.s1) ∧ W3.cell? ⟨B, 3, none⟩ = some (.bool S.t1) ∧ W3.cell? ⟨B, 4, none⟩ = some (.int .i64 S.s2) ∧ W3.cell? ⟨B, 5, none⟩ = some (.bool S.t2) ∧ W3.cell? ⟨B, 6, none⟩ = some (.int .i64 S.s3) ∧ W3.cell? ⟨B, 7, none⟩ = some (.bool S.t3) ∧ W3.cell? ⟨B, 8, none⟩ = some (.int .i64 S.hd) ∧ W3.cell? ⟨B, 9, none⟩ = some (.int .u64 S.tu) ∧ W3.cell? ⟨Q, 0, none⟩ = some (.int .i64 S.s0) ∧ W3.cell? ⟨Q, 1, none⟩ = some (.bool S.t0) ∧ W3.cell? ⟨Q, 2, none⟩ = some (.int .i64 S.s1) ∧ W3.cell? ⟨Q, 3, none⟩ = some (.bool S.t1) ∧ W3.cell? ⟨Q, 4, none⟩ = some (.int .i64 S.s2) ∧ W3.cell? ⟨Q, 5, none⟩ = some (.bool S.t2) ∧ W3.cell? ⟨Q, 6, none⟩ = some (.int .i64 S.s3) ∧ W3.cell? ⟨Q, 7, none⟩ = some (.bool S.t3) ∧ W3.cell? ⟨Q, 8, none⟩ = some (.int .i64 S.hd) ∧ W3.cell? ⟨Q, 9, none⟩ = some (.int .u64 S.tu) ∧ W3.cell? ⟨Q + 1, 0, none⟩ = some (.int .i64 T1.s0) ∧ W3.cell? ⟨Q + 1, 1, none⟩ = some (.bool T1.t0) ∧ W3.cell? ⟨Q + 1, 2, none⟩ = some (.int .i64 T1.s1) ∧ W3.cell? ⟨Q + 1, 3, none⟩ = some (.bool T1.t1) ∧ W3.cell? ⟨Q + 1, 4, none⟩ = some (.int .i64 T1.s2) ∧ W3.cell? ⟨Q + 1, 5, none⟩ = some (.bool T1.t2) ∧ W3.cell? ⟨Q + 1, 6, none⟩ = some (.int .i64 T1.s3) ∧ W3.cell? ⟨Q + 1, 7, none⟩ = some (.bool T1.t3) ∧ W3.cell? ⟨Q + 1, 8, none⟩ = some (.int .i64 T1.hd) ∧ W3.cell? ⟨Q + 1, 9, none⟩ = some (.int .u64 T1.tu) ∧ Below B w W3 := by
    have kba : Below B w wa := kb2.trans (hba.mono (by omega))
    have k0 := keep_below k0 hba
    have k1 := keep_below k1 hba
    have k2 := keep_below k2 hba
    have k3 := keep_below k3 hba
    have k4 := keep_below k4 hba
    have k5 := keep_below k5 hba
    have k6 := keep_below k6 hba
    have k7 := keep_below k7 hba
    have k8 := keep_below k8 hba
    have k9 := keep_below k9 hba
    have x0 := keep_below x0 hba
    have x1 := keep_below x1 hba
    have x2 := keep_below x2 hba
    have x3 := keep_below x3 hba
    have x4 := keep_below x4 hba
    have x5 := keep_below x5 hba
    have x6 := keep_below x6 hba
    have x7 := keep_below x7 hba
    have x8 := keep_below x8 hba
    have x9 := keep_below x9 hba
    exact ⟨_, rfl, by go_simp, by go_simp, by go_simp, by go_simp, by go_simp, by go_simp, by go_simp, by go_simp, by go_simp, by go_simp, by go_simp, by go_simp, by go_simp, by go_simp, by go_simp, by go_simp, by go_simp, by go_simp, by go_simp, by go_simp, by go_simp, by go_simp, by go_simp, by go_simp, by go_simp, by go_simp, by go_simp, by go_simp, by go_simp, by go_simp, by repeat (first | (with_reducible exact kba) | (with_reducible refine Below.setCell ?_ (by simp <;> omega) _))⟩
  rw [hW3]
  clear hW3 kb2 hba hba0 hq1 hq2 hza hzB hzQ hz2
  have hzB : B < W3.heap.size := block_lt_of_cell k0
  go_upto_region 5 with (fail)
  go_cut [62] (fun v w' => v = .bool false ∧ Below W3.heap.size W3 w')
  case first =>
    have hX := @Ext.cell W3
    have hzz0 := block_lt_of_cell k0
    have hzz1 := block_lt_of_cell x0
    have hzz2 := block_lt_of_cell y0
    refine wp_region_noPanic ?_
    refine wp_region_tree (fun w' => ∃ x : Ext W3, w' = x.w) (PT.one [0, 1, 4] 2 (PT.one [] 3 (PT.one [5, 6, 7, 8, 9, 12, 13, 14, 15] 10 (PT.one [] 11 (PT.one [] 16 (PT.one [17, 18, 19, 20, 21, 24, 25, 26] 22 (PT.one [] 23 (PT.one [] 27 (PT.fin [28, 29]))))))))) (by kernel_rfl) (by kernel_rfl) (by kernel_rfl) (fun _ _ _ _ _ h => h) ⟨⟨_, (brefl W3).drew⟩, rfl⟩ ?_
    refine wpTree_one ?_
    simp only [pickOps, List.getElem?_cons_succ, List.getElem?_cons_zero, Option.elim_some]
    repeat (go_big_quiet_step (fail))
    refine wpQuiet_nil ?_
    refine planAct_some (fun K hK => ?_)
    go_simp
    refine (ht _).mono ?_
    rintro e v1 ⟨rfl, a1⟩
    go_wp2_with fail
    refine hK.out _ _ ⟨⟨_, (bnext (brefl W3).drew a1)⟩, rfl⟩ ?_
    clear hK K
    refine wpTree_one ?_
    simp only [pickOps, List.getElem?_cons_succ, List.getElem?_cons_zero, Option.elim_some]
    repeat (go_big_quiet_step (fail))
    refine wpQuiet_nil ?_
    refine planAct_some (fun K hK => ?_)
    go_simp
    refine (g1 _).mono ?_
    rintro e v2 ⟨rfl, a2⟩
    go_wp2_with fail
    refine hK.out _ _ ⟨⟨_, (bnext (bnext (brefl W3).drew a1) a2)⟩, rfl⟩ ?_
    clear hK K
    refine wpTree_one ?_
    simp only [pickOps, List.getElem?_cons_succ, List.getElem?_cons_zero, Option.elim_some]
    repeat (go_big_quiet_step (fail))
    refine wpQuiet_nil ?_
    refine planAct_some (fun K hK => ?_)
    go_simp
    refine (hs _).mono ?_
    rintro e v3 ⟨rfl, a3⟩
    go_wp2_with fail
    refine hK.out _ _ ⟨⟨_, (bnext (bnext (bnext (brefl W3).drew a1) a2) a3)⟩, rfl⟩ ?_
    clear hK K
    refine wpTree_one ?_
    simp only [pickOps, List.getElem?_cons_succ, List.getElem?_cons_zero, Option.elim_some]
    repeat (go_big_quiet_step (fail))
    refine wpQuiet_nil ?_
    refine planAct_some (fun K hK => ?_)
    go_simp
    refine (g2 _).mono ?_
    rintro e v4 ⟨rfl, a4⟩
    go_wp2_with fail
    refine hK.out _ _ ⟨⟨_, (bnext (bnext (bnext (bnext (brefl W3).drew a1) a2) a3) a4)⟩, rfl⟩ ?_
    clear hK K
    refine wpTree_one ?_
    simp only [pickOps, List.getElem?_cons_succ, List.getElem?_cons_zero, Option.elim_some]
    repeat (go_big_quiet_step (fail))
    refine wpQuiet_nil ?_
    refine planAct_some (fun K hK => ?_)
    go_simp
    refine (hrs _).mono ?_
    rintro e v5 ⟨rfl, a5⟩
    go_wp2_with fail
    refine hK.out _ _ ⟨⟨_, (bnext (bnext (bnext (bnext (bnext (brefl W3).drew a1) a2) a3) a4) a5)⟩, rfl⟩ ?_
    clear hK K
    refine wpTree_one ?_
    simp only [pickOps, List.getElem?_cons_succ, List.getElem?_cons_zero, Option.elim_some]
    repeat (go_big_quiet_step (fail))
    refine wpQuiet_nil ?_
    refine planAct_some (fun K hK => ?_)
    go_simp
    refine (hc _).mono ?_
    rintro e v6 ⟨rfl, a6⟩
    go_wp2_with fail
    refine hK.out _ _ ⟨⟨_, (bnext (bnext (bnext (bnext (bnext (bnext (brefl W3).drew a1) a2) a3) a4) a5) a6)⟩, rfl⟩ ?_
    clear hK K
    refine wpTree_one ?_
    simp only [pickOps, List.getElem?_cons_succ, List.getElem?_cons_zero, Option.elim_some]
    repeat (go_big_quiet_step (fail))
    refine wpQuiet_nil ?_
    refine planAct_some (fun K hK => ?_)
    go_simp
    refine (g3 _).mono ?_
    rintro e v7 ⟨rfl, a7⟩
    go_wp2_with fail
    refine hK.out _ _ ⟨⟨_, (bnext (bnext (bnext (bnext (bnext (bnext (bnext (brefl W3).drew a1) a2) a3) a4) a5) a6) a7)⟩, rfl⟩ ?_
    clear hK K
    refine wpTree_one ?_
    simp only [pickOps, List.getElem?_cons_succ, List.getElem?_cons_zero, Option.elim_some]
    repeat (go_big_quiet_step (fail))
    refine wpQuiet_nil ?_
    refine planAct_some (fun K hK => ?_)
    go_simp
    refine (hrc _).mono ?_
    rintro e v8 ⟨rfl, a8⟩
    go_wp2_with fail
    refine hK.out _ _ ⟨⟨_, (bnext (bnext (bnext (bnext (bnext (bnext (bnext (bnext (brefl W3).drew a1) a2) a3) a4) a5) a6) a7) a8)⟩, rfl⟩ ?_
    clear hK K
    refine wpTree_fin ?_
    simp only [pickOps, List.getElem?_cons_succ, List.getElem?_cons_zero, Option.elim_some]
    repeat (go_big_quiet_step (fail))
    refine wpQuiet_nil ?_
    refine NoPanic.normal ?_
    clear hX hzz0 hzz1 hzz2
    go_wp2_with fail
    go_meet
    case rel => exact ⟨rfl, (bnext (bnext (bnext (bnext (bnext (bnext (bnext (bnext (brefl W3).drew a1) a2) a3) a4) a5) a6) a7) a8)⟩
  case rest =>
  obtain ⟨rfl, hcut⟩ := hcut
  have k0 := keep_below k0 hcut
  have k1 := keep_below k1 hcut
  have k2 := keep_below k2 hcut
  have k3 := keep_below k3 hcut
  have k4 := keep_below k4 hcut
  have k5 := keep_below k5 hcut
  have k6 := keep_below k6 hcut
  have k7 := keep_below k7 hcut
  have k8 := keep_below k8 hcut
  have k9 := keep_below k9 hcut
  have x0 := keep_below x0 hcut
  have x1 := keep_below x1 hcut
  have x2 := keep_below x2 hcut
  have x3 := keep_below x3 hcut
  have x4 := keep_below x4 hcut
  have x5 := keep_below x5 hcut
  have x6 := keep_below x6 hcut
  have x7 := keep_below x7 hcut
  have x8 := keep_below x8 hcut
  have x9 := keep_below x9 hcut
  have kb5 : Below B w wc := kb3.trans (hcut.mono (by omega))
  have hzB5 : B < wc.heap.size := block_lt_of_cell k0
  have hzQ5 := block_lt_of_cell x0
  clear y0 y1 y2 y3 y4 y5 y6 y7 y8 y9 hcut kb3
  go_wp2_with fail
  refine (hp _).mono ?_
  rintro e w6 ⟨rfl, hb6⟩
  have x0 := keep_below x0 hb6
  have x1 := keep_below x1 hb6
  have x2 := keep_below x2 hb6
  have x3 := keep_below x3 hb6
  have x4 := keep_below x4 hb6
  have x5 := keep_below x5 hb6
  have x6 := keep_below x6 hb6
  have x7 := keep_below x7 hb6
  have x8 := keep_below x8 hb6
  have x9 := keep_below x9 hb6
  have kb6 : Below B w w6 := kb5.trans (hb6.mono (by omega))
  have hzB6 : B < w6.heap.size := by have := hb6.size; omega
  clear kb5 hb6 k0 k1 k2 k3 k4 k5 k6 k7 k8 k9 hzQ5
  go_upto_region 8 with (fail)
  obtain ⟨W7, hW7, x0, x1, x2, x3, x4, x5, x6, x7, x8, x9, y0, y1, y2, y3, y4, y5, y6, y7, y8, y9, kb7, hzB7⟩ : ∃ W7, w6.alloc (.cells #[.int .i64 P.s0, .bool P.t0, .int .i64 P.s1, .bool P.t1, .int .i64 P.s2, .bool P.t2, .int .i64 P.s3, .bool P.t3, .int .i64 P.hd, .int .u64 P.tu] 27) = W7 ∧ W7.cell? ⟨Q, 0, none⟩ = some (.int .i64 S.s0) ∧ W7.cell? ⟨Q, 1, none⟩ = some (.bool S.t0) ∧ W7.cell? ⟨Q, 2, none⟩ = some (.int .i64 S.s1) ∧ W7.cell? ⟨Q, 3, none⟩ = some (.bool S.t1) ∧ W7.cell? ⟨Q, 4, none⟩ = some (.int .i64 S.s2) ∧ W7.cell? ⟨Q, 5, none⟩ = some (.bool S.t2) ∧ W7.cell? ⟨Q, 6, none⟩ = some (.int .i64 S.s3) ∧ W7.cell? ⟨Q, 7, none⟩ = some (.bool S.t3) ∧ W7.cell? ⟨Q, 8, none⟩ = some (.int .i64 S.hd) ∧ W7.cell? ⟨Q, 9, none⟩ = some (.int .u64 S.tu) ∧ W7.cell? ⟨w6.heap.size, 0, none⟩ = some (.int .i64 P.s0) ∧ W7.cell? ⟨w6.heap.size, 1, none⟩ = some (.bool P.t0) ∧ W7.cell? ⟨w6.heap.size, 2, none⟩ = some (.int .i64 P.s1) ∧ W7.cell? ⟨w6.heap.size, 3, none⟩ = some (.bool P.t1) ∧ W7.cell? ⟨w6.heap.size, 4, none⟩ = some (.int .i64 P.s2) ∧ W7.cell? ⟨w6.heap.size, 5, none⟩ = some (.bool P.t2) ∧ W7.cell? ⟨w6.heap.size, 6, none⟩ = some (.int .i64 P.s3) ∧ W7.cell? ⟨w6.heap.size, 7, none⟩ = some (.bool P.t3) ∧ W7.cell? ⟨w6.heap.size, 8, none⟩ = some (.int .i64 P.hd) ∧ W7.cell? ⟨w6.heap.size, 9, none⟩ = some (.int .u64 P.tu) ∧ Below B w W7 ∧ B < W7.heap.size :=
    ⟨_, rfl, keep_below x0 (bnew (brefl _) _), keep_below x1 (bnew (brefl _) _), keep_below x2 (bnew (brefl _) _), keep_below x3 (bnew (brefl _) _), keep_below x4 (bnew (brefl _) _), keep_below x5 (bnew (brefl _) _), keep_below x6 (bnew (brefl _) _), keep_below x7 (bnew (brefl _) _), keep_below x8 (bnew (brefl _) _), keep_below x9 (bnew (brefl _) _), by go_simp, by go_simp, by go_simp, by go_simp, by go_simp, by go_simp, by go_simp, by go_simp, by go_simp, by go_simp, kb6.alloc (by omega) _, by simp; omega⟩
  rw [hW7]
  clear hW7 kb6
  generalize w6.heap.size = Q7 at *
  have hzQ7 := block_lt_of_cell x0
  go_wp2_with fail
  refine (hrp _).mono ?_
  rintro e w8 ⟨rfl, hb8⟩
  have y0 := keep_below y0 hb8
  have y1 := keep_below y1 hb8
  have y2 := keep_below y2 hb8
  have y3 := keep_below y3 hb8
  have y4 := keep_below y4 hb8
  have y5 := keep_below y5 hb8
  have y6 := keep_below y6 hb8
  have y7 := keep_below y7 hb8
  have y8 := keep_below y8 hb8
  have y9 := keep_below y9 hb8
  have kb8 : Below B w w8 := kb7.trans (hb8.mono (by omega))
  have hzB8 : B < w8.heap.size := by have := hb8.size; omega
  clear kb7 hb8 x0 x1 x2 x3 x4 x5 x6 x7 x8 x9 hzQ7
  go_upto_region 9 with (fail)
  obtain ⟨W9, hW9, x0, x1, x2, x3, x4, x5, x6, x7, x8, x9, y0, y1, y2, y3, y4, y5, y6, y7, y8, y9, kb9, hzB9⟩ : ∃ W9, w8.alloc (.cells #[.int .i64 P.s0, .bool P.t0, .int .i64 P.s1, .bool P.t1, .int .i64 P.s2, .bool P.t2, .int .i64 P.s3, .bool P.t3, .int .i64 P.hd, .int .u64 P.tu] 31) = W9 ∧ W9.cell? ⟨w8.heap.size, 0, none⟩ = some (.int .i64 P.s0) ∧ W9.cell? ⟨w8.heap.size, 1, none⟩ = some (.bool P.t0) ∧ W9.cell? ⟨w8.heap.size, 2, none⟩ = some (.int .i64 P.s1) ∧ W9.cell? ⟨w8.heap.size, 3, none⟩ = some (.bool P.t1) ∧ W9.cell? ⟨w8.heap.size, 4, none⟩ = some (.int .i64 P.s2) ∧ W9.cell? ⟨w8.heap.size, 5, none⟩ = some (.bool P.t2) ∧ W9.cell? ⟨w8.heap.size, 6, none⟩ = some (.int .i64 P.s3) ∧ W9.cell? ⟨w8.heap.size, 7, none⟩ = some (.bool P.t3) ∧ W9.cell? ⟨w8.heap.size, 8, none⟩ = some (.int .i64 P.hd) ∧ W9.cell? ⟨w8.heap.size, 9, none⟩ = some (.int .u64 P.tu) ∧ W9.cell? ⟨Q7, 0, none⟩ = some (.int .i64 P.s0) ∧ W9.cell? ⟨Q7, 1, none⟩ = some (.bool P.t0) ∧ W9.cell? ⟨Q7, 2, none⟩ = some (.int .i64 P.s1) ∧ W9.cell? ⟨Q7, 3, none⟩ = some (.bool P.t1) ∧ W9.cell? ⟨Q7, 4, none⟩ = some (.int .i64 P.s2) ∧ W9.cell? ⟨Q7, 5, none⟩ = some (.bool P.t2) ∧ W9.cell? ⟨Q7, 6, none⟩ = some (.int .i64 P.s3) ∧ W9.cell? ⟨Q7, 7, none⟩ = some (.bool P.t3) ∧ W9.cell? ⟨Q7, 8, none⟩ = some (.int .i64 P.hd) ∧ W9.cell? ⟨Q7, 9, none⟩ = some (.int .u64 P.tu) ∧ Below B w W9 ∧ B < W9.heap.size :=
    ⟨_, rfl, by go_simp, by go_simp, by go_simp, by go_simp, by go_simp, by go_simp, by go_simp, by go_simp, by go_simp, by go_simp, keep_below y0 (bnew (brefl _) _), keep_below y1 (bnew (brefl _) _), keep_below y2 (bnew (brefl _) _), keep_below y3 (bnew (brefl _) _), keep_below y4 (bnew (brefl _) _), keep_below y5 (bnew (brefl _) _), keep_below y6 (bnew (brefl _) _), keep_below y7 (bnew (brefl _) _), keep_below y8 (bnew (brefl _) _), keep_below y9 (bnew (brefl _) _), kb8.alloc (by omega) _, by simp; omega⟩
  rw [hW9]
  clear hW9 kb8
  generalize w8.heap.size = Q9 at *
  have hX := @Ext.cell W9
  have hzz0 := block_lt_of_cell x0
  have hzz1 := block_lt_of_cell y0
  refine wp_region_noPanic ?_
  refine wp_region_plan (fun w' => ∃ x : Ext W9, w' = x.w) [([0, 2], 1), ([3, 4, 5, 6, 7, 8, 9, 10, 11, 12, 13, 14], 15)] [16, 17] (by kernel_rfl) (by kernel_rfl) (by kernel_rfl) (fun _ _ _ _ _ h => h) ⟨⟨_, (brefl W9).drew⟩, rfl⟩ ?_
  refine wpPlan_cons ?_
  simp only [pickOps, List.getElem?_cons_succ, List.getElem?_cons_zero, Option.elim_some]
  repeat (go_big_quiet_step (fail))
  refine wpQuiet_nil ?_
  refine planAct_some (fun K hK => ?_)
  go_simp
  refine (g4 _).mono ?_
  rintro e w10 ⟨rfl, h10⟩
  go_wp2_with fail
  refine hK.out _ _ ⟨⟨_, (bnext (brefl W9).drew h10)⟩, rfl⟩ ?_
  clear hK K
  refine wpPlan_cons ?_
  simp only [pickOps, List.getElem?_cons_succ, List.getElem?_cons_zero, Option.elim_some]
  repeat (go_big_quiet_step (fail))
  refine wpQuiet_nil ?_
  refine planAct_some (fun K hK => ?_)
  go_simp
  refine (lives11 _).mono ?_
  rintro e w11 ⟨rfl, h11⟩
  go_wp2_with fail
  refine hK.out _ _ ⟨⟨_, (bnext (bnext (brefl W9).drew h10) h11)⟩, rfl⟩ ?_
  clear hK K
  refine wpPlan_last ?_
  simp only [pickOps, List.getElem?_cons_succ, List.getElem?_cons_zero, Option.elim_some]
  repeat (go_big_quiet_step (fail))
  refine wpQuiet_nil ?_
  refine NoPanic.normal ?_
  clear hX hzz0 hzz1
  go_wp2
  go_ret
  exact ⟨rfl, by rw [HB.out]; exact kb9.trans ((bnext (bnext (brefl W9).drew h10) h11).mono (by omega))⟩

set_option maxHeartbeats 8000000 in
set_option maxRecDepth 100000 in
theorem turn_1 (S : WS)  (slot : Int) (T1 T2 T3 P : WS) (pi : Int) (was : Int) 
    (ht : ∀ w : World, Calls Try.prog 8 #[.agg #[.int .i64 S.s0, .bool S.t0, .int .i64 S.s1, .bool S.t1, .int .i64 S.s2, .bool S.t2, .int .i64 S.s3, .bool S.t3, .int .i64 S.hd, .int .u64 S.tu], .int .i64 1] w fun e w' => e = .returned (.agg #[.int .i64 T1.s0, .bool T1.t0, .int .i64 T1.s1, .bool T1.t1, .int .i64 T1.s2, .bool T1.t2, .int .i64 T1.s3, .bool T1.t3, .int .i64 T1.hd, .int .u64 T1.tu]) ∧ Below w.heap.size w w')
    (hrt : ∀ w : World, Calls Try.prog 7 #[.agg #[.int .i64 S.s0, .bool S.t0, .int .i64 S.s1, .bool S.t1, .int .i64 S.s2, .bool S.t2, .int .i64 S.s3, .bool S.t3, .int .i64 S.hd, .int .u64 S.tu], .int .i64 1, .agg #[.int .i64 S.s1, .bool true]] w fun e w' => e = .returned (.agg #[.int .i64 T1.s0, .bool T1.t0, .int .i64 T1.s1, .bool T1.t1, .int .i64 T1.s2, .bool T1.t2, .int .i64 T1.s3, .bool T1.t3, .int .i64 T1.hd, .int .u64 T1.tu]) ∧ Below w.heap.size w w')
    (hs : ∀ w : World, Calls Try.prog 9 #[.agg #[.int .i64 S.s0, .bool S.t0, .int .i64 S.s1, .bool S.t1, .int .i64 S.s2, .bool S.t2, .int .i64 S.s3, .bool S.t3, .int .i64 S.hd, .int .u64 S.tu], .int .i64 1, .int .i64 slot] w fun e w' => e = .returned (.agg #[.int .i64 T2.s0, .bool T2.t0, .int .i64 T2.s1, .bool T2.t1, .int .i64 T2.s2, .bool T2.t2, .int .i64 T2.s3, .bool T2.t3, .int .i64 T2.hd, .int .u64 T2.tu]) ∧ Below w.heap.size w w')
    (hrs : ∀ w : World, Calls Try.prog 7 #[.agg #[.int .i64 S.s0, .bool S.t0, .int .i64 S.s1, .bool S.t1, .int .i64 S.s2, .bool S.t2, .int .i64 S.s3, .bool S.t3, .int .i64 S.hd, .int .u64 S.tu], .int .i64 1, .agg #[.int .i64 slot, .bool true]] w fun e w' => e = .returned (.agg #[.int .i64 T2.s0, .bool T2.t0, .int .i64 T2.s1, .bool T2.t1, .int .i64 T2.s2, .bool T2.t2, .int .i64 T2.s3, .bool T2.t3, .int .i64 T2.hd, .int .u64 T2.tu]) ∧ Below w.heap.size w w')
    (hc : ∀ w : World, Calls Try.prog 10 #[.agg #[.int .i64 S.s0, .bool S.t0, .int .i64 S.s1, .bool S.t1, .int .i64 S.s2, .bool S.t2, .int .i64 S.s3, .bool S.t3, .int .i64 S.hd, .int .u64 S.tu], .int .i64 1] w fun e w' => e = .returned (.agg #[.int .i64 T3.s0, .bool T3.t0, .int .i64 T3.s1, .bool T3.t1, .int .i64 T3.s2, .bool T3.t2, .int .i64 T3.s3, .bool T3.t3, .int .i64 T3.hd, .int .u64 T3.tu]) ∧ Below w.heap.size w w')
    (hrc : ∀ w : World, Calls Try.prog 7 #[.agg #[.int .i64 S.s0, .bool S.t0, .int .i64 S.s1, .bool S.t1, .int .i64 S.s2, .bool S.t2, .int .i64 S.s3, .bool S.t3, .int .i64 S.hd, .int .u64 S.tu], .int .i64 1, .agg #[.int .i64 0, .bool false]] w fun e w' => e = .returned (.agg #[.int .i64 T3.s0, .bool T3.t0, .int .i64 T3.s1, .bool T3.t1, .int .i64 T3.s2, .bool T3.t2, .int .i64 T3.s3, .bool T3.t3, .int .i64 T3.hd, .int .u64 T3.tu]) ∧ Below w.heap.size w w')
    (hp : ∀ w : World, Calls Try.prog 11 #[.agg #[.int .i64 S.s0, .bool S.t0, .int .i64 S.s1, .bool S.t1, .int .i64 S.s2, .bool S.t2, .int .i64 S.s3, .bool S.t3, .int .i64 S.hd, .int .u64 S.tu], .int .i64 slot] w fun e w' => e = .returned (.tuple #[.agg #[.int .i64 P.s0, .bool P.t0, .int .i64 P.s1, .bool P.t1, .int .i64 P.s2, .bool P.t2, .int .i64 P.s3, .bool P.t3, .int .i64 P.hd, .int .u64 P.tu], .int .i64 pi, .int .i64 was]) ∧ Below w.heap.size w w')
    (hrp : ∀ w : World, Calls Try.prog 12 #[.agg #[.int .i64 S.s0, .bool S.t0, .int .i64 S.s1, .bool S.t1, .int .i64 S.s2, .bool S.t2, .int .i64 S.s3, .bool S.t3, .int .i64 S.hd, .int .u64 S.tu], .int .i64 slot] w fun e w' => e = .returned (.tuple #[.agg #[.int .i64 P.s0, .bool P.t0, .int .i64 P.s1, .bool P.t1, .int .i64 P.s2, .bool P.t2, .int .i64 P.s3, .bool P.t3, .int .i64 P.hd, .int .u64 P.tu], .int .i64 pi, .int .i64 was]) ∧ Below w.heap.size w w') (w : World) :
    Calls Try.prog 3 #[.agg #[.int .i64 S.s0, .bool S.t0, .int .i64 S.s1, .bool S.t1, .int .i64 S.s2, .bool S.t2, .int .i64 S.s3, .bool S.t3, .int .i64 S.hd, .int .u64 S.tu], .int .i64 1, .int .i64 slot] w fun e w' => e = .returned (.bool true) ∧ Below w.heap.size w w' := by
  have n1 := neR T1
  have n2 := neR T2
  have n3 := neR T3
  have n4 := eqR P
  have g1 := to_any T1
  have g2 := to_any T2
  have g3 := to_any T3
  have g4 := to_any P
  have u1 : (pi == pi) = true := by simp
  have u2 : (was == was) = true := by simp
  go_enter Try.func3, Try.ntmps3
  go_wp2_with fail
  obtain ⟨W0, hW0, k0, k1, k2, k3, k4, k5, k6, k7, k8, k9, kb⟩ : ∃ W0, w.alloc (.cells #[.int .i64 S.s0, .bool S.t0, .int .i64 S.s1, .bool S.t1, .int .i64 S.s2, .bool S.t2, .int .i64 S.s3, .bool S.t3, .int .i64 S.hd, .int .u64 S.tu] 27) = W0 ∧ W0.cell? ⟨w.heap.size, 0, none⟩ = some (.int .i64 S.s0) ∧ W0.cell? ⟨w.heap.size, 1, none⟩ = some (.bool S.t0) ∧ W0.cell? ⟨w.heap.size, 2, none⟩ = some (.int .i64 S.s1) ∧ W0.cell? ⟨w.heap.size, 3, none⟩ = some (.bool S.t1) ∧ W0.cell? ⟨w.heap.size, 4, none⟩ = some (.int .i64 S.s2) ∧ W0.cell? ⟨w.heap.size, 5, none⟩ = some (.bool S.t2) ∧ W0.cell? ⟨w.heap.size, 6, none⟩ = some (.int .i64 S.s3) ∧ W0.cell? ⟨w.heap.size, 7, none⟩ = some (.bool S.t3) ∧ W0.cell? ⟨w.heap.size, 8, none⟩ = some (.int .i64 S.hd) ∧ W0.cell? ⟨w.heap.size, 9, none⟩ = some (.int .u64 S.tu) ∧ Below w.heap.size w W0 :=
    ⟨_, rfl, by go_simp, by go_simp, by go_simp, by go_simp, by go_simp, by go_simp, by go_simp, by go_simp, by go_simp, by go_simp, bnew (brefl w) _⟩
  rw [hW0]
  clear hW0
  generalize hBB : w.heap.size = B at *
  have HB := Lib.hid hBB
  clear hBB
  have hz0 : B < W0.heap.size := block_lt_of_cell k0
  refine (to_any S _).mono ?_
  rintro e w1 ⟨rfl, hb1⟩
  have k0 := keep_below k0 hb1
  have k1 := keep_below k1 hb1
  have k2 := keep_below k2 hb1
  have k3 := keep_below k3 hb1
  have k4 := keep_below k4 hb1
  have k5 := keep_below k5 hb1
  have k6 := keep_below k6 hb1
  have k7 := keep_below k7 hb1
  have k8 := keep_below k8 hb1
  have k9 := keep_below k9 hb1
  have kb1 : Below B w w1 := kb.trans (hb1.mono (by omega))
  have hz1 : B < w1.heap.size := block_lt_of_cell k0
  clear kb hb1 hz0
  go_upto_region 4 with (fail)
  obtain ⟨W2, hW2, k0, k1, k2, k3, k4, k5, k6, k7, k8, k9, x0, x1, x2, x3, x4, x5, x6, x7, x8, x9, y0, y1, y2, y3, y4, y5, y6, y7, y8, y9, f0, f1, f2, f3, f4, f5, f6, f7, f8, f9, kb2, hz2⟩ : ∃ W2, (w1.alloc (.cells #[.int .i64 S.s0, .bool S.t0, .int .i64 S.s1, .bool S.t1, .int .i64 S.s2, .bool S.t2, .int .i64 S.s3, .bool S.t3, .int .i64 S.hd, .int .u64 S.tu] 31)).alloc (.cells #[.int .i64 S.s0, .bool S.t0, .int .i64 S.s1, .bool S.t1, .int .i64 S.s2, .bool S.t2, .int .i64 S.s3, .bool S.t3, .int .i64 S.hd, .int .u64 S.tu] 31) = W2 ∧ W2.cell? ⟨B, 0, none⟩ = some (.int .i64 S.s0) ∧ W2.cell? ⟨B, 1, none⟩ = some (.bool S.t0) ∧ W2.cell? ⟨B, 2, none⟩ = some (.int .i64 S.s1) ∧ W2.cell? ⟨B, 3, none⟩ = some (.bool S.t1) ∧ W2.cell? ⟨B, 4, none⟩ = some (.int .i64 S.s2) ∧ W2.cell? ⟨B, 5, none⟩ = some (.bool S.t2) ∧ W2.cell? ⟨B, 6, none⟩ = some (.int .i64 S.s3) ∧ W2.cell? ⟨B, 7, none⟩ = some (.bool S.t3) ∧ W2.cell? ⟨B, 8, none⟩ = some (.int .i64 S.hd) ∧ W2.cell? ⟨B, 9, none⟩ = some (.int .u64 S.tu) ∧ W2.cell? ⟨w1.heap.size, 0, none⟩ = some (.int .i64 S.s0) ∧ W2.cell? ⟨w1.heap.size, 1, none⟩ = some (.bool S.t0) ∧ W2.cell? ⟨w1.heap.size, 2, none⟩ = some (.int .i64 S.s1) ∧ W2.cell? ⟨w1.heap.size, 3, none⟩ = some (.bool S.t1) ∧ W2.cell? ⟨w1.heap.size, 4, none⟩ = some (.int .i64 S.s2) ∧ W2.cell? ⟨w1.heap.size, 5, none⟩ = some (.bool S.t2) ∧ W2.cell? ⟨w1.heap.size, 6, none⟩ = some (.int .i64 S.s3) ∧ W2.cell? ⟨w1.heap.size, 7, none⟩ = some (.bool S.t3) ∧ W2.cell? ⟨w1.heap.size, 8, none⟩ = some (.int .i64 S.hd) ∧ W2.cell? ⟨w1.heap.size, 9, none⟩ = some (.int .u64 S.tu) ∧ W2.cell? ⟨w1.heap.size + 1, 0, none⟩ = some (.int .i64 S.s0) ∧ W2.cell? ⟨w1.heap.size + 1, 1, none⟩ = some (.bool S.t0) ∧ W2.cell? ⟨w1.heap.size + 1, 2, none⟩ = some (.int .i64 S.s1) ∧ W2.cell? ⟨w1.heap.size + 1, 3, none⟩ = some (.bool S.t1) ∧ W2.cell? ⟨w1.heap.size + 1, 4, none⟩ = some (.int .i64 S.s2) ∧ W2.cell? ⟨w1.heap.size + 1, 5, none⟩ = some (.bool S.t2) ∧ W2.cell? ⟨w1.heap.size + 1, 6, none⟩ = some (.int .i64 S.s3) ∧ W2.cell? ⟨w1.heap.size + 1, 7, none⟩ = some (.bool S.t3) ∧ W2.cell? ⟨w1.heap.size + 1, 8, none⟩ = some (.int .i64 S.hd) ∧ W2.cell? ⟨w1.heap.size + 1, 9, none⟩ = some (.int .u64 S.tu) ∧ W2.frozen? ⟨w1.heap.size + 1, 0, none⟩ = false ∧ W2.frozen? ⟨w1.heap.size + 1, 1, none⟩ = false ∧ W2.frozen? ⟨w1.heap.size + 1, 2, none⟩ = false ∧ W2.frozen? ⟨w1.heap.size + 1, 3, none⟩ = false ∧ W2.frozen? ⟨w1.heap.size + 1, 4, none⟩ = false ∧ W2.frozen? ⟨w1.heap.size + 1, 5, none⟩ = false ∧ W2.frozen? ⟨w1.heap.size + 1, 6, none⟩ = false ∧ W2.frozen? ⟨w1.heap.size + 1, 7, none⟩ = false ∧ W2.frozen? ⟨w1.heap.size + 1, 8, none⟩ = false ∧ W2.frozen? ⟨w1.heap.size + 1, 9, none⟩ = false ∧ Below B w W2 ∧ w1.heap.size + 1 < W2.heap.size :=
    ⟨_, rfl, keep_below (keep_below k0 (bnew (brefl _) _)) (bnew (brefl _) _), keep_below (keep_below k1 (bnew (brefl _) _)) (bnew (brefl _) _), keep_below (keep_below k2 (bnew (brefl _) _)) (bnew (brefl _) _), keep_below (keep_below k3 (bnew (brefl _) _)) (bnew (brefl _) _), keep_below (keep_below k4 (bnew (brefl _) _)) (bnew (brefl _) _), keep_below (keep_below k5 (bnew (brefl _) _)) (bnew (brefl _) _), keep_below (keep_below k6 (bnew (brefl _) _)) (bnew (brefl _) _), keep_below (keep_below k7 (bnew (brefl _) _)) (bnew (brefl _) _), keep_below (keep_below k8 (bnew (brefl _) _)) (bnew (brefl _) _), keep_below (keep_below k9 (bnew (brefl _) _)) (bnew (brefl _) _), by go_simp, by go_simp, by go_simp, by go_simp, by go_simp, by go_simp, by go_simp, by go_simp, by go_simp, by go_simp, by go_simp, by go_simp, by go_simp, by go_simp, by go_simp, by go_simp, by go_simp, by go_simp, by go_simp, by go_simp, by go_simp, by go_simp, by go_simp, by go_simp, by go_simp, by go_simp, by go_simp, by go_simp, by go_simp, by go_simp, (kb1.alloc (by omega) _).alloc (by simp; omega) _, by simp⟩
  rw [hW2]
  clear hW2 kb1
  generalize w1.heap.size = Q at *
  have hzB : B < W2.heap.size := block_lt_of_cell k0
  have hzQ : Q < W2.heap.size := block_lt_of_cell x0
  have hq1 : B ≠ Q + 1 := by omega
  have hq2 : Q ≠ Q + 1 := by omega
  have hX := @ExtK.cell (Q + 1) W2
  have hzz0 := block_lt_of_cell k0
  have hzz1 := block_lt_of_cell x0
  have hzz2 := block_lt_of_cell y0
  refine wp_region_noPanic ?_
  refine wp_region_tree (fun w' => ∃ x : ExtK (Q + 1) W2, w' = x.w) (PT.one [0, 1, 2, 3, 4, 5, 6, 7] 8 (PT.one [] 9 (PT.fin []))) (by kernel_rfl) (by kernel_rfl) (by kernel_rfl) (fun _ _ _ _ _ h => h) ⟨⟨_, (Keeps.refl _ W2).drew⟩, rfl⟩ ?_
  refine wpTree_one ?_
  simp only [pickOps, List.getElem?_cons_succ, List.getElem?_cons_zero, Option.elim_some]
  repeat (go_big_quiet_step (fail))
  refine wpQuiet_nil ?_
  refine planAct_some (fun K hK => ?_)
  go_simp
  refine (hrt _).mono ?_
  rintro e wa ⟨rfl, hba0⟩
  have hba := of_drew hba0
  have y0 := keep_below y0 hba
  have y1 := keep_below y1 hba
  have y2 := keep_below y2 hba
  have y3 := keep_below y3 hba
  have y4 := keep_below y4 hba
  have y5 := keep_below y5 hba
  have y6 := keep_below y6 hba
  have y7 := keep_below y7 hba
  have y8 := keep_below y8 hba
  have y9 := keep_below y9 hba
  have f0 := keep_frozen f0 hz2 hba
  have f1 := keep_frozen f1 hz2 hba
  have f2 := keep_frozen f2 hz2 hba
  have f3 := keep_frozen f3 hz2 hba
  have f4 := keep_frozen f4 hz2 hba
  have f5 := keep_frozen f5 hz2 hba
  have f6 := keep_frozen f6 hz2 hba
  have f7 := keep_frozen f7 hz2 hba
  have f8 := keep_frozen f8 hz2 hba
  have f9 := keep_frozen f9 hz2 hba
  have hza : Q + 1 < wa.heap.size := block_lt_of_cell y0
  go_wp2_with fail
  refine hK.out _ _ ⟨⟨_, ((Keeps.refl _ W2).drew.trans_ (Keeps.of_below hba0))⟩, rfl⟩ ?_
  clear hK K
  refine wpTree_one ?_
  simp only [pickOps, List.getElem?_cons_succ, List.getElem?_cons_zero, Option.elim_some]
  repeat (go_big_quiet_step (fail))
  refine wpQuiet_nil ?_
  refine planAct_some (fun K hK => ?_)
  go_simp
  refine hK.out _ _ (extk_mem (by repeat (first | (with_reducible exact ((Keeps.refl _ W2).drew.trans_ (Keeps.of_below hba0))) | (with_reducible exact Keeps.refl _ _) | (with_reducible refine keepq_set ?_) | (with_reducible refine keepq_drew ?_)))) ?_
  clear hK K
  refine wpTree_fin ?_
  simp only [pickOps, List.getElem?_cons_succ, List.getElem?_cons_zero, Option.elim_some]
  repeat (go_big_quiet_step (fail))
  refine wpQuiet_nil ?_
  refine NoPanic.normal ?_
  clear hX hzz0 hzz1 hzz2
  obtain ⟨W3, hW3, k0, k1, k2, k3, k4, k5, k6, k7, k8, k9, x0, x1, x2, x3, x4, x5, x6, x7, x8, x9, y0, y1, y2, y3, y4, y5, y6, y7, y8, y9, kb3⟩ : ∃ W3, ((((((((((wa.setCell ⟨Q + 1, 0, none⟩ (.int .i64 T1.s0)).setCell ⟨Q + 1, 1, none⟩ (.bool T1.t0)).setCell ⟨Q + 1, 2, none⟩ (.int .i64 T1.s1)).setCell ⟨Q + 1, 3, none⟩ (.bool T1.t1)).setCell ⟨Q + 1, 4, none⟩ (.int .i64 T1.s2)).setCell ⟨Q + 1, 5, none⟩ (.bool T1.t2)).setCell ⟨Q + 1, 6, none⟩ (.int .i64 T1.s3)).setCell ⟨Q + 1, 7, none⟩ (.bool T1.t3)).setCell ⟨Q + 1, 8, none⟩ (.int .i64 T1.hd)).setCell ⟨Q + 1, 9, none⟩ (.int .u64 T1.tu)) = W3 ∧ W3.cell? ⟨B, 0, none⟩ = some (.int .i64 S.s0) ∧ W3.cell? ⟨B, 1, none⟩ = some (.bool S.t0) ∧ W3.cell? ⟨B, 2, none⟩ = some (.int .i64 S.s1) ∧ W3.cell? ⟨B, 3, none⟩ = some (.bool S.t1) ∧ W3.cell? ⟨B, 4, none⟩ = some (.int .i64 S.s2) ∧ W3.cell? ⟨B, 5, none⟩ = some (.bool S.t2) ∧ W3.cell? ⟨B, 6, none⟩ = some (.int .i64 S.s3) ∧ W3.cell? ⟨B, 7, none⟩ = some (.bool S.t3) ∧ W3.cell? ⟨B, 8, none⟩ = some (.int .i64 S.hd) ∧ W3.cell? ⟨B, 9, none⟩ = some (.int .u64 S.tu) ∧ W3.cell? ⟨Q, 0, none⟩ = some (.int .i64 S.s0) ∧ W3.cell? ⟨Q, 1, none⟩ = some (.bool S.t0) ∧ W3.cell? ⟨Q, 2, none⟩ = some (.int .i64 S.s1) ∧ W3.cell? ⟨Q, 3, none⟩ = some (.bool S.t1) ∧ W3.cell? ⟨Q, 4, none⟩ = some (.int .i64 S.s2) ∧ W3.cell? ⟨Q, 5, none⟩ = some (.bool S.t2) ∧ W3.cell? ⟨Q, 6, none⟩ = some (.int .i64 S.s3) ∧ W3.cell? ⟨Q, 7, none⟩ = some (.bool S.t3) ∧ W3.cell? ⟨Q, 8, none⟩ = some (.int .i64 S.hd) ∧ W3.cell? ⟨Q, 9, none⟩ = some (.int .u64 S.tu) ∧ W3.cell? ⟨Q + 1, 0, none⟩ = some (.int .i64 T1.s0) ∧ W3.cell? ⟨Q + 1, 1, none⟩ = some (.bool T1.t0) ∧ W3.cell? ⟨Q + 1, 2, none⟩ = some (.int .i64 T1.s1) ∧ W3.cell? ⟨Q + 1, 3, none⟩ = some (.bool T1.t1) ∧ W3.cell? ⟨Q + 1, 4, none⟩ = some (.int .i64 T1.s2) ∧ W3.cell? ⟨Q + 1, 5, none⟩ = some (.bool T1.t2) ∧ W3.cell? ⟨Q + 1, 6, none⟩ = some (.int .i64 T1.s3) ∧ W3.cell? ⟨Q + 1, 7, none⟩ = some (.bool T1.t3) ∧ W3.cell? ⟨Q + 1, 8, none⟩ = some (.int .i64 T1.hd) ∧ W3.cell? ⟨Q + 1, 9, none⟩ = some (.int .u64 T1.tu) ∧ Below B w W3 := by
    have kba : Below B w wa := kb2.trans (hba.mono (by omega))
    have k0 := keep_below k0 hba
    have k1 := keep_below k1 hba
    have k2 := keep_below k2 hba
    have k3 := keep_below k3 hba
    have k4 := keep_below k4 hba
    have k5 := keep_below k5 hba
    have k6 := keep_below k6 hba
    have k7 := keep_below k7 hba
    have k8 := keep_below k8 hba
    have k9 := keep_below k9 hba
    have x0 := keep_below x0 hba
    have x1 := keep_below x1 hba
    have x2 := keep_below x2 hba
    have x3 := keep_below x3 hba
    have x4 := keep_below x4 hba
    have x5 := keep_below x5 hba
    have x6 := keep_below x6 hba
    have x7 := keep_below x7 hba
    have x8 := keep_below x8 hba
    have x9 := keep_below x9 hba
    exact ⟨_, rfl, by go_simp, by go_simp, by go_simp, by go_simp, by go_simp, by go_simp, by go_simp, by go_simp, by go_simp, by go_simp, by go_simp, by go_simp, by go_simp, by go_simp, by go_simp, by go_simp, by go_simp, by go_simp, by go_simp, by go_simp, by go_simp, by go_simp, by go_simp, by go_simp, by go_simp, by go_simp, by go_simp, by go_simp, by go_simp, by go_simp, by repeat (first | (with_reducible exact kba) | (with_reducible refine Below.setCell ?_ (by simp <;> omega) _))⟩
  rw [hW3]
  clear hW3 kb2 hba hba0 hq1 hq2 hza hzB hzQ hz2
  have hzB : B < W3.heap.size := block_lt_of_cell k0
  go_upto_region 5 with (fail)
  go_cut [62] (fun v w' => v = .bool false ∧ Below W3.heap.size W3 w')
  case first =>
    have hX := @Ext.cell W3
    have hzz0 := block_lt_of_cell k0
    have hzz1 := block_lt_of_cell x0
    have hzz2 := block_lt_of_cell y0
    refine wp_region_noPanic ?_
    refine wp_region_tree (fun w' => ∃ x : Ext W3, w' = x.w) (PT.one [0, 1, 4] 2 (PT.one [] 3 (PT.one [5, 6, 7, 8, 9, 12, 13, 14, 15] 10 (PT.one [] 11 (PT.one [] 16 (PT.one [17, 18, 19, 20, 21, 24, 25, 26] 22 (PT.one [] 23 (PT.one [] 27 (PT.fin [28, 29]))))))))) (by kernel_rfl) (by kernel_rfl) (by kernel_rfl) (fun _ _ _ _ _ h => h) ⟨⟨_, (brefl W3).drew⟩, rfl⟩ ?_
    refine wpTree_one ?_
    simp only [pickOps, List.getElem?_cons_succ, List.getElem?_cons_zero, Option.elim_some]
    repeat (go_big_quiet_step (fail))
    refine wpQuiet_nil ?_
    refine planAct_some (fun K hK => ?_)
    go_simp
    refine (ht _).mono ?_
    rintro e v1 ⟨rfl, a1⟩
    go_wp2_with fail
    refine hK.out _ _ ⟨⟨_, (bnext (brefl W3).drew a1)⟩, rfl⟩ ?_
    clear hK K
    refine wpTree_one ?_
    simp only [pickOps, List.getElem?_cons_succ, List.getElem?_cons_zero, Option.elim_some]
    repeat (go_big_quiet_step (fail))
    refine wpQuiet_nil ?_
    refine planAct_some (fun K hK => ?_)
    go_simp
    refine (g1 _).mono ?_
    rintro e v2 ⟨rfl, a2⟩
    go_wp2_with fail
    refine hK.out _ _ ⟨⟨_, (bnext (bnext (brefl W3).drew a1) a2)⟩, rfl⟩ ?_
    clear hK K
    refine wpTree_one ?_
    simp only [pickOps, List.getElem?_cons_succ, List.getElem?_cons_zero, Option.elim_some]
    repeat (go_big_quiet_step (fail))
    refine wpQuiet_nil ?_
    refine planAct_some (fun K hK => ?_)
    go_simp
    refine (hs _).mono ?_
    rintro e v3 ⟨rfl, a3⟩
    go_wp2_with fail
    refine hK.out _ _ ⟨⟨_, (bnext (bnext (bnext (brefl W3).drew a1) a2) a3)⟩, rfl⟩ ?_
    clear hK K
    refine wpTree_one ?_
    simp only [pickOps, List.getElem?_cons_succ, List.getElem?_cons_zero, Option.elim_some]
    repeat (go_big_quiet_step (fail))
    refine wpQuiet_nil ?_
    refine planAct_some (fun K hK => ?_)
    go_simp
    refine (g2 _).mono ?_
    rintro e v4 ⟨rfl, a4⟩
    go_wp2_with fail
    refine hK.out _ _ ⟨⟨_, (bnext (bnext (bnext (bnext (brefl W3).drew a1) a2) a3) a4)⟩, rfl⟩ ?_
    clear hK K
    refine wpTree_one ?_
    simp only [pickOps, List.getElem?_cons_succ, List.getElem?_cons_zero, Option.elim_some]
    repeat (go_big_quiet_step (fail))
    refine wpQuiet_nil ?_
    refine planAct_some (fun K hK => ?_)
    go_simp
    refine (hrs _).mono ?_
    rintro e v5 ⟨rfl, a5⟩
    go_wp2_with fail
    refine hK.out _ _ ⟨⟨_, (bnext (bnext (bnext (bnext (bnext (brefl W3).drew a1) a2) a3) a4) a5)⟩, rfl⟩ ?_
    clear hK K
    refine wpTree_one ?_
    simp only [pickOps, List.getElem?_cons_succ, List.getElem?_cons_zero, Option.elim_some]
    repeat (go_big_quiet_step (fail))
    refine wpQuiet_nil ?_
    refine planAct_some (fun K hK => ?_)
    go_simp
    refine (hc _).mono ?_
    rintro e v6 ⟨rfl, a6⟩
    go_wp2_with fail
    refine hK.out _ _ ⟨⟨_, (bnext (bnext (bnext (bnext (bnext (bnext (brefl W3).drew a1) a2) a3) a4) a5) a6)⟩, rfl⟩ ?_
    clear hK K
    refine wpTree_one ?_
    simp only [pickOps, List.getElem?_cons_succ, List.getElem?_cons_zero, Option.elim_some]
    repeat (go_big_quiet_step (fail))
    refine wpQuiet_nil ?_
    refine planAct_some (fun K hK => ?_)
    go_simp
    refine (g3 _).mono ?_
    rintro e v7 ⟨rfl, a7⟩
    go_wp2_with fail
    refine hK.out _ _ ⟨⟨_, (bnext (bnext (bnext (bnext (bnext (bnext (bnext (brefl W3).drew a1) a2) a3) a4) a5) a6) a7)⟩, rfl⟩ ?_
    clear hK K
    refine wpTree_one ?_
    simp only [pickOps, List.getElem?_cons_succ, List.getElem?_cons_zero, Option.elim_some]
    repeat (go_big_quiet_step (fail))
    refine wpQuiet_nil ?_
    refine planAct_some (fun K hK => ?_)
    go_simp
    refine (hrc _).mono ?_
    rintro e v8 ⟨rfl, a8⟩
    go_wp2_with fail
    refine hK.out _ _ ⟨⟨_, (bnext (bnext (bnext (bnext (bnext (bnext (bnext (bnext (brefl W3).drew a1) a2) a3) a4) a5) a6) a7) a8)⟩, rfl⟩ ?_
    clear hK K
    refine wpTree_fin ?_
    simp only [pickOps, List.getElem?_cons_succ, List.getElem?_cons_zero, Option.elim_some]
    repeat (go_big_quiet_step (fail))
    refine wpQuiet_nil ?_
    refine NoPanic.normal ?_
    clear hX hzz0 hzz1 hzz2
    go_wp2_with fail
    go_meet
    case rel => exact ⟨rfl, (bnext (bnext (bnext (bnext (bnext (bnext (bnext (bnext (brefl W3).drew a1) a2) a3) a4) a5) a6) a7) a8)⟩
  case rest =>
  obtain ⟨rfl, hcut⟩ := hcut
  have k0 := keep_below k0 hcut
  have k1 := keep_below k1 hcut
  have k2 := keep_below k2 hcut
  have k3 := keep_below k3 hcut
  have k4 := keep_below k4 hcut
  have k5 := keep_below k5 hcut
  have k6 := keep_below k6 hcut
  have k7 := keep_below k7 hcut
  have k8 := keep_below k8 hcut
  have k9 := keep_below k9 hcut
  have x0 := keep_below x0 hcut
  have x1 := keep_below x1 hcut
  have x2 := keep_below x2 hcut
  have x3 := keep_below x3 hcut
  have x4 := keep_below x4 hcut
  have x5 := keep_below x5 hcut
  have x6 := keep_below x6 hcut
  have x7 := keep_below x7 hcut
  have x8 := keep_below x8 hcut
  have x9 := keep_below x9 hcut
  have kb5 : Below B w wc := kb3.trans (hcut.mono (by omega))
  have hzB5 : B < wc.heap.size := block_lt_of_cell k0
  have hzQ5 := block_lt_of_cell x0
  clear y0 y1 y2 y3 y4 y5 y6 y7 y8 y9 hcut kb3
  go_wp2_with fail
  refine (hp _).mono ?_
  rintro e w6 ⟨rfl, hb6⟩
  have x0 := keep_below x0 hb6
  have x1 := keep_below x1 hb6
  have x2 := keep_below x2 hb6
  have x3 := keep_below x3 hb6
  have x4 := keep_below x4 hb6
  have x5 := keep_below x5 hb6
  have x6 := keep_below x6 hb6
  have x7 := keep_below x7 hb6
  have x8 := keep_below x8 hb6
  have x9 := keep_below x9 hb6
  have kb6 : Below B w w6 := kb5.trans (hb6.mono (by omega))
  have hzB6 : B < w6.heap.size := by have := hb6.size; omega
  clear kb5 hb6 k0 k1 k2 k3 k4 k5 k6 k7 k8 k9 hzQ5
  go_upto_region 8 with (fail)
  obtain ⟨W7, hW7, x0, x1, x2, x3, x4, x5, x6, x7, x8, x9, y0, y1, y2, y3, y4, y5, y6, y7, y8, y9, kb7, hzB7⟩ : ∃ W7, w6.alloc (.cells #[.int .i64 P.s0, .bool P.t0, .int .i64 P.s1, .bool P.t1, .int .i64 P.s2, .bool P.t2, .int .i64 P.s3, .bool P.t3, .int .i64 P.hd, .int .u64 P.tu] 27) = W7 ∧ W7.cell? ⟨Q, 0, none⟩ = some (.int .i64 S.s0) ∧ W7.cell? ⟨Q, 1, none⟩ = some (.bool S.t0) ∧ W7.cell? ⟨Q, 2, none⟩ = some (.int .i64 S.s1) ∧ W7.cell? ⟨Q, 3, none⟩ = some (.bool S.t1) ∧ W7.cell? ⟨Q, 4, none⟩ = some (.int .i64 S.s2) ∧ W7.cell? ⟨Q, 5, none⟩ = some (.bool S.t2) ∧ W7.cell? ⟨Q, 6, none⟩ = some (.int .i64 S.s3) ∧ W7.cell? ⟨Q, 7, none⟩ = some (.bool S.t3) ∧ W7.cell? ⟨Q, 8, none⟩ = some (.int .i64 S.hd) ∧ W7.cell? ⟨Q, 9, none⟩ = some (.int .u64 S.tu) ∧ W7.cell? ⟨w6.heap.size, 0, none⟩ = some (.int .i64 P.s0) ∧ W7.cell? ⟨w6.heap.size, 1, none⟩ = some (.bool P.t0) ∧ W7.cell? ⟨w6.heap.size, 2, none⟩ = some (.int .i64 P.s1) ∧ W7.cell? ⟨w6.heap.size, 3, none⟩ = some (.bool P.t1) ∧ W7.cell? ⟨w6.heap.size, 4, none⟩ = some (.int .i64 P.s2) ∧ W7.cell? ⟨w6.heap.size, 5, none⟩ = some (.bool P.t2) ∧ W7.cell? ⟨w6.heap.size, 6, none⟩ = some (.int .i64 P.s3) ∧ W7.cell? ⟨w6.heap.size, 7, none⟩ = some (.bool P.t3) ∧ W7.cell? ⟨w6.heap.size, 8, none⟩ = some (.int .i64 P.hd) ∧ W7.cell? ⟨w6.heap.size, 9, none⟩ = some (.int .u64 P.tu) ∧ Below B w W7 ∧ B < W7.heap.size :=
    ⟨_, rfl, keep_below x0 (bnew (brefl _) _), keep_below x1 (bnew (brefl _) _), keep_below x2 (bnew (brefl _) _), keep_below x3 (bnew (brefl _) _), keep_below x4 (bnew (brefl _) _), keep_below x5 (bnew (brefl _) _), keep_below x6 (bnew (brefl _) _), keep_below x7 (bnew (brefl _) _), keep_below x8 (bnew (brefl _) _), keep_below x9 (bnew (brefl _) _), by go_simp, by go_simp, by go_simp, by go_simp, by go_simp, by go_simp, by go_simp, by go_simp, by go_simp, by go_simp, kb6.alloc (by omega) _, by simp; omega⟩
  rw [hW7]
  clear hW7 kb6
  generalize w6.heap.size = Q7 at *
  have hzQ7 := block_lt_of_cell x0
  go_wp2_with fail
  refine (hrp _).mono ?_
  rintro e w8 ⟨rfl, hb8⟩
  have y0 := keep_below y0 hb8
  have y1 := keep_below y1 hb8
  have y2 := keep_below y2 hb8
  have y3 := keep_below y3 hb8
  have y4 := keep_below y4 hb8
  have y5 := keep_below y5 hb8
  have y6 := keep_below y6 hb8
  have y7 := keep_below y7 hb8
  have y8 := keep_below y8 hb8
  have y9 := keep_below y9 hb8
  have kb8 : Below B w w8 := kb7.trans (hb8.mono (by omega))
  have hzB8 : B < w8.heap.size := by have := hb8.size; omega
  clear kb7 hb8 x0 x1 x2 x3 x4 x5 x6 x7 x8 x9 hzQ7
  go_upto_region 9 with (fail)
  obtain ⟨W9, hW9, x0, x1, x2, x3, x4, x5, x6, x7, x8, x9, y0, y1, y2, y3, y4, y5, y6, y7, y8, y9, kb9, hzB9⟩ : ∃ W9, w8.alloc (.cells #[.int .i64 P.s0, .bool P.t0, .int .i64 P.s1, .bool P.t1, .int .i64 P.s2, .bool P.t2, .int .i64 P.s3, .bool P.t3, .int .i64 P.hd, .int .u64 P.tu] 31) = W9 ∧ W9.cell? ⟨w8.heap.size, 0, none⟩ = some (.int .i64 P.s0) ∧ W9.cell? ⟨w8.heap.size, 1, none⟩ = some (.bool P.t0) ∧ W9.cell? ⟨w8.heap.size, 2, none⟩ = some (.int .i64 P.s1) ∧ W9.cell? ⟨w8.heap.size, 3, none⟩ = some (.bool P.t1) ∧ W9.cell? ⟨w8.heap.size, 4, none⟩ = some (.int .i64 P.s2) ∧ W9.cell? ⟨w8.heap.size, 5, none⟩ = some (.bool P.t2) ∧ W9.cell? ⟨w8.heap.size, 6, none⟩ = some (.int .i64 P.s3) ∧ W9.cell? ⟨w8.heap.size, 7, none⟩ = some (.bool P.t3) ∧ W9.cell? ⟨w8.heap.size, 8, none⟩ = some (.int .i64 P.hd) ∧ W9.cell? ⟨w8.heap.size, 9, none⟩ = some (.int .u64 P.tu) ∧ W9.cell? ⟨Q7, 0, none⟩ = some (.int .i64 P.s0) ∧ W9.cell? ⟨Q7, 1, none⟩ = some (.bool P.t0) ∧ W9.cell? ⟨Q7, 2, none⟩ = some (.int .i64 P.s1) ∧ W9.cell? ⟨Q7, 3, none⟩ = some (.bool P.t1) ∧ W9.cell? ⟨Q7, 4, none⟩ = some (.int .i64 P.s2) ∧ W9.cell? ⟨Q7, 5, none⟩ = some (.bool P.t2) ∧ W9.cell? ⟨Q7, 6, none⟩ = some (.int .i64 P.s3) ∧ W9.cell? ⟨Q7, 7, none⟩ = some (.bool P.t3) ∧ W9.cell? ⟨Q7, 8, none⟩ = some (.int .i64 P.hd) ∧ W9.cell? ⟨Q7, 9, none⟩ = some (.int .u64 P.tu) ∧ Below B w W9 ∧ B < W9.heap.size :=
    ⟨_, rfl, by go_simp, by go_simp, by go_simp, by go_simp, by go_simp, by go_simp, by go_simp, by go_simp, by go_simp, by go_simp, keep_below y0 (bnew (brefl _) _), keep_below y1 (bnew (brefl _) _), keep_below y2 (bnew (brefl _) _), keep_below y3 (bnew (brefl _) _), keep_below y4 (bnew (brefl _) _), keep_below y5 (bnew (brefl _) _), keep_below y6 (bnew (brefl _) _), keep_below y7 (bnew (brefl _) _), keep_below y8 (bnew (brefl _) _), keep_below y9 (bnew (brefl _) _), kb8.alloc (by omega) _, by simp; omega⟩
  rw [hW9]
  clear hW9 kb8
  generalize w8.heap.size = Q9 at *
  have hX := @Ext.cell W9
  have hzz0 := block_lt_of_cell x0
  have hzz1 := block_lt_of_cell y0
  refine wp_region_noPanic ?_
  refine wp_region_plan (fun w' => ∃ x : Ext W9, w' = x.w) [([0, 2], 1), ([3, 4, 5, 6, 7, 8, 9, 10, 11, 12, 13, 14], 15)] [16, 17] (by kernel_rfl) (by kernel_rfl) (by kernel_rfl) (fun _ _ _ _ _ h => h) ⟨⟨_, (brefl W9).drew⟩, rfl⟩ ?_
  refine wpPlan_cons ?_
  simp only [pickOps, List.getElem?_cons_succ, List.getElem?_cons_zero, Option.elim_some]
  repeat (go_big_quiet_step (fail))
  refine wpQuiet_nil ?_
  refine planAct_some (fun K hK => ?_)
  go_simp
  refine (g4 _).mono ?_
  rintro e w10 ⟨rfl, h10⟩
  go_wp2_with fail
  refine hK.out _ _ ⟨⟨_, (bnext (brefl W9).drew h10)⟩, rfl⟩ ?_
  clear hK K
  refine wpPlan_cons ?_
  simp only [pickOps, List.getElem?_cons_succ, List.getElem?_cons_zero, Option.elim_some]
  repeat (go_big_quiet_step (fail))
  refine wpQuiet_nil ?_
  refine planAct_some (fun K hK => ?_)
  go_simp
  refine (lives11 _).mono ?_
  rintro e w11 ⟨rfl, h11⟩
  go_wp2_with fail
  refine hK.out _ _ ⟨⟨_, (bnext (bnext (brefl W9).drew h10) h11)⟩, rfl⟩ ?_
  clear hK K
  refine wpPlan_last ?_
  simp only [pickOps, List.getElem?_cons_succ, List.getElem?_cons_zero, Option.elim_some]
  repeat (go_big_quiet_step (fail))
  refine wpQuiet_nil ?_
  refine NoPanic.normal ?_
  clear hX hzz0 hzz1
  go_wp2
  go_ret
  exact ⟨rfl, by rw [HB.out]; exact kb9.trans ((bnext (bnext (brefl W9).drew h10) h11).mono (by omega))⟩

set_option maxHeartbeats 8000000 in
set_option maxRecDepth 100000 in
theorem turn_2 (S : WS)  (slot : Int) (T1 T2 T3 P : WS) (pi : Int) (was : Int) 
    (ht : ∀ w : World, Calls Try.prog 8 #[.agg #[.int .i64 S.s0, .bool S.t0, .int .i64 S.s1, .bool S.t1, .int .i64 S.s2, .bool S.t2, .int .i64 S.s3, .bool S.t3, .int .i64 S.hd, .int .u64 S.tu], .int .i64 2] w fun e w' => e = .returned (.agg #[.int .i64 T1.s0, .bool T1.t0, .int .i64 T1.s1, .bool T1.t1, .int .i64 T1.s2, .bool T1.t2, .int .i64 T1.s3, .bool T1.t3, .int .i64 T1.hd, .int .u64 T1.tu]) ∧ Below w.heap.size w w')
    (hrt : ∀ w : World, Calls Try.prog 7 #[.agg #[.int .i64 S.s0, .bool S.t0, .int .i64 S.s1, .bool S.t1, .int .i64 S.s2, .bool S.t2, .int .i64 S.s3, .bool S.t3, .int .i64 S.hd, .int .u64 S.tu], .int .i64 2, .agg #[.int .i64 S.s2, .bool true]] w fun e w' => e = .returned (.agg #[.int .i64 T1.s0, .bool T1.t0, .int .i64 T1.s1, .bool T1.t1, .int .i64 T1.s2, .bool T1.t2, .int .i64 T1.s3, .bool T1.t3, .int .i64 T1.hd, .int .u64 T1.tu]) ∧ Below w.heap.size w w')
    (hs : ∀ w : World, Calls Try.prog 9 #[.agg #[.int .i64 S.s0, .bool S.t0, .int .i64 S.s1, .bool S.t1, .int .i64 S.s2, .bool S.t2, .int .i64 S.s3, .bool S.t3, .int .i64 S.hd, .int .u64 S.tu], .int .i64 2, .int .i64 slot] w fun e w' => e = .returned (.agg #[.int .i64 T2.s0, .bool T2.t0, .int .i64 T2.s1, .bool T2.t1, .int .i64 T2.s2, .bool T2.t2, .int .i64 T2.s3, .bool T2.t3, .int .i64 T2.hd, .int .u64 T2.tu]) ∧ Below w.heap.size w w')
    (hrs : ∀ w : World, Calls Try.prog 7 #[.agg #[.int .i64 S.s0, .bool S.t0, .int .i64 S.s1, .bool S.t1, .int .i64 S.s2, .bool S.t2, .int .i64 S.s3, .bool S.t3, .int .i64 S.hd, .int .u64 S.tu], .int .i64 2, .agg #[.int .i64 slot, .bool true]] w fun e w' => e = .returned (.agg #[.int .i64 T2.s0, .bool T2.t0, .int .i64 T2.s1, .bool T2.t1, .int .i64 T2.s2, .bool T2.t2, .int .i64 T2.s3, .bool T2.t3, .int .i64 T2.hd, .int .u64 T2.tu]) ∧ Below w.heap.size w w')
    (hc : ∀ w : World, Calls Try.prog 10 #[.agg #[.int .i64 S.s0, .bool S.t0, .int .i64 S.s1, .bool S.t1, .int .i64 S.s2, .bool S.t2, .int .i64 S.s3, .bool S.t3, .int .i64 S.hd, .int .u64 S.tu], .int .i64 2] w fun e w' => e = .returned (.agg #[.int .i64 T3.s0, .bool T3.t0, .int .i64 T3.s1, .bool T3.t1, .int .i64 T3.s2, .bool T3.t2, .int .i64 T3.s3, .bool T3.t3, .int .i64 T3.hd, .int .u64 T3.tu]) ∧ Below w.heap.size w w')
    (hrc : ∀ w : World, Calls Try.prog 7 #[.agg #[.int .i64 S.s0, .bool S.t0, .int .i64 S.s1, .bool S.t1, .int .i64 S.s2, .bool S.t2, .int .i64 S.s3, .bool S.t3, .int .i64 S.hd, .int .u64 S.tu], .int .i64 2, .agg #[.int .i64 0, .bool false]] w fun e w' => e = .returned (.agg #[.int .i64 T3.s0, .bool T3.t0, .int .i64 T3.s1, .bool T3.t1, .int .i64 T3.s2, .bool T3.t2, .int .i64 T3.s3, .bool T3.t3, .int .i64 T3.hd, .int .u64 T3.tu]) ∧ Below w.heap.size w w')
    (hp : ∀ w : World, Calls Try.prog 11 #[.agg #[.int .i64 S.s0, .bool S.t0, .int .i64 S.s1, .bool S.t1, .int .i64 S.s2, .bool S.t2, .int .i64 S.s3, .bool S.t3, .int .i64 S.hd, .int .u64 S.tu], .int .i64 slot] w fun e w' => e = .returned (.tuple #[.agg #[.int .i64 P.s0, .bool P.t0, .int .i64 P.s1, .bool P.t1, .int .i64 P.s2, .bool P.t2, .int .i64 P.s3, .bool P.t3, .int .i64 P.hd, .int .u64 P.tu], .int .i64 pi, .int .i64 was]) ∧ Below w.heap.size w w')
    (hrp : ∀ w : World, Calls Try.prog 12 #[.agg #[.int .i64 S.s0, .bool S.t0, .int .i64 S.s1, .bool S.t1, .int .i64 S.s2, .bool S.t2, .int .i64 S.s3, .bool S.t3, .int .i64 S.hd, .int .u64 S.tu], .int .i64 slot] w fun e w' => e = .returned (.tuple #[.agg #[.int .i64 P.s0, .bool P.t0, .int .i64 P.s1, .bool P.t1, .int .i64 P.s2, .bool P.t2, .int .i64 P.s3, .bool P.t3, .int .i64 P.hd, .int .u64 P.tu], .int .i64 pi, .int .i64 was]) ∧ Below w.heap.size w w') (w : World) :
    Calls Try.prog 3 #[.agg #[.int .i64 S.s0, .bool S.t0, .int .i64 S.s1, .bool S.t1, .int .i64 S.s2, .bool S.t2, .int .i64 S.s3, .bool S.t3, .int .i64 S.hd, .int .u64 S.tu], .int .i64 2, .int .i64 slot] w fun e w' => e = .returned (.bool true) ∧ Below w.heap.size w w' := by
  have n1 := neR T1
  have n2 := neR T2
  have n3 := neR T3
  have n4 := eqR P
  have g1 := to_any T1
  have g2 := to_any T2
  have g3 := to_any T3
  have g4 := to_any P
  have u1 : (pi == pi) = true := by simp
  have u2 : (was == was) = true := by simp
  go_enter Try.func3, Try.ntmps3
  go_wp2_with fail
  obtain ⟨W0, hW0, k0, k1, k2, k3, k4, k5, k6, k7, k8, k9, kb⟩ : ∃ W0, w.alloc (.cells #[.int .i64 S.s0, .bool S.t0, .int .i64 S.s1, .bool S.t1, .int .i64 S.s2, .bool S.t2, .int .i64 S.s3, .bool S.t3, .int .i64 S.hd, .int .u64 S.tu] 27) = W0 ∧ W0.cell? ⟨w.heap.size, 0, none⟩ = some (.int .i64 S.s0) ∧ W0.cell? ⟨w.heap.size, 1, none⟩ = some (.bool S.t0) ∧ W0.cell? ⟨w.heap.size, 2, none⟩ = some (.int .i64 S.s1) ∧ W0.cell? ⟨w.heap.size, 3, none⟩ = some (.bool S.t1) ∧ W0.cell? ⟨w.heap.size, 4, none⟩ = some (.int .i64 S.s2) ∧ W0.cell? ⟨w.heap.size, 5, none⟩ = some (.bool S.t2) ∧ W0.cell? ⟨w.heap.size, 6, none⟩ = some (.int .i64 S.s3) ∧ W0.cell? ⟨w.heap.size, 7, none⟩ = some (.bool S.t3) ∧ W0.cell? ⟨w.heap.size, 8, none⟩ = some (.int .i64 S.hd) ∧ W0.cell? ⟨w.heap.size, 9, none⟩ = some (.int .u64 S.tu) ∧ Below w.heap.size w W0 :=
    ⟨_, rfl, by go_simp, by go_simp, by go_simp, by go_simp, by go_simp, by go_simp, by go_simp, by go_simp, by go_simp, by go_simp, bnew (brefl w) _⟩
  rw [hW0]
  clear hW0
  generalize hBB : w.heap.size = B at *
  have HB := Lib.hid hBB
  clear hBB
  have hz0 : B < W0.heap.size := block_lt_of_cell k0
  refine (to_any S _).mono ?_
  rintro e w1 ⟨rfl, hb1⟩
  have k0 := keep_below k0 hb1
  have k1 := keep_below k1 hb1
  have k2 := keep_below k2 hb1
  have k3 := keep_below k3 hb1
  have k4 := keep_below k4 hb1
  have k5 := keep_below k5 hb1
  have k6 := keep_below k6 hb1
  have k7 := keep_below k7 hb1
  have k8 := keep_below k8 hb1
  have k9 := keep_below k9 hb1
  have kb1 : Below B w w1 := kb.trans (hb1.mono (by omega))
  have hz1 : B < w1.heap.size := block_lt_of_cell k0
  clear kb hb1 hz0
  go_upto_region 4 with (fail)
  obtain ⟨W2, hW2, k0, k1, k2, k3, k4, k5, k6, k7, k8, k9, x0, x1, x2, x3, x4, x5, x6, x7, x8, x9, y0, y1, y2, y3, y4, y5, y6, y7, y8, y9, f0, f1, f2, f3, f4, f5, f6, f7, f8, f9, kb2, hz2⟩ : ∃ W2, (w1.alloc (.cells #[.int .i64 S.s0, .bool S.t0, .int .i64 S.s1, .bool S.t1, .int .i64 S.s2, .bool S.t2, .int .i64 S.s3, .bool S.t3, .int .i64 S.hd, .int .u64 S.tu] 31)).alloc (.cells #[.int .i64 S.s0, .bool S.t0, .int .i64 S.s1, .bool S.t1, .int .i64 S.s2, .bool S.t2, .int .i64 S.s3, .bool S.t3, .int .i64 S.hd, .int .u64 S.tu] 31) = W2 ∧ W2.cell? ⟨B, 0, none⟩ = some (.int .i64 S.s0) ∧ W2.cell? ⟨B, 1, none⟩ = some (.bool S.t0) ∧ W2.cell? ⟨B, 2, none⟩ = some (.int .i64 S.s1) ∧ W2.cell? ⟨B, 3, none⟩ = some (.bool S.t1) ∧ W2.cell? ⟨B, 4, none⟩ = some (.int .i64 S.s2) ∧ W2.cell? ⟨B, 5, none⟩ = some (.bool S.t2) ∧ W2.cell? ⟨B, 6, none⟩ = some (.int .i64 S.s3) ∧ W2.cell? ⟨B, 7, none⟩ = some (.bool S.t3) ∧ W2.cell? ⟨B, 8, none⟩ = some (.int .i64 S.hd) ∧ W2.cell? ⟨B, 9, none⟩ = some (.int .u64 S.tu) ∧ W2.cell? ⟨w1.heap.size, 0, none⟩ = some (.int .i64 S.s0) ∧ W2.cell? ⟨w1.heap.size, 1, none⟩ = some (.bool S.t0) ∧ W2.cell? ⟨w1.heap.size, 2, none⟩ = some (.int .i64 S.s1) ∧ W2.cell? ⟨w1.heap.size, 3, none⟩ = some (.bool S.t1) ∧ W2.cell? ⟨w1.heap.size, 4, none⟩ = some (.int .i64 S.s2) ∧ W2.cell? ⟨w1.heap.size, 5, none⟩ = some (.bool S.t2) ∧ W2.cell? ⟨w1.heap.size, 6, none⟩ = some (.int .i64 S.s3) ∧ W2.cell? ⟨w1.heap.size, 7, none⟩ = some (.bool S.t3) ∧ W2.cell? ⟨w1.heap.size, 8, none⟩ = some (.int .i64 S.hd) ∧ W2.cell? ⟨w1.heap.size, 9, none⟩ = some (.int .u64 S.tu) ∧ W2.cell? ⟨w1.heap.size + 1, 0, none⟩ = some (.int .i64 S.s0) ∧ W2.cell? ⟨w1.heap.size + 1, 1, none⟩ = some (.bool S.t0) ∧ W2.cell? ⟨w1.heap.size + 1, 2, none⟩ = some (.int .i64 S.s1) ∧ W2.cell? ⟨w1.heap.size + 1, 3, none⟩ = some (.bool S.t1) ∧ W2.cell? ⟨w1.heap.size + 1, 4, none⟩ = some (.int .i64 S.s2) ∧ W2.cell? ⟨w1.heap.size + 1, 5, none⟩ = some (.bool S.t2) ∧ W2.cell? ⟨w1.heap.size + 1, 6, none⟩ = some (.int .i64 S.s3) ∧ W2.cell? ⟨w1.heap.size + 1, 7, none⟩ = some (.bool S.t3) ∧ W2.cell? ⟨w1.heap.size + 1, 8, none⟩ = some (.int .i64 S.hd) ∧ W2.cell? ⟨w1.heap.size + 1, 9, none⟩ = some (.int .u64 S.tu) ∧ W2.frozen? ⟨w1.heap.size + 1, 0, none⟩ = false ∧ W2.frozen? ⟨w1.heap.size + 1, 1, none⟩ = false ∧ W2.frozen? ⟨w1.heap.size + 1, 2, none⟩ = false ∧ W2.frozen? ⟨w1.heap.size + 1, 3, none⟩ = false ∧ W2.frozen? ⟨w1.heap.size + 1, 4, none⟩ = false ∧ W2.frozen? ⟨w1.heap.size + 1, 5, none⟩ = false ∧ W2.frozen? ⟨w1.heap.size + 1, 6, none⟩ = false ∧ W2.frozen? ⟨w1.heap.size + 1, 7, none⟩ = false ∧ W2.frozen? ⟨w1.heap.size + 1, 8, none⟩ = false ∧ W2.frozen? ⟨w1.heap.size + 1, 9, none⟩ = false ∧ Below B w W2 ∧ w1.heap.size + 1 < W2.heap.size :=
    ⟨_, rfl, keep_below (keep_below k0 (bnew (brefl _) _)) (bnew (brefl _) _), keep_below (keep_below k1 (bnew (brefl _) _)) (bnew (brefl _) _), keep_below (keep_below k2 (bnew (brefl _) _)) (bnew (brefl _) _), keep_below (keep_below k3 (bnew (brefl _) _)) (bnew (brefl _) _), keep_below (keep_below k4 (bnew (brefl _) _)) (bnew (brefl _) _), keep_below (keep_below k5 (bnew (brefl _) _)) (bnew (brefl _) _), keep_below (keep_below k6 (bnew (brefl _) _)) (bnew (brefl _) _), keep_below (keep_below k7 (bnew (brefl _) _)) (bnew (brefl _) _), keep_below (keep_below k8 (bnew (brefl _) _)) (bnew (brefl _) _), keep_below (keep_below k9 (bnew (brefl _) _)) (bnew (brefl _) _), by go_simp, by go_simp, by go_simp, by go_simp, by go_simp, by go_simp, by go_simp, by go_simp, by go_simp, by go_simp, by go_simp, by go_simp, by go_simp, by go_simp, by go_simp, by go_simp, by go_simp, by go_simp, by go_simp, by go_simp, by go_simp, by go_simp, by go_simp, by go_simp, by go_simp, by go_simp, by go_simp, by go_simp, by go_simp, by go_simp, (kb1.alloc (by omega) _).alloc (by simp; omega) _, by simp⟩
  rw [hW2]
  clear hW2 kb1
  generalize w1.heap.size = Q at *
  have hzB : B < W2.heap.size := block_lt_of_cell k0
  have hzQ : Q < W2.heap.size := block_lt_of_cell x0
  have hq1 : B ≠ Q + 1 := by omega
  have hq2 : Q ≠ Q + 1 := by omega
  have hX := @ExtK.cell (Q + 1) W2
  have hzz0 := block_lt_of_cell k0
  have hzz1 := block_lt_of_cell x0
  have hzz2 := block_lt_of_cell y0
  refine wp_region_noPanic ?_
  refine wp_region_tree (fun w' => ∃ x : ExtK (Q + 1) W2, w' = x.w) (PT.one [0, 1, 2, 3, 4, 5, 6, 7] 8 (PT.one [] 9 (PT.fin []))) (by kernel_rfl) (by kernel_rfl) (by kernel_rfl) (fun _ _ _ _ _ h => h) ⟨⟨_, (Keeps.refl _ W2).drew⟩, rfl⟩ ?_
  refine wpTree_one ?_
  simp only [pickOps, List.getElem?_cons_succ, List.getElem?_cons_zero, Option.elim_some]
  repeat (go_big_quiet_step (fail))
  refine wpQuiet_nil ?_
  refine planAct_some (fun K hK => ?_)
  go_simp
  refine (hrt _).mono ?_
  rintro e wa ⟨rfl, hba0⟩
  have hba := of_drew hba0
  have y0 := keep_below y0 hba
  have y1 := keep_below y1 hba
  have y2 := keep_below y2 hba
  have y3 := keep_below y3 hba
  have y4 := keep_below y4 hba
  have y5 := keep_below y5 hba
  have y6 := keep_below y6 hba
  have y7 := keep_below y7 hba
  have y8 := keep_below y8 hba
  have y9 := keep_below y9 hba
  have f0 := keep_frozen f0 hz2 hba
  have f1 := keep_frozen f1 hz2 hba
  have f2 := keep_frozen f2 hz2 hba
  have f3 := keep_frozen f3 hz2 hba
  have f4 := keep_frozen f4 hz2 hba
  have f5 := keep_frozen f5 hz2 hba
  have f6 := keep_frozen f6 hz2 hba
  have f7 := keep_frozen f7 hz2 hba
  have f8 := keep_frozen f8 hz2 hba
  have f9 := keep_frozen f9 hz2 hba
  have hza : Q + 1 < wa.heap.size := block_lt_of_cell y0
  go_wp2_with fail
  refine hK.out _ _ ⟨⟨_, ((Keeps.refl _ W2).drew.trans_ (Keeps.of_below hba0))⟩, rfl⟩ ?_
  clear hK K
  refine wpTree_one ?_
  simp only [pickOps, List.getElem?_cons_succ, List.getElem?_cons_zero, Option.elim_some]
  repeat (go_big_quiet_step (fail))
  refine wpQuiet_nil ?_
  refine planAct_some (fun K hK => ?_)
  go_simp
  refine hK.out _ _ (extk_mem (by repeat (first | (with_reducible exact ((Keeps.refl _ W2).drew.trans_ (Keeps.of_below hba0))) | (with_reducible exact Keeps.refl _ _) | (with_reducible refine keepq_set ?_) | (with_reducible refine keepq_drew ?_)))) ?_
  clear hK K
  refine wpTree_fin ?_
  simp only [pickOps, List.getElem?_cons_succ, List.getElem?_cons_zero, Option.elim_some]
  repeat (go_big_quiet_step (fail))
  refine wpQuiet_nil ?_
  refine NoPanic.normal ?_
  clear hX hzz0 hzz1 hzz2
  obtain ⟨W3, hW3, k0, k1, k2, k3, k4, k5, k6, k7, k8, k9, x0, x1, x2, x3, x4, x5, x6, x7, x8, x9, y0, y1, y2, y3, y4, y5, y6, y7, y8, y9, kb3⟩ : ∃ W3, ((((((((((wa.setCell ⟨Q + 1, 0, none⟩ (.int .i64 T1.s0)).setCell ⟨Q + 1, 1, none⟩ (.bool T1.t0)).setCell ⟨Q + 1, 2, none⟩ (.int .i64 T1.s1)).setCell ⟨Q + 1, 3, none⟩ (.bool T1.t1)).setCell ⟨Q + 1, 4, none⟩ (.int .i64 T1.s2)).setCell ⟨Q + 1, 5, none⟩ (.bool T1.t2)).setCell ⟨Q + 1, 6, none⟩ (.int .i64 T1.s3)).setCell ⟨Q + 1, 7, none⟩ (.bool T1.t3)).setCell ⟨Q + 1, 8, none⟩ (.int .i64 T1.hd)).setCell ⟨Q + 1, 9, none⟩ (.int .u64 T1.tu)) = W3 ∧ W3.cell? ⟨B, 0, none⟩ = some (.int .i64 S.s0) ∧ W3.cell? ⟨B, 1, none⟩ = some (.bool S.t0) ∧ W3.cell? ⟨B, 2, none⟩ = some (.int .i64 S.s1) ∧ W3.cell? ⟨B, 3, none⟩ = some (.bool S.t1) ∧ W3.cell? ⟨B, 4, none⟩ = some (.int .i64 S.s2) ∧ W3.cell? ⟨B, 5, none⟩ = some (.bool S.t2) ∧ W3.cell? ⟨B, 6, none⟩ = some (.int .i64 S.s3) ∧ W3.cell? ⟨B, 7, none⟩ = some (.bool S.t3) ∧ W3.cell? ⟨B, 8, none⟩ = some (.int .i64 S.hd) ∧ W3.cell? ⟨B, 9, none⟩ = some (.int .u64 S.tu) ∧ W3.cell? ⟨Q, 0, none⟩ = some (.int .i64 S.s0) ∧ W3.cell? ⟨Q, 1, none⟩ = some (.bool S.t0) ∧ W3.cell? ⟨Q, 2, none⟩ = some (.int .i64 S.s1) ∧ W3.cell? ⟨Q, 3, none⟩ = some (.bool S.t1) ∧ W3.cell? ⟨Q, 4, none⟩ = some (.int .i64 S.s2) ∧ W3.cell? ⟨Q, 5, none⟩ = some (.bool S.t2) ∧ W3.cell? ⟨Q, 6, none⟩ = some (.int .i64 S.s3) ∧ W3.cell? ⟨Q, 7, none⟩ = some (.bool S.t3) ∧ W3.cell? ⟨Q, 8, none⟩ = some (.int .i64 S.hd) ∧ W3.cell? ⟨Q, 9, none⟩ = some (.int .u64 S.tu) ∧ W3.cell? ⟨Q + 1, 0, none⟩ = some (.int .i64 T1.s0) ∧ W3.cell? ⟨Q + 1, 1, none⟩ = some (.bool T1.t0) ∧ W3.cell? ⟨Q + 1, 2, none⟩ = some (.int .i64 T1.s1) ∧ W3.cell? ⟨Q + 1, 3, none⟩ = some (.bool T1.t1) ∧ W3.cell? ⟨Q + 1, 4, none⟩ = some (.int .i64 T1.s2) ∧ W3.cell? ⟨Q + 1, 5, none⟩ = some (.bool T1.t2) ∧ W3.cell? ⟨Q + 1, 6, none⟩ = some (.int .i64 T1.s3) ∧ W3.cell? ⟨Q + 1, 7, none⟩ = some (.bool T1.t3) ∧ W3.cell? ⟨Q + 1, 8, none⟩ = some (.int .i64 T1.hd) ∧ W3.cell? ⟨Q + 1, 9, none⟩ = some (.int .u64 T1.tu) ∧ Below B w W3 := by
    have kba : Below B w wa := kb2.trans (hba.mono (by omega))
    have k0 := keep_below k0 hba
    have k1 := keep_below k1 hba
    have k2 := keep_below k2 hba
    have k3 := keep_below k3 hba
    have k4 := keep_below k4 hba
    have k5 := keep_below k5 hba
    have k6 := keep_below k6 hba
    have k7 := keep_below k7 hba
    have k8 := keep_below k8 hba
    have k9 := keep_below k9 hba
    have x0 := keep_below x0 hba
    have x1 := keep_below x1 hba
    have x2 := keep_below x2 hba
    have x3 := keep_below x3 hba
    have x4 := keep_below x4 hba
    have x5 := keep_below x5 hba
    have x6 := keep_below x6 hba
    have x7 := keep_below x7 hba
    have x8 := keep_below x8 hba
    have x9 := keep_below x9 hba
    exact ⟨_, rfl, by go_simp, by go_simp, by go_simp, by go_simp, by go_simp, by go_simp, by go_simp, by go_simp, by go_simp, by go_simp, by go_simp, by go_simp, by go_simp, by go_simp, by go_simp, by go_simp, by go_simp, by go_simp, by go_simp, by go_simp, by go_simp, by go_simp, by go_simp, by go_simp, by go_simp, by go_simp, by go_simp, by go_simp, by go_simp, by go_simp, by repeat (first | (with_reducible exact kba) | (with_reducible refine Below.setCell ?_ (by simp <;> omega) _))⟩
  rw [hW3]
  clear hW3 kb2 hba hba0 hq1 hq2 hza hzB hzQ hz2
  have hzB : B < W3.heap.size := block_lt_of_cell k0
  go_upto_region 5 with (fail)
  go_cut [62] (fun v w' => v = .bool false ∧ Below W3.heap.size W3 w')
  case first =>
    have hX := @Ext.cell W3
    have hzz0 := block_lt_of_cell k0
    have hzz1 := block_lt_of_cell x0
    have hzz2 := block_lt_of_cell y0
    refine wp_region_noPanic ?_
    refine wp_region_tree (fun w' => ∃ x : Ext W3, w' = x.w) (PT.one [0, 1, 4] 2 (PT.one [] 3 (PT.one [5, 6, 7, 8, 9, 12, 13, 14, 15] 10 (PT.one [] 11 (PT.one [] 16 (PT.one [17, 18, 19, 20, 21, 24, 25, 26] 22 (PT.one [] 23 (PT.one [] 27 (PT.fin [28, 29]))))))))) (by kernel_rfl) (by kernel_rfl) (by kernel_rfl) (fun _ _ _ _ _ h => h) ⟨⟨_, (brefl W3).drew⟩, rfl⟩ ?_
    refine wpTree_one ?_
    simp only [pickOps, List.getElem?_cons_succ, List.getElem?_cons_zero, Option.elim_some]
    repeat (go_big_quiet_step (fail))
    refine wpQuiet_nil ?_
    refine planAct_some (fun K hK => ?_)
    go_simp
    refine (ht _).mono ?_
    rintro e v1 ⟨rfl, a1⟩
    go_wp2_with fail
    refine hK.out _ _ ⟨⟨_, (bnext (brefl W3).drew a1)⟩, rfl⟩ ?_
    clear hK K
    refine wpTree_one ?_
    simp only [pickOps, List.getElem?_cons_succ, List.getElem?_cons_zero, Option.elim_some]
    repeat (go_big_quiet_step (fail))
    refine wpQuiet_nil ?_
    refine planAct_some (fun K hK => ?_)
    go_simp
    refine (g1 _).mono ?_
    rintro e v2 ⟨rfl, a2⟩
    go_wp2_with fail
    refine hK.out _ _ ⟨⟨_, (bnext (bnext (brefl W3).drew a1) a2)⟩, rfl⟩ ?_
    clear hK K
    refine wpTree_one ?_
    simp only [pickOps, List.getElem?_cons_succ, List.getElem?_cons_zero, Option.elim_some]
    repeat (go_big_quiet_step (fail))
    refine wpQuiet_nil ?_
    refine planAct_some (fun K hK => ?_)
    go_simp
    refine (hs _).mono ?_
    rintro e v3 ⟨rfl, a3⟩
    go_wp2_with fail
    refine hK.out _ _ ⟨⟨_, (bnext (bnext (bnext (brefl W3).drew a1) a2) a3)⟩, rfl⟩ ?_
    clear hK K
    refine wpTree_one ?_
    simp only [pickOps, List.getElem?_cons_succ, List.getElem?_cons_zero, Option.elim_some]
    repeat (go_big_quiet_step (fail))
    refine wpQuiet_nil ?_
    refine planAct_some (fun K hK => ?_)
    go_simp
    refine (g2 _).mono ?_
    rintro e v4 ⟨rfl, a4⟩
    go_wp2_with fail
    refine hK.out _ _ ⟨⟨_, (bnext (bnext (bnext (bnext (brefl W3).drew a1) a2) a3) a4)⟩, rfl⟩ ?_
    clear hK K
    refine wpTree_one ?_
    simp only [pickOps, List.getElem?_cons_succ, List.getElem?_cons_zero, Option.elim_some]
    repeat (go_big_quiet_step (fail))
    refine wpQuiet_nil ?_
    refine planAct_some (fun K hK => ?_)
    go_simp
    refine (hrs _).mono ?_
    rintro e v5 ⟨rfl, a5⟩
    go_wp2_with fail
    refine hK.out _ _ ⟨⟨_, (bnext (bnext (bnext (bnext (bnext (brefl W3).drew a1) a2) a3) a4) a5)⟩, rfl⟩ ?_
    clear hK K
    refine wpTree_one ?_
    simp only [pickOps, List.getElem?_cons_succ, List.getElem?_cons_zero, Option.elim_some]
    repeat (go_big_quiet_step (fail))
    refine wpQuiet_nil ?_
    refine planAct_some (fun K hK => ?_)
    go_simp
    refine (hc _).mono ?_
    rintro e v6 ⟨rfl, a6⟩
    go_wp2_with fail
    refine hK.out _ _ ⟨⟨_, (bnext (bnext (bnext (bnext (bnext (bnext (brefl W3).drew a1) a2) a3) a4) a5) a6)⟩, rfl⟩ ?_
    clear hK K
    refine wpTree_one ?_
    simp only [pickOps, List.getElem?_cons_succ, List.getElem?_cons_zero, Option.elim_some]
    repeat (go_big_quiet_step (fail))
    refine wpQuiet_nil ?_
    refine planAct_some (fun K hK => ?_)
    go_simp
    refine (g3 _).mono ?_
    rintro e v7 ⟨rfl, a7⟩
    go_wp2_with fail
    refine hK.out _ _ ⟨⟨_, (bnext (bnext (bnext (bnext (bnext (bnext (bnext (brefl W3).drew a1) a2) a3) a4) a5) a6) a7)⟩, rfl⟩ ?_
    clear hK K
    refine wpTree_one ?_
    simp only [pickOps, List.getElem?_cons_succ, List.getElem?_cons_zero, Option.elim_some]
    repeat (go_big_quiet_step (fail))
    refine wpQuiet_nil ?_
    refine planAct_some (fun K hK => ?_)
    go_simp
    refine (hrc _).mono ?_
    rintro e v8 ⟨rfl, a8⟩
    go_wp2_with fail
    refine hK.out _ _ ⟨⟨_, (bnext (bnext (bnext (bnext (bnext (bnext (bnext (bnext (brefl W3).drew a1) a2) a3) a4) a5) a6) a7) a8)⟩, rfl⟩ ?_
    clear hK K
    refine wpTree_fin ?_
    simp only [pickOps, List.getElem?_cons_succ, List.getElem?_cons_zero, Option.elim_some]
    repeat (go_big_quiet_step (fail))
    refine wpQuiet_nil ?_
    refine NoPanic.normal ?_
    clear hX hzz0 hzz1 hzz2
    go_wp2_with fail
    go_meet
    case rel => exact ⟨rfl, (bnext (bnext (bnext (bnext (bnext (bnext (bnext (bnext (brefl W3).drew a1) a2) a3) a4) a5) a6) a7) a8)⟩
  case rest =>
  obtain ⟨rfl, hcut⟩ := hcut
  have k0 := keep_below k0 hcut
  have k1 := keep_below k1 hcut
  have k2 := keep_below k2 hcut
  have k3 := keep_below k3 hcut
  have k4 := keep_below k4 hcut
  have k5 := keep_below k5 hcut
  have k6 := keep_below k6 hcut
  have k7 := keep_below k7 hcut
  have k8 := keep_below k8 hcut
  have k9 := keep_below k9 hcut
  have x0 := keep_below x0 hcut
  have x1 := keep_below x1 hcut
  have x2 := keep_below x2 hcut
  have x3 := keep_below x3 hcut
  have x4 := keep_below x4 hcut
  have x5 := keep_below x5 hcut
  have x6 := keep_below x6 hcut
  have x7 := keep_below x7 hcut
  have x8 := keep_below x8 hcut
  have x9 := keep_below x9 hcut
  have kb5 : Below B w wc := kb3.trans (hcut.mono (by omega))
  have hzB5 : B < wc.heap.size := block_lt_of_cell k0
  have hzQ5 := block_lt_of_cell x0
  clear y0 y1 y2 y3 y4 y5 y6 y7 y8 y9 hcut kb3
  go_wp2_with fail
  refine (hp _).mono ?_
  rintro e w6 ⟨rfl, hb6⟩
  have x0 := keep_below x0 hb6
  have x1 := keep_below x1 hb6
  have x2 := keep_below x2 hb6
  have x3 := keep_below x3 hb6
  have x4 := keep_below x4 hb6
  have x5 := keep_below x5 hb6
  have x6 := keep_below x6 hb6
  have x7 := keep_below x7 hb6
  have x8 := keep_below x8 hb6
  have x9 := keep_below x9 hb6
  have kb6 : Below B w w6 := kb5.trans (hb6.mono (by omega))
  have hzB6 : B < w6.heap.size := by have := hb6.size; omega
  clear kb5 hb6 k0 k1 k2 k3 k4 k5 k6 k7 k8 k9 hzQ5
  go_upto_region 8 with (fail)
  obtain ⟨W7, hW7, x0, x1, x2, x3, x4, x5, x6, x7, x8, x9, y0, y1, y2, y3, y4, y5, y6, y7, y8, y9, kb7, hzB7⟩ : ∃ W7, w6.alloc (.cells #[.int .i64 P.s0, .bool P.t0, .int .i64 P.s1, .bool P.t1, .int .i64 P.s2, .bool P.t2, .int .i64 P.s3, .bool P.t3, .int .i64 P.hd, .int .u64 P.tu] 27) = W7 ∧ W7.cell? ⟨Q, 0, none⟩ = some (.int .i64 S.s0) ∧ W7.cell? ⟨Q, 1, none⟩ = some (.bool S.t0) ∧ W7.cell? ⟨Q, 2, none⟩ = some (.int .i64 S.s1) ∧ W7.cell? ⟨Q, 3, none⟩ = some (.bool S.t1) ∧ W7.cell? ⟨Q, 4, none⟩ = some (.int .i64 S.s2) ∧ W7.cell? ⟨Q, 5, none⟩ = some (.bool S.t2) ∧ W7.cell? ⟨Q, 6, none⟩ = some (.int .i64 S.s3) ∧ W7.cell? ⟨Q, 7, none⟩ = some (.bool S.t3) ∧ W7.cell? ⟨Q, 8, none⟩ = some (.int .i64 S.hd) ∧ W7.cell? ⟨Q, 9, none⟩ = some (.int .u64 S.tu) ∧ W7.cell? ⟨w6.heap.size, 0, none⟩ = some (.int .i64 P.s0) ∧ W7.cell? ⟨w6.heap.size, 1, none⟩ = some (.bool P.t0) ∧ W7.cell? ⟨w6.heap.size, 2, none⟩ = some (.int .i64 P.s1) ∧ W7.cell? ⟨w6.heap.size, 3, none⟩ = some (.bool P.t1) ∧ W7.cell? ⟨w6.heap.size, 4, none⟩ = some (.int .i64 P.s2) ∧ W7.cell? ⟨w6.heap.size, 5, none⟩ = some (.bool P.t2) ∧ W7.cell? ⟨w6.heap.size, 6, none⟩ = some (.int .i64 P.s3) ∧ W7.cell? ⟨w6.heap.size, 7, none⟩ = some (.bool P.t3) ∧ W7.cell? ⟨w6.heap.size, 8, none⟩ = some (.int .i64 P.hd) ∧ W7.cell? ⟨w6.heap.size, 9, none⟩ = some (.int .u64 P.tu) ∧ Below B w W7 ∧ B < W7.heap.size :=
    ⟨_, rfl, keep_below x0 (bnew (brefl _) _), keep_below x1 (bnew (brefl _) _), keep_below x2 (bnew (brefl _) _), keep_below x3 (bnew (brefl _) _), keep_below x4 (bnew (brefl _) _), keep_below x5 (bnew (brefl _) _), keep_below x6 (bnew (brefl _) _), keep_below x7 (bnew (brefl _) _), keep_below x8 (bnew (brefl _) _), keep_below x9 (bnew (brefl _) _), by go_simp, by go_simp, by go_simp, by go_simp, by go_simp, by go_simp, by go_simp, by go_simp, by go_simp, by go_simp, kb6.alloc (by omega) _, by simp; omega⟩
  rw [hW7]
  clear hW7 kb6
  generalize w6.heap.size = Q7 at *
  have hzQ7 := block_lt_of_cell x0
  go_wp2_with fail
  refine (hrp _).mono ?_
  rintro e w8 ⟨rfl, hb8⟩
  have y0 := keep_below y0 hb8
  have y1 := keep_below y1 hb8
  have y2 := keep_below y2 hb8
  have y3 := keep_below y3 hb8
  have y4 := keep_below y4 hb8
  have y5 := keep_below y5 hb8
  have y6 := keep_below y6 hb8
  have y7 := keep_below y7 hb8
  have y8 := keep_below y8 hb8
  have y9 := keep_below y9 hb8
  have kb8 : Below B w w8 := kb7.trans (hb8.mono (by omega))
  have hzB8 : B < w8.heap.size := by have := hb8.size; omega
  clear kb7 hb8 x0 x1 x2 x3 x4 x5 x6 x7 x8 x9 hzQ7
  go_upto_region 9 with (fail)
  obtain ⟨W9, hW9, x0, x1, x2, x3, x4, x5, x6, x7, x8, x9, y0, y1, y2, y3, y4, y5, y6, y7, y8, y9, kb9, hzB9⟩ : ∃ W9, w8.alloc (.cells #[.int .i64 P.s0, .bool P.t0, .int .i64 P.s1, .bool P.t1, .int .i64 P.s2, .bool P.t2, .int .i64 P.s3, .bool P.t3, .int .i64 P.hd, .int .u64 P.tu] 31) = W9 ∧ W9.cell? ⟨w8.heap.size, 0, none⟩ = some (.int .i64 P.s0) ∧ W9.cell? ⟨w8.heap.size, 1, none⟩ = some (.bool P.t0) ∧ W9.cell? ⟨w8.heap.size, 2, none⟩ = some (.int .i64 P.s1) ∧ W9.cell? ⟨w8.heap.size, 3, none⟩ = some (.bool P.t1) ∧ W9.cell? ⟨w8.heap.size, 4, none⟩ = some (.int .i64 P.s2) ∧ W9.cell? ⟨w8.heap.size, 5, none⟩ = some (.bool P.t2) ∧ W9.cell? ⟨w8.heap.size, 6, none⟩ = some (.int .i64 P.s3) ∧ W9.cell? ⟨w8.heap.size, 7, none⟩ = some (.bool P.t3) ∧ W9.cell? ⟨w8.heap.size, 8, none⟩ = some (.int .i64 P.hd) ∧ W9.cell? ⟨w8.heap.size, 9, none⟩ = some (.int .u64 P.tu) ∧ W9.cell? ⟨Q7, 0, none⟩ = some (.int .i64 P.s0) ∧ W9.cell? ⟨Q7, 1, none⟩ = some (.bool P.t0) ∧ W9.cell? ⟨Q7, 2, none⟩ = some (.int .i64 P.s1) ∧ W9.cell? ⟨Q7, 3, none⟩ = some (.bool P.t1) ∧ W9.cell? ⟨Q7, 4, none⟩ = some (.int .i64 P.s2) ∧ W9.cell? ⟨Q7, 5, none⟩ = some (.bool P.t2) ∧ W9.cell? ⟨Q7, 6, none⟩ = some (.int .i64 P.s3) ∧ W9.cell? ⟨Q7, 7, none⟩ = some (.bool P.t3) ∧ W9.cell? ⟨Q7, 8, none⟩ = some (.int .i64 P.hd) ∧ W9.cell? ⟨Q7, 9, none⟩ = some (.int .u64 P.tu) ∧ Below B w W9 ∧ B < W9.heap.size :=
    ⟨_, rfl, by go_simp, by go_simp, by go_simp, by go_simp, by go_simp, by go_simp, by go_simp, by go_simp, by go_simp, by go_simp, keep_below y0 (bnew (brefl _) _), keep_below y1 (bnew (brefl _) _), keep_below y2 (bnew (brefl _) _), keep_below y3 (bnew (brefl _) _), keep_below y4 (bnew (brefl _) _), keep_below y5 (bnew (brefl _) _), keep_below y6 (bnew (brefl _) _), keep_below y7 (bnew (brefl _) _), keep_below y8 (bnew (brefl _) _), keep_below y9 (bnew (brefl _) _), kb8.alloc (by omega) _, by simp; omega⟩
  rw [hW9]
  clear hW9 kb8
  generalize w8.heap.size = Q9 at *
  have hX := @Ext.cell W9
  have hzz0 := block_lt_of_cell x0
  have hzz1 := block_lt_of_cell y0
  refine wp_region_noPanic ?_
  refine wp_region_plan (fun w' => ∃ x : Ext W9, w' = x.w) [([0, 2], 1), ([3, 4, 5, 6, 7, 8, 9, 10, 11, 12, 13, 14], 15)] [16, 17] (by kernel_rfl) (by kernel_rfl) (by kernel_rfl) (fun _ _ _ _ _ h => h) ⟨⟨_, (brefl W9).drew⟩, rfl⟩ ?_
  refine wpPlan_cons ?_
  simp only [pickOps, List.getElem?_cons_succ, List.getElem?_cons_zero, Option.elim_some]
  repeat (go_big_quiet_step (fail))
  refine wpQuiet_nil ?_
  refine planAct_some (fun K hK => ?_)
  go_simp
  refine (g4 _).mono ?_
  rintro e w10 ⟨rfl, h10⟩
  go_wp2_with fail
  refine hK.out _ _ ⟨⟨_, (bnext (brefl W9).drew h10)⟩, rfl⟩ ?_
  clear hK K
  refine wpPlan_cons ?_
  simp only [pickOps, List.getElem?_cons_succ, List.getElem?_cons_zero, Option.elim_some]
  repeat (go_big_quiet_step (fail))
  refine wpQuiet_nil ?_
  refine planAct_some (fun K hK => ?_)
  go_simp
  refine (lives11 _).mono ?_
  rintro e w11 ⟨rfl, h11⟩
  go_wp2_with fail
  refine hK.out _ _ ⟨⟨_, (bnext (bnext (brefl W9).drew h10) h11)⟩, rfl⟩ ?_
  clear hK K
  refine wpPlan_last ?_
  simp only [pickOps, List.getElem?_cons_succ, List.getElem?_cons_zero, Option.elim_some]
  repeat (go_big_quiet_step (fail))
  refine wpQuiet_nil ?_
  refine NoPanic.normal ?_
  clear hX hzz0 hzz1
  go_wp2
  go_ret
  exact ⟨rfl, by rw [HB.out]; exact kb9.trans ((bnext (bnext (brefl W9).drew h10) h11).mono (by omega))⟩

set_option maxHeartbeats 8000000 in
set_option maxRecDepth 100000 in
theorem turn_3 (S : WS)  (slot : Int) (T1 T2 T3 P : WS) (pi : Int) (was : Int) 
    (ht : ∀ w : World, Calls Try.prog 8 #[.agg #[.int .i64 S.s0, .bool S.t0, .int .i64 S.s1, .bool S.t1, .int .i64 S.s2, .bool S.t2, .int .i64 S.s3, .bool S.t3, .int .i64 S.hd, .int .u64 S.tu], .int .i64 3] w fun e w' => e = .returned (.agg #[.int .i64 T1.s0, .bool T1.t0, .int .i64 T1.s1, .bool T1.t1, .int .i64 T1.s2, .bool T1.t2, .int .i64 T1.s3, .bool T1.t3, .int .i64 T1.hd, .int .u64 T1.tu]) ∧ Below w.heap.size w w')
    (hrt : ∀ w : World, Calls Try.prog 7 #[.agg #[.int .i64 S.s0, .bool S.t0, .int .i64 S.s1, .bool S.t1, .int .i64 S.s2, .bool S.t2, .int .i64 S.s3, .bool S.t3, .int .i64 S.hd, .int .u64 S.tu], .int .i64 3, .agg #[.int .i64 S.s3, .bool true]] w fun e w' => e = .returned (.agg #[.int .i64 T1.s0, .bool T1.t0, .int .i64 T1.s1, .bool T1.t1, .int .i64 T1.s2, .bool T1.t2, .int .i64 T1.s3, .bool T1.t3, .int .i64 T1.hd, .int .u64 T1.tu]) ∧ Below w.heap.size w w')
    (hs : ∀ w : World, Calls Try.prog 9 #[.agg #[.int .i64 S.s0, .bool S.t0, .int .i64 S.s1, .bool S.t1, .int .i64 S.s2, .bool S.t2, .int .i64 S.s3, .bool S.t3, .int .i64 S.hd, .int .u64 S.tu], .int .i64 3, .int .i64 slot] w fun e w' => e = .returned (.agg #[.int .i64 T2.s0, .bool T2.t0, .int .i64 T2.s1, .bool T2.t1, .int .i64 T2.s2, .bool T2.t2, .int .i64 T2.s3, .bool T2.t3, .int .i64 T2.hd, .int .u64 T2.tu]) ∧ Below w.heap.size w w')
    (hrs : ∀ w : World, Calls Try.prog 7 #[.agg #[.int .i64 S.s0, .bool S.t0, .int .i64 S.s1, .bool S.t1, .int .i64 S.s2, .bool S.t2, .int .i64 S.s3, .bool S.t3, .int .i64 S.hd, .int .u64 S.tu], .int .i64 3, .agg #[.int .i64 slot, .bool true]] w fun e w' => e = .returned (.agg #[.int .i64 T2.s0, .bool T2.t0, .int .i64 T2.s1, .bool T2.t1, .int .i64 T2.s2, .bool T2.t2, .int .i64 T2.s3, .bool T2.t3, .int .i64 T2.hd, .int .u64 T2.tu]) ∧ Below w.heap.size w w')
    (hc : ∀ w : World, Calls Try.prog 10 #[.agg #[.int .i64 S.s0, .bool S.t0, .int .i64 S.s1, .bool S.t1, .int .i64 S.s2, .bool S.t2, .int .i64 S.s3, .bool S.t3, .int .i64 S.hd, .int .u64 S.tu], .int .i64 3] w fun e w' => e = .returned (.agg #[.int .i64 T3.s0, .bool T3.t0, .int .i64 T3.s1, .bool T3.t1, .int .i64 T3.s2, .bool T3.t2, .int .i64 T3.s3, .bool T3.t3, .int .i64 T3.hd, .int .u64 T3.tu]) ∧ Below w.heap.size w w')
    (hrc : ∀ w : World, Calls Try.prog 7 #[.agg #[.int .i64 S.s0, .bool S.t0, .int .i64 S.s1, .bool S.t1, .int .i64 S.s2, .bool S.t2, .int .i64 S.s3, .bool S.t3, .int .i64 S.hd, .int .u64 S.tu], .int .i64 3, .agg #[.int .i64 0, .bool false]] w fun e w' => e = .returned (.agg #[.int .i64 T3.s0, .bool T3.t0, .int .i64 T3.s1, .bool T3.t1, .int .i64 T3.s2, .bool T3.t2, .int .i64 T3.s3, .bool T3.t3, .int .i64 T3.hd, .int .u64 T3.tu]) ∧ Below w.heap.size w w')
    (hp : ∀ w : World, Calls Try.prog 11 #[.agg #[.int .i64 S.s0, .bool S.t0, .int .i64 S.s1, .bool S.t1, .int .i64 S.s2, .bool S.t2, .int .i64 S.s3, .bool S.t3, .int .i64 S.hd, .int .u64 S.tu], .int .i64 slot] w fun e w' => e = .returned (.tuple #[.agg #[.int .i64 P.s0, .bool P.t0, .int .i64 P.s1, .bool P.t1, .int .i64 P.s2, .bool P.t2, .int .i64 P.s3, .bool P.t3, .int .i64 P.hd, .int .u64 P.tu], .int .i64 pi, .int .i64 was]) ∧ Below w.heap.size w w')
    (hrp : ∀ w : World, Calls Try.prog 12 #[.agg #[.int .i64 S.s0, .bool S.t0, .int .i64 S.s1, .bool S.t1, .int .i64 S.s2, .bool S.t2, .int .i64 S.s3, .bool S.t3, .int .i64 S.hd, .int .u64 S.tu], .int .i64 slot] w fun e w' => e = .returned (.tuple #[.agg #[.int .i64 P.s0, .bool P.t0, .int .i64 P.s1, .bool P.t1, .int .i64 P.s2, .bool P.t2, .int .i64 P.s3, .bool P.t3, .int .i64 P.hd, .int .u64 P.tu], .int .i64 pi, .int .i64 was]) ∧ Below w.heap.size w w') (w : World) :
    Calls Try.prog 3 #[.agg #[.int .i64 S.s0, .bool S.t0, .int .i64 S.s1, .bool S.t1, .int .i64 S.s2, .bool S.t2, .int .i64 S.s3, .bool S.t3, .int .i64 S.hd, .int .u64 S.tu], .int .i64 3, .int .i64 slot] w fun e w' => e = .returned (.bool true) ∧ Below w.heap.size w w' := by
  have n1 := neR T1
  have n2 := neR T2
  have n3 := neR T3
  have n4 := eqR P
  have g1 := to_any T1
  have g2 := to_any T2
  have g3 := to_any T3
  have g4 := to_any P
  have u1 : (pi == pi) = true := by simp
  have u2 : (was == was) = true := by simp
  go_enter Try.func3, Try.ntmps3
  go_wp2_with fail
  obtain ⟨W0, hW0, k0, k1, k2, k3, k4, k5, k6, k7, k8, k9, kb⟩ : ∃ W0, w.alloc (.cells #[.int .i64 S.s0, .bool S.t0, .int .i64 S.s1, .bool S.t1, .int .i64 S.s2, .bool S.t2, .int .i64 S.s3, .bool S.t3, .int .i64 S.hd, .int .u64 S.tu] 27) = W0 ∧ W0.cell? ⟨w.heap.size, 0, none⟩ = some (.int .i64 S.s0) ∧ W0.cell? ⟨w.heap.size, 1, none⟩ = some (.bool S.t0) ∧ W0.cell? ⟨w.heap.size, 2, none⟩ = some (.int .i64 S.s1) ∧ W0.cell? ⟨w.heap.size, 3, none⟩ = some (.bool S.t1) ∧ W0.cell? ⟨w.heap.size, 4, none⟩ = some (.int .i64 S.s2) ∧ W0.cell? ⟨w.heap.size, 5, none⟩ = some (.bool S.t2) ∧ W0.cell? ⟨w.heap.size, 6, none⟩ = some (.int .i64 S.s3) ∧ W0.cell? ⟨w.heap.size, 7, none⟩ = some (.bool S.t3) ∧ W0.cell? ⟨w.heap.size, 8, none⟩ = some (.int .i64 S.hd) ∧ W0.cell? ⟨w.heap.size, 9, none⟩ = some (.int .u64 S.tu) ∧ Below w.heap.size w W0 :=
    ⟨_, rfl, by go_simp, by go_simp, by go_simp, by go_simp, by go_simp, by go_simp, by go_simp, by go_simp, by go_simp, by go_simp, bnew (brefl w) _⟩
  rw [hW0]
  clear hW0
  generalize hBB : w.heap.size = B at *
  have HB := Lib.hid hBB
  clear hBB
  have hz0 : B < W0.heap.size := block_lt_of_cell k0
  refine (to_any S _).mono ?_
  rintro e w1 ⟨rfl, hb1⟩
  have k0 := keep_below k0 hb1
  have k1 := keep_below k1 hb1
  have k2 := keep_below k2 hb1
  have k3 := keep_below k3 hb1
  have k4 := keep_below k4 hb1
  have k5 := keep_below k5 hb1
  have k6 := keep_below k6 hb1
  have k7 := keep_below k7 hb1
  have k8 := keep_below k8 hb1
  have k9 := keep_below k9 hb1
  have kb1 : Below B w w1 := kb.trans (hb1.mono (by omega))
  have hz1 : B < w1.heap.size := block_lt_of_cell k0
  clear kb hb1 hz0
  go_upto_region 4 with (fail)
  obtain ⟨W2, hW2, k0, k1, k2, k3, k4, k5, k6, k7, k8, k9, x0, x1, x2, x3, x4, x5, x6, x7, x8, x9, y0, y1, y2, y3, y4, y5, y6, y7, y8, y9, f0, f1, f2, f3, f4, f5, f6, f7, f8, f9, kb2, hz2⟩ : ∃ W2, (w1.alloc (.cells #[.int .i64 S.s0, .bool S.t0, .int .i64 S.s1, .bool S.t1, .int .i64 S.s2, .bool S.t2, .int .i64 S.s3, .bool S.t3, .int .i64 S.hd, .int .u64 S.tu] 31)).alloc (.cells #[.int .i64 S.s0, .bool S.t0, .int .i64 S.s1, .bool S.t1, .int .i64 S.s2, .bool S.t2, .int .i64 S.s3, .bool S.t3, .int .i64 S.hd, .int .u64 S.tu] 31) = W2 ∧ W2.cell? ⟨B, 0, none⟩ = some (.int .i64 S.s0) ∧ W2.cell? ⟨B, 1, none⟩ = some (.bool S.t0) ∧ W2.cell? ⟨B, 2, none⟩ = some (.int .i64 S.s1) ∧ W2.cell? ⟨B, 3, none⟩ = some (.bool S.t1) ∧ W2.cell? ⟨B, 4, none⟩ = some (.int .i64 S.s2) ∧ W2.cell? ⟨B, 5, none⟩ = some (.bool S.t2) ∧ W2.cell? ⟨B, 6, none⟩ = some (.int .i64 S.s3) ∧ W2.cell? ⟨B, 7, none⟩ = some (.bool S.t3) ∧ W2.cell? ⟨B, 8, none⟩ = some (.int .i64 S.hd) ∧ W2.cell? ⟨B, 9, none⟩ = some (.int .u64 S.tu) ∧ W2.cell? ⟨w1.heap.size, 0, none⟩ = some (.int .i64 S.s0) ∧ W2.cell? ⟨w1.heap.size, 1, none⟩ = some (.bool S.t0) ∧ W2.cell? ⟨w1.heap.size, 2, none⟩ = some (.int .i64 S.s1) ∧ W2.cell? ⟨w1.heap.size, 3, none⟩ = some (.bool S.t1) ∧ W2.cell? ⟨w1.heap.size, 4, none⟩ = some (.int .i64 S.s2) ∧ W2.cell? ⟨w1.heap.size, 5, none⟩ = some (.bool S.t2) ∧ W2.cell? ⟨w1.heap.size, 6, none⟩ = some (.int .i64 S.s3) ∧ W2.cell? ⟨w1.heap.size, 7, none⟩ = some (.bool S.t3) ∧ W2.cell? ⟨w1.heap.size, 8, none⟩ = some (.int .i64 S.hd) ∧ W2.cell? ⟨w1.heap.size, 9, none⟩ = some (.int .u64 S.tu) ∧ W2.cell? ⟨w1.heap.size + 1, 0, none⟩ = some (.int .i64 S.s0) ∧ W2.cell? ⟨w1.heap.size + 1, 1, none⟩ = some (.bool S.t0) ∧ W2.cell? ⟨w1.heap.size + 1, 2, none⟩ = some (.int .i64 S.s1) ∧ W2.cell? ⟨w1.heap.size + 1, 3, none⟩ = some (.bool S.t1) ∧ W2.cell? ⟨w1.heap.size + 1, 4, none⟩ = some (.int .i64 S.s2) ∧ W2.cell? ⟨w1.heap.size + 1, 5, none⟩ = some (.bool S.t2) ∧ W2.cell? ⟨w1.heap.size + 1, 6, none⟩ = some (.int .i64 S.s3) ∧ W2.cell? ⟨w1.heap.size + 1, 7, none⟩ = some (.bool S.t3) ∧ W2.cell? ⟨w1.heap.size + 1, 8, none⟩ = some (.int .i64 S.hd) ∧ W2.cell? ⟨w1.heap.size + 1, 9, none⟩ = some (.int .u64 S.tu) ∧ W2.frozen? ⟨w1.heap.size + 1, 0, none⟩ = false ∧ W2.frozen? ⟨w1.heap.size + 1, 1, none⟩ = false ∧ W2.frozen? ⟨w1.heap.size + 1, 2, none⟩ = false ∧ W2.frozen? ⟨w1.heap.size + 1, 3, none⟩ = false ∧ W2.frozen? ⟨w1.heap.size + 1, 4, none⟩ = false ∧ W2.frozen? ⟨w1.heap.size + 1, 5, none⟩ = false ∧ W2.frozen? ⟨w1.heap.size + 1, 6, none⟩ = false ∧ W2.frozen? ⟨w1.heap.size + 1, 7, none⟩ = false ∧ W2.frozen? ⟨w1.heap.size + 1, 8, none⟩ = false ∧ W2.frozen? ⟨w1.heap.size + 1, 9, none⟩ = false ∧ Below B w W2 ∧ w1.heap.size + 1 < W2.heap.size :=
    ⟨_, rfl, keep_below (keep_below k0 (bnew (brefl _) _)) (bnew (brefl _) _), keep_below (keep_below k1 (bnew (brefl _) _)) (bnew (brefl _) _), keep_below (keep_below k2 (bnew (brefl _) _)) (bnew (brefl _) _), keep_below (keep_below k3 (bnew (brefl _) _)) (bnew (brefl _) _), keep_below (keep_below k4 (bnew (brefl _) _)) (bnew (brefl _) _), keep_below (keep_below k5 (bnew (brefl _) _)) (bnew (brefl _) _), keep_below (keep_below k6 (bnew (brefl _) _)) (bnew (brefl _) _), keep_below (keep_below k7 (bnew (brefl _) _)) (bnew (brefl _) _), keep_below (keep_below k8 (bnew (brefl _) _)) (bnew (brefl _) _), keep_below (keep_below k9 (bnew (brefl _) _)) (bnew (brefl _) _), by go_simp, by go_simp, by go_simp, by go_simp, by go_simp, by go_simp, by go_simp, by go_simp, by go_simp, by go_simp, by go_simp, by go_simp, by go_simp, by go_simp, by go_simp, by go_simp, by go_simp, by go_simp, by go_simp, by go_simp, by go_simp, by go_simp, by go_simp, by go_simp, by go_simp, by go_simp, by go_simp, by go_simp, by go_simp, by go_simp, (kb1.alloc (by omega) _).alloc (by simp; omega) _, by simp⟩
  rw [hW2]
  clear hW2 kb1
  generalize w1.heap.size = Q at *
  have hzB : B < W2.heap.size := block_lt_of_cell k0
  have hzQ : Q < W2.heap.size := block_lt_of_cell x0
  have hq1 : B ≠ Q + 1 := by omega
  have hq2 : Q ≠ Q + 1 := by omega
  have hX := @ExtK.cell (Q + 1) W2
  have hzz0 := block_lt_of_cell k0
  have hzz1 := block_lt_of_cell x0
  have hzz2 := block_lt_of_cell y0
  refine wp_region_noPanic ?_
  refine wp_region_tree (fun w' => ∃ x : ExtK (Q + 1) W2, w' = x.w) (PT.one [0, 1, 2, 3, 4, 5, 6, 7] 8 (PT.one [] 9 (PT.fin []))) (by kernel_rfl) (by kernel_rfl) (by kernel_rfl) (fun _ _ _ _ _ h => h) ⟨⟨_, (Keeps.refl _ W2).drew⟩, rfl⟩ ?_
  refine wpTree_one ?_
  simp only [pickOps, List.getElem?_cons_succ, List.getElem?_cons_zero, Option.elim_some]
  repeat (go_big_quiet_step (fail))
  refine wpQuiet_nil ?_
  refine planAct_some (fun K hK => ?_)
  go_simp
  refine (hrt _).mono ?_
  rintro e wa ⟨rfl, hba0⟩
  have hba := of_drew hba0
  have y0 := keep_below y0 hba
  have y1 := keep_below y1 hba
  have y2 := keep_below y2 hba
  have y3 := keep_below y3 hba
  have y4 := keep_below y4 hba
  have y5 := keep_below y5 hba
  have y6 := keep_below y6 hba
  have y7 := keep_below y7 hba
  have y8 := keep_below y8 hba
  have y9 := keep_below y9 hba
  have f0 := keep_frozen f0 hz2 hba
  have f1 := keep_frozen f1 hz2 hba
  have f2 := keep_frozen f2 hz2 hba
  have f3 := keep_frozen f3 hz2 hba
  have f4 := keep_frozen f4 hz2 hba
  have f5 := keep_frozen f5 hz2 hba
  have f6 := keep_frozen f6 hz2 hba
  have f7 := keep_frozen f7 hz2 hba
  have f8 := keep_frozen f8 hz2 hba
  have f9 := keep_frozen f9 hz2 hba
  have hza : Q + 1 < wa.heap.size := block_lt_of_cell y0
  go_wp2_with fail
  refine hK.out _ _ ⟨⟨_, ((Keeps.refl _ W2).drew.trans_ (Keeps.of_below hba0))⟩, rfl⟩ ?_
  clear hK K
  refine wpTree_one ?_
  simp only [pickOps, List.getElem?_cons_succ, List.getElem?_cons_zero, Option.elim_some]
  repeat (go_big_quiet_step (fail))
  refine wpQuiet_nil ?_
  refine planAct_some (fun K hK => ?_)
  go_simp
  refine hK.out _ _ (extk_mem (by repeat (first | (with_reducible exact ((Keeps.refl _ W2).drew.trans_ (Keeps.of_below hba0))) | (with_reducible exact Keeps.refl _ _) | (with_reducible refine keepq_set ?_) | (with_reducible refine keepq_drew ?_)))) ?_
  clear hK K
  refine wpTree_fin ?_
  simp only [pickOps, List.getElem?_cons_succ, List.getElem?_cons_zero, Option.elim_some]
  repeat (go_big_quiet_step (fail))
  refine wpQuiet_nil ?_
  refine NoPanic.normal ?_
  clear hX hzz0 hzz1 hzz2
  obtain ⟨W3, hW3, k0, k1, k2, k3, k4, k5, k6, k7, k8, k9, x0, x1, x2, x3, x4, x5, x6, x7, x8, x9, y0, y1, y2, y3, y4, y5, y6, y7, y8, y9, kb3⟩ : ∃ W3, ((((((((((wa.setCell ⟨Q + 1, 0, none⟩ (.int .i64 T1.s0)).setCell ⟨Q + 1, 1, none⟩ (.bool T1.t0)).setCell ⟨Q + 1, 2, none⟩ (.int .i64 T1.s1)).setCell ⟨Q + 1, 3, none⟩ (.bool T1.t1)).setCell ⟨Q + 1, 4, none⟩ (.int .i64 T1.s2)).setCell ⟨Q + 1, 5, none⟩ (.bool T1.t2)).setCell ⟨Q + 1, 6, none⟩ (.int .i64 T1.s3)).setCell ⟨Q + 1, 7, none⟩ (.bool T1.t3)).setCell ⟨Q + 1, 8, none⟩ (.int .i64 T1.hd)).setCell ⟨Q + 1, 9, none⟩ (.int .u64 T1.tu)) = W3 ∧ W3.cell? ⟨B, 0, none⟩ = some (.int .i64 S.s0) ∧ W3.cell? ⟨B, 1, none⟩ = some (.bool S.t0) ∧ W3.cell? ⟨B, 2, none⟩ = some (.int .i64 S.s1) ∧ W3.cell? ⟨B, 3, none⟩ = some (.bool S.t1) ∧ W3.cell? ⟨B, 4, none⟩ = some (.int .i64 S.s2) ∧ W3.cell? ⟨B, 5, none⟩ = some (.bool S.t2) ∧ W3.cell? ⟨B, 6, none⟩ = some (.int .i64 S.s3) ∧ W3.cell? ⟨B, 7, none⟩ = some (.bool S.t3) ∧ W3.cell? ⟨B, 8, none⟩ = some (.int .i64 S.hd) ∧ W3.cell? ⟨B, 9, none⟩ = some (.int .u64 S.tu) ∧ W3.cell? ⟨Q, 0, none⟩ = some (.int .i64 S.s0) ∧ W3.cell? ⟨Q, 1, none⟩ = some (.bool S.t0) ∧ W3.cell? ⟨Q, 2, none⟩ = some (.int .i64 S.s1) ∧ W3.cell? ⟨Q, 3, none⟩ = some (.bool S.t1) ∧ W3.cell? ⟨Q, 4, none⟩ = some (.int .i64 S.s2) ∧ W3.cell? ⟨Q, 5, none⟩ = some (.bool S.t2) ∧ W3.cell? ⟨Q, 6, none⟩ = some (.int .i64 S.s3) ∧ W3.cell? ⟨Q, 7, none⟩ = some (.bool S.t3) ∧ W3.cell? ⟨Q, 8, none⟩ = some (.int .i64 S.hd) ∧ W3.cell? ⟨Q, 9, none⟩ = some (.int .u64 S.tu) ∧ W3.cell? ⟨Q + 1, 0, none⟩ = some (.int .i64 T1.s0) ∧ W3.cell? ⟨Q + 1, 1, none⟩ = some (.bool T1.t0) ∧ W3.cell? ⟨Q + 1, 2, none⟩ = some (.int .i64 T1.s1) ∧ W3.cell? ⟨Q + 1, 3, none⟩ = some (.bool T1.t1) ∧ W3.cell? ⟨Q + 1, 4, none⟩ = some (.int .i64 T1.s2) ∧ W3.cell? ⟨Q + 1, 5, none⟩ = some (.bool T1.t2) ∧ W3.cell? ⟨Q + 1, 6, none⟩ = some (.int .i64 T1.s3) ∧ W3.cell? ⟨Q + 1, 7, none⟩ = some (.bool T1.t3) ∧ W3.cell? ⟨Q + 1, 8, none⟩ = some (.int .i64 T1.hd) ∧ W3.cell? ⟨Q + 1, 9, none⟩ = some (.int .u64 T1.tu) ∧ Below B w W3 := by
    have kba : Below B w wa := kb2.trans (hba.mono (by omega))
    have k0 := keep_below k0 hba
    have k1 := keep_below k1 hba
    have k2 := keep_below k2 hba
    have k3 := keep_below k3 hba
    have k4 := keep_below k4 hba
    have k5 := keep_below k5 hba
    have k6 := keep_below k6 hba
    have k7 := keep_below k7 hba
    have k8 := keep_below k8 hba
    have k9 := keep_below k9 hba
    have x0 := keep_below x0 hba
    have x1 := keep_below x1 hba
    have x2 := keep_below x2 hba
    have x3 := keep_below x3 hba
    have x4 := keep_below x4 hba
    have x5 := keep_below x5 hba
    have x6 := keep_below x6 hba
    have x7 := keep_below x7 hba
    have x8 := keep_below x8 hba
    have x9 := keep_below x9 hba
    exact ⟨_, rfl, by go_simp, by go_simp, by go_simp, by go_simp, by go_simp, by go_simp, by go_simp, by go_simp, by go_simp, by go_simp, by go_simp, by go_simp, by go_simp, by go_simp, by go_simp, by go_simp, by go_simp, by go_simp, by go_simp, by go_simp, by go_simp, by go_simp, by go_simp, by go_simp, by go_simp, by go_simp, by go_simp, by go_simp, by go_simp, by go_simp, by repeat (first | (with_reducible exact kba) | (with_reducible refine Below.setCell ?_ (by simp <;> omega) _))⟩
  rw [hW3]
  clear hW3 kb2 hba hba0 hq1 hq2 hza hzB hzQ hz2
  have hzB : B < W3.heap.size := block_lt_of_cell k0
  go_upto_region 5 with (fail)
  go_cut [62] (fun v w' => v = .bool false ∧ Below W3.heap.size W3 w')
  case first =>
    have hX := @Ext.cell W3
    have hzz0 := block_lt_of_cell k0
    have hzz1 := block_lt_of_cell x0
    have hzz2 := block_lt_of_cell y0
    refine wp_region_noPanic ?_
    refine wp_region_tree (fun w' => ∃ x : Ext W3, w' = x.w) (PT.one [0, 1, 4] 2 (PT.one [] 3 (PT.one [5, 6, 7, 8, 9, 12, 13, 14, 15] 10 (PT.one [] 11 (PT.one [] 16 (PT.one [17, 18, 19, 20, 21, 24, 25, 26] 22 (PT.one [] 23 (PT.one [] 27 (PT.fin [28, 29]))))))))) (by kernel_rfl) (by kernel_rfl) (by kernel_rfl) (fun _ _ _ _ _ h => h) ⟨⟨_, (brefl W3).drew⟩, rfl⟩ ?_
    refine wpTree_one ?_
    simp only [pickOps, List.getElem?_cons_succ, List.getElem?_cons_zero, Option.elim_some]
    repeat (go_big_quiet_step (fail))
    refine wpQuiet_nil ?_
    refine planAct_some (fun K hK => ?_)
    go_simp
    refine (ht _).mono ?_
    rintro e v1 ⟨rfl, a1⟩
    go_wp2_with fail
    refine hK.out _ _ ⟨⟨_, (bnext (brefl W3).drew a1)⟩, rfl⟩ ?_
    clear hK K
    refine wpTree_one ?_
    simp only [pickOps, List.getElem?_cons_succ, List.getElem?_cons_zero, Option.elim_some]
    repeat (go_big_quiet_step (fail))
    refine wpQuiet_nil ?_
    refine planAct_some (fun K hK => ?_)
    go_simp
    refine (g1 _).mono ?_
    rintro e v2 ⟨rfl, a2⟩
    go_wp2_with fail
    refine hK.out _ _ ⟨⟨_, (bnext (bnext (brefl W3).drew a1) a2)⟩, rfl⟩ ?_
    clear hK K
    refine wpTree_one ?_
    simp only [pickOps, List.getElem?_cons_succ, List.getElem?_cons_zero, Option.elim_some]
    repeat (go_big_quiet_step (fail))
    refine wpQuiet_nil ?_
    refine planAct_some (fun K hK => ?_)
    go_simp
    refine (hs _).mono ?_
    rintro e v3 ⟨rfl, a3⟩
    go_wp2_with fail
    refine hK.out _ _ ⟨⟨_, (bnext (bnext (bnext (brefl W3).drew a1) a2) a3)⟩, rfl⟩ ?_
    clear hK K
    refine wpTree_one ?_
    simp only [pickOps, List.getElem?_cons_succ, List.getElem?_cons_zero, Option.elim_some]
    repeat (go_big_quiet_step (fail))
    refine wpQuiet_nil ?_
    refine planAct_some (fun K hK => ?_)
    go_simp
    refine (g2 _).mono ?_
    rintro e v4 ⟨rfl, a4⟩
    go_wp2_with fail
    refine hK.out _ _ ⟨⟨_, (bnext (bnext (bnext (bnext (brefl W3).drew a1) a2) a3) a4)⟩, rfl⟩ ?_
    clear hK K
    refine wpTree_one ?_
    simp only [pickOps, List.getElem?_cons_succ, List.getElem?_cons_zero, Option.elim_some]
    repeat (go_big_quiet_step (fail))
    refine wpQuiet_nil ?_
    refine planAct_some (fun K hK => ?_)
    go_simp
    refine (hrs _).mono ?_
    rintro e v5 ⟨rfl, a5⟩
    go_wp2_with fail
    refine hK.out _ _ ⟨⟨_, (bnext (bnext (bnext (bnext (bnext (brefl W3).drew a1) a2) a3) a4) a5)⟩, rfl⟩ ?_
    clear hK K
    refine wpTree_one ?_
    simp only [pickOps, List.getElem?_cons_succ, List.getElem?_cons_zero, Option.elim_some]
    repeat (go_big_quiet_step (fail))
    refine wpQuiet_nil ?_
    refine planAct_some (fun K hK => ?_)
    go_simp
    refine (hc _).mono ?_
    rintro e v6 ⟨rfl, a6⟩
    go_wp2_with fail
    refine hK.out _ _ ⟨⟨_, (bnext (bnext (bnext (bnext (bnext (bnext (brefl W3).drew a1) a2) a3) a4) a5) a6)⟩, rfl⟩ ?_
    clear hK K
    refine wpTree_one ?_
    simp only [pickOps, List.getElem?_cons_succ, List.getElem?_cons_zero, Option.elim_some]
    repeat (go_big_quiet_step (fail))
    refine wpQuiet_nil ?_
    refine planAct_some (fun K hK => ?_)
    go_simp
    refine (g3 _).mono ?_
    rintro e v7 ⟨rfl, a7⟩
    go_wp2_with fail
    refine hK.out _ _ ⟨⟨_, (bnext (bnext (bnext (bnext (bnext (bnext (bnext (brefl W3).drew a1) a2) a3) a4) a5) a6) a7)⟩, rfl⟩ ?_
    clear hK K
    refine wpTree_one ?_
    simp only [pickOps, List.getElem?_cons_succ, List.getElem?_cons_zero, Option.elim_some]
    repeat (go_big_quiet_step (fail))
    refine wpQuiet_nil ?_
    refine planAct_some (fun K hK => ?_)
    go_simp
    refine (hrc _).mono ?_
    rintro e v8 ⟨rfl, a8⟩
    go_wp2_with fail
    refine hK.out _ _ ⟨⟨_, (bnext (bnext (bnext (bnext (bnext (bnext (bnext (bnext (brefl W3).drew a1) a2) a3) a4) a5) a6) a7) a8)⟩, rfl⟩ ?_
    clear hK K
    refine wpTree_fin ?_
    simp only [pickOps, List.getElem?_cons_succ, List.getElem?_cons_zero, Option.elim_some]
    repeat (go_big_quiet_step (fail))
    refine wpQuiet_nil ?_
    refine NoPanic.normal ?_
    clear hX hzz0 hzz1 hzz2
    go_wp2_with fail
    go_meet
    case rel => exact ⟨rfl, (bnext (bnext (bnext (bnext (bnext (bnext (bnext (bnext (brefl W3).drew a1) a2) a3) a4) a5) a6) a7) a8)⟩
  case rest =>
  obtain ⟨rfl, hcut⟩ := hcut
  have k0 := keep_below k0 hcut
  have k1 := keep_below k1 hcut
  have k2 := keep_below k2 hcut
  have k3 := keep_below k3 hcut
  have k4 := keep_below k4 hcut
  have k5 := keep_below k5 hcut
  have k6 := keep_below k6 hcut
  have k7 := keep_below k7 hcut
  have k8 := keep_below k8 hcut
  have k9 := keep_below k9 hcut
  have x0 := keep_below x0 hcut
  have x1 := keep_below x1 hcut
  have x2 := keep_below x2 hcut
  have x3 := keep_below x3 hcut
  have x4 := keep_below x4 hcut
  have x5 := keep_below x5 hcut
  have x6 := keep_below x6 hcut
  have x7 := keep_below x7 hcut
  have x8 := keep_below x8 hcut
  have x9 := keep_below x9 hcut
  have kb5 : Below B w wc := kb3.trans (hcut.mono (by omega))
  have hzB5 : B < wc.heap.size := block_lt_of_cell k0
  have hzQ5 := block_lt_of_cell x0
  clear y0 y1 y2 y3 y4 y5 y6 y7 y8 y9 hcut kb3
  go_wp2_with fail
  refine (hp _).mono ?_
  rintro e w6 ⟨rfl, hb6⟩
  have x0 := keep_below x0 hb6
  have x1 := keep_below x1 hb6
  have x2 := keep_below x2 hb6
  have x3 := keep_below x3 hb6
  have x4 := keep_below x4 hb6
  have x5 := keep_below x5 hb6
  have x6 := keep_below x6 hb6
  have x7 := keep_below x7 hb6
  have x8 := keep_below x8 hb6
  have x9 := keep_below x9 hb6
  have kb6 : Below B w w6 := kb5.trans (hb6.mono (by omega))
  have hzB6 : B < w6.heap.size := by have := hb6.size; omega
  clear kb5 hb6 k0 k1 k2 k3 k4 k5 k6 k7 k8 k9 hzQ5
  go_upto_region 8 with (fail)
  obtain ⟨W7, hW7, x0, x1, x2, x3, x4, x5, x6, x7, x8, x9, y0, y1, y2, y3, y4, y5, y6, y7, y8, y9, kb7, hzB7⟩ : ∃ W7, w6.alloc (.cells #[.int .i64 P.s0, .bool P.t0, .int .i64 P.s1, .bool P.t1, .int .i64 P.s2, .bool P.t2, .int .i64 P.s3, .bool P.t3, .int .i64 P.hd, .int .u64 P.tu] 27) = W7 ∧ W7.cell? ⟨Q, 0, none⟩ = some (.int .i64 S.s0) ∧ W7.cell? ⟨Q, 1, none⟩ = some (.bool S.t0) ∧ W7.cell? ⟨Q, 2, none⟩ = some (.int .i64 S.s1) ∧ W7.cell? ⟨Q, 3, none⟩ = some (.bool S.t1) ∧ W7.cell? ⟨Q, 4, none⟩ = some (.int .i64 S.s2) ∧ W7.cell? ⟨Q, 5, none⟩ = some (.bool S.t2) ∧ W7.cell? ⟨Q, 6, none⟩ = some (.int .i64 S.s3) ∧ W7.cell? ⟨Q, 7, none⟩ = some (.bool S.t3) ∧ W7.cell? ⟨Q, 8, none⟩ = some (.int .i64 S.hd) ∧ W7.cell? ⟨Q, 9, none⟩ = some (.int .u64 S.tu) ∧ W7.cell? ⟨w6.heap.size, 0, none⟩ = some (.int .i64 P.s0) ∧ W7.cell? ⟨w6.heap.size, 1, none⟩ = some (.bool P.t0) ∧ W7.cell? ⟨w6.heap.size, 2, none⟩ = some (.int .i64 P.s1) ∧ W7.cell? ⟨w6.heap.size, 3, none⟩ = some (.bool P.t1) ∧ W7.cell? ⟨w6.heap.size, 4, none⟩ = some (.int .i64 P.s2) ∧ W7.cell? ⟨w6.heap.size, 5, none⟩ = some (.bool P.t2) ∧ W7.cell? ⟨w6.heap.size, 6, none⟩ = some (.int .i64 P.s3) ∧ W7.cell? ⟨w6.heap.size, 7, none⟩ = some (.bool P.t3) ∧ W7.cell? ⟨w6.heap.size, 8, none⟩ = some (.int .i64 P.hd) ∧ W7.cell? ⟨w6.heap.size, 9, none⟩ = some (.int .u64 P.tu) ∧ Below B w W7 ∧ B < W7.heap.size :=
    ⟨_, rfl, keep_below x0 (bnew (brefl _) _), keep_below x1 (bnew (brefl _) _), keep_below x2 (bnew (brefl _) _), keep_below x3 (bnew (brefl _) _), keep_below x4 (bnew (brefl _) _), keep_below x5 (bnew (brefl _) _), keep_below x6 (bnew (brefl _) _), keep_below x7 (bnew (brefl _) _), keep_below x8 (bnew (brefl _) _), keep_below x9 (bnew (brefl _) _), by go_simp, by go_simp, by go_simp, by go_simp, by go_simp, by go_simp, by go_simp, by go_simp, by go_simp, by go_simp, kb6.alloc (by omega) _, by simp; omega⟩
  rw [hW7]
  clear hW7 kb6
  generalize w6.heap.size = Q7 at *
  have hzQ7 := block_lt_of_cell x0
  go_wp2_with fail
  refine (hrp _).mono ?_
  rintro e w8 ⟨rfl, hb8⟩
  have y0 := keep_below y0 hb8
  have y1 := keep_below y1 hb8
  have y2 := keep_below y2 hb8
  have y3 := keep_below y3 hb8
  have y4 := keep_below y4 hb8
  have y5 := keep_below y5 hb8
  have y6 := keep_below y6 hb8
  have y7 := keep_below y7 hb8
  have y8 := keep_below y8 hb8
  have y9 := keep_below y9 hb8
  have kb8 : Below B w w8 := kb7.trans (hb8.mono (by omega))
  have hzB8 : B < w8.heap.size := by have := hb8.size; omega
  clear kb7 hb8 x0 x1 x2 x3 x4 x5 x6 x7 x8 x9 hzQ7
  go_upto_region 9 with (fail)
  obtain ⟨W9, hW9, x0, x1, x2, x3, x4, x5, x6, x7, x8, x9, y0, y1, y2, y3, y4, y5, y6, y7, y8, y9, kb9, hzB9⟩ : ∃ W9, w8.alloc (.cells #[.int .i64 P.s0, .bool P.t0, .int .i64 P.s1, .bool P.t1, .int .i64 P.s2, .bool P.t2, .int .i64 P.s3, .bool P.t3, .int .i64 P.hd, .int .u64 P.tu] 31) = W9 ∧ W9.cell? ⟨w8.heap.size, 0, none⟩ = some (.int .i64 P.s0) ∧ W9.cell? ⟨w8.heap.size, 1, none⟩ = some (.bool P.t0) ∧ W9.cell? ⟨w8.heap.size, 2, none⟩ = some (.int .i64 P.s1) ∧ W9.cell? ⟨w8.heap.size, 3, none⟩ = some (.bool P.t1) ∧ W9.cell? ⟨w8.heap.size, 4, none⟩ = some (.int .i64 P.s2) ∧ W9.cell? ⟨w8.heap.size, 5, none⟩ = some (.bool P.t2) ∧ W9.cell? ⟨w8.heap.size, 6, none⟩ = some (.int .i64 P.s3) ∧ W9.cell? ⟨w8.heap.size, 7, none⟩ = some (.bool P.t3) ∧ W9.cell? ⟨w8.heap.size, 8, none⟩ = some (.int .i64 P.hd) ∧ W9.cell? ⟨w8.heap.size, 9, none⟩ = some (.int .u64 P.tu) ∧ W9.cell? ⟨Q7, 0, none⟩ = some (.int .i64 P.s0) ∧ W9.cell? ⟨Q7, 1, none⟩ = some (.bool P.t0) ∧ W9.cell? ⟨Q7, 2, none⟩ = some (.int .i64 P.s1) ∧ W9.cell? ⟨Q7, 3, none⟩ = some (.bool P.t1) ∧ W9.cell? ⟨Q7, 4, none⟩ = some (.int .i64 P.s2) ∧ W9.cell? ⟨Q7, 5, none⟩ = some (.bool P.t2) ∧ W9.cell? ⟨Q7, 6, none⟩ = some (.int .i64 P.s3) ∧ W9.cell? ⟨Q7, 7, none⟩ = some (.bool P.t3) ∧ W9.cell? ⟨Q7, 8, none⟩ = some (.int .i64 P.hd) ∧ W9.cell? ⟨Q7, 9, none⟩ = some (.int .u64 P.tu) ∧ Below B w W9 ∧ B < W9.heap.size :=
    ⟨_, rfl, by go_simp, by go_simp, by go_simp, by go_simp, by go_simp, by go_simp, by go_simp, by go_simp, by go_simp, by go_simp, keep_below y0 (bnew (brefl _) _), keep_below y1 (bnew (brefl _) _), keep_below y2 (bnew (brefl _) _), keep_below y3 (bnew (brefl _) _), keep_below y4 (bnew (brefl _) _), keep_below y5 (bnew (brefl _) _), keep_below y6 (bnew (brefl _) _), keep_below y7 (bnew (brefl _) _), keep_below y8 (bnew (brefl _) _), keep_below y9 (bnew (brefl _) _), kb8.alloc (by omega) _, by simp; omega⟩
  rw [hW9]
  clear hW9 kb8
  generalize w8.heap.size = Q9 at *
  have hX := @Ext.cell W9
  have hzz0 := block_lt_of_cell x0
  have hzz1 := block_lt_of_cell y0
  refine wp_region_noPanic ?_
  refine wp_region_plan (fun w' => ∃ x : Ext W9, w' = x.w) [([0, 2], 1), ([3, 4, 5, 6, 7, 8, 9, 10, 11, 12, 13, 14], 15)] [16, 17] (by kernel_rfl) (by kernel_rfl) (by kernel_rfl) (fun _ _ _ _ _ h => h) ⟨⟨_, (brefl W9).drew⟩, rfl⟩ ?_
  refine wpPlan_cons ?_
  simp only [pickOps, List.getElem?_cons_succ, List.getElem?_cons_zero, Option.elim_some]
  repeat (go_big_quiet_step (fail))
  refine wpQuiet_nil ?_
  refine planAct_some (fun K hK => ?_)
  go_simp
  refine (g4 _).mono ?_
  rintro e w10 ⟨rfl, h10⟩
  go_wp2_with fail
  refine hK.out _ _ ⟨⟨_, (bnext (brefl W9).drew h10)⟩, rfl⟩ ?_
  clear hK K
  refine wpPlan_cons ?_
  simp only [pickOps, List.getElem?_cons_succ, List.getElem?_cons_zero, Option.elim_some]
  repeat (go_big_quiet_step (fail))
  refine wpQuiet_nil ?_
  refine planAct_some (fun K hK => ?_)
  go_simp
  refine (lives11 _).mono ?_
  rintro e w11 ⟨rfl, h11⟩
  go_wp2_with fail
  refine hK.out _ _ ⟨⟨_, (bnext (bnext (brefl W9).drew h10) h11)⟩, rfl⟩ ?_
  clear hK K
  refine wpPlan_last ?_
  simp only [pickOps, List.getElem?_cons_succ, List.getElem?_cons_zero, Option.elim_some]
  repeat (go_big_quiet_step (fail))
  refine wpQuiet_nil ?_
  refine NoPanic.normal ?_
  clear hX hzz0 hzz1
  go_wp2
  go_ret
  exact ⟨rfl, by rw [HB.out]; exact kb9.trans ((bnext (bnext (brefl W9).drew h10) h11).mono (by omega))⟩

set_option maxHeartbeats 8000000 in
set_option maxRecDepth 100000 in
theorem turn_neg (S : WS) {i : Int} (h : i < 0) (slot : Int) (T1 T2 T3 P : WS) (pi : Int) (was : Int) 
    (ht : ∀ w : World, Calls Try.prog 8 #[.agg #[.int .i64 S.s0, .bool S.t0, .int .i64 S.s1, .bool S.t1, .int .i64 S.s2, .bool S.t2, .int .i64 S.s3, .bool S.t3, .int .i64 S.hd, .int .u64 S.tu], .int .i64 i] w fun e w' => e = .returned (.agg #[.int .i64 T1.s0, .bool T1.t0, .int .i64 T1.s1, .bool T1.t1, .int .i64 T1.s2, .bool T1.t2, .int .i64 T1.s3, .bool T1.t3, .int .i64 T1.hd, .int .u64 T1.tu]) ∧ Below w.heap.size w w')
    (hT1 : T1 = S)
    (hs : ∀ w : World, Calls Try.prog 9 #[.agg #[.int .i64 S.s0, .bool S.t0, .int .i64 S.s1, .bool S.t1, .int .i64 S.s2, .bool S.t2, .int .i64 S.s3, .bool S.t3, .int .i64 S.hd, .int .u64 S.tu], .int .i64 i, .int .i64 slot] w fun e w' => e = .returned (.agg #[.int .i64 T2.s0, .bool T2.t0, .int .i64 T2.s1, .bool T2.t1, .int .i64 T2.s2, .bool T2.t2, .int .i64 T2.s3, .bool T2.t3, .int .i64 T2.hd, .int .u64 T2.tu]) ∧ Below w.heap.size w w')
    (hrs : ∀ w : World, Calls Try.prog 7 #[.agg #[.int .i64 S.s0, .bool S.t0, .int .i64 S.s1, .bool S.t1, .int .i64 S.s2, .bool S.t2, .int .i64 S.s3, .bool S.t3, .int .i64 S.hd, .int .u64 S.tu], .int .i64 i, .agg #[.int .i64 slot, .bool true]] w fun e w' => e = .returned (.agg #[.int .i64 T2.s0, .bool T2.t0, .int .i64 T2.s1, .bool T2.t1, .int .i64 T2.s2, .bool T2.t2, .int .i64 T2.s3, .bool T2.t3, .int .i64 T2.hd, .int .u64 T2.tu]) ∧ Below w.heap.size w w')
    (hc : ∀ w : World, Calls Try.prog 10 #[.agg #[.int .i64 S.s0, .bool S.t0, .int .i64 S.s1, .bool S.t1, .int .i64 S.s2, .bool S.t2, .int .i64 S.s3, .bool S.t3, .int .i64 S.hd, .int .u64 S.tu], .int .i64 i] w fun e w' => e = .returned (.agg #[.int .i64 T3.s0, .bool T3.t0, .int .i64 T3.s1, .bool T3.t1, .int .i64 T3.s2, .bool T3.t2, .int .i64 T3.s3, .bool T3.t3, .int .i64 T3.hd, .int .u64 T3.tu]) ∧ Below w.heap.size w w')
    (hrc : ∀ w : World, Calls Try.prog 7 #[.agg #[.int .i64 S.s0, .bool S.t0, .int .i64 S.s1, .bool S.t1, .int .i64 S.s2, .bool S.t2, .int .i64 S.s3, .bool S.t3, .int .i64 S.hd, .int .u64 S.tu], .int .i64 i, .agg #[.int .i64 0, .bool false]] w fun e w' => e = .returned (.agg #[.int .i64 T3.s0, .bool T3.t0, .int .i64 T3.s1, .bool T3.t1, .int .i64 T3.s2, .bool T3.t2, .int .i64 T3.s3, .bool T3.t3, .int .i64 T3.hd, .int .u64 T3.tu]) ∧ Below w.heap.size w w')
    (hp : ∀ w : World, Calls Try.prog 11 #[.agg #[.int .i64 S.s0, .bool S.t0, .int .i64 S.s1, .bool S.t1, .int .i64 S.s2, .bool S.t2, .int .i64 S.s3, .bool S.t3, .int .i64 S.hd, .int .u64 S.tu], .int .i64 slot] w fun e w' => e = .returned (.tuple #[.agg #[.int .i64 P.s0, .bool P.t0, .int .i64 P.s1, .bool P.t1, .int .i64 P.s2, .bool P.t2, .int .i64 P.s3, .bool P.t3, .int .i64 P.hd, .int .u64 P.tu], .int .i64 pi, .int .i64 was]) ∧ Below w.heap.size w w')
    (hrp : ∀ w : World, Calls Try.prog 12 #[.agg #[.int .i64 S.s0, .bool S.t0, .int .i64 S.s1, .bool S.t1, .int .i64 S.s2, .bool S.t2, .int .i64 S.s3, .bool S.t3, .int .i64 S.hd, .int .u64 S.tu], .int .i64 slot] w fun e w' => e = .returned (.tuple #[.agg #[.int .i64 P.s0, .bool P.t0, .int .i64 P.s1, .bool P.t1, .int .i64 P.s2, .bool P.t2, .int .i64 P.s3, .bool P.t3, .int .i64 P.hd, .int .u64 P.tu], .int .i64 pi, .int .i64 was]) ∧ Below w.heap.size w w') (w : World) :
    Calls Try.prog 3 #[.agg #[.int .i64 S.s0, .bool S.t0, .int .i64 S.s1, .bool S.t1, .int .i64 S.s2, .bool S.t2, .int .i64 S.s3, .bool S.t3, .int .i64 S.hd, .int .u64 S.tu], .int .i64 i, .int .i64 slot] w fun e w' => e = .returned (.bool true) ∧ Below w.heap.size w w' := by
  have tt : decide (0 ≤ i) = false := decide_eq_false (by omega)
  have hT := Lib.hid hT1
  clear hT1
  rw [hT.out] at ht
  have n1 := neR S
  have n2 := neR T2
  have n3 := neR T3
  have n4 := eqR P
  have g1 := to_any S
  have g2 := to_any T2
  have g3 := to_any T3
  have g4 := to_any P
  have u1 : (pi == pi) = true := by simp
  have u2 : (was == was) = true := by simp
  go_enter Try.func3, Try.ntmps3
  go_wp2_with fail
  obtain ⟨W0, hW0, k0, k1, k2, k3, k4, k5, k6, k7, k8, k9, kb⟩ : ∃ W0, w.alloc (.cells #[.int .i64 S.s0, .bool S.t0, .int .i64 S.s1, .bool S.t1, .int .i64 S.s2, .bool S.t2, .int .i64 S.s3, .bool S.t3, .int .i64 S.hd, .int .u64 S.tu] 27) = W0 ∧ W0.cell? ⟨w.heap.size, 0, none⟩ = some (.int .i64 S.s0) ∧ W0.cell? ⟨w.heap.size, 1, none⟩ = some (.bool S.t0) ∧ W0.cell? ⟨w.heap.size, 2, none⟩ = some (.int .i64 S.s1) ∧ W0.cell? ⟨w.heap.size, 3, none⟩ = some (.bool S.t1) ∧ W0.cell? ⟨w.heap.size, 4, none⟩ = some (.int .i64 S.s2) ∧ W0.cell? ⟨w.heap.size, 5, none⟩ = some (.bool S.t2) ∧ W0.cell? ⟨w.heap.size, 6, none⟩ = some (.int .i64 S.s3) ∧ W0.cell? ⟨w.heap.size, 7, none⟩ = some (.bool S.t3) ∧ W0.cell? ⟨w.heap.size, 8, none⟩ = some (.int .i64 S.hd) ∧ W0.cell? ⟨w.heap.size, 9, none⟩ = some (.int .u64 S.tu) ∧ Below w.heap.size w W0 :=
    ⟨_, rfl, by go_simp, by go_simp, by go_simp, by go_simp, by go_simp, by go_simp, by go_simp, by go_simp, by go_simp, by go_simp, bnew (brefl w) _⟩
  rw [hW0]
  clear hW0
  generalize hBB : w.heap.size = B at *
  have HB := Lib.hid hBB
  clear hBB
  have hz0 : B < W0.heap.size := block_lt_of_cell k0
  refine (to_any S _).mono ?_
  rintro e w1 ⟨rfl, hb1⟩
  have k0 := keep_below k0 hb1
  have k1 := keep_below k1 hb1
  have k2 := keep_below k2 hb1
  have k3 := keep_below k3 hb1
  have k4 := keep_below k4 hb1
  have k5 := keep_below k5 hb1
  have k6 := keep_below k6 hb1
  have k7 := keep_below k7 hb1
  have k8 := keep_below k8 hb1
  have k9 := keep_below k9 hb1
  have kb1 : Below B w w1 := kb.trans (hb1.mono (by omega))
  have hz1 : B < w1.heap.size := block_lt_of_cell k0
  clear kb hb1 hz0
  go_upto_region 5 with (fail)
  obtain ⟨W2, hW2, k0, k1, k2, k3, k4, k5, k6, k7, k8, k9, x0, x1, x2, x3, x4, x5, x6, x7, x8, x9, y0, y1, y2, y3, y4, y5, y6, y7, y8, y9, f0, f1, f2, f3, f4, f5, f6, f7, f8, f9, kb2, hz2⟩ : ∃ W2, (w1.alloc (.cells #[.int .i64 S.s0, .bool S.t0, .int .i64 S.s1, .bool S.t1, .int .i64 S.s2, .bool S.t2, .int .i64 S.s3, .bool S.t3, .int .i64 S.hd, .int .u64 S.tu] 31)).alloc (.cells #[.int .i64 S.s0, .bool S.t0, .int .i64 S.s1, .bool S.t1, .int .i64 S.s2, .bool S.t2, .int .i64 S.s3, .bool S.t3, .int .i64 S.hd, .int .u64 S.tu] 31) = W2 ∧ W2.cell? ⟨B, 0, none⟩ = some (.int .i64 S.s0) ∧ W2.cell? ⟨B, 1, none⟩ = some (.bool S.t0) ∧ W2.cell? ⟨B, 2, none⟩ = some (.int .i64 S.s1) ∧ W2.cell? ⟨B, 3, none⟩ = some (.bool S.t1) ∧ W2.cell? ⟨B, 4, none⟩ = some (.int .i64 S.s2) ∧ W2.cell? ⟨B, 5, none⟩ = some (.bool S.t2) ∧ W2.cell? ⟨B, 6, none⟩ = some (.int .i64 S.s3) ∧ W2.cell? ⟨B, 7, none⟩ = some (.bool S.t3) ∧ W2.cell? ⟨B, 8, none⟩ = some (.int .i64 S.hd) ∧ W2.cell? ⟨B, 9, none⟩ = some (.int .u64 S.tu) ∧ W2.cell? ⟨w1.heap.size, 0, none⟩ = some (.int .i64 S.s0) ∧ W2.cell? ⟨w1.heap.size, 1, none⟩ = some (.bool S.t0) ∧ W2.cell? ⟨w1.heap.size, 2, none⟩ = some (.int .i64 S.s1) ∧ W2.cell? ⟨w1.heap.size, 3, none⟩ = some (.bool S.t1) ∧ W2.cell? ⟨w1.heap.size, 4, none⟩ = some (.int .i64 S.s2) ∧ W2.cell? ⟨w1.heap.size, 5, none⟩ = some (.bool S.t2) ∧ W2.cell? ⟨w1.heap.size, 6, none⟩ = some (.int .i64 S.s3) ∧ W2.cell? ⟨w1.heap.size, 7, none⟩ = some (.bool S.t3) ∧ W2.cell? ⟨w1.heap.size, 8, none⟩ = some (.int .i64 S.hd) ∧ W2.cell? ⟨w1.heap.size, 9, none⟩ = some (.int .u64 S.tu) ∧ W2.cell? ⟨w1.heap.size + 1, 0, none⟩ = some (.int .i64 S.s0) ∧ W2.cell? ⟨w1.heap.size + 1, 1, none⟩ = some (.bool S.t0) ∧ W2.cell? ⟨w1.heap.size + 1, 2, none⟩ = some (.int .i64 S.s1) ∧ W2.cell? ⟨w1.heap.size + 1, 3, none⟩ = some (.bool S.t1) ∧ W2.cell? ⟨w1.heap.size + 1, 4, none⟩ = some (.int .i64 S.s2) ∧ W2.cell? ⟨w1.heap.size + 1, 5, none⟩ = some (.bool S.t2) ∧ W2.cell? ⟨w1.heap.size + 1, 6, none⟩ = some (.int .i64 S.s3) ∧ W2.cell? ⟨w1.heap.size + 1, 7, none⟩ = some (.bool S.t3) ∧ W2.cell? ⟨w1.heap.size + 1, 8, none⟩ = some (.int .i64 S.hd) ∧ W2.cell? ⟨w1.heap.size + 1, 9, none⟩ = some (.int .u64 S.tu) ∧ W2.frozen? ⟨w1.heap.size + 1, 0, none⟩ = false ∧ W2.frozen? ⟨w1.heap.size + 1, 1, none⟩ = false ∧ W2.frozen? ⟨w1.heap.size + 1, 2, none⟩ = false ∧ W2.frozen? ⟨w1.heap.size + 1, 3, none⟩ = false ∧ W2.frozen? ⟨w1.heap.size + 1, 4, none⟩ = false ∧ W2.frozen? ⟨w1.heap.size + 1, 5, none⟩ = false ∧ W2.frozen? ⟨w1.heap.size + 1, 6, none⟩ = false ∧ W2.frozen? ⟨w1.heap.size + 1, 7, none⟩ = false ∧ W2.frozen? ⟨w1.heap.size + 1, 8, none⟩ = false ∧ W2.frozen? ⟨w1.heap.size + 1, 9, none⟩ = false ∧ Below B w W2 ∧ w1.heap.size + 1 < W2.heap.size :=
    ⟨_, rfl, keep_below (keep_below k0 (bnew (brefl _) _)) (bnew (brefl _) _), keep_below (keep_below k1 (bnew (brefl _) _)) (bnew (brefl _) _), keep_below (keep_below k2 (bnew (brefl _) _)) (bnew (brefl _) _), keep_below (keep_below k3 (bnew (brefl _) _)) (bnew (brefl _) _), keep_below (keep_below k4 (bnew (brefl _) _)) (bnew (brefl _) _), keep_below (keep_below k5 (bnew (brefl _) _)) (bnew (brefl _) _), keep_below (keep_below k6 (bnew (brefl _) _)) (bnew (brefl _) _), keep_below (keep_below k7 (bnew (brefl _) _)) (bnew (brefl _) _), keep_below (keep_below k8 (bnew (brefl _) _)) (bnew (brefl _) _), keep_below (keep_below k9 (bnew (brefl _) _)) (bnew (brefl _) _), by go_simp, by go_simp, by go_simp, by go_simp, by go_simp, by go_simp, by go_simp, by go_simp, by go_simp, by go_simp, by go_simp, by go_simp, by go_simp, by go_simp, by go_simp, by go_simp, by go_simp, by go_simp, by go_simp, by go_simp, by go_simp, by go_simp, by go_simp, by go_simp, by go_simp, by go_simp, by go_simp, by go_simp, by go_simp, by go_simp, (kb1.alloc (by omega) _).alloc (by simp; omega) _, by simp⟩
  rw [hW2]
  clear hW2 kb1
  generalize w1.heap.size = Q at *
  have hzB : B < W2.heap.size := block_lt_of_cell k0
  have hzQ : Q < W2.heap.size := block_lt_of_cell x0
  clear hz2
  go_cut [62] (fun v w' => v = .bool false ∧ Below W2.heap.size W2 w')
  case first =>
    have hX := @Ext.cell W2
    have hzz0 := block_lt_of_cell k0
    have hzz1 := block_lt_of_cell x0
    have hzz2 := block_lt_of_cell y0
    refine wp_region_noPanic ?_
    refine wp_region_tree (fun w' => ∃ x : Ext W2, w' = x.w) (PT.one [0, 1, 4] 2 (PT.one [] 3 (PT.one [5, 6, 7, 8, 9, 12, 13, 14, 15] 10 (PT.one [] 11 (PT.one [] 16 (PT.one [17, 18, 19, 20, 21, 24, 25, 26] 22 (PT.one [] 23 (PT.one [] 27 (PT.fin [28, 29]))))))))) (by kernel_rfl) (by kernel_rfl) (by kernel_rfl) (fun _ _ _ _ _ h => h) ⟨⟨_, (brefl W2).drew⟩, rfl⟩ ?_
    refine wpTree_one ?_
    simp only [pickOps, List.getElem?_cons_succ, List.getElem?_cons_zero, Option.elim_some]
    repeat (go_big_quiet_step (fail))
    refine wpQuiet_nil ?_
    refine planAct_some (fun K hK => ?_)
    go_simp
    refine (ht _).mono ?_
    rintro e v1 ⟨rfl, a1⟩
    go_wp2_with fail
    refine hK.out _ _ ⟨⟨_, (bnext (brefl W2).drew a1)⟩, rfl⟩ ?_
    clear hK K
    refine wpTree_one ?_
    simp only [pickOps, List.getElem?_cons_succ, List.getElem?_cons_zero, Option.elim_some]
    repeat (go_big_quiet_step (fail))
    refine wpQuiet_nil ?_
    refine planAct_some (fun K hK => ?_)
    go_simp
    refine (g1 _).mono ?_
    rintro e v2 ⟨rfl, a2⟩
    go_wp2_with fail
    refine hK.out _ _ ⟨⟨_, (bnext (bnext (brefl W2).drew a1) a2)⟩, rfl⟩ ?_
    clear hK K
    refine wpTree_one ?_
    simp only [pickOps, List.getElem?_cons_succ, List.getElem?_cons_zero, Option.elim_some]
    repeat (go_big_quiet_step (fail))
    refine wpQuiet_nil ?_
    refine planAct_some (fun K hK => ?_)
    go_simp
    refine (hs _).mono ?_
    rintro e v3 ⟨rfl, a3⟩
    go_wp2_with fail
    refine hK.out _ _ ⟨⟨_, (bnext (bnext (bnext (brefl W2).drew a1) a2) a3)⟩, rfl⟩ ?_
    clear hK K
    refine wpTree_one ?_
    simp only [pickOps, List.getElem?_cons_succ, List.getElem?_cons_zero, Option.elim_some]
    repeat (go_big_quiet_step (fail))
    refine wpQuiet_nil ?_
    refine planAct_some (fun K hK => ?_)
    go_simp
    refine (g2 _).mono ?_
    rintro e v4 ⟨rfl, a4⟩
    go_wp2_with fail
    refine hK.out _ _ ⟨⟨_, (bnext (bnext (bnext (bnext (brefl W2).drew a1) a2) a3) a4)⟩, rfl⟩ ?_
    clear hK K
    refine wpTree_one ?_
    simp only [pickOps, List.getElem?_cons_succ, List.getElem?_cons_zero, Option.elim_some]
    repeat (go_big_quiet_step (fail))
    refine wpQuiet_nil ?_
    refine planAct_some (fun K hK => ?_)
    go_simp
    refine (hrs _).mono ?_
    rintro e v5 ⟨rfl, a5⟩
    go_wp2_with fail
    refine hK.out _ _ ⟨⟨_, (bnext (bnext (bnext (bnext (bnext (brefl W2).drew a1) a2) a3) a4) a5)⟩, rfl⟩ ?_
    clear hK K
    refine wpTree_one ?_
    simp only [pickOps, List.getElem?_cons_succ, List.getElem?_cons_zero, Option.elim_some]
    repeat (go_big_quiet_step (fail))
    refine wpQuiet_nil ?_
    refine planAct_some (fun K hK => ?_)
    go_simp
    refine (hc _).mono ?_
    rintro e v6 ⟨rfl, a6⟩
    go_wp2_with fail
    refine hK.out _ _ ⟨⟨_, (bnext (bnext (bnext (bnext (bnext (bnext (brefl W2).drew a1) a2) a3) a4) a5) a6)⟩, rfl⟩ ?_
    clear hK K
    refine wpTree_one ?_
    simp only [pickOps, List.getElem?_cons_succ, List.getElem?_cons_zero, Option.elim_some]
    repeat (go_big_quiet_step (fail))
    refine wpQuiet_nil ?_
    refine planAct_some (fun K hK => ?_)
    go_simp
    refine (g3 _).mono ?_
    rintro e v7 ⟨rfl, a7⟩
    go_wp2_with fail
    refine hK.out _ _ ⟨⟨_, (bnext (bnext (bnext (bnext (bnext (bnext (bnext (brefl W2).drew a1) a2) a3) a4) a5) a6) a7)⟩, rfl⟩ ?_
    clear hK K
    refine wpTree_one ?_
    simp only [pickOps, List.getElem?_cons_succ, List.getElem?_cons_zero, Option.elim_some]
    repeat (go_big_quiet_step (fail))
    refine wpQuiet_nil ?_
    refine planAct_some (fun K hK => ?_)
    go_simp
    refine (hrc _).mono ?_
    rintro e v8 ⟨rfl, a8⟩
    go_wp2_with fail
    refine hK.out _ _ ⟨⟨_, (bnext (bnext (bnext (bnext (bnext (bnext (bnext (bnext (brefl W2).drew a1) a2) a3) a4) a5) a6) a7) a8)⟩, rfl⟩ ?_
    clear hK K
    refine wpTree_fin ?_
    simp only [pickOps, List.getElem?_cons_succ, List.getElem?_cons_zero, Option.elim_some]
    repeat (go_big_quiet_step (fail))
    refine wpQuiet_nil ?_
    refine NoPanic.normal ?_
    clear hX hzz0 hzz1 hzz2
    go_wp2_with fail
    go_meet
    case rel => exact ⟨rfl, (bnext (bnext (bnext (bnext (bnext (bnext (bnext (bnext (brefl W2).drew a1) a2) a3) a4) a5) a6) a7) a8)⟩
  case rest =>
  obtain ⟨rfl, hcut⟩ := hcut
  have k0 := keep_below k0 hcut
  have k1 := keep_below k1 hcut
  have k2 := keep_below k2 hcut
  have k3 := keep_below k3 hcut
  have k4 := keep_below k4 hcut
  have k5 := keep_below k5 hcut
  have k6 := keep_below k6 hcut
  have k7 := keep_below k7 hcut
  have k8 := keep_below k8 hcut
  have k9 := keep_below k9 hcut
  have x0 := keep_below x0 hcut
  have x1 := keep_below x1 hcut
  have x2 := keep_below x2 hcut
  have x3 := keep_below x3 hcut
  have x4 := keep_below x4 hcut
  have x5 := keep_below x5 hcut
  have x6 := keep_below x6 hcut
  have x7 := keep_below x7 hcut
  have x8 := keep_below x8 hcut
  have x9 := keep_below x9 hcut
  have kb5 : Below B w wc := kb2.trans (hcut.mono (by omega))
  have hzB5 : B < wc.heap.size := block_lt_of_cell k0
  have hzQ5 := block_lt_of_cell x0
  clear y0 y1 y2 y3 y4 y5 y6 y7 y8 y9 hcut kb2
  go_wp2_with fail
  refine (hp _).mono ?_
  rintro e w6 ⟨rfl, hb6⟩
  have x0 := keep_below x0 hb6
  have x1 := keep_below x1 hb6
  have x2 := keep_below x2 hb6
  have x3 := keep_below x3 hb6
  have x4 := keep_below x4 hb6
  have x5 := keep_below x5 hb6
  have x6 := keep_below x6 hb6
  have x7 := keep_below x7 hb6
  have x8 := keep_below x8 hb6
  have x9 := keep_below x9 hb6
  have kb6 : Below B w w6 := kb5.trans (hb6.mono (by omega))
  have hzB6 : B < w6.heap.size := by have := hb6.size; omega
  clear kb5 hb6 k0 k1 k2 k3 k4 k5 k6 k7 k8 k9 hzQ5
  go_upto_region 8 with (fail)
  obtain ⟨W7, hW7, x0, x1, x2, x3, x4, x5, x6, x7, x8, x9, y0, y1, y2, y3, y4, y5, y6, y7, y8, y9, kb7, hzB7⟩ : ∃ W7, w6.alloc (.cells #[.int .i64 P.s0, .bool P.t0, .int .i64 P.s1, .bool P.t1, .int .i64 P.s2, .bool P.t2, .int .i64 P.s3, .bool P.t3, .int .i64 P.hd, .int .u64 P.tu] 27) = W7 ∧ W7.cell? ⟨Q, 0, none⟩ = some (.int .i64 S.s0) ∧ W7.cell? ⟨Q, 1, none⟩ = some (.bool S.t0) ∧ W7.cell? ⟨Q, 2, none⟩ = some (.int .i64 S.s1) ∧ W7.cell? ⟨Q, 3, none⟩ = some (.bool S.t1) ∧ W7.cell? ⟨Q, 4, none⟩ = some (.int .i64 S.s2) ∧ W7.cell? ⟨Q, 5, none⟩ = some (.bool S.t2) ∧ W7.cell? ⟨Q, 6, none⟩ = some (.int .i64 S.s3) ∧ W7.cell? ⟨Q, 7, none⟩ = some (.bool S.t3) ∧ W7.cell? ⟨Q, 8, none⟩ = some (.int .i64 S.hd) ∧ W7.cell? ⟨Q, 9, none⟩ = some (.int .u64 S.tu) ∧ W7.cell? ⟨w6.heap.size, 0, none⟩ = some (.int .i64 P.s0) ∧ W7.cell? ⟨w6.heap.size, 1, none⟩ = some (.bool P.t0) ∧ W7.cell? ⟨w6.heap.size, 2, none⟩ = some (.int .i64 P.s1) ∧ W7.cell? ⟨w6.heap.size, 3, none⟩ = some (.bool P.t1) ∧ W7.cell? ⟨w6.heap.size, 4, none⟩ = some (.int .i64 P.s2) ∧ W7.cell? ⟨w6.heap.size, 5, none⟩ = some (.bool P.t2) ∧ W7.cell? ⟨w6.heap.size, 6, none⟩ = some (.int .i64 P.s3) ∧ W7.cell? ⟨w6.heap.size, 7, none⟩ = some (.bool P.t3) ∧ W7.cell? ⟨w6.heap.size, 8, none⟩ = some (.int .i64 P.hd) ∧ W7.cell? ⟨w6.heap.size, 9, none⟩ = some (.int .u64 P.tu) ∧ Below B w W7 ∧ B < W7.heap.size :=
    ⟨_, rfl, keep_below x0 (bnew (brefl _) _), keep_below x1 (bnew (brefl _) _), keep_below x2 (bnew (brefl _) _), keep_below x3 (bnew (brefl _) _), keep_below x4 (bnew (brefl _) _), keep_below x5 (bnew (brefl _) _), keep_below x6 (bnew (brefl _) _), keep_below x7 (bnew (brefl _) _), keep_below x8 (bnew (brefl _) _), keep_below x9 (bnew (brefl _) _), by go_simp, by go_simp, by go_simp, by go_simp, by go_simp, by go_simp, by go_simp, by go_simp, by go_simp, by go_simp, kb6.alloc (by omega) _, by simp; omega⟩
  rw [hW7]
  clear hW7 kb6
  generalize w6.heap.size = Q7 at *
  have hzQ7 := block_lt_of_cell x0
  go_wp2_with fail
  refine (hrp _).mono ?_
  rintro e w8 ⟨rfl, hb8⟩
  have y0 := keep_below y0 hb8
  have y1 := keep_below y1 hb8
  have y2 := keep_below y2 hb8
  have y3 := keep_below y3 hb8
  have y4 := keep_below y4 hb8
  have y5 := keep_below y5 hb8
  have y6 := keep_below y6 hb8
  have y7 := keep_below y7 hb8
  have y8 := keep_below y8 hb8
  have y9 := keep_below y9 hb8
  have kb8 : Below B w w8 := kb7.trans (hb8.mono (by omega))
  have hzB8 : B < w8.heap.size := by have := hb8.size; omega
  clear kb7 hb8 x0 x1 x2 x3 x4 x5 x6 x7 x8 x9 hzQ7
  go_upto_region 9 with (fail)
  obtain ⟨W9, hW9, x0, x1, x2, x3, x4, x5, x6, x7, x8, x9, y0, y1, y2, y3, y4, y5, y6, y7, y8, y9, kb9, hzB9⟩ : ∃ W9, w8.alloc (.cells #[.int .i64 P.s0, .bool P.t0, .int .i64 P.s1, .bool P.t1, .int .i64 P.s2, .bool P.t2, .int .i64 P.s3, .bool P.t3, .int .i64 P.hd, .int .u64 P.tu] 31) = W9 ∧ W9.cell? ⟨w8.heap.size, 0, none⟩ = some (.int .i64 P.s0) ∧ W9.cell? ⟨w8.heap.size, 1, none⟩ = some (.bool P.t0) ∧ W9.cell? ⟨w8.heap.size, 2, none⟩ = some (.int .i64 P.s1) ∧ W9.cell? ⟨w8.heap.size, 3, none⟩ = some (.bool P.t1) ∧ W9.cell? ⟨w8.heap.size, 4, none⟩ = some (.int .i64 P.s2) ∧ W9.cell? ⟨w8.heap.size, 5, none⟩ = some (.bool P.t2) ∧ W9.cell? ⟨w8.heap.size, 6, none⟩ = some (.int .i64 P.s3) ∧ W9.cell? ⟨w8.heap.size, 7, none⟩ = some (.bool P.t3) ∧ W9.cell? ⟨w8.heap.size, 8, none⟩ = some (.int .i64 P.hd) ∧ W9.cell? ⟨w8.heap.size, 9, none⟩ = some (.int .u64 P.tu) ∧ W9.cell? ⟨Q7, 0, none⟩ = some (.int .i64 P.s0) ∧ W9.cell? ⟨Q7, 1, none⟩ = some (.bool P.t0) ∧ W9.cell? ⟨Q7, 2, none⟩ = some (.int .i64 P.s1) ∧ W9.cell? ⟨Q7, 3, none⟩ = some (.bool P.t1) ∧ W9.cell? ⟨Q7, 4, none⟩ = some (.int .i64 P.s2) ∧ W9.cell? ⟨Q7, 5, none⟩ = some (.bool P.t2) ∧ W9.cell? ⟨Q7, 6, none⟩ = some (.int .i64 P.s3) ∧ W9.cell? ⟨Q7, 7, none⟩ = some (.bool P.t3) ∧ W9.cell? ⟨Q7, 8, none⟩ = some (.int .i64 P.hd) ∧ W9.cell? ⟨Q7, 9, none⟩ = some (.int .u64 P.tu) ∧ Below B w W9 ∧ B < W9.heap.size :=
    ⟨_, rfl, by go_simp, by go_simp, by go_simp, by go_simp, by go_simp, by go_simp, by go_simp, by go_simp, by go_simp, by go_simp, keep_below y0 (bnew (brefl _) _), keep_below y1 (bnew (brefl _) _), keep_below y2 (bnew (brefl _) _), keep_below y3 (bnew (brefl _) _), keep_below y4 (bnew (brefl _) _), keep_below y5 (bnew (brefl _) _), keep_below y6 (bnew (brefl _) _), keep_below y7 (bnew (brefl _) _), keep_below y8 (bnew (brefl _) _), keep_below y9 (bnew (brefl _) _), kb8.alloc (by omega) _, by simp; omega⟩
  rw [hW9]
  clear hW9 kb8
  generalize w8.heap.size = Q9 at *
  have hX := @Ext.cell W9
  have hzz0 := block_lt_of_cell x0
  have hzz1 := block_lt_of_cell y0
  refine wp_region_noPanic ?_
  refine wp_region_plan (fun w' => ∃ x : Ext W9, w' = x.w) [([0, 2], 1), ([3, 4, 5, 6, 7, 8, 9, 10, 11, 12, 13, 14], 15)] [16, 17] (by kernel_rfl) (by kernel_rfl) (by kernel_rfl) (fun _ _ _ _ _ h => h) ⟨⟨_, (brefl W9).drew⟩, rfl⟩ ?_
  refine wpPlan_cons ?_
  simp only [pickOps, List.getElem?_cons_succ, List.getElem?_cons_zero, Option.elim_some]
  repeat (go_big_quiet_step (fail))
  refine wpQuiet_nil ?_
  refine planAct_some (fun K hK => ?_)
  go_simp
  refine (g4 _).mono ?_
  rintro e w10 ⟨rfl, h10⟩
  go_wp2_with fail
  refine hK.out _ _ ⟨⟨_, (bnext (brefl W9).drew h10)⟩, rfl⟩ ?_
  clear hK K
  refine wpPlan_cons ?_
  simp only [pickOps, List.getElem?_cons_succ, List.getElem?_cons_zero, Option.elim_some]
  repeat (go_big_quiet_step (fail))
  refine wpQuiet_nil ?_
  refine planAct_some (fun K hK => ?_)
  go_simp
  refine (lives11 _).mono ?_
  rintro e w11 ⟨rfl, h11⟩
  go_wp2_with fail
  refine hK.out _ _ ⟨⟨_, (bnext (bnext (brefl W9).drew h10) h11)⟩, rfl⟩ ?_
  clear hK K
  refine wpPlan_last ?_
  simp only [pickOps, List.getElem?_cons_succ, List.getElem?_cons_zero, Option.elim_some]
  repeat (go_big_quiet_step (fail))
  refine wpQuiet_nil ?_
  refine NoPanic.normal ?_
  clear hX hzz0 hzz1
  go_wp2
  go_ret
  exact ⟨rfl, by rw [HB.out]; exact kb9.trans ((bnext (bnext (brefl W9).drew h10) h11).mono (by omega))⟩

set_option maxHeartbeats 8000000 in
set_option maxRecDepth 100000 in
theorem turn_big (S : WS) {i : Int} (h : 4 ≤ i) (slot : Int) (T1 T2 T3 P : WS) (pi : Int) (was : Int) 
    (ht : ∀ w : World, Calls Try.prog 8 #[.agg #[.int .i64 S.s0, .bool S.t0, .int .i64 S.s1, .bool S.t1, .int .i64 S.s2, .bool S.t2, .int .i64 S.s3, .bool S.t3, .int .i64 S.hd, .int .u64 S.tu], .int .i64 i] w fun e w' => e = .returned (.agg #[.int .i64 T1.s0, .bool T1.t0, .int .i64 T1.s1, .bool T1.t1, .int .i64 T1.s2, .bool T1.t2, .int .i64 T1.s3, .bool T1.t3, .int .i64 T1.hd, .int .u64 T1.tu]) ∧ Below w.heap.size w w')
    (hT1 : T1 = S)
    (hs : ∀ w : World, Calls Try.prog 9 #[.agg #[.int .i64 S.s0, .bool S.t0, .int .i64 S.s1, .bool S.t1, .int .i64 S.s2, .bool S.t2, .int .i64 S.s3, .bool S.t3, .int .i64 S.hd, .int .u64 S.tu], .int .i64 i, .int .i64 slot] w fun e w' => e = .returned (.agg #[.int .i64 T2.s0, .bool T2.t0, .int .i64 T2.s1, .bool T2.t1, .int .i64 T2.s2, .bool T2.t2, .int .i64 T2.s3, .bool T2.t3, .int .i64 T2.hd, .int .u64 T2.tu]) ∧ Below w.heap.size w w')
    (hrs : ∀ w : World, Calls Try.prog 7 #[.agg #[.int .i64 S.s0, .bool S.t0, .int .i64 S.s1, .bool S.t1, .int .i64 S.s2, .bool S.t2, .int .i64 S.s3, .bool S.t3, .int .i64 S.hd, .int .u64 S.tu], .int .i64 i, .agg #[.int .i64 slot, .bool true]] w fun e w' => e = .returned (.agg #[.int .i64 T2.s0, .bool T2.t0, .int .i64 T2.s1, .bool T2.t1, .int .i64 T2.s2, .bool T2.t2, .int .i64 T2.s3, .bool T2.t3, .int .i64 T2.hd, .int .u64 T2.tu]) ∧ Below w.heap.size w w')
    (hc : ∀ w : World, Calls Try.prog 10 #[.agg #[.int .i64 S.s0, .bool S.t0, .int .i64 S.s1, .bool S.t1, .int .i64 S.s2, .bool S.t2, .int .i64 S.s3, .bool S.t3, .int .i64 S.hd, .int .u64 S.tu], .int .i64 i] w fun e w' => e = .returned (.agg #[.int .i64 T3.s0, .bool T3.t0, .int .i64 T3.s1, .bool T3.t1, .int .i64 T3.s2, .bool T3.t2, .int .i64 T3.s3, .bool T3.t3, .int .i64 T3.hd, .int .u64 T3.tu]) ∧ Below w.heap.size w w')
    (hrc : ∀ w : World, Calls Try.prog 7 #[.agg #[.int .i64 S.s0, .bool S.t0, .int .i64 S.s1, .bool S.t1, .int .i64 S.s2, .bool S.t2, .int .i64 S.s3, .bool S.t3, .int .i64 S.hd, .int .u64 S.tu], .int .i64 i, .agg #[.int .i64 0, .bool false]] w fun e w' => e = .returned (.agg #[.int .i64 T3.s0, .bool T3.t0, .int .i64 T3.s1, .bool T3.t1, .int .i64 T3.s2, .bool T3.t2, .int .i64 T3.s3, .bool T3.t3, .int .i64 T3.hd, .int .u64 T3.tu]) ∧ Below w.heap.size w w')
    (hp : ∀ w : World, Calls Try.prog 11 #[.agg #[.int .i64 S.s0, .bool S.t0, .int .i64 S.s1, .bool S.t1, .int .i64 S.s2, .bool S.t2, .int .i64 S.s3, .bool S.t3, .int .i64 S.hd, .int .u64 S.tu], .int .i64 slot] w fun e w' => e = .returned (.tuple #[.agg #[.int .i64 P.s0, .bool P.t0, .int .i64 P.s1, .bool P.t1, .int .i64 P.s2, .bool P.t2, .int .i64 P.s3, .bool P.t3, .int .i64 P.hd, .int .u64 P.tu], .int .i64 pi, .int .i64 was]) ∧ Below w.heap.size w w')
    (hrp : ∀ w : World, Calls Try.prog 12 #[.agg #[.int .i64 S.s0, .bool S.t0, .int .i64 S.s1, .bool S.t1, .int .i64 S.s2, .bool S.t2, .int .i64 S.s3, .bool S.t3, .int .i64 S.hd, .int .u64 S.tu], .int .i64 slot] w fun e w' => e = .returned (.tuple #[.agg #[.int .i64 P.s0, .bool P.t0, .int .i64 P.s1, .bool P.t1, .int .i64 P.s2, .bool P.t2, .int .i64 P.s3, .bool P.t3, .int .i64 P.hd, .int .u64 P.tu], .int .i64 pi, .int .i64 was]) ∧ Below w.heap.size w w') (w : World) :
    Calls Try.prog 3 #[.agg #[.int .i64 S.s0, .bool S.t0, .int .i64 S.s1, .bool S.t1, .int .i64 S.s2, .bool S.t2, .int .i64 S.s3, .bool S.t3, .int .i64 S.hd, .int .u64 S.tu], .int .i64 i, .int .i64 slot] w fun e w' => e = .returned (.bool true) ∧ Below w.heap.size w w' := by
  have tt : decide (i < 4) = false := decide_eq_false (by omega)
  have hT := Lib.hid hT1
  clear hT1
  rw [hT.out] at ht
  have n1 := neR S
  have n2 := neR T2
  have n3 := neR T3
  have n4 := eqR P
  have g1 := to_any S
  have g2 := to_any T2
  have g3 := to_any T3
  have g4 := to_any P
  have u1 : (pi == pi) = true := by simp
  have u2 : (was == was) = true := by simp
  go_enter Try.func3, Try.ntmps3
  go_wp2_with fail
  obtain ⟨W0, hW0, k0, k1, k2, k3, k4, k5, k6, k7, k8, k9, kb⟩ : ∃ W0, w.alloc (.cells #[.int .i64 S.s0, .bool S.t0, .int .i64 S.s1, .bool S.t1, .int .i64 S.s2, .bool S.t2, .int .i64 S.s3, .bool S.t3, .int .i64 S.hd, .int .u64 S.tu] 27) = W0 ∧ W0.cell? ⟨w.heap.size, 0, none⟩ = some (.int .i64 S.s0) ∧ W0.cell? ⟨w.heap.size, 1, none⟩ = some (.bool S.t0) ∧ W0.cell? ⟨w.heap.size, 2, none⟩ = some (.int .i64 S.s1) ∧ W0.cell? ⟨w.heap.size, 3, none⟩ = some (.bool S.t1) ∧ W0.cell? ⟨w.heap.size, 4, none⟩ = some (.int .i64 S.s2) ∧ W0.cell? ⟨w.heap.size, 5, none⟩ = some (.bool S.t2) ∧ W0.cell? ⟨w.heap.size, 6, none⟩ = some (.int .i64 S.s3) ∧ W0.cell? ⟨w.heap.size, 7, none⟩ = some (.bool S.t3) ∧ W0.cell? ⟨w.heap.size, 8, none⟩ = some (.int .i64 S.hd) ∧ W0.cell? ⟨w.heap.size, 9, none⟩ = some (.int .u64 S.tu) ∧ Below w.heap.size w W0 :=
    ⟨_, rfl, by go_simp, by go_simp, by go_simp, by go_simp, by go_simp, by go_simp, by go_simp, by go_simp, by go_simp, by go_simp, bnew (brefl w) _⟩
  rw [hW0]
  clear hW0
  generalize hBB : w.heap.size = B at *
  have HB := Lib.hid hBB
  clear hBB
  have hz0 : B < W0.heap.size := block_lt_of_cell k0
  refine (to_any S _).mono ?_
  rintro e w1 ⟨rfl, hb1⟩
  have k0 := keep_below k0 hb1
  have k1 := keep_below k1 hb1
  have k2 := keep_below k2 hb1
  have k3 := keep_below k3 hb1
  have k4 := keep_below k4 hb1
  have k5 := keep_below k5 hb1
  have k6 := keep_below k6 hb1
  have k7 := keep_below k7 hb1
  have k8 := keep_below k8 hb1
  have k9 := keep_below k9 hb1
  have kb1 : Below B w w1 := kb.trans (hb1.mono (by omega))
  have hz1 : B < w1.heap.size := block_lt_of_cell k0
  clear kb hb1 hz0
  go_upto_region 5 with (fail)
  obtain ⟨W2, hW2, k0, k1, k2, k3, k4, k5, k6, k7, k8, k9, x0, x1, x2, x3, x4, x5, x6, x7, x8, x9, y0, y1, y2, y3, y4, y5, y6, y7, y8, y9, f0, f1, f2, f3, f4, f5, f6, f7, f8, f9, kb2, hz2⟩ : ∃ W2, (w1.alloc (.cells #[.int .i64 S.s0, .bool S.t0, .int .i64 S.s1, .bool S.t1, .int .i64 S.s2, .bool S.t2, .int .i64 S.s3, .bool S.t3, .int .i64 S.hd, .int .u64 S.tu] 31)).alloc (.cells #[.int .i64 S.s0, .bool S.t0, .int .i64 S.s1, .bool S.t1, .int .i64 S.s2, .bool S.t2, .int .i64 S.s3, .bool S.t3, .int .i64 S.hd, .int .u64 S.tu] 31) = W2 ∧ W2.cell? ⟨B, 0, none⟩ = some (.int .i64 S.s0) ∧ W2.cell? ⟨B, 1, none⟩ = some (.bool S.t0) ∧ W2.cell? ⟨B, 2, none⟩ = some (.int .i64 S.s1) ∧ W2.cell? ⟨B, 3, none⟩ = some (.bool S.t1) ∧ W2.cell? ⟨B, 4, none⟩ = some (.int .i64 S.s2) ∧ W2.cell? ⟨B, 5, none⟩ = some (.bool S.t2) ∧ W2.cell? ⟨B, 6, none⟩ = some (.int .i64 S.s3) ∧ W2.cell? ⟨B, 7, none⟩ = some (.bool S.t3) ∧ W2.cell? ⟨B, 8, none⟩ = some (.int .i64 S.hd) ∧ W2.cell? ⟨B, 9, none⟩ = some (.int .u64 S.tu) ∧ W2.cell? ⟨w1.heap.size, 0, none⟩ = some (.int .i64 S.s0) ∧ W2.cell? ⟨w1.heap.size, 1, none⟩ = some (.bool S.t0) ∧ W2.cell? ⟨w1.heap.size, 2, none⟩ = some (.int .i64 S.s1) ∧ W2.cell? ⟨w1.heap.size, 3, none⟩ = some (.bool S.t1) ∧ W2.cell? ⟨w1.heap.size, 4, none⟩ = some (.int .i64 S.s2) ∧ W2.cell? ⟨w1.heap.size, 5, none⟩ = some (.bool S.t2) ∧ W2.cell? ⟨w1.heap.size, 6, none⟩ = some (.int .i64 S.s3) ∧ W2.cell? ⟨w1.heap.size, 7, none⟩ = some (.bool S.t3) ∧ W2.cell? ⟨w1.heap.size, 8, none⟩ = some (.int .i64 S.hd) ∧ W2.cell? ⟨w1.heap.size, 9, none⟩ = some (.int .u64 S.tu) ∧ W2.cell? ⟨w1.heap.size + 1, 0, none⟩ = some (.int .i64 S.s0) ∧ W2.cell? ⟨w1.heap.size + 1, 1, none⟩ = some (.bool S.t0) ∧ W2.cell? ⟨w1.heap.size + 1, 2, none⟩ = some (.int .i64 S.s1) ∧ W2.cell? ⟨w1.heap.size + 1, 3, none⟩ = some (.bool S.t1) ∧ W2.cell? ⟨w1.heap.size + 1, 4, none⟩ = some (.int .i64 S.s2) ∧ W2.cell? ⟨w1.heap.size + 1, 5, none⟩ = some (.bool S.t2) ∧ W2.cell? ⟨w1.heap.size + 1, 6, none⟩ = some (.int .i64 S.s3) ∧ W2.cell? ⟨w1.heap.size + 1, 7, none⟩ = some (.bool S.t3) ∧ W2.cell? ⟨w1.heap.size + 1, 8, none⟩ = some (.int .i64 S.hd) ∧ W2.cell? ⟨w1.heap.size + 1, 9, none⟩ = some (.int .u64 S.tu) ∧ W2.frozen? ⟨w1.heap.size + 1, 0, none⟩ = false ∧ W2.frozen? ⟨w1.heap.size + 1, 1, none⟩ = false ∧ W2.frozen? ⟨w1.heap.size + 1, 2, none⟩ = false ∧ W2.frozen? ⟨w1.heap.size + 1, 3, none⟩ = false ∧ W2.frozen? ⟨w1.heap.size + 1, 4, none⟩ = false ∧ W2.frozen? ⟨w1.heap.size + 1, 5, none⟩ = false ∧ W2.frozen? ⟨w1.heap.size + 1, 6, none⟩ = false ∧ W2.frozen? ⟨w1.heap.size + 1, 7, none⟩ = false ∧ W2.frozen? ⟨w1.heap.size + 1, 8, none⟩ = false ∧ W2.frozen? ⟨w1.heap.size + 1, 9, none⟩ = false ∧ Below B w W2 ∧ w1.heap.size + 1 < W2.heap.size :=
    ⟨_, rfl, keep_below (keep_below k0 (bnew (brefl _) _)) (bnew (brefl _) _), keep_below (keep_below k1 (bnew (brefl _) _)) (bnew (brefl _) _), keep_below (keep_below k2 (bnew (brefl _) _)) (bnew (brefl _) _), keep_below (keep_below k3 (bnew (brefl _) _)) (bnew (brefl _) _), keep_below (keep_below k4 (bnew (brefl _) _)) (bnew (brefl _) _), keep_below (keep_below k5 (bnew (brefl _) _)) (bnew (brefl _) _), keep_below (keep_below k6 (bnew (brefl _) _)) (bnew (brefl _) _), keep_below (keep_below k7 (bnew (brefl _) _)) (bnew (brefl _) _), keep_below (keep_below k8 (bnew (brefl _) _)) (bnew (brefl _) _), keep_below (keep_below k9 (bnew (brefl _) _)) (bnew (brefl _) _), by go_simp, by go_simp, by go_simp, by go_simp, by go_simp, by go_simp, by go_simp, by go_simp, by go_simp, by go_simp, by go_simp, by go_simp, by go_simp, by go_simp, by go_simp, by go_simp, by go_simp, by go_simp, by go_simp, by go_simp, by go_simp, by go_simp, by go_simp, by go_simp, by go_simp, by go_simp, by go_simp, by go_simp, by go_simp, by go_simp, (kb1.alloc (by omega) _).alloc (by simp; omega) _, by simp⟩
  rw [hW2]
  clear hW2 kb1
  generalize w1.heap.size = Q at *
  have hzB : B < W2.heap.size := block_lt_of_cell k0
  have hzQ : Q < W2.heap.size := block_lt_of_cell x0
  clear hz2
  go_cut [62] (fun v w' => v = .bool false ∧ Below W2.heap.size W2 w')
  case first =>
    have hX := @Ext.cell W2
    have hzz0 := block_lt_of_cell k0
    have hzz1 := block_lt_of_cell x0
    have hzz2 := block_lt_of_cell y0
    refine wp_region_noPanic ?_
    refine wp_region_tree (fun w' => ∃ x : Ext W2, w' = x.w) (PT.one [0, 1, 4] 2 (PT.one [] 3 (PT.one [5, 6, 7, 8, 9, 12, 13, 14, 15] 10 (PT.one [] 11 (PT.one [] 16 (PT.one [17, 18, 19, 20, 21, 24, 25, 26] 22 (PT.one [] 23 (PT.one [] 27 (PT.fin [28, 29]))))))))) (by kernel_rfl) (by kernel_rfl) (by kernel_rfl) (fun _ _ _ _ _ h => h) ⟨⟨_, (brefl W2).drew⟩, rfl⟩ ?_
    refine wpTree_one ?_
    simp only [pickOps, List.getElem?_cons_succ, List.getElem?_cons_zero, Option.elim_some]
    repeat (go_big_quiet_step (fail))
    refine wpQuiet_nil ?_
    refine planAct_some (fun K hK => ?_)
    go_simp
    refine (ht _).mono ?_
    rintro e v1 ⟨rfl, a1⟩
    go_wp2_with fail
    refine hK.out _ _ ⟨⟨_, (bnext (brefl W2).drew a1)⟩, rfl⟩ ?_
    clear hK K
    refine wpTree_one ?_
    simp only [pickOps, List.getElem?_cons_succ, List.getElem?_cons_zero, Option.elim_some]
    repeat (go_big_quiet_step (fail))
    refine wpQuiet_nil ?_
    refine planAct_some (fun K hK => ?_)
    go_simp
    refine (g1 _).mono ?_
    rintro e v2 ⟨rfl, a2⟩
    go_wp2_with fail
    refine hK.out _ _ ⟨⟨_, (bnext (bnext (brefl W2).drew a1) a2)⟩, rfl⟩ ?_
    clear hK K
    refine wpTree_one ?_
    simp only [pickOps, List.getElem?_cons_succ, List.getElem?_cons_zero, Option.elim_some]
    repeat (go_big_quiet_step (fail))
    refine wpQuiet_nil ?_
    refine planAct_some (fun K hK => ?_)
    go_simp
    refine (hs _).mono ?_
    rintro e v3 ⟨rfl, a3⟩
    go_wp2_with fail
    refine hK.out _ _ ⟨⟨_, (bnext (bnext (bnext (brefl W2).drew a1) a2) a3)⟩, rfl⟩ ?_
    clear hK K
    refine wpTree_one ?_
    simp only [pickOps, List.getElem?_cons_succ, List.getElem?_cons_zero, Option.elim_some]
    repeat (go_big_quiet_step (fail))
    refine wpQuiet_nil ?_
    refine planAct_some (fun K hK => ?_)
    go_simp
    refine (g2 _).mono ?_
    rintro e v4 ⟨rfl, a4⟩
    go_wp2_with fail
    refine hK.out _ _ ⟨⟨_, (bnext (bnext (bnext (bnext (brefl W2).drew a1) a2) a3) a4)⟩, rfl⟩ ?_
    clear hK K
    refine wpTree_one ?_
    simp only [pickOps, List.getElem?_cons_succ, List.getElem?_cons_zero, Option.elim_some]
    repeat (go_big_quiet_step (fail))
    refine wpQuiet_nil ?_
    refine planAct_some (fun K hK => ?_)
    go_simp
    refine (hrs _).mono ?_
    rintro e v5 ⟨rfl, a5⟩
    go_wp2_with fail
    refine hK.out _ _ ⟨⟨_, (bnext (bnext (bnext (bnext (bnext (brefl W2).drew a1) a2) a3) a4) a5)⟩, rfl⟩ ?_
    clear hK K
    refine wpTree_one ?_
    simp only [pickOps, List.getElem?_cons_succ, List.getElem?_cons_zero, Option.elim_some]
    repeat (go_big_quiet_step (fail))
    refine wpQuiet_nil ?_
    refine planAct_some (fun K hK => ?_)
    go_simp
    refine (hc _).mono ?_
    rintro e v6 ⟨rfl, a6⟩
    go_wp2_with fail
    refine hK.out _ _ ⟨⟨_, (bnext (bnext (bnext (bnext (bnext (bnext (brefl W2).drew a1) a2) a3) a4) a5) a6)⟩, rfl⟩ ?_
    clear hK K
    refine wpTree_one ?_
    simp only [pickOps, List.getElem?_cons_succ, List.getElem?_cons_zero, Option.elim_some]
    repeat (go_big_quiet_step (fail))
    refine wpQuiet_nil ?_
    refine planAct_some (fun K hK => ?_)
    go_simp
    refine (g3 _).mono ?_
    rintro e v7 ⟨rfl, a7⟩
    go_wp2_with fail
    refine hK.out _ _ ⟨⟨_, (bnext (bnext (bnext (bnext (bnext (bnext (bnext (brefl W2).drew a1) a2) a3) a4) a5) a6) a7)⟩, rfl⟩ ?_
    clear hK K
    refine wpTree_one ?_
    simp only [pickOps, List.getElem?_cons_succ, List.getElem?_cons_zero, Option.elim_some]
    repeat (go_big_quiet_step (fail))
    refine wpQuiet_nil ?_
    refine planAct_some (fun K hK => ?_)
    go_simp
    refine (hrc _).mono ?_
    rintro e v8 ⟨rfl, a8⟩
    go_wp2_with fail
    refine hK.out _ _ ⟨⟨_, (bnext (bnext (bnext (bnext (bnext (bnext (bnext (bnext (brefl W2).drew a1) a2) a3) a4) a5) a6) a7) a8)⟩, rfl⟩ ?_
    clear hK K
    refine wpTree_fin ?_
    simp only [pickOps, List.getElem?_cons_succ, List.getElem?_cons_zero, Option.elim_some]
    repeat (go_big_quiet_step (fail))
    refine wpQuiet_nil ?_
    refine NoPanic.normal ?_
    clear hX hzz0 hzz1 hzz2
    go_wp2_with fail
    go_meet
    case rel => exact ⟨rfl, (bnext (bnext (bnext (bnext (bnext (bnext (bnext (bnext (brefl W2).drew a1) a2) a3) a4) a5) a6) a7) a8)⟩
  case rest =>
  obtain ⟨rfl, hcut⟩ := hcut
  have k0 := keep_below k0 hcut
  have k1 := keep_below k1 hcut
  have k2 := keep_below k2 hcut
  have k3 := keep_below k3 hcut
  have k4 := keep_below k4 hcut
  have k5 := keep_below k5 hcut
  have k6 := keep_below k6 hcut
  have k7 := keep_below k7 hcut
  have k8 := keep_below k8 hcut
  have k9 := keep_below k9 hcut
  have x0 := keep_below x0 hcut
  have x1 := keep_below x1 hcut
  have x2 := keep_below x2 hcut
  have x3 := keep_below x3 hcut
  have x4 := keep_below x4 hcut
  have x5 := keep_below x5 hcut
  have x6 := keep_below x6 hcut
  have x7 := keep_below x7 hcut
  have x8 := keep_below x8 hcut
  have x9 := keep_below x9 hcut
  have kb5 : Below B w wc := kb2.trans (hcut.mono (by omega))
  have hzB5 : B < wc.heap.size := block_lt_of_cell k0
  have hzQ5 := block_lt_of_cell x0
  clear y0 y1 y2 y3 y4 y5 y6 y7 y8 y9 hcut kb2
  go_wp2_with fail
  refine (hp _).mono ?_
  rintro e w6 ⟨rfl, hb6⟩
  have x0 := keep_below x0 hb6
  have x1 := keep_below x1 hb6
  have x2 := keep_below x2 hb6
  have x3 := keep_below x3 hb6
  have x4 := keep_below x4 hb6
  have x5 := keep_below x5 hb6
  have x6 := keep_below x6 hb6
  have x7 := keep_below x7 hb6
  have x8 := keep_below x8 hb6
  have x9 := keep_below x9 hb6
  have kb6 : Below B w w6 := kb5.trans (hb6.mono (by omega))
  have hzB6 : B < w6.heap.size := by have := hb6.size; omega
  clear kb5 hb6 k0 k1 k2 k3 k4 k5 k6 k7 k8 k9 hzQ5
  go_upto_region 8 with (fail)
  obtain ⟨W7, hW7, x0, x1, x2, x3, x4, x5, x6, x7, x8, x9, y0, y1, y2, y3, y4, y5, y6, y7, y8, y9, kb7, hzB7⟩ : ∃ W7, w6.alloc (.cells #[.int .i64 P.s0, .bool P.t0, .int .i64 P.s1, .bool P.t1, .int .i64 P.s2, .bool P.t2, .int .i64 P.s3, .bool P.t3, .int .i64 P.hd, .int .u64 P.tu] 27) = W7 ∧ W7.cell? ⟨Q, 0, none⟩ = some (.int .i64 S.s0) ∧ W7.cell? ⟨Q, 1, none⟩ = some (.bool S.t0) ∧ W7.cell? ⟨Q, 2, none⟩ = some (.int .i64 S.s1) ∧ W7.cell? ⟨Q, 3, none⟩ = some (.bool S.t1) ∧ W7.cell? ⟨Q, 4, none⟩ = some (.int .i64 S.s2) ∧ W7.cell? ⟨Q, 5, none⟩ = some (.bool S.t2) ∧ W7.cell? ⟨Q, 6, none⟩ = some (.int .i64 S.s3) ∧ W7.cell? ⟨Q, 7, none⟩ = some (.bool S.t3) ∧ W7.cell? ⟨Q, 8, none⟩ = some (.int .i64 S.hd) ∧ W7.cell? ⟨Q, 9, none⟩ = some (.int .u64 S.tu) ∧ W7.cell? ⟨w6.heap.size, 0, none⟩ = some (.int .i64 P.s0) ∧ W7.cell? ⟨w6.heap.size, 1, none⟩ = some (.bool P.t0) ∧ W7.cell? ⟨w6.heap.size, 2, none⟩ = some (.int .i64 P.s1) ∧ W7.cell? ⟨w6.heap.size, 3, none⟩ = some (.bool P.t1) ∧ W7.cell? ⟨w6.heap.size, 4, none⟩ = some (.int .i64 P.s2) ∧ W7.cell? ⟨w6.heap.size, 5, none⟩ = some (.bool P.t2) ∧ W7.cell? ⟨w6.heap.size, 6, none⟩ = some (.int .i64 P.s3) ∧ W7.cell? ⟨w6.heap.size, 7, none⟩ = some (.bool P.t3) ∧ W7.cell? ⟨w6.heap.size, 8, none⟩ = some (.int .i64 P.hd) ∧ W7.cell? ⟨w6.heap.size, 9, none⟩ = some (.int .u64 P.tu) ∧ Below B w W7 ∧ B < W7.heap.size :=
    ⟨_, rfl, keep_below x0 (bnew (brefl _) _), keep_below x1 (bnew (brefl _) _), keep_below x2 (bnew (brefl _) _), keep_below x3 (bnew (brefl _) _), keep_below x4 (bnew (brefl _) _), keep_below x5 (bnew (brefl _) _), keep_below x6 (bnew (brefl _) _), keep_below x7 (bnew (brefl _) _), keep_below x8 (bnew (brefl _) _), keep_below x9 (bnew (brefl _) _), by go_simp, by go_simp, by go_simp, by go_simp, by go_simp, by go_simp, by go_simp, by go_simp, by go_simp, by go_simp, kb6.alloc (by omega) _, by simp; omega⟩
  rw [hW7]
  clear hW7 kb6
  generalize w6.heap.size = Q7 at *
  have hzQ7 := block_lt_of_cell x0
  go_wp2_with fail
  refine (hrp _).mono ?_
  rintro e w8 ⟨rfl, hb8⟩
  have y0 := keep_below y0 hb8
  have y1 := keep_below y1 hb8
  have y2 := keep_below y2 hb8
  have y3 := keep_below y3 hb8
  have y4 := keep_below y4 hb8
  have y5 := keep_below y5 hb8
  have y6 := keep_below y6 hb8
  have y7 := keep_below y7 hb8
  have y8 := keep_below y8 hb8
  have y9 := keep_below y9 hb8
  have kb8 : Below B w w8 := kb7.trans (hb8.mono (by omega))
  have hzB8 : B < w8.heap.size := by have := hb8.size; omega
  clear kb7 hb8 x0 x1 x2 x3 x4 x5 x6 x7 x8 x9 hzQ7
  go_upto_region 9 with (fail)
  obtain ⟨W9, hW9, x0, x1, x2, x3, x4, x5, x6, x7, x8, x9, y0, y1, y2, y3, y4, y5, y6, y7, y8, y9, kb9, hzB9⟩ : ∃ W9, w8.alloc (.cells #[.int .i64 P.s0, .bool P.t0, .int .i64 P.s1, .bool P.t1, .int .i64 P.s2, .bool P.t2, .int .i64 P.s3, .bool P.t3, .int .i64 P.hd, .int .u64 P.tu] 31) = W9 ∧ W9.cell? ⟨w8.heap.size, 0, none⟩ = some (.int .i64 P.s0) ∧ W9.cell? ⟨w8.heap.size, 1, none⟩ = some (.bool P.t0) ∧ W9.cell? ⟨w8.heap.size, 2, none⟩ = some (.int .i64 P.s1) ∧ W9.cell? ⟨w8.heap.size, 3, none⟩ = some (.bool P.t1) ∧ W9.cell? ⟨w8.heap.size, 4, none⟩ = some (.int .i64 P.s2) ∧ W9.cell? ⟨w8.heap.size, 5, none⟩ = some (.bool P.t2) ∧ W9.cell? ⟨w8.heap.size, 6, none⟩ = some (.int .i64 P.s3) ∧ W9.cell? ⟨w8.heap.size, 7, none⟩ = some (.bool P.t3) ∧ W9.cell? ⟨w8.heap.size, 8, none⟩ = some (.int .i64 P.hd) ∧ W9.cell? ⟨w8.heap.size, 9, none⟩ = some (.int .u64 P.tu) ∧ W9.cell? ⟨Q7, 0, none⟩ = some (.int .i64 P.s0) ∧ W9.cell? ⟨Q7, 1, none⟩ = some (.bool P.t0) ∧ W9.cell? ⟨Q7, 2, none⟩ = some (.int .i64 P.s1) ∧ W9.cell? ⟨Q7, 3, none⟩ = some (.bool P.t1) ∧ W9.cell? ⟨Q7, 4, none⟩ = some (.int .i64 P.s2) ∧ W9.cell? ⟨Q7, 5, none⟩ = some (.bool P.t2) ∧ W9.cell? ⟨Q7, 6, none⟩ = some (.int .i64 P.s3) ∧ W9.cell? ⟨Q7, 7, none⟩ = some (.bool P.t3) ∧ W9.cell? ⟨Q7, 8, none⟩ = some (.int .i64 P.hd) ∧ W9.cell? ⟨Q7, 9, none⟩ = some (.int .u64 P.tu) ∧ Below B w W9 ∧ B < W9.heap.size :=
    ⟨_, rfl, by go_simp, by go_simp, by go_simp, by go_simp, by go_simp, by go_simp, by go_simp, by go_simp, by go_simp, by go_simp, keep_below y0 (bnew (brefl _) _), keep_below y1 (bnew (brefl _) _), keep_below y2 (bnew (brefl _) _), keep_below y3 (bnew (brefl _) _), keep_below y4 (bnew (brefl _) _), keep_below y5 (bnew (brefl _) _), keep_below y6 (bnew (brefl _) _), keep_below y7 (bnew (brefl _) _), keep_below y8 (bnew (brefl _) _), keep_below y9 (bnew (brefl _) _), kb8.alloc (by omega) _, by simp; omega⟩
  rw [hW9]
  clear hW9 kb8
  generalize w8.heap.size = Q9 at *
  have hX := @Ext.cell W9
  have hzz0 := block_lt_of_cell x0
  have hzz1 := block_lt_of_cell y0
  refine wp_region_noPanic ?_
  refine wp_region_plan (fun w' => ∃ x : Ext W9, w' = x.w) [([0, 2], 1), ([3, 4, 5, 6, 7, 8, 9, 10, 11, 12, 13, 14], 15)] [16, 17] (by kernel_rfl) (by kernel_rfl) (by kernel_rfl) (fun _ _ _ _ _ h => h) ⟨⟨_, (brefl W9).drew⟩, rfl⟩ ?_
  refine wpPlan_cons ?_
  simp only [pickOps, List.getElem?_cons_succ, List.getElem?_cons_zero, Option.elim_some]
  repeat (go_big_quiet_step (fail))
  refine wpQuiet_nil ?_
  refine planAct_some (fun K hK => ?_)
  go_simp
  refine (g4 _).mono ?_
  rintro e w10 ⟨rfl, h10⟩
  go_wp2_with fail
  refine hK.out _ _ ⟨⟨_, (bnext (brefl W9).drew h10)⟩, rfl⟩ ?_
  clear hK K
  refine wpPlan_cons ?_
  simp only [pickOps, List.getElem?_cons_succ, List.getElem?_cons_zero, Option.elim_some]
  repeat (go_big_quiet_step (fail))
  refine wpQuiet_nil ?_
  refine planAct_some (fun K hK => ?_)
  go_simp
  refine (lives11 _).mono ?_
  rintro e w11 ⟨rfl, h11⟩
  go_wp2_with fail
  refine hK.out _ _ ⟨⟨_, (bnext (bnext (brefl W9).drew h10) h11)⟩, rfl⟩ ?_
  clear hK K
  refine wpPlan_last ?_
  simp only [pickOps, List.getElem?_cons_succ, List.getElem?_cons_zero, Option.elim_some]
  repeat (go_big_quiet_step (fail))
  refine wpQuiet_nil ?_
  refine NoPanic.normal ?_
  clear hX hzz0 hzz1
  go_wp2
  go_ret
  exact ⟨rfl, by rw [HB.out]; exact kb9.trans ((bnext (bnext (brefl W9).drew h10) h11).mono (by omega))⟩

theorem waysturn_any (S : WS) (i slot : Int) (w : World) : Calls Try.prog 3 #[.agg #[.int .i64 S.s0, .bool S.t0, .int .i64 S.s1, .bool S.t1, .int .i64 S.s2, .bool S.t2, .int .i64 S.s3, .bool S.t3, .int .i64 S.hd, .int .u64 S.tu], .int .i64 i, .int .i64 slot] w fun e w' => e = .returned (.bool true) ∧ Below w.heap.size w w' := by
  have hp := put_any S slot
  have hrp := rput_any S slot
  have hs := swap_any S i slot
  have hrs := rset_any S i slot true
  have hc := clear_any S i
  have hrc := rset_any S i 0 false
  have ht := touch_any S i
  rcases (by omega : i < 0 ∨ 4 ≤ i ∨ i = 0 ∨ i = 1 ∨ i = 2 ∨ i = 3) with h | h | rfl | rfl | rfl | rfl
  · exact turn_neg S h slot _ _ _ _ _ _ ht (if_neg (by omega)) hs hrs hc hrc hp hrp w
  · exact turn_big S h slot _ _ _ _ _ _ ht (if_neg (by omega)) hs hrs hc hrc hp hrp w
  · exact turn_0 S slot _ _ _ _ _ _ ht (rset_any S 0 S.s0 true) hs hrs hc hrc hp hrp w
  · exact turn_1 S slot _ _ _ _ _ _ ht (rset_any S 1 S.s1 true) hs hrs hc hrc hp hrp w
  · exact turn_2 S slot _ _ _ _ _ _ ht (rset_any S 2 S.s2 true) hs hrs hc hrc hp hrp w
  · exact turn_3 S slot _ _ _ _ _ _ ht (rset_any S 3 S.s3 true) hs hrs hc hrc hp hrp w
end Go.Proofs.Ytgkogodfegfdfaa
