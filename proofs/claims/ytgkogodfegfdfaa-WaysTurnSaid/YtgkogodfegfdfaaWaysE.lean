/- Sets of ways: Put, the document's Put, to, lives. -/
import Derived.Test.YtgkogodfegfdfaaWaysD
namespace Go.Proofs.Ytgkogodfegfdfaa
set_option linter.unusedVariables false
set_option linter.unusedSimpArgs false
open Go.RowKit

theorem turn_lt : ∀ (f : Nat) (S : WS), 0 ≤ S.hd → S.hd < 4 → (turn f S).2 < 4
  | 0, S, _, _ => (by decide : 0 < 4)
  | f + 1, S, h0, h1 => by
    unfold turn
    split
    · refine turn_lt f _ ?_ ?_
      · have e : (S.un S.hd.toNat ((S.hd + 1) % 4)).hd = (S.hd + 1) % 4 := by unfold WS.un; split <;> rfl
        rw [e]
        omega
      · have e : (S.un S.hd.toNat ((S.hd + 1) % 4)).hd = (S.hd + 1) % 4 := by unfold WS.un; split <;> rfl
        rw [e]
        omega
    · dsimp only
      omega
theorem place_lt (S : WS) : S.place.2 < 4 := by
  unfold WS.place
  repeat' split
  all_goals first
    | exact (by decide : 0 < 4)
    | exact (by decide : 1 < 4)
    | exact (by decide : 2 < 4)
    | exact (by decide : 3 < 4)
    | exact turn_lt 8 _ (norm_hd S).1 (norm_hd S).2
/-- What Put makes: the set, the way, what was there. -/
def WS.putS (S : WS) (x : Int) : WS := S.place.1.with_ (S.place.2 : Int) x true
def WS.was (S : WS) : Int := S.place.1.sl S.place.2
theorem place_any (S : WS) (w : World) : Calls Try.prog 20 #[.agg #[.int .i64 S.s0, .bool S.t0, .int .i64 S.s1, .bool S.t1, .int .i64 S.s2, .bool S.t2, .int .i64 S.s3, .bool S.t3, .int .i64 S.hd, .int .u64 S.tu]] w fun e w' => e = .returned (.tuple #[.agg #[.int .i64 S.place.1.s0, .bool S.place.1.t0, .int .i64 S.place.1.s1, .bool S.place.1.t1, .int .i64 S.place.1.s2, .bool S.place.1.t2, .int .i64 S.place.1.s3, .bool S.place.1.t3, .int .i64 S.place.1.hd, .int .u64 S.place.1.tu], .int .i64 (S.place.2 : Int)]) ∧ Below w.heap.size w w' := by
  obtain ⟨s0, s1, s2, s3, t0, t1, t2, t3, hd, tu⟩ := S
  exact place_w s0 s1 s2 s3 t0 t1 t2 t3 hd tu _ rfl w
theorem rplace_any (S : WS) (w : World) : Calls Try.prog 21 #[.agg #[.int .i64 S.s0, .bool S.t0, .int .i64 S.s1, .bool S.t1, .int .i64 S.s2, .bool S.t2, .int .i64 S.s3, .bool S.t3, .int .i64 S.hd, .int .u64 S.tu]] w fun e w' => e = .returned (.tuple #[.agg #[.int .i64 S.place.1.s0, .bool S.place.1.t0, .int .i64 S.place.1.s1, .bool S.place.1.t1, .int .i64 S.place.1.s2, .bool S.place.1.t2, .int .i64 S.place.1.s3, .bool S.place.1.t3, .int .i64 S.place.1.hd, .int .u64 S.place.1.tu], .int .i64 (S.place.2 : Int)]) ∧ Below w.heap.size w w' := by
  obtain ⟨s0, s1, s2, s3, t0, t1, t2, t3, hd, tu⟩ := S
  exact rplace_w s0 s1 s2 s3 t0 t1 t2 t3 hd tu _ rfl w
set_option maxHeartbeats 2000000 in
set_option maxRecDepth 100000 in
theorem put_0 (S S1 T : WS) (x : Int) (hpl : ∀ w : World, Calls Try.prog 20 #[.agg #[.int .i64 S.s0, .bool S.t0, .int .i64 S.s1, .bool S.t1, .int .i64 S.s2, .bool S.t2, .int .i64 S.s3, .bool S.t3, .int .i64 S.hd, .int .u64 S.tu]] w fun e w' => e = .returned (.tuple #[.agg #[.int .i64 S1.s0, .bool S1.t0, .int .i64 S1.s1, .bool S1.t1, .int .i64 S1.s2, .bool S1.t2, .int .i64 S1.s3, .bool S1.t3, .int .i64 S1.hd, .int .u64 S1.tu], .int .i64 0]) ∧ Below w.heap.size w w')
    (hsw : ∀ w : World, Calls Try.prog 9 #[.agg #[.int .i64 S1.s0, .bool S1.t0, .int .i64 S1.s1, .bool S1.t1, .int .i64 S1.s2, .bool S1.t2, .int .i64 S1.s3, .bool S1.t3, .int .i64 S1.hd, .int .u64 S1.tu], .int .i64 0, .int .i64 x] w fun e w' => e = .returned (.agg #[.int .i64 T.s0, .bool T.t0, .int .i64 T.s1, .bool T.t1, .int .i64 T.s2, .bool T.t2, .int .i64 T.s3, .bool T.t3, .int .i64 T.hd, .int .u64 T.tu]) ∧ Below w.heap.size w w') (w : World) :
    Calls Try.prog 11 #[.agg #[.int .i64 S.s0, .bool S.t0, .int .i64 S.s1, .bool S.t1, .int .i64 S.s2, .bool S.t2, .int .i64 S.s3, .bool S.t3, .int .i64 S.hd, .int .u64 S.tu], .int .i64 x] w fun e w' => e = .returned (.tuple #[.agg #[.int .i64 T.s0, .bool T.t0, .int .i64 T.s1, .bool T.t1, .int .i64 T.s2, .bool T.t2, .int .i64 T.s3, .bool T.t3, .int .i64 T.hd, .int .u64 T.tu], .int .i64 0, .int .i64 S1.s0]) ∧ Below w.heap.size w w' := by
  go_enter Try.func11, Try.ntmps11
  go_upto_region 1 with (fail)
  obtain ⟨W0, hW0, k0, k1, k2, k3, k4, k5, k6, k7, k8, k9, z0, z1, z2, z3, z4, z5, z6, z7, z8, z9, g0, g1, g2, g3, g4, g5, g6, g7, g8, g9, f0, f1, f2, f3, f4, f5, f6, f7, f8, f9, kb, hz⟩ : ∃ W0, (w.alloc (.cells #[.int .i64 S.s0, .bool S.t0, .int .i64 S.s1, .bool S.t1, .int .i64 S.s2, .bool S.t2, .int .i64 S.s3, .bool S.t3, .int .i64 S.hd, .int .u64 S.tu] 27)).alloc (.cells #[.int .i64 0, .bool false, .int .i64 0, .bool false, .int .i64 0, .bool false, .int .i64 0, .bool false, .int .i64 0, .int .u64 0] 27) = W0 ∧ W0.cell? ⟨w.heap.size, 0, none⟩ = some (.int .i64 S.s0) ∧ W0.cell? ⟨w.heap.size, 1, none⟩ = some (.bool S.t0) ∧ W0.cell? ⟨w.heap.size, 2, none⟩ = some (.int .i64 S.s1) ∧ W0.cell? ⟨w.heap.size, 3, none⟩ = some (.bool S.t1) ∧ W0.cell? ⟨w.heap.size, 4, none⟩ = some (.int .i64 S.s2) ∧ W0.cell? ⟨w.heap.size, 5, none⟩ = some (.bool S.t2) ∧ W0.cell? ⟨w.heap.size, 6, none⟩ = some (.int .i64 S.s3) ∧ W0.cell? ⟨w.heap.size, 7, none⟩ = some (.bool S.t3) ∧ W0.cell? ⟨w.heap.size, 8, none⟩ = some (.int .i64 S.hd) ∧ W0.cell? ⟨w.heap.size, 9, none⟩ = some (.int .u64 S.tu) ∧ W0.cell? ⟨w.heap.size + 1, 0, none⟩ = some (.int .i64 0) ∧ W0.cell? ⟨w.heap.size + 1, 1, none⟩ = some (.bool false) ∧ W0.cell? ⟨w.heap.size + 1, 2, none⟩ = some (.int .i64 0) ∧ W0.cell? ⟨w.heap.size + 1, 3, none⟩ = some (.bool false) ∧ W0.cell? ⟨w.heap.size + 1, 4, none⟩ = some (.int .i64 0) ∧ W0.cell? ⟨w.heap.size + 1, 5, none⟩ = some (.bool false) ∧ W0.cell? ⟨w.heap.size + 1, 6, none⟩ = some (.int .i64 0) ∧ W0.cell? ⟨w.heap.size + 1, 7, none⟩ = some (.bool false) ∧ W0.cell? ⟨w.heap.size + 1, 8, none⟩ = some (.int .i64 0) ∧ W0.cell? ⟨w.heap.size + 1, 9, none⟩ = some (.int .u64 0) ∧ W0.frozen? ⟨w.heap.size, 0, none⟩ = false ∧ W0.frozen? ⟨w.heap.size, 1, none⟩ = false ∧ W0.frozen? ⟨w.heap.size, 2, none⟩ = false ∧ W0.frozen? ⟨w.heap.size, 3, none⟩ = false ∧ W0.frozen? ⟨w.heap.size, 4, none⟩ = false ∧ W0.frozen? ⟨w.heap.size, 5, none⟩ = false ∧ W0.frozen? ⟨w.heap.size, 6, none⟩ = false ∧ W0.frozen? ⟨w.heap.size, 7, none⟩ = false ∧ W0.frozen? ⟨w.heap.size, 8, none⟩ = false ∧ W0.frozen? ⟨w.heap.size, 9, none⟩ = false ∧ W0.frozen? ⟨w.heap.size + 1, 0, none⟩ = false ∧ W0.frozen? ⟨w.heap.size + 1, 1, none⟩ = false ∧ W0.frozen? ⟨w.heap.size + 1, 2, none⟩ = false ∧ W0.frozen? ⟨w.heap.size + 1, 3, none⟩ = false ∧ W0.frozen? ⟨w.heap.size + 1, 4, none⟩ = false ∧ W0.frozen? ⟨w.heap.size + 1, 5, none⟩ = false ∧ W0.frozen? ⟨w.heap.size + 1, 6, none⟩ = false ∧ W0.frozen? ⟨w.heap.size + 1, 7, none⟩ = false ∧ W0.frozen? ⟨w.heap.size + 1, 8, none⟩ = false ∧ W0.frozen? ⟨w.heap.size + 1, 9, none⟩ = false ∧ Below w.heap.size w W0 ∧ w.heap.size + 1 < W0.heap.size :=
    ⟨_, rfl, by go_simp, by go_simp, by go_simp, by go_simp, by go_simp, by go_simp, by go_simp, by go_simp, by go_simp, by go_simp, by go_simp, by go_simp, by go_simp, by go_simp, by go_simp, by go_simp, by go_simp, by go_simp, by go_simp, by go_simp, by go_simp, by go_simp, by go_simp, by go_simp, by go_simp, by go_simp, by go_simp, by go_simp, by go_simp, by go_simp, by go_simp, by go_simp, by go_simp, by go_simp, by go_simp, by go_simp, by go_simp, by go_simp, by go_simp, by go_simp, bnew (bnew (brefl w) _) _, by simp⟩
  rw [hW0]
  clear hW0
  have hz0 := block_lt_of_cell k0
  generalize hB : w.heap.size = B at *
  have HB := Lib.hid hB
  clear hB
  go_wp2_with fail
  refine (hpl _).mono ?_
  rintro e w1 ⟨rfl, hb1⟩
  have kb1 : Below B w w1 := kb.trans (hb1.mono (by omega))
  have k0 := keep_below k0 hb1
  have k1 := keep_below k1 hb1
  have k2 := keep_below k2 hb1
  have k3 := keep_below k3 hb1
  have k4 := keep_below k4 hb1
  have k5 := keep_below k5 hb1
  have k6 := keep_below k6 hb1
  have k7 := keep_below k7 hb1
  have k8 := keep_below k8 hb1
  have k9 := keep_below k9 hb1
  have z0 := keep_below z0 hb1
  have z1 := keep_below z1 hb1
  have z2 := keep_below z2 hb1
  have z3 := keep_below z3 hb1
  have z4 := keep_below z4 hb1
  have z5 := keep_below z5 hb1
  have z6 := keep_below z6 hb1
  have z7 := keep_below z7 hb1
  have z8 := keep_below z8 hb1
  have z9 := keep_below z9 hb1
  have g0 := keep_frozen g0 hz0 hb1
  have g1 := keep_frozen g1 hz0 hb1
  have g2 := keep_frozen g2 hz0 hb1
  have g3 := keep_frozen g3 hz0 hb1
  have g4 := keep_frozen g4 hz0 hb1
  have g5 := keep_frozen g5 hz0 hb1
  have g6 := keep_frozen g6 hz0 hb1
  have g7 := keep_frozen g7 hz0 hb1
  have g8 := keep_frozen g8 hz0 hb1
  have g9 := keep_frozen g9 hz0 hb1
  have f0 := keep_frozen f0 hz hb1
  have f1 := keep_frozen f1 hz hb1
  have f2 := keep_frozen f2 hz hb1
  have f3 := keep_frozen f3 hz hb1
  have f4 := keep_frozen f4 hz hb1
  have f5 := keep_frozen f5 hz hb1
  have f6 := keep_frozen f6 hz hb1
  have f7 := keep_frozen f7 hz hb1
  have f8 := keep_frozen f8 hz hb1
  have f9 := keep_frozen f9 hz hb1
  have hz2 : B < w1.heap.size := block_lt_of_cell k0
  have hz3 : B + 1 < w1.heap.size := block_lt_of_cell z0
  clear kb hb1 hz hz0
  go_upto_region 3 with (fail)
  obtain ⟨W2, hW2, k0, k1, k2, k3, k4, k5, k6, k7, k8, k9, z0, z1, z2, z3, z4, z5, z6, z7, z8, z9, f0, f1, f2, f3, f4, f5, f6, f7, f8, f9, kb2, hz2, hz3⟩ : ∃ W2, (((((((((w1.setCell ⟨B, 0, none⟩ (.int .i64 S1.s0)).setCell ⟨B, 1, none⟩ (.bool S1.t0)).setCell ⟨B, 2, none⟩ (.int .i64 S1.s1)).setCell ⟨B, 3, none⟩ (.bool S1.t1)).setCell ⟨B, 4, none⟩ (.int .i64 S1.s2)).setCell ⟨B, 5, none⟩ (.bool S1.t2)).setCell ⟨B, 6, none⟩ (.int .i64 S1.s3)).setCell ⟨B, 7, none⟩ (.bool S1.t3)).setCell ⟨B, 8, none⟩ (.int .i64 S1.hd)).setCell ⟨B, 9, none⟩ (.int .u64 S1.tu) = W2 ∧ W2.cell? ⟨B, 0, none⟩ = some (.int .i64 S1.s0) ∧ W2.cell? ⟨B, 1, none⟩ = some (.bool S1.t0) ∧ W2.cell? ⟨B, 2, none⟩ = some (.int .i64 S1.s1) ∧ W2.cell? ⟨B, 3, none⟩ = some (.bool S1.t1) ∧ W2.cell? ⟨B, 4, none⟩ = some (.int .i64 S1.s2) ∧ W2.cell? ⟨B, 5, none⟩ = some (.bool S1.t2) ∧ W2.cell? ⟨B, 6, none⟩ = some (.int .i64 S1.s3) ∧ W2.cell? ⟨B, 7, none⟩ = some (.bool S1.t3) ∧ W2.cell? ⟨B, 8, none⟩ = some (.int .i64 S1.hd) ∧ W2.cell? ⟨B, 9, none⟩ = some (.int .u64 S1.tu) ∧ W2.cell? ⟨B + 1, 0, none⟩ = some (.int .i64 0) ∧ W2.cell? ⟨B + 1, 1, none⟩ = some (.bool false) ∧ W2.cell? ⟨B + 1, 2, none⟩ = some (.int .i64 0) ∧ W2.cell? ⟨B + 1, 3, none⟩ = some (.bool false) ∧ W2.cell? ⟨B + 1, 4, none⟩ = some (.int .i64 0) ∧ W2.cell? ⟨B + 1, 5, none⟩ = some (.bool false) ∧ W2.cell? ⟨B + 1, 6, none⟩ = some (.int .i64 0) ∧ W2.cell? ⟨B + 1, 7, none⟩ = some (.bool false) ∧ W2.cell? ⟨B + 1, 8, none⟩ = some (.int .i64 0) ∧ W2.cell? ⟨B + 1, 9, none⟩ = some (.int .u64 0) ∧ W2.frozen? ⟨B + 1, 0, none⟩ = false ∧ W2.frozen? ⟨B + 1, 1, none⟩ = false ∧ W2.frozen? ⟨B + 1, 2, none⟩ = false ∧ W2.frozen? ⟨B + 1, 3, none⟩ = false ∧ W2.frozen? ⟨B + 1, 4, none⟩ = false ∧ W2.frozen? ⟨B + 1, 5, none⟩ = false ∧ W2.frozen? ⟨B + 1, 6, none⟩ = false ∧ W2.frozen? ⟨B + 1, 7, none⟩ = false ∧ W2.frozen? ⟨B + 1, 8, none⟩ = false ∧ W2.frozen? ⟨B + 1, 9, none⟩ = false ∧ Below B w W2 ∧ B < W2.heap.size ∧ B + 1 < W2.heap.size :=
    ⟨_, rfl, by go_simp, by go_simp, by go_simp, by go_simp, by go_simp, by go_simp, by go_simp, by go_simp, by go_simp, by go_simp, by go_simp, by go_simp, by go_simp, by go_simp, by go_simp, by go_simp, by go_simp, by go_simp, by go_simp, by go_simp, by go_simp, by go_simp, by go_simp, by go_simp, by go_simp, by go_simp, by go_simp, by go_simp, by go_simp, by go_simp, by repeat (first | (with_reducible exact kb1) | (with_reducible refine Below.setCell ?_ (by simp) _)), by simpa using hz2, by simpa using hz3⟩
  rw [hW2]
  clear hW2 kb1
  go_wp2_with fail
  refine (hsw _).mono ?_
  rintro e w3 ⟨rfl, hb3⟩
  have z0 := keep_below z0 hb3
  have z1 := keep_below z1 hb3
  have z2 := keep_below z2 hb3
  have z3 := keep_below z3 hb3
  have z4 := keep_below z4 hb3
  have z5 := keep_below z5 hb3
  have z6 := keep_below z6 hb3
  have z7 := keep_below z7 hb3
  have z8 := keep_below z8 hb3
  have z9 := keep_below z9 hb3
  have f0 := keep_frozen f0 hz3 hb3
  have f1 := keep_frozen f1 hz3 hb3
  have f2 := keep_frozen f2 hz3 hb3
  have f3 := keep_frozen f3 hz3 hb3
  have f4 := keep_frozen f4 hz3 hb3
  have f5 := keep_frozen f5 hz3 hb3
  have f6 := keep_frozen f6 hz3 hb3
  have f7 := keep_frozen f7 hz3 hb3
  have f8 := keep_frozen f8 hz3 hb3
  have f9 := keep_frozen f9 hz3 hb3
  have kb3 : Below B w w3 := kb2.trans (hb3.mono (by omega))
  have hz4 : B + 1 < w3.heap.size := block_lt_of_cell z0
  clear kb2 hb3 k0 k1 k2 k3 k4 k5 k6 k7 k8 k9 hz2 hz3
  go_wp2
  refine bodyPost_ret (v := .tuple #[.agg #[.int .i64 T.s0, .bool T.t0, .int .i64 T.s1, .bool T.t1, .int .i64 T.s2, .bool T.t2, .int .i64 T.s3, .bool T.t3, .int .i64 T.hd, .int .u64 T.tu], .int .i64 0, .int .i64 S1.s0]) (by simp [results, Try.results11, go_sem, z0, z1, z2, z3, z4, z5, z6, z7, z8, z9, hz4]) rfl ⟨rfl, ?_⟩
  rw [HB.out]
  repeat (first | (with_reducible exact kb3) | (with_reducible refine Below.setCell ?_ (by simp <;> omega) _) | (with_reducible refine Below.drew ?_))
set_option maxHeartbeats 2000000 in
set_option maxRecDepth 100000 in
theorem put_1 (S S1 T : WS) (x : Int) (hpl : ∀ w : World, Calls Try.prog 20 #[.agg #[.int .i64 S.s0, .bool S.t0, .int .i64 S.s1, .bool S.t1, .int .i64 S.s2, .bool S.t2, .int .i64 S.s3, .bool S.t3, .int .i64 S.hd, .int .u64 S.tu]] w fun e w' => e = .returned (.tuple #[.agg #[.int .i64 S1.s0, .bool S1.t0, .int .i64 S1.s1, .bool S1.t1, .int .i64 S1.s2, .bool S1.t2, .int .i64 S1.s3, .bool S1.t3, .int .i64 S1.hd, .int .u64 S1.tu], .int .i64 1]) ∧ Below w.heap.size w w')
    (hsw : ∀ w : World, Calls Try.prog 9 #[.agg #[.int .i64 S1.s0, .bool S1.t0, .int .i64 S1.s1, .bool S1.t1, .int .i64 S1.s2, .bool S1.t2, .int .i64 S1.s3, .bool S1.t3, .int .i64 S1.hd, .int .u64 S1.tu], .int .i64 1, .int .i64 x] w fun e w' => e = .returned (.agg #[.int .i64 T.s0, .bool T.t0, .int .i64 T.s1, .bool T.t1, .int .i64 T.s2, .bool T.t2, .int .i64 T.s3, .bool T.t3, .int .i64 T.hd, .int .u64 T.tu]) ∧ Below w.heap.size w w') (w : World) :
    Calls Try.prog 11 #[.agg #[.int .i64 S.s0, .bool S.t0, .int .i64 S.s1, .bool S.t1, .int .i64 S.s2, .bool S.t2, .int .i64 S.s3, .bool S.t3, .int .i64 S.hd, .int .u64 S.tu], .int .i64 x] w fun e w' => e = .returned (.tuple #[.agg #[.int .i64 T.s0, .bool T.t0, .int .i64 T.s1, .bool T.t1, .int .i64 T.s2, .bool T.t2, .int .i64 T.s3, .bool T.t3, .int .i64 T.hd, .int .u64 T.tu], .int .i64 1, .int .i64 S1.s1]) ∧ Below w.heap.size w w' := by
  go_enter Try.func11, Try.ntmps11
  go_upto_region 1 with (fail)
  obtain ⟨W0, hW0, k0, k1, k2, k3, k4, k5, k6, k7, k8, k9, z0, z1, z2, z3, z4, z5, z6, z7, z8, z9, g0, g1, g2, g3, g4, g5, g6, g7, g8, g9, f0, f1, f2, f3, f4, f5, f6, f7, f8, f9, kb, hz⟩ : ∃ W0, (w.alloc (.cells #[.int .i64 S.s0, .bool S.t0, .int .i64 S.s1, .bool S.t1, .int .i64 S.s2, .bool S.t2, .int .i64 S.s3, .bool S.t3, .int .i64 S.hd, .int .u64 S.tu] 27)).alloc (.cells #[.int .i64 0, .bool false, .int .i64 0, .bool false, .int .i64 0, .bool false, .int .i64 0, .bool false, .int .i64 0, .int .u64 0] 27) = W0 ∧ W0.cell? ⟨w.heap.size, 0, none⟩ = some (.int .i64 S.s0) ∧ W0.cell? ⟨w.heap.size, 1, none⟩ = some (.bool S.t0) ∧ W0.cell? ⟨w.heap.size, 2, none⟩ = some (.int .i64 S.s1) ∧ W0.cell? ⟨w.heap.size, 3, none⟩ = some (.bool S.t1) ∧ W0.cell? ⟨w.heap.size, 4, none⟩ = some (.int .i64 S.s2) ∧ W0.cell? ⟨w.heap.size, 5, none⟩ = some (.bool S.t2) ∧ W0.cell? ⟨w.heap.size, 6, none⟩ = some (.int .i64 S.s3) ∧ W0.cell? ⟨w.heap.size, 7, none⟩ = some (.bool S.t3) ∧ W0.cell? ⟨w.heap.size, 8, none⟩ = some (.int .i64 S.hd) ∧ W0.cell? ⟨w.heap.size, 9, none⟩ = some (.int .u64 S.tu) ∧ W0.cell? ⟨w.heap.size + 1, 0, none⟩ = some (.int .i64 0) ∧ W0.cell? ⟨w.heap.size + 1, 1, none⟩ = some (.bool false) ∧ W0.cell? ⟨w.heap.size + 1, 2, none⟩ = some (.int .i64 0) ∧ W0.cell? ⟨w.heap.size + 1, 3, none⟩ = some (.bool false) ∧ W0.cell? ⟨w.heap.size + 1, 4, none⟩ = some (.int .i64 0) ∧ W0.cell? ⟨w.heap.size + 1, 5, none⟩ = some (.bool false) ∧ W0.cell? ⟨w.heap.size + 1, 6, none⟩ = some (.int .i64 0) ∧ W0.cell? ⟨w.heap.size + 1, 7, none⟩ = some (.bool false) ∧ W0.cell? ⟨w.heap.size + 1, 8, none⟩ = some (.int .i64 0) ∧ W0.cell? ⟨w.heap.size + 1, 9, none⟩ = some (.int .u64 0) ∧ W0.frozen? ⟨w.heap.size, 0, none⟩ = false ∧ W0.frozen? ⟨w.heap.size, 1, none⟩ = false ∧ W0.frozen? ⟨w.heap.size, 2, none⟩ = false ∧ W0.frozen? ⟨w.heap.size, 3, none⟩ = false ∧ W0.frozen? ⟨w.heap.size, 4, none⟩ = false ∧ W0.frozen? ⟨w.heap.size, 5, none⟩ = false ∧ W0.frozen? ⟨w.heap.size, 6, none⟩ = false ∧ W0.frozen? ⟨w.heap.size, 7, none⟩ = false ∧ W0.frozen? ⟨w.heap.size, 8, none⟩ = false ∧ W0.frozen? ⟨w.heap.size, 9, none⟩ = false ∧ W0.frozen? ⟨w.heap.size + 1, 0, none⟩ = false ∧ W0.frozen? ⟨w.heap.size + 1, 1, none⟩ = false ∧ W0.frozen? ⟨w.heap.size + 1, 2, none⟩ = false ∧ W0.frozen? ⟨w.heap.size + 1, 3, none⟩ = false ∧ W0.frozen? ⟨w.heap.size + 1, 4, none⟩ = false ∧ W0.frozen? ⟨w.heap.size + 1, 5, none⟩ = false ∧ W0.frozen? ⟨w.heap.size + 1, 6, none⟩ = false ∧ W0.frozen? ⟨w.heap.size + 1, 7, none⟩ = false ∧ W0.frozen? ⟨w.heap.size + 1, 8, none⟩ = false ∧ W0.frozen? ⟨w.heap.size + 1, 9, none⟩ = false ∧ Below w.heap.size w W0 ∧ w.heap.size + 1 < W0.heap.size :=
    ⟨_, rfl, by go_simp, by go_simp, by go_simp, by go_simp, by go_simp, by go_simp, by go_simp, by go_simp, by go_simp, by go_simp, by go_simp, by go_simp, by go_simp, by go_simp, by go_simp, by go_simp, by go_simp, by go_simp, by go_simp, by go_simp, by go_simp, by go_simp, by go_simp, by go_simp, by go_simp, by go_simp, by go_simp, by go_simp, by go_simp, by go_simp, by go_simp, by go_simp, by go_simp, by go_simp, by go_simp, by go_simp, by go_simp, by go_simp, by go_simp, by go_simp, bnew (bnew (brefl w) _) _, by simp⟩
  rw [hW0]
  clear hW0
  have hz0 := block_lt_of_cell k0
  generalize hB : w.heap.size = B at *
  have HB := Lib.hid hB
  clear hB
  go_wp2_with fail
  refine (hpl _).mono ?_
  rintro e w1 ⟨rfl, hb1⟩
  have kb1 : Below B w w1 := kb.trans (hb1.mono (by omega))
  have k0 := keep_below k0 hb1
  have k1 := keep_below k1 hb1
  have k2 := keep_below k2 hb1
  have k3 := keep_below k3 hb1
  have k4 := keep_below k4 hb1
  have k5 := keep_below k5 hb1
  have k6 := keep_below k6 hb1
  have k7 := keep_below k7 hb1
  have k8 := keep_below k8 hb1
  have k9 := keep_below k9 hb1
  have z0 := keep_below z0 hb1
  have z1 := keep_below z1 hb1
  have z2 := keep_below z2 hb1
  have z3 := keep_below z3 hb1
  have z4 := keep_below z4 hb1
  have z5 := keep_below z5 hb1
  have z6 := keep_below z6 hb1
  have z7 := keep_below z7 hb1
  have z8 := keep_below z8 hb1
  have z9 := keep_below z9 hb1
  have g0 := keep_frozen g0 hz0 hb1
  have g1 := keep_frozen g1 hz0 hb1
  have g2 := keep_frozen g2 hz0 hb1
  have g3 := keep_frozen g3 hz0 hb1
  have g4 := keep_frozen g4 hz0 hb1
  have g5 := keep_frozen g5 hz0 hb1
  have g6 := keep_frozen g6 hz0 hb1
  have g7 := keep_frozen g7 hz0 hb1
  have g8 := keep_frozen g8 hz0 hb1
  have g9 := keep_frozen g9 hz0 hb1
  have f0 := keep_frozen f0 hz hb1
  have f1 := keep_frozen f1 hz hb1
  have f2 := keep_frozen f2 hz hb1
  have f3 := keep_frozen f3 hz hb1
  have f4 := keep_frozen f4 hz hb1
  have f5 := keep_frozen f5 hz hb1
  have f6 := keep_frozen f6 hz hb1
  have f7 := keep_frozen f7 hz hb1
  have f8 := keep_frozen f8 hz hb1
  have f9 := keep_frozen f9 hz hb1
  have hz2 : B < w1.heap.size := block_lt_of_cell k0
  have hz3 : B + 1 < w1.heap.size := block_lt_of_cell z0
  clear kb hb1 hz hz0
  go_upto_region 3 with (fail)
  obtain ⟨W2, hW2, k0, k1, k2, k3, k4, k5, k6, k7, k8, k9, z0, z1, z2, z3, z4, z5, z6, z7, z8, z9, f0, f1, f2, f3, f4, f5, f6, f7, f8, f9, kb2, hz2, hz3⟩ : ∃ W2, (((((((((w1.setCell ⟨B, 0, none⟩ (.int .i64 S1.s0)).setCell ⟨B, 1, none⟩ (.bool S1.t0)).setCell ⟨B, 2, none⟩ (.int .i64 S1.s1)).setCell ⟨B, 3, none⟩ (.bool S1.t1)).setCell ⟨B, 4, none⟩ (.int .i64 S1.s2)).setCell ⟨B, 5, none⟩ (.bool S1.t2)).setCell ⟨B, 6, none⟩ (.int .i64 S1.s3)).setCell ⟨B, 7, none⟩ (.bool S1.t3)).setCell ⟨B, 8, none⟩ (.int .i64 S1.hd)).setCell ⟨B, 9, none⟩ (.int .u64 S1.tu) = W2 ∧ W2.cell? ⟨B, 0, none⟩ = some (.int .i64 S1.s0) ∧ W2.cell? ⟨B, 1, none⟩ = some (.bool S1.t0) ∧ W2.cell? ⟨B, 2, none⟩ = some (.int .i64 S1.s1) ∧ W2.cell? ⟨B, 3, none⟩ = some (.bool S1.t1) ∧ W2.cell? ⟨B, 4, none⟩ = some (.int .i64 S1.s2) ∧ W2.cell? ⟨B, 5, none⟩ = some (.bool S1.t2) ∧ W2.cell? ⟨B, 6, none⟩ = some (.int .i64 S1.s3) ∧ W2.cell? ⟨B, 7, none⟩ = some (.bool S1.t3) ∧ W2.cell? ⟨B, 8, none⟩ = some (.int .i64 S1.hd) ∧ W2.cell? ⟨B, 9, none⟩ = some (.int .u64 S1.tu) ∧ W2.cell? ⟨B + 1, 0, none⟩ = some (.int .i64 0) ∧ W2.cell? ⟨B + 1, 1, none⟩ = some (.bool false) ∧ W2.cell? ⟨B + 1, 2, none⟩ = some (.int .i64 0) ∧ W2.cell? ⟨B + 1, 3, none⟩ = some (.bool false) ∧ W2.cell? ⟨B + 1, 4, none⟩ = some (.int .i64 0) ∧ W2.cell? ⟨B + 1, 5, none⟩ = some (.bool false) ∧ W2.cell? ⟨B + 1, 6, none⟩ = some (.int .i64 0) ∧ W2.cell? ⟨B + 1, 7, none⟩ = some (.bool false) ∧ W2.cell? ⟨B + 1, 8, none⟩ = some (.int .i64 0) ∧ W2.cell? ⟨B + 1, 9, none⟩ = some (.int .u64 0) ∧ W2.frozen? ⟨B + 1, 0, none⟩ = false ∧ W2.frozen? ⟨B + 1, 1, none⟩ = false ∧ W2.frozen? ⟨B + 1, 2, none⟩ = false ∧ W2.frozen? ⟨B + 1, 3, none⟩ = false ∧ W2.frozen? ⟨B + 1, 4, none⟩ = false ∧ W2.frozen? ⟨B + 1, 5, none⟩ = false ∧ W2.frozen? ⟨B + 1, 6, none⟩ = false ∧ W2.frozen? ⟨B + 1, 7, none⟩ = false ∧ W2.frozen? ⟨B + 1, 8, none⟩ = false ∧ W2.frozen? ⟨B + 1, 9, none⟩ = false ∧ Below B w W2 ∧ B < W2.heap.size ∧ B + 1 < W2.heap.size :=
    ⟨_, rfl, by go_simp, by go_simp, by go_simp, by go_simp, by go_simp, by go_simp, by go_simp, by go_simp, by go_simp, by go_simp, by go_simp, by go_simp, by go_simp, by go_simp, by go_simp, by go_simp, by go_simp, by go_simp, by go_simp, by go_simp, by go_simp, by go_simp, by go_simp, by go_simp, by go_simp, by go_simp, by go_simp, by go_simp, by go_simp, by go_simp, by repeat (first | (with_reducible exact kb1) | (with_reducible refine Below.setCell ?_ (by simp) _)), by simpa using hz2, by simpa using hz3⟩
  rw [hW2]
  clear hW2 kb1
  go_wp2_with fail
  refine (hsw _).mono ?_
  rintro e w3 ⟨rfl, hb3⟩
  have z0 := keep_below z0 hb3
  have z1 := keep_below z1 hb3
  have z2 := keep_below z2 hb3
  have z3 := keep_below z3 hb3
  have z4 := keep_below z4 hb3
  have z5 := keep_below z5 hb3
  have z6 := keep_below z6 hb3
  have z7 := keep_below z7 hb3
  have z8 := keep_below z8 hb3
  have z9 := keep_below z9 hb3
  have f0 := keep_frozen f0 hz3 hb3
  have f1 := keep_frozen f1 hz3 hb3
  have f2 := keep_frozen f2 hz3 hb3
  have f3 := keep_frozen f3 hz3 hb3
  have f4 := keep_frozen f4 hz3 hb3
  have f5 := keep_frozen f5 hz3 hb3
  have f6 := keep_frozen f6 hz3 hb3
  have f7 := keep_frozen f7 hz3 hb3
  have f8 := keep_frozen f8 hz3 hb3
  have f9 := keep_frozen f9 hz3 hb3
  have kb3 : Below B w w3 := kb2.trans (hb3.mono (by omega))
  have hz4 : B + 1 < w3.heap.size := block_lt_of_cell z0
  clear kb2 hb3 k0 k1 k2 k3 k4 k5 k6 k7 k8 k9 hz2 hz3
  go_wp2
  refine bodyPost_ret (v := .tuple #[.agg #[.int .i64 T.s0, .bool T.t0, .int .i64 T.s1, .bool T.t1, .int .i64 T.s2, .bool T.t2, .int .i64 T.s3, .bool T.t3, .int .i64 T.hd, .int .u64 T.tu], .int .i64 1, .int .i64 S1.s1]) (by simp [results, Try.results11, go_sem, z0, z1, z2, z3, z4, z5, z6, z7, z8, z9, hz4]) rfl ⟨rfl, ?_⟩
  rw [HB.out]
  repeat (first | (with_reducible exact kb3) | (with_reducible refine Below.setCell ?_ (by simp <;> omega) _) | (with_reducible refine Below.drew ?_))
set_option maxHeartbeats 2000000 in
set_option maxRecDepth 100000 in
theorem put_2 (S S1 T : WS) (x : Int) (hpl : ∀ w : World, Calls Try.prog 20 #[.agg #[.int .i64 S.s0, .bool S.t0, .int .i64 S.s1, .bool S.t1, .int .i64 S.s2, .bool S.t2, .int .i64 S.s3, .bool S.t3, .int .i64 S.hd, .int .u64 S.tu]] w fun e w' => e = .returned (.tuple #[.agg #[.int .i64 S1.s0, .bool S1.t0, .int .i64 S1.s1, .bool S1.t1, .int .i64 S1.s2, .bool S1.t2, .int .i64 S1.s3, .bool S1.t3, .int .i64 S1.hd, .int .u64 S1.tu], .int .i64 2]) ∧ Below w.heap.size w w')
    (hsw : ∀ w : World, Calls Try.prog 9 #[.agg #[.int .i64 S1.s0, .bool S1.t0, .int .i64 S1.s1, .bool S1.t1, .int .i64 S1.s2, .bool S1.t2, .int .i64 S1.s3, .bool S1.t3, .int .i64 S1.hd, .int .u64 S1.tu], .int .i64 2, .int .i64 x] w fun e w' => e = .returned (.agg #[.int .i64 T.s0, .bool T.t0, .int .i64 T.s1, .bool T.t1, .int .i64 T.s2, .bool T.t2, .int .i64 T.s3, .bool T.t3, .int .i64 T.hd, .int .u64 T.tu]) ∧ Below w.heap.size w w') (w : World) :
    Calls Try.prog 11 #[.agg #[.int .i64 S.s0, .bool S.t0, .int .i64 S.s1, .bool S.t1, .int .i64 S.s2, .bool S.t2, .int .i64 S.s3, .bool S.t3, .int .i64 S.hd, .int .u64 S.tu], .int .i64 x] w fun e w' => e = .returned (.tuple #[.agg #[.int .i64 T.s0, .bool T.t0, .int .i64 T.s1, .bool T.t1, .int .i64 T.s2, .bool T.t2, .int .i64 T.s3, .bool T.t3, .int .i64 T.hd, .int .u64 T.tu], .int .i64 2, .int .i64 S1.s2]) ∧ Below w.heap.size w w' := by
  go_enter Try.func11, Try.ntmps11
  go_upto_region 1 with (fail)
  obtain ⟨W0, hW0, k0, k1, k2, k3, k4, k5, k6, k7, k8, k9, z0, z1, z2, z3, z4, z5, z6, z7, z8, z9, g0, g1, g2, g3, g4, g5, g6, g7, g8, g9, f0, f1, f2, f3, f4, f5, f6, f7, f8, f9, kb, hz⟩ : ∃ W0, (w.alloc (.cells #[.int .i64 S.s0, .bool S.t0, .int .i64 S.s1, .bool S.t1, .int .i64 S.s2, .bool S.t2, .int .i64 S.s3, .bool S.t3, .int .i64 S.hd, .int .u64 S.tu] 27)).alloc (.cells #[.int .i64 0, .bool false, .int .i64 0, .bool false, .int .i64 0, .bool false, .int .i64 0, .bool false, .int .i64 0, .int .u64 0] 27) = W0 ∧ W0.cell? ⟨w.heap.size, 0, none⟩ = some (.int .i64 S.s0) ∧ W0.cell? ⟨w.heap.size, 1, none⟩ = some (.bool S.t0) ∧ W0.cell? ⟨w.heap.size, 2, none⟩ = some (.int .i64 S.s1) ∧ W0.cell? ⟨w.heap.size, 3, none⟩ = some (.bool S.t1) ∧ W0.cell? ⟨w.heap.size, 4, none⟩ = some (.int .i64 S.s2) ∧ W0.cell? ⟨w.heap.size, 5, none⟩ = some (.bool S.t2) ∧ W0.cell? ⟨w.heap.size, 6, none⟩ = some (.int .i64 S.s3) ∧ W0.cell? ⟨w.heap.size, 7, none⟩ = some (.bool S.t3) ∧ W0.cell? ⟨w.heap.size, 8, none⟩ = some (.int .i64 S.hd) ∧ W0.cell? ⟨w.heap.size, 9, none⟩ = some (.int .u64 S.tu) ∧ W0.cell? ⟨w.heap.size + 1, 0, none⟩ = some (.int .i64 0) ∧ W0.cell? ⟨w.heap.size + 1, 1, none⟩ = some (.bool false) ∧ W0.cell? ⟨w.heap.size + 1, 2, none⟩ = some (.int .i64 0) ∧ W0.cell? ⟨w.heap.size + 1, 3, none⟩ = some (.bool false) ∧ W0.cell? ⟨w.heap.size + 1, 4, none⟩ = some (.int .i64 0) ∧ W0.cell? ⟨w.heap.size + 1, 5, none⟩ = some (.bool false) ∧ W0.cell? ⟨w.heap.size + 1, 6, none⟩ = some (.int .i64 0) ∧ W0.cell? ⟨w.heap.size + 1, 7, none⟩ = some (.bool false) ∧ W0.cell? ⟨w.heap.size + 1, 8, none⟩ = some (.int .i64 0) ∧ W0.cell? ⟨w.heap.size + 1, 9, none⟩ = some (.int .u64 0) ∧ W0.frozen? ⟨w.heap.size, 0, none⟩ = false ∧ W0.frozen? ⟨w.heap.size, 1, none⟩ = false ∧ W0.frozen? ⟨w.heap.size, 2, none⟩ = false ∧ W0.frozen? ⟨w.heap.size, 3, none⟩ = false ∧ W0.frozen? ⟨w.heap.size, 4, none⟩ = false ∧ W0.frozen? ⟨w.heap.size, 5, none⟩ = false ∧ W0.frozen? ⟨w.heap.size, 6, none⟩ = false ∧ W0.frozen? ⟨w.heap.size, 7, none⟩ = false ∧ W0.frozen? ⟨w.heap.size, 8, none⟩ = false ∧ W0.frozen? ⟨w.heap.size, 9, none⟩ = false ∧ W0.frozen? ⟨w.heap.size + 1, 0, none⟩ = false ∧ W0.frozen? ⟨w.heap.size + 1, 1, none⟩ = false ∧ W0.frozen? ⟨w.heap.size + 1, 2, none⟩ = false ∧ W0.frozen? ⟨w.heap.size + 1, 3, none⟩ = false ∧ W0.frozen? ⟨w.heap.size + 1, 4, none⟩ = false ∧ W0.frozen? ⟨w.heap.size + 1, 5, none⟩ = false ∧ W0.frozen? ⟨w.heap.size + 1, 6, none⟩ = false ∧ W0.frozen? ⟨w.heap.size + 1, 7, none⟩ = false ∧ W0.frozen? ⟨w.heap.size + 1, 8, none⟩ = false ∧ W0.frozen? ⟨w.heap.size + 1, 9, none⟩ = false ∧ Below w.heap.size w W0 ∧ w.heap.size + 1 < W0.heap.size :=
    ⟨_, rfl, by go_simp, by go_simp, by go_simp, by go_simp, by go_simp, by go_simp, by go_simp, by go_simp, by go_simp, by go_simp, by go_simp, by go_simp, by go_simp, by go_simp, by go_simp, by go_simp, by go_simp, by go_simp, by go_simp, by go_simp, by go_simp, by go_simp, by go_simp, by go_simp, by go_simp, by go_simp, by go_simp, by go_simp, by go_simp, by go_simp, by go_simp, by go_simp, by go_simp, by go_simp, by go_simp, by go_simp, by go_simp, by go_simp, by go_simp, by go_simp, bnew (bnew (brefl w) _) _, by simp⟩
  rw [hW0]
  clear hW0
  have hz0 := block_lt_of_cell k0
  generalize hB : w.heap.size = B at *
  have HB := Lib.hid hB
  clear hB
  go_wp2_with fail
  refine (hpl _).mono ?_
  rintro e w1 ⟨rfl, hb1⟩
  have kb1 : Below B w w1 := kb.trans (hb1.mono (by omega))
  have k0 := keep_below k0 hb1
  have k1 := keep_below k1 hb1
  have k2 := keep_below k2 hb1
  have k3 := keep_below k3 hb1
  have k4 := keep_below k4 hb1
  have k5 := keep_below k5 hb1
  have k6 := keep_below k6 hb1
  have k7 := keep_below k7 hb1
  have k8 := keep_below k8 hb1
  have k9 := keep_below k9 hb1
  have z0 := keep_below z0 hb1
  have z1 := keep_below z1 hb1
  have z2 := keep_below z2 hb1
  have z3 := keep_below z3 hb1
  have z4 := keep_below z4 hb1
  have z5 := keep_below z5 hb1
  have z6 := keep_below z6 hb1
  have z7 := keep_below z7 hb1
  have z8 := keep_below z8 hb1
  have z9 := keep_below z9 hb1
  have g0 := keep_frozen g0 hz0 hb1
  have g1 := keep_frozen g1 hz0 hb1
  have g2 := keep_frozen g2 hz0 hb1
  have g3 := keep_frozen g3 hz0 hb1
  have g4 := keep_frozen g4 hz0 hb1
  have g5 := keep_frozen g5 hz0 hb1
  have g6 := keep_frozen g6 hz0 hb1
  have g7 := keep_frozen g7 hz0 hb1
  have g8 := keep_frozen g8 hz0 hb1
  have g9 := keep_frozen g9 hz0 hb1
  have f0 := keep_frozen f0 hz hb1
  have f1 := keep_frozen f1 hz hb1
  have f2 := keep_frozen f2 hz hb1
  have f3 := keep_frozen f3 hz hb1
  have f4 := keep_frozen f4 hz hb1
  have f5 := keep_frozen f5 hz hb1
  have f6 := keep_frozen f6 hz hb1
  have f7 := keep_frozen f7 hz hb1
  have f8 := keep_frozen f8 hz hb1
  have f9 := keep_frozen f9 hz hb1
  have hz2 : B < w1.heap.size := block_lt_of_cell k0
  have hz3 : B + 1 < w1.heap.size := block_lt_of_cell z0
  clear kb hb1 hz hz0
  go_upto_region 3 with (fail)
  obtain ⟨W2, hW2, k0, k1, k2, k3, k4, k5, k6, k7, k8, k9, z0, z1, z2, z3, z4, z5, z6, z7, z8, z9, f0, f1, f2, f3, f4, f5, f6, f7, f8, f9, kb2, hz2, hz3⟩ : ∃ W2, (((((((((w1.setCell ⟨B, 0, none⟩ (.int .i64 S1.s0)).setCell ⟨B, 1, none⟩ (.bool S1.t0)).setCell ⟨B, 2, none⟩ (.int .i64 S1.s1)).setCell ⟨B, 3, none⟩ (.bool S1.t1)).setCell ⟨B, 4, none⟩ (.int .i64 S1.s2)).setCell ⟨B, 5, none⟩ (.bool S1.t2)).setCell ⟨B, 6, none⟩ (.int .i64 S1.s3)).setCell ⟨B, 7, none⟩ (.bool S1.t3)).setCell ⟨B, 8, none⟩ (.int .i64 S1.hd)).setCell ⟨B, 9, none⟩ (.int .u64 S1.tu) = W2 ∧ W2.cell? ⟨B, 0, none⟩ = some (.int .i64 S1.s0) ∧ W2.cell? ⟨B, 1, none⟩ = some (.bool S1.t0) ∧ W2.cell? ⟨B, 2, none⟩ = some (.int .i64 S1.s1) ∧ W2.cell? ⟨B, 3, none⟩ = some (.bool S1.t1) ∧ W2.cell? ⟨B, 4, none⟩ = some (.int .i64 S1.s2) ∧ W2.cell? ⟨B, 5, none⟩ = some (.bool S1.t2) ∧ W2.cell? ⟨B, 6, none⟩ = some (.int .i64 S1.s3) ∧ W2.cell? ⟨B, 7, none⟩ = some (.bool S1.t3) ∧ W2.cell? ⟨B, 8, none⟩ = some (.int .i64 S1.hd) ∧ W2.cell? ⟨B, 9, none⟩ = some (.int .u64 S1.tu) ∧ W2.cell? ⟨B + 1, 0, none⟩ = some (.int .i64 0) ∧ W2.cell? ⟨B + 1, 1, none⟩ = some (.bool false) ∧ W2.cell? ⟨B + 1, 2, none⟩ = some (.int .i64 0) ∧ W2.cell? ⟨B + 1, 3, none⟩ = some (.bool false) ∧ W2.cell? ⟨B + 1, 4, none⟩ = some (.int .i64 0) ∧ W2.cell? ⟨B + 1, 5, none⟩ = some (.bool false) ∧ W2.cell? ⟨B + 1, 6, none⟩ = some (.int .i64 0) ∧ W2.cell? ⟨B + 1, 7, none⟩ = some (.bool false) ∧ W2.cell? ⟨B + 1, 8, none⟩ = some (.int .i64 0) ∧ W2.cell? ⟨B + 1, 9, none⟩ = some (.int .u64 0) ∧ W2.frozen? ⟨B + 1, 0, none⟩ = false ∧ W2.frozen? ⟨B + 1, 1, none⟩ = false ∧ W2.frozen? ⟨B + 1, 2, none⟩ = false ∧ W2.frozen? ⟨B + 1, 3, none⟩ = false ∧ W2.frozen? ⟨B + 1, 4, none⟩ = false ∧ W2.frozen? ⟨B + 1, 5, none⟩ = false ∧ W2.frozen? ⟨B + 1, 6, none⟩ = false ∧ W2.frozen? ⟨B + 1, 7, none⟩ = false ∧ W2.frozen? ⟨B + 1, 8, none⟩ = false ∧ W2.frozen? ⟨B + 1, 9, none⟩ = false ∧ Below B w W2 ∧ B < W2.heap.size ∧ B + 1 < W2.heap.size :=
    ⟨_, rfl, by go_simp, by go_simp, by go_simp, by go_simp, by go_simp, by go_simp, by go_simp, by go_simp, by go_simp, by go_simp, by go_simp, by go_simp, by go_simp, by go_simp, by go_simp, by go_simp, by go_simp, by go_simp, by go_simp, by go_simp, by go_simp, by go_simp, by go_simp, by go_simp, by go_simp, by go_simp, by go_simp, by go_simp, by go_simp, by go_simp, by repeat (first | (with_reducible exact kb1) | (with_reducible refine Below.setCell ?_ (by simp) _)), by simpa using hz2, by simpa using hz3⟩
  rw [hW2]
  clear hW2 kb1
  go_wp2_with fail
  refine (hsw _).mono ?_
  rintro e w3 ⟨rfl, hb3⟩
  have z0 := keep_below z0 hb3
  have z1 := keep_below z1 hb3
  have z2 := keep_below z2 hb3
  have z3 := keep_below z3 hb3
  have z4 := keep_below z4 hb3
  have z5 := keep_below z5 hb3
  have z6 := keep_below z6 hb3
  have z7 := keep_below z7 hb3
  have z8 := keep_below z8 hb3
  have z9 := keep_below z9 hb3
  have f0 := keep_frozen f0 hz3 hb3
  have f1 := keep_frozen f1 hz3 hb3
  have f2 := keep_frozen f2 hz3 hb3
  have f3 := keep_frozen f3 hz3 hb3
  have f4 := keep_frozen f4 hz3 hb3
  have f5 := keep_frozen f5 hz3 hb3
  have f6 := keep_frozen f6 hz3 hb3
  have f7 := keep_frozen f7 hz3 hb3
  have f8 := keep_frozen f8 hz3 hb3
  have f9 := keep_frozen f9 hz3 hb3
  have kb3 : Below B w w3 := kb2.trans (hb3.mono (by omega))
  have hz4 : B + 1 < w3.heap.size := block_lt_of_cell z0
  clear kb2 hb3 k0 k1 k2 k3 k4 k5 k6 k7 k8 k9 hz2 hz3
  go_wp2
  refine bodyPost_ret (v := .tuple #[.agg #[.int .i64 T.s0, .bool T.t0, .int .i64 T.s1, .bool T.t1, .int .i64 T.s2, .bool T.t2, .int .i64 T.s3, .bool T.t3, .int .i64 T.hd, .int .u64 T.tu], .int .i64 2, .int .i64 S1.s2]) (by simp [results, Try.results11, go_sem, z0, z1, z2, z3, z4, z5, z6, z7, z8, z9, hz4]) rfl ⟨rfl, ?_⟩
  rw [HB.out]
  repeat (first | (with_reducible exact kb3) | (with_reducible refine Below.setCell ?_ (by simp <;> omega) _) | (with_reducible refine Below.drew ?_))
set_option maxHeartbeats 2000000 in
set_option maxRecDepth 100000 in
theorem put_3 (S S1 T : WS) (x : Int) (hpl : ∀ w : World, Calls Try.prog 20 #[.agg #[.int .i64 S.s0, .bool S.t0, .int .i64 S.s1, .bool S.t1, .int .i64 S.s2, .bool S.t2, .int .i64 S.s3, .bool S.t3, .int .i64 S.hd, .int .u64 S.tu]] w fun e w' => e = .returned (.tuple #[.agg #[.int .i64 S1.s0, .bool S1.t0, .int .i64 S1.s1, .bool S1.t1, .int .i64 S1.s2, .bool S1.t2, .int .i64 S1.s3, .bool S1.t3, .int .i64 S1.hd, .int .u64 S1.tu], .int .i64 3]) ∧ Below w.heap.size w w')
    (hsw : ∀ w : World, Calls Try.prog 9 #[.agg #[.int .i64 S1.s0, .bool S1.t0, .int .i64 S1.s1, .bool S1.t1, .int .i64 S1.s2, .bool S1.t2, .int .i64 S1.s3, .bool S1.t3, .int .i64 S1.hd, .int .u64 S1.tu], .int .i64 3, .int .i64 x] w fun e w' => e = .returned (.agg #[.int .i64 T.s0, .bool T.t0, .int .i64 T.s1, .bool T.t1, .int .i64 T.s2, .bool T.t2, .int .i64 T.s3, .bool T.t3, .int .i64 T.hd, .int .u64 T.tu]) ∧ Below w.heap.size w w') (w : World) :
    Calls Try.prog 11 #[.agg #[.int .i64 S.s0, .bool S.t0, .int .i64 S.s1, .bool S.t1, .int .i64 S.s2, .bool S.t2, .int .i64 S.s3, .bool S.t3, .int .i64 S.hd, .int .u64 S.tu], .int .i64 x] w fun e w' => e = .returned (.tuple #[.agg #[.int .i64 T.s0, .bool T.t0, .int .i64 T.s1, .bool T.t1, .int .i64 T.s2, .bool T.t2, .int .i64 T.s3, .bool T.t3, .int .i64 T.hd, .int .u64 T.tu], .int .i64 3, .int .i64 S1.s3]) ∧ Below w.heap.size w w' := by
  go_enter Try.func11, Try.ntmps11
  go_upto_region 1 with (fail)
  obtain ⟨W0, hW0, k0, k1, k2, k3, k4, k5, k6, k7, k8, k9, z0, z1, z2, z3, z4, z5, z6, z7, z8, z9, g0, g1, g2, g3, g4, g5, g6, g7, g8, g9, f0, f1, f2, f3, f4, f5, f6, f7, f8, f9, kb, hz⟩ : ∃ W0, (w.alloc (.cells #[.int .i64 S.s0, .bool S.t0, .int .i64 S.s1, .bool S.t1, .int .i64 S.s2, .bool S.t2, .int .i64 S.s3, .bool S.t3, .int .i64 S.hd, .int .u64 S.tu] 27)).alloc (.cells #[.int .i64 0, .bool false, .int .i64 0, .bool false, .int .i64 0, .bool false, .int .i64 0, .bool false, .int .i64 0, .int .u64 0] 27) = W0 ∧ W0.cell? ⟨w.heap.size, 0, none⟩ = some (.int .i64 S.s0) ∧ W0.cell? ⟨w.heap.size, 1, none⟩ = some (.bool S.t0) ∧ W0.cell? ⟨w.heap.size, 2, none⟩ = some (.int .i64 S.s1) ∧ W0.cell? ⟨w.heap.size, 3, none⟩ = some (.bool S.t1) ∧ W0.cell? ⟨w.heap.size, 4, none⟩ = some (.int .i64 S.s2) ∧ W0.cell? ⟨w.heap.size, 5, none⟩ = some (.bool S.t2) ∧ W0.cell? ⟨w.heap.size, 6, none⟩ = some (.int .i64 S.s3) ∧ W0.cell? ⟨w.heap.size, 7, none⟩ = some (.bool S.t3) ∧ W0.cell? ⟨w.heap.size, 8, none⟩ = some (.int .i64 S.hd) ∧ W0.cell? ⟨w.heap.size, 9, none⟩ = some (.int .u64 S.tu) ∧ W0.cell? ⟨w.heap.size + 1, 0, none⟩ = some (.int .i64 0) ∧ W0.cell? ⟨w.heap.size + 1, 1, none⟩ = some (.bool false) ∧ W0.cell? ⟨w.heap.size + 1, 2, none⟩ = some (.int .i64 0) ∧ W0.cell? ⟨w.heap.size + 1, 3, none⟩ = some (.bool false) ∧ W0.cell? ⟨w.heap.size + 1, 4, none⟩ = some (.int .i64 0) ∧ W0.cell? ⟨w.heap.size + 1, 5, none⟩ = some (.bool false) ∧ W0.cell? ⟨w.heap.size + 1, 6, none⟩ = some (.int .i64 0) ∧ W0.cell? ⟨w.heap.size + 1, 7, none⟩ = some (.bool false) ∧ W0.cell? ⟨w.heap.size + 1, 8, none⟩ = some (.int .i64 0) ∧ W0.cell? ⟨w.heap.size + 1, 9, none⟩ = some (.int .u64 0) ∧ W0.frozen? ⟨w.heap.size, 0, none⟩ = false ∧ W0.frozen? ⟨w.heap.size, 1, none⟩ = false ∧ W0.frozen? ⟨w.heap.size, 2, none⟩ = false ∧ W0.frozen? ⟨w.heap.size, 3, none⟩ = false ∧ W0.frozen? ⟨w.heap.size, 4, none⟩ = false ∧ W0.frozen? ⟨w.heap.size, 5, none⟩ = false ∧ W0.frozen? ⟨w.heap.size, 6, none⟩ = false ∧ W0.frozen? ⟨w.heap.size, 7, none⟩ = false ∧ W0.frozen? ⟨w.heap.size, 8, none⟩ = false ∧ W0.frozen? ⟨w.heap.size, 9, none⟩ = false ∧ W0.frozen? ⟨w.heap.size + 1, 0, none⟩ = false ∧ W0.frozen? ⟨w.heap.size + 1, 1, none⟩ = false ∧ W0.frozen? ⟨w.heap.size + 1, 2, none⟩ = false ∧ W0.frozen? ⟨w.heap.size + 1, 3, none⟩ = false ∧ W0.frozen? ⟨w.heap.size + 1, 4, none⟩ = false ∧ W0.frozen? ⟨w.heap.size + 1, 5, none⟩ = false ∧ W0.frozen? ⟨w.heap.size + 1, 6, none⟩ = false ∧ W0.frozen? ⟨w.heap.size + 1, 7, none⟩ = false ∧ W0.frozen? ⟨w.heap.size + 1, 8, none⟩ = false ∧ W0.frozen? ⟨w.heap.size + 1, 9, none⟩ = false ∧ Below w.heap.size w W0 ∧ w.heap.size + 1 < W0.heap.size :=
    ⟨_, rfl, by go_simp, by go_simp, by go_simp, by go_simp, by go_simp, by go_simp, by go_simp, by go_simp, by go_simp, by go_simp, by go_simp, by go_simp, by go_simp, by go_simp, by go_simp, by go_simp, by go_simp, by go_simp, by go_simp, by go_simp, by go_simp, by go_simp, by go_simp, by go_simp, by go_simp, by go_simp, by go_simp, by go_simp, by go_simp, by go_simp, by go_simp, by go_simp, by go_simp, by go_simp, by go_simp, by go_simp, by go_simp, by go_simp, by go_simp, by go_simp, bnew (bnew (brefl w) _) _, by simp⟩
  rw [hW0]
  clear hW0
  have hz0 := block_lt_of_cell k0
  generalize hB : w.heap.size = B at *
  have HB := Lib.hid hB
  clear hB
  go_wp2_with fail
  refine (hpl _).mono ?_
  rintro e w1 ⟨rfl, hb1⟩
  have kb1 : Below B w w1 := kb.trans (hb1.mono (by omega))
  have k0 := keep_below k0 hb1
  have k1 := keep_below k1 hb1
  have k2 := keep_below k2 hb1
  have k3 := keep_below k3 hb1
  have k4 := keep_below k4 hb1
  have k5 := keep_below k5 hb1
  have k6 := keep_below k6 hb1
  have k7 := keep_below k7 hb1
  have k8 := keep_below k8 hb1
  have k9 := keep_below k9 hb1
  have z0 := keep_below z0 hb1
  have z1 := keep_below z1 hb1
  have z2 := keep_below z2 hb1
  have z3 := keep_below z3 hb1
  have z4 := keep_below z4 hb1
  have z5 := keep_below z5 hb1
  have z6 := keep_below z6 hb1
  have z7 := keep_below z7 hb1
  have z8 := keep_below z8 hb1
  have z9 := keep_below z9 hb1
  have g0 := keep_frozen g0 hz0 hb1
  have g1 := keep_frozen g1 hz0 hb1
  have g2 := keep_frozen g2 hz0 hb1
  have g3 := keep_frozen g3 hz0 hb1
  have g4 := keep_frozen g4 hz0 hb1
  have g5 := keep_frozen g5 hz0 hb1
  have g6 := keep_frozen g6 hz0 hb1
  have g7 := keep_frozen g7 hz0 hb1
  have g8 := keep_frozen g8 hz0 hb1
  have g9 := keep_frozen g9 hz0 hb1
  have f0 := keep_frozen f0 hz hb1
  have f1 := keep_frozen f1 hz hb1
  have f2 := keep_frozen f2 hz hb1
  have f3 := keep_frozen f3 hz hb1
  have f4 := keep_frozen f4 hz hb1
  have f5 := keep_frozen f5 hz hb1
  have f6 := keep_frozen f6 hz hb1
  have f7 := keep_frozen f7 hz hb1
  have f8 := keep_frozen f8 hz hb1
  have f9 := keep_frozen f9 hz hb1
  have hz2 : B < w1.heap.size := block_lt_of_cell k0
  have hz3 : B + 1 < w1.heap.size := block_lt_of_cell z0
  clear kb hb1 hz hz0
  go_upto_region 3 with (fail)
  obtain ⟨W2, hW2, k0, k1, k2, k3, k4, k5, k6, k7, k8, k9, z0, z1, z2, z3, z4, z5, z6, z7, z8, z9, f0, f1, f2, f3, f4, f5, f6, f7, f8, f9, kb2, hz2, hz3⟩ : ∃ W2, (((((((((w1.setCell ⟨B, 0, none⟩ (.int .i64 S1.s0)).setCell ⟨B, 1, none⟩ (.bool S1.t0)).setCell ⟨B, 2, none⟩ (.int .i64 S1.s1)).setCell ⟨B, 3, none⟩ (.bool S1.t1)).setCell ⟨B, 4, none⟩ (.int .i64 S1.s2)).setCell ⟨B, 5, none⟩ (.bool S1.t2)).setCell ⟨B, 6, none⟩ (.int .i64 S1.s3)).setCell ⟨B, 7, none⟩ (.bool S1.t3)).setCell ⟨B, 8, none⟩ (.int .i64 S1.hd)).setCell ⟨B, 9, none⟩ (.int .u64 S1.tu) = W2 ∧ W2.cell? ⟨B, 0, none⟩ = some (.int .i64 S1.s0) ∧ W2.cell? ⟨B, 1, none⟩ = some (.bool S1.t0) ∧ W2.cell? ⟨B, 2, none⟩ = some (.int .i64 S1.s1) ∧ W2.cell? ⟨B, 3, none⟩ = some (.bool S1.t1) ∧ W2.cell? ⟨B, 4, none⟩ = some (.int .i64 S1.s2) ∧ W2.cell? ⟨B, 5, none⟩ = some (.bool S1.t2) ∧ W2.cell? ⟨B, 6, none⟩ = some (.int .i64 S1.s3) ∧ W2.cell? ⟨B, 7, none⟩ = some (.bool S1.t3) ∧ W2.cell? ⟨B, 8, none⟩ = some (.int .i64 S1.hd) ∧ W2.cell? ⟨B, 9, none⟩ = some (.int .u64 S1.tu) ∧ W2.cell? ⟨B + 1, 0, none⟩ = some (.int .i64 0) ∧ W2.cell? ⟨B + 1, 1, none⟩ = some (.bool false) ∧ W2.cell? ⟨B + 1, 2, none⟩ = some (.int .i64 0) ∧ W2.cell? ⟨B + 1, 3, none⟩ = some (.bool false) ∧ W2.cell? ⟨B + 1, 4, none⟩ = some (.int .i64 0) ∧ W2.cell? ⟨B + 1, 5, none⟩ = some (.bool false) ∧ W2.cell? ⟨B + 1, 6, none⟩ = some (.int .i64 0) ∧ W2.cell? ⟨B + 1, 7, none⟩ = some (.bool false) ∧ W2.cell? ⟨B + 1, 8, none⟩ = some (.int .i64 0) ∧ W2.cell? ⟨B + 1, 9, none⟩ = some (.int .u64 0) ∧ W2.frozen? ⟨B + 1, 0, none⟩ = false ∧ W2.frozen? ⟨B + 1, 1, none⟩ = false ∧ W2.frozen? ⟨B + 1, 2, none⟩ = false ∧ W2.frozen? ⟨B + 1, 3, none⟩ = false ∧ W2.frozen? ⟨B + 1, 4, none⟩ = false ∧ W2.frozen? ⟨B + 1, 5, none⟩ = false ∧ W2.frozen? ⟨B + 1, 6, none⟩ = false ∧ W2.frozen? ⟨B + 1, 7, none⟩ = false ∧ W2.frozen? ⟨B + 1, 8, none⟩ = false ∧ W2.frozen? ⟨B + 1, 9, none⟩ = false ∧ Below B w W2 ∧ B < W2.heap.size ∧ B + 1 < W2.heap.size :=
    ⟨_, rfl, by go_simp, by go_simp, by go_simp, by go_simp, by go_simp, by go_simp, by go_simp, by go_simp, by go_simp, by go_simp, by go_simp, by go_simp, by go_simp, by go_simp, by go_simp, by go_simp, by go_simp, by go_simp, by go_simp, by go_simp, by go_simp, by go_simp, by go_simp, by go_simp, by go_simp, by go_simp, by go_simp, by go_simp, by go_simp, by go_simp, by repeat (first | (with_reducible exact kb1) | (with_reducible refine Below.setCell ?_ (by simp) _)), by simpa using hz2, by simpa using hz3⟩
  rw [hW2]
  clear hW2 kb1
  go_wp2_with fail
  refine (hsw _).mono ?_
  rintro e w3 ⟨rfl, hb3⟩
  have z0 := keep_below z0 hb3
  have z1 := keep_below z1 hb3
  have z2 := keep_below z2 hb3
  have z3 := keep_below z3 hb3
  have z4 := keep_below z4 hb3
  have z5 := keep_below z5 hb3
  have z6 := keep_below z6 hb3
  have z7 := keep_below z7 hb3
  have z8 := keep_below z8 hb3
  have z9 := keep_below z9 hb3
  have f0 := keep_frozen f0 hz3 hb3
  have f1 := keep_frozen f1 hz3 hb3
  have f2 := keep_frozen f2 hz3 hb3
  have f3 := keep_frozen f3 hz3 hb3
  have f4 := keep_frozen f4 hz3 hb3
  have f5 := keep_frozen f5 hz3 hb3
  have f6 := keep_frozen f6 hz3 hb3
  have f7 := keep_frozen f7 hz3 hb3
  have f8 := keep_frozen f8 hz3 hb3
  have f9 := keep_frozen f9 hz3 hb3
  have kb3 : Below B w w3 := kb2.trans (hb3.mono (by omega))
  have hz4 : B + 1 < w3.heap.size := block_lt_of_cell z0
  clear kb2 hb3 k0 k1 k2 k3 k4 k5 k6 k7 k8 k9 hz2 hz3
  go_wp2
  refine bodyPost_ret (v := .tuple #[.agg #[.int .i64 T.s0, .bool T.t0, .int .i64 T.s1, .bool T.t1, .int .i64 T.s2, .bool T.t2, .int .i64 T.s3, .bool T.t3, .int .i64 T.hd, .int .u64 T.tu], .int .i64 3, .int .i64 S1.s3]) (by simp [results, Try.results11, go_sem, z0, z1, z2, z3, z4, z5, z6, z7, z8, z9, hz4]) rfl ⟨rfl, ?_⟩
  rw [HB.out]
  repeat (first | (with_reducible exact kb3) | (with_reducible refine Below.setCell ?_ (by simp <;> omega) _) | (with_reducible refine Below.drew ?_))
set_option maxHeartbeats 2000000 in
set_option maxRecDepth 100000 in
theorem rput_0 (S S1 T : WS) (x : Int) (hpl : ∀ w : World, Calls Try.prog 21 #[.agg #[.int .i64 S.s0, .bool S.t0, .int .i64 S.s1, .bool S.t1, .int .i64 S.s2, .bool S.t2, .int .i64 S.s3, .bool S.t3, .int .i64 S.hd, .int .u64 S.tu]] w fun e w' => e = .returned (.tuple #[.agg #[.int .i64 S1.s0, .bool S1.t0, .int .i64 S1.s1, .bool S1.t1, .int .i64 S1.s2, .bool S1.t2, .int .i64 S1.s3, .bool S1.t3, .int .i64 S1.hd, .int .u64 S1.tu], .int .i64 0]) ∧ Below w.heap.size w w')
    (hsw : ∀ w : World, Calls Try.prog 7 #[.agg #[.int .i64 S1.s0, .bool S1.t0, .int .i64 S1.s1, .bool S1.t1, .int .i64 S1.s2, .bool S1.t2, .int .i64 S1.s3, .bool S1.t3, .int .i64 S1.hd, .int .u64 S1.tu], .int .i64 0, .agg #[.int .i64 x, .bool true]] w fun e w' => e = .returned (.agg #[.int .i64 T.s0, .bool T.t0, .int .i64 T.s1, .bool T.t1, .int .i64 T.s2, .bool T.t2, .int .i64 T.s3, .bool T.t3, .int .i64 T.hd, .int .u64 T.tu]) ∧ Below w.heap.size w w') (w : World) :
    Calls Try.prog 12 #[.agg #[.int .i64 S.s0, .bool S.t0, .int .i64 S.s1, .bool S.t1, .int .i64 S.s2, .bool S.t2, .int .i64 S.s3, .bool S.t3, .int .i64 S.hd, .int .u64 S.tu], .int .i64 x] w fun e w' => e = .returned (.tuple #[.agg #[.int .i64 T.s0, .bool T.t0, .int .i64 T.s1, .bool T.t1, .int .i64 T.s2, .bool T.t2, .int .i64 T.s3, .bool T.t3, .int .i64 T.hd, .int .u64 T.tu], .int .i64 0, .int .i64 S1.s0]) ∧ Below w.heap.size w w' := by
  go_enter Try.func12, Try.ntmps12
  go_upto_region 1 with (fail)
  obtain ⟨W0, hW0, k0, k1, k2, k3, k4, k5, k6, k7, k8, k9, z0, z1, z2, z3, z4, z5, z6, z7, z8, z9, g0, g1, g2, g3, g4, g5, g6, g7, g8, g9, f0, f1, f2, f3, f4, f5, f6, f7, f8, f9, kb, hz⟩ : ∃ W0, (w.alloc (.cells #[.int .i64 S.s0, .bool S.t0, .int .i64 S.s1, .bool S.t1, .int .i64 S.s2, .bool S.t2, .int .i64 S.s3, .bool S.t3, .int .i64 S.hd, .int .u64 S.tu] 31)).alloc (.cells #[.int .i64 0, .bool false, .int .i64 0, .bool false, .int .i64 0, .bool false, .int .i64 0, .bool false, .int .i64 0, .int .u64 0] 31) = W0 ∧ W0.cell? ⟨w.heap.size, 0, none⟩ = some (.int .i64 S.s0) ∧ W0.cell? ⟨w.heap.size, 1, none⟩ = some (.bool S.t0) ∧ W0.cell? ⟨w.heap.size, 2, none⟩ = some (.int .i64 S.s1) ∧ W0.cell? ⟨w.heap.size, 3, none⟩ = some (.bool S.t1) ∧ W0.cell? ⟨w.heap.size, 4, none⟩ = some (.int .i64 S.s2) ∧ W0.cell? ⟨w.heap.size, 5, none⟩ = some (.bool S.t2) ∧ W0.cell? ⟨w.heap.size, 6, none⟩ = some (.int .i64 S.s3) ∧ W0.cell? ⟨w.heap.size, 7, none⟩ = some (.bool S.t3) ∧ W0.cell? ⟨w.heap.size, 8, none⟩ = some (.int .i64 S.hd) ∧ W0.cell? ⟨w.heap.size, 9, none⟩ = some (.int .u64 S.tu) ∧ W0.cell? ⟨w.heap.size + 1, 0, none⟩ = some (.int .i64 0) ∧ W0.cell? ⟨w.heap.size + 1, 1, none⟩ = some (.bool false) ∧ W0.cell? ⟨w.heap.size + 1, 2, none⟩ = some (.int .i64 0) ∧ W0.cell? ⟨w.heap.size + 1, 3, none⟩ = some (.bool false) ∧ W0.cell? ⟨w.heap.size + 1, 4, none⟩ = some (.int .i64 0) ∧ W0.cell? ⟨w.heap.size + 1, 5, none⟩ = some (.bool false) ∧ W0.cell? ⟨w.heap.size + 1, 6, none⟩ = some (.int .i64 0) ∧ W0.cell? ⟨w.heap.size + 1, 7, none⟩ = some (.bool false) ∧ W0.cell? ⟨w.heap.size + 1, 8, none⟩ = some (.int .i64 0) ∧ W0.cell? ⟨w.heap.size + 1, 9, none⟩ = some (.int .u64 0) ∧ W0.frozen? ⟨w.heap.size, 0, none⟩ = false ∧ W0.frozen? ⟨w.heap.size, 1, none⟩ = false ∧ W0.frozen? ⟨w.heap.size, 2, none⟩ = false ∧ W0.frozen? ⟨w.heap.size, 3, none⟩ = false ∧ W0.frozen? ⟨w.heap.size, 4, none⟩ = false ∧ W0.frozen? ⟨w.heap.size, 5, none⟩ = false ∧ W0.frozen? ⟨w.heap.size, 6, none⟩ = false ∧ W0.frozen? ⟨w.heap.size, 7, none⟩ = false ∧ W0.frozen? ⟨w.heap.size, 8, none⟩ = false ∧ W0.frozen? ⟨w.heap.size, 9, none⟩ = false ∧ W0.frozen? ⟨w.heap.size + 1, 0, none⟩ = false ∧ W0.frozen? ⟨w.heap.size + 1, 1, none⟩ = false ∧ W0.frozen? ⟨w.heap.size + 1, 2, none⟩ = false ∧ W0.frozen? ⟨w.heap.size + 1, 3, none⟩ = false ∧ W0.frozen? ⟨w.heap.size + 1, 4, none⟩ = false ∧ W0.frozen? ⟨w.heap.size + 1, 5, none⟩ = false ∧ W0.frozen? ⟨w.heap.size + 1, 6, none⟩ = false ∧ W0.frozen? ⟨w.heap.size + 1, 7, none⟩ = false ∧ W0.frozen? ⟨w.heap.size + 1, 8, none⟩ = false ∧ W0.frozen? ⟨w.heap.size + 1, 9, none⟩ = false ∧ Below w.heap.size w W0 ∧ w.heap.size + 1 < W0.heap.size :=
    ⟨_, rfl, by go_simp, by go_simp, by go_simp, by go_simp, by go_simp, by go_simp, by go_simp, by go_simp, by go_simp, by go_simp, by go_simp, by go_simp, by go_simp, by go_simp, by go_simp, by go_simp, by go_simp, by go_simp, by go_simp, by go_simp, by go_simp, by go_simp, by go_simp, by go_simp, by go_simp, by go_simp, by go_simp, by go_simp, by go_simp, by go_simp, by go_simp, by go_simp, by go_simp, by go_simp, by go_simp, by go_simp, by go_simp, by go_simp, by go_simp, by go_simp, bnew (bnew (brefl w) _) _, by simp⟩
  rw [hW0]
  clear hW0
  have hz0 := block_lt_of_cell k0
  generalize hB : w.heap.size = B at *
  have HB := Lib.hid hB
  clear hB
  go_wp2_with fail
  refine (hpl _).mono ?_
  rintro e w1 ⟨rfl, hb1⟩
  have kb1 : Below B w w1 := kb.trans (hb1.mono (by omega))
  have z0 := keep_below z0 hb1
  have z1 := keep_below z1 hb1
  have z2 := keep_below z2 hb1
  have z3 := keep_below z3 hb1
  have z4 := keep_below z4 hb1
  have z5 := keep_below z5 hb1
  have z6 := keep_below z6 hb1
  have z7 := keep_below z7 hb1
  have z8 := keep_below z8 hb1
  have z9 := keep_below z9 hb1
  have f0 := keep_frozen f0 hz hb1
  have f1 := keep_frozen f1 hz hb1
  have f2 := keep_frozen f2 hz hb1
  have f3 := keep_frozen f3 hz hb1
  have f4 := keep_frozen f4 hz hb1
  have f5 := keep_frozen f5 hz hb1
  have f6 := keep_frozen f6 hz hb1
  have f7 := keep_frozen f7 hz hb1
  have f8 := keep_frozen f8 hz hb1
  have f9 := keep_frozen f9 hz hb1
  have hz3 : B + 1 < w1.heap.size := block_lt_of_cell z0
  clear kb hb1 hz hz0 k0 g0 k1 g1 k2 g2 k3 g3 k4 g4 k5 g5 k6 g6 k7 g7 k8 g8 k9 g9
  go_upto_region 2 with (fail)
  obtain ⟨W2, hW2, k0, k1, k2, k3, k4, k5, k6, k7, k8, k9, z0, z1, z2, z3, z4, z5, z6, z7, z8, z9, f0, f1, f2, f3, f4, f5, f6, f7, f8, f9, kb2, hz2, hz6⟩ : ∃ W2, w1.alloc (.cells #[.int .i64 S1.s0, .bool S1.t0, .int .i64 S1.s1, .bool S1.t1, .int .i64 S1.s2, .bool S1.t2, .int .i64 S1.s3, .bool S1.t3, .int .i64 S1.hd, .int .u64 S1.tu] 31) = W2 ∧ W2.cell? ⟨w1.heap.size, 0, none⟩ = some (.int .i64 S1.s0) ∧ W2.cell? ⟨w1.heap.size, 1, none⟩ = some (.bool S1.t0) ∧ W2.cell? ⟨w1.heap.size, 2, none⟩ = some (.int .i64 S1.s1) ∧ W2.cell? ⟨w1.heap.size, 3, none⟩ = some (.bool S1.t1) ∧ W2.cell? ⟨w1.heap.size, 4, none⟩ = some (.int .i64 S1.s2) ∧ W2.cell? ⟨w1.heap.size, 5, none⟩ = some (.bool S1.t2) ∧ W2.cell? ⟨w1.heap.size, 6, none⟩ = some (.int .i64 S1.s3) ∧ W2.cell? ⟨w1.heap.size, 7, none⟩ = some (.bool S1.t3) ∧ W2.cell? ⟨w1.heap.size, 8, none⟩ = some (.int .i64 S1.hd) ∧ W2.cell? ⟨w1.heap.size, 9, none⟩ = some (.int .u64 S1.tu) ∧ W2.cell? ⟨B + 1, 0, none⟩ = some (.int .i64 0) ∧ W2.cell? ⟨B + 1, 1, none⟩ = some (.bool false) ∧ W2.cell? ⟨B + 1, 2, none⟩ = some (.int .i64 0) ∧ W2.cell? ⟨B + 1, 3, none⟩ = some (.bool false) ∧ W2.cell? ⟨B + 1, 4, none⟩ = some (.int .i64 0) ∧ W2.cell? ⟨B + 1, 5, none⟩ = some (.bool false) ∧ W2.cell? ⟨B + 1, 6, none⟩ = some (.int .i64 0) ∧ W2.cell? ⟨B + 1, 7, none⟩ = some (.bool false) ∧ W2.cell? ⟨B + 1, 8, none⟩ = some (.int .i64 0) ∧ W2.cell? ⟨B + 1, 9, none⟩ = some (.int .u64 0) ∧ W2.frozen? ⟨B + 1, 0, none⟩ = false ∧ W2.frozen? ⟨B + 1, 1, none⟩ = false ∧ W2.frozen? ⟨B + 1, 2, none⟩ = false ∧ W2.frozen? ⟨B + 1, 3, none⟩ = false ∧ W2.frozen? ⟨B + 1, 4, none⟩ = false ∧ W2.frozen? ⟨B + 1, 5, none⟩ = false ∧ W2.frozen? ⟨B + 1, 6, none⟩ = false ∧ W2.frozen? ⟨B + 1, 7, none⟩ = false ∧ W2.frozen? ⟨B + 1, 8, none⟩ = false ∧ W2.frozen? ⟨B + 1, 9, none⟩ = false ∧ Below B w W2 ∧ w1.heap.size < W2.heap.size ∧ B + 1 < W2.heap.size :=
    ⟨_, rfl, by go_simp, by go_simp, by go_simp, by go_simp, by go_simp, by go_simp, by go_simp, by go_simp, by go_simp, by go_simp, by go_simp, by go_simp, by go_simp, by go_simp, by go_simp, by go_simp, by go_simp, by go_simp, by go_simp, by go_simp, by go_simp, by go_simp, by go_simp, by go_simp, by go_simp, by go_simp, by go_simp, by go_simp, by go_simp, by go_simp, kb1.alloc (by omega) _, by simp, by simp; omega⟩
  rw [hW2]
  clear hW2 kb1 hz3
  have hz5 : B + 1 < W2.heap.size := block_lt_of_cell z0
  generalize w1.heap.size = Q at *
  go_wp2_with fail
  refine (hsw _).mono ?_
  rintro e w3 ⟨rfl, hb3⟩
  have z0 := keep_below z0 hb3
  have z1 := keep_below z1 hb3
  have z2 := keep_below z2 hb3
  have z3 := keep_below z3 hb3
  have z4 := keep_below z4 hb3
  have z5 := keep_below z5 hb3
  have z6 := keep_below z6 hb3
  have z7 := keep_below z7 hb3
  have z8 := keep_below z8 hb3
  have z9 := keep_below z9 hb3
  have f0 := keep_frozen f0 hz5 hb3
  have f1 := keep_frozen f1 hz5 hb3
  have f2 := keep_frozen f2 hz5 hb3
  have f3 := keep_frozen f3 hz5 hb3
  have f4 := keep_frozen f4 hz5 hb3
  have f5 := keep_frozen f5 hz5 hb3
  have f6 := keep_frozen f6 hz5 hb3
  have f7 := keep_frozen f7 hz5 hb3
  have f8 := keep_frozen f8 hz5 hb3
  have f9 := keep_frozen f9 hz5 hb3
  have kb3 : Below B w w3 := kb2.trans (hb3.mono (by omega))
  have hz4 : B + 1 < w3.heap.size := block_lt_of_cell z0
  clear kb2 hb3 k0 k1 k2 k3 k4 k5 k6 k7 k8 k9 hz2 hz5 hz6
  go_wp2
  refine bodyPost_ret (v := .tuple #[.agg #[.int .i64 T.s0, .bool T.t0, .int .i64 T.s1, .bool T.t1, .int .i64 T.s2, .bool T.t2, .int .i64 T.s3, .bool T.t3, .int .i64 T.hd, .int .u64 T.tu], .int .i64 0, .int .i64 S1.s0]) (by simp [results, Try.results12, go_sem, z0, z1, z2, z3, z4, z5, z6, z7, z8, z9, hz4]) rfl ⟨rfl, ?_⟩
  rw [HB.out]
  repeat (first | (with_reducible exact kb3) | (with_reducible refine Below.setCell ?_ (by simp <;> omega) _) | (with_reducible refine Below.drew ?_))
set_option maxHeartbeats 2000000 in
set_option maxRecDepth 100000 in
theorem rput_1 (S S1 T : WS) (x : Int) (hpl : ∀ w : World, Calls Try.prog 21 #[.agg #[.int .i64 S.s0, .bool S.t0, .int .i64 S.s1, .bool S.t1, .int .i64 S.s2, .bool S.t2, .int .i64 S.s3, .bool S.t3, .int .i64 S.hd, .int .u64 S.tu]] w fun e w' => e = .returned (.tuple #[.agg #[.int .i64 S1.s0, .bool S1.t0, .int .i64 S1.s1, .bool S1.t1, .int .i64 S1.s2, .bool S1.t2, .int .i64 S1.s3, .bool S1.t3, .int .i64 S1.hd, .int .u64 S1.tu], .int .i64 1]) ∧ Below w.heap.size w w')
    (hsw : ∀ w : World, Calls Try.prog 7 #[.agg #[.int .i64 S1.s0, .bool S1.t0, .int .i64 S1.s1, .bool S1.t1, .int .i64 S1.s2, .bool S1.t2, .int .i64 S1.s3, .bool S1.t3, .int .i64 S1.hd, .int .u64 S1.tu], .int .i64 1, .agg #[.int .i64 x, .bool true]] w fun e w' => e = .returned (.agg #[.int .i64 T.s0, .bool T.t0, .int .i64 T.s1, .bool T.t1, .int .i64 T.s2, .bool T.t2, .int .i64 T.s3, .bool T.t3, .int .i64 T.hd, .int .u64 T.tu]) ∧ Below w.heap.size w w') (w : World) :
    Calls Try.prog 12 #[.agg #[.int .i64 S.s0, .bool S.t0, .int .i64 S.s1, .bool S.t1, .int .i64 S.s2, .bool S.t2, .int .i64 S.s3, .bool S.t3, .int .i64 S.hd, .int .u64 S.tu], .int .i64 x] w fun e w' => e = .returned (.tuple #[.agg #[.int .i64 T.s0, .bool T.t0, .int .i64 T.s1, .bool T.t1, .int .i64 T.s2, .bool T.t2, .int .i64 T.s3, .bool T.t3, .int .i64 T.hd, .int .u64 T.tu], .int .i64 1, .int .i64 S1.s1]) ∧ Below w.heap.size w w' := by
  go_enter Try.func12, Try.ntmps12
  go_upto_region 1 with (fail)
  obtain ⟨W0, hW0, k0, k1, k2, k3, k4, k5, k6, k7, k8, k9, z0, z1, z2, z3, z4, z5, z6, z7, z8, z9, g0, g1, g2, g3, g4, g5, g6, g7, g8, g9, f0, f1, f2, f3, f4, f5, f6, f7, f8, f9, kb, hz⟩ : ∃ W0, (w.alloc (.cells #[.int .i64 S.s0, .bool S.t0, .int .i64 S.s1, .bool S.t1, .int .i64 S.s2, .bool S.t2, .int .i64 S.s3, .bool S.t3, .int .i64 S.hd, .int .u64 S.tu] 31)).alloc (.cells #[.int .i64 0, .bool false, .int .i64 0, .bool false, .int .i64 0, .bool false, .int .i64 0, .bool false, .int .i64 0, .int .u64 0] 31) = W0 ∧ W0.cell? ⟨w.heap.size, 0, none⟩ = some (.int .i64 S.s0) ∧ W0.cell? ⟨w.heap.size, 1, none⟩ = some (.bool S.t0) ∧ W0.cell? ⟨w.heap.size, 2, none⟩ = some (.int .i64 S.s1) ∧ W0.cell? ⟨w.heap.size, 3, none⟩ = some (.bool S.t1) ∧ W0.cell? ⟨w.heap.size, 4, none⟩ = some (.int .i64 S.s2) ∧ W0.cell? ⟨w.heap.size, 5, none⟩ = some (.bool S.t2) ∧ W0.cell? ⟨w.heap.size, 6, none⟩ = some (.int .i64 S.s3) ∧ W0.cell? ⟨w.heap.size, 7, none⟩ = some (.bool S.t3) ∧ W0.cell? ⟨w.heap.size, 8, none⟩ = some (.int .i64 S.hd) ∧ W0.cell? ⟨w.heap.size, 9, none⟩ = some (.int .u64 S.tu) ∧ W0.cell? ⟨w.heap.size + 1, 0, none⟩ = some (.int .i64 0) ∧ W0.cell? ⟨w.heap.size + 1, 1, none⟩ = some (.bool false) ∧ W0.cell? ⟨w.heap.size + 1, 2, none⟩ = some (.int .i64 0) ∧ W0.cell? ⟨w.heap.size + 1, 3, none⟩ = some (.bool false) ∧ W0.cell? ⟨w.heap.size + 1, 4, none⟩ = some (.int .i64 0) ∧ W0.cell? ⟨w.heap.size + 1, 5, none⟩ = some (.bool false) ∧ W0.cell? ⟨w.heap.size + 1, 6, none⟩ = some (.int .i64 0) ∧ W0.cell? ⟨w.heap.size + 1, 7, none⟩ = some (.bool false) ∧ W0.cell? ⟨w.heap.size + 1, 8, none⟩ = some (.int .i64 0) ∧ W0.cell? ⟨w.heap.size + 1, 9, none⟩ = some (.int .u64 0) ∧ W0.frozen? ⟨w.heap.size, 0, none⟩ = false ∧ W0.frozen? ⟨w.heap.size, 1, none⟩ = false ∧ W0.frozen? ⟨w.heap.size, 2, none⟩ = false ∧ W0.frozen? ⟨w.heap.size, 3, none⟩ = false ∧ W0.frozen? ⟨w.heap.size, 4, none⟩ = false ∧ W0.frozen? ⟨w.heap.size, 5, none⟩ = false ∧ W0.frozen? ⟨w.heap.size, 6, none⟩ = false ∧ W0.frozen? ⟨w.heap.size, 7, none⟩ = false ∧ W0.frozen? ⟨w.heap.size, 8, none⟩ = false ∧ W0.frozen? ⟨w.heap.size, 9, none⟩ = false ∧ W0.frozen? ⟨w.heap.size + 1, 0, none⟩ = false ∧ W0.frozen? ⟨w.heap.size + 1, 1, none⟩ = false ∧ W0.frozen? ⟨w.heap.size + 1, 2, none⟩ = false ∧ W0.frozen? ⟨w.heap.size + 1, 3, none⟩ = false ∧ W0.frozen? ⟨w.heap.size + 1, 4, none⟩ = false ∧ W0.frozen? ⟨w.heap.size + 1, 5, none⟩ = false ∧ W0.frozen? ⟨w.heap.size + 1, 6, none⟩ = false ∧ W0.frozen? ⟨w.heap.size + 1, 7, none⟩ = false ∧ W0.frozen? ⟨w.heap.size + 1, 8, none⟩ = false ∧ W0.frozen? ⟨w.heap.size + 1, 9, none⟩ = false ∧ Below w.heap.size w W0 ∧ w.heap.size + 1 < W0.heap.size :=
    ⟨_, rfl, by go_simp, by go_simp, by go_simp, by go_simp, by go_simp, by go_simp, by go_simp, by go_simp, by go_simp, by go_simp, by go_simp, by go_simp, by go_simp, by go_simp, by go_simp, by go_simp, by go_simp, by go_simp, by go_simp, by go_simp, by go_simp, by go_simp, by go_simp, by go_simp, by go_simp, by go_simp, by go_simp, by go_simp, by go_simp, by go_simp, by go_simp, by go_simp, by go_simp, by go_simp, by go_simp, by go_simp, by go_simp, by go_simp, by go_simp, by go_simp, bnew (bnew (brefl w) _) _, by simp⟩
  rw [hW0]
  clear hW0
  have hz0 := block_lt_of_cell k0
  generalize hB : w.heap.size = B at *
  have HB := Lib.hid hB
  clear hB
  go_wp2_with fail
  refine (hpl _).mono ?_
  rintro e w1 ⟨rfl, hb1⟩
  have kb1 : Below B w w1 := kb.trans (hb1.mono (by omega))
  have z0 := keep_below z0 hb1
  have z1 := keep_below z1 hb1
  have z2 := keep_below z2 hb1
  have z3 := keep_below z3 hb1
  have z4 := keep_below z4 hb1
  have z5 := keep_below z5 hb1
  have z6 := keep_below z6 hb1
  have z7 := keep_below z7 hb1
  have z8 := keep_below z8 hb1
  have z9 := keep_below z9 hb1
  have f0 := keep_frozen f0 hz hb1
  have f1 := keep_frozen f1 hz hb1
  have f2 := keep_frozen f2 hz hb1
  have f3 := keep_frozen f3 hz hb1
  have f4 := keep_frozen f4 hz hb1
  have f5 := keep_frozen f5 hz hb1
  have f6 := keep_frozen f6 hz hb1
  have f7 := keep_frozen f7 hz hb1
  have f8 := keep_frozen f8 hz hb1
  have f9 := keep_frozen f9 hz hb1
  have hz3 : B + 1 < w1.heap.size := block_lt_of_cell z0
  clear kb hb1 hz hz0 k0 g0 k1 g1 k2 g2 k3 g3 k4 g4 k5 g5 k6 g6 k7 g7 k8 g8 k9 g9
  go_upto_region 2 with (fail)
  obtain ⟨W2, hW2, k0, k1, k2, k3, k4, k5, k6, k7, k8, k9, z0, z1, z2, z3, z4, z5, z6, z7, z8, z9, f0, f1, f2, f3, f4, f5, f6, f7, f8, f9, kb2, hz2, hz6⟩ : ∃ W2, w1.alloc (.cells #[.int .i64 S1.s0, .bool S1.t0, .int .i64 S1.s1, .bool S1.t1, .int .i64 S1.s2, .bool S1.t2, .int .i64 S1.s3, .bool S1.t3, .int .i64 S1.hd, .int .u64 S1.tu] 31) = W2 ∧ W2.cell? ⟨w1.heap.size, 0, none⟩ = some (.int .i64 S1.s0) ∧ W2.cell? ⟨w1.heap.size, 1, none⟩ = some (.bool S1.t0) ∧ W2.cell? ⟨w1.heap.size, 2, none⟩ = some (.int .i64 S1.s1) ∧ W2.cell? ⟨w1.heap.size, 3, none⟩ = some (.bool S1.t1) ∧ W2.cell? ⟨w1.heap.size, 4, none⟩ = some (.int .i64 S1.s2) ∧ W2.cell? ⟨w1.heap.size, 5, none⟩ = some (.bool S1.t2) ∧ W2.cell? ⟨w1.heap.size, 6, none⟩ = some (.int .i64 S1.s3) ∧ W2.cell? ⟨w1.heap.size, 7, none⟩ = some (.bool S1.t3) ∧ W2.cell? ⟨w1.heap.size, 8, none⟩ = some (.int .i64 S1.hd) ∧ W2.cell? ⟨w1.heap.size, 9, none⟩ = some (.int .u64 S1.tu) ∧ W2.cell? ⟨B + 1, 0, none⟩ = some (.int .i64 0) ∧ W2.cell? ⟨B + 1, 1, none⟩ = some (.bool false) ∧ W2.cell? ⟨B + 1, 2, none⟩ = some (.int .i64 0) ∧ W2.cell? ⟨B + 1, 3, none⟩ = some (.bool false) ∧ W2.cell? ⟨B + 1, 4, none⟩ = some (.int .i64 0) ∧ W2.cell? ⟨B + 1, 5, none⟩ = some (.bool false) ∧ W2.cell? ⟨B + 1, 6, none⟩ = some (.int .i64 0) ∧ W2.cell? ⟨B + 1, 7, none⟩ = some (.bool false) ∧ W2.cell? ⟨B + 1, 8, none⟩ = some (.int .i64 0) ∧ W2.cell? ⟨B + 1, 9, none⟩ = some (.int .u64 0) ∧ W2.frozen? ⟨B + 1, 0, none⟩ = false ∧ W2.frozen? ⟨B + 1, 1, none⟩ = false ∧ W2.frozen? ⟨B + 1, 2, none⟩ = false ∧ W2.frozen? ⟨B + 1, 3, none⟩ = false ∧ W2.frozen? ⟨B + 1, 4, none⟩ = false ∧ W2.frozen? ⟨B + 1, 5, none⟩ = false ∧ W2.frozen? ⟨B + 1, 6, none⟩ = false ∧ W2.frozen? ⟨B + 1, 7, none⟩ = false ∧ W2.frozen? ⟨B + 1, 8, none⟩ = false ∧ W2.frozen? ⟨B + 1, 9, none⟩ = false ∧ Below B w W2 ∧ w1.heap.size < W2.heap.size ∧ B + 1 < W2.heap.size :=
    ⟨_, rfl, by go_simp, by go_simp, by go_simp, by go_simp, by go_simp, by go_simp, by go_simp, by go_simp, by go_simp, by go_simp, by go_simp, by go_simp, by go_simp, by go_simp, by go_simp, by go_simp, by go_simp, by go_simp, by go_simp, by go_simp, by go_simp, by go_simp, by go_simp, by go_simp, by go_simp, by go_simp, by go_simp, by go_simp, by go_simp, by go_simp, kb1.alloc (by omega) _, by simp, by simp; omega⟩
  rw [hW2]
  clear hW2 kb1 hz3
  have hz5 : B + 1 < W2.heap.size := block_lt_of_cell z0
  generalize w1.heap.size = Q at *
  go_wp2_with fail
  refine (hsw _).mono ?_
  rintro e w3 ⟨rfl, hb3⟩
  have z0 := keep_below z0 hb3
  have z1 := keep_below z1 hb3
  have z2 := keep_below z2 hb3
  have z3 := keep_below z3 hb3
  have z4 := keep_below z4 hb3
  have z5 := keep_below z5 hb3
  have z6 := keep_below z6 hb3
  have z7 := keep_below z7 hb3
  have z8 := keep_below z8 hb3
  have z9 := keep_below z9 hb3
  have f0 := keep_frozen f0 hz5 hb3
  have f1 := keep_frozen f1 hz5 hb3
  have f2 := keep_frozen f2 hz5 hb3
  have f3 := keep_frozen f3 hz5 hb3
  have f4 := keep_frozen f4 hz5 hb3
  have f5 := keep_frozen f5 hz5 hb3
  have f6 := keep_frozen f6 hz5 hb3
  have f7 := keep_frozen f7 hz5 hb3
  have f8 := keep_frozen f8 hz5 hb3
  have f9 := keep_frozen f9 hz5 hb3
  have kb3 : Below B w w3 := kb2.trans (hb3.mono (by omega))
  have hz4 : B + 1 < w3.heap.size := block_lt_of_cell z0
  clear kb2 hb3 k0 k1 k2 k3 k4 k5 k6 k7 k8 k9 hz2 hz5 hz6
  go_wp2
  refine bodyPost_ret (v := .tuple #[.agg #[.int .i64 T.s0, .bool T.t0, .int .i64 T.s1, .bool T.t1, .int .i64 T.s2, .bool T.t2, .int .i64 T.s3, .bool T.t3, .int .i64 T.hd, .int .u64 T.tu], .int .i64 1, .int .i64 S1.s1]) (by simp [results, Try.results12, go_sem, z0, z1, z2, z3, z4, z5, z6, z7, z8, z9, hz4]) rfl ⟨rfl, ?_⟩
  rw [HB.out]
  repeat (first | (with_reducible exact kb3) | (with_reducible refine Below.setCell ?_ (by simp <;> omega) _) | (with_reducible refine Below.drew ?_))
set_option maxHeartbeats 2000000 in
set_option maxRecDepth 100000 in
theorem rput_2 (S S1 T : WS) (x : Int) (hpl : ∀ w : World, Calls Try.prog 21 #[.agg #[.int .i64 S.s0, .bool S.t0, .int .i64 S.s1, .bool S.t1, .int .i64 S.s2, .bool S.t2, .int .i64 S.s3, .bool S.t3, .int .i64 S.hd, .int .u64 S.tu]] w fun e w' => e = .returned (.tuple #[.agg #[.int .i64 S1.s0, .bool S1.t0, .int .i64 S1.s1, .bool S1.t1, .int .i64 S1.s2, .bool S1.t2, .int .i64 S1.s3, .bool S1.t3, .int .i64 S1.hd, .int .u64 S1.tu], .int .i64 2]) ∧ Below w.heap.size w w')
    (hsw : ∀ w : World, Calls Try.prog 7 #[.agg #[.int .i64 S1.s0, .bool S1.t0, .int .i64 S1.s1, .bool S1.t1, .int .i64 S1.s2, .bool S1.t2, .int .i64 S1.s3, .bool S1.t3, .int .i64 S1.hd, .int .u64 S1.tu], .int .i64 2, .agg #[.int .i64 x, .bool true]] w fun e w' => e = .returned (.agg #[.int .i64 T.s0, .bool T.t0, .int .i64 T.s1, .bool T.t1, .int .i64 T.s2, .bool T.t2, .int .i64 T.s3, .bool T.t3, .int .i64 T.hd, .int .u64 T.tu]) ∧ Below w.heap.size w w') (w : World) :
    Calls Try.prog 12 #[.agg #[.int .i64 S.s0, .bool S.t0, .int .i64 S.s1, .bool S.t1, .int .i64 S.s2, .bool S.t2, .int .i64 S.s3, .bool S.t3, .int .i64 S.hd, .int .u64 S.tu], .int .i64 x] w fun e w' => e = .returned (.tuple #[.agg #[.int .i64 T.s0, .bool T.t0, .int .i64 T.s1, .bool T.t1, .int .i64 T.s2, .bool T.t2, .int .i64 T.s3, .bool T.t3, .int .i64 T.hd, .int .u64 T.tu], .int .i64 2, .int .i64 S1.s2]) ∧ Below w.heap.size w w' := by
  go_enter Try.func12, Try.ntmps12
  go_upto_region 1 with (fail)
  obtain ⟨W0, hW0, k0, k1, k2, k3, k4, k5, k6, k7, k8, k9, z0, z1, z2, z3, z4, z5, z6, z7, z8, z9, g0, g1, g2, g3, g4, g5, g6, g7, g8, g9, f0, f1, f2, f3, f4, f5, f6, f7, f8, f9, kb, hz⟩ : ∃ W0, (w.alloc (.cells #[.int .i64 S.s0, .bool S.t0, .int .i64 S.s1, .bool S.t1, .int .i64 S.s2, .bool S.t2, .int .i64 S.s3, .bool S.t3, .int .i64 S.hd, .int .u64 S.tu] 31)).alloc (.cells #[.int .i64 0, .bool false, .int .i64 0, .bool false, .int .i64 0, .bool false, .int .i64 0, .bool false, .int .i64 0, .int .u64 0] 31) = W0 ∧ W0.cell? ⟨w.heap.size, 0, none⟩ = some (.int .i64 S.s0) ∧ W0.cell? ⟨w.heap.size, 1, none⟩ = some (.bool S.t0) ∧ W0.cell? ⟨w.heap.size, 2, none⟩ = some (.int .i64 S.s1) ∧ W0.cell? ⟨w.heap.size, 3, none⟩ = some (.bool S.t1) ∧ W0.cell? ⟨w.heap.size, 4, none⟩ = some (.int .i64 S.s2) ∧ W0.cell? ⟨w.heap.size, 5, none⟩ = some (.bool S.t2) ∧ W0.cell? ⟨w.heap.size, 6, none⟩ = some (.int .i64 S.s3) ∧ W0.cell? ⟨w.heap.size, 7, none⟩ = some (.bool S.t3) ∧ W0.cell? ⟨w.heap.size, 8, none⟩ = some (.int .i64 S.hd) ∧ W0.cell? ⟨w.heap.size, 9, none⟩ = some (.int .u64 S.tu) ∧ W0.cell? ⟨w.heap.size + 1, 0, none⟩ = some (.int .i64 0) ∧ W0.cell? ⟨w.heap.size + 1, 1, none⟩ = some (.bool false) ∧ W0.cell? ⟨w.heap.size + 1, 2, none⟩ = some (.int .i64 0) ∧ W0.cell? ⟨w.heap.size + 1, 3, none⟩ = some (.bool false) ∧ W0.cell? ⟨w.heap.size + 1, 4, none⟩ = some (.int .i64 0) ∧ W0.cell? ⟨w.heap.size + 1, 5, none⟩ = some (.bool false) ∧ W0.cell? ⟨w.heap.size + 1, 6, none⟩ = some (.int .i64 0) ∧ W0.cell? ⟨w.heap.size + 1, 7, none⟩ = some (.bool false) ∧ W0.cell? ⟨w.heap.size + 1, 8, none⟩ = some (.int .i64 0) ∧ W0.cell? ⟨w.heap.size + 1, 9, none⟩ = some (.int .u64 0) ∧ W0.frozen? ⟨w.heap.size, 0, none⟩ = false ∧ W0.frozen? ⟨w.heap.size, 1, none⟩ = false ∧ W0.frozen? ⟨w.heap.size, 2, none⟩ = false ∧ W0.frozen? ⟨w.heap.size, 3, none⟩ = false ∧ W0.frozen? ⟨w.heap.size, 4, none⟩ = false ∧ W0.frozen? ⟨w.heap.size, 5, none⟩ = false ∧ W0.frozen? ⟨w.heap.size, 6, none⟩ = false ∧ W0.frozen? ⟨w.heap.size, 7, none⟩ = false ∧ W0.frozen? ⟨w.heap.size, 8, none⟩ = false ∧ W0.frozen? ⟨w.heap.size, 9, none⟩ = false ∧ W0.frozen? ⟨w.heap.size + 1, 0, none⟩ = false ∧ W0.frozen? ⟨w.heap.size + 1, 1, none⟩ = false ∧ W0.frozen? ⟨w.heap.size + 1, 2, none⟩ = false ∧ W0.frozen? ⟨w.heap.size + 1, 3, none⟩ = false ∧ W0.frozen? ⟨w.heap.size + 1, 4, none⟩ = false ∧ W0.frozen? ⟨w.heap.size + 1, 5, none⟩ = false ∧ W0.frozen? ⟨w.heap.size + 1, 6, none⟩ = false ∧ W0.frozen? ⟨w.heap.size + 1, 7, none⟩ = false ∧ W0.frozen? ⟨w.heap.size + 1, 8, none⟩ = false ∧ W0.frozen? ⟨w.heap.size + 1, 9, none⟩ = false ∧ Below w.heap.size w W0 ∧ w.heap.size + 1 < W0.heap.size :=
    ⟨_, rfl, by go_simp, by go_simp, by go_simp, by go_simp, by go_simp, by go_simp, by go_simp, by go_simp, by go_simp, by go_simp, by go_simp, by go_simp, by go_simp, by go_simp, by go_simp, by go_simp, by go_simp, by go_simp, by go_simp, by go_simp, by go_simp, by go_simp, by go_simp, by go_simp, by go_simp, by go_simp, by go_simp, by go_simp, by go_simp, by go_simp, by go_simp, by go_simp, by go_simp, by go_simp, by go_simp, by go_simp, by go_simp, by go_simp, by go_simp, by go_simp, bnew (bnew (brefl w) _) _, by simp⟩
  rw [hW0]
  clear hW0
  have hz0 := block_lt_of_cell k0
  generalize hB : w.heap.size = B at *
  have HB := Lib.hid hB
  clear hB
  go_wp2_with fail
  refine (hpl _).mono ?_
  rintro e w1 ⟨rfl, hb1⟩
  have kb1 : Below B w w1 := kb.trans (hb1.mono (by omega))
  have z0 := keep_below z0 hb1
  have z1 := keep_below z1 hb1
  have z2 := keep_below z2 hb1
  have z3 := keep_below z3 hb1
  have z4 := keep_below z4 hb1
  have z5 := keep_below z5 hb1
  have z6 := keep_below z6 hb1
  have z7 := keep_below z7 hb1
  have z8 := keep_below z8 hb1
  have z9 := keep_below z9 hb1
  have f0 := keep_frozen f0 hz hb1
  have f1 := keep_frozen f1 hz hb1
  have f2 := keep_frozen f2 hz hb1
  have f3 := keep_frozen f3 hz hb1
  have f4 := keep_frozen f4 hz hb1
  have f5 := keep_frozen f5 hz hb1
  have f6 := keep_frozen f6 hz hb1
  have f7 := keep_frozen f7 hz hb1
  have f8 := keep_frozen f8 hz hb1
  have f9 := keep_frozen f9 hz hb1
  have hz3 : B + 1 < w1.heap.size := block_lt_of_cell z0
  clear kb hb1 hz hz0 k0 g0 k1 g1 k2 g2 k3 g3 k4 g4 k5 g5 k6 g6 k7 g7 k8 g8 k9 g9
  go_upto_region 2 with (fail)
  obtain ⟨W2, hW2, k0, k1, k2, k3, k4, k5, k6, k7, k8, k9, z0, z1, z2, z3, z4, z5, z6, z7, z8, z9, f0, f1, f2, f3, f4, f5, f6, f7, f8, f9, kb2, hz2, hz6⟩ : ∃ W2, w1.alloc (.cells #[.int .i64 S1.s0, .bool S1.t0, .int .i64 S1.s1, .bool S1.t1, .int .i64 S1.s2, .bool S1.t2, .int .i64 S1.s3, .bool S1.t3, .int .i64 S1.hd, .int .u64 S1.tu] 31) = W2 ∧ W2.cell? ⟨w1.heap.size, 0, none⟩ = some (.int .i64 S1.s0) ∧ W2.cell? ⟨w1.heap.size, 1, none⟩ = some (.bool S1.t0) ∧ W2.cell? ⟨w1.heap.size, 2, none⟩ = some (.int .i64 S1.s1) ∧ W2.cell? ⟨w1.heap.size, 3, none⟩ = some (.bool S1.t1) ∧ W2.cell? ⟨w1.heap.size, 4, none⟩ = some (.int .i64 S1.s2) ∧ W2.cell? ⟨w1.heap.size, 5, none⟩ = some (.bool S1.t2) ∧ W2.cell? ⟨w1.heap.size, 6, none⟩ = some (.int .i64 S1.s3) ∧ W2.cell? ⟨w1.heap.size, 7, none⟩ = some (.bool S1.t3) ∧ W2.cell? ⟨w1.heap.size, 8, none⟩ = some (.int .i64 S1.hd) ∧ W2.cell? ⟨w1.heap.size, 9, none⟩ = some (.int .u64 S1.tu) ∧ W2.cell? ⟨B + 1, 0, none⟩ = some (.int .i64 0) ∧ W2.cell? ⟨B + 1, 1, none⟩ = some (.bool false) ∧ W2.cell? ⟨B + 1, 2, none⟩ = some (.int .i64 0) ∧ W2.cell? ⟨B + 1, 3, none⟩ = some (.bool false) ∧ W2.cell? ⟨B + 1, 4, none⟩ = some (.int .i64 0) ∧ W2.cell? ⟨B + 1, 5, none⟩ = some (.bool false) ∧ W2.cell? ⟨B + 1, 6, none⟩ = some (.int .i64 0) ∧ W2.cell? ⟨B + 1, 7, none⟩ = some (.bool false) ∧ W2.cell? ⟨B + 1, 8, none⟩ = some (.int .i64 0) ∧ W2.cell? ⟨B + 1, 9, none⟩ = some (.int .u64 0) ∧ W2.frozen? ⟨B + 1, 0, none⟩ = false ∧ W2.frozen? ⟨B + 1, 1, none⟩ = false ∧ W2.frozen? ⟨B + 1, 2, none⟩ = false ∧ W2.frozen? ⟨B + 1, 3, none⟩ = false ∧ W2.frozen? ⟨B + 1, 4, none⟩ = false ∧ W2.frozen? ⟨B + 1, 5, none⟩ = false ∧ W2.frozen? ⟨B + 1, 6, none⟩ = false ∧ W2.frozen? ⟨B + 1, 7, none⟩ = false ∧ W2.frozen? ⟨B + 1, 8, none⟩ = false ∧ W2.frozen? ⟨B + 1, 9, none⟩ = false ∧ Below B w W2 ∧ w1.heap.size < W2.heap.size ∧ B + 1 < W2.heap.size :=
    ⟨_, rfl, by go_simp, by go_simp, by go_simp, by go_simp, by go_simp, by go_simp, by go_simp, by go_simp, by go_simp, by go_simp, by go_simp, by go_simp, by go_simp, by go_simp, by go_simp, by go_simp, by go_simp, by go_simp, by go_simp, by go_simp, by go_simp, by go_simp, by go_simp, by go_simp, by go_simp, by go_simp, by go_simp, by go_simp, by go_simp, by go_simp, kb1.alloc (by omega) _, by simp, by simp; omega⟩
  rw [hW2]
  clear hW2 kb1 hz3
  have hz5 : B + 1 < W2.heap.size := block_lt_of_cell z0
  generalize w1.heap.size = Q at *
  go_wp2_with fail
  refine (hsw _).mono ?_
  rintro e w3 ⟨rfl, hb3⟩
  have z0 := keep_below z0 hb3
  have z1 := keep_below z1 hb3
  have z2 := keep_below z2 hb3
  have z3 := keep_below z3 hb3
  have z4 := keep_below z4 hb3
  have z5 := keep_below z5 hb3
  have z6 := keep_below z6 hb3
  have z7 := keep_below z7 hb3
  have z8 := keep_below z8 hb3
  have z9 := keep_below z9 hb3
  have f0 := keep_frozen f0 hz5 hb3
  have f1 := keep_frozen f1 hz5 hb3
  have f2 := keep_frozen f2 hz5 hb3
  have f3 := keep_frozen f3 hz5 hb3
  have f4 := keep_frozen f4 hz5 hb3
  have f5 := keep_frozen f5 hz5 hb3
  have f6 := keep_frozen f6 hz5 hb3
  have f7 := keep_frozen f7 hz5 hb3
  have f8 := keep_frozen f8 hz5 hb3
  have f9 := keep_frozen f9 hz5 hb3
  have kb3 : Below B w w3 := kb2.trans (hb3.mono (by omega))
  have hz4 : B + 1 < w3.heap.size := block_lt_of_cell z0
  clear kb2 hb3 k0 k1 k2 k3 k4 k5 k6 k7 k8 k9 hz2 hz5 hz6
  go_wp2
  refine bodyPost_ret (v := .tuple #[.agg #[.int .i64 T.s0, .bool T.t0, .int .i64 T.s1, .bool T.t1, .int .i64 T.s2, .bool T.t2, .int .i64 T.s3, .bool T.t3, .int .i64 T.hd, .int .u64 T.tu], .int .i64 2, .int .i64 S1.s2]) (by simp [results, Try.results12, go_sem, z0, z1, z2, z3, z4, z5, z6, z7, z8, z9, hz4]) rfl ⟨rfl, ?_⟩
  rw [HB.out]
  repeat (first | (with_reducible exact kb3) | (with_reducible refine Below.setCell ?_ (by simp <;> omega) _) | (with_reducible refine Below.drew ?_))
set_option maxHeartbeats 2000000 in
set_option maxRecDepth 100000 in
theorem rput_3 (S S1 T : WS) (x : Int) (hpl : ∀ w : World, Calls Try.prog 21 #[.agg #[.int .i64 S.s0, .bool S.t0, .int .i64 S.s1, .bool S.t1, .int .i64 S.s2, .bool S.t2, .int .i64 S.s3, .bool S.t3, .int .i64 S.hd, .int .u64 S.tu]] w fun e w' => e = .returned (.tuple #[.agg #[.int .i64 S1.s0, .bool S1.t0, .int .i64 S1.s1, .bool S1.t1, .int .i64 S1.s2, .bool S1.t2, .int .i64 S1.s3, .bool S1.t3, .int .i64 S1.hd, .int .u64 S1.tu], .int .i64 3]) ∧ Below w.heap.size w w')
    (hsw : ∀ w : World, Calls Try.prog 7 #[.agg #[.int .i64 S1.s0, .bool S1.t0, .int .i64 S1.s1, .bool S1.t1, .int .i64 S1.s2, .bool S1.t2, .int .i64 S1.s3, .bool S1.t3, .int .i64 S1.hd, .int .u64 S1.tu], .int .i64 3, .agg #[.int .i64 x, .bool true]] w fun e w' => e = .returned (.agg #[.int .i64 T.s0, .bool T.t0, .int .i64 T.s1, .bool T.t1, .int .i64 T.s2, .bool T.t2, .int .i64 T.s3, .bool T.t3, .int .i64 T.hd, .int .u64 T.tu]) ∧ Below w.heap.size w w') (w : World) :
    Calls Try.prog 12 #[.agg #[.int .i64 S.s0, .bool S.t0, .int .i64 S.s1, .bool S.t1, .int .i64 S.s2, .bool S.t2, .int .i64 S.s3, .bool S.t3, .int .i64 S.hd, .int .u64 S.tu], .int .i64 x] w fun e w' => e = .returned (.tuple #[.agg #[.int .i64 T.s0, .bool T.t0, .int .i64 T.s1, .bool T.t1, .int .i64 T.s2, .bool T.t2, .int .i64 T.s3, .bool T.t3, .int .i64 T.hd, .int .u64 T.tu], .int .i64 3, .int .i64 S1.s3]) ∧ Below w.heap.size w w' := by
  go_enter Try.func12, Try.ntmps12
  go_upto_region 1 with (fail)
  obtain ⟨W0, hW0, k0, k1, k2, k3, k4, k5, k6, k7, k8, k9, z0, z1, z2, z3, z4, z5, z6, z7, z8, z9, g0, g1, g2, g3, g4, g5, g6, g7, g8, g9, f0, f1, f2, f3, f4, f5, f6, f7, f8, f9, kb, hz⟩ : ∃ W0, (w.alloc (.cells #[.int .i64 S.s0, .bool S.t0, .int .i64 S.s1, .bool S.t1, .int .i64 S.s2, .bool S.t2, .int .i64 S.s3, .bool S.t3, .int .i64 S.hd, .int .u64 S.tu] 31)).alloc (.cells #[.int .i64 0, .bool false, .int .i64 0, .bool false, .int .i64 0, .bool false, .int .i64 0, .bool false, .int .i64 0, .int .u64 0] 31) = W0 ∧ W0.cell? ⟨w.heap.size, 0, none⟩ = some (.int .i64 S.s0) ∧ W0.cell? ⟨w.heap.size, 1, none⟩ = some (.bool S.t0) ∧ W0.cell? ⟨w.heap.size, 2, none⟩ = some (.int .i64 S.s1) ∧ W0.cell? ⟨w.heap.size, 3, none⟩ = some (.bool S.t1) ∧ W0.cell? ⟨w.heap.size, 4, none⟩ = some (.int .i64 S.s2) ∧ W0.cell? ⟨w.heap.size, 5, none⟩ = some (.bool S.t2) ∧ W0.cell? ⟨w.heap.size, 6, none⟩ = some (.int .i64 S.s3) ∧ W0.cell? ⟨w.heap.size, 7, none⟩ = some (.bool S.t3) ∧ W0.cell? ⟨w.heap.size, 8, none⟩ = some (.int .i64 S.hd) ∧ W0.cell? ⟨w.heap.size, 9, none⟩ = some (.int .u64 S.tu) ∧ W0.cell? ⟨w.heap.size + 1, 0, none⟩ = some (.int .i64 0) ∧ W0.cell? ⟨w.heap.size + 1, 1, none⟩ = some (.bool false) ∧ W0.cell? ⟨w.heap.size + 1, 2, none⟩ = some (.int .i64 0) ∧ W0.cell? ⟨w.heap.size + 1, 3, none⟩ = some (.bool false) ∧ W0.cell? ⟨w.heap.size + 1, 4, none⟩ = some (.int .i64 0) ∧ W0.cell? ⟨w.heap.size + 1, 5, none⟩ = some (.bool false) ∧ W0.cell? ⟨w.heap.size + 1, 6, none⟩ = some (.int .i64 0) ∧ W0.cell? ⟨w.heap.size + 1, 7, none⟩ = some (.bool false) ∧ W0.cell? ⟨w.heap.size + 1, 8, none⟩ = some (.int .i64 0) ∧ W0.cell? ⟨w.heap.size + 1, 9, none⟩ = some (.int .u64 0) ∧ W0.frozen? ⟨w.heap.size, 0, none⟩ = false ∧ W0.frozen? ⟨w.heap.size, 1, none⟩ = false ∧ W0.frozen? ⟨w.heap.size, 2, none⟩ = false ∧ W0.frozen? ⟨w.heap.size, 3, none⟩ = false ∧ W0.frozen? ⟨w.heap.size, 4, none⟩ = false ∧ W0.frozen? ⟨w.heap.size, 5, none⟩ = false ∧ W0.frozen? ⟨w.heap.size, 6, none⟩ = false ∧ W0.frozen? ⟨w.heap.size, 7, none⟩ = false ∧ W0.frozen? ⟨w.heap.size, 8, none⟩ = false ∧ W0.frozen? ⟨w.heap.size, 9, none⟩ = false ∧ W0.frozen? ⟨w.heap.size + 1, 0, none⟩ = false ∧ W0.frozen? ⟨w.heap.size + 1, 1, none⟩ = false ∧ W0.frozen? ⟨w.heap.size + 1, 2, none⟩ = false ∧ W0.frozen? ⟨w.heap.size + 1, 3, none⟩ = false ∧ W0.frozen? ⟨w.heap.size + 1, 4, none⟩ = false ∧ W0.frozen? ⟨w.heap.size + 1, 5, none⟩ = false ∧ W0.frozen? ⟨w.heap.size + 1, 6, none⟩ = false ∧ W0.frozen? ⟨w.heap.size + 1, 7, none⟩ = false ∧ W0.frozen? ⟨w.heap.size + 1, 8, none⟩ = false ∧ W0.frozen? ⟨w.heap.size + 1, 9, none⟩ = false ∧ Below w.heap.size w W0 ∧ w.heap.size + 1 < W0.heap.size :=
    ⟨_, rfl, by go_simp, by go_simp, by go_simp, by go_simp, by go_simp, by go_simp, by go_simp, by go_simp, by go_simp, by go_simp, by go_simp, by go_simp, by go_simp, by go_simp, by go_simp, by go_simp, by go_simp, by go_simp, by go_simp, by go_simp, by go_simp, by go_simp, by go_simp, by go_simp, by go_simp, by go_simp, by go_simp, by go_simp, by go_simp, by go_simp, by go_simp, by go_simp, by go_simp, by go_simp, by go_simp, by go_simp, by go_simp, by go_simp, by go_simp, by go_simp, bnew (bnew (brefl w) _) _, by simp⟩
  rw [hW0]
  clear hW0
  have hz0 := block_lt_of_cell k0
  generalize hB : w.heap.size = B at *
  have HB := Lib.hid hB
  clear hB
  go_wp2_with fail
  refine (hpl _).mono ?_
  rintro e w1 ⟨rfl, hb1⟩
  have kb1 : Below B w w1 := kb.trans (hb1.mono (by omega))
  have z0 := keep_below z0 hb1
  have z1 := keep_below z1 hb1
  have z2 := keep_below z2 hb1
  have z3 := keep_below z3 hb1
  have z4 := keep_below z4 hb1
  have z5 := keep_below z5 hb1
  have z6 := keep_below z6 hb1
  have z7 := keep_below z7 hb1
  have z8 := keep_below z8 hb1
  have z9 := keep_below z9 hb1
  have f0 := keep_frozen f0 hz hb1
  have f1 := keep_frozen f1 hz hb1
  have f2 := keep_frozen f2 hz hb1
  have f3 := keep_frozen f3 hz hb1
  have f4 := keep_frozen f4 hz hb1
  have f5 := keep_frozen f5 hz hb1
  have f6 := keep_frozen f6 hz hb1
  have f7 := keep_frozen f7 hz hb1
  have f8 := keep_frozen f8 hz hb1
  have f9 := keep_frozen f9 hz hb1
  have hz3 : B + 1 < w1.heap.size := block_lt_of_cell z0
  clear kb hb1 hz hz0 k0 g0 k1 g1 k2 g2 k3 g3 k4 g4 k5 g5 k6 g6 k7 g7 k8 g8 k9 g9
  go_upto_region 2 with (fail)
  obtain ⟨W2, hW2, k0, k1, k2, k3, k4, k5, k6, k7, k8, k9, z0, z1, z2, z3, z4, z5, z6, z7, z8, z9, f0, f1, f2, f3, f4, f5, f6, f7, f8, f9, kb2, hz2, hz6⟩ : ∃ W2, w1.alloc (.cells #[.int .i64 S1.s0, .bool S1.t0, .int .i64 S1.s1, .bool S1.t1, .int .i64 S1.s2, .bool S1.t2, .int .i64 S1.s3, .bool S1.t3, .int .i64 S1.hd, .int .u64 S1.tu] 31) = W2 ∧ W2.cell? ⟨w1.heap.size, 0, none⟩ = some (.int .i64 S1.s0) ∧ W2.cell? ⟨w1.heap.size, 1, none⟩ = some (.bool S1.t0) ∧ W2.cell? ⟨w1.heap.size, 2, none⟩ = some (.int .i64 S1.s1) ∧ W2.cell? ⟨w1.heap.size, 3, none⟩ = some (.bool S1.t1) ∧ W2.cell? ⟨w1.heap.size, 4, none⟩ = some (.int .i64 S1.s2) ∧ W2.cell? ⟨w1.heap.size, 5, none⟩ = some (.bool S1.t2) ∧ W2.cell? ⟨w1.heap.size, 6, none⟩ = some (.int .i64 S1.s3) ∧ W2.cell? ⟨w1.heap.size, 7, none⟩ = some (.bool S1.t3) ∧ W2.cell? ⟨w1.heap.size, 8, none⟩ = some (.int .i64 S1.hd) ∧ W2.cell? ⟨w1.heap.size, 9, none⟩ = some (.int .u64 S1.tu) ∧ W2.cell? ⟨B + 1, 0, none⟩ = some (.int .i64 0) ∧ W2.cell? ⟨B + 1, 1, none⟩ = some (.bool false) ∧ W2.cell? ⟨B + 1, 2, none⟩ = some (.int .i64 0) ∧ W2.cell? ⟨B + 1, 3, none⟩ = some (.bool false) ∧ W2.cell? ⟨B + 1, 4, none⟩ = some (.int .i64 0) ∧ W2.cell? ⟨B + 1, 5, none⟩ = some (.bool false) ∧ W2.cell? ⟨B + 1, 6, none⟩ = some (.int .i64 0) ∧ W2.cell? ⟨B + 1, 7, none⟩ = some (.bool false) ∧ W2.cell? ⟨B + 1, 8, none⟩ = some (.int .i64 0) ∧ W2.cell? ⟨B + 1, 9, none⟩ = some (.int .u64 0) ∧ W2.frozen? ⟨B + 1, 0, none⟩ = false ∧ W2.frozen? ⟨B + 1, 1, none⟩ = false ∧ W2.frozen? ⟨B + 1, 2, none⟩ = false ∧ W2.frozen? ⟨B + 1, 3, none⟩ = false ∧ W2.frozen? ⟨B + 1, 4, none⟩ = false ∧ W2.frozen? ⟨B + 1, 5, none⟩ = false ∧ W2.frozen? ⟨B + 1, 6, none⟩ = false ∧ W2.frozen? ⟨B + 1, 7, none⟩ = false ∧ W2.frozen? ⟨B + 1, 8, none⟩ = false ∧ W2.frozen? ⟨B + 1, 9, none⟩ = false ∧ Below B w W2 ∧ w1.heap.size < W2.heap.size ∧ B + 1 < W2.heap.size :=
    ⟨_, rfl, by go_simp, by go_simp, by go_simp, by go_simp, by go_simp, by go_simp, by go_simp, by go_simp, by go_simp, by go_simp, by go_simp, by go_simp, by go_simp, by go_simp, by go_simp, by go_simp, by go_simp, by go_simp, by go_simp, by go_simp, by go_simp, by go_simp, by go_simp, by go_simp, by go_simp, by go_simp, by go_simp, by go_simp, by go_simp, by go_simp, kb1.alloc (by omega) _, by simp, by simp; omega⟩
  rw [hW2]
  clear hW2 kb1 hz3
  have hz5 : B + 1 < W2.heap.size := block_lt_of_cell z0
  generalize w1.heap.size = Q at *
  go_wp2_with fail
  refine (hsw _).mono ?_
  rintro e w3 ⟨rfl, hb3⟩
  have z0 := keep_below z0 hb3
  have z1 := keep_below z1 hb3
  have z2 := keep_below z2 hb3
  have z3 := keep_below z3 hb3
  have z4 := keep_below z4 hb3
  have z5 := keep_below z5 hb3
  have z6 := keep_below z6 hb3
  have z7 := keep_below z7 hb3
  have z8 := keep_below z8 hb3
  have z9 := keep_below z9 hb3
  have f0 := keep_frozen f0 hz5 hb3
  have f1 := keep_frozen f1 hz5 hb3
  have f2 := keep_frozen f2 hz5 hb3
  have f3 := keep_frozen f3 hz5 hb3
  have f4 := keep_frozen f4 hz5 hb3
  have f5 := keep_frozen f5 hz5 hb3
  have f6 := keep_frozen f6 hz5 hb3
  have f7 := keep_frozen f7 hz5 hb3
  have f8 := keep_frozen f8 hz5 hb3
  have f9 := keep_frozen f9 hz5 hb3
  have kb3 : Below B w w3 := kb2.trans (hb3.mono (by omega))
  have hz4 : B + 1 < w3.heap.size := block_lt_of_cell z0
  clear kb2 hb3 k0 k1 k2 k3 k4 k5 k6 k7 k8 k9 hz2 hz5 hz6
  go_wp2
  refine bodyPost_ret (v := .tuple #[.agg #[.int .i64 T.s0, .bool T.t0, .int .i64 T.s1, .bool T.t1, .int .i64 T.s2, .bool T.t2, .int .i64 T.s3, .bool T.t3, .int .i64 T.hd, .int .u64 T.tu], .int .i64 3, .int .i64 S1.s3]) (by simp [results, Try.results12, go_sem, z0, z1, z2, z3, z4, z5, z6, z7, z8, z9, hz4]) rfl ⟨rfl, ?_⟩
  rw [HB.out]
  repeat (first | (with_reducible exact kb3) | (with_reducible refine Below.setCell ?_ (by simp <;> omega) _) | (with_reducible refine Below.drew ?_))
theorem put_any (S : WS) (x : Int) (w : World) : Calls Try.prog 11 #[.agg #[.int .i64 S.s0, .bool S.t0, .int .i64 S.s1, .bool S.t1, .int .i64 S.s2, .bool S.t2, .int .i64 S.s3, .bool S.t3, .int .i64 S.hd, .int .u64 S.tu], .int .i64 x] w fun e w' => e = .returned (.tuple #[.agg #[.int .i64 (S.putS x).s0, .bool (S.putS x).t0, .int .i64 (S.putS x).s1, .bool (S.putS x).t1, .int .i64 (S.putS x).s2, .bool (S.putS x).t2, .int .i64 (S.putS x).s3, .bool (S.putS x).t3, .int .i64 (S.putS x).hd, .int .u64 (S.putS x).tu], .int .i64 (S.place.2 : Int), .int .i64 S.was]) ∧ Below w.heap.size w w' := by
  have hl := place_lt S
  have hp := place_any S
  unfold WS.putS WS.was
  generalize S.place = R at *
  obtain ⟨S1, i⟩ := R
  dsimp only at *
  rcases (by omega : i = 0 ∨ i = 1 ∨ i = 2 ∨ i = 3) with rfl | rfl | rfl | rfl
  · exact put_0 S S1 _ x hp (swap_any S1 0 x) w
  · exact put_1 S S1 _ x hp (swap_any S1 1 x) w
  · exact put_2 S S1 _ x hp (swap_any S1 2 x) w
  · exact put_3 S S1 _ x hp (swap_any S1 3 x) w
theorem rput_any (S : WS) (x : Int) (w : World) : Calls Try.prog 12 #[.agg #[.int .i64 S.s0, .bool S.t0, .int .i64 S.s1, .bool S.t1, .int .i64 S.s2, .bool S.t2, .int .i64 S.s3, .bool S.t3, .int .i64 S.hd, .int .u64 S.tu], .int .i64 x] w fun e w' => e = .returned (.tuple #[.agg #[.int .i64 (S.putS x).s0, .bool (S.putS x).t0, .int .i64 (S.putS x).s1, .bool (S.putS x).t1, .int .i64 (S.putS x).s2, .bool (S.putS x).t2, .int .i64 (S.putS x).s3, .bool (S.putS x).t3, .int .i64 (S.putS x).hd, .int .u64 (S.putS x).tu], .int .i64 (S.place.2 : Int), .int .i64 S.was]) ∧ Below w.heap.size w w' := by
  have hl := place_lt S
  have hp := rplace_any S
  unfold WS.putS WS.was
  generalize S.place = R at *
  obtain ⟨S1, i⟩ := R
  dsimp only at *
  rcases (by omega : i = 0 ∨ i = 1 ∨ i = 2 ∨ i = 3) with rfl | rfl | rfl | rfl
  · exact rput_0 S S1 _ x hp (rset_any S1 0 x true) w
  · exact rput_1 S S1 _ x hp (rset_any S1 1 x true) w
  · exact rput_2 S S1 _ x hp (rset_any S1 2 x true) w
  · exact rput_3 S S1 _ x hp (rset_any S1 3 x true) w

set_option maxHeartbeats 2000000 in
set_option maxRecDepth 100000 in
theorem to_any (S : WS) (w : World) : Calls Try.prog 6 #[.agg #[.int .i64 S.s0, .bool S.t0, .int .i64 S.s1, .bool S.t1, .int .i64 S.s2, .bool S.t2, .int .i64 S.s3, .bool S.t3, .int .i64 S.hd, .int .u64 S.tu]] w fun e w' => e = .returned (.agg #[.int .i64 S.s0, .bool S.t0, .int .i64 S.s1, .bool S.t1, .int .i64 S.s2, .bool S.t2, .int .i64 S.s3, .bool S.t3, .int .i64 S.hd, .int .u64 S.tu]) ∧ Below w.heap.size w w' := by
  obtain ⟨s0, s1, s2, s3, t0, t1, t2, t3, hd, tu⟩ := S
  dsimp only
  go_enter Try.func6, Try.ntmps6
  go_upto_region 2 with (fail)
  obtain ⟨W0, hW0, hsb, hzb, hxb, hbW⟩ : ∃ W0, ((w.alloc (.cells #[.int .i64 s0, .bool t0, .int .i64 s1, .bool t1, .int .i64 s2, .bool t2, .int .i64 s3, .bool t3, .int .i64 hd, .int .u64 tu] 27)).alloc (.cells #[.int .i64 0, .bool false, .int .i64 0, .bool false, .int .i64 0, .bool false, .int .i64 0, .bool false, .int .i64 0, .int .u64 0] 31)).alloc (.cells #[.int .i64 0, .bool false, .int .i64 0, .bool false, .int .i64 0, .bool false, .int .i64 0, .bool false, .int .i64 hd, .int .u64 tu] 31) = W0 ∧ SB W0 w.heap.size 27 ⟨s0, s1, s2, s3, t0, t1, t2, t3, hd, tu⟩ ∧ Blk W0 (w.heap.size + 1) 31 #[.int .i64 0, .bool false, .int .i64 0, .bool false, .int .i64 0, .bool false, .int .i64 0, .bool false, .int .i64 0, .int .u64 0] ∧ SB W0 (w.heap.size + 1 + 1) 31 ⟨0, 0, 0, 0, false, false, false, false, hd, tu⟩ ∧ Below w.heap.size w W0 :=
    ⟨_, rfl, ((Blk.new _ _ _).alloc _).alloc _, (Blk.new_ _ _ _ (by simp)).alloc _, Blk.new_ _ _ _ (by simp), bnew (bnew (bnew (brefl w) _) _) _⟩
  rw [hW0]
  clear hW0
  generalize hBB : w.heap.size = B at *
  have HB := Lib.hid hBB
  clear hBB
  go_wp2_with fail
  go_loopg [4] 4 (fun gk i wr => ∃ (k : Nat) (X : WS), k + gk = 4 ∧ i = .int .i64 k ∧ Hid (X = ⟨if 0 < k then s0 else 0, if 1 < k then s1 else 0, if 2 < k then s2 else 0, if 3 < k then s3 else 0, decide (0 < k) && t0, decide (1 < k) && t1, decide (2 < k) && t2, decide (3 < k) && t3, hd, tu⟩) ∧ SB wr B 27 ⟨s0, s1, s2, s3, t0, t1, t2, t3, hd, tu⟩ ∧ Blk wr (B + 1) 31 #[.int .i64 0, .bool false, .int .i64 0, .bool false, .int .i64 0, .bool false, .int .i64 0, .bool false, .int .i64 0, .int .u64 0] ∧ SB wr (B + 1 + 1) 31 X ∧ Below B w wr)
  case atStart => exact ⟨0, _, rfl, rfl, rfl, hsb, hzb, by simpa using hxb, hbW⟩
  case round =>
    clear hsb hzb hxb hbW
    obtain ⟨k, X, hk, rfl, hX, hsb, hzb, hxb, hbW⟩ := hrel
    have hBs : B ≤ wr.heap.size := by have := hzb.lt; omega
    have hq1 := hsb.lt
    have hq2 := hzb.lt
    have hq3 := hxb.lt
    rcases (by omega : k = 0 ∨ k = 1 ∨ k = 2 ∨ k = 3 ∨ k = 4) with rfl | rfl | rfl | rfl | rfl
    · obtain rfl : X = ⟨0, 0, 0, 0, false, false, false, false, hd, tu⟩ := by simpa [Hid] using hX
      have k0 : wr.cell? ⟨B, 0, none⟩ = some (.int .i64 s0) := hsb.cell 0
      have k1 : wr.cell? ⟨B, 1, none⟩ = some (.bool t0) := hsb.cell 1
      have k2 : wr.cell? ⟨B, 2, none⟩ = some (.int .i64 s1) := hsb.cell 2
      have k3 : wr.cell? ⟨B, 3, none⟩ = some (.bool t1) := hsb.cell 3
      have k4 : wr.cell? ⟨B, 4, none⟩ = some (.int .i64 s2) := hsb.cell 4
      have k5 : wr.cell? ⟨B, 5, none⟩ = some (.bool t2) := hsb.cell 5
      have k6 : wr.cell? ⟨B, 6, none⟩ = some (.int .i64 s3) := hsb.cell 6
      have k7 : wr.cell? ⟨B, 7, none⟩ = some (.bool t3) := hsb.cell 7
      have k8 : wr.cell? ⟨B, 8, none⟩ = some (.int .i64 hd) := hsb.cell 8
      have k9 : wr.cell? ⟨B, 9, none⟩ = some (.int .u64 tu) := hsb.cell 9
      have x0 := hxb.cell 0
      have x1 := hxb.cell 1
      have y0 := hxb.frozen 0
      have y1 := hxb.frozen 1
      simp [wcell] at x0 x1
      have HX : Hid (SB ((wr.setCell ⟨B + 1 + 1, 0, none⟩ (.int .i64 s0)).setCell ⟨B + 1 + 1, 1, none⟩ (.bool t0)) (B + 1 + 1) 31 ⟨s0, 0, 0, 0, t0, false, false, false, hd, tu⟩) := by
        have := Blk.set_ (Blk.set_ hxb 0 (.int .i64 s0)) 1 (.bool t0)
        simpa [SB, wcell, Hid] using this
      have HS : Hid (SB ((wr.setCell ⟨B + 1 + 1, 0, none⟩ (.int .i64 s0)).setCell ⟨B + 1 + 1, 1, none⟩ (.bool t0)) B 27 ⟨s0, s1, s2, s3, t0, t1, t2, t3, hd, tu⟩) := (Blk.far hsb (p := ⟨B + 1 + 1, 0, none⟩) (by simp; omega) _).far (p := ⟨B + 1 + 1, 1, none⟩) (by simp; omega) _
      have HZ := Lib.hid ((hzb.far (p := ⟨B + 1 + 1, 0, none⟩) (by simp) (.int .i64 s0)).far (p := ⟨B + 1 + 1, 1, none⟩) (by simp) (.bool t0))
      have HBW := Lib.hid ((hbW.setCell (p := ⟨B + 1 + 1, 0, none⟩) (by simp; omega) (.int .i64 s0)).setCell (p := ⟨B + 1 + 1, 1, none⟩) (by simp; omega) (.bool t0))
      clear hsb hzb hxb hbW hX
      go_wp2
      go_roundg (gk - 1)
      case measure => omega
      case rel => exact ⟨0 + 1, _, by omega, by first | rfl | go_num, rfl, HS.out, HZ.out, HX.out, HBW.out⟩
    · obtain rfl : X = ⟨s0, 0, 0, 0, t0, false, false, false, hd, tu⟩ := by simpa [Hid] using hX
      have k0 : wr.cell? ⟨B, 0, none⟩ = some (.int .i64 s0) := hsb.cell 0
      have k1 : wr.cell? ⟨B, 1, none⟩ = some (.bool t0) := hsb.cell 1
      have k2 : wr.cell? ⟨B, 2, none⟩ = some (.int .i64 s1) := hsb.cell 2
      have k3 : wr.cell? ⟨B, 3, none⟩ = some (.bool t1) := hsb.cell 3
      have k4 : wr.cell? ⟨B, 4, none⟩ = some (.int .i64 s2) := hsb.cell 4
      have k5 : wr.cell? ⟨B, 5, none⟩ = some (.bool t2) := hsb.cell 5
      have k6 : wr.cell? ⟨B, 6, none⟩ = some (.int .i64 s3) := hsb.cell 6
      have k7 : wr.cell? ⟨B, 7, none⟩ = some (.bool t3) := hsb.cell 7
      have k8 : wr.cell? ⟨B, 8, none⟩ = some (.int .i64 hd) := hsb.cell 8
      have k9 : wr.cell? ⟨B, 9, none⟩ = some (.int .u64 tu) := hsb.cell 9
      have x0 := hxb.cell 2
      have x1 := hxb.cell 3
      have y0 := hxb.frozen 2
      have y1 := hxb.frozen 3
      simp [wcell] at x0 x1
      have HX : Hid (SB ((wr.setCell ⟨B + 1 + 1, 2, none⟩ (.int .i64 s1)).setCell ⟨B + 1 + 1, 3, none⟩ (.bool t1)) (B + 1 + 1) 31 ⟨s0, s1, 0, 0, t0, t1, false, false, hd, tu⟩) := by
        have := Blk.set_ (Blk.set_ hxb 2 (.int .i64 s1)) 3 (.bool t1)
        simpa [SB, wcell, Hid] using this
      have HS : Hid (SB ((wr.setCell ⟨B + 1 + 1, 2, none⟩ (.int .i64 s1)).setCell ⟨B + 1 + 1, 3, none⟩ (.bool t1)) B 27 ⟨s0, s1, s2, s3, t0, t1, t2, t3, hd, tu⟩) := (Blk.far hsb (p := ⟨B + 1 + 1, 2, none⟩) (by simp; omega) _).far (p := ⟨B + 1 + 1, 3, none⟩) (by simp; omega) _
      have HZ := Lib.hid ((hzb.far (p := ⟨B + 1 + 1, 2, none⟩) (by simp) (.int .i64 s1)).far (p := ⟨B + 1 + 1, 3, none⟩) (by simp) (.bool t1))
      have HBW := Lib.hid ((hbW.setCell (p := ⟨B + 1 + 1, 2, none⟩) (by simp; omega) (.int .i64 s1)).setCell (p := ⟨B + 1 + 1, 3, none⟩) (by simp; omega) (.bool t1))
      clear hsb hzb hxb hbW hX
      go_wp2
      go_roundg (gk - 1)
      case measure => omega
      case rel => exact ⟨1 + 1, _, by omega, by first | rfl | go_num, rfl, HS.out, HZ.out, HX.out, HBW.out⟩
    · obtain rfl : X = ⟨s0, s1, 0, 0, t0, t1, false, false, hd, tu⟩ := by simpa [Hid] using hX
      have k0 : wr.cell? ⟨B, 0, none⟩ = some (.int .i64 s0) := hsb.cell 0
      have k1 : wr.cell? ⟨B, 1, none⟩ = some (.bool t0) := hsb.cell 1
      have k2 : wr.cell? ⟨B, 2, none⟩ = some (.int .i64 s1) := hsb.cell 2
      have k3 : wr.cell? ⟨B, 3, none⟩ = some (.bool t1) := hsb.cell 3
      have k4 : wr.cell? ⟨B, 4, none⟩ = some (.int .i64 s2) := hsb.cell 4
      have k5 : wr.cell? ⟨B, 5, none⟩ = some (.bool t2) := hsb.cell 5
      have k6 : wr.cell? ⟨B, 6, none⟩ = some (.int .i64 s3) := hsb.cell 6
      have k7 : wr.cell? ⟨B, 7, none⟩ = some (.bool t3) := hsb.cell 7
      have k8 : wr.cell? ⟨B, 8, none⟩ = some (.int .i64 hd) := hsb.cell 8
      have k9 : wr.cell? ⟨B, 9, none⟩ = some (.int .u64 tu) := hsb.cell 9
      have x0 := hxb.cell 4
      have x1 := hxb.cell 5
      have y0 := hxb.frozen 4
      have y1 := hxb.frozen 5
      simp [wcell] at x0 x1
      have HX : Hid (SB ((wr.setCell ⟨B + 1 + 1, 4, none⟩ (.int .i64 s2)).setCell ⟨B + 1 + 1, 5, none⟩ (.bool t2)) (B + 1 + 1) 31 ⟨s0, s1, s2, 0, t0, t1, t2, false, hd, tu⟩) := by
        have := Blk.set_ (Blk.set_ hxb 4 (.int .i64 s2)) 5 (.bool t2)
        simpa [SB, wcell, Hid] using this
      have HS : Hid (SB ((wr.setCell ⟨B + 1 + 1, 4, none⟩ (.int .i64 s2)).setCell ⟨B + 1 + 1, 5, none⟩ (.bool t2)) B 27 ⟨s0, s1, s2, s3, t0, t1, t2, t3, hd, tu⟩) := (Blk.far hsb (p := ⟨B + 1 + 1, 4, none⟩) (by simp; omega) _).far (p := ⟨B + 1 + 1, 5, none⟩) (by simp; omega) _
      have HZ := Lib.hid ((hzb.far (p := ⟨B + 1 + 1, 4, none⟩) (by simp) (.int .i64 s2)).far (p := ⟨B + 1 + 1, 5, none⟩) (by simp) (.bool t2))
      have HBW := Lib.hid ((hbW.setCell (p := ⟨B + 1 + 1, 4, none⟩) (by simp; omega) (.int .i64 s2)).setCell (p := ⟨B + 1 + 1, 5, none⟩) (by simp; omega) (.bool t2))
      clear hsb hzb hxb hbW hX
      go_wp2
      go_roundg (gk - 1)
      case measure => omega
      case rel => exact ⟨2 + 1, _, by omega, by first | rfl | go_num, rfl, HS.out, HZ.out, HX.out, HBW.out⟩
    · obtain rfl : X = ⟨s0, s1, s2, 0, t0, t1, t2, false, hd, tu⟩ := by simpa [Hid] using hX
      have k0 : wr.cell? ⟨B, 0, none⟩ = some (.int .i64 s0) := hsb.cell 0
      have k1 : wr.cell? ⟨B, 1, none⟩ = some (.bool t0) := hsb.cell 1
      have k2 : wr.cell? ⟨B, 2, none⟩ = some (.int .i64 s1) := hsb.cell 2
      have k3 : wr.cell? ⟨B, 3, none⟩ = some (.bool t1) := hsb.cell 3
      have k4 : wr.cell? ⟨B, 4, none⟩ = some (.int .i64 s2) := hsb.cell 4
      have k5 : wr.cell? ⟨B, 5, none⟩ = some (.bool t2) := hsb.cell 5
      have k6 : wr.cell? ⟨B, 6, none⟩ = some (.int .i64 s3) := hsb.cell 6
      have k7 : wr.cell? ⟨B, 7, none⟩ = some (.bool t3) := hsb.cell 7
      have k8 : wr.cell? ⟨B, 8, none⟩ = some (.int .i64 hd) := hsb.cell 8
      have k9 : wr.cell? ⟨B, 9, none⟩ = some (.int .u64 tu) := hsb.cell 9
      have x0 := hxb.cell 6
      have x1 := hxb.cell 7
      have y0 := hxb.frozen 6
      have y1 := hxb.frozen 7
      simp [wcell] at x0 x1
      have HX : Hid (SB ((wr.setCell ⟨B + 1 + 1, 6, none⟩ (.int .i64 s3)).setCell ⟨B + 1 + 1, 7, none⟩ (.bool t3)) (B + 1 + 1) 31 ⟨s0, s1, s2, s3, t0, t1, t2, t3, hd, tu⟩) := by
        have := Blk.set_ (Blk.set_ hxb 6 (.int .i64 s3)) 7 (.bool t3)
        simpa [SB, wcell, Hid] using this
      have HS : Hid (SB ((wr.setCell ⟨B + 1 + 1, 6, none⟩ (.int .i64 s3)).setCell ⟨B + 1 + 1, 7, none⟩ (.bool t3)) B 27 ⟨s0, s1, s2, s3, t0, t1, t2, t3, hd, tu⟩) := (Blk.far hsb (p := ⟨B + 1 + 1, 6, none⟩) (by simp; omega) _).far (p := ⟨B + 1 + 1, 7, none⟩) (by simp; omega) _
      have HZ := Lib.hid ((hzb.far (p := ⟨B + 1 + 1, 6, none⟩) (by simp) (.int .i64 s3)).far (p := ⟨B + 1 + 1, 7, none⟩) (by simp) (.bool t3))
      have HBW := Lib.hid ((hbW.setCell (p := ⟨B + 1 + 1, 6, none⟩) (by simp; omega) (.int .i64 s3)).setCell (p := ⟨B + 1 + 1, 7, none⟩) (by simp; omega) (.bool t3))
      clear hsb hzb hxb hbW hX
      go_wp2
      go_roundg (gk - 1)
      case measure => omega
      case rel => exact ⟨3 + 1, _, by omega, by first | rfl | go_num, rfl, HS.out, HZ.out, HX.out, HBW.out⟩
    · obtain rfl : X = ⟨s0, s1, s2, s3, t0, t1, t2, t3, hd, tu⟩ := by simpa [Hid] using hX
      have k0 : wr.cell? ⟨B + 1 + 1, 0, none⟩ = some (.int .i64 s0) := hxb.cell 0
      have k1 : wr.cell? ⟨B + 1 + 1, 1, none⟩ = some (.bool t0) := hxb.cell 1
      have k2 : wr.cell? ⟨B + 1 + 1, 2, none⟩ = some (.int .i64 s1) := hxb.cell 2
      have k3 : wr.cell? ⟨B + 1 + 1, 3, none⟩ = some (.bool t1) := hxb.cell 3
      have k4 : wr.cell? ⟨B + 1 + 1, 4, none⟩ = some (.int .i64 s2) := hxb.cell 4
      have k5 : wr.cell? ⟨B + 1 + 1, 5, none⟩ = some (.bool t2) := hxb.cell 5
      have k6 : wr.cell? ⟨B + 1 + 1, 6, none⟩ = some (.int .i64 s3) := hxb.cell 6
      have k7 : wr.cell? ⟨B + 1 + 1, 7, none⟩ = some (.bool t3) := hxb.cell 7
      have k8 : wr.cell? ⟨B + 1 + 1, 8, none⟩ = some (.int .i64 hd) := hxb.cell 8
      have k9 : wr.cell? ⟨B + 1 + 1, 9, none⟩ = some (.int .u64 tu) := hxb.cell 9
      have z0 : wr.cell? ⟨B + 1, 0, none⟩ = some (.int .i64 0) := hzb.cell 0
      have z1 : wr.cell? ⟨B + 1, 1, none⟩ = some (.bool false) := hzb.cell 1
      have z2 : wr.cell? ⟨B + 1, 2, none⟩ = some (.int .i64 0) := hzb.cell 2
      have z3 : wr.cell? ⟨B + 1, 3, none⟩ = some (.bool false) := hzb.cell 3
      have z4 : wr.cell? ⟨B + 1, 4, none⟩ = some (.int .i64 0) := hzb.cell 4
      have z5 : wr.cell? ⟨B + 1, 5, none⟩ = some (.bool false) := hzb.cell 5
      have z6 : wr.cell? ⟨B + 1, 6, none⟩ = some (.int .i64 0) := hzb.cell 6
      have z7 : wr.cell? ⟨B + 1, 7, none⟩ = some (.bool false) := hzb.cell 7
      have z8 : wr.cell? ⟨B + 1, 8, none⟩ = some (.int .i64 0) := hzb.cell 8
      have z9 : wr.cell? ⟨B + 1, 9, none⟩ = some (.int .u64 0) := hzb.cell 9
      have f0 := hzb.frozen 0
      have f1 := hzb.frozen 1
      have f2 := hzb.frozen 2
      have f3 := hzb.frozen 3
      have f4 := hzb.frozen 4
      have f5 := hzb.frozen 5
      have f6 := hzb.frozen 6
      have f7 := hzb.frozen 7
      have f8 := hzb.frozen 8
      have f9 := hzb.frozen 9
      clear hsb hzb hxb hX
      go_wp2
      refine bodyPost_ret (v := .agg #[.int .i64 s0, .bool t0, .int .i64 s1, .bool t1, .int .i64 s2, .bool t2, .int .i64 s3, .bool t3, .int .i64 hd, .int .u64 tu]) (by simp [results, Try.results6, go_sem, z0, z1, z2, z3, z4, z5, z6, z7, z8, z9, hq1, hq2, hq3]) rfl ⟨rfl, ?_⟩
      rw [HB.out]
      repeat (first | (with_reducible exact hbW) | (with_reducible refine Below.setCell ?_ (by simp <;> omega) _) | (with_reducible refine Below.drew ?_))

end Go.Proofs.Ytgkogodfegfdfaa
