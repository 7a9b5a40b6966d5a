/- The document's Place. -/
import Derived.Test.YtgkogodfegfdfaaWaysC
namespace Go.Proofs.Ytgkogodfegfdfaa
set_option linter.unusedVariables false
set_option linter.unusedSimpArgs false
open Go.RowKit
set_option maxHeartbeats 6000000 in
set_option maxRecDepth 100000 in
theorem rplace_w (s0 s1 s2 s3 : Int) (t0 t1 t2 t3 : Bool) (hd tu : Int) (R : WS × Nat) (hR : Hid (WS.place ⟨s0, s1, s2, s3, t0, t1, t2, t3, hd, tu⟩ = R)) (w : World) : Calls Try.prog 21 #[.agg #[.int .i64 s0, .bool t0, .int .i64 s1, .bool t1, .int .i64 s2, .bool t2, .int .i64 s3, .bool t3, .int .i64 hd, .int .u64 tu]] w fun e w' => e = .returned (.tuple #[.agg #[.int .i64 R.1.s0, .bool R.1.t0, .int .i64 R.1.s1, .bool R.1.t1, .int .i64 R.1.s2, .bool R.1.t2, .int .i64 R.1.s3, .bool R.1.t3, .int .i64 R.1.hd, .int .u64 R.1.tu], .int .i64 (R.2 : Int)]) ∧ Below w.heap.size w w' := by
  go_enter Try.func21, Try.ntmps21
  go_upto_region 1 with (fail)
  obtain ⟨W0, hW0, hsb, hzb, hbW⟩ : ∃ W0, (w.alloc (.cells #[.int .i64 s0, .bool t0, .int .i64 s1, .bool t1, .int .i64 s2, .bool t2, .int .i64 s3, .bool t3, .int .i64 hd, .int .u64 tu] 31)).alloc (.cells #[.int .i64 0, .bool false, .int .i64 0, .bool false, .int .i64 0, .bool false, .int .i64 0, .bool false, .int .i64 0, .int .u64 0] 31) = W0 ∧ SB W0 w.heap.size 31 ⟨s0, s1, s2, s3, t0, t1, t2, t3, hd, tu⟩ ∧ Blk W0 (w.heap.size + 1) 31 #[.int .i64 0, .bool false, .int .i64 0, .bool false, .int .i64 0, .bool false, .int .i64 0, .bool false, .int .i64 0, .int .u64 0] ∧ Below w.heap.size w W0 :=
    ⟨_, rfl, (Blk.new _ _ _).alloc _, Blk.new_ _ _ _ (by simp), bnew (bnew (brefl w) _) _⟩
  rw [hW0]
  clear hW0
  generalize hBB : w.heap.size = B at *
  have HB := Lib.hid hBB
  clear hBB
  go_wp2_with fail
  skip
  go_loopg [4] 4 (fun gk i wr => ∃ k : Nat, k + gk = 4 ∧ i = .int .i64 k ∧ Hid (∀ j, j < k → WS.sl ⟨s0, s1, s2, s3, t0, t1, t2, t3, hd, tu⟩ j ≠ 0) ∧ SB wr B 31 ⟨s0, s1, s2, s3, t0, t1, t2, t3, hd, tu⟩ ∧ Blk wr (B + 1) 31 #[.int .i64 0, .bool false, .int .i64 0, .bool false, .int .i64 0, .bool false, .int .i64 0, .bool false, .int .i64 0, .int .u64 0] ∧ Below B w wr)
  case atStart => exact ⟨0, rfl, rfl, fun j hj => absurd hj (by omega), hsb, hzb, hbW⟩
  case round =>
    clear hsb hzb hbW
    obtain ⟨k, hk, rfl, hno, hsb, hzb, hbW⟩ := hrel
    have hBs : B ≤ wr.heap.size := by have := hzb.lt; omega
    by_cases hlt : k < 4
    · rcases (by omega : k = 0 ∨ k = 1 ∨ k = 2 ∨ k = 3) with rfl | rfl | rfl | rfl
      · have k0 : wr.cell? ⟨B, 0, none⟩ = some (.int .i64 s0) := hsb.cell 0
        have k1 : wr.cell? ⟨B, 1, none⟩ = some (.bool t0) := hsb.cell 1
        have k2 : wr.cell? ⟨B, 2, none⟩ = some (.int .i64 s1) := hsb.cell 2
        have k3 : wr.cell? ⟨B, 3, none⟩ = some (.bool t1) := hsb.cell 3
        have k4 : wr.cell? ⟨B, 4, none⟩ = some (.int .i64 s2) := hsb.cell 4
        have k5 : wr.cell? ⟨B, 5, none⟩ = some (.bool t2) := hsb.cell 5
        have k6 : wr.cell? ⟨B, 6, none⟩ = some (.int .i64 s3) := hsb.cell 6
        have k7 : wr.cell? ⟨B, 7, none⟩ = some (.bool t3) := hsb.cell 7
        have k8 : wr.cell? ⟨B, 8, none⟩ = some (.int .i64 hd) := hsb.cell 8
        have k9 : wr.cell? ⟨B, 9, none⟩ = some (.int .u64 tu) := hsb.cell 9
        have g0 := hsb.frozen 0
        have g1 := hsb.frozen 1
        have g2 := hsb.frozen 2
        have g3 := hsb.frozen 3
        have g4 := hsb.frozen 4
        have g5 := hsb.frozen 5
        have g6 := hsb.frozen 6
        have g7 := hsb.frozen 7
        have g8 := hsb.frozen 8
        have g9 := hsb.frozen 9
        have z0 : wr.cell? ⟨B + 1, 0, none⟩ = some (.int .i64 0) := hzb.cell 0
        have z1 : wr.cell? ⟨B + 1, 1, none⟩ = some (.bool false) := hzb.cell 1
        have z2 : wr.cell? ⟨B + 1, 2, none⟩ = some (.int .i64 0) := hzb.cell 2
        have z3 : wr.cell? ⟨B + 1, 3, none⟩ = some (.bool false) := hzb.cell 3
        have z4 : wr.cell? ⟨B + 1, 4, none⟩ = some (.int .i64 0) := hzb.cell 4
        have z5 : wr.cell? ⟨B + 1, 5, none⟩ = some (.bool false) := hzb.cell 5
        have z6 : wr.cell? ⟨B + 1, 6, none⟩ = some (.int .i64 0) := hzb.cell 6
        have z7 : wr.cell? ⟨B + 1, 7, none⟩ = some (.bool false) := hzb.cell 7
        have z8 : wr.cell? ⟨B + 1, 8, none⟩ = some (.int .i64 0) := hzb.cell 8
        have z9 : wr.cell? ⟨B + 1, 9, none⟩ = some (.int .u64 0) := hzb.cell 9
        have f0 := hzb.frozen 0
        have f1 := hzb.frozen 1
        have f2 := hzb.frozen 2
        have f3 := hzb.frozen 3
        have f4 := hzb.frozen 4
        have f5 := hzb.frozen 5
        have f6 := hzb.frozen 6
        have f7 := hzb.frozen 7
        have f8 := hzb.frozen 8
        have f9 := hzb.frozen 9
        have hz1 := hsb.lt
        have hz2 := hzb.lt
        by_cases h0 : s0 = 0
        · have hE : Hid (R = (⟨s0, s1, s2, s3, t0, t1, t2, t3, hd, tu⟩, 0)) := by
            rw [Hid, ← hR.out]
            unfold WS.place
            rw [if_pos h0]
          subst h0
          skip
          clear hsb hzb hno hR
          go_wp2
          refine bodyPost_ret (v := .tuple #[.agg #[.int .i64 0, .bool t0, .int .i64 s1, .bool t1, .int .i64 s2, .bool t2, .int .i64 s3, .bool t3, .int .i64 hd, .int .u64 tu], .int .i64 0]) (by simp [results, Try.results21, go_sem, z0, z1, z2, z3, z4, z5, z6, z7, z8, z9, hz1, hz2]) rfl ⟨by rw [hE.out]; rfl, ?_⟩
          rw [HB.out]
          repeat (first | (with_reducible exact hbW) | (with_reducible refine Below.setCell ?_ (by simp <;> omega) _) | (with_reducible refine Below.alloc ?_ (by simp <;> omega) _) | (with_reducible refine Below.drew ?_))
        · have hno2 : Hid (∀ j, j < 0 + 1 → WS.sl ⟨s0, s1, s2, s3, t0, t1, t2, t3, hd, tu⟩ j ≠ 0) := fun j hj => by
            by_cases u : j = 0
            · subst u
              exact h0
            · exact hno.out j (by omega)
          have h1 : (s0 == 0) = false := by simpa using h0
          skip
          have HS := Lib.hid hsb
          have HZ := Lib.hid hzb
          clear hsb hzb h0
          go_wp2
          go_roundg (gk - 1)
          case measure => omega
          case rel => exact ⟨0 + 1, by omega, by first | rfl | go_num, hno2, HS.out, HZ.out, hbW⟩
      · have k0 : wr.cell? ⟨B, 0, none⟩ = some (.int .i64 s0) := hsb.cell 0
        have k1 : wr.cell? ⟨B, 1, none⟩ = some (.bool t0) := hsb.cell 1
        have k2 : wr.cell? ⟨B, 2, none⟩ = some (.int .i64 s1) := hsb.cell 2
        have k3 : wr.cell? ⟨B, 3, none⟩ = some (.bool t1) := hsb.cell 3
        have k4 : wr.cell? ⟨B, 4, none⟩ = some (.int .i64 s2) := hsb.cell 4
        have k5 : wr.cell? ⟨B, 5, none⟩ = some (.bool t2) := hsb.cell 5
        have k6 : wr.cell? ⟨B, 6, none⟩ = some (.int .i64 s3) := hsb.cell 6
        have k7 : wr.cell? ⟨B, 7, none⟩ = some (.bool t3) := hsb.cell 7
        have k8 : wr.cell? ⟨B, 8, none⟩ = some (.int .i64 hd) := hsb.cell 8
        have k9 : wr.cell? ⟨B, 9, none⟩ = some (.int .u64 tu) := hsb.cell 9
        have g0 := hsb.frozen 0
        have g1 := hsb.frozen 1
        have g2 := hsb.frozen 2
        have g3 := hsb.frozen 3
        have g4 := hsb.frozen 4
        have g5 := hsb.frozen 5
        have g6 := hsb.frozen 6
        have g7 := hsb.frozen 7
        have g8 := hsb.frozen 8
        have g9 := hsb.frozen 9
        have z0 : wr.cell? ⟨B + 1, 0, none⟩ = some (.int .i64 0) := hzb.cell 0
        have z1 : wr.cell? ⟨B + 1, 1, none⟩ = some (.bool false) := hzb.cell 1
        have z2 : wr.cell? ⟨B + 1, 2, none⟩ = some (.int .i64 0) := hzb.cell 2
        have z3 : wr.cell? ⟨B + 1, 3, none⟩ = some (.bool false) := hzb.cell 3
        have z4 : wr.cell? ⟨B + 1, 4, none⟩ = some (.int .i64 0) := hzb.cell 4
        have z5 : wr.cell? ⟨B + 1, 5, none⟩ = some (.bool false) := hzb.cell 5
        have z6 : wr.cell? ⟨B + 1, 6, none⟩ = some (.int .i64 0) := hzb.cell 6
        have z7 : wr.cell? ⟨B + 1, 7, none⟩ = some (.bool false) := hzb.cell 7
        have z8 : wr.cell? ⟨B + 1, 8, none⟩ = some (.int .i64 0) := hzb.cell 8
        have z9 : wr.cell? ⟨B + 1, 9, none⟩ = some (.int .u64 0) := hzb.cell 9
        have f0 := hzb.frozen 0
        have f1 := hzb.frozen 1
        have f2 := hzb.frozen 2
        have f3 := hzb.frozen 3
        have f4 := hzb.frozen 4
        have f5 := hzb.frozen 5
        have f6 := hzb.frozen 6
        have f7 := hzb.frozen 7
        have f8 := hzb.frozen 8
        have f9 := hzb.frozen 9
        have hz1 := hsb.lt
        have hz2 := hzb.lt
        by_cases h0 : s1 = 0
        · have hE : Hid (R = (⟨s0, s1, s2, s3, t0, t1, t2, t3, hd, tu⟩, 1)) := by
            rw [Hid, ← hR.out]
            unfold WS.place
            rw [if_neg (show ¬ (s0 = 0) from hno.out 0 (by decide))]; rw [if_pos h0]
          subst h0
          skip
          clear hsb hzb hno hR
          go_wp2
          refine bodyPost_ret (v := .tuple #[.agg #[.int .i64 s0, .bool t0, .int .i64 0, .bool t1, .int .i64 s2, .bool t2, .int .i64 s3, .bool t3, .int .i64 hd, .int .u64 tu], .int .i64 1]) (by simp [results, Try.results21, go_sem, z0, z1, z2, z3, z4, z5, z6, z7, z8, z9, hz1, hz2]) rfl ⟨by rw [hE.out]; rfl, ?_⟩
          rw [HB.out]
          repeat (first | (with_reducible exact hbW) | (with_reducible refine Below.setCell ?_ (by simp <;> omega) _) | (with_reducible refine Below.alloc ?_ (by simp <;> omega) _) | (with_reducible refine Below.drew ?_))
        · have hno2 : Hid (∀ j, j < 1 + 1 → WS.sl ⟨s0, s1, s2, s3, t0, t1, t2, t3, hd, tu⟩ j ≠ 0) := fun j hj => by
            by_cases u : j = 1
            · subst u
              exact h0
            · exact hno.out j (by omega)
          have h1 : (s1 == 0) = false := by simpa using h0
          skip
          have HS := Lib.hid hsb
          have HZ := Lib.hid hzb
          clear hsb hzb h0
          go_wp2
          go_roundg (gk - 1)
          case measure => omega
          case rel => exact ⟨1 + 1, by omega, by first | rfl | go_num, hno2, HS.out, HZ.out, hbW⟩
      · have k0 : wr.cell? ⟨B, 0, none⟩ = some (.int .i64 s0) := hsb.cell 0
        have k1 : wr.cell? ⟨B, 1, none⟩ = some (.bool t0) := hsb.cell 1
        have k2 : wr.cell? ⟨B, 2, none⟩ = some (.int .i64 s1) := hsb.cell 2
        have k3 : wr.cell? ⟨B, 3, none⟩ = some (.bool t1) := hsb.cell 3
        have k4 : wr.cell? ⟨B, 4, none⟩ = some (.int .i64 s2) := hsb.cell 4
        have k5 : wr.cell? ⟨B, 5, none⟩ = some (.bool t2) := hsb.cell 5
        have k6 : wr.cell? ⟨B, 6, none⟩ = some (.int .i64 s3) := hsb.cell 6
        have k7 : wr.cell? ⟨B, 7, none⟩ = some (.bool t3) := hsb.cell 7
        have k8 : wr.cell? ⟨B, 8, none⟩ = some (.int .i64 hd) := hsb.cell 8
        have k9 : wr.cell? ⟨B, 9, none⟩ = some (.int .u64 tu) := hsb.cell 9
        have g0 := hsb.frozen 0
        have g1 := hsb.frozen 1
        have g2 := hsb.frozen 2
        have g3 := hsb.frozen 3
        have g4 := hsb.frozen 4
        have g5 := hsb.frozen 5
        have g6 := hsb.frozen 6
        have g7 := hsb.frozen 7
        have g8 := hsb.frozen 8
        have g9 := hsb.frozen 9
        have z0 : wr.cell? ⟨B + 1, 0, none⟩ = some (.int .i64 0) := hzb.cell 0
        have z1 : wr.cell? ⟨B + 1, 1, none⟩ = some (.bool false) := hzb.cell 1
        have z2 : wr.cell? ⟨B + 1, 2, none⟩ = some (.int .i64 0) := hzb.cell 2
        have z3 : wr.cell? ⟨B + 1, 3, none⟩ = some (.bool false) := hzb.cell 3
        have z4 : wr.cell? ⟨B + 1, 4, none⟩ = some (.int .i64 0) := hzb.cell 4
        have z5 : wr.cell? ⟨B + 1, 5, none⟩ = some (.bool false) := hzb.cell 5
        have z6 : wr.cell? ⟨B + 1, 6, none⟩ = some (.int .i64 0) := hzb.cell 6
        have z7 : wr.cell? ⟨B + 1, 7, none⟩ = some (.bool false) := hzb.cell 7
        have z8 : wr.cell? ⟨B + 1, 8, none⟩ = some (.int .i64 0) := hzb.cell 8
        have z9 : wr.cell? ⟨B + 1, 9, none⟩ = some (.int .u64 0) := hzb.cell 9
        have f0 := hzb.frozen 0
        have f1 := hzb.frozen 1
        have f2 := hzb.frozen 2
        have f3 := hzb.frozen 3
        have f4 := hzb.frozen 4
        have f5 := hzb.frozen 5
        have f6 := hzb.frozen 6
        have f7 := hzb.frozen 7
        have f8 := hzb.frozen 8
        have f9 := hzb.frozen 9
        have hz1 := hsb.lt
        have hz2 := hzb.lt
        by_cases h0 : s2 = 0
        · have hE : Hid (R = (⟨s0, s1, s2, s3, t0, t1, t2, t3, hd, tu⟩, 2)) := by
            rw [Hid, ← hR.out]
            unfold WS.place
            rw [if_neg (show ¬ (s0 = 0) from hno.out 0 (by decide))]; rw [if_neg (show ¬ (s1 = 0) from hno.out 1 (by decide))]; rw [if_pos h0]
          subst h0
          skip
          clear hsb hzb hno hR
          go_wp2
          refine bodyPost_ret (v := .tuple #[.agg #[.int .i64 s0, .bool t0, .int .i64 s1, .bool t1, .int .i64 0, .bool t2, .int .i64 s3, .bool t3, .int .i64 hd, .int .u64 tu], .int .i64 2]) (by simp [results, Try.results21, go_sem, z0, z1, z2, z3, z4, z5, z6, z7, z8, z9, hz1, hz2]) rfl ⟨by rw [hE.out]; rfl, ?_⟩
          rw [HB.out]
          repeat (first | (with_reducible exact hbW) | (with_reducible refine Below.setCell ?_ (by simp <;> omega) _) | (with_reducible refine Below.alloc ?_ (by simp <;> omega) _) | (with_reducible refine Below.drew ?_))
        · have hno2 : Hid (∀ j, j < 2 + 1 → WS.sl ⟨s0, s1, s2, s3, t0, t1, t2, t3, hd, tu⟩ j ≠ 0) := fun j hj => by
            by_cases u : j = 2
            · subst u
              exact h0
            · exact hno.out j (by omega)
          have h1 : (s2 == 0) = false := by simpa using h0
          skip
          have HS := Lib.hid hsb
          have HZ := Lib.hid hzb
          clear hsb hzb h0
          go_wp2
          go_roundg (gk - 1)
          case measure => omega
          case rel => exact ⟨2 + 1, by omega, by first | rfl | go_num, hno2, HS.out, HZ.out, hbW⟩
      · have k0 : wr.cell? ⟨B, 0, none⟩ = some (.int .i64 s0) := hsb.cell 0
        have k1 : wr.cell? ⟨B, 1, none⟩ = some (.bool t0) := hsb.cell 1
        have k2 : wr.cell? ⟨B, 2, none⟩ = some (.int .i64 s1) := hsb.cell 2
        have k3 : wr.cell? ⟨B, 3, none⟩ = some (.bool t1) := hsb.cell 3
        have k4 : wr.cell? ⟨B, 4, none⟩ = some (.int .i64 s2) := hsb.cell 4
        have k5 : wr.cell? ⟨B, 5, none⟩ = some (.bool t2) := hsb.cell 5
        have k6 : wr.cell? ⟨B, 6, none⟩ = some (.int .i64 s3) := hsb.cell 6
        have k7 : wr.cell? ⟨B, 7, none⟩ = some (.bool t3) := hsb.cell 7
        have k8 : wr.cell? ⟨B, 8, none⟩ = some (.int .i64 hd) := hsb.cell 8
        have k9 : wr.cell? ⟨B, 9, none⟩ = some (.int .u64 tu) := hsb.cell 9
        have g0 := hsb.frozen 0
        have g1 := hsb.frozen 1
        have g2 := hsb.frozen 2
        have g3 := hsb.frozen 3
        have g4 := hsb.frozen 4
        have g5 := hsb.frozen 5
        have g6 := hsb.frozen 6
        have g7 := hsb.frozen 7
        have g8 := hsb.frozen 8
        have g9 := hsb.frozen 9
        have z0 : wr.cell? ⟨B + 1, 0, none⟩ = some (.int .i64 0) := hzb.cell 0
        have z1 : wr.cell? ⟨B + 1, 1, none⟩ = some (.bool false) := hzb.cell 1
        have z2 : wr.cell? ⟨B + 1, 2, none⟩ = some (.int .i64 0) := hzb.cell 2
        have z3 : wr.cell? ⟨B + 1, 3, none⟩ = some (.bool false) := hzb.cell 3
        have z4 : wr.cell? ⟨B + 1, 4, none⟩ = some (.int .i64 0) := hzb.cell 4
        have z5 : wr.cell? ⟨B + 1, 5, none⟩ = some (.bool false) := hzb.cell 5
        have z6 : wr.cell? ⟨B + 1, 6, none⟩ = some (.int .i64 0) := hzb.cell 6
        have z7 : wr.cell? ⟨B + 1, 7, none⟩ = some (.bool false) := hzb.cell 7
        have z8 : wr.cell? ⟨B + 1, 8, none⟩ = some (.int .i64 0) := hzb.cell 8
        have z9 : wr.cell? ⟨B + 1, 9, none⟩ = some (.int .u64 0) := hzb.cell 9
        have f0 := hzb.frozen 0
        have f1 := hzb.frozen 1
        have f2 := hzb.frozen 2
        have f3 := hzb.frozen 3
        have f4 := hzb.frozen 4
        have f5 := hzb.frozen 5
        have f6 := hzb.frozen 6
        have f7 := hzb.frozen 7
        have f8 := hzb.frozen 8
        have f9 := hzb.frozen 9
        have hz1 := hsb.lt
        have hz2 := hzb.lt
        by_cases h0 : s3 = 0
        · have hE : Hid (R = (⟨s0, s1, s2, s3, t0, t1, t2, t3, hd, tu⟩, 3)) := by
            rw [Hid, ← hR.out]
            unfold WS.place
            rw [if_neg (show ¬ (s0 = 0) from hno.out 0 (by decide))]; rw [if_neg (show ¬ (s1 = 0) from hno.out 1 (by decide))]; rw [if_neg (show ¬ (s2 = 0) from hno.out 2 (by decide))]; rw [if_pos h0]
          subst h0
          skip
          clear hsb hzb hno hR
          go_wp2
          refine bodyPost_ret (v := .tuple #[.agg #[.int .i64 s0, .bool t0, .int .i64 s1, .bool t1, .int .i64 s2, .bool t2, .int .i64 0, .bool t3, .int .i64 hd, .int .u64 tu], .int .i64 3]) (by simp [results, Try.results21, go_sem, z0, z1, z2, z3, z4, z5, z6, z7, z8, z9, hz1, hz2]) rfl ⟨by rw [hE.out]; rfl, ?_⟩
          rw [HB.out]
          repeat (first | (with_reducible exact hbW) | (with_reducible refine Below.setCell ?_ (by simp <;> omega) _) | (with_reducible refine Below.alloc ?_ (by simp <;> omega) _) | (with_reducible refine Below.drew ?_))
        · have hno2 : Hid (∀ j, j < 3 + 1 → WS.sl ⟨s0, s1, s2, s3, t0, t1, t2, t3, hd, tu⟩ j ≠ 0) := fun j hj => by
            by_cases u : j = 3
            · subst u
              exact h0
            · exact hno.out j (by omega)
          have h1 : (s3 == 0) = false := by simpa using h0
          skip
          have HS := Lib.hid hsb
          have HZ := Lib.hid hzb
          clear hsb hzb h0
          go_wp2
          go_roundg (gk - 1)
          case measure => omega
          case rel => exact ⟨3 + 1, by omega, by first | rfl | go_num, hno2, HS.out, HZ.out, hbW⟩
    · obtain rfl : k = 4 := by omega
      have hE0 : Hid (R = turn 8 (WS.norm ⟨s0, s1, s2, s3, t0, t1, t2, t3, hd, tu⟩)) := by
        rw [Hid, ← hR.out]
        unfold WS.place
        rw [if_neg (show ¬ (s0 = 0) from hno.out 0 (by decide))]; rw [if_neg (show ¬ (s1 = 0) from hno.out 1 (by decide))]; rw [if_neg (show ¬ (s2 = 0) from hno.out 2 (by decide))]; rw [if_neg (show ¬ (s3 = 0) from hno.out 3 (by decide))]
      have hNC := cnt_le (WS.norm ⟨s0, s1, s2, s3, t0, t1, t2, t3, hd, tu⟩)
      clear hno hR
      rcases (by omega : (0 ≤ hd ∧ hd < 4) ∨ hd < 0 ∨ 4 ≤ hd) with hh | hh | hh
      · have hN : WS.norm ⟨s0, s1, s2, s3, t0, t1, t2, t3, hd, tu⟩ = ⟨s0, s1, s2, s3, t0, t1, t2, t3, hd, tu⟩ := if_pos hh
        rw [hN] at hE0 hNC
        clear hN
        have hd0 : decide (hd < 0) = false := decide_eq_false (by omega)
        have hd1 : decide ((3 : Int) < hd) = false := decide_eq_false (by omega)
        have hT := trivial
        have hH : Hid (0 ≤ hd ∧ hd < 4) := hh
        have hsb2 : SB wr B 31 ⟨s0, s1, s2, s3, t0, t1, t2, t3, hd, tu⟩ := hsb
        have k0 : wr.cell? ⟨B, 0, none⟩ = some (.int .i64 s0) := hsb.cell 0
        have k1 : wr.cell? ⟨B, 1, none⟩ = some (.bool t0) := hsb.cell 1
        have k2 : wr.cell? ⟨B, 2, none⟩ = some (.int .i64 s1) := hsb.cell 2
        have k3 : wr.cell? ⟨B, 3, none⟩ = some (.bool t1) := hsb.cell 3
        have k4 : wr.cell? ⟨B, 4, none⟩ = some (.int .i64 s2) := hsb.cell 4
        have k5 : wr.cell? ⟨B, 5, none⟩ = some (.bool t2) := hsb.cell 5
        have k6 : wr.cell? ⟨B, 6, none⟩ = some (.int .i64 s3) := hsb.cell 6
        have k7 : wr.cell? ⟨B, 7, none⟩ = some (.bool t3) := hsb.cell 7
        have k8 : wr.cell? ⟨B, 8, none⟩ = some (.int .i64 hd) := hsb.cell 8
        have k9 : wr.cell? ⟨B, 9, none⟩ = some (.int .u64 tu) := hsb.cell 9
        have g0 := hsb.frozen 0
        have g1 := hsb.frozen 1
        have g2 := hsb.frozen 2
        have g3 := hsb.frozen 3
        have g4 := hsb.frozen 4
        have g5 := hsb.frozen 5
        have g6 := hsb.frozen 6
        have g7 := hsb.frozen 7
        have g8 := hsb.frozen 8
        have g9 := hsb.frozen 9
        have z0 : wr.cell? ⟨B + 1, 0, none⟩ = some (.int .i64 0) := hzb.cell 0
        have z1 : wr.cell? ⟨B + 1, 1, none⟩ = some (.bool false) := hzb.cell 1
        have z2 : wr.cell? ⟨B + 1, 2, none⟩ = some (.int .i64 0) := hzb.cell 2
        have z3 : wr.cell? ⟨B + 1, 3, none⟩ = some (.bool false) := hzb.cell 3
        have z4 : wr.cell? ⟨B + 1, 4, none⟩ = some (.int .i64 0) := hzb.cell 4
        have z5 : wr.cell? ⟨B + 1, 5, none⟩ = some (.bool false) := hzb.cell 5
        have z6 : wr.cell? ⟨B + 1, 6, none⟩ = some (.int .i64 0) := hzb.cell 6
        have z7 : wr.cell? ⟨B + 1, 7, none⟩ = some (.bool false) := hzb.cell 7
        have z8 : wr.cell? ⟨B + 1, 8, none⟩ = some (.int .i64 0) := hzb.cell 8
        have z9 : wr.cell? ⟨B + 1, 9, none⟩ = some (.int .u64 0) := hzb.cell 9
        have f0 := hzb.frozen 0
        have f1 := hzb.frozen 1
        have f2 := hzb.frozen 2
        have f3 := hzb.frozen 3
        have f4 := hzb.frozen 4
        have f5 := hzb.frozen 5
        have f6 := hzb.frozen 6
        have f7 := hzb.frozen 7
        have f8 := hzb.frozen 8
        have f9 := hzb.frozen 9
        have hz1 := hsb.lt
        have hz2 := hzb.lt
        have HS : Hid (SB wr B 31 ⟨s0, s1, s2, s3, t0, t1, t2, t3, hd, tu⟩) := hsb
        have HZ := Lib.hid hzb
        clear hsb hzb hh hsb2
        go_wp2_with fail
        clear k0 g0 z0 f0 k1 g1 z1 f1 k2 g2 z2 f2 k3 g3 z3 f3 k4 g4 z4 f4 k5 g5 z5 f5 k6 g6 z6 f6 k7 g7 z7 f7 k8 g8 z8 f8 k9 g9 z9 f9 hz1 hz2 hd0 hd1 hT
        go_loopg [5] (WS.cnt ⟨s0, s1, s2, s3, t0, t1, t2, t3, hd, tu⟩) (fun gk kk wr => ∃ (f : Nat) (s0 s1 s2 s3 : Int) (t0 t1 t2 t3 : Bool) (hd tu : Int), WS.cnt ⟨s0, s1, s2, s3, t0, t1, t2, t3, hd, tu⟩ = gk ∧ gk < f ∧ f ≤ 8 ∧ kk = .int .i64 (8 - (f : Int)) ∧ Hid (R = turn f ⟨s0, s1, s2, s3, t0, t1, t2, t3, hd, tu⟩) ∧ Hid (0 ≤ hd ∧ hd < 4) ∧ SB wr B 31 ⟨s0, s1, s2, s3, t0, t1, t2, t3, hd, tu⟩ ∧ Blk wr (B + 1) 31 #[.int .i64 0, .bool false, .int .i64 0, .bool false, .int .i64 0, .bool false, .int .i64 0, .bool false, .int .i64 0, .int .u64 0] ∧ Below B w wr)
        case atStart => exact ⟨8, s0, s1, s2, s3, t0, t1, t2, t3, hd, tu, rfl, by omega, by omega, rfl, hE0, hH, HS.out, HZ.out, hbW⟩
        case round =>
          clear HS HZ hbW hE0 hH hNC
          obtain ⟨f, s0, s1, s2, s3, t0, t1, t2, t3, hd, tu, hcnt, hf, hf8, rfl, hE, hH, hsb, hzb, hbW⟩ := hrel
          have hBs : B ≤ wr.heap.size := by have := hzb.lt; omega
          obtain ⟨f, rfl⟩ : ∃ f', f = f' + 1 := ⟨f - 1, by omega⟩
          have hf1 : (8 : Int) - ((f + 1 : Nat) : Int) < 8 := by omega
          rcases (by have := hH.out; omega : hd = 0 ∨ hd = 1 ∨ hd = 2 ∨ hd = 3) with rfl | rfl | rfl | rfl
          · have k0 : wr.cell? ⟨B, 0, none⟩ = some (.int .i64 s0) := hsb.cell 0
            have k1 : wr.cell? ⟨B, 1, none⟩ = some (.bool t0) := hsb.cell 1
            have k2 : wr.cell? ⟨B, 2, none⟩ = some (.int .i64 s1) := hsb.cell 2
            have k3 : wr.cell? ⟨B, 3, none⟩ = some (.bool t1) := hsb.cell 3
            have k4 : wr.cell? ⟨B, 4, none⟩ = some (.int .i64 s2) := hsb.cell 4
            have k5 : wr.cell? ⟨B, 5, none⟩ = some (.bool t2) := hsb.cell 5
            have k6 : wr.cell? ⟨B, 6, none⟩ = some (.int .i64 s3) := hsb.cell 6
            have k7 : wr.cell? ⟨B, 7, none⟩ = some (.bool t3) := hsb.cell 7
            have k8 : wr.cell? ⟨B, 8, none⟩ = some (.int .i64 0) := hsb.cell 8
            have k9 : wr.cell? ⟨B, 9, none⟩ = some (.int .u64 tu) := hsb.cell 9
            have g0 := hsb.frozen 0
            have g1 := hsb.frozen 1
            have g2 := hsb.frozen 2
            have g3 := hsb.frozen 3
            have g4 := hsb.frozen 4
            have g5 := hsb.frozen 5
            have g6 := hsb.frozen 6
            have g7 := hsb.frozen 7
            have g8 := hsb.frozen 8
            have g9 := hsb.frozen 9
            have z0 : wr.cell? ⟨B + 1, 0, none⟩ = some (.int .i64 0) := hzb.cell 0
            have z1 : wr.cell? ⟨B + 1, 1, none⟩ = some (.bool false) := hzb.cell 1
            have z2 : wr.cell? ⟨B + 1, 2, none⟩ = some (.int .i64 0) := hzb.cell 2
            have z3 : wr.cell? ⟨B + 1, 3, none⟩ = some (.bool false) := hzb.cell 3
            have z4 : wr.cell? ⟨B + 1, 4, none⟩ = some (.int .i64 0) := hzb.cell 4
            have z5 : wr.cell? ⟨B + 1, 5, none⟩ = some (.bool false) := hzb.cell 5
            have z6 : wr.cell? ⟨B + 1, 6, none⟩ = some (.int .i64 0) := hzb.cell 6
            have z7 : wr.cell? ⟨B + 1, 7, none⟩ = some (.bool false) := hzb.cell 7
            have z8 : wr.cell? ⟨B + 1, 8, none⟩ = some (.int .i64 0) := hzb.cell 8
            have z9 : wr.cell? ⟨B + 1, 9, none⟩ = some (.int .u64 0) := hzb.cell 9
            have f0 := hzb.frozen 0
            have f1 := hzb.frozen 1
            have f2 := hzb.frozen 2
            have f3 := hzb.frozen 3
            have f4 := hzb.frozen 4
            have f5 := hzb.frozen 5
            have f6 := hzb.frozen 6
            have f7 := hzb.frozen 7
            have f8 := hzb.frozen 8
            have f9 := hzb.frozen 9
            have hz1 := hsb.lt
            have hz2 := hzb.lt
            rcases (Bool.eq_false_or_eq_true t0).symm with rfl | rfl
            · have hE2 : Hid (R = (⟨s0, s1, s2, s3, false, t1, t2, t3, 1, tu⟩, 0)) := by rw [Hid, hE.out]; rfl
              have hne : B ≠ B + 1 := by omega
              clear hsb hzb hE hcnt hH
              go_wp2
              refine bodyPost_ret (v := .tuple #[.agg #[.int .i64 s0, .bool false, .int .i64 s1, .bool t1, .int .i64 s2, .bool t2, .int .i64 s3, .bool t3, .int .i64 1, .int .u64 tu], .int .i64 0]) (by simp [results, Try.results21, go_sem, z0, z1, z2, z3, z4, z5, z6, z7, z8, z9, hz1, hz2]) rfl ⟨by rw [hE2.out]; rfl, ?_⟩
              rw [HB.out]
              repeat (first | (with_reducible exact hbW) | (with_reducible refine Below.setCell ?_ (by simp <;> omega) _) | (with_reducible refine Below.alloc ?_ (by simp <;> omega) _) | (with_reducible refine Below.drew ?_))
            · have hE2 : Hid (R = turn f ⟨s0, s1, s2, s3, false, t1, t2, t3, 1, tu⟩) := by rw [Hid, hE.out]; rfl
              have hC2 : WS.cnt ⟨s0, s1, s2, s3, false, t1, t2, t3, 1, tu⟩ = gk - 1 ∧ 1 ≤ gk := by
                unfold WS.cnt at hcnt ⊢
                simp only [Bool.toNat_true, Bool.toNat_false] at hcnt ⊢
                omega
              have HS : Hid (SB ((wr.setCell ⟨B, 8, none⟩ (.int .i64 1)).setCell ⟨B, 1, none⟩ (.bool false)) B 31 ⟨s0, s1, s2, s3, false, t1, t2, t3, 1, tu⟩) := by simpa [SB, wcell, Hid] using Blk.set_ (Blk.set_ hsb 8 (.int .i64 1)) 1 (.bool false)
              have HZ : Hid (Blk ((wr.setCell ⟨B, 8, none⟩ (.int .i64 1)).setCell ⟨B, 1, none⟩ (.bool false)) (B + 1) 31 #[.int .i64 0, .bool false, .int .i64 0, .bool false, .int .i64 0, .bool false, .int .i64 0, .bool false, .int .i64 0, .int .u64 0]) := (hzb.far (p := ⟨B, 8, none⟩) (by simp) _).far (p := ⟨B, 1, none⟩) (by simp) _
              have HBW : Hid (Below B w ((wr.setCell ⟨B, 8, none⟩ (.int .i64 1)).setCell ⟨B, 1, none⟩ (.bool false))) := (hbW.setCell (p := ⟨B, 8, none⟩) (Nat.le_refl _) _).setCell (p := ⟨B, 1, none⟩) (Nat.le_refl _) _
              clear hsb hzb hE hcnt hH
              go_wp2
              go_roundg (gk - 1)
              case measure => omega
              case rel => exact ⟨f, s0, s1, s2, s3, false, t1, t2, t3, 1, tu, hC2.1, by omega, by omega, by go_num, hE2, (by decide : (0 : Int) ≤ 1 ∧ (1 : Int) < 4), HS.out, HZ.out, HBW.out⟩
          · have k0 : wr.cell? ⟨B, 0, none⟩ = some (.int .i64 s0) := hsb.cell 0
            have k1 : wr.cell? ⟨B, 1, none⟩ = some (.bool t0) := hsb.cell 1
            have k2 : wr.cell? ⟨B, 2, none⟩ = some (.int .i64 s1) := hsb.cell 2
            have k3 : wr.cell? ⟨B, 3, none⟩ = some (.bool t1) := hsb.cell 3
            have k4 : wr.cell? ⟨B, 4, none⟩ = some (.int .i64 s2) := hsb.cell 4
            have k5 : wr.cell? ⟨B, 5, none⟩ = some (.bool t2) := hsb.cell 5
            have k6 : wr.cell? ⟨B, 6, none⟩ = some (.int .i64 s3) := hsb.cell 6
            have k7 : wr.cell? ⟨B, 7, none⟩ = some (.bool t3) := hsb.cell 7
            have k8 : wr.cell? ⟨B, 8, none⟩ = some (.int .i64 1) := hsb.cell 8
            have k9 : wr.cell? ⟨B, 9, none⟩ = some (.int .u64 tu) := hsb.cell 9
            have g0 := hsb.frozen 0
            have g1 := hsb.frozen 1
            have g2 := hsb.frozen 2
            have g3 := hsb.frozen 3
            have g4 := hsb.frozen 4
            have g5 := hsb.frozen 5
            have g6 := hsb.frozen 6
            have g7 := hsb.frozen 7
            have g8 := hsb.frozen 8
            have g9 := hsb.frozen 9
            have z0 : wr.cell? ⟨B + 1, 0, none⟩ = some (.int .i64 0) := hzb.cell 0
            have z1 : wr.cell? ⟨B + 1, 1, none⟩ = some (.bool false) := hzb.cell 1
            have z2 : wr.cell? ⟨B + 1, 2, none⟩ = some (.int .i64 0) := hzb.cell 2
            have z3 : wr.cell? ⟨B + 1, 3, none⟩ = some (.bool false) := hzb.cell 3
            have z4 : wr.cell? ⟨B + 1, 4, none⟩ = some (.int .i64 0) := hzb.cell 4
            have z5 : wr.cell? ⟨B + 1, 5, none⟩ = some (.bool false) := hzb.cell 5
            have z6 : wr.cell? ⟨B + 1, 6, none⟩ = some (.int .i64 0) := hzb.cell 6
            have z7 : wr.cell? ⟨B + 1, 7, none⟩ = some (.bool false) := hzb.cell 7
            have z8 : wr.cell? ⟨B + 1, 8, none⟩ = some (.int .i64 0) := hzb.cell 8
            have z9 : wr.cell? ⟨B + 1, 9, none⟩ = some (.int .u64 0) := hzb.cell 9
            have f0 := hzb.frozen 0
            have f1 := hzb.frozen 1
            have f2 := hzb.frozen 2
            have f3 := hzb.frozen 3
            have f4 := hzb.frozen 4
            have f5 := hzb.frozen 5
            have f6 := hzb.frozen 6
            have f7 := hzb.frozen 7
            have f8 := hzb.frozen 8
            have f9 := hzb.frozen 9
            have hz1 := hsb.lt
            have hz2 := hzb.lt
            rcases (Bool.eq_false_or_eq_true t1).symm with rfl | rfl
            · have hE2 : Hid (R = (⟨s0, s1, s2, s3, t0, false, t2, t3, 2, tu⟩, 1)) := by rw [Hid, hE.out]; rfl
              have hne : B ≠ B + 1 := by omega
              clear hsb hzb hE hcnt hH
              go_wp2
              refine bodyPost_ret (v := .tuple #[.agg #[.int .i64 s0, .bool t0, .int .i64 s1, .bool false, .int .i64 s2, .bool t2, .int .i64 s3, .bool t3, .int .i64 2, .int .u64 tu], .int .i64 1]) (by simp [results, Try.results21, go_sem, z0, z1, z2, z3, z4, z5, z6, z7, z8, z9, hz1, hz2]) rfl ⟨by rw [hE2.out]; rfl, ?_⟩
              rw [HB.out]
              repeat (first | (with_reducible exact hbW) | (with_reducible refine Below.setCell ?_ (by simp <;> omega) _) | (with_reducible refine Below.alloc ?_ (by simp <;> omega) _) | (with_reducible refine Below.drew ?_))
            · have hE2 : Hid (R = turn f ⟨s0, s1, s2, s3, t0, false, t2, t3, 2, tu⟩) := by rw [Hid, hE.out]; rfl
              have hC2 : WS.cnt ⟨s0, s1, s2, s3, t0, false, t2, t3, 2, tu⟩ = gk - 1 ∧ 1 ≤ gk := by
                unfold WS.cnt at hcnt ⊢
                simp only [Bool.toNat_true, Bool.toNat_false] at hcnt ⊢
                omega
              have HS : Hid (SB ((wr.setCell ⟨B, 8, none⟩ (.int .i64 2)).setCell ⟨B, 3, none⟩ (.bool false)) B 31 ⟨s0, s1, s2, s3, t0, false, t2, t3, 2, tu⟩) := by simpa [SB, wcell, Hid] using Blk.set_ (Blk.set_ hsb 8 (.int .i64 2)) 3 (.bool false)
              have HZ : Hid (Blk ((wr.setCell ⟨B, 8, none⟩ (.int .i64 2)).setCell ⟨B, 3, none⟩ (.bool false)) (B + 1) 31 #[.int .i64 0, .bool false, .int .i64 0, .bool false, .int .i64 0, .bool false, .int .i64 0, .bool false, .int .i64 0, .int .u64 0]) := (hzb.far (p := ⟨B, 8, none⟩) (by simp) _).far (p := ⟨B, 3, none⟩) (by simp) _
              have HBW : Hid (Below B w ((wr.setCell ⟨B, 8, none⟩ (.int .i64 2)).setCell ⟨B, 3, none⟩ (.bool false))) := (hbW.setCell (p := ⟨B, 8, none⟩) (Nat.le_refl _) _).setCell (p := ⟨B, 3, none⟩) (Nat.le_refl _) _
              clear hsb hzb hE hcnt hH
              go_wp2
              go_roundg (gk - 1)
              case measure => omega
              case rel => exact ⟨f, s0, s1, s2, s3, t0, false, t2, t3, 2, tu, hC2.1, by omega, by omega, by go_num, hE2, (by decide : (0 : Int) ≤ 2 ∧ (2 : Int) < 4), HS.out, HZ.out, HBW.out⟩
          · have k0 : wr.cell? ⟨B, 0, none⟩ = some (.int .i64 s0) := hsb.cell 0
            have k1 : wr.cell? ⟨B, 1, none⟩ = some (.bool t0) := hsb.cell 1
            have k2 : wr.cell? ⟨B, 2, none⟩ = some (.int .i64 s1) := hsb.cell 2
            have k3 : wr.cell? ⟨B, 3, none⟩ = some (.bool t1) := hsb.cell 3
            have k4 : wr.cell? ⟨B, 4, none⟩ = some (.int .i64 s2) := hsb.cell 4
            have k5 : wr.cell? ⟨B, 5, none⟩ = some (.bool t2) := hsb.cell 5
            have k6 : wr.cell? ⟨B, 6, none⟩ = some (.int .i64 s3) := hsb.cell 6
            have k7 : wr.cell? ⟨B, 7, none⟩ = some (.bool t3) := hsb.cell 7
            have k8 : wr.cell? ⟨B, 8, none⟩ = some (.int .i64 2) := hsb.cell 8
            have k9 : wr.cell? ⟨B, 9, none⟩ = some (.int .u64 tu) := hsb.cell 9
            have g0 := hsb.frozen 0
            have g1 := hsb.frozen 1
            have g2 := hsb.frozen 2
            have g3 := hsb.frozen 3
            have g4 := hsb.frozen 4
            have g5 := hsb.frozen 5
            have g6 := hsb.frozen 6
            have g7 := hsb.frozen 7
            have g8 := hsb.frozen 8
            have g9 := hsb.frozen 9
            have z0 : wr.cell? ⟨B + 1, 0, none⟩ = some (.int .i64 0) := hzb.cell 0
            have z1 : wr.cell? ⟨B + 1, 1, none⟩ = some (.bool false) := hzb.cell 1
            have z2 : wr.cell? ⟨B + 1, 2, none⟩ = some (.int .i64 0) := hzb.cell 2
            have z3 : wr.cell? ⟨B + 1, 3, none⟩ = some (.bool false) := hzb.cell 3
            have z4 : wr.cell? ⟨B + 1, 4, none⟩ = some (.int .i64 0) := hzb.cell 4
            have z5 : wr.cell? ⟨B + 1, 5, none⟩ = some (.bool false) := hzb.cell 5
            have z6 : wr.cell? ⟨B + 1, 6, none⟩ = some (.int .i64 0) := hzb.cell 6
            have z7 : wr.cell? ⟨B + 1, 7, none⟩ = some (.bool false) := hzb.cell 7
            have z8 : wr.cell? ⟨B + 1, 8, none⟩ = some (.int .i64 0) := hzb.cell 8
            have z9 : wr.cell? ⟨B + 1, 9, none⟩ = some (.int .u64 0) := hzb.cell 9
            have f0 := hzb.frozen 0
            have f1 := hzb.frozen 1
            have f2 := hzb.frozen 2
            have f3 := hzb.frozen 3
            have f4 := hzb.frozen 4
            have f5 := hzb.frozen 5
            have f6 := hzb.frozen 6
            have f7 := hzb.frozen 7
            have f8 := hzb.frozen 8
            have f9 := hzb.frozen 9
            have hz1 := hsb.lt
            have hz2 := hzb.lt
            rcases (Bool.eq_false_or_eq_true t2).symm with rfl | rfl
            · have hE2 : Hid (R = (⟨s0, s1, s2, s3, t0, t1, false, t3, 3, tu⟩, 2)) := by rw [Hid, hE.out]; rfl
              have hne : B ≠ B + 1 := by omega
              clear hsb hzb hE hcnt hH
              go_wp2
              refine bodyPost_ret (v := .tuple #[.agg #[.int .i64 s0, .bool t0, .int .i64 s1, .bool t1, .int .i64 s2, .bool false, .int .i64 s3, .bool t3, .int .i64 3, .int .u64 tu], .int .i64 2]) (by simp [results, Try.results21, go_sem, z0, z1, z2, z3, z4, z5, z6, z7, z8, z9, hz1, hz2]) rfl ⟨by rw [hE2.out]; rfl, ?_⟩
              rw [HB.out]
              repeat (first | (with_reducible exact hbW) | (with_reducible refine Below.setCell ?_ (by simp <;> omega) _) | (with_reducible refine Below.alloc ?_ (by simp <;> omega) _) | (with_reducible refine Below.drew ?_))
            · have hE2 : Hid (R = turn f ⟨s0, s1, s2, s3, t0, t1, false, t3, 3, tu⟩) := by rw [Hid, hE.out]; rfl
              have hC2 : WS.cnt ⟨s0, s1, s2, s3, t0, t1, false, t3, 3, tu⟩ = gk - 1 ∧ 1 ≤ gk := by
                unfold WS.cnt at hcnt ⊢
                simp only [Bool.toNat_true, Bool.toNat_false] at hcnt ⊢
                omega
              have HS : Hid (SB ((wr.setCell ⟨B, 8, none⟩ (.int .i64 3)).setCell ⟨B, 5, none⟩ (.bool false)) B 31 ⟨s0, s1, s2, s3, t0, t1, false, t3, 3, tu⟩) := by simpa [SB, wcell, Hid] using Blk.set_ (Blk.set_ hsb 8 (.int .i64 3)) 5 (.bool false)
              have HZ : Hid (Blk ((wr.setCell ⟨B, 8, none⟩ (.int .i64 3)).setCell ⟨B, 5, none⟩ (.bool false)) (B + 1) 31 #[.int .i64 0, .bool false, .int .i64 0, .bool false, .int .i64 0, .bool false, .int .i64 0, .bool false, .int .i64 0, .int .u64 0]) := (hzb.far (p := ⟨B, 8, none⟩) (by simp) _).far (p := ⟨B, 5, none⟩) (by simp) _
              have HBW : Hid (Below B w ((wr.setCell ⟨B, 8, none⟩ (.int .i64 3)).setCell ⟨B, 5, none⟩ (.bool false))) := (hbW.setCell (p := ⟨B, 8, none⟩) (Nat.le_refl _) _).setCell (p := ⟨B, 5, none⟩) (Nat.le_refl _) _
              clear hsb hzb hE hcnt hH
              go_wp2
              go_roundg (gk - 1)
              case measure => omega
              case rel => exact ⟨f, s0, s1, s2, s3, t0, t1, false, t3, 3, tu, hC2.1, by omega, by omega, by go_num, hE2, (by decide : (0 : Int) ≤ 3 ∧ (3 : Int) < 4), HS.out, HZ.out, HBW.out⟩
          · have k0 : wr.cell? ⟨B, 0, none⟩ = some (.int .i64 s0) := hsb.cell 0
            have k1 : wr.cell? ⟨B, 1, none⟩ = some (.bool t0) := hsb.cell 1
            have k2 : wr.cell? ⟨B, 2, none⟩ = some (.int .i64 s1) := hsb.cell 2
            have k3 : wr.cell? ⟨B, 3, none⟩ = some (.bool t1) := hsb.cell 3
            have k4 : wr.cell? ⟨B, 4, none⟩ = some (.int .i64 s2) := hsb.cell 4
            have k5 : wr.cell? ⟨B, 5, none⟩ = some (.bool t2) := hsb.cell 5
            have k6 : wr.cell? ⟨B, 6, none⟩ = some (.int .i64 s3) := hsb.cell 6
            have k7 : wr.cell? ⟨B, 7, none⟩ = some (.bool t3) := hsb.cell 7
            have k8 : wr.cell? ⟨B, 8, none⟩ = some (.int .i64 3) := hsb.cell 8
            have k9 : wr.cell? ⟨B, 9, none⟩ = some (.int .u64 tu) := hsb.cell 9
            have g0 := hsb.frozen 0
            have g1 := hsb.frozen 1
            have g2 := hsb.frozen 2
            have g3 := hsb.frozen 3
            have g4 := hsb.frozen 4
            have g5 := hsb.frozen 5
            have g6 := hsb.frozen 6
            have g7 := hsb.frozen 7
            have g8 := hsb.frozen 8
            have g9 := hsb.frozen 9
            have z0 : wr.cell? ⟨B + 1, 0, none⟩ = some (.int .i64 0) := hzb.cell 0
            have z1 : wr.cell? ⟨B + 1, 1, none⟩ = some (.bool false) := hzb.cell 1
            have z2 : wr.cell? ⟨B + 1, 2, none⟩ = some (.int .i64 0) := hzb.cell 2
            have z3 : wr.cell? ⟨B + 1, 3, none⟩ = some (.bool false) := hzb.cell 3
            have z4 : wr.cell? ⟨B + 1, 4, none⟩ = some (.int .i64 0) := hzb.cell 4
            have z5 : wr.cell? ⟨B + 1, 5, none⟩ = some (.bool false) := hzb.cell 5
            have z6 : wr.cell? ⟨B + 1, 6, none⟩ = some (.int .i64 0) := hzb.cell 6
            have z7 : wr.cell? ⟨B + 1, 7, none⟩ = some (.bool false) := hzb.cell 7
            have z8 : wr.cell? ⟨B + 1, 8, none⟩ = some (.int .i64 0) := hzb.cell 8
            have z9 : wr.cell? ⟨B + 1, 9, none⟩ = some (.int .u64 0) := hzb.cell 9
            have f0 := hzb.frozen 0
            have f1 := hzb.frozen 1
            have f2 := hzb.frozen 2
            have f3 := hzb.frozen 3
            have f4 := hzb.frozen 4
            have f5 := hzb.frozen 5
            have f6 := hzb.frozen 6
            have f7 := hzb.frozen 7
            have f8 := hzb.frozen 8
            have f9 := hzb.frozen 9
            have hz1 := hsb.lt
            have hz2 := hzb.lt
            rcases (Bool.eq_false_or_eq_true t3).symm with rfl | rfl
            · have hE2 : Hid (R = (⟨s0, s1, s2, s3, t0, t1, t2, false, 0, tu⟩, 3)) := by rw [Hid, hE.out]; rfl
              have hne : B ≠ B + 1 := by omega
              clear hsb hzb hE hcnt hH
              go_wp2
              refine bodyPost_ret (v := .tuple #[.agg #[.int .i64 s0, .bool t0, .int .i64 s1, .bool t1, .int .i64 s2, .bool t2, .int .i64 s3, .bool false, .int .i64 0, .int .u64 tu], .int .i64 3]) (by simp [results, Try.results21, go_sem, z0, z1, z2, z3, z4, z5, z6, z7, z8, z9, hz1, hz2]) rfl ⟨by rw [hE2.out]; rfl, ?_⟩
              rw [HB.out]
              repeat (first | (with_reducible exact hbW) | (with_reducible refine Below.setCell ?_ (by simp <;> omega) _) | (with_reducible refine Below.alloc ?_ (by simp <;> omega) _) | (with_reducible refine Below.drew ?_))
            · have hE2 : Hid (R = turn f ⟨s0, s1, s2, s3, t0, t1, t2, false, 0, tu⟩) := by rw [Hid, hE.out]; rfl
              have hC2 : WS.cnt ⟨s0, s1, s2, s3, t0, t1, t2, false, 0, tu⟩ = gk - 1 ∧ 1 ≤ gk := by
                unfold WS.cnt at hcnt ⊢
                simp only [Bool.toNat_true, Bool.toNat_false] at hcnt ⊢
                omega
              have HS : Hid (SB ((wr.setCell ⟨B, 8, none⟩ (.int .i64 0)).setCell ⟨B, 7, none⟩ (.bool false)) B 31 ⟨s0, s1, s2, s3, t0, t1, t2, false, 0, tu⟩) := by simpa [SB, wcell, Hid] using Blk.set_ (Blk.set_ hsb 8 (.int .i64 0)) 7 (.bool false)
              have HZ : Hid (Blk ((wr.setCell ⟨B, 8, none⟩ (.int .i64 0)).setCell ⟨B, 7, none⟩ (.bool false)) (B + 1) 31 #[.int .i64 0, .bool false, .int .i64 0, .bool false, .int .i64 0, .bool false, .int .i64 0, .bool false, .int .i64 0, .int .u64 0]) := (hzb.far (p := ⟨B, 8, none⟩) (by simp) _).far (p := ⟨B, 7, none⟩) (by simp) _
              have HBW : Hid (Below B w ((wr.setCell ⟨B, 8, none⟩ (.int .i64 0)).setCell ⟨B, 7, none⟩ (.bool false))) := (hbW.setCell (p := ⟨B, 8, none⟩) (Nat.le_refl _) _).setCell (p := ⟨B, 7, none⟩) (Nat.le_refl _) _
              clear hsb hzb hE hcnt hH
              go_wp2
              go_roundg (gk - 1)
              case measure => omega
              case rel => exact ⟨f, s0, s1, s2, s3, t0, t1, t2, false, 0, tu, hC2.1, by omega, by omega, by go_num, hE2, (by decide : (0 : Int) ≤ 0 ∧ (0 : Int) < 4), HS.out, HZ.out, HBW.out⟩
      · have hN : WS.norm ⟨s0, s1, s2, s3, t0, t1, t2, t3, hd, tu⟩ = ⟨s0, s1, s2, s3, t0, t1, t2, t3, 0, tu⟩ := if_neg (by simp only []; omega)
        rw [hN] at hE0 hNC
        clear hN
        have hd0 : hd < 0 := hh
        have hd1 : True := trivial
        have hT := trivial
        have hH : Hid ((0 : Int) ≤ 0 ∧ (0 : Int) < 4) := (by decide : (0 : Int) ≤ 0 ∧ (0 : Int) < 4)
        have k0 : wr.cell? ⟨B, 0, none⟩ = some (.int .i64 s0) := hsb.cell 0
        have k1 : wr.cell? ⟨B, 1, none⟩ = some (.bool t0) := hsb.cell 1
        have k2 : wr.cell? ⟨B, 2, none⟩ = some (.int .i64 s1) := hsb.cell 2
        have k3 : wr.cell? ⟨B, 3, none⟩ = some (.bool t1) := hsb.cell 3
        have k4 : wr.cell? ⟨B, 4, none⟩ = some (.int .i64 s2) := hsb.cell 4
        have k5 : wr.cell? ⟨B, 5, none⟩ = some (.bool t2) := hsb.cell 5
        have k6 : wr.cell? ⟨B, 6, none⟩ = some (.int .i64 s3) := hsb.cell 6
        have k7 : wr.cell? ⟨B, 7, none⟩ = some (.bool t3) := hsb.cell 7
        have k8 : wr.cell? ⟨B, 8, none⟩ = some (.int .i64 hd) := hsb.cell 8
        have k9 : wr.cell? ⟨B, 9, none⟩ = some (.int .u64 tu) := hsb.cell 9
        have g0 := hsb.frozen 0
        have g1 := hsb.frozen 1
        have g2 := hsb.frozen 2
        have g3 := hsb.frozen 3
        have g4 := hsb.frozen 4
        have g5 := hsb.frozen 5
        have g6 := hsb.frozen 6
        have g7 := hsb.frozen 7
        have g8 := hsb.frozen 8
        have g9 := hsb.frozen 9
        have z0 : wr.cell? ⟨B + 1, 0, none⟩ = some (.int .i64 0) := hzb.cell 0
        have z1 : wr.cell? ⟨B + 1, 1, none⟩ = some (.bool false) := hzb.cell 1
        have z2 : wr.cell? ⟨B + 1, 2, none⟩ = some (.int .i64 0) := hzb.cell 2
        have z3 : wr.cell? ⟨B + 1, 3, none⟩ = some (.bool false) := hzb.cell 3
        have z4 : wr.cell? ⟨B + 1, 4, none⟩ = some (.int .i64 0) := hzb.cell 4
        have z5 : wr.cell? ⟨B + 1, 5, none⟩ = some (.bool false) := hzb.cell 5
        have z6 : wr.cell? ⟨B + 1, 6, none⟩ = some (.int .i64 0) := hzb.cell 6
        have z7 : wr.cell? ⟨B + 1, 7, none⟩ = some (.bool false) := hzb.cell 7
        have z8 : wr.cell? ⟨B + 1, 8, none⟩ = some (.int .i64 0) := hzb.cell 8
        have z9 : wr.cell? ⟨B + 1, 9, none⟩ = some (.int .u64 0) := hzb.cell 9
        have f0 := hzb.frozen 0
        have f1 := hzb.frozen 1
        have f2 := hzb.frozen 2
        have f3 := hzb.frozen 3
        have f4 := hzb.frozen 4
        have f5 := hzb.frozen 5
        have f6 := hzb.frozen 6
        have f7 := hzb.frozen 7
        have f8 := hzb.frozen 8
        have f9 := hzb.frozen 9
        have hz1 := hsb.lt
        have hz2 := hzb.lt
        have HS : Hid (SB wr B 31 ⟨s0, s1, s2, s3, t0, t1, t2, t3, hd, tu⟩) := hsb
        have HZ := Lib.hid hzb
        clear hsb hzb hh 
        go_wp2_with fail
        clear k0 g0 z0 f0 k1 g1 z1 f1 k2 g2 z2 f2 k3 g3 z3 f3 k4 g4 z4 f4 k5 g5 z5 f5 k6 g6 z6 f6 k7 g7 z7 f7 k8 g8 z8 f8 k9 g9 z9 f9 hz1 hz2 hd0 hd1 hT
        go_loopg [5] (WS.cnt ⟨s0, s1, s2, s3, t0, t1, t2, t3, 0, tu⟩) (fun gk kk wr => ∃ (f : Nat) (s0 s1 s2 s3 : Int) (t0 t1 t2 t3 : Bool) (hd tu : Int), WS.cnt ⟨s0, s1, s2, s3, t0, t1, t2, t3, hd, tu⟩ = gk ∧ gk < f ∧ f ≤ 8 ∧ kk = .int .i64 (8 - (f : Int)) ∧ Hid (R = turn f ⟨s0, s1, s2, s3, t0, t1, t2, t3, hd, tu⟩) ∧ Hid (0 ≤ hd ∧ hd < 4) ∧ SB wr B 31 ⟨s0, s1, s2, s3, t0, t1, t2, t3, hd, tu⟩ ∧ Blk wr (B + 1) 31 #[.int .i64 0, .bool false, .int .i64 0, .bool false, .int .i64 0, .bool false, .int .i64 0, .bool false, .int .i64 0, .int .u64 0] ∧ Below B w wr)
        case atStart => exact ⟨8, s0, s1, s2, s3, t0, t1, t2, t3, 0, tu, rfl, by omega, by omega, rfl, hE0, hH, by simpa [SB, wcell] using Blk.set_ HS.out 8 (.int .i64 0), HZ.out.far (p := ⟨B, 8, none⟩) (by simp) _, hbW.setCell (Nat.le_refl _) _⟩
        case round =>
          clear HS HZ hbW hE0 hH hNC
          obtain ⟨f, s0, s1, s2, s3, t0, t1, t2, t3, hd, tu, hcnt, hf, hf8, rfl, hE, hH, hsb, hzb, hbW⟩ := hrel
          have hBs : B ≤ wr.heap.size := by have := hzb.lt; omega
          obtain ⟨f, rfl⟩ : ∃ f', f = f' + 1 := ⟨f - 1, by omega⟩
          have hf1 : (8 : Int) - ((f + 1 : Nat) : Int) < 8 := by omega
          rcases (by have := hH.out; omega : hd = 0 ∨ hd = 1 ∨ hd = 2 ∨ hd = 3) with rfl | rfl | rfl | rfl
          · have k0 : wr.cell? ⟨B, 0, none⟩ = some (.int .i64 s0) := hsb.cell 0
            have k1 : wr.cell? ⟨B, 1, none⟩ = some (.bool t0) := hsb.cell 1
            have k2 : wr.cell? ⟨B, 2, none⟩ = some (.int .i64 s1) := hsb.cell 2
            have k3 : wr.cell? ⟨B, 3, none⟩ = some (.bool t1) := hsb.cell 3
            have k4 : wr.cell? ⟨B, 4, none⟩ = some (.int .i64 s2) := hsb.cell 4
            have k5 : wr.cell? ⟨B, 5, none⟩ = some (.bool t2) := hsb.cell 5
            have k6 : wr.cell? ⟨B, 6, none⟩ = some (.int .i64 s3) := hsb.cell 6
            have k7 : wr.cell? ⟨B, 7, none⟩ = some (.bool t3) := hsb.cell 7
            have k8 : wr.cell? ⟨B, 8, none⟩ = some (.int .i64 0) := hsb.cell 8
            have k9 : wr.cell? ⟨B, 9, none⟩ = some (.int .u64 tu) := hsb.cell 9
            have g0 := hsb.frozen 0
            have g1 := hsb.frozen 1
            have g2 := hsb.frozen 2
            have g3 := hsb.frozen 3
            have g4 := hsb.frozen 4
            have g5 := hsb.frozen 5
            have g6 := hsb.frozen 6
            have g7 := hsb.frozen 7
            have g8 := hsb.frozen 8
            have g9 := hsb.frozen 9
            have z0 : wr.cell? ⟨B + 1, 0, none⟩ = some (.int .i64 0) := hzb.cell 0
            have z1 : wr.cell? ⟨B + 1, 1, none⟩ = some (.bool false) := hzb.cell 1
            have z2 : wr.cell? ⟨B + 1, 2, none⟩ = some (.int .i64 0) := hzb.cell 2
            have z3 : wr.cell? ⟨B + 1, 3, none⟩ = some (.bool false) := hzb.cell 3
            have z4 : wr.cell? ⟨B + 1, 4, none⟩ = some (.int .i64 0) := hzb.cell 4
            have z5 : wr.cell? ⟨B + 1, 5, none⟩ = some (.bool false) := hzb.cell 5
            have z6 : wr.cell? ⟨B + 1, 6, none⟩ = some (.int .i64 0) := hzb.cell 6
            have z7 : wr.cell? ⟨B + 1, 7, none⟩ = some (.bool false) := hzb.cell 7
            have z8 : wr.cell? ⟨B + 1, 8, none⟩ = some (.int .i64 0) := hzb.cell 8
            have z9 : wr.cell? ⟨B + 1, 9, none⟩ = some (.int .u64 0) := hzb.cell 9
            have f0 := hzb.frozen 0
            have f1 := hzb.frozen 1
            have f2 := hzb.frozen 2
            have f3 := hzb.frozen 3
            have f4 := hzb.frozen 4
            have f5 := hzb.frozen 5
            have f6 := hzb.frozen 6
            have f7 := hzb.frozen 7
            have f8 := hzb.frozen 8
            have f9 := hzb.frozen 9
            have hz1 := hsb.lt
            have hz2 := hzb.lt
            rcases (Bool.eq_false_or_eq_true t0).symm with rfl | rfl
            · have hE2 : Hid (R = (⟨s0, s1, s2, s3, false, t1, t2, t3, 1, tu⟩, 0)) := by rw [Hid, hE.out]; rfl
              have hne : B ≠ B + 1 := by omega
              clear hsb hzb hE hcnt hH
              go_wp2
              refine bodyPost_ret (v := .tuple #[.agg #[.int .i64 s0, .bool false, .int .i64 s1, .bool t1, .int .i64 s2, .bool t2, .int .i64 s3, .bool t3, .int .i64 1, .int .u64 tu], .int .i64 0]) (by simp [results, Try.results21, go_sem, z0, z1, z2, z3, z4, z5, z6, z7, z8, z9, hz1, hz2]) rfl ⟨by rw [hE2.out]; rfl, ?_⟩
              rw [HB.out]
              repeat (first | (with_reducible exact hbW) | (with_reducible refine Below.setCell ?_ (by simp <;> omega) _) | (with_reducible refine Below.alloc ?_ (by simp <;> omega) _) | (with_reducible refine Below.drew ?_))
            · have hE2 : Hid (R = turn f ⟨s0, s1, s2, s3, false, t1, t2, t3, 1, tu⟩) := by rw [Hid, hE.out]; rfl
              have hC2 : WS.cnt ⟨s0, s1, s2, s3, false, t1, t2, t3, 1, tu⟩ = gk - 1 ∧ 1 ≤ gk := by
                unfold WS.cnt at hcnt ⊢
                simp only [Bool.toNat_true, Bool.toNat_false] at hcnt ⊢
                omega
              have HS : Hid (SB ((wr.setCell ⟨B, 8, none⟩ (.int .i64 1)).setCell ⟨B, 1, none⟩ (.bool false)) B 31 ⟨s0, s1, s2, s3, false, t1, t2, t3, 1, tu⟩) := by simpa [SB, wcell, Hid] using Blk.set_ (Blk.set_ hsb 8 (.int .i64 1)) 1 (.bool false)
              have HZ : Hid (Blk ((wr.setCell ⟨B, 8, none⟩ (.int .i64 1)).setCell ⟨B, 1, none⟩ (.bool false)) (B + 1) 31 #[.int .i64 0, .bool false, .int .i64 0, .bool false, .int .i64 0, .bool false, .int .i64 0, .bool false, .int .i64 0, .int .u64 0]) := (hzb.far (p := ⟨B, 8, none⟩) (by simp) _).far (p := ⟨B, 1, none⟩) (by simp) _
              have HBW : Hid (Below B w ((wr.setCell ⟨B, 8, none⟩ (.int .i64 1)).setCell ⟨B, 1, none⟩ (.bool false))) := (hbW.setCell (p := ⟨B, 8, none⟩) (Nat.le_refl _) _).setCell (p := ⟨B, 1, none⟩) (Nat.le_refl _) _
              clear hsb hzb hE hcnt hH
              go_wp2
              go_roundg (gk - 1)
              case measure => omega
              case rel => exact ⟨f, s0, s1, s2, s3, false, t1, t2, t3, 1, tu, hC2.1, by omega, by omega, by go_num, hE2, (by decide : (0 : Int) ≤ 1 ∧ (1 : Int) < 4), HS.out, HZ.out, HBW.out⟩
          · have k0 : wr.cell? ⟨B, 0, none⟩ = some (.int .i64 s0) := hsb.cell 0
            have k1 : wr.cell? ⟨B, 1, none⟩ = some (.bool t0) := hsb.cell 1
            have k2 : wr.cell? ⟨B, 2, none⟩ = some (.int .i64 s1) := hsb.cell 2
            have k3 : wr.cell? ⟨B, 3, none⟩ = some (.bool t1) := hsb.cell 3
            have k4 : wr.cell? ⟨B, 4, none⟩ = some (.int .i64 s2) := hsb.cell 4
            have k5 : wr.cell? ⟨B, 5, none⟩ = some (.bool t2) := hsb.cell 5
            have k6 : wr.cell? ⟨B, 6, none⟩ = some (.int .i64 s3) := hsb.cell 6
            have k7 : wr.cell? ⟨B, 7, none⟩ = some (.bool t3) := hsb.cell 7
            have k8 : wr.cell? ⟨B, 8, none⟩ = some (.int .i64 1) := hsb.cell 8
            have k9 : wr.cell? ⟨B, 9, none⟩ = some (.int .u64 tu) := hsb.cell 9
            have g0 := hsb.frozen 0
            have g1 := hsb.frozen 1
            have g2 := hsb.frozen 2
            have g3 := hsb.frozen 3
            have g4 := hsb.frozen 4
            have g5 := hsb.frozen 5
            have g6 := hsb.frozen 6
            have g7 := hsb.frozen 7
            have g8 := hsb.frozen 8
            have g9 := hsb.frozen 9
            have z0 : wr.cell? ⟨B + 1, 0, none⟩ = some (.int .i64 0) := hzb.cell 0
            have z1 : wr.cell? ⟨B + 1, 1, none⟩ = some (.bool false) := hzb.cell 1
            have z2 : wr.cell? ⟨B + 1, 2, none⟩ = some (.int .i64 0) := hzb.cell 2
            have z3 : wr.cell? ⟨B + 1, 3, none⟩ = some (.bool false) := hzb.cell 3
            have z4 : wr.cell? ⟨B + 1, 4, none⟩ = some (.int .i64 0) := hzb.cell 4
            have z5 : wr.cell? ⟨B + 1, 5, none⟩ = some (.bool false) := hzb.cell 5
            have z6 : wr.cell? ⟨B + 1, 6, none⟩ = some (.int .i64 0) := hzb.cell 6
            have z7 : wr.cell? ⟨B + 1, 7, none⟩ = some (.bool false) := hzb.cell 7
            have z8 : wr.cell? ⟨B + 1, 8, none⟩ = some (.int .i64 0) := hzb.cell 8
            have z9 : wr.cell? ⟨B + 1, 9, none⟩ = some (.int .u64 0) := hzb.cell 9
            have f0 := hzb.frozen 0
            have f1 := hzb.frozen 1
            have f2 := hzb.frozen 2
            have f3 := hzb.frozen 3
            have f4 := hzb.frozen 4
            have f5 := hzb.frozen 5
            have f6 := hzb.frozen 6
            have f7 := hzb.frozen 7
            have f8 := hzb.frozen 8
            have f9 := hzb.frozen 9
            have hz1 := hsb.lt
            have hz2 := hzb.lt
            rcases (Bool.eq_false_or_eq_true t1).symm with rfl | rfl
            · have hE2 : Hid (R = (⟨s0, s1, s2, s3, t0, false, t2, t3, 2, tu⟩, 1)) := by rw [Hid, hE.out]; rfl
              have hne : B ≠ B + 1 := by omega
              clear hsb hzb hE hcnt hH
              go_wp2
              refine bodyPost_ret (v := .tuple #[.agg #[.int .i64 s0, .bool t0, .int .i64 s1, .bool false, .int .i64 s2, .bool t2, .int .i64 s3, .bool t3, .int .i64 2, .int .u64 tu], .int .i64 1]) (by simp [results, Try.results21, go_sem, z0, z1, z2, z3, z4, z5, z6, z7, z8, z9, hz1, hz2]) rfl ⟨by rw [hE2.out]; rfl, ?_⟩
              rw [HB.out]
              repeat (first | (with_reducible exact hbW) | (with_reducible refine Below.setCell ?_ (by simp <;> omega) _) | (with_reducible refine Below.alloc ?_ (by simp <;> omega) _) | (with_reducible refine Below.drew ?_))
            · have hE2 : Hid (R = turn f ⟨s0, s1, s2, s3, t0, false, t2, t3, 2, tu⟩) := by rw [Hid, hE.out]; rfl
              have hC2 : WS.cnt ⟨s0, s1, s2, s3, t0, false, t2, t3, 2, tu⟩ = gk - 1 ∧ 1 ≤ gk := by
                unfold WS.cnt at hcnt ⊢
                simp only [Bool.toNat_true, Bool.toNat_false] at hcnt ⊢
                omega
              have HS : Hid (SB ((wr.setCell ⟨B, 8, none⟩ (.int .i64 2)).setCell ⟨B, 3, none⟩ (.bool false)) B 31 ⟨s0, s1, s2, s3, t0, false, t2, t3, 2, tu⟩) := by simpa [SB, wcell, Hid] using Blk.set_ (Blk.set_ hsb 8 (.int .i64 2)) 3 (.bool false)
              have HZ : Hid (Blk ((wr.setCell ⟨B, 8, none⟩ (.int .i64 2)).setCell ⟨B, 3, none⟩ (.bool false)) (B + 1) 31 #[.int .i64 0, .bool false, .int .i64 0, .bool false, .int .i64 0, .bool false, .int .i64 0, .bool false, .int .i64 0, .int .u64 0]) := (hzb.far (p := ⟨B, 8, none⟩) (by simp) _).far (p := ⟨B, 3, none⟩) (by simp) _
              have HBW : Hid (Below B w ((wr.setCell ⟨B, 8, none⟩ (.int .i64 2)).setCell ⟨B, 3, none⟩ (.bool false))) := (hbW.setCell (p := ⟨B, 8, none⟩) (Nat.le_refl _) _).setCell (p := ⟨B, 3, none⟩) (Nat.le_refl _) _
              clear hsb hzb hE hcnt hH
              go_wp2
              go_roundg (gk - 1)
              case measure => omega
              case rel => exact ⟨f, s0, s1, s2, s3, t0, false, t2, t3, 2, tu, hC2.1, by omega, by omega, by go_num, hE2, (by decide : (0 : Int) ≤ 2 ∧ (2 : Int) < 4), HS.out, HZ.out, HBW.out⟩
          · have k0 : wr.cell? ⟨B, 0, none⟩ = some (.int .i64 s0) := hsb.cell 0
            have k1 : wr.cell? ⟨B, 1, none⟩ = some (.bool t0) := hsb.cell 1
            have k2 : wr.cell? ⟨B, 2, none⟩ = some (.int .i64 s1) := hsb.cell 2
            have k3 : wr.cell? ⟨B, 3, none⟩ = some (.bool t1) := hsb.cell 3
            have k4 : wr.cell? ⟨B, 4, none⟩ = some (.int .i64 s2) := hsb.cell 4
            have k5 : wr.cell? ⟨B, 5, none⟩ = some (.bool t2) := hsb.cell 5
            have k6 : wr.cell? ⟨B, 6, none⟩ = some (.int .i64 s3) := hsb.cell 6
            have k7 : wr.cell? ⟨B, 7, none⟩ = some (.bool t3) := hsb.cell 7
            have k8 : wr.cell? ⟨B, 8, none⟩ = some (.int .i64 2) := hsb.cell 8
            have k9 : wr.cell? ⟨B, 9, none⟩ = some (.int .u64 tu) := hsb.cell 9
            have g0 := hsb.frozen 0
            have g1 := hsb.frozen 1
            have g2 := hsb.frozen 2
            have g3 := hsb.frozen 3
            have g4 := hsb.frozen 4
            have g5 := hsb.frozen 5
            have g6 := hsb.frozen 6
            have g7 := hsb.frozen 7
            have g8 := hsb.frozen 8
            have g9 := hsb.frozen 9
            have z0 : wr.cell? ⟨B + 1, 0, none⟩ = some (.int .i64 0) := hzb.cell 0
            have z1 : wr.cell? ⟨B + 1, 1, none⟩ = some (.bool false) := hzb.cell 1
            have z2 : wr.cell? ⟨B + 1, 2, none⟩ = some (.int .i64 0) := hzb.cell 2
            have z3 : wr.cell? ⟨B + 1, 3, none⟩ = some (.bool false) := hzb.cell 3
            have z4 : wr.cell? ⟨B + 1, 4, none⟩ = some (.int .i64 0) := hzb.cell 4
            have z5 : wr.cell? ⟨B + 1, 5, none⟩ = some (.bool false) := hzb.cell 5
            have z6 : wr.cell? ⟨B + 1, 6, none⟩ = some (.int .i64 0) := hzb.cell 6
            have z7 : wr.cell? ⟨B + 1, 7, none⟩ = some (.bool false) := hzb.cell 7
            have z8 : wr.cell? ⟨B + 1, 8, none⟩ = some (.int .i64 0) := hzb.cell 8
            have z9 : wr.cell? ⟨B + 1, 9, none⟩ = some (.int .u64 0) := hzb.cell 9
            have f0 := hzb.frozen 0
            have f1 := hzb.frozen 1
            have f2 := hzb.frozen 2
            have f3 := hzb.frozen 3
            have f4 := hzb.frozen 4
            have f5 := hzb.frozen 5
            have f6 := hzb.frozen 6
            have f7 := hzb.frozen 7
            have f8 := hzb.frozen 8
            have f9 := hzb.frozen 9
            have hz1 := hsb.lt
            have hz2 := hzb.lt
            rcases (Bool.eq_false_or_eq_true t2).symm with rfl | rfl
            · have hE2 : Hid (R = (⟨s0, s1, s2, s3, t0, t1, false, t3, 3, tu⟩, 2)) := by rw [Hid, hE.out]; rfl
              have hne : B ≠ B + 1 := by omega
              clear hsb hzb hE hcnt hH
              go_wp2
              refine bodyPost_ret (v := .tuple #[.agg #[.int .i64 s0, .bool t0, .int .i64 s1, .bool t1, .int .i64 s2, .bool false, .int .i64 s3, .bool t3, .int .i64 3, .int .u64 tu], .int .i64 2]) (by simp [results, Try.results21, go_sem, z0, z1, z2, z3, z4, z5, z6, z7, z8, z9, hz1, hz2]) rfl ⟨by rw [hE2.out]; rfl, ?_⟩
              rw [HB.out]
              repeat (first | (with_reducible exact hbW) | (with_reducible refine Below.setCell ?_ (by simp <;> omega) _) | (with_reducible refine Below.alloc ?_ (by simp <;> omega) _) | (with_reducible refine Below.drew ?_))
            · have hE2 : Hid (R = turn f ⟨s0, s1, s2, s3, t0, t1, false, t3, 3, tu⟩) := by rw [Hid, hE.out]; rfl
              have hC2 : WS.cnt ⟨s0, s1, s2, s3, t0, t1, false, t3, 3, tu⟩ = gk - 1 ∧ 1 ≤ gk := by
                unfold WS.cnt at hcnt ⊢
                simp only [Bool.toNat_true, Bool.toNat_false] at hcnt ⊢
                omega
              have HS : Hid (SB ((wr.setCell ⟨B, 8, none⟩ (.int .i64 3)).setCell ⟨B, 5, none⟩ (.bool false)) B 31 ⟨s0, s1, s2, s3, t0, t1, false, t3, 3, tu⟩) := by simpa [SB, wcell, Hid] using Blk.set_ (Blk.set_ hsb 8 (.int .i64 3)) 5 (.bool false)
              have HZ : Hid (Blk ((wr.setCell ⟨B, 8, none⟩ (.int .i64 3)).setCell ⟨B, 5, none⟩ (.bool false)) (B + 1) 31 #[.int .i64 0, .bool false, .int .i64 0, .bool false, .int .i64 0, .bool false, .int .i64 0, .bool false, .int .i64 0, .int .u64 0]) := (hzb.far (p := ⟨B, 8, none⟩) (by simp) _).far (p := ⟨B, 5, none⟩) (by simp) _
              have HBW : Hid (Below B w ((wr.setCell ⟨B, 8, none⟩ (.int .i64 3)).setCell ⟨B, 5, none⟩ (.bool false))) := (hbW.setCell (p := ⟨B, 8, none⟩) (Nat.le_refl _) _).setCell (p := ⟨B, 5, none⟩) (Nat.le_refl _) _
              clear hsb hzb hE hcnt hH
              go_wp2
              go_roundg (gk - 1)
              case measure => omega
              case rel => exact ⟨f, s0, s1, s2, s3, t0, t1, false, t3, 3, tu, hC2.1, by omega, by omega, by go_num, hE2, (by decide : (0 : Int) ≤ 3 ∧ (3 : Int) < 4), HS.out, HZ.out, HBW.out⟩
          · have k0 : wr.cell? ⟨B, 0, none⟩ = some (.int .i64 s0) := hsb.cell 0
            have k1 : wr.cell? ⟨B, 1, none⟩ = some (.bool t0) := hsb.cell 1
            have k2 : wr.cell? ⟨B, 2, none⟩ = some (.int .i64 s1) := hsb.cell 2
            have k3 : wr.cell? ⟨B, 3, none⟩ = some (.bool t1) := hsb.cell 3
            have k4 : wr.cell? ⟨B, 4, none⟩ = some (.int .i64 s2) := hsb.cell 4
            have k5 : wr.cell? ⟨B, 5, none⟩ = some (.bool t2) := hsb.cell 5
            have k6 : wr.cell? ⟨B, 6, none⟩ = some (.int .i64 s3) := hsb.cell 6
            have k7 : wr.cell? ⟨B, 7, none⟩ = some (.bool t3) := hsb.cell 7
            have k8 : wr.cell? ⟨B, 8, none⟩ = some (.int .i64 3) := hsb.cell 8
            have k9 : wr.cell? ⟨B, 9, none⟩ = some (.int .u64 tu) := hsb.cell 9
            have g0 := hsb.frozen 0
            have g1 := hsb.frozen 1
            have g2 := hsb.frozen 2
            have g3 := hsb.frozen 3
            have g4 := hsb.frozen 4
            have g5 := hsb.frozen 5
            have g6 := hsb.frozen 6
            have g7 := hsb.frozen 7
            have g8 := hsb.frozen 8
            have g9 := hsb.frozen 9
            have z0 : wr.cell? ⟨B + 1, 0, none⟩ = some (.int .i64 0) := hzb.cell 0
            have z1 : wr.cell? ⟨B + 1, 1, none⟩ = some (.bool false) := hzb.cell 1
            have z2 : wr.cell? ⟨B + 1, 2, none⟩ = some (.int .i64 0) := hzb.cell 2
            have z3 : wr.cell? ⟨B + 1, 3, none⟩ = some (.bool false) := hzb.cell 3
            have z4 : wr.cell? ⟨B + 1, 4, none⟩ = some (.int .i64 0) := hzb.cell 4
            have z5 : wr.cell? ⟨B + 1, 5, none⟩ = some (.bool false) := hzb.cell 5
            have z6 : wr.cell? ⟨B + 1, 6, none⟩ = some (.int .i64 0) := hzb.cell 6
            have z7 : wr.cell? ⟨B + 1, 7, none⟩ = some (.bool false) := hzb.cell 7
            have z8 : wr.cell? ⟨B + 1, 8, none⟩ = some (.int .i64 0) := hzb.cell 8
            have z9 : wr.cell? ⟨B + 1, 9, none⟩ = some (.int .u64 0) := hzb.cell 9
            have f0 := hzb.frozen 0
            have f1 := hzb.frozen 1
            have f2 := hzb.frozen 2
            have f3 := hzb.frozen 3
            have f4 := hzb.frozen 4
            have f5 := hzb.frozen 5
            have f6 := hzb.frozen 6
            have f7 := hzb.frozen 7
            have f8 := hzb.frozen 8
            have f9 := hzb.frozen 9
            have hz1 := hsb.lt
            have hz2 := hzb.lt
            rcases (Bool.eq_false_or_eq_true t3).symm with rfl | rfl
            · have hE2 : Hid (R = (⟨s0, s1, s2, s3, t0, t1, t2, false, 0, tu⟩, 3)) := by rw [Hid, hE.out]; rfl
              have hne : B ≠ B + 1 := by omega
              clear hsb hzb hE hcnt hH
              go_wp2
              refine bodyPost_ret (v := .tuple #[.agg #[.int .i64 s0, .bool t0, .int .i64 s1, .bool t1, .int .i64 s2, .bool t2, .int .i64 s3, .bool false, .int .i64 0, .int .u64 tu], .int .i64 3]) (by simp [results, Try.results21, go_sem, z0, z1, z2, z3, z4, z5, z6, z7, z8, z9, hz1, hz2]) rfl ⟨by rw [hE2.out]; rfl, ?_⟩
              rw [HB.out]
              repeat (first | (with_reducible exact hbW) | (with_reducible refine Below.setCell ?_ (by simp <;> omega) _) | (with_reducible refine Below.alloc ?_ (by simp <;> omega) _) | (with_reducible refine Below.drew ?_))
            · have hE2 : Hid (R = turn f ⟨s0, s1, s2, s3, t0, t1, t2, false, 0, tu⟩) := by rw [Hid, hE.out]; rfl
              have hC2 : WS.cnt ⟨s0, s1, s2, s3, t0, t1, t2, false, 0, tu⟩ = gk - 1 ∧ 1 ≤ gk := by
                unfold WS.cnt at hcnt ⊢
                simp only [Bool.toNat_true, Bool.toNat_false] at hcnt ⊢
                omega
              have HS : Hid (SB ((wr.setCell ⟨B, 8, none⟩ (.int .i64 0)).setCell ⟨B, 7, none⟩ (.bool false)) B 31 ⟨s0, s1, s2, s3, t0, t1, t2, false, 0, tu⟩) := by simpa [SB, wcell, Hid] using Blk.set_ (Blk.set_ hsb 8 (.int .i64 0)) 7 (.bool false)
              have HZ : Hid (Blk ((wr.setCell ⟨B, 8, none⟩ (.int .i64 0)).setCell ⟨B, 7, none⟩ (.bool false)) (B + 1) 31 #[.int .i64 0, .bool false, .int .i64 0, .bool false, .int .i64 0, .bool false, .int .i64 0, .bool false, .int .i64 0, .int .u64 0]) := (hzb.far (p := ⟨B, 8, none⟩) (by simp) _).far (p := ⟨B, 7, none⟩) (by simp) _
              have HBW : Hid (Below B w ((wr.setCell ⟨B, 8, none⟩ (.int .i64 0)).setCell ⟨B, 7, none⟩ (.bool false))) := (hbW.setCell (p := ⟨B, 8, none⟩) (Nat.le_refl _) _).setCell (p := ⟨B, 7, none⟩) (Nat.le_refl _) _
              clear hsb hzb hE hcnt hH
              go_wp2
              go_roundg (gk - 1)
              case measure => omega
              case rel => exact ⟨f, s0, s1, s2, s3, t0, t1, t2, false, 0, tu, hC2.1, by omega, by omega, by go_num, hE2, (by decide : (0 : Int) ≤ 0 ∧ (0 : Int) < 4), HS.out, HZ.out, HBW.out⟩
      · have hN : WS.norm ⟨s0, s1, s2, s3, t0, t1, t2, t3, hd, tu⟩ = ⟨s0, s1, s2, s3, t0, t1, t2, t3, 0, tu⟩ := if_neg (by simp only []; omega)
        rw [hN] at hE0 hNC
        clear hN
        have hd0 : decide (hd < 0) = false := decide_eq_false (by omega)
        have hd1 : (3 : Int) < hd := by omega
        have hT := trivial
        have hH : Hid ((0 : Int) ≤ 0 ∧ (0 : Int) < 4) := (by decide : (0 : Int) ≤ 0 ∧ (0 : Int) < 4)
        have k0 : wr.cell? ⟨B, 0, none⟩ = some (.int .i64 s0) := hsb.cell 0
        have k1 : wr.cell? ⟨B, 1, none⟩ = some (.bool t0) := hsb.cell 1
        have k2 : wr.cell? ⟨B, 2, none⟩ = some (.int .i64 s1) := hsb.cell 2
        have k3 : wr.cell? ⟨B, 3, none⟩ = some (.bool t1) := hsb.cell 3
        have k4 : wr.cell? ⟨B, 4, none⟩ = some (.int .i64 s2) := hsb.cell 4
        have k5 : wr.cell? ⟨B, 5, none⟩ = some (.bool t2) := hsb.cell 5
        have k6 : wr.cell? ⟨B, 6, none⟩ = some (.int .i64 s3) := hsb.cell 6
        have k7 : wr.cell? ⟨B, 7, none⟩ = some (.bool t3) := hsb.cell 7
        have k8 : wr.cell? ⟨B, 8, none⟩ = some (.int .i64 hd) := hsb.cell 8
        have k9 : wr.cell? ⟨B, 9, none⟩ = some (.int .u64 tu) := hsb.cell 9
        have g0 := hsb.frozen 0
        have g1 := hsb.frozen 1
        have g2 := hsb.frozen 2
        have g3 := hsb.frozen 3
        have g4 := hsb.frozen 4
        have g5 := hsb.frozen 5
        have g6 := hsb.frozen 6
        have g7 := hsb.frozen 7
        have g8 := hsb.frozen 8
        have g9 := hsb.frozen 9
        have z0 : wr.cell? ⟨B + 1, 0, none⟩ = some (.int .i64 0) := hzb.cell 0
        have z1 : wr.cell? ⟨B + 1, 1, none⟩ = some (.bool false) := hzb.cell 1
        have z2 : wr.cell? ⟨B + 1, 2, none⟩ = some (.int .i64 0) := hzb.cell 2
        have z3 : wr.cell? ⟨B + 1, 3, none⟩ = some (.bool false) := hzb.cell 3
        have z4 : wr.cell? ⟨B + 1, 4, none⟩ = some (.int .i64 0) := hzb.cell 4
        have z5 : wr.cell? ⟨B + 1, 5, none⟩ = some (.bool false) := hzb.cell 5
        have z6 : wr.cell? ⟨B + 1, 6, none⟩ = some (.int .i64 0) := hzb.cell 6
        have z7 : wr.cell? ⟨B + 1, 7, none⟩ = some (.bool false) := hzb.cell 7
        have z8 : wr.cell? ⟨B + 1, 8, none⟩ = some (.int .i64 0) := hzb.cell 8
        have z9 : wr.cell? ⟨B + 1, 9, none⟩ = some (.int .u64 0) := hzb.cell 9
        have f0 := hzb.frozen 0
        have f1 := hzb.frozen 1
        have f2 := hzb.frozen 2
        have f3 := hzb.frozen 3
        have f4 := hzb.frozen 4
        have f5 := hzb.frozen 5
        have f6 := hzb.frozen 6
        have f7 := hzb.frozen 7
        have f8 := hzb.frozen 8
        have f9 := hzb.frozen 9
        have hz1 := hsb.lt
        have hz2 := hzb.lt
        have HS : Hid (SB wr B 31 ⟨s0, s1, s2, s3, t0, t1, t2, t3, hd, tu⟩) := hsb
        have HZ := Lib.hid hzb
        clear hsb hzb hh 
        go_wp2_with fail
        clear k0 g0 z0 f0 k1 g1 z1 f1 k2 g2 z2 f2 k3 g3 z3 f3 k4 g4 z4 f4 k5 g5 z5 f5 k6 g6 z6 f6 k7 g7 z7 f7 k8 g8 z8 f8 k9 g9 z9 f9 hz1 hz2 hd0 hd1 hT
        go_loopg [5] (WS.cnt ⟨s0, s1, s2, s3, t0, t1, t2, t3, 0, tu⟩) (fun gk kk wr => ∃ (f : Nat) (s0 s1 s2 s3 : Int) (t0 t1 t2 t3 : Bool) (hd tu : Int), WS.cnt ⟨s0, s1, s2, s3, t0, t1, t2, t3, hd, tu⟩ = gk ∧ gk < f ∧ f ≤ 8 ∧ kk = .int .i64 (8 - (f : Int)) ∧ Hid (R = turn f ⟨s0, s1, s2, s3, t0, t1, t2, t3, hd, tu⟩) ∧ Hid (0 ≤ hd ∧ hd < 4) ∧ SB wr B 31 ⟨s0, s1, s2, s3, t0, t1, t2, t3, hd, tu⟩ ∧ Blk wr (B + 1) 31 #[.int .i64 0, .bool false, .int .i64 0, .bool false, .int .i64 0, .bool false, .int .i64 0, .bool false, .int .i64 0, .int .u64 0] ∧ Below B w wr)
        case atStart => exact ⟨8, s0, s1, s2, s3, t0, t1, t2, t3, 0, tu, rfl, by omega, by omega, rfl, hE0, hH, by simpa [SB, wcell] using Blk.set_ HS.out 8 (.int .i64 0), HZ.out.far (p := ⟨B, 8, none⟩) (by simp) _, hbW.setCell (Nat.le_refl _) _⟩
        case round =>
          clear HS HZ hbW hE0 hH hNC
          obtain ⟨f, s0, s1, s2, s3, t0, t1, t2, t3, hd, tu, hcnt, hf, hf8, rfl, hE, hH, hsb, hzb, hbW⟩ := hrel
          have hBs : B ≤ wr.heap.size := by have := hzb.lt; omega
          obtain ⟨f, rfl⟩ : ∃ f', f = f' + 1 := ⟨f - 1, by omega⟩
          have hf1 : (8 : Int) - ((f + 1 : Nat) : Int) < 8 := by omega
          rcases (by have := hH.out; omega : hd = 0 ∨ hd = 1 ∨ hd = 2 ∨ hd = 3) with rfl | rfl | rfl | rfl
          · have k0 : wr.cell? ⟨B, 0, none⟩ = some (.int .i64 s0) := hsb.cell 0
            have k1 : wr.cell? ⟨B, 1, none⟩ = some (.bool t0) := hsb.cell 1
            have k2 : wr.cell? ⟨B, 2, none⟩ = some (.int .i64 s1) := hsb.cell 2
            have k3 : wr.cell? ⟨B, 3, none⟩ = some (.bool t1) := hsb.cell 3
            have k4 : wr.cell? ⟨B, 4, none⟩ = some (.int .i64 s2) := hsb.cell 4
            have k5 : wr.cell? ⟨B, 5, none⟩ = some (.bool t2) := hsb.cell 5
            have k6 : wr.cell? ⟨B, 6, none⟩ = some (.int .i64 s3) := hsb.cell 6
            have k7 : wr.cell? ⟨B, 7, none⟩ = some (.bool t3) := hsb.cell 7
            have k8 : wr.cell? ⟨B, 8, none⟩ = some (.int .i64 0) := hsb.cell 8
            have k9 : wr.cell? ⟨B, 9, none⟩ = some (.int .u64 tu) := hsb.cell 9
            have g0 := hsb.frozen 0
            have g1 := hsb.frozen 1
            have g2 := hsb.frozen 2
            have g3 := hsb.frozen 3
            have g4 := hsb.frozen 4
            have g5 := hsb.frozen 5
            have g6 := hsb.frozen 6
            have g7 := hsb.frozen 7
            have g8 := hsb.frozen 8
            have g9 := hsb.frozen 9
            have z0 : wr.cell? ⟨B + 1, 0, none⟩ = some (.int .i64 0) := hzb.cell 0
            have z1 : wr.cell? ⟨B + 1, 1, none⟩ = some (.bool false) := hzb.cell 1
            have z2 : wr.cell? ⟨B + 1, 2, none⟩ = some (.int .i64 0) := hzb.cell 2
            have z3 : wr.cell? ⟨B + 1, 3, none⟩ = some (.bool false) := hzb.cell 3
            have z4 : wr.cell? ⟨B + 1, 4, none⟩ = some (.int .i64 0) := hzb.cell 4
            have z5 : wr.cell? ⟨B + 1, 5, none⟩ = some (.bool false) := hzb.cell 5
            have z6 : wr.cell? ⟨B + 1, 6, none⟩ = some (.int .i64 0) := hzb.cell 6
            have z7 : wr.cell? ⟨B + 1, 7, none⟩ = some (.bool false) := hzb.cell 7
            have z8 : wr.cell? ⟨B + 1, 8, none⟩ = some (.int .i64 0) := hzb.cell 8
            have z9 : wr.cell? ⟨B + 1, 9, none⟩ = some (.int .u64 0) := hzb.cell 9
            have f0 := hzb.frozen 0
            have f1 := hzb.frozen 1
            have f2 := hzb.frozen 2
            have f3 := hzb.frozen 3
            have f4 := hzb.frozen 4
            have f5 := hzb.frozen 5
            have f6 := hzb.frozen 6
            have f7 := hzb.frozen 7
            have f8 := hzb.frozen 8
            have f9 := hzb.frozen 9
            have hz1 := hsb.lt
            have hz2 := hzb.lt
            rcases (Bool.eq_false_or_eq_true t0).symm with rfl | rfl
            · have hE2 : Hid (R = (⟨s0, s1, s2, s3, false, t1, t2, t3, 1, tu⟩, 0)) := by rw [Hid, hE.out]; rfl
              have hne : B ≠ B + 1 := by omega
              clear hsb hzb hE hcnt hH
              go_wp2
              refine bodyPost_ret (v := .tuple #[.agg #[.int .i64 s0, .bool false, .int .i64 s1, .bool t1, .int .i64 s2, .bool t2, .int .i64 s3, .bool t3, .int .i64 1, .int .u64 tu], .int .i64 0]) (by simp [results, Try.results21, go_sem, z0, z1, z2, z3, z4, z5, z6, z7, z8, z9, hz1, hz2]) rfl ⟨by rw [hE2.out]; rfl, ?_⟩
              rw [HB.out]
              repeat (first | (with_reducible exact hbW) | (with_reducible refine Below.setCell ?_ (by simp <;> omega) _) | (with_reducible refine Below.alloc ?_ (by simp <;> omega) _) | (with_reducible refine Below.drew ?_))
            · have hE2 : Hid (R = turn f ⟨s0, s1, s2, s3, false, t1, t2, t3, 1, tu⟩) := by rw [Hid, hE.out]; rfl
              have hC2 : WS.cnt ⟨s0, s1, s2, s3, false, t1, t2, t3, 1, tu⟩ = gk - 1 ∧ 1 ≤ gk := by
                unfold WS.cnt at hcnt ⊢
                simp only [Bool.toNat_true, Bool.toNat_false] at hcnt ⊢
                omega
              have HS : Hid (SB ((wr.setCell ⟨B, 8, none⟩ (.int .i64 1)).setCell ⟨B, 1, none⟩ (.bool false)) B 31 ⟨s0, s1, s2, s3, false, t1, t2, t3, 1, tu⟩) := by simpa [SB, wcell, Hid] using Blk.set_ (Blk.set_ hsb 8 (.int .i64 1)) 1 (.bool false)
              have HZ : Hid (Blk ((wr.setCell ⟨B, 8, none⟩ (.int .i64 1)).setCell ⟨B, 1, none⟩ (.bool false)) (B + 1) 31 #[.int .i64 0, .bool false, .int .i64 0, .bool false, .int .i64 0, .bool false, .int .i64 0, .bool false, .int .i64 0, .int .u64 0]) := (hzb.far (p := ⟨B, 8, none⟩) (by simp) _).far (p := ⟨B, 1, none⟩) (by simp) _
              have HBW : Hid (Below B w ((wr.setCell ⟨B, 8, none⟩ (.int .i64 1)).setCell ⟨B, 1, none⟩ (.bool false))) := (hbW.setCell (p := ⟨B, 8, none⟩) (Nat.le_refl _) _).setCell (p := ⟨B, 1, none⟩) (Nat.le_refl _) _
              clear hsb hzb hE hcnt hH
              go_wp2
              go_roundg (gk - 1)
              case measure => omega
              case rel => exact ⟨f, s0, s1, s2, s3, false, t1, t2, t3, 1, tu, hC2.1, by omega, by omega, by go_num, hE2, (by decide : (0 : Int) ≤ 1 ∧ (1 : Int) < 4), HS.out, HZ.out, HBW.out⟩
          · have k0 : wr.cell? ⟨B, 0, none⟩ = some (.int .i64 s0) := hsb.cell 0
            have k1 : wr.cell? ⟨B, 1, none⟩ = some (.bool t0) := hsb.cell 1
            have k2 : wr.cell? ⟨B, 2, none⟩ = some (.int .i64 s1) := hsb.cell 2
            have k3 : wr.cell? ⟨B, 3, none⟩ = some (.bool t1) := hsb.cell 3
            have k4 : wr.cell? ⟨B, 4, none⟩ = some (.int .i64 s2) := hsb.cell 4
            have k5 : wr.cell? ⟨B, 5, none⟩ = some (.bool t2) := hsb.cell 5
            have k6 : wr.cell? ⟨B, 6, none⟩ = some (.int .i64 s3) := hsb.cell 6
            have k7 : wr.cell? ⟨B, 7, none⟩ = some (.bool t3) := hsb.cell 7
            have k8 : wr.cell? ⟨B, 8, none⟩ = some (.int .i64 1) := hsb.cell 8
            have k9 : wr.cell? ⟨B, 9, none⟩ = some (.int .u64 tu) := hsb.cell 9
            have g0 := hsb.frozen 0
            have g1 := hsb.frozen 1
            have g2 := hsb.frozen 2
            have g3 := hsb.frozen 3
            have g4 := hsb.frozen 4
            have g5 := hsb.frozen 5
            have g6 := hsb.frozen 6
            have g7 := hsb.frozen 7
            have g8 := hsb.frozen 8
            have g9 := hsb.frozen 9
            have z0 : wr.cell? ⟨B + 1, 0, none⟩ = some (.int .i64 0) := hzb.cell 0
            have z1 : wr.cell? ⟨B + 1, 1, none⟩ = some (.bool false) := hzb.cell 1
            have z2 : wr.cell? ⟨B + 1, 2, none⟩ = some (.int .i64 0) := hzb.cell 2
            have z3 : wr.cell? ⟨B + 1, 3, none⟩ = some (.bool false) := hzb.cell 3
            have z4 : wr.cell? ⟨B + 1, 4, none⟩ = some (.int .i64 0) := hzb.cell 4
            have z5 : wr.cell? ⟨B + 1, 5, none⟩ = some (.bool false) := hzb.cell 5
            have z6 : wr.cell? ⟨B + 1, 6, none⟩ = some (.int .i64 0) := hzb.cell 6
            have z7 : wr.cell? ⟨B + 1, 7, none⟩ = some (.bool false) := hzb.cell 7
            have z8 : wr.cell? ⟨B + 1, 8, none⟩ = some (.int .i64 0) := hzb.cell 8
            have z9 : wr.cell? ⟨B + 1, 9, none⟩ = some (.int .u64 0) := hzb.cell 9
            have f0 := hzb.frozen 0
            have f1 := hzb.frozen 1
            have f2 := hzb.frozen 2
            have f3 := hzb.frozen 3
            have f4 := hzb.frozen 4
            have f5 := hzb.frozen 5
            have f6 := hzb.frozen 6
            have f7 := hzb.frozen 7
            have f8 := hzb.frozen 8
            have f9 := hzb.frozen 9
            have hz1 := hsb.lt
            have hz2 := hzb.lt
            rcases (Bool.eq_false_or_eq_true t1).symm with rfl | rfl
            · have hE2 : Hid (R = (⟨s0, s1, s2, s3, t0, false, t2, t3, 2, tu⟩, 1)) := by rw [Hid, hE.out]; rfl
              have hne : B ≠ B + 1 := by omega
              clear hsb hzb hE hcnt hH
              go_wp2
              refine bodyPost_ret (v := .tuple #[.agg #[.int .i64 s0, .bool t0, .int .i64 s1, .bool false, .int .i64 s2, .bool t2, .int .i64 s3, .bool t3, .int .i64 2, .int .u64 tu], .int .i64 1]) (by simp [results, Try.results21, go_sem, z0, z1, z2, z3, z4, z5, z6, z7, z8, z9, hz1, hz2]) rfl ⟨by rw [hE2.out]; rfl, ?_⟩
              rw [HB.out]
              repeat (first | (with_reducible exact hbW) | (with_reducible refine Below.setCell ?_ (by simp <;> omega) _) | (with_reducible refine Below.alloc ?_ (by simp <;> omega) _) | (with_reducible refine Below.drew ?_))
            · have hE2 : Hid (R = turn f ⟨s0, s1, s2, s3, t0, false, t2, t3, 2, tu⟩) := by rw [Hid, hE.out]; rfl
              have hC2 : WS.cnt ⟨s0, s1, s2, s3, t0, false, t2, t3, 2, tu⟩ = gk - 1 ∧ 1 ≤ gk := by
                unfold WS.cnt at hcnt ⊢
                simp only [Bool.toNat_true, Bool.toNat_false] at hcnt ⊢
                omega
              have HS : Hid (SB ((wr.setCell ⟨B, 8, none⟩ (.int .i64 2)).setCell ⟨B, 3, none⟩ (.bool false)) B 31 ⟨s0, s1, s2, s3, t0, false, t2, t3, 2, tu⟩) := by simpa [SB, wcell, Hid] using Blk.set_ (Blk.set_ hsb 8 (.int .i64 2)) 3 (.bool false)
              have HZ : Hid (Blk ((wr.setCell ⟨B, 8, none⟩ (.int .i64 2)).setCell ⟨B, 3, none⟩ (.bool false)) (B + 1) 31 #[.int .i64 0, .bool false, .int .i64 0, .bool false, .int .i64 0, .bool false, .int .i64 0, .bool false, .int .i64 0, .int .u64 0]) := (hzb.far (p := ⟨B, 8, none⟩) (by simp) _).far (p := ⟨B, 3, none⟩) (by simp) _
              have HBW : Hid (Below B w ((wr.setCell ⟨B, 8, none⟩ (.int .i64 2)).setCell ⟨B, 3, none⟩ (.bool false))) := (hbW.setCell (p := ⟨B, 8, none⟩) (Nat.le_refl _) _).setCell (p := ⟨B, 3, none⟩) (Nat.le_refl _) _
              clear hsb hzb hE hcnt hH
              go_wp2
              go_roundg (gk - 1)
              case measure => omega
              case rel => exact ⟨f, s0, s1, s2, s3, t0, false, t2, t3, 2, tu, hC2.1, by omega, by omega, by go_num, hE2, (by decide : (0 : Int) ≤ 2 ∧ (2 : Int) < 4), HS.out, HZ.out, HBW.out⟩
          · have k0 : wr.cell? ⟨B, 0, none⟩ = some (.int .i64 s0) := hsb.cell 0
            have k1 : wr.cell? ⟨B, 1, none⟩ = some (.bool t0) := hsb.cell 1
            have k2 : wr.cell? ⟨B, 2, none⟩ = some (.int .i64 s1) := hsb.cell 2
            have k3 : wr.cell? ⟨B, 3, none⟩ = some (.bool t1) := hsb.cell 3
            have k4 : wr.cell? ⟨B, 4, none⟩ = some (.int .i64 s2) := hsb.cell 4
            have k5 : wr.cell? ⟨B, 5, none⟩ = some (.bool t2) := hsb.cell 5
            have k6 : wr.cell? ⟨B, 6, none⟩ = some (.int .i64 s3) := hsb.cell 6
            have k7 : wr.cell? ⟨B, 7, none⟩ = some (.bool t3) := hsb.cell 7
            have k8 : wr.cell? ⟨B, 8, none⟩ = some (.int .i64 2) := hsb.cell 8
            have k9 : wr.cell? ⟨B, 9, none⟩ = some (.int .u64 tu) := hsb.cell 9
            have g0 := hsb.frozen 0
            have g1 := hsb.frozen 1
            have g2 := hsb.frozen 2
            have g3 := hsb.frozen 3
            have g4 := hsb.frozen 4
            have g5 := hsb.frozen 5
            have g6 := hsb.frozen 6
            have g7 := hsb.frozen 7
            have g8 := hsb.frozen 8
            have g9 := hsb.frozen 9
            have z0 : wr.cell? ⟨B + 1, 0, none⟩ = some (.int .i64 0) := hzb.cell 0
            have z1 : wr.cell? ⟨B + 1, 1, none⟩ = some (.bool false) := hzb.cell 1
            have z2 : wr.cell? ⟨B + 1, 2, none⟩ = some (.int .i64 0) := hzb.cell 2
            have z3 : wr.cell? ⟨B + 1, 3, none⟩ = some (.bool false) := hzb.cell 3
            have z4 : wr.cell? ⟨B + 1, 4, none⟩ = some (.int .i64 0) := hzb.cell 4
            have z5 : wr.cell? ⟨B + 1, 5, none⟩ = some (.bool false) := hzb.cell 5
            have z6 : wr.cell? ⟨B + 1, 6, none⟩ = some (.int .i64 0) := hzb.cell 6
            have z7 : wr.cell? ⟨B + 1, 7, none⟩ = some (.bool false) := hzb.cell 7
            have z8 : wr.cell? ⟨B + 1, 8, none⟩ = some (.int .i64 0) := hzb.cell 8
            have z9 : wr.cell? ⟨B + 1, 9, none⟩ = some (.int .u64 0) := hzb.cell 9
            have f0 := hzb.frozen 0
            have f1 := hzb.frozen 1
            have f2 := hzb.frozen 2
            have f3 := hzb.frozen 3
            have f4 := hzb.frozen 4
            have f5 := hzb.frozen 5
            have f6 := hzb.frozen 6
            have f7 := hzb.frozen 7
            have f8 := hzb.frozen 8
            have f9 := hzb.frozen 9
            have hz1 := hsb.lt
            have hz2 := hzb.lt
            rcases (Bool.eq_false_or_eq_true t2).symm with rfl | rfl
            · have hE2 : Hid (R = (⟨s0, s1, s2, s3, t0, t1, false, t3, 3, tu⟩, 2)) := by rw [Hid, hE.out]; rfl
              have hne : B ≠ B + 1 := by omega
              clear hsb hzb hE hcnt hH
              go_wp2
              refine bodyPost_ret (v := .tuple #[.agg #[.int .i64 s0, .bool t0, .int .i64 s1, .bool t1, .int .i64 s2, .bool false, .int .i64 s3, .bool t3, .int .i64 3, .int .u64 tu], .int .i64 2]) (by simp [results, Try.results21, go_sem, z0, z1, z2, z3, z4, z5, z6, z7, z8, z9, hz1, hz2]) rfl ⟨by rw [hE2.out]; rfl, ?_⟩
              rw [HB.out]
              repeat (first | (with_reducible exact hbW) | (with_reducible refine Below.setCell ?_ (by simp <;> omega) _) | (with_reducible refine Below.alloc ?_ (by simp <;> omega) _) | (with_reducible refine Below.drew ?_))
            · have hE2 : Hid (R = turn f ⟨s0, s1, s2, s3, t0, t1, false, t3, 3, tu⟩) := by rw [Hid, hE.out]; rfl
              have hC2 : WS.cnt ⟨s0, s1, s2, s3, t0, t1, false, t3, 3, tu⟩ = gk - 1 ∧ 1 ≤ gk := by
                unfold WS.cnt at hcnt ⊢
                simp only [Bool.toNat_true, Bool.toNat_false] at hcnt ⊢
                omega
              have HS : Hid (SB ((wr.setCell ⟨B, 8, none⟩ (.int .i64 3)).setCell ⟨B, 5, none⟩ (.bool false)) B 31 ⟨s0, s1, s2, s3, t0, t1, false, t3, 3, tu⟩) := by simpa [SB, wcell, Hid] using Blk.set_ (Blk.set_ hsb 8 (.int .i64 3)) 5 (.bool false)
              have HZ : Hid (Blk ((wr.setCell ⟨B, 8, none⟩ (.int .i64 3)).setCell ⟨B, 5, none⟩ (.bool false)) (B + 1) 31 #[.int .i64 0, .bool false, .int .i64 0, .bool false, .int .i64 0, .bool false, .int .i64 0, .bool false, .int .i64 0, .int .u64 0]) := (hzb.far (p := ⟨B, 8, none⟩) (by simp) _).far (p := ⟨B, 5, none⟩) (by simp) _
              have HBW : Hid (Below B w ((wr.setCell ⟨B, 8, none⟩ (.int .i64 3)).setCell ⟨B, 5, none⟩ (.bool false))) := (hbW.setCell (p := ⟨B, 8, none⟩) (Nat.le_refl _) _).setCell (p := ⟨B, 5, none⟩) (Nat.le_refl _) _
              clear hsb hzb hE hcnt hH
              go_wp2
              go_roundg (gk - 1)
              case measure => omega
              case rel => exact ⟨f, s0, s1, s2, s3, t0, t1, false, t3, 3, tu, hC2.1, by omega, by omega, by go_num, hE2, (by decide : (0 : Int) ≤ 3 ∧ (3 : Int) < 4), HS.out, HZ.out, HBW.out⟩
          · have k0 : wr.cell? ⟨B, 0, none⟩ = some (.int .i64 s0) := hsb.cell 0
            have k1 : wr.cell? ⟨B, 1, none⟩ = some (.bool t0) := hsb.cell 1
            have k2 : wr.cell? ⟨B, 2, none⟩ = some (.int .i64 s1) := hsb.cell 2
            have k3 : wr.cell? ⟨B, 3, none⟩ = some (.bool t1) := hsb.cell 3
            have k4 : wr.cell? ⟨B, 4, none⟩ = some (.int .i64 s2) := hsb.cell 4
            have k5 : wr.cell? ⟨B, 5, none⟩ = some (.bool t2) := hsb.cell 5
            have k6 : wr.cell? ⟨B, 6, none⟩ = some (.int .i64 s3) := hsb.cell 6
            have k7 : wr.cell? ⟨B, 7, none⟩ = some (.bool t3) := hsb.cell 7
            have k8 : wr.cell? ⟨B, 8, none⟩ = some (.int .i64 3) := hsb.cell 8
            have k9 : wr.cell? ⟨B, 9, none⟩ = some (.int .u64 tu) := hsb.cell 9
            have g0 := hsb.frozen 0
            have g1 := hsb.frozen 1
            have g2 := hsb.frozen 2
            have g3 := hsb.frozen 3
            have g4 := hsb.frozen 4
            have g5 := hsb.frozen 5
            have g6 := hsb.frozen 6
            have g7 := hsb.frozen 7
            have g8 := hsb.frozen 8
            have g9 := hsb.frozen 9
            have z0 : wr.cell? ⟨B + 1, 0, none⟩ = some (.int .i64 0) := hzb.cell 0
            have z1 : wr.cell? ⟨B + 1, 1, none⟩ = some (.bool false) := hzb.cell 1
            have z2 : wr.cell? ⟨B + 1, 2, none⟩ = some (.int .i64 0) := hzb.cell 2
            have z3 : wr.cell? ⟨B + 1, 3, none⟩ = some (.bool false) := hzb.cell 3
            have z4 : wr.cell? ⟨B + 1, 4, none⟩ = some (.int .i64 0) := hzb.cell 4
            have z5 : wr.cell? ⟨B + 1, 5, none⟩ = some (.bool false) := hzb.cell 5
            have z6 : wr.cell? ⟨B + 1, 6, none⟩ = some (.int .i64 0) := hzb.cell 6
            have z7 : wr.cell? ⟨B + 1, 7, none⟩ = some (.bool false) := hzb.cell 7
            have z8 : wr.cell? ⟨B + 1, 8, none⟩ = some (.int .i64 0) := hzb.cell 8
            have z9 : wr.cell? ⟨B + 1, 9, none⟩ = some (.int .u64 0) := hzb.cell 9
            have f0 := hzb.frozen 0
            have f1 := hzb.frozen 1
            have f2 := hzb.frozen 2
            have f3 := hzb.frozen 3
            have f4 := hzb.frozen 4
            have f5 := hzb.frozen 5
            have f6 := hzb.frozen 6
            have f7 := hzb.frozen 7
            have f8 := hzb.frozen 8
            have f9 := hzb.frozen 9
            have hz1 := hsb.lt
            have hz2 := hzb.lt
            rcases (Bool.eq_false_or_eq_true t3).symm with rfl | rfl
            · have hE2 : Hid (R = (⟨s0, s1, s2, s3, t0, t1, t2, false, 0, tu⟩, 3)) := by rw [Hid, hE.out]; rfl
              have hne : B ≠ B + 1 := by omega
              clear hsb hzb hE hcnt hH
              go_wp2
              refine bodyPost_ret (v := .tuple #[.agg #[.int .i64 s0, .bool t0, .int .i64 s1, .bool t1, .int .i64 s2, .bool t2, .int .i64 s3, .bool false, .int .i64 0, .int .u64 tu], .int .i64 3]) (by simp [results, Try.results21, go_sem, z0, z1, z2, z3, z4, z5, z6, z7, z8, z9, hz1, hz2]) rfl ⟨by rw [hE2.out]; rfl, ?_⟩
              rw [HB.out]
              repeat (first | (with_reducible exact hbW) | (with_reducible refine Below.setCell ?_ (by simp <;> omega) _) | (with_reducible refine Below.alloc ?_ (by simp <;> omega) _) | (with_reducible refine Below.drew ?_))
            · have hE2 : Hid (R = turn f ⟨s0, s1, s2, s3, t0, t1, t2, false, 0, tu⟩) := by rw [Hid, hE.out]; rfl
              have hC2 : WS.cnt ⟨s0, s1, s2, s3, t0, t1, t2, false, 0, tu⟩ = gk - 1 ∧ 1 ≤ gk := by
                unfold WS.cnt at hcnt ⊢
                simp only [Bool.toNat_true, Bool.toNat_false] at hcnt ⊢
                omega
              have HS : Hid (SB ((wr.setCell ⟨B, 8, none⟩ (.int .i64 0)).setCell ⟨B, 7, none⟩ (.bool false)) B 31 ⟨s0, s1, s2, s3, t0, t1, t2, false, 0, tu⟩) := by simpa [SB, wcell, Hid] using Blk.set_ (Blk.set_ hsb 8 (.int .i64 0)) 7 (.bool false)
              have HZ : Hid (Blk ((wr.setCell ⟨B, 8, none⟩ (.int .i64 0)).setCell ⟨B, 7, none⟩ (.bool false)) (B + 1) 31 #[.int .i64 0, .bool false, .int .i64 0, .bool false, .int .i64 0, .bool false, .int .i64 0, .bool false, .int .i64 0, .int .u64 0]) := (hzb.far (p := ⟨B, 8, none⟩) (by simp) _).far (p := ⟨B, 7, none⟩) (by simp) _
              have HBW : Hid (Below B w ((wr.setCell ⟨B, 8, none⟩ (.int .i64 0)).setCell ⟨B, 7, none⟩ (.bool false))) := (hbW.setCell (p := ⟨B, 8, none⟩) (Nat.le_refl _) _).setCell (p := ⟨B, 7, none⟩) (Nat.le_refl _) _
              clear hsb hzb hE hcnt hH
              go_wp2
              go_roundg (gk - 1)
              case measure => omega
              case rel => exact ⟨f, s0, s1, s2, s3, t0, t1, t2, false, 0, tu, hC2.1, by omega, by omega, by go_num, hE2, (by decide : (0 : Int) ≤ 0 ∧ (0 : Int) < 4), HS.out, HZ.out, HBW.out⟩
end Go.Proofs.Ytgkogodfegfdfaa
