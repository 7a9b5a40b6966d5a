/- The law PlanApart. -/
import Derived.Test.YtpnhpiniflcciaaPlanK
namespace Go.Proofs.Ytpnhpiniflcciaa
set_option linter.unusedVariables false
set_option linter.unusedSimpArgs false
open Go.RowKit

set_option maxHeartbeats 4000000 in
set_option maxRecDepth 100000 in
theorem planapart_no (c : Cf) (hm : mayB c = false) (a b : Int) (w : World) : Calls Try.prog 11 #[.agg #[.int .i64 c.lv, .int .i64 c.th, .int .i64 c.o0, .int .i64 c.o1, .int .i64 c.o2, .int .i64 c.o3, .int .i64 c.o4, .int .i64 c.o5, .int .i64 c.o6, .int .i64 c.o7, .int .i64 c.sl, .int .i64 c.li, .int .i64 c.ge, .int .i64 c.qu], .int .i64 a, .int .i64 b] w fun e w' => e = .returned (.bool true) ∧ Below w.heap.size w w' := by
  have hn := fun w => new_no c hm w
  go_enter Try.func11, Try.ntmps11
  go_wp2_with fail
  obtain ⟨W0, hW0, k0, k1, k2, k3, k4, k5, k6, k7, k8, k9, k10, k11, k12, k13, kb⟩ : ∃ W0, w.alloc (.cells #[.int .i64 c.lv, .int .i64 c.th, .int .i64 c.o0, .int .i64 c.o1, .int .i64 c.o2, .int .i64 c.o3, .int .i64 c.o4, .int .i64 c.o5, .int .i64 c.o6, .int .i64 c.o7, .int .i64 c.sl, .int .i64 c.li, .int .i64 c.ge, .int .i64 c.qu] 45) = W0 ∧ W0.cell? ⟨w.heap.size, 0, none⟩ = some (.int .i64 c.lv) ∧ W0.cell? ⟨w.heap.size, 1, none⟩ = some (.int .i64 c.th) ∧ W0.cell? ⟨w.heap.size, 2, none⟩ = some (.int .i64 c.o0) ∧ W0.cell? ⟨w.heap.size, 3, none⟩ = some (.int .i64 c.o1) ∧ W0.cell? ⟨w.heap.size, 4, none⟩ = some (.int .i64 c.o2) ∧ W0.cell? ⟨w.heap.size, 5, none⟩ = some (.int .i64 c.o3) ∧ W0.cell? ⟨w.heap.size, 6, none⟩ = some (.int .i64 c.o4) ∧ W0.cell? ⟨w.heap.size, 7, none⟩ = some (.int .i64 c.o5) ∧ W0.cell? ⟨w.heap.size, 8, none⟩ = some (.int .i64 c.o6) ∧ W0.cell? ⟨w.heap.size, 9, none⟩ = some (.int .i64 c.o7) ∧ W0.cell? ⟨w.heap.size, 10, none⟩ = some (.int .i64 c.sl) ∧ W0.cell? ⟨w.heap.size, 11, none⟩ = some (.int .i64 c.li) ∧ W0.cell? ⟨w.heap.size, 12, none⟩ = some (.int .i64 c.ge) ∧ W0.cell? ⟨w.heap.size, 13, none⟩ = some (.int .i64 c.qu) ∧ Below w.heap.size w W0 :=
    ⟨_, rfl, by go_simp, by go_simp, by go_simp, by go_simp, by go_simp, by go_simp, by go_simp, by go_simp, by go_simp, by go_simp, by go_simp, by go_simp, by go_simp, by go_simp, bnew (brefl w) _⟩
  rw [hW0]
  clear hW0
  clear k1 k2 k3 k4 k5 k6 k7 k8 k9 k10 k11 k12 k13
  have hz := block_lt_of_cell k0
  refine (hn _).mono ?_
  rintro e w1 ⟨rfl, hb1⟩
  go_wp2_with fail
  refine (lives05 _).mono ?_
  rintro e w3 ⟨rfl, hb3⟩
  go_wp2
  go_ret
  exact ⟨rfl, bnext (bnext kb hb1) hb3⟩

set_option maxHeartbeats 4000000 in
set_option maxRecDepth 100000 in
theorem apart_nn (c : Cf) (N : Int) (hN : N ≤ 1672) (a b : Int) (x y : Pl) (ha0 : decide (0 ≤ a) = false) (hb0 : decide (0 ≤ b) = false)
    (hwd : ∀ (p : Nat) (w : World), PBox w p c → Calls Try.prog 40 #[.pointer (some ⟨p, 0, none⟩)] w fun e w' => e = .returned (.int .i64 N) ∧ Below w.heap.size w w')
    (hwa : ∀ (p : Nat) (w : World), PBox w p c → Calls Try.prog 38 #[.pointer (some ⟨p, 0, none⟩), .int .i64 a] w fun e w' => e = .returned (.tuple #[.agg #[.int .i64 x.m, .int .i64 x.k, .int .i64 x.i, .int .i64 x.j], .bool false]) ∧ Below w.heap.size w w') (hwb : ∀ (p : Nat) (w : World), PBox w p c → Calls Try.prog 38 #[.pointer (some ⟨p, 0, none⟩), .int .i64 b] w fun e w' => e = .returned (.tuple #[.agg #[.int .i64 y.m, .int .i64 y.k, .int .i64 y.i, .int .i64 y.j], .bool false]) ∧ Below w.heap.size w w')
    (hn : ∀ w : World, Calls Try.prog 35 #[.agg #[.int .i64 c.lv, .int .i64 c.th, .int .i64 c.o0, .int .i64 c.o1, .int .i64 c.o2, .int .i64 c.o3, .int .i64 c.o4, .int .i64 c.o5, .int .i64 c.o6, .int .i64 c.o7, .int .i64 c.sl, .int .i64 c.li, .int .i64 c.ge, .int .i64 c.qu]] w fun e w' => ∃ p, e = .returned (.tuple #[.pointer (some ⟨p, 0, none⟩), .int .i64 0]) ∧ PBox w' p c ∧ Below w.heap.size w w') (w : World) :
    Calls Try.prog 11 #[.agg #[.int .i64 c.lv, .int .i64 c.th, .int .i64 c.o0, .int .i64 c.o1, .int .i64 c.o2, .int .i64 c.o3, .int .i64 c.o4, .int .i64 c.o5, .int .i64 c.o6, .int .i64 c.o7, .int .i64 c.sl, .int .i64 c.li, .int .i64 c.ge, .int .i64 c.qu], .int .i64 a, .int .i64 b] w fun e w' => e = .returned (.bool true) ∧ Below w.heap.size w w' := by
  go_enter Try.func11, Try.ntmps11
  go_wp2_with fail
  obtain ⟨W0, hW0, k0, k1, k2, k3, k4, k5, k6, k7, k8, k9, k10, k11, k12, k13, kb⟩ : ∃ W0, w.alloc (.cells #[.int .i64 c.lv, .int .i64 c.th, .int .i64 c.o0, .int .i64 c.o1, .int .i64 c.o2, .int .i64 c.o3, .int .i64 c.o4, .int .i64 c.o5, .int .i64 c.o6, .int .i64 c.o7, .int .i64 c.sl, .int .i64 c.li, .int .i64 c.ge, .int .i64 c.qu] 45) = W0 ∧ W0.cell? ⟨w.heap.size, 0, none⟩ = some (.int .i64 c.lv) ∧ W0.cell? ⟨w.heap.size, 1, none⟩ = some (.int .i64 c.th) ∧ W0.cell? ⟨w.heap.size, 2, none⟩ = some (.int .i64 c.o0) ∧ W0.cell? ⟨w.heap.size, 3, none⟩ = some (.int .i64 c.o1) ∧ W0.cell? ⟨w.heap.size, 4, none⟩ = some (.int .i64 c.o2) ∧ W0.cell? ⟨w.heap.size, 5, none⟩ = some (.int .i64 c.o3) ∧ W0.cell? ⟨w.heap.size, 6, none⟩ = some (.int .i64 c.o4) ∧ W0.cell? ⟨w.heap.size, 7, none⟩ = some (.int .i64 c.o5) ∧ W0.cell? ⟨w.heap.size, 8, none⟩ = some (.int .i64 c.o6) ∧ W0.cell? ⟨w.heap.size, 9, none⟩ = some (.int .i64 c.o7) ∧ W0.cell? ⟨w.heap.size, 10, none⟩ = some (.int .i64 c.sl) ∧ W0.cell? ⟨w.heap.size, 11, none⟩ = some (.int .i64 c.li) ∧ W0.cell? ⟨w.heap.size, 12, none⟩ = some (.int .i64 c.ge) ∧ W0.cell? ⟨w.heap.size, 13, none⟩ = some (.int .i64 c.qu) ∧ Below w.heap.size w W0 :=
    ⟨_, rfl, by go_simp, by go_simp, by go_simp, by go_simp, by go_simp, by go_simp, by go_simp, by go_simp, by go_simp, by go_simp, by go_simp, by go_simp, by go_simp, by go_simp, bnew (brefl w) _⟩
  rw [hW0]
  clear hW0
  clear k1 k2 k3 k4 k5 k6 k7 k8 k9 k10 k11 k12 k13
  generalize hBw : w.heap.size = R at *
  have HBw := Lib.hid hBw
  clear hBw
  have hz : R < W0.heap.size := block_lt_of_cell k0
  refine (hn _).mono ?_
  rintro e w1 ⟨p, rfl, hp, hb1⟩
  have z0 := keep_below k0 hb1
  have kb1 : Below R w w1 := kb.trans (hb1.mono (by omega))
  clear k0 kb hb1 hz
  have hz1 : R < w1.heap.size := block_lt_of_cell z0
  go_wp2_with fail
  refine (hwa _ _ hp).mono ?_
  rintro e w2 ⟨rfl, hb2⟩
  have z1 := keep_below z0 hb2
  have hp2 := hp.below hb2
  have kb2 : Below R w w2 := kb1.trans (hb2.mono (by omega))
  clear z0 kb1 hb2 hp hz1
  have hz2 : R < w2.heap.size := block_lt_of_cell z1
  go_upto_region 5 with (fail)
  obtain ⟨W3, hW3, z3, hp3, kb3, q0, q1, q2, q3⟩ : ∃ W3, w2.alloc (.cells #[.int .i64 x.m, .int .i64 x.k, .int .i64 x.i, .int .i64 x.j] 63) = W3 ∧ W3.cell? ⟨R, 0, none⟩ = some (.int .i64 c.lv) ∧ PBox W3 p c ∧ Below R w W3 ∧ W3.cell? ⟨w2.heap.size, 0, none⟩ = some (.int .i64 x.m) ∧ W3.cell? ⟨w2.heap.size, 1, none⟩ = some (.int .i64 x.k) ∧ W3.cell? ⟨w2.heap.size, 2, none⟩ = some (.int .i64 x.i) ∧ W3.cell? ⟨w2.heap.size, 3, none⟩ = some (.int .i64 x.j) :=
    ⟨_, rfl, keep_below z1 (bnew (brefl _) _), hp2.below (bnew (brefl _) _), kb2.alloc (by omega) _, by go_simp, by go_simp, by go_simp, by go_simp⟩
  rw [hW3]
  clear hW3 z1 hp2 kb2
  generalize w2.heap.size = B1 at *
  have hz3 : R < W3.heap.size := block_lt_of_cell z3
  go_wp2_with fail
  refine (hwb _ _ hp3).mono ?_
  rintro e w4 ⟨rfl, hb4⟩
  have z4 := keep_below z3 hb4
  have hp4 := hp3.below hb4
  have kb4 : Below R w w4 := kb3.trans (hb4.mono (by omega))
  have r0 := keep_below q0 hb4
  have r1 := keep_below q1 hb4
  have r2 := keep_below q2 hb4
  have r3 := keep_below q3 hb4
  clear z3 hp3 kb3 q0 q1 q2 q3 hb4 hz3
  have hz4 : R < w4.heap.size := block_lt_of_cell z4
  go_upto_region 6 with (fail)
  obtain ⟨W5, hW5, z5, hp5, kb5, q0, q1, q2, q3, s0, s1, s2, s3⟩ : ∃ W5, w4.alloc (.cells #[.int .i64 y.m, .int .i64 y.k, .int .i64 y.i, .int .i64 y.j] 63) = W5 ∧ W5.cell? ⟨R, 0, none⟩ = some (.int .i64 c.lv) ∧ PBox W5 p c ∧ Below R w W5 ∧ W5.cell? ⟨B1, 0, none⟩ = some (.int .i64 x.m) ∧ W5.cell? ⟨B1, 1, none⟩ = some (.int .i64 x.k) ∧ W5.cell? ⟨B1, 2, none⟩ = some (.int .i64 x.i) ∧ W5.cell? ⟨B1, 3, none⟩ = some (.int .i64 x.j) ∧ W5.cell? ⟨w4.heap.size, 0, none⟩ = some (.int .i64 y.m) ∧ W5.cell? ⟨w4.heap.size, 1, none⟩ = some (.int .i64 y.k) ∧ W5.cell? ⟨w4.heap.size, 2, none⟩ = some (.int .i64 y.i) ∧ W5.cell? ⟨w4.heap.size, 3, none⟩ = some (.int .i64 y.j) :=
    ⟨_, rfl, keep_below z4 (bnew (brefl _) _), hp4.below (bnew (brefl _) _), kb4.alloc (by omega) _, keep_below r0 (bnew (brefl _) _), keep_below r1 (bnew (brefl _) _), keep_below r2 (bnew (brefl _) _), keep_below r3 (bnew (brefl _) _), by go_simp, by go_simp, by go_simp, by go_simp⟩
  rw [hW5]
  clear hW5 z4 hp4 kb4 r0 r1 r2 r3
  generalize w4.heap.size = B2 at *
  have hz5 : R < W5.heap.size := block_lt_of_cell z5
  have hy1 := block_lt_of_cell q0
  have hy2 := block_lt_of_cell s0
  go_wp2_with fail
  refine (lives05 _).mono ?_
  rintro e w20 ⟨rfl, hb20⟩
  go_wp2
  go_ret
  exact ⟨rfl, by rw [HBw.out]; exact kb5.trans (hb20.mono (by omega))⟩

set_option maxHeartbeats 4000000 in
set_option maxRecDepth 100000 in
theorem apart_ny (c : Cf) (N : Int) (hN : N ≤ 1672) (a b : Int) (x y : Pl) (ha0 : decide (0 ≤ a) = false) (hb0 : 0 ≤ b) (hb1 : b < N)
    (hwd : ∀ (p : Nat) (w : World), PBox w p c → Calls Try.prog 40 #[.pointer (some ⟨p, 0, none⟩)] w fun e w' => e = .returned (.int .i64 N) ∧ Below w.heap.size w w')
    (hwa : ∀ (p : Nat) (w : World), PBox w p c → Calls Try.prog 38 #[.pointer (some ⟨p, 0, none⟩), .int .i64 a] w fun e w' => e = .returned (.tuple #[.agg #[.int .i64 x.m, .int .i64 x.k, .int .i64 x.i, .int .i64 x.j], .bool false]) ∧ Below w.heap.size w w') (hwb : ∀ (p : Nat) (w : World), PBox w p c → Calls Try.prog 38 #[.pointer (some ⟨p, 0, none⟩), .int .i64 b] w fun e w' => e = .returned (.tuple #[.agg #[.int .i64 y.m, .int .i64 y.k, .int .i64 y.i, .int .i64 y.j], .bool true]) ∧ Below w.heap.size w w')
    (hn : ∀ w : World, Calls Try.prog 35 #[.agg #[.int .i64 c.lv, .int .i64 c.th, .int .i64 c.o0, .int .i64 c.o1, .int .i64 c.o2, .int .i64 c.o3, .int .i64 c.o4, .int .i64 c.o5, .int .i64 c.o6, .int .i64 c.o7, .int .i64 c.sl, .int .i64 c.li, .int .i64 c.ge, .int .i64 c.qu]] w fun e w' => ∃ p, e = .returned (.tuple #[.pointer (some ⟨p, 0, none⟩), .int .i64 0]) ∧ PBox w' p c ∧ Below w.heap.size w w') (w : World) :
    Calls Try.prog 11 #[.agg #[.int .i64 c.lv, .int .i64 c.th, .int .i64 c.o0, .int .i64 c.o1, .int .i64 c.o2, .int .i64 c.o3, .int .i64 c.o4, .int .i64 c.o5, .int .i64 c.o6, .int .i64 c.o7, .int .i64 c.sl, .int .i64 c.li, .int .i64 c.ge, .int .i64 c.qu], .int .i64 a, .int .i64 b] w fun e w' => e = .returned (.bool true) ∧ Below w.heap.size w w' := by
  go_enter Try.func11, Try.ntmps11
  go_wp2_with fail
  obtain ⟨W0, hW0, k0, k1, k2, k3, k4, k5, k6, k7, k8, k9, k10, k11, k12, k13, kb⟩ : ∃ W0, w.alloc (.cells #[.int .i64 c.lv, .int .i64 c.th, .int .i64 c.o0, .int .i64 c.o1, .int .i64 c.o2, .int .i64 c.o3, .int .i64 c.o4, .int .i64 c.o5, .int .i64 c.o6, .int .i64 c.o7, .int .i64 c.sl, .int .i64 c.li, .int .i64 c.ge, .int .i64 c.qu] 45) = W0 ∧ W0.cell? ⟨w.heap.size, 0, none⟩ = some (.int .i64 c.lv) ∧ W0.cell? ⟨w.heap.size, 1, none⟩ = some (.int .i64 c.th) ∧ W0.cell? ⟨w.heap.size, 2, none⟩ = some (.int .i64 c.o0) ∧ W0.cell? ⟨w.heap.size, 3, none⟩ = some (.int .i64 c.o1) ∧ W0.cell? ⟨w.heap.size, 4, none⟩ = some (.int .i64 c.o2) ∧ W0.cell? ⟨w.heap.size, 5, none⟩ = some (.int .i64 c.o3) ∧ W0.cell? ⟨w.heap.size, 6, none⟩ = some (.int .i64 c.o4) ∧ W0.cell? ⟨w.heap.size, 7, none⟩ = some (.int .i64 c.o5) ∧ W0.cell? ⟨w.heap.size, 8, none⟩ = some (.int .i64 c.o6) ∧ W0.cell? ⟨w.heap.size, 9, none⟩ = some (.int .i64 c.o7) ∧ W0.cell? ⟨w.heap.size, 10, none⟩ = some (.int .i64 c.sl) ∧ W0.cell? ⟨w.heap.size, 11, none⟩ = some (.int .i64 c.li) ∧ W0.cell? ⟨w.heap.size, 12, none⟩ = some (.int .i64 c.ge) ∧ W0.cell? ⟨w.heap.size, 13, none⟩ = some (.int .i64 c.qu) ∧ Below w.heap.size w W0 :=
    ⟨_, rfl, by go_simp, by go_simp, by go_simp, by go_simp, by go_simp, by go_simp, by go_simp, by go_simp, by go_simp, by go_simp, by go_simp, by go_simp, by go_simp, by go_simp, bnew (brefl w) _⟩
  rw [hW0]
  clear hW0
  clear k1 k2 k3 k4 k5 k6 k7 k8 k9 k10 k11 k12 k13
  generalize hBw : w.heap.size = R at *
  have HBw := Lib.hid hBw
  clear hBw
  have hz : R < W0.heap.size := block_lt_of_cell k0
  refine (hn _).mono ?_
  rintro e w1 ⟨p, rfl, hp, hb1⟩
  have z0 := keep_below k0 hb1
  have kb1 : Below R w w1 := kb.trans (hb1.mono (by omega))
  clear k0 kb hb1 hz
  have hz1 : R < w1.heap.size := block_lt_of_cell z0
  go_wp2_with fail
  refine (hwa _ _ hp).mono ?_
  rintro e w2 ⟨rfl, hb2⟩
  have z1 := keep_below z0 hb2
  have hp2 := hp.below hb2
  have kb2 : Below R w w2 := kb1.trans (hb2.mono (by omega))
  clear z0 kb1 hb2 hp hz1
  have hz2 : R < w2.heap.size := block_lt_of_cell z1
  go_upto_region 5 with (fail)
  obtain ⟨W3, hW3, z3, hp3, kb3, q0, q1, q2, q3⟩ : ∃ W3, w2.alloc (.cells #[.int .i64 x.m, .int .i64 x.k, .int .i64 x.i, .int .i64 x.j] 63) = W3 ∧ W3.cell? ⟨R, 0, none⟩ = some (.int .i64 c.lv) ∧ PBox W3 p c ∧ Below R w W3 ∧ W3.cell? ⟨w2.heap.size, 0, none⟩ = some (.int .i64 x.m) ∧ W3.cell? ⟨w2.heap.size, 1, none⟩ = some (.int .i64 x.k) ∧ W3.cell? ⟨w2.heap.size, 2, none⟩ = some (.int .i64 x.i) ∧ W3.cell? ⟨w2.heap.size, 3, none⟩ = some (.int .i64 x.j) :=
    ⟨_, rfl, keep_below z1 (bnew (brefl _) _), hp2.below (bnew (brefl _) _), kb2.alloc (by omega) _, by go_simp, by go_simp, by go_simp, by go_simp⟩
  rw [hW3]
  clear hW3 z1 hp2 kb2
  generalize w2.heap.size = B1 at *
  have hz3 : R < W3.heap.size := block_lt_of_cell z3
  go_wp2_with fail
  refine (hwb _ _ hp3).mono ?_
  rintro e w4 ⟨rfl, hb4⟩
  have z4 := keep_below z3 hb4
  have hp4 := hp3.below hb4
  have kb4 : Below R w w4 := kb3.trans (hb4.mono (by omega))
  have r0 := keep_below q0 hb4
  have r1 := keep_below q1 hb4
  have r2 := keep_below q2 hb4
  have r3 := keep_below q3 hb4
  clear z3 hp3 kb3 q0 q1 q2 q3 hb4 hz3
  have hz4 : R < w4.heap.size := block_lt_of_cell z4
  go_upto_region 6 with (fail)
  obtain ⟨W5, hW5, z5, hp5, kb5, q0, q1, q2, q3, s0, s1, s2, s3⟩ : ∃ W5, w4.alloc (.cells #[.int .i64 y.m, .int .i64 y.k, .int .i64 y.i, .int .i64 y.j] 63) = W5 ∧ W5.cell? ⟨R, 0, none⟩ = some (.int .i64 c.lv) ∧ PBox W5 p c ∧ Below R w W5 ∧ W5.cell? ⟨B1, 0, none⟩ = some (.int .i64 x.m) ∧ W5.cell? ⟨B1, 1, none⟩ = some (.int .i64 x.k) ∧ W5.cell? ⟨B1, 2, none⟩ = some (.int .i64 x.i) ∧ W5.cell? ⟨B1, 3, none⟩ = some (.int .i64 x.j) ∧ W5.cell? ⟨w4.heap.size, 0, none⟩ = some (.int .i64 y.m) ∧ W5.cell? ⟨w4.heap.size, 1, none⟩ = some (.int .i64 y.k) ∧ W5.cell? ⟨w4.heap.size, 2, none⟩ = some (.int .i64 y.i) ∧ W5.cell? ⟨w4.heap.size, 3, none⟩ = some (.int .i64 y.j) :=
    ⟨_, rfl, keep_below z4 (bnew (brefl _) _), hp4.below (bnew (brefl _) _), kb4.alloc (by omega) _, keep_below r0 (bnew (brefl _) _), keep_below r1 (bnew (brefl _) _), keep_below r2 (bnew (brefl _) _), keep_below r3 (bnew (brefl _) _), by go_simp, by go_simp, by go_simp, by go_simp⟩
  rw [hW5]
  clear hW5 z4 hp4 kb4 r0 r1 r2 r3
  generalize w4.heap.size = B2 at *
  have hz5 : R < W5.heap.size := block_lt_of_cell z5
  have hy1 := block_lt_of_cell q0
  have hy2 := block_lt_of_cell s0
  go_wp2_with fail
  refine (hwd _ _ hp5).mono ?_
  rintro e w6 ⟨rfl, hb6⟩
  have z6 := keep_below z5 hb6
  have hp6 := hp5.below hb6
  have kb6 : Below R w w6 := kb5.trans (hb6.mono (by omega))
  have q0 := keep_below q0 hb6
  have q1 := keep_below q1 hb6
  have q2 := keep_below q2 hb6
  have q3 := keep_below q3 hb6
  have s0 := keep_below s0 hb6
  have s1 := keep_below s1 hb6
  have s2 := keep_below s2 hb6
  have s3 := keep_below s3 hb6
  have hz6 : R < w6.heap.size := block_lt_of_cell z6
  have hy1 := block_lt_of_cell q0
  have hy2 := block_lt_of_cell s0
  clear z5 hp5 kb5 hb6
  go_wp2_with fail
  refine (lives05 _).mono ?_
  rintro e w20 ⟨rfl, hb20⟩
  go_wp2
  go_ret
  exact ⟨rfl, by rw [HBw.out]; exact kb6.trans (hb20.mono (by omega))⟩

set_option maxHeartbeats 4000000 in
set_option maxRecDepth 100000 in
theorem apart_ng (c : Cf) (N : Int) (hN : N ≤ 1672) (a b : Int) (x y : Pl) (ha0 : decide (0 ≤ a) = false) (hb0 : 0 ≤ b) (hb1 : decide (b < N) = false)
    (hwd : ∀ (p : Nat) (w : World), PBox w p c → Calls Try.prog 40 #[.pointer (some ⟨p, 0, none⟩)] w fun e w' => e = .returned (.int .i64 N) ∧ Below w.heap.size w w')
    (hwa : ∀ (p : Nat) (w : World), PBox w p c → Calls Try.prog 38 #[.pointer (some ⟨p, 0, none⟩), .int .i64 a] w fun e w' => e = .returned (.tuple #[.agg #[.int .i64 x.m, .int .i64 x.k, .int .i64 x.i, .int .i64 x.j], .bool false]) ∧ Below w.heap.size w w') (hwb : ∀ (p : Nat) (w : World), PBox w p c → Calls Try.prog 38 #[.pointer (some ⟨p, 0, none⟩), .int .i64 b] w fun e w' => e = .returned (.tuple #[.agg #[.int .i64 y.m, .int .i64 y.k, .int .i64 y.i, .int .i64 y.j], .bool false]) ∧ Below w.heap.size w w')
    (hn : ∀ w : World, Calls Try.prog 35 #[.agg #[.int .i64 c.lv, .int .i64 c.th, .int .i64 c.o0, .int .i64 c.o1, .int .i64 c.o2, .int .i64 c.o3, .int .i64 c.o4, .int .i64 c.o5, .int .i64 c.o6, .int .i64 c.o7, .int .i64 c.sl, .int .i64 c.li, .int .i64 c.ge, .int .i64 c.qu]] w fun e w' => ∃ p, e = .returned (.tuple #[.pointer (some ⟨p, 0, none⟩), .int .i64 0]) ∧ PBox w' p c ∧ Below w.heap.size w w') (w : World) :
    Calls Try.prog 11 #[.agg #[.int .i64 c.lv, .int .i64 c.th, .int .i64 c.o0, .int .i64 c.o1, .int .i64 c.o2, .int .i64 c.o3, .int .i64 c.o4, .int .i64 c.o5, .int .i64 c.o6, .int .i64 c.o7, .int .i64 c.sl, .int .i64 c.li, .int .i64 c.ge, .int .i64 c.qu], .int .i64 a, .int .i64 b] w fun e w' => e = .returned (.bool true) ∧ Below w.heap.size w w' := by
  go_enter Try.func11, Try.ntmps11
  go_wp2_with fail
  obtain ⟨W0, hW0, k0, k1, k2, k3, k4, k5, k6, k7, k8, k9, k10, k11, k12, k13, kb⟩ : ∃ W0, w.alloc (.cells #[.int .i64 c.lv, .int .i64 c.th, .int .i64 c.o0, .int .i64 c.o1, .int .i64 c.o2, .int .i64 c.o3, .int .i64 c.o4, .int .i64 c.o5, .int .i64 c.o6, .int .i64 c.o7, .int .i64 c.sl, .int .i64 c.li, .int .i64 c.ge, .int .i64 c.qu] 45) = W0 ∧ W0.cell? ⟨w.heap.size, 0, none⟩ = some (.int .i64 c.lv) ∧ W0.cell? ⟨w.heap.size, 1, none⟩ = some (.int .i64 c.th) ∧ W0.cell? ⟨w.heap.size, 2, none⟩ = some (.int .i64 c.o0) ∧ W0.cell? ⟨w.heap.size, 3, none⟩ = some (.int .i64 c.o1) ∧ W0.cell? ⟨w.heap.size, 4, none⟩ = some (.int .i64 c.o2) ∧ W0.cell? ⟨w.heap.size, 5, none⟩ = some (.int .i64 c.o3) ∧ W0.cell? ⟨w.heap.size, 6, none⟩ = some (.int .i64 c.o4) ∧ W0.cell? ⟨w.heap.size, 7, none⟩ = some (.int .i64 c.o5) ∧ W0.cell? ⟨w.heap.size, 8, none⟩ = some (.int .i64 c.o6) ∧ W0.cell? ⟨w.heap.size, 9, none⟩ = some (.int .i64 c.o7) ∧ W0.cell? ⟨w.heap.size, 10, none⟩ = some (.int .i64 c.sl) ∧ W0.cell? ⟨w.heap.size, 11, none⟩ = some (.int .i64 c.li) ∧ W0.cell? ⟨w.heap.size, 12, none⟩ = some (.int .i64 c.ge) ∧ W0.cell? ⟨w.heap.size, 13, none⟩ = some (.int .i64 c.qu) ∧ Below w.heap.size w W0 :=
    ⟨_, rfl, by go_simp, by go_simp, by go_simp, by go_simp, by go_simp, by go_simp, by go_simp, by go_simp, by go_simp, by go_simp, by go_simp, by go_simp, by go_simp, by go_simp, bnew (brefl w) _⟩
  rw [hW0]
  clear hW0
  clear k1 k2 k3 k4 k5 k6 k7 k8 k9 k10 k11 k12 k13
  generalize hBw : w.heap.size = R at *
  have HBw := Lib.hid hBw
  clear hBw
  have hz : R < W0.heap.size := block_lt_of_cell k0
  refine (hn _).mono ?_
  rintro e w1 ⟨p, rfl, hp, hb1⟩
  have z0 := keep_below k0 hb1
  have kb1 : Below R w w1 := kb.trans (hb1.mono (by omega))
  clear k0 kb hb1 hz
  have hz1 : R < w1.heap.size := block_lt_of_cell z0
  go_wp2_with fail
  refine (hwa _ _ hp).mono ?_
  rintro e w2 ⟨rfl, hb2⟩
  have z1 := keep_below z0 hb2
  have hp2 := hp.below hb2
  have kb2 : Below R w w2 := kb1.trans (hb2.mono (by omega))
  clear z0 kb1 hb2 hp hz1
  have hz2 : R < w2.heap.size := block_lt_of_cell z1
  go_upto_region 5 with (fail)
  obtain ⟨W3, hW3, z3, hp3, kb3, q0, q1, q2, q3⟩ : ∃ W3, w2.alloc (.cells #[.int .i64 x.m, .int .i64 x.k, .int .i64 x.i, .int .i64 x.j] 63) = W3 ∧ W3.cell? ⟨R, 0, none⟩ = some (.int .i64 c.lv) ∧ PBox W3 p c ∧ Below R w W3 ∧ W3.cell? ⟨w2.heap.size, 0, none⟩ = some (.int .i64 x.m) ∧ W3.cell? ⟨w2.heap.size, 1, none⟩ = some (.int .i64 x.k) ∧ W3.cell? ⟨w2.heap.size, 2, none⟩ = some (.int .i64 x.i) ∧ W3.cell? ⟨w2.heap.size, 3, none⟩ = some (.int .i64 x.j) :=
    ⟨_, rfl, keep_below z1 (bnew (brefl _) _), hp2.below (bnew (brefl _) _), kb2.alloc (by omega) _, by go_simp, by go_simp, by go_simp, by go_simp⟩
  rw [hW3]
  clear hW3 z1 hp2 kb2
  generalize w2.heap.size = B1 at *
  have hz3 : R < W3.heap.size := block_lt_of_cell z3
  go_wp2_with fail
  refine (hwb _ _ hp3).mono ?_
  rintro e w4 ⟨rfl, hb4⟩
  have z4 := keep_below z3 hb4
  have hp4 := hp3.below hb4
  have kb4 : Below R w w4 := kb3.trans (hb4.mono (by omega))
  have r0 := keep_below q0 hb4
  have r1 := keep_below q1 hb4
  have r2 := keep_below q2 hb4
  have r3 := keep_below q3 hb4
  clear z3 hp3 kb3 q0 q1 q2 q3 hb4 hz3
  have hz4 : R < w4.heap.size := block_lt_of_cell z4
  go_upto_region 6 with (fail)
  obtain ⟨W5, hW5, z5, hp5, kb5, q0, q1, q2, q3, s0, s1, s2, s3⟩ : ∃ W5, w4.alloc (.cells #[.int .i64 y.m, .int .i64 y.k, .int .i64 y.i, .int .i64 y.j] 63) = W5 ∧ W5.cell? ⟨R, 0, none⟩ = some (.int .i64 c.lv) ∧ PBox W5 p c ∧ Below R w W5 ∧ W5.cell? ⟨B1, 0, none⟩ = some (.int .i64 x.m) ∧ W5.cell? ⟨B1, 1, none⟩ = some (.int .i64 x.k) ∧ W5.cell? ⟨B1, 2, none⟩ = some (.int .i64 x.i) ∧ W5.cell? ⟨B1, 3, none⟩ = some (.int .i64 x.j) ∧ W5.cell? ⟨w4.heap.size, 0, none⟩ = some (.int .i64 y.m) ∧ W5.cell? ⟨w4.heap.size, 1, none⟩ = some (.int .i64 y.k) ∧ W5.cell? ⟨w4.heap.size, 2, none⟩ = some (.int .i64 y.i) ∧ W5.cell? ⟨w4.heap.size, 3, none⟩ = some (.int .i64 y.j) :=
    ⟨_, rfl, keep_below z4 (bnew (brefl _) _), hp4.below (bnew (brefl _) _), kb4.alloc (by omega) _, keep_below r0 (bnew (brefl _) _), keep_below r1 (bnew (brefl _) _), keep_below r2 (bnew (brefl _) _), keep_below r3 (bnew (brefl _) _), by go_simp, by go_simp, by go_simp, by go_simp⟩
  rw [hW5]
  clear hW5 z4 hp4 kb4 r0 r1 r2 r3
  generalize w4.heap.size = B2 at *
  have hz5 : R < W5.heap.size := block_lt_of_cell z5
  have hy1 := block_lt_of_cell q0
  have hy2 := block_lt_of_cell s0
  go_wp2_with fail
  refine (hwd _ _ hp5).mono ?_
  rintro e w6 ⟨rfl, hb6⟩
  have z6 := keep_below z5 hb6
  have hp6 := hp5.below hb6
  have kb6 : Below R w w6 := kb5.trans (hb6.mono (by omega))
  have q0 := keep_below q0 hb6
  have q1 := keep_below q1 hb6
  have q2 := keep_below q2 hb6
  have q3 := keep_below q3 hb6
  have s0 := keep_below s0 hb6
  have s1 := keep_below s1 hb6
  have s2 := keep_below s2 hb6
  have s3 := keep_below s3 hb6
  have hz6 : R < w6.heap.size := block_lt_of_cell z6
  have hy1 := block_lt_of_cell q0
  have hy2 := block_lt_of_cell s0
  clear z5 hp5 kb5 hb6
  go_wp2_with fail
  refine (lives05 _).mono ?_
  rintro e w20 ⟨rfl, hb20⟩
  go_wp2
  go_ret
  exact ⟨rfl, by rw [HBw.out]; exact kb6.trans (hb20.mono (by omega))⟩

set_option maxHeartbeats 4000000 in
set_option maxRecDepth 100000 in
theorem apart_yn (c : Cf) (N : Int) (hN : N ≤ 1672) (a b : Int) (x y : Pl) (ha0 : 0 ≤ a) (ha1 : a < N) (hb0 : decide (0 ≤ b) = false)
    (hwd : ∀ (p : Nat) (w : World), PBox w p c → Calls Try.prog 40 #[.pointer (some ⟨p, 0, none⟩)] w fun e w' => e = .returned (.int .i64 N) ∧ Below w.heap.size w w')
    (hwa : ∀ (p : Nat) (w : World), PBox w p c → Calls Try.prog 38 #[.pointer (some ⟨p, 0, none⟩), .int .i64 a] w fun e w' => e = .returned (.tuple #[.agg #[.int .i64 x.m, .int .i64 x.k, .int .i64 x.i, .int .i64 x.j], .bool true]) ∧ Below w.heap.size w w') (hwb : ∀ (p : Nat) (w : World), PBox w p c → Calls Try.prog 38 #[.pointer (some ⟨p, 0, none⟩), .int .i64 b] w fun e w' => e = .returned (.tuple #[.agg #[.int .i64 y.m, .int .i64 y.k, .int .i64 y.i, .int .i64 y.j], .bool false]) ∧ Below w.heap.size w w')
    (hn : ∀ w : World, Calls Try.prog 35 #[.agg #[.int .i64 c.lv, .int .i64 c.th, .int .i64 c.o0, .int .i64 c.o1, .int .i64 c.o2, .int .i64 c.o3, .int .i64 c.o4, .int .i64 c.o5, .int .i64 c.o6, .int .i64 c.o7, .int .i64 c.sl, .int .i64 c.li, .int .i64 c.ge, .int .i64 c.qu]] w fun e w' => ∃ p, e = .returned (.tuple #[.pointer (some ⟨p, 0, none⟩), .int .i64 0]) ∧ PBox w' p c ∧ Below w.heap.size w w') (w : World) :
    Calls Try.prog 11 #[.agg #[.int .i64 c.lv, .int .i64 c.th, .int .i64 c.o0, .int .i64 c.o1, .int .i64 c.o2, .int .i64 c.o3, .int .i64 c.o4, .int .i64 c.o5, .int .i64 c.o6, .int .i64 c.o7, .int .i64 c.sl, .int .i64 c.li, .int .i64 c.ge, .int .i64 c.qu], .int .i64 a, .int .i64 b] w fun e w' => e = .returned (.bool true) ∧ Below w.heap.size w w' := by
  go_enter Try.func11, Try.ntmps11
  go_wp2_with fail
  obtain ⟨W0, hW0, k0, k1, k2, k3, k4, k5, k6, k7, k8, k9, k10, k11, k12, k13, kb⟩ : ∃ W0, w.alloc (.cells #[.int .i64 c.lv, .int .i64 c.th, .int .i64 c.o0, .int .i64 c.o1, .int .i64 c.o2, .int .i64 c.o3, .int .i64 c.o4, .int .i64 c.o5, .int .i64 c.o6, .int .i64 c.o7, .int .i64 c.sl, .int .i64 c.li, .int .i64 c.ge, .int .i64 c.qu] 45) = W0 ∧ W0.cell? ⟨w.heap.size, 0, none⟩ = some (.int .i64 c.lv) ∧ W0.cell? ⟨w.heap.size, 1, none⟩ = some (.int .i64 c.th) ∧ W0.cell? ⟨w.heap.size, 2, none⟩ = some (.int .i64 c.o0) ∧ W0.cell? ⟨w.heap.size, 3, none⟩ = some (.int .i64 c.o1) ∧ W0.cell? ⟨w.heap.size, 4, none⟩ = some (.int .i64 c.o2) ∧ W0.cell? ⟨w.heap.size, 5, none⟩ = some (.int .i64 c.o3) ∧ W0.cell? ⟨w.heap.size, 6, none⟩ = some (.int .i64 c.o4) ∧ W0.cell? ⟨w.heap.size, 7, none⟩ = some (.int .i64 c.o5) ∧ W0.cell? ⟨w.heap.size, 8, none⟩ = some (.int .i64 c.o6) ∧ W0.cell? ⟨w.heap.size, 9, none⟩ = some (.int .i64 c.o7) ∧ W0.cell? ⟨w.heap.size, 10, none⟩ = some (.int .i64 c.sl) ∧ W0.cell? ⟨w.heap.size, 11, none⟩ = some (.int .i64 c.li) ∧ W0.cell? ⟨w.heap.size, 12, none⟩ = some (.int .i64 c.ge) ∧ W0.cell? ⟨w.heap.size, 13, none⟩ = some (.int .i64 c.qu) ∧ Below w.heap.size w W0 :=
    ⟨_, rfl, by go_simp, by go_simp, by go_simp, by go_simp, by go_simp, by go_simp, by go_simp, by go_simp, by go_simp, by go_simp, by go_simp, by go_simp, by go_simp, by go_simp, bnew (brefl w) _⟩
  rw [hW0]
  clear hW0
  clear k1 k2 k3 k4 k5 k6 k7 k8 k9 k10 k11 k12 k13
  generalize hBw : w.heap.size = R at *
  have HBw := Lib.hid hBw
  clear hBw
  have hz : R < W0.heap.size := block_lt_of_cell k0
  refine (hn _).mono ?_
  rintro e w1 ⟨p, rfl, hp, hb1⟩
  have z0 := keep_below k0 hb1
  have kb1 : Below R w w1 := kb.trans (hb1.mono (by omega))
  clear k0 kb hb1 hz
  have hz1 : R < w1.heap.size := block_lt_of_cell z0
  go_wp2_with fail
  refine (hwa _ _ hp).mono ?_
  rintro e w2 ⟨rfl, hb2⟩
  have z1 := keep_below z0 hb2
  have hp2 := hp.below hb2
  have kb2 : Below R w w2 := kb1.trans (hb2.mono (by omega))
  clear z0 kb1 hb2 hp hz1
  have hz2 : R < w2.heap.size := block_lt_of_cell z1
  go_upto_region 5 with (fail)
  obtain ⟨W3, hW3, z3, hp3, kb3, q0, q1, q2, q3⟩ : ∃ W3, w2.alloc (.cells #[.int .i64 x.m, .int .i64 x.k, .int .i64 x.i, .int .i64 x.j] 63) = W3 ∧ W3.cell? ⟨R, 0, none⟩ = some (.int .i64 c.lv) ∧ PBox W3 p c ∧ Below R w W3 ∧ W3.cell? ⟨w2.heap.size, 0, none⟩ = some (.int .i64 x.m) ∧ W3.cell? ⟨w2.heap.size, 1, none⟩ = some (.int .i64 x.k) ∧ W3.cell? ⟨w2.heap.size, 2, none⟩ = some (.int .i64 x.i) ∧ W3.cell? ⟨w2.heap.size, 3, none⟩ = some (.int .i64 x.j) :=
    ⟨_, rfl, keep_below z1 (bnew (brefl _) _), hp2.below (bnew (brefl _) _), kb2.alloc (by omega) _, by go_simp, by go_simp, by go_simp, by go_simp⟩
  rw [hW3]
  clear hW3 z1 hp2 kb2
  generalize w2.heap.size = B1 at *
  have hz3 : R < W3.heap.size := block_lt_of_cell z3
  go_wp2_with fail
  refine (hwb _ _ hp3).mono ?_
  rintro e w4 ⟨rfl, hb4⟩
  have z4 := keep_below z3 hb4
  have hp4 := hp3.below hb4
  have kb4 : Below R w w4 := kb3.trans (hb4.mono (by omega))
  have r0 := keep_below q0 hb4
  have r1 := keep_below q1 hb4
  have r2 := keep_below q2 hb4
  have r3 := keep_below q3 hb4
  clear z3 hp3 kb3 q0 q1 q2 q3 hb4 hz3
  have hz4 : R < w4.heap.size := block_lt_of_cell z4
  go_upto_region 6 with (fail)
  obtain ⟨W5, hW5, z5, hp5, kb5, q0, q1, q2, q3, s0, s1, s2, s3⟩ : ∃ W5, w4.alloc (.cells #[.int .i64 y.m, .int .i64 y.k, .int .i64 y.i, .int .i64 y.j] 63) = W5 ∧ W5.cell? ⟨R, 0, none⟩ = some (.int .i64 c.lv) ∧ PBox W5 p c ∧ Below R w W5 ∧ W5.cell? ⟨B1, 0, none⟩ = some (.int .i64 x.m) ∧ W5.cell? ⟨B1, 1, none⟩ = some (.int .i64 x.k) ∧ W5.cell? ⟨B1, 2, none⟩ = some (.int .i64 x.i) ∧ W5.cell? ⟨B1, 3, none⟩ = some (.int .i64 x.j) ∧ W5.cell? ⟨w4.heap.size, 0, none⟩ = some (.int .i64 y.m) ∧ W5.cell? ⟨w4.heap.size, 1, none⟩ = some (.int .i64 y.k) ∧ W5.cell? ⟨w4.heap.size, 2, none⟩ = some (.int .i64 y.i) ∧ W5.cell? ⟨w4.heap.size, 3, none⟩ = some (.int .i64 y.j) :=
    ⟨_, rfl, keep_below z4 (bnew (brefl _) _), hp4.below (bnew (brefl _) _), kb4.alloc (by omega) _, keep_below r0 (bnew (brefl _) _), keep_below r1 (bnew (brefl _) _), keep_below r2 (bnew (brefl _) _), keep_below r3 (bnew (brefl _) _), by go_simp, by go_simp, by go_simp, by go_simp⟩
  rw [hW5]
  clear hW5 z4 hp4 kb4 r0 r1 r2 r3
  generalize w4.heap.size = B2 at *
  have hz5 : R < W5.heap.size := block_lt_of_cell z5
  have hy1 := block_lt_of_cell q0
  have hy2 := block_lt_of_cell s0
  go_wp2_with fail
  refine (hwd _ _ hp5).mono ?_
  rintro e w6 ⟨rfl, hb6⟩
  have z6 := keep_below z5 hb6
  have hp6 := hp5.below hb6
  have kb6 : Below R w w6 := kb5.trans (hb6.mono (by omega))
  have q0 := keep_below q0 hb6
  have q1 := keep_below q1 hb6
  have q2 := keep_below q2 hb6
  have q3 := keep_below q3 hb6
  have s0 := keep_below s0 hb6
  have s1 := keep_below s1 hb6
  have s2 := keep_below s2 hb6
  have s3 := keep_below s3 hb6
  have hz6 : R < w6.heap.size := block_lt_of_cell z6
  have hy1 := block_lt_of_cell q0
  have hy2 := block_lt_of_cell s0
  clear z5 hp5 kb5 hb6
  go_wp2_with fail
  refine (lives05 _).mono ?_
  rintro e w20 ⟨rfl, hb20⟩
  go_wp2
  go_ret
  exact ⟨rfl, by rw [HBw.out]; exact kb6.trans (hb20.mono (by omega))⟩

set_option maxHeartbeats 4000000 in
set_option maxRecDepth 100000 in
theorem apart_yye (c : Cf) (N : Int) (hN : N ≤ 1672) (a : Int) (x : Pl) (ha0 : 0 ≤ a) (ha1 : a < N)
    (hwd : ∀ (p : Nat) (w : World), PBox w p c → Calls Try.prog 40 #[.pointer (some ⟨p, 0, none⟩)] w fun e w' => e = .returned (.int .i64 N) ∧ Below w.heap.size w w')
    (hwa : ∀ (p : Nat) (w : World), PBox w p c → Calls Try.prog 38 #[.pointer (some ⟨p, 0, none⟩), .int .i64 a] w fun e w' => e = .returned (.tuple #[.agg #[.int .i64 x.m, .int .i64 x.k, .int .i64 x.i, .int .i64 x.j], .bool true]) ∧ Below w.heap.size w w') (hata : ∀ (p : Nat) (w : World), PBox w p c → Calls Try.prog 39 #[.pointer (some ⟨p, 0, none⟩), .agg #[.int .i64 x.m, .int .i64 x.k, .int .i64 x.i, .int .i64 x.j]] w fun e w' => e = .returned (.int .i64 a) ∧ Below w.heap.size w w') (hlv : x.m < c.lv) (hq : ∀ w : World, (binOp .eql 63 (.agg #[.int .i64 x.m, .int .i64 x.k, .int .i64 x.i, .int .i64 x.j]) (.agg #[.int .i64 x.m, .int .i64 x.k, .int .i64 x.i, .int .i64 x.j])).run Try.prog w = .ok (.bool true) w)
    (hn : ∀ w : World, Calls Try.prog 35 #[.agg #[.int .i64 c.lv, .int .i64 c.th, .int .i64 c.o0, .int .i64 c.o1, .int .i64 c.o2, .int .i64 c.o3, .int .i64 c.o4, .int .i64 c.o5, .int .i64 c.o6, .int .i64 c.o7, .int .i64 c.sl, .int .i64 c.li, .int .i64 c.ge, .int .i64 c.qu]] w fun e w' => ∃ p, e = .returned (.tuple #[.pointer (some ⟨p, 0, none⟩), .int .i64 0]) ∧ PBox w' p c ∧ Below w.heap.size w w') (w : World) :
    Calls Try.prog 11 #[.agg #[.int .i64 c.lv, .int .i64 c.th, .int .i64 c.o0, .int .i64 c.o1, .int .i64 c.o2, .int .i64 c.o3, .int .i64 c.o4, .int .i64 c.o5, .int .i64 c.o6, .int .i64 c.o7, .int .i64 c.sl, .int .i64 c.li, .int .i64 c.ge, .int .i64 c.qu], .int .i64 a, .int .i64 a] w fun e w' => e = .returned (.bool true) ∧ Below w.heap.size w w' := by
  go_enter Try.func11, Try.ntmps11
  go_wp2_with fail
  obtain ⟨W0, hW0, k0, k1, k2, k3, k4, k5, k6, k7, k8, k9, k10, k11, k12, k13, kb⟩ : ∃ W0, w.alloc (.cells #[.int .i64 c.lv, .int .i64 c.th, .int .i64 c.o0, .int .i64 c.o1, .int .i64 c.o2, .int .i64 c.o3, .int .i64 c.o4, .int .i64 c.o5, .int .i64 c.o6, .int .i64 c.o7, .int .i64 c.sl, .int .i64 c.li, .int .i64 c.ge, .int .i64 c.qu] 45) = W0 ∧ W0.cell? ⟨w.heap.size, 0, none⟩ = some (.int .i64 c.lv) ∧ W0.cell? ⟨w.heap.size, 1, none⟩ = some (.int .i64 c.th) ∧ W0.cell? ⟨w.heap.size, 2, none⟩ = some (.int .i64 c.o0) ∧ W0.cell? ⟨w.heap.size, 3, none⟩ = some (.int .i64 c.o1) ∧ W0.cell? ⟨w.heap.size, 4, none⟩ = some (.int .i64 c.o2) ∧ W0.cell? ⟨w.heap.size, 5, none⟩ = some (.int .i64 c.o3) ∧ W0.cell? ⟨w.heap.size, 6, none⟩ = some (.int .i64 c.o4) ∧ W0.cell? ⟨w.heap.size, 7, none⟩ = some (.int .i64 c.o5) ∧ W0.cell? ⟨w.heap.size, 8, none⟩ = some (.int .i64 c.o6) ∧ W0.cell? ⟨w.heap.size, 9, none⟩ = some (.int .i64 c.o7) ∧ W0.cell? ⟨w.heap.size, 10, none⟩ = some (.int .i64 c.sl) ∧ W0.cell? ⟨w.heap.size, 11, none⟩ = some (.int .i64 c.li) ∧ W0.cell? ⟨w.heap.size, 12, none⟩ = some (.int .i64 c.ge) ∧ W0.cell? ⟨w.heap.size, 13, none⟩ = some (.int .i64 c.qu) ∧ Below w.heap.size w W0 :=
    ⟨_, rfl, by go_simp, by go_simp, by go_simp, by go_simp, by go_simp, by go_simp, by go_simp, by go_simp, by go_simp, by go_simp, by go_simp, by go_simp, by go_simp, by go_simp, bnew (brefl w) _⟩
  rw [hW0]
  clear hW0
  clear k1 k2 k3 k4 k5 k6 k7 k8 k9 k10 k11 k12 k13
  generalize hBw : w.heap.size = R at *
  have HBw := Lib.hid hBw
  clear hBw
  have hz : R < W0.heap.size := block_lt_of_cell k0
  refine (hn _).mono ?_
  rintro e w1 ⟨p, rfl, hp, hb1⟩
  have z0 := keep_below k0 hb1
  have kb1 : Below R w w1 := kb.trans (hb1.mono (by omega))
  clear k0 kb hb1 hz
  have hz1 : R < w1.heap.size := block_lt_of_cell z0
  go_wp2_with fail
  refine (hwa _ _ hp).mono ?_
  rintro e w2 ⟨rfl, hb2⟩
  have z1 := keep_below z0 hb2
  have hp2 := hp.below hb2
  have kb2 : Below R w w2 := kb1.trans (hb2.mono (by omega))
  clear z0 kb1 hb2 hp hz1
  have hz2 : R < w2.heap.size := block_lt_of_cell z1
  go_upto_region 5 with (fail)
  obtain ⟨W3, hW3, z3, hp3, kb3, q0, q1, q2, q3⟩ : ∃ W3, w2.alloc (.cells #[.int .i64 x.m, .int .i64 x.k, .int .i64 x.i, .int .i64 x.j] 63) = W3 ∧ W3.cell? ⟨R, 0, none⟩ = some (.int .i64 c.lv) ∧ PBox W3 p c ∧ Below R w W3 ∧ W3.cell? ⟨w2.heap.size, 0, none⟩ = some (.int .i64 x.m) ∧ W3.cell? ⟨w2.heap.size, 1, none⟩ = some (.int .i64 x.k) ∧ W3.cell? ⟨w2.heap.size, 2, none⟩ = some (.int .i64 x.i) ∧ W3.cell? ⟨w2.heap.size, 3, none⟩ = some (.int .i64 x.j) :=
    ⟨_, rfl, keep_below z1 (bnew (brefl _) _), hp2.below (bnew (brefl _) _), kb2.alloc (by omega) _, by go_simp, by go_simp, by go_simp, by go_simp⟩
  rw [hW3]
  clear hW3 z1 hp2 kb2
  generalize w2.heap.size = B1 at *
  have hz3 : R < W3.heap.size := block_lt_of_cell z3
  go_wp2_with fail
  refine (hwa _ _ hp3).mono ?_
  rintro e w4 ⟨rfl, hb4⟩
  have z4 := keep_below z3 hb4
  have hp4 := hp3.below hb4
  have kb4 : Below R w w4 := kb3.trans (hb4.mono (by omega))
  have r0 := keep_below q0 hb4
  have r1 := keep_below q1 hb4
  have r2 := keep_below q2 hb4
  have r3 := keep_below q3 hb4
  clear z3 hp3 kb3 q0 q1 q2 q3 hb4 hz3
  have hz4 : R < w4.heap.size := block_lt_of_cell z4
  go_upto_region 6 with (fail)
  obtain ⟨W5, hW5, z5, hp5, kb5, q0, q1, q2, q3, s0, s1, s2, s3⟩ : ∃ W5, w4.alloc (.cells #[.int .i64 x.m, .int .i64 x.k, .int .i64 x.i, .int .i64 x.j] 63) = W5 ∧ W5.cell? ⟨R, 0, none⟩ = some (.int .i64 c.lv) ∧ PBox W5 p c ∧ Below R w W5 ∧ W5.cell? ⟨B1, 0, none⟩ = some (.int .i64 x.m) ∧ W5.cell? ⟨B1, 1, none⟩ = some (.int .i64 x.k) ∧ W5.cell? ⟨B1, 2, none⟩ = some (.int .i64 x.i) ∧ W5.cell? ⟨B1, 3, none⟩ = some (.int .i64 x.j) ∧ W5.cell? ⟨w4.heap.size, 0, none⟩ = some (.int .i64 x.m) ∧ W5.cell? ⟨w4.heap.size, 1, none⟩ = some (.int .i64 x.k) ∧ W5.cell? ⟨w4.heap.size, 2, none⟩ = some (.int .i64 x.i) ∧ W5.cell? ⟨w4.heap.size, 3, none⟩ = some (.int .i64 x.j) :=
    ⟨_, rfl, keep_below z4 (bnew (brefl _) _), hp4.below (bnew (brefl _) _), kb4.alloc (by omega) _, keep_below r0 (bnew (brefl _) _), keep_below r1 (bnew (brefl _) _), keep_below r2 (bnew (brefl _) _), keep_below r3 (bnew (brefl _) _), by go_simp, by go_simp, by go_simp, by go_simp⟩
  rw [hW5]
  clear hW5 z4 hp4 kb4 r0 r1 r2 r3
  generalize w4.heap.size = B2 at *
  have hz5 : R < W5.heap.size := block_lt_of_cell z5
  have hy1 := block_lt_of_cell q0
  have hy2 := block_lt_of_cell s0
  go_wp2_with fail
  refine (hwd _ _ hp5).mono ?_
  rintro e w6 ⟨rfl, hb6⟩
  have z6 := keep_below z5 hb6
  have hp6 := hp5.below hb6
  have kb6 : Below R w w6 := kb5.trans (hb6.mono (by omega))
  have q0 := keep_below q0 hb6
  have q1 := keep_below q1 hb6
  have q2 := keep_below q2 hb6
  have q3 := keep_below q3 hb6
  have s0 := keep_below s0 hb6
  have s1 := keep_below s1 hb6
  have s2 := keep_below s2 hb6
  have s3 := keep_below s3 hb6
  have hz6 : R < w6.heap.size := block_lt_of_cell z6
  have hy1 := block_lt_of_cell q0
  have hy2 := block_lt_of_cell s0
  clear z5 hp5 kb5 hb6
  go_wp2_with fail
  refine (hwd _ _ hp6).mono ?_
  rintro e w7 ⟨rfl, hb7⟩
  have z7 := keep_below z6 hb7
  have hp7 := hp6.below hb7
  have kb7 : Below R w w7 := kb6.trans (hb7.mono (by omega))
  have q0 := keep_below q0 hb7
  have q1 := keep_below q1 hb7
  have q2 := keep_below q2 hb7
  have q3 := keep_below q3 hb7
  have s0 := keep_below s0 hb7
  have s1 := keep_below s1 hb7
  have s2 := keep_below s2 hb7
  have s3 := keep_below s3 hb7
  have hz7 : R < w7.heap.size := block_lt_of_cell z7
  have hy1 := block_lt_of_cell q0
  have hy2 := block_lt_of_cell s0
  clear z6 hp6 kb6 hb7
  go_wp2_with fail
  refine (hata _ _ hp7).mono ?_
  rintro e w8 ⟨rfl, hb8⟩
  have z8 := keep_below z7 hb8
  have hp8 := hp7.below hb8
  have kb8 : Below R w w8 := kb7.trans (hb8.mono (by omega))
  have q0 := keep_below q0 hb8
  have q1 := keep_below q1 hb8
  have q2 := keep_below q2 hb8
  have q3 := keep_below q3 hb8
  have s0 := keep_below s0 hb8
  have s1 := keep_below s1 hb8
  have s2 := keep_below s2 hb8
  have s3 := keep_below s3 hb8
  have hz8 : R < w8.heap.size := block_lt_of_cell z8
  have hy1 := block_lt_of_cell q0
  have hy2 := block_lt_of_cell s0
  clear z7 hp7 kb7 hb8
  go_wp2_with fail
  refine (hata _ _ hp8).mono ?_
  rintro e w9 ⟨rfl, hb9⟩
  have z9 := keep_below z8 hb9
  have hp9 := hp8.below hb9
  have kb9 : Below R w w9 := kb8.trans (hb9.mono (by omega))
  have q0 := keep_below q0 hb9
  have q1 := keep_below q1 hb9
  have q2 := keep_below q2 hb9
  have q3 := keep_below q3 hb9
  have s0 := keep_below s0 hb9
  have s1 := keep_below s1 hb9
  have s2 := keep_below s2 hb9
  have s3 := keep_below s3 hb9
  have hz9 : R < w9.heap.size := block_lt_of_cell z9
  have hy1 := block_lt_of_cell q0
  have hy2 := block_lt_of_cell s0
  clear z8 hp8 kb8 hb9
  go_wp2_with fail
  refine (lives05 _).mono ?_
  rintro e w20 ⟨rfl, hb20⟩
  go_wp2
  go_ret
  exact ⟨rfl, by rw [HBw.out]; exact kb9.trans (hb20.mono (by omega))⟩

set_option maxHeartbeats 4000000 in
set_option maxRecDepth 100000 in
theorem apart_yyl (c : Cf) (N : Int) (hN : N ≤ 1672) (a b : Int) (x y : Pl) (ha0 : 0 ≤ a) (ha1 : a < N) (hb0 : 0 ≤ b) (hb1 : b < N)
    (hwd : ∀ (p : Nat) (w : World), PBox w p c → Calls Try.prog 40 #[.pointer (some ⟨p, 0, none⟩)] w fun e w' => e = .returned (.int .i64 N) ∧ Below w.heap.size w w')
    (hwa : ∀ (p : Nat) (w : World), PBox w p c → Calls Try.prog 38 #[.pointer (some ⟨p, 0, none⟩), .int .i64 a] w fun e w' => e = .returned (.tuple #[.agg #[.int .i64 x.m, .int .i64 x.k, .int .i64 x.i, .int .i64 x.j], .bool true]) ∧ Below w.heap.size w w') (hwb : ∀ (p : Nat) (w : World), PBox w p c → Calls Try.prog 38 #[.pointer (some ⟨p, 0, none⟩), .int .i64 b] w fun e w' => e = .returned (.tuple #[.agg #[.int .i64 y.m, .int .i64 y.k, .int .i64 y.i, .int .i64 y.j], .bool true]) ∧ Below w.heap.size w w') (hata : ∀ (p : Nat) (w : World), PBox w p c → Calls Try.prog 39 #[.pointer (some ⟨p, 0, none⟩), .agg #[.int .i64 x.m, .int .i64 x.k, .int .i64 x.i, .int .i64 x.j]] w fun e w' => e = .returned (.int .i64 a) ∧ Below w.heap.size w w') (hatb : ∀ (p : Nat) (w : World), PBox w p c → Calls Try.prog 39 #[.pointer (some ⟨p, 0, none⟩), .agg #[.int .i64 y.m, .int .i64 y.k, .int .i64 y.i, .int .i64 y.j]] w fun e w' => e = .returned (.int .i64 b) ∧ Below w.heap.size w w') (hlv : x.m < c.lv) (hq : ∀ w : World, (binOp .eql 63 (.agg #[.int .i64 x.m, .int .i64 x.k, .int .i64 x.i, .int .i64 x.j]) (.agg #[.int .i64 y.m, .int .i64 y.k, .int .i64 y.i, .int .i64 y.j])).run Try.prog w = .ok (.bool false) w) (hab : (a == b) = false) (hlt : decide (b < a) = false) (hmm : x.m ≤ y.m)
    (hn : ∀ w : World, Calls Try.prog 35 #[.agg #[.int .i64 c.lv, .int .i64 c.th, .int .i64 c.o0, .int .i64 c.o1, .int .i64 c.o2, .int .i64 c.o3, .int .i64 c.o4, .int .i64 c.o5, .int .i64 c.o6, .int .i64 c.o7, .int .i64 c.sl, .int .i64 c.li, .int .i64 c.ge, .int .i64 c.qu]] w fun e w' => ∃ p, e = .returned (.tuple #[.pointer (some ⟨p, 0, none⟩), .int .i64 0]) ∧ PBox w' p c ∧ Below w.heap.size w w') (w : World) :
    Calls Try.prog 11 #[.agg #[.int .i64 c.lv, .int .i64 c.th, .int .i64 c.o0, .int .i64 c.o1, .int .i64 c.o2, .int .i64 c.o3, .int .i64 c.o4, .int .i64 c.o5, .int .i64 c.o6, .int .i64 c.o7, .int .i64 c.sl, .int .i64 c.li, .int .i64 c.ge, .int .i64 c.qu], .int .i64 a, .int .i64 b] w fun e w' => e = .returned (.bool true) ∧ Below w.heap.size w w' := by
  go_enter Try.func11, Try.ntmps11
  go_wp2_with fail
  obtain ⟨W0, hW0, k0, k1, k2, k3, k4, k5, k6, k7, k8, k9, k10, k11, k12, k13, kb⟩ : ∃ W0, w.alloc (.cells #[.int .i64 c.lv, .int .i64 c.th, .int .i64 c.o0, .int .i64 c.o1, .int .i64 c.o2, .int .i64 c.o3, .int .i64 c.o4, .int .i64 c.o5, .int .i64 c.o6, .int .i64 c.o7, .int .i64 c.sl, .int .i64 c.li, .int .i64 c.ge, .int .i64 c.qu] 45) = W0 ∧ W0.cell? ⟨w.heap.size, 0, none⟩ = some (.int .i64 c.lv) ∧ W0.cell? ⟨w.heap.size, 1, none⟩ = some (.int .i64 c.th) ∧ W0.cell? ⟨w.heap.size, 2, none⟩ = some (.int .i64 c.o0) ∧ W0.cell? ⟨w.heap.size, 3, none⟩ = some (.int .i64 c.o1) ∧ W0.cell? ⟨w.heap.size, 4, none⟩ = some (.int .i64 c.o2) ∧ W0.cell? ⟨w.heap.size, 5, none⟩ = some (.int .i64 c.o3) ∧ W0.cell? ⟨w.heap.size, 6, none⟩ = some (.int .i64 c.o4) ∧ W0.cell? ⟨w.heap.size, 7, none⟩ = some (.int .i64 c.o5) ∧ W0.cell? ⟨w.heap.size, 8, none⟩ = some (.int .i64 c.o6) ∧ W0.cell? ⟨w.heap.size, 9, none⟩ = some (.int .i64 c.o7) ∧ W0.cell? ⟨w.heap.size, 10, none⟩ = some (.int .i64 c.sl) ∧ W0.cell? ⟨w.heap.size, 11, none⟩ = some (.int .i64 c.li) ∧ W0.cell? ⟨w.heap.size, 12, none⟩ = some (.int .i64 c.ge) ∧ W0.cell? ⟨w.heap.size, 13, none⟩ = some (.int .i64 c.qu) ∧ Below w.heap.size w W0 :=
    ⟨_, rfl, by go_simp, by go_simp, by go_simp, by go_simp, by go_simp, by go_simp, by go_simp, by go_simp, by go_simp, by go_simp, by go_simp, by go_simp, by go_simp, by go_simp, bnew (brefl w) _⟩
  rw [hW0]
  clear hW0
  clear k1 k2 k3 k4 k5 k6 k7 k8 k9 k10 k11 k12 k13
  generalize hBw : w.heap.size = R at *
  have HBw := Lib.hid hBw
  clear hBw
  have hz : R < W0.heap.size := block_lt_of_cell k0
  refine (hn _).mono ?_
  rintro e w1 ⟨p, rfl, hp, hb1⟩
  have z0 := keep_below k0 hb1
  have kb1 : Below R w w1 := kb.trans (hb1.mono (by omega))
  clear k0 kb hb1 hz
  have hz1 : R < w1.heap.size := block_lt_of_cell z0
  go_wp2_with fail
  refine (hwa _ _ hp).mono ?_
  rintro e w2 ⟨rfl, hb2⟩
  have z1 := keep_below z0 hb2
  have hp2 := hp.below hb2
  have kb2 : Below R w w2 := kb1.trans (hb2.mono (by omega))
  clear z0 kb1 hb2 hp hz1
  have hz2 : R < w2.heap.size := block_lt_of_cell z1
  go_upto_region 5 with (fail)
  obtain ⟨W3, hW3, z3, hp3, kb3, q0, q1, q2, q3⟩ : ∃ W3, w2.alloc (.cells #[.int .i64 x.m, .int .i64 x.k, .int .i64 x.i, .int .i64 x.j] 63) = W3 ∧ W3.cell? ⟨R, 0, none⟩ = some (.int .i64 c.lv) ∧ PBox W3 p c ∧ Below R w W3 ∧ W3.cell? ⟨w2.heap.size, 0, none⟩ = some (.int .i64 x.m) ∧ W3.cell? ⟨w2.heap.size, 1, none⟩ = some (.int .i64 x.k) ∧ W3.cell? ⟨w2.heap.size, 2, none⟩ = some (.int .i64 x.i) ∧ W3.cell? ⟨w2.heap.size, 3, none⟩ = some (.int .i64 x.j) :=
    ⟨_, rfl, keep_below z1 (bnew (brefl _) _), hp2.below (bnew (brefl _) _), kb2.alloc (by omega) _, by go_simp, by go_simp, by go_simp, by go_simp⟩
  rw [hW3]
  clear hW3 z1 hp2 kb2
  generalize w2.heap.size = B1 at *
  have hz3 : R < W3.heap.size := block_lt_of_cell z3
  go_wp2_with fail
  refine (hwb _ _ hp3).mono ?_
  rintro e w4 ⟨rfl, hb4⟩
  have z4 := keep_below z3 hb4
  have hp4 := hp3.below hb4
  have kb4 : Below R w w4 := kb3.trans (hb4.mono (by omega))
  have r0 := keep_below q0 hb4
  have r1 := keep_below q1 hb4
  have r2 := keep_below q2 hb4
  have r3 := keep_below q3 hb4
  clear z3 hp3 kb3 q0 q1 q2 q3 hb4 hz3
  have hz4 : R < w4.heap.size := block_lt_of_cell z4
  go_upto_region 6 with (fail)
  obtain ⟨W5, hW5, z5, hp5, kb5, q0, q1, q2, q3, s0, s1, s2, s3⟩ : ∃ W5, w4.alloc (.cells #[.int .i64 y.m, .int .i64 y.k, .int .i64 y.i, .int .i64 y.j] 63) = W5 ∧ W5.cell? ⟨R, 0, none⟩ = some (.int .i64 c.lv) ∧ PBox W5 p c ∧ Below R w W5 ∧ W5.cell? ⟨B1, 0, none⟩ = some (.int .i64 x.m) ∧ W5.cell? ⟨B1, 1, none⟩ = some (.int .i64 x.k) ∧ W5.cell? ⟨B1, 2, none⟩ = some (.int .i64 x.i) ∧ W5.cell? ⟨B1, 3, none⟩ = some (.int .i64 x.j) ∧ W5.cell? ⟨w4.heap.size, 0, none⟩ = some (.int .i64 y.m) ∧ W5.cell? ⟨w4.heap.size, 1, none⟩ = some (.int .i64 y.k) ∧ W5.cell? ⟨w4.heap.size, 2, none⟩ = some (.int .i64 y.i) ∧ W5.cell? ⟨w4.heap.size, 3, none⟩ = some (.int .i64 y.j) :=
    ⟨_, rfl, keep_below z4 (bnew (brefl _) _), hp4.below (bnew (brefl _) _), kb4.alloc (by omega) _, keep_below r0 (bnew (brefl _) _), keep_below r1 (bnew (brefl _) _), keep_below r2 (bnew (brefl _) _), keep_below r3 (bnew (brefl _) _), by go_simp, by go_simp, by go_simp, by go_simp⟩
  rw [hW5]
  clear hW5 z4 hp4 kb4 r0 r1 r2 r3
  generalize w4.heap.size = B2 at *
  have hz5 : R < W5.heap.size := block_lt_of_cell z5
  have hy1 := block_lt_of_cell q0
  have hy2 := block_lt_of_cell s0
  go_wp2_with fail
  refine (hwd _ _ hp5).mono ?_
  rintro e w6 ⟨rfl, hb6⟩
  have z6 := keep_below z5 hb6
  have hp6 := hp5.below hb6
  have kb6 : Below R w w6 := kb5.trans (hb6.mono (by omega))
  have q0 := keep_below q0 hb6
  have q1 := keep_below q1 hb6
  have q2 := keep_below q2 hb6
  have q3 := keep_below q3 hb6
  have s0 := keep_below s0 hb6
  have s1 := keep_below s1 hb6
  have s2 := keep_below s2 hb6
  have s3 := keep_below s3 hb6
  have hz6 : R < w6.heap.size := block_lt_of_cell z6
  have hy1 := block_lt_of_cell q0
  have hy2 := block_lt_of_cell s0
  clear z5 hp5 kb5 hb6
  go_wp2_with fail
  refine (hwd _ _ hp6).mono ?_
  rintro e w7 ⟨rfl, hb7⟩
  have z7 := keep_below z6 hb7
  have hp7 := hp6.below hb7
  have kb7 : Below R w w7 := kb6.trans (hb7.mono (by omega))
  have q0 := keep_below q0 hb7
  have q1 := keep_below q1 hb7
  have q2 := keep_below q2 hb7
  have q3 := keep_below q3 hb7
  have s0 := keep_below s0 hb7
  have s1 := keep_below s1 hb7
  have s2 := keep_below s2 hb7
  have s3 := keep_below s3 hb7
  have hz7 : R < w7.heap.size := block_lt_of_cell z7
  have hy1 := block_lt_of_cell q0
  have hy2 := block_lt_of_cell s0
  clear z6 hp6 kb6 hb7
  go_wp2_with fail
  refine (hata _ _ hp7).mono ?_
  rintro e w8 ⟨rfl, hb8⟩
  have z8 := keep_below z7 hb8
  have hp8 := hp7.below hb8
  have kb8 : Below R w w8 := kb7.trans (hb8.mono (by omega))
  have q0 := keep_below q0 hb8
  have q1 := keep_below q1 hb8
  have q2 := keep_below q2 hb8
  have q3 := keep_below q3 hb8
  have s0 := keep_below s0 hb8
  have s1 := keep_below s1 hb8
  have s2 := keep_below s2 hb8
  have s3 := keep_below s3 hb8
  have hz8 : R < w8.heap.size := block_lt_of_cell z8
  have hy1 := block_lt_of_cell q0
  have hy2 := block_lt_of_cell s0
  clear z7 hp7 kb7 hb8
  go_wp2_with fail
  refine (hatb _ _ hp8).mono ?_
  rintro e w9 ⟨rfl, hb9⟩
  have z9 := keep_below z8 hb9
  have hp9 := hp8.below hb9
  have kb9 : Below R w w9 := kb8.trans (hb9.mono (by omega))
  have q0 := keep_below q0 hb9
  have q1 := keep_below q1 hb9
  have q2 := keep_below q2 hb9
  have q3 := keep_below q3 hb9
  have s0 := keep_below s0 hb9
  have s1 := keep_below s1 hb9
  have s2 := keep_below s2 hb9
  have s3 := keep_below s3 hb9
  have hz9 : R < w9.heap.size := block_lt_of_cell z9
  have hy1 := block_lt_of_cell q0
  have hy2 := block_lt_of_cell s0
  clear z8 hp8 kb8 hb9
  go_wp2_with fail
  refine (lives05 _).mono ?_
  rintro e w20 ⟨rfl, hb20⟩
  go_wp2
  go_ret
  exact ⟨rfl, by rw [HBw.out]; exact kb9.trans (hb20.mono (by omega))⟩

set_option maxHeartbeats 4000000 in
set_option maxRecDepth 100000 in
theorem apart_yyg (c : Cf) (N : Int) (hN : N ≤ 1672) (a b : Int) (x y : Pl) (ha0 : 0 ≤ a) (ha1 : a < N) (hb0 : 0 ≤ b) (hb1 : b < N)
    (hwd : ∀ (p : Nat) (w : World), PBox w p c → Calls Try.prog 40 #[.pointer (some ⟨p, 0, none⟩)] w fun e w' => e = .returned (.int .i64 N) ∧ Below w.heap.size w w')
    (hwa : ∀ (p : Nat) (w : World), PBox w p c → Calls Try.prog 38 #[.pointer (some ⟨p, 0, none⟩), .int .i64 a] w fun e w' => e = .returned (.tuple #[.agg #[.int .i64 x.m, .int .i64 x.k, .int .i64 x.i, .int .i64 x.j], .bool true]) ∧ Below w.heap.size w w') (hwb : ∀ (p : Nat) (w : World), PBox w p c → Calls Try.prog 38 #[.pointer (some ⟨p, 0, none⟩), .int .i64 b] w fun e w' => e = .returned (.tuple #[.agg #[.int .i64 y.m, .int .i64 y.k, .int .i64 y.i, .int .i64 y.j], .bool true]) ∧ Below w.heap.size w w') (hata : ∀ (p : Nat) (w : World), PBox w p c → Calls Try.prog 39 #[.pointer (some ⟨p, 0, none⟩), .agg #[.int .i64 x.m, .int .i64 x.k, .int .i64 x.i, .int .i64 x.j]] w fun e w' => e = .returned (.int .i64 a) ∧ Below w.heap.size w w') (hatb : ∀ (p : Nat) (w : World), PBox w p c → Calls Try.prog 39 #[.pointer (some ⟨p, 0, none⟩), .agg #[.int .i64 y.m, .int .i64 y.k, .int .i64 y.i, .int .i64 y.j]] w fun e w' => e = .returned (.int .i64 b) ∧ Below w.heap.size w w') (hlv : x.m < c.lv) (hq : ∀ w : World, (binOp .eql 63 (.agg #[.int .i64 x.m, .int .i64 x.k, .int .i64 x.i, .int .i64 x.j]) (.agg #[.int .i64 y.m, .int .i64 y.k, .int .i64 y.i, .int .i64 y.j])).run Try.prog w = .ok (.bool false) w) (hab : (a == b) = false) (hlt : b < a)
    (hn : ∀ w : World, Calls Try.prog 35 #[.agg #[.int .i64 c.lv, .int .i64 c.th, .int .i64 c.o0, .int .i64 c.o1, .int .i64 c.o2, .int .i64 c.o3, .int .i64 c.o4, .int .i64 c.o5, .int .i64 c.o6, .int .i64 c.o7, .int .i64 c.sl, .int .i64 c.li, .int .i64 c.ge, .int .i64 c.qu]] w fun e w' => ∃ p, e = .returned (.tuple #[.pointer (some ⟨p, 0, none⟩), .int .i64 0]) ∧ PBox w' p c ∧ Below w.heap.size w w') (w : World) :
    Calls Try.prog 11 #[.agg #[.int .i64 c.lv, .int .i64 c.th, .int .i64 c.o0, .int .i64 c.o1, .int .i64 c.o2, .int .i64 c.o3, .int .i64 c.o4, .int .i64 c.o5, .int .i64 c.o6, .int .i64 c.o7, .int .i64 c.sl, .int .i64 c.li, .int .i64 c.ge, .int .i64 c.qu], .int .i64 a, .int .i64 b] w fun e w' => e = .returned (.bool true) ∧ Below w.heap.size w w' := by
  go_enter Try.func11, Try.ntmps11
  go_wp2_with fail
  obtain ⟨W0, hW0, k0, k1, k2, k3, k4, k5, k6, k7, k8, k9, k10, k11, k12, k13, kb⟩ : ∃ W0, w.alloc (.cells #[.int .i64 c.lv, .int .i64 c.th, .int .i64 c.o0, .int .i64 c.o1, .int .i64 c.o2, .int .i64 c.o3, .int .i64 c.o4, .int .i64 c.o5, .int .i64 c.o6, .int .i64 c.o7, .int .i64 c.sl, .int .i64 c.li, .int .i64 c.ge, .int .i64 c.qu] 45) = W0 ∧ W0.cell? ⟨w.heap.size, 0, none⟩ = some (.int .i64 c.lv) ∧ W0.cell? ⟨w.heap.size, 1, none⟩ = some (.int .i64 c.th) ∧ W0.cell? ⟨w.heap.size, 2, none⟩ = some (.int .i64 c.o0) ∧ W0.cell? ⟨w.heap.size, 3, none⟩ = some (.int .i64 c.o1) ∧ W0.cell? ⟨w.heap.size, 4, none⟩ = some (.int .i64 c.o2) ∧ W0.cell? ⟨w.heap.size, 5, none⟩ = some (.int .i64 c.o3) ∧ W0.cell? ⟨w.heap.size, 6, none⟩ = some (.int .i64 c.o4) ∧ W0.cell? ⟨w.heap.size, 7, none⟩ = some (.int .i64 c.o5) ∧ W0.cell? ⟨w.heap.size, 8, none⟩ = some (.int .i64 c.o6) ∧ W0.cell? ⟨w.heap.size, 9, none⟩ = some (.int .i64 c.o7) ∧ W0.cell? ⟨w.heap.size, 10, none⟩ = some (.int .i64 c.sl) ∧ W0.cell? ⟨w.heap.size, 11, none⟩ = some (.int .i64 c.li) ∧ W0.cell? ⟨w.heap.size, 12, none⟩ = some (.int .i64 c.ge) ∧ W0.cell? ⟨w.heap.size, 13, none⟩ = some (.int .i64 c.qu) ∧ Below w.heap.size w W0 :=
    ⟨_, rfl, by go_simp, by go_simp, by go_simp, by go_simp, by go_simp, by go_simp, by go_simp, by go_simp, by go_simp, by go_simp, by go_simp, by go_simp, by go_simp, by go_simp, bnew (brefl w) _⟩
  rw [hW0]
  clear hW0
  clear k1 k2 k3 k4 k5 k6 k7 k8 k9 k10 k11 k12 k13
  generalize hBw : w.heap.size = R at *
  have HBw := Lib.hid hBw
  clear hBw
  have hz : R < W0.heap.size := block_lt_of_cell k0
  refine (hn _).mono ?_
  rintro e w1 ⟨p, rfl, hp, hb1⟩
  have z0 := keep_below k0 hb1
  have kb1 : Below R w w1 := kb.trans (hb1.mono (by omega))
  clear k0 kb hb1 hz
  have hz1 : R < w1.heap.size := block_lt_of_cell z0
  go_wp2_with fail
  refine (hwa _ _ hp).mono ?_
  rintro e w2 ⟨rfl, hb2⟩
  have z1 := keep_below z0 hb2
  have hp2 := hp.below hb2
  have kb2 : Below R w w2 := kb1.trans (hb2.mono (by omega))
  clear z0 kb1 hb2 hp hz1
  have hz2 : R < w2.heap.size := block_lt_of_cell z1
  go_upto_region 5 with (fail)
  obtain ⟨W3, hW3, z3, hp3, kb3, q0, q1, q2, q3⟩ : ∃ W3, w2.alloc (.cells #[.int .i64 x.m, .int .i64 x.k, .int .i64 x.i, .int .i64 x.j] 63) = W3 ∧ W3.cell? ⟨R, 0, none⟩ = some (.int .i64 c.lv) ∧ PBox W3 p c ∧ Below R w W3 ∧ W3.cell? ⟨w2.heap.size, 0, none⟩ = some (.int .i64 x.m) ∧ W3.cell? ⟨w2.heap.size, 1, none⟩ = some (.int .i64 x.k) ∧ W3.cell? ⟨w2.heap.size, 2, none⟩ = some (.int .i64 x.i) ∧ W3.cell? ⟨w2.heap.size, 3, none⟩ = some (.int .i64 x.j) :=
    ⟨_, rfl, keep_below z1 (bnew (brefl _) _), hp2.below (bnew (brefl _) _), kb2.alloc (by omega) _, by go_simp, by go_simp, by go_simp, by go_simp⟩
  rw [hW3]
  clear hW3 z1 hp2 kb2
  generalize w2.heap.size = B1 at *
  have hz3 : R < W3.heap.size := block_lt_of_cell z3
  go_wp2_with fail
  refine (hwb _ _ hp3).mono ?_
  rintro e w4 ⟨rfl, hb4⟩
  have z4 := keep_below z3 hb4
  have hp4 := hp3.below hb4
  have kb4 : Below R w w4 := kb3.trans (hb4.mono (by omega))
  have r0 := keep_below q0 hb4
  have r1 := keep_below q1 hb4
  have r2 := keep_below q2 hb4
  have r3 := keep_below q3 hb4
  clear z3 hp3 kb3 q0 q1 q2 q3 hb4 hz3
  have hz4 : R < w4.heap.size := block_lt_of_cell z4
  go_upto_region 6 with (fail)
  obtain ⟨W5, hW5, z5, hp5, kb5, q0, q1, q2, q3, s0, s1, s2, s3⟩ : ∃ W5, w4.alloc (.cells #[.int .i64 y.m, .int .i64 y.k, .int .i64 y.i, .int .i64 y.j] 63) = W5 ∧ W5.cell? ⟨R, 0, none⟩ = some (.int .i64 c.lv) ∧ PBox W5 p c ∧ Below R w W5 ∧ W5.cell? ⟨B1, 0, none⟩ = some (.int .i64 x.m) ∧ W5.cell? ⟨B1, 1, none⟩ = some (.int .i64 x.k) ∧ W5.cell? ⟨B1, 2, none⟩ = some (.int .i64 x.i) ∧ W5.cell? ⟨B1, 3, none⟩ = some (.int .i64 x.j) ∧ W5.cell? ⟨w4.heap.size, 0, none⟩ = some (.int .i64 y.m) ∧ W5.cell? ⟨w4.heap.size, 1, none⟩ = some (.int .i64 y.k) ∧ W5.cell? ⟨w4.heap.size, 2, none⟩ = some (.int .i64 y.i) ∧ W5.cell? ⟨w4.heap.size, 3, none⟩ = some (.int .i64 y.j) :=
    ⟨_, rfl, keep_below z4 (bnew (brefl _) _), hp4.below (bnew (brefl _) _), kb4.alloc (by omega) _, keep_below r0 (bnew (brefl _) _), keep_below r1 (bnew (brefl _) _), keep_below r2 (bnew (brefl _) _), keep_below r3 (bnew (brefl _) _), by go_simp, by go_simp, by go_simp, by go_simp⟩
  rw [hW5]
  clear hW5 z4 hp4 kb4 r0 r1 r2 r3
  generalize w4.heap.size = B2 at *
  have hz5 : R < W5.heap.size := block_lt_of_cell z5
  have hy1 := block_lt_of_cell q0
  have hy2 := block_lt_of_cell s0
  go_wp2_with fail
  refine (hwd _ _ hp5).mono ?_
  rintro e w6 ⟨rfl, hb6⟩
  have z6 := keep_below z5 hb6
  have hp6 := hp5.below hb6
  have kb6 : Below R w w6 := kb5.trans (hb6.mono (by omega))
  have q0 := keep_below q0 hb6
  have q1 := keep_below q1 hb6
  have q2 := keep_below q2 hb6
  have q3 := keep_below q3 hb6
  have s0 := keep_below s0 hb6
  have s1 := keep_below s1 hb6
  have s2 := keep_below s2 hb6
  have s3 := keep_below s3 hb6
  have hz6 : R < w6.heap.size := block_lt_of_cell z6
  have hy1 := block_lt_of_cell q0
  have hy2 := block_lt_of_cell s0
  clear z5 hp5 kb5 hb6
  go_wp2_with fail
  refine (hwd _ _ hp6).mono ?_
  rintro e w7 ⟨rfl, hb7⟩
  have z7 := keep_below z6 hb7
  have hp7 := hp6.below hb7
  have kb7 : Below R w w7 := kb6.trans (hb7.mono (by omega))
  have q0 := keep_below q0 hb7
  have q1 := keep_below q1 hb7
  have q2 := keep_below q2 hb7
  have q3 := keep_below q3 hb7
  have s0 := keep_below s0 hb7
  have s1 := keep_below s1 hb7
  have s2 := keep_below s2 hb7
  have s3 := keep_below s3 hb7
  have hz7 : R < w7.heap.size := block_lt_of_cell z7
  have hy1 := block_lt_of_cell q0
  have hy2 := block_lt_of_cell s0
  clear z6 hp6 kb6 hb7
  go_wp2_with fail
  refine (hata _ _ hp7).mono ?_
  rintro e w8 ⟨rfl, hb8⟩
  have z8 := keep_below z7 hb8
  have hp8 := hp7.below hb8
  have kb8 : Below R w w8 := kb7.trans (hb8.mono (by omega))
  have q0 := keep_below q0 hb8
  have q1 := keep_below q1 hb8
  have q2 := keep_below q2 hb8
  have q3 := keep_below q3 hb8
  have s0 := keep_below s0 hb8
  have s1 := keep_below s1 hb8
  have s2 := keep_below s2 hb8
  have s3 := keep_below s3 hb8
  have hz8 : R < w8.heap.size := block_lt_of_cell z8
  have hy1 := block_lt_of_cell q0
  have hy2 := block_lt_of_cell s0
  clear z7 hp7 kb7 hb8
  go_wp2_with fail
  refine (hatb _ _ hp8).mono ?_
  rintro e w9 ⟨rfl, hb9⟩
  have z9 := keep_below z8 hb9
  have hp9 := hp8.below hb9
  have kb9 : Below R w w9 := kb8.trans (hb9.mono (by omega))
  have q0 := keep_below q0 hb9
  have q1 := keep_below q1 hb9
  have q2 := keep_below q2 hb9
  have q3 := keep_below q3 hb9
  have s0 := keep_below s0 hb9
  have s1 := keep_below s1 hb9
  have s2 := keep_below s2 hb9
  have s3 := keep_below s3 hb9
  have hz9 : R < w9.heap.size := block_lt_of_cell z9
  have hy1 := block_lt_of_cell q0
  have hy2 := block_lt_of_cell s0
  clear z8 hp8 kb8 hb9
  go_wp2_with fail
  refine (lives05 _).mono ?_
  rintro e w20 ⟨rfl, hb20⟩
  go_wp2
  go_ret
  exact ⟨rfl, by rw [HBw.out]; exact kb9.trans (hb20.mono (by omega))⟩

set_option maxHeartbeats 4000000 in
set_option maxRecDepth 100000 in
theorem apart_yg (c : Cf) (N : Int) (hN : N ≤ 1672) (a b : Int) (x y : Pl) (ha0 : 0 ≤ a) (ha1 : a < N) (hb0 : 0 ≤ b) (hb1 : decide (b < N) = false)
    (hwd : ∀ (p : Nat) (w : World), PBox w p c → Calls Try.prog 40 #[.pointer (some ⟨p, 0, none⟩)] w fun e w' => e = .returned (.int .i64 N) ∧ Below w.heap.size w w')
    (hwa : ∀ (p : Nat) (w : World), PBox w p c → Calls Try.prog 38 #[.pointer (some ⟨p, 0, none⟩), .int .i64 a] w fun e w' => e = .returned (.tuple #[.agg #[.int .i64 x.m, .int .i64 x.k, .int .i64 x.i, .int .i64 x.j], .bool true]) ∧ Below w.heap.size w w') (hwb : ∀ (p : Nat) (w : World), PBox w p c → Calls Try.prog 38 #[.pointer (some ⟨p, 0, none⟩), .int .i64 b] w fun e w' => e = .returned (.tuple #[.agg #[.int .i64 y.m, .int .i64 y.k, .int .i64 y.i, .int .i64 y.j], .bool false]) ∧ Below w.heap.size w w')
    (hn : ∀ w : World, Calls Try.prog 35 #[.agg #[.int .i64 c.lv, .int .i64 c.th, .int .i64 c.o0, .int .i64 c.o1, .int .i64 c.o2, .int .i64 c.o3, .int .i64 c.o4, .int .i64 c.o5, .int .i64 c.o6, .int .i64 c.o7, .int .i64 c.sl, .int .i64 c.li, .int .i64 c.ge, .int .i64 c.qu]] w fun e w' => ∃ p, e = .returned (.tuple #[.pointer (some ⟨p, 0, none⟩), .int .i64 0]) ∧ PBox w' p c ∧ Below w.heap.size w w') (w : World) :
    Calls Try.prog 11 #[.agg #[.int .i64 c.lv, .int .i64 c.th, .int .i64 c.o0, .int .i64 c.o1, .int .i64 c.o2, .int .i64 c.o3, .int .i64 c.o4, .int .i64 c.o5, .int .i64 c.o6, .int .i64 c.o7, .int .i64 c.sl, .int .i64 c.li, .int .i64 c.ge, .int .i64 c.qu], .int .i64 a, .int .i64 b] w fun e w' => e = .returned (.bool true) ∧ Below w.heap.size w w' := by
  go_enter Try.func11, Try.ntmps11
  go_wp2_with fail
  obtain ⟨W0, hW0, k0, k1, k2, k3, k4, k5, k6, k7, k8, k9, k10, k11, k12, k13, kb⟩ : ∃ W0, w.alloc (.cells #[.int .i64 c.lv, .int .i64 c.th, .int .i64 c.o0, .int .i64 c.o1, .int .i64 c.o2, .int .i64 c.o3, .int .i64 c.o4, .int .i64 c.o5, .int .i64 c.o6, .int .i64 c.o7, .int .i64 c.sl, .int .i64 c.li, .int .i64 c.ge, .int .i64 c.qu] 45) = W0 ∧ W0.cell? ⟨w.heap.size, 0, none⟩ = some (.int .i64 c.lv) ∧ W0.cell? ⟨w.heap.size, 1, none⟩ = some (.int .i64 c.th) ∧ W0.cell? ⟨w.heap.size, 2, none⟩ = some (.int .i64 c.o0) ∧ W0.cell? ⟨w.heap.size, 3, none⟩ = some (.int .i64 c.o1) ∧ W0.cell? ⟨w.heap.size, 4, none⟩ = some (.int .i64 c.o2) ∧ W0.cell? ⟨w.heap.size, 5, none⟩ = some (.int .i64 c.o3) ∧ W0.cell? ⟨w.heap.size, 6, none⟩ = some (.int .i64 c.o4) ∧ W0.cell? ⟨w.heap.size, 7, none⟩ = some (.int .i64 c.o5) ∧ W0.cell? ⟨w.heap.size, 8, none⟩ = some (.int .i64 c.o6) ∧ W0.cell? ⟨w.heap.size, 9, none⟩ = some (.int .i64 c.o7) ∧ W0.cell? ⟨w.heap.size, 10, none⟩ = some (.int .i64 c.sl) ∧ W0.cell? ⟨w.heap.size, 11, none⟩ = some (.int .i64 c.li) ∧ W0.cell? ⟨w.heap.size, 12, none⟩ = some (.int .i64 c.ge) ∧ W0.cell? ⟨w.heap.size, 13, none⟩ = some (.int .i64 c.qu) ∧ Below w.heap.size w W0 :=
    ⟨_, rfl, by go_simp, by go_simp, by go_simp, by go_simp, by go_simp, by go_simp, by go_simp, by go_simp, by go_simp, by go_simp, by go_simp, by go_simp, by go_simp, by go_simp, bnew (brefl w) _⟩
  rw [hW0]
  clear hW0
  clear k1 k2 k3 k4 k5 k6 k7 k8 k9 k10 k11 k12 k13
  generalize hBw : w.heap.size = R at *
  have HBw := Lib.hid hBw
  clear hBw
  have hz : R < W0.heap.size := block_lt_of_cell k0
  refine (hn _).mono ?_
  rintro e w1 ⟨p, rfl, hp, hb1⟩
  have z0 := keep_below k0 hb1
  have kb1 : Below R w w1 := kb.trans (hb1.mono (by omega))
  clear k0 kb hb1 hz
  have hz1 : R < w1.heap.size := block_lt_of_cell z0
  go_wp2_with fail
  refine (hwa _ _ hp).mono ?_
  rintro e w2 ⟨rfl, hb2⟩
  have z1 := keep_below z0 hb2
  have hp2 := hp.below hb2
  have kb2 : Below R w w2 := kb1.trans (hb2.mono (by omega))
  clear z0 kb1 hb2 hp hz1
  have hz2 : R < w2.heap.size := block_lt_of_cell z1
  go_upto_region 5 with (fail)
  obtain ⟨W3, hW3, z3, hp3, kb3, q0, q1, q2, q3⟩ : ∃ W3, w2.alloc (.cells #[.int .i64 x.m, .int .i64 x.k, .int .i64 x.i, .int .i64 x.j] 63) = W3 ∧ W3.cell? ⟨R, 0, none⟩ = some (.int .i64 c.lv) ∧ PBox W3 p c ∧ Below R w W3 ∧ W3.cell? ⟨w2.heap.size, 0, none⟩ = some (.int .i64 x.m) ∧ W3.cell? ⟨w2.heap.size, 1, none⟩ = some (.int .i64 x.k) ∧ W3.cell? ⟨w2.heap.size, 2, none⟩ = some (.int .i64 x.i) ∧ W3.cell? ⟨w2.heap.size, 3, none⟩ = some (.int .i64 x.j) :=
    ⟨_, rfl, keep_below z1 (bnew (brefl _) _), hp2.below (bnew (brefl _) _), kb2.alloc (by omega) _, by go_simp, by go_simp, by go_simp, by go_simp⟩
  rw [hW3]
  clear hW3 z1 hp2 kb2
  generalize w2.heap.size = B1 at *
  have hz3 : R < W3.heap.size := block_lt_of_cell z3
  go_wp2_with fail
  refine (hwb _ _ hp3).mono ?_
  rintro e w4 ⟨rfl, hb4⟩
  have z4 := keep_below z3 hb4
  have hp4 := hp3.below hb4
  have kb4 : Below R w w4 := kb3.trans (hb4.mono (by omega))
  have r0 := keep_below q0 hb4
  have r1 := keep_below q1 hb4
  have r2 := keep_below q2 hb4
  have r3 := keep_below q3 hb4
  clear z3 hp3 kb3 q0 q1 q2 q3 hb4 hz3
  have hz4 : R < w4.heap.size := block_lt_of_cell z4
  go_upto_region 6 with (fail)
  obtain ⟨W5, hW5, z5, hp5, kb5, q0, q1, q2, q3, s0, s1, s2, s3⟩ : ∃ W5, w4.alloc (.cells #[.int .i64 y.m, .int .i64 y.k, .int .i64 y.i, .int .i64 y.j] 63) = W5 ∧ W5.cell? ⟨R, 0, none⟩ = some (.int .i64 c.lv) ∧ PBox W5 p c ∧ Below R w W5 ∧ W5.cell? ⟨B1, 0, none⟩ = some (.int .i64 x.m) ∧ W5.cell? ⟨B1, 1, none⟩ = some (.int .i64 x.k) ∧ W5.cell? ⟨B1, 2, none⟩ = some (.int .i64 x.i) ∧ W5.cell? ⟨B1, 3, none⟩ = some (.int .i64 x.j) ∧ W5.cell? ⟨w4.heap.size, 0, none⟩ = some (.int .i64 y.m) ∧ W5.cell? ⟨w4.heap.size, 1, none⟩ = some (.int .i64 y.k) ∧ W5.cell? ⟨w4.heap.size, 2, none⟩ = some (.int .i64 y.i) ∧ W5.cell? ⟨w4.heap.size, 3, none⟩ = some (.int .i64 y.j) :=
    ⟨_, rfl, keep_below z4 (bnew (brefl _) _), hp4.below (bnew (brefl _) _), kb4.alloc (by omega) _, keep_below r0 (bnew (brefl _) _), keep_below r1 (bnew (brefl _) _), keep_below r2 (bnew (brefl _) _), keep_below r3 (bnew (brefl _) _), by go_simp, by go_simp, by go_simp, by go_simp⟩
  rw [hW5]
  clear hW5 z4 hp4 kb4 r0 r1 r2 r3
  generalize w4.heap.size = B2 at *
  have hz5 : R < W5.heap.size := block_lt_of_cell z5
  have hy1 := block_lt_of_cell q0
  have hy2 := block_lt_of_cell s0
  go_wp2_with fail
  refine (hwd _ _ hp5).mono ?_
  rintro e w6 ⟨rfl, hb6⟩
  have z6 := keep_below z5 hb6
  have hp6 := hp5.below hb6
  have kb6 : Below R w w6 := kb5.trans (hb6.mono (by omega))
  have q0 := keep_below q0 hb6
  have q1 := keep_below q1 hb6
  have q2 := keep_below q2 hb6
  have q3 := keep_below q3 hb6
  have s0 := keep_below s0 hb6
  have s1 := keep_below s1 hb6
  have s2 := keep_below s2 hb6
  have s3 := keep_below s3 hb6
  have hz6 : R < w6.heap.size := block_lt_of_cell z6
  have hy1 := block_lt_of_cell q0
  have hy2 := block_lt_of_cell s0
  clear z5 hp5 kb5 hb6
  go_wp2_with fail
  refine (hwd _ _ hp6).mono ?_
  rintro e w7 ⟨rfl, hb7⟩
  have z7 := keep_below z6 hb7
  have hp7 := hp6.below hb7
  have kb7 : Below R w w7 := kb6.trans (hb7.mono (by omega))
  have q0 := keep_below q0 hb7
  have q1 := keep_below q1 hb7
  have q2 := keep_below q2 hb7
  have q3 := keep_below q3 hb7
  have s0 := keep_below s0 hb7
  have s1 := keep_below s1 hb7
  have s2 := keep_below s2 hb7
  have s3 := keep_below s3 hb7
  have hz7 : R < w7.heap.size := block_lt_of_cell z7
  have hy1 := block_lt_of_cell q0
  have hy2 := block_lt_of_cell s0
  clear z6 hp6 kb6 hb7
  go_wp2_with fail
  refine (lives05 _).mono ?_
  rintro e w20 ⟨rfl, hb20⟩
  go_wp2
  go_ret
  exact ⟨rfl, by rw [HBw.out]; exact kb7.trans (hb20.mono (by omega))⟩

set_option maxHeartbeats 4000000 in
set_option maxRecDepth 100000 in
theorem apart_gn (c : Cf) (N : Int) (hN : N ≤ 1672) (a b : Int) (x y : Pl) (ha0 : 0 ≤ a) (ha1 : decide (a < N) = false) (hb0 : decide (0 ≤ b) = false)
    (hwd : ∀ (p : Nat) (w : World), PBox w p c → Calls Try.prog 40 #[.pointer (some ⟨p, 0, none⟩)] w fun e w' => e = .returned (.int .i64 N) ∧ Below w.heap.size w w')
    (hwa : ∀ (p : Nat) (w : World), PBox w p c → Calls Try.prog 38 #[.pointer (some ⟨p, 0, none⟩), .int .i64 a] w fun e w' => e = .returned (.tuple #[.agg #[.int .i64 x.m, .int .i64 x.k, .int .i64 x.i, .int .i64 x.j], .bool false]) ∧ Below w.heap.size w w') (hwb : ∀ (p : Nat) (w : World), PBox w p c → Calls Try.prog 38 #[.pointer (some ⟨p, 0, none⟩), .int .i64 b] w fun e w' => e = .returned (.tuple #[.agg #[.int .i64 y.m, .int .i64 y.k, .int .i64 y.i, .int .i64 y.j], .bool false]) ∧ Below w.heap.size w w')
    (hn : ∀ w : World, Calls Try.prog 35 #[.agg #[.int .i64 c.lv, .int .i64 c.th, .int .i64 c.o0, .int .i64 c.o1, .int .i64 c.o2, .int .i64 c.o3, .int .i64 c.o4, .int .i64 c.o5, .int .i64 c.o6, .int .i64 c.o7, .int .i64 c.sl, .int .i64 c.li, .int .i64 c.ge, .int .i64 c.qu]] w fun e w' => ∃ p, e = .returned (.tuple #[.pointer (some ⟨p, 0, none⟩), .int .i64 0]) ∧ PBox w' p c ∧ Below w.heap.size w w') (w : World) :
    Calls Try.prog 11 #[.agg #[.int .i64 c.lv, .int .i64 c.th, .int .i64 c.o0, .int .i64 c.o1, .int .i64 c.o2, .int .i64 c.o3, .int .i64 c.o4, .int .i64 c.o5, .int .i64 c.o6, .int .i64 c.o7, .int .i64 c.sl, .int .i64 c.li, .int .i64 c.ge, .int .i64 c.qu], .int .i64 a, .int .i64 b] w fun e w' => e = .returned (.bool true) ∧ Below w.heap.size w w' := by
  go_enter Try.func11, Try.ntmps11
  go_wp2_with fail
  obtain ⟨W0, hW0, k0, k1, k2, k3, k4, k5, k6, k7, k8, k9, k10, k11, k12, k13, kb⟩ : ∃ W0, w.alloc (.cells #[.int .i64 c.lv, .int .i64 c.th, .int .i64 c.o0, .int .i64 c.o1, .int .i64 c.o2, .int .i64 c.o3, .int .i64 c.o4, .int .i64 c.o5, .int .i64 c.o6, .int .i64 c.o7, .int .i64 c.sl, .int .i64 c.li, .int .i64 c.ge, .int .i64 c.qu] 45) = W0 ∧ W0.cell? ⟨w.heap.size, 0, none⟩ = some (.int .i64 c.lv) ∧ W0.cell? ⟨w.heap.size, 1, none⟩ = some (.int .i64 c.th) ∧ W0.cell? ⟨w.heap.size, 2, none⟩ = some (.int .i64 c.o0) ∧ W0.cell? ⟨w.heap.size, 3, none⟩ = some (.int .i64 c.o1) ∧ W0.cell? ⟨w.heap.size, 4, none⟩ = some (.int .i64 c.o2) ∧ W0.cell? ⟨w.heap.size, 5, none⟩ = some (.int .i64 c.o3) ∧ W0.cell? ⟨w.heap.size, 6, none⟩ = some (.int .i64 c.o4) ∧ W0.cell? ⟨w.heap.size, 7, none⟩ = some (.int .i64 c.o5) ∧ W0.cell? ⟨w.heap.size, 8, none⟩ = some (.int .i64 c.o6) ∧ W0.cell? ⟨w.heap.size, 9, none⟩ = some (.int .i64 c.o7) ∧ W0.cell? ⟨w.heap.size, 10, none⟩ = some (.int .i64 c.sl) ∧ W0.cell? ⟨w.heap.size, 11, none⟩ = some (.int .i64 c.li) ∧ W0.cell? ⟨w.heap.size, 12, none⟩ = some (.int .i64 c.ge) ∧ W0.cell? ⟨w.heap.size, 13, none⟩ = some (.int .i64 c.qu) ∧ Below w.heap.size w W0 :=
    ⟨_, rfl, by go_simp, by go_simp, by go_simp, by go_simp, by go_simp, by go_simp, by go_simp, by go_simp, by go_simp, by go_simp, by go_simp, by go_simp, by go_simp, by go_simp, bnew (brefl w) _⟩
  rw [hW0]
  clear hW0
  clear k1 k2 k3 k4 k5 k6 k7 k8 k9 k10 k11 k12 k13
  generalize hBw : w.heap.size = R at *
  have HBw := Lib.hid hBw
  clear hBw
  have hz : R < W0.heap.size := block_lt_of_cell k0
  refine (hn _).mono ?_
  rintro e w1 ⟨p, rfl, hp, hb1⟩
  have z0 := keep_below k0 hb1
  have kb1 : Below R w w1 := kb.trans (hb1.mono (by omega))
  clear k0 kb hb1 hz
  have hz1 : R < w1.heap.size := block_lt_of_cell z0
  go_wp2_with fail
  refine (hwa _ _ hp).mono ?_
  rintro e w2 ⟨rfl, hb2⟩
  have z1 := keep_below z0 hb2
  have hp2 := hp.below hb2
  have kb2 : Below R w w2 := kb1.trans (hb2.mono (by omega))
  clear z0 kb1 hb2 hp hz1
  have hz2 : R < w2.heap.size := block_lt_of_cell z1
  go_upto_region 5 with (fail)
  obtain ⟨W3, hW3, z3, hp3, kb3, q0, q1, q2, q3⟩ : ∃ W3, w2.alloc (.cells #[.int .i64 x.m, .int .i64 x.k, .int .i64 x.i, .int .i64 x.j] 63) = W3 ∧ W3.cell? ⟨R, 0, none⟩ = some (.int .i64 c.lv) ∧ PBox W3 p c ∧ Below R w W3 ∧ W3.cell? ⟨w2.heap.size, 0, none⟩ = some (.int .i64 x.m) ∧ W3.cell? ⟨w2.heap.size, 1, none⟩ = some (.int .i64 x.k) ∧ W3.cell? ⟨w2.heap.size, 2, none⟩ = some (.int .i64 x.i) ∧ W3.cell? ⟨w2.heap.size, 3, none⟩ = some (.int .i64 x.j) :=
    ⟨_, rfl, keep_below z1 (bnew (brefl _) _), hp2.below (bnew (brefl _) _), kb2.alloc (by omega) _, by go_simp, by go_simp, by go_simp, by go_simp⟩
  rw [hW3]
  clear hW3 z1 hp2 kb2
  generalize w2.heap.size = B1 at *
  have hz3 : R < W3.heap.size := block_lt_of_cell z3
  go_wp2_with fail
  refine (hwb _ _ hp3).mono ?_
  rintro e w4 ⟨rfl, hb4⟩
  have z4 := keep_below z3 hb4
  have hp4 := hp3.below hb4
  have kb4 : Below R w w4 := kb3.trans (hb4.mono (by omega))
  have r0 := keep_below q0 hb4
  have r1 := keep_below q1 hb4
  have r2 := keep_below q2 hb4
  have r3 := keep_below q3 hb4
  clear z3 hp3 kb3 q0 q1 q2 q3 hb4 hz3
  have hz4 : R < w4.heap.size := block_lt_of_cell z4
  go_upto_region 6 with (fail)
  obtain ⟨W5, hW5, z5, hp5, kb5, q0, q1, q2, q3, s0, s1, s2, s3⟩ : ∃ W5, w4.alloc (.cells #[.int .i64 y.m, .int .i64 y.k, .int .i64 y.i, .int .i64 y.j] 63) = W5 ∧ W5.cell? ⟨R, 0, none⟩ = some (.int .i64 c.lv) ∧ PBox W5 p c ∧ Below R w W5 ∧ W5.cell? ⟨B1, 0, none⟩ = some (.int .i64 x.m) ∧ W5.cell? ⟨B1, 1, none⟩ = some (.int .i64 x.k) ∧ W5.cell? ⟨B1, 2, none⟩ = some (.int .i64 x.i) ∧ W5.cell? ⟨B1, 3, none⟩ = some (.int .i64 x.j) ∧ W5.cell? ⟨w4.heap.size, 0, none⟩ = some (.int .i64 y.m) ∧ W5.cell? ⟨w4.heap.size, 1, none⟩ = some (.int .i64 y.k) ∧ W5.cell? ⟨w4.heap.size, 2, none⟩ = some (.int .i64 y.i) ∧ W5.cell? ⟨w4.heap.size, 3, none⟩ = some (.int .i64 y.j) :=
    ⟨_, rfl, keep_below z4 (bnew (brefl _) _), hp4.below (bnew (brefl _) _), kb4.alloc (by omega) _, keep_below r0 (bnew (brefl _) _), keep_below r1 (bnew (brefl _) _), keep_below r2 (bnew (brefl _) _), keep_below r3 (bnew (brefl _) _), by go_simp, by go_simp, by go_simp, by go_simp⟩
  rw [hW5]
  clear hW5 z4 hp4 kb4 r0 r1 r2 r3
  generalize w4.heap.size = B2 at *
  have hz5 : R < W5.heap.size := block_lt_of_cell z5
  have hy1 := block_lt_of_cell q0
  have hy2 := block_lt_of_cell s0
  go_wp2_with fail
  refine (hwd _ _ hp5).mono ?_
  rintro e w6 ⟨rfl, hb6⟩
  have z6 := keep_below z5 hb6
  have hp6 := hp5.below hb6
  have kb6 : Below R w w6 := kb5.trans (hb6.mono (by omega))
  have q0 := keep_below q0 hb6
  have q1 := keep_below q1 hb6
  have q2 := keep_below q2 hb6
  have q3 := keep_below q3 hb6
  have s0 := keep_below s0 hb6
  have s1 := keep_below s1 hb6
  have s2 := keep_below s2 hb6
  have s3 := keep_below s3 hb6
  have hz6 : R < w6.heap.size := block_lt_of_cell z6
  have hy1 := block_lt_of_cell q0
  have hy2 := block_lt_of_cell s0
  clear z5 hp5 kb5 hb6
  go_wp2_with fail
  refine (lives05 _).mono ?_
  rintro e w20 ⟨rfl, hb20⟩
  go_wp2
  go_ret
  exact ⟨rfl, by rw [HBw.out]; exact kb6.trans (hb20.mono (by omega))⟩

set_option maxHeartbeats 4000000 in
set_option maxRecDepth 100000 in
theorem apart_gy (c : Cf) (N : Int) (hN : N ≤ 1672) (a b : Int) (x y : Pl) (ha0 : 0 ≤ a) (ha1 : decide (a < N) = false) (hb0 : 0 ≤ b) (hb1 : b < N)
    (hwd : ∀ (p : Nat) (w : World), PBox w p c → Calls Try.prog 40 #[.pointer (some ⟨p, 0, none⟩)] w fun e w' => e = .returned (.int .i64 N) ∧ Below w.heap.size w w')
    (hwa : ∀ (p : Nat) (w : World), PBox w p c → Calls Try.prog 38 #[.pointer (some ⟨p, 0, none⟩), .int .i64 a] w fun e w' => e = .returned (.tuple #[.agg #[.int .i64 x.m, .int .i64 x.k, .int .i64 x.i, .int .i64 x.j], .bool false]) ∧ Below w.heap.size w w') (hwb : ∀ (p : Nat) (w : World), PBox w p c → Calls Try.prog 38 #[.pointer (some ⟨p, 0, none⟩), .int .i64 b] w fun e w' => e = .returned (.tuple #[.agg #[.int .i64 y.m, .int .i64 y.k, .int .i64 y.i, .int .i64 y.j], .bool true]) ∧ Below w.heap.size w w')
    (hn : ∀ w : World, Calls Try.prog 35 #[.agg #[.int .i64 c.lv, .int .i64 c.th, .int .i64 c.o0, .int .i64 c.o1, .int .i64 c.o2, .int .i64 c.o3, .int .i64 c.o4, .int .i64 c.o5, .int .i64 c.o6, .int .i64 c.o7, .int .i64 c.sl, .int .i64 c.li, .int .i64 c.ge, .int .i64 c.qu]] w fun e w' => ∃ p, e = .returned (.tuple #[.pointer (some ⟨p, 0, none⟩), .int .i64 0]) ∧ PBox w' p c ∧ Below w.heap.size w w') (w : World) :
    Calls Try.prog 11 #[.agg #[.int .i64 c.lv, .int .i64 c.th, .int .i64 c.o0, .int .i64 c.o1, .int .i64 c.o2, .int .i64 c.o3, .int .i64 c.o4, .int .i64 c.o5, .int .i64 c.o6, .int .i64 c.o7, .int .i64 c.sl, .int .i64 c.li, .int .i64 c.ge, .int .i64 c.qu], .int .i64 a, .int .i64 b] w fun e w' => e = .returned (.bool true) ∧ Below w.heap.size w w' := by
  go_enter Try.func11, Try.ntmps11
  go_wp2_with fail
  obtain ⟨W0, hW0, k0, k1, k2, k3, k4, k5, k6, k7, k8, k9, k10, k11, k12, k13, kb⟩ : ∃ W0, w.alloc (.cells #[.int .i64 c.lv, .int .i64 c.th, .int .i64 c.o0, .int .i64 c.o1, .int .i64 c.o2, .int .i64 c.o3, .int .i64 c.o4, .int .i64 c.o5, .int .i64 c.o6, .int .i64 c.o7, .int .i64 c.sl, .int .i64 c.li, .int .i64 c.ge, .int .i64 c.qu] 45) = W0 ∧ W0.cell? ⟨w.heap.size, 0, none⟩ = some (.int .i64 c.lv) ∧ W0.cell? ⟨w.heap.size, 1, none⟩ = some (.int .i64 c.th) ∧ W0.cell? ⟨w.heap.size, 2, none⟩ = some (.int .i64 c.o0) ∧ W0.cell? ⟨w.heap.size, 3, none⟩ = some (.int .i64 c.o1) ∧ W0.cell? ⟨w.heap.size, 4, none⟩ = some (.int .i64 c.o2) ∧ W0.cell? ⟨w.heap.size, 5, none⟩ = some (.int .i64 c.o3) ∧ W0.cell? ⟨w.heap.size, 6, none⟩ = some (.int .i64 c.o4) ∧ W0.cell? ⟨w.heap.size, 7, none⟩ = some (.int .i64 c.o5) ∧ W0.cell? ⟨w.heap.size, 8, none⟩ = some (.int .i64 c.o6) ∧ W0.cell? ⟨w.heap.size, 9, none⟩ = some (.int .i64 c.o7) ∧ W0.cell? ⟨w.heap.size, 10, none⟩ = some (.int .i64 c.sl) ∧ W0.cell? ⟨w.heap.size, 11, none⟩ = some (.int .i64 c.li) ∧ W0.cell? ⟨w.heap.size, 12, none⟩ = some (.int .i64 c.ge) ∧ W0.cell? ⟨w.heap.size, 13, none⟩ = some (.int .i64 c.qu) ∧ Below w.heap.size w W0 :=
    ⟨_, rfl, by go_simp, by go_simp, by go_simp, by go_simp, by go_simp, by go_simp, by go_simp, by go_simp, by go_simp, by go_simp, by go_simp, by go_simp, by go_simp, by go_simp, bnew (brefl w) _⟩
  rw [hW0]
  clear hW0
  clear k1 k2 k3 k4 k5 k6 k7 k8 k9 k10 k11 k12 k13
  generalize hBw : w.heap.size = R at *
  have HBw := Lib.hid hBw
  clear hBw
  have hz : R < W0.heap.size := block_lt_of_cell k0
  refine (hn _).mono ?_
  rintro e w1 ⟨p, rfl, hp, hb1⟩
  have z0 := keep_below k0 hb1
  have kb1 : Below R w w1 := kb.trans (hb1.mono (by omega))
  clear k0 kb hb1 hz
  have hz1 : R < w1.heap.size := block_lt_of_cell z0
  go_wp2_with fail
  refine (hwa _ _ hp).mono ?_
  rintro e w2 ⟨rfl, hb2⟩
  have z1 := keep_below z0 hb2
  have hp2 := hp.below hb2
  have kb2 : Below R w w2 := kb1.trans (hb2.mono (by omega))
  clear z0 kb1 hb2 hp hz1
  have hz2 : R < w2.heap.size := block_lt_of_cell z1
  go_upto_region 5 with (fail)
  obtain ⟨W3, hW3, z3, hp3, kb3, q0, q1, q2, q3⟩ : ∃ W3, w2.alloc (.cells #[.int .i64 x.m, .int .i64 x.k, .int .i64 x.i, .int .i64 x.j] 63) = W3 ∧ W3.cell? ⟨R, 0, none⟩ = some (.int .i64 c.lv) ∧ PBox W3 p c ∧ Below R w W3 ∧ W3.cell? ⟨w2.heap.size, 0, none⟩ = some (.int .i64 x.m) ∧ W3.cell? ⟨w2.heap.size, 1, none⟩ = some (.int .i64 x.k) ∧ W3.cell? ⟨w2.heap.size, 2, none⟩ = some (.int .i64 x.i) ∧ W3.cell? ⟨w2.heap.size, 3, none⟩ = some (.int .i64 x.j) :=
    ⟨_, rfl, keep_below z1 (bnew (brefl _) _), hp2.below (bnew (brefl _) _), kb2.alloc (by omega) _, by go_simp, by go_simp, by go_simp, by go_simp⟩
  rw [hW3]
  clear hW3 z1 hp2 kb2
  generalize w2.heap.size = B1 at *
  have hz3 : R < W3.heap.size := block_lt_of_cell z3
  go_wp2_with fail
  refine (hwb _ _ hp3).mono ?_
  rintro e w4 ⟨rfl, hb4⟩
  have z4 := keep_below z3 hb4
  have hp4 := hp3.below hb4
  have kb4 : Below R w w4 := kb3.trans (hb4.mono (by omega))
  have r0 := keep_below q0 hb4
  have r1 := keep_below q1 hb4
  have r2 := keep_below q2 hb4
  have r3 := keep_below q3 hb4
  clear z3 hp3 kb3 q0 q1 q2 q3 hb4 hz3
  have hz4 : R < w4.heap.size := block_lt_of_cell z4
  go_upto_region 6 with (fail)
  obtain ⟨W5, hW5, z5, hp5, kb5, q0, q1, q2, q3, s0, s1, s2, s3⟩ : ∃ W5, w4.alloc (.cells #[.int .i64 y.m, .int .i64 y.k, .int .i64 y.i, .int .i64 y.j] 63) = W5 ∧ W5.cell? ⟨R, 0, none⟩ = some (.int .i64 c.lv) ∧ PBox W5 p c ∧ Below R w W5 ∧ W5.cell? ⟨B1, 0, none⟩ = some (.int .i64 x.m) ∧ W5.cell? ⟨B1, 1, none⟩ = some (.int .i64 x.k) ∧ W5.cell? ⟨B1, 2, none⟩ = some (.int .i64 x.i) ∧ W5.cell? ⟨B1, 3, none⟩ = some (.int .i64 x.j) ∧ W5.cell? ⟨w4.heap.size, 0, none⟩ = some (.int .i64 y.m) ∧ W5.cell? ⟨w4.heap.size, 1, none⟩ = some (.int .i64 y.k) ∧ W5.cell? ⟨w4.heap.size, 2, none⟩ = some (.int .i64 y.i) ∧ W5.cell? ⟨w4.heap.size, 3, none⟩ = some (.int .i64 y.j) :=
    ⟨_, rfl, keep_below z4 (bnew (brefl _) _), hp4.below (bnew (brefl _) _), kb4.alloc (by omega) _, keep_below r0 (bnew (brefl _) _), keep_below r1 (bnew (brefl _) _), keep_below r2 (bnew (brefl _) _), keep_below r3 (bnew (brefl _) _), by go_simp, by go_simp, by go_simp, by go_simp⟩
  rw [hW5]
  clear hW5 z4 hp4 kb4 r0 r1 r2 r3
  generalize w4.heap.size = B2 at *
  have hz5 : R < W5.heap.size := block_lt_of_cell z5
  have hy1 := block_lt_of_cell q0
  have hy2 := block_lt_of_cell s0
  go_wp2_with fail
  refine (hwd _ _ hp5).mono ?_
  rintro e w6 ⟨rfl, hb6⟩
  have z6 := keep_below z5 hb6
  have hp6 := hp5.below hb6
  have kb6 : Below R w w6 := kb5.trans (hb6.mono (by omega))
  have q0 := keep_below q0 hb6
  have q1 := keep_below q1 hb6
  have q2 := keep_below q2 hb6
  have q3 := keep_below q3 hb6
  have s0 := keep_below s0 hb6
  have s1 := keep_below s1 hb6
  have s2 := keep_below s2 hb6
  have s3 := keep_below s3 hb6
  have hz6 : R < w6.heap.size := block_lt_of_cell z6
  have hy1 := block_lt_of_cell q0
  have hy2 := block_lt_of_cell s0
  clear z5 hp5 kb5 hb6
  go_wp2_with fail
  refine (hwd _ _ hp6).mono ?_
  rintro e w7 ⟨rfl, hb7⟩
  have z7 := keep_below z6 hb7
  have hp7 := hp6.below hb7
  have kb7 : Below R w w7 := kb6.trans (hb7.mono (by omega))
  have q0 := keep_below q0 hb7
  have q1 := keep_below q1 hb7
  have q2 := keep_below q2 hb7
  have q3 := keep_below q3 hb7
  have s0 := keep_below s0 hb7
  have s1 := keep_below s1 hb7
  have s2 := keep_below s2 hb7
  have s3 := keep_below s3 hb7
  have hz7 : R < w7.heap.size := block_lt_of_cell z7
  have hy1 := block_lt_of_cell q0
  have hy2 := block_lt_of_cell s0
  clear z6 hp6 kb6 hb7
  go_wp2_with fail
  refine (lives05 _).mono ?_
  rintro e w20 ⟨rfl, hb20⟩
  go_wp2
  go_ret
  exact ⟨rfl, by rw [HBw.out]; exact kb7.trans (hb20.mono (by omega))⟩

set_option maxHeartbeats 4000000 in
set_option maxRecDepth 100000 in
theorem apart_gg (c : Cf) (N : Int) (hN : N ≤ 1672) (a b : Int) (x y : Pl) (ha0 : 0 ≤ a) (ha1 : decide (a < N) = false) (hb0 : 0 ≤ b) (hb1 : decide (b < N) = false)
    (hwd : ∀ (p : Nat) (w : World), PBox w p c → Calls Try.prog 40 #[.pointer (some ⟨p, 0, none⟩)] w fun e w' => e = .returned (.int .i64 N) ∧ Below w.heap.size w w')
    (hwa : ∀ (p : Nat) (w : World), PBox w p c → Calls Try.prog 38 #[.pointer (some ⟨p, 0, none⟩), .int .i64 a] w fun e w' => e = .returned (.tuple #[.agg #[.int .i64 x.m, .int .i64 x.k, .int .i64 x.i, .int .i64 x.j], .bool false]) ∧ Below w.heap.size w w') (hwb : ∀ (p : Nat) (w : World), PBox w p c → Calls Try.prog 38 #[.pointer (some ⟨p, 0, none⟩), .int .i64 b] w fun e w' => e = .returned (.tuple #[.agg #[.int .i64 y.m, .int .i64 y.k, .int .i64 y.i, .int .i64 y.j], .bool false]) ∧ Below w.heap.size w w')
    (hn : ∀ w : World, Calls Try.prog 35 #[.agg #[.int .i64 c.lv, .int .i64 c.th, .int .i64 c.o0, .int .i64 c.o1, .int .i64 c.o2, .int .i64 c.o3, .int .i64 c.o4, .int .i64 c.o5, .int .i64 c.o6, .int .i64 c.o7, .int .i64 c.sl, .int .i64 c.li, .int .i64 c.ge, .int .i64 c.qu]] w fun e w' => ∃ p, e = .returned (.tuple #[.pointer (some ⟨p, 0, none⟩), .int .i64 0]) ∧ PBox w' p c ∧ Below w.heap.size w w') (w : World) :
    Calls Try.prog 11 #[.agg #[.int .i64 c.lv, .int .i64 c.th, .int .i64 c.o0, .int .i64 c.o1, .int .i64 c.o2, .int .i64 c.o3, .int .i64 c.o4, .int .i64 c.o5, .int .i64 c.o6, .int .i64 c.o7, .int .i64 c.sl, .int .i64 c.li, .int .i64 c.ge, .int .i64 c.qu], .int .i64 a, .int .i64 b] w fun e w' => e = .returned (.bool true) ∧ Below w.heap.size w w' := by
  go_enter Try.func11, Try.ntmps11
  go_wp2_with fail
  obtain ⟨W0, hW0, k0, k1, k2, k3, k4, k5, k6, k7, k8, k9, k10, k11, k12, k13, kb⟩ : ∃ W0, w.alloc (.cells #[.int .i64 c.lv, .int .i64 c.th, .int .i64 c.o0, .int .i64 c.o1, .int .i64 c.o2, .int .i64 c.o3, .int .i64 c.o4, .int .i64 c.o5, .int .i64 c.o6, .int .i64 c.o7, .int .i64 c.sl, .int .i64 c.li, .int .i64 c.ge, .int .i64 c.qu] 45) = W0 ∧ W0.cell? ⟨w.heap.size, 0, none⟩ = some (.int .i64 c.lv) ∧ W0.cell? ⟨w.heap.size, 1, none⟩ = some (.int .i64 c.th) ∧ W0.cell? ⟨w.heap.size, 2, none⟩ = some (.int .i64 c.o0) ∧ W0.cell? ⟨w.heap.size, 3, none⟩ = some (.int .i64 c.o1) ∧ W0.cell? ⟨w.heap.size, 4, none⟩ = some (.int .i64 c.o2) ∧ W0.cell? ⟨w.heap.size, 5, none⟩ = some (.int .i64 c.o3) ∧ W0.cell? ⟨w.heap.size, 6, none⟩ = some (.int .i64 c.o4) ∧ W0.cell? ⟨w.heap.size, 7, none⟩ = some (.int .i64 c.o5) ∧ W0.cell? ⟨w.heap.size, 8, none⟩ = some (.int .i64 c.o6) ∧ W0.cell? ⟨w.heap.size, 9, none⟩ = some (.int .i64 c.o7) ∧ W0.cell? ⟨w.heap.size, 10, none⟩ = some (.int .i64 c.sl) ∧ W0.cell? ⟨w.heap.size, 11, none⟩ = some (.int .i64 c.li) ∧ W0.cell? ⟨w.heap.size, 12, none⟩ = some (.int .i64 c.ge) ∧ W0.cell? ⟨w.heap.size, 13, none⟩ = some (.int .i64 c.qu) ∧ Below w.heap.size w W0 :=
    ⟨_, rfl, by go_simp, by go_simp, by go_simp, by go_simp, by go_simp, by go_simp, by go_simp, by go_simp, by go_simp, by go_simp, by go_simp, by go_simp, by go_simp, by go_simp, bnew (brefl w) _⟩
  rw [hW0]
  clear hW0
  clear k1 k2 k3 k4 k5 k6 k7 k8 k9 k10 k11 k12 k13
  generalize hBw : w.heap.size = R at *
  have HBw := Lib.hid hBw
  clear hBw
  have hz : R < W0.heap.size := block_lt_of_cell k0
  refine (hn _).mono ?_
  rintro e w1 ⟨p, rfl, hp, hb1⟩
  have z0 := keep_below k0 hb1
  have kb1 : Below R w w1 := kb.trans (hb1.mono (by omega))
  clear k0 kb hb1 hz
  have hz1 : R < w1.heap.size := block_lt_of_cell z0
  go_wp2_with fail
  refine (hwa _ _ hp).mono ?_
  rintro e w2 ⟨rfl, hb2⟩
  have z1 := keep_below z0 hb2
  have hp2 := hp.below hb2
  have kb2 : Below R w w2 := kb1.trans (hb2.mono (by omega))
  clear z0 kb1 hb2 hp hz1
  have hz2 : R < w2.heap.size := block_lt_of_cell z1
  go_upto_region 5 with (fail)
  obtain ⟨W3, hW3, z3, hp3, kb3, q0, q1, q2, q3⟩ : ∃ W3, w2.alloc (.cells #[.int .i64 x.m, .int .i64 x.k, .int .i64 x.i, .int .i64 x.j] 63) = W3 ∧ W3.cell? ⟨R, 0, none⟩ = some (.int .i64 c.lv) ∧ PBox W3 p c ∧ Below R w W3 ∧ W3.cell? ⟨w2.heap.size, 0, none⟩ = some (.int .i64 x.m) ∧ W3.cell? ⟨w2.heap.size, 1, none⟩ = some (.int .i64 x.k) ∧ W3.cell? ⟨w2.heap.size, 2, none⟩ = some (.int .i64 x.i) ∧ W3.cell? ⟨w2.heap.size, 3, none⟩ = some (.int .i64 x.j) :=
    ⟨_, rfl, keep_below z1 (bnew (brefl _) _), hp2.below (bnew (brefl _) _), kb2.alloc (by omega) _, by go_simp, by go_simp, by go_simp, by go_simp⟩
  rw [hW3]
  clear hW3 z1 hp2 kb2
  generalize w2.heap.size = B1 at *
  have hz3 : R < W3.heap.size := block_lt_of_cell z3
  go_wp2_with fail
  refine (hwb _ _ hp3).mono ?_
  rintro e w4 ⟨rfl, hb4⟩
  have z4 := keep_below z3 hb4
  have hp4 := hp3.below hb4
  have kb4 : Below R w w4 := kb3.trans (hb4.mono (by omega))
  have r0 := keep_below q0 hb4
  have r1 := keep_below q1 hb4
  have r2 := keep_below q2 hb4
  have r3 := keep_below q3 hb4
  clear z3 hp3 kb3 q0 q1 q2 q3 hb4 hz3
  have hz4 : R < w4.heap.size := block_lt_of_cell z4
  go_upto_region 6 with (fail)
  obtain ⟨W5, hW5, z5, hp5, kb5, q0, q1, q2, q3, s0, s1, s2, s3⟩ : ∃ W5, w4.alloc (.cells #[.int .i64 y.m, .int .i64 y.k, .int .i64 y.i, .int .i64 y.j] 63) = W5 ∧ W5.cell? ⟨R, 0, none⟩ = some (.int .i64 c.lv) ∧ PBox W5 p c ∧ Below R w W5 ∧ W5.cell? ⟨B1, 0, none⟩ = some (.int .i64 x.m) ∧ W5.cell? ⟨B1, 1, none⟩ = some (.int .i64 x.k) ∧ W5.cell? ⟨B1, 2, none⟩ = some (.int .i64 x.i) ∧ W5.cell? ⟨B1, 3, none⟩ = some (.int .i64 x.j) ∧ W5.cell? ⟨w4.heap.size, 0, none⟩ = some (.int .i64 y.m) ∧ W5.cell? ⟨w4.heap.size, 1, none⟩ = some (.int .i64 y.k) ∧ W5.cell? ⟨w4.heap.size, 2, none⟩ = some (.int .i64 y.i) ∧ W5.cell? ⟨w4.heap.size, 3, none⟩ = some (.int .i64 y.j) :=
    ⟨_, rfl, keep_below z4 (bnew (brefl _) _), hp4.below (bnew (brefl _) _), kb4.alloc (by omega) _, keep_below r0 (bnew (brefl _) _), keep_below r1 (bnew (brefl _) _), keep_below r2 (bnew (brefl _) _), keep_below r3 (bnew (brefl _) _), by go_simp, by go_simp, by go_simp, by go_simp⟩
  rw [hW5]
  clear hW5 z4 hp4 kb4 r0 r1 r2 r3
  generalize w4.heap.size = B2 at *
  have hz5 : R < W5.heap.size := block_lt_of_cell z5
  have hy1 := block_lt_of_cell q0
  have hy2 := block_lt_of_cell s0
  go_wp2_with fail
  refine (hwd _ _ hp5).mono ?_
  rintro e w6 ⟨rfl, hb6⟩
  have z6 := keep_below z5 hb6
  have hp6 := hp5.below hb6
  have kb6 : Below R w w6 := kb5.trans (hb6.mono (by omega))
  have q0 := keep_below q0 hb6
  have q1 := keep_below q1 hb6
  have q2 := keep_below q2 hb6
  have q3 := keep_below q3 hb6
  have s0 := keep_below s0 hb6
  have s1 := keep_below s1 hb6
  have s2 := keep_below s2 hb6
  have s3 := keep_below s3 hb6
  have hz6 : R < w6.heap.size := block_lt_of_cell z6
  have hy1 := block_lt_of_cell q0
  have hy2 := block_lt_of_cell s0
  clear z5 hp5 kb5 hb6
  go_wp2_with fail
  refine (hwd _ _ hp6).mono ?_
  rintro e w7 ⟨rfl, hb7⟩
  have z7 := keep_below z6 hb7
  have hp7 := hp6.below hb7
  have kb7 : Below R w w7 := kb6.trans (hb7.mono (by omega))
  have q0 := keep_below q0 hb7
  have q1 := keep_below q1 hb7
  have q2 := keep_below q2 hb7
  have q3 := keep_below q3 hb7
  have s0 := keep_below s0 hb7
  have s1 := keep_below s1 hb7
  have s2 := keep_below s2 hb7
  have s3 := keep_below s3 hb7
  have hz7 : R < w7.heap.size := block_lt_of_cell z7
  have hy1 := block_lt_of_cell q0
  have hy2 := block_lt_of_cell s0
  clear z6 hp6 kb6 hb7
  go_wp2_with fail
  refine (lives05 _).mono ?_
  rintro e w20 ⟨rfl, hb20⟩
  go_wp2
  go_ret
  exact ⟨rfl, by rw [HBw.out]; exact kb7.trans (hb20.mono (by omega))⟩

theorem planapart_any (c : Cf) (a b : Int) (w : World) : Calls Try.prog 11 #[.agg #[.int .i64 c.lv, .int .i64 c.th, .int .i64 c.o0, .int .i64 c.o1, .int .i64 c.o2, .int .i64 c.o3, .int .i64 c.o4, .int .i64 c.o5, .int .i64 c.o6, .int .i64 c.o7, .int .i64 c.sl, .int .i64 c.li, .int .i64 c.ge, .int .i64 c.qu], .int .i64 a, .int .i64 b] w fun e w' => e = .returned (.bool true) ∧ Below w.heap.size w w' := by
  by_cases hm : c.May
  · have hmb := mul_bd hm
    have hwd := fun (p : Nat) (w : World) (h : PBox w p c) => words_any h hm
    have hn := fun w => new_yes c hm w
    have hno := fun (a : Int) (h : a < 0 ∨ c.lv * c.size ≤ a) (p : Nat) (w : World) (hp : PBox w p c) => what_no hp hm a h
    have hye := fun (a : Int) (h0 : 0 ≤ a) (h1 : a < c.lv * c.size) (p : Nat) (w : World) (hp : PBox w p c) => what_yes hp hm a h0 h1
    have hat := fun (a : Int) (h1 : 0 ≤ a) (h2 : a < c.lv * c.size) (p : Nat) (w : World) (h : PBox w p c) => by
      have h3 := at_p h hm (c.what a).m (c.what a).k (c.what a).i (c.what a).j (what_i hm h1 h2)
      rw [show Pl.mk (c.what a).m (c.what a).k (c.what a).i (c.what a).j = c.what a from rfl, at_what hm h1 h2] at h3
      exact h3
    have hlv := fun (a : Int) (h1 : 0 ≤ a) (h2 : a < c.lv * c.size) => (what_ok hm.m1 hm.s1 h1 h2).1.m1
    have hmm : ∀ a b : Int, a ≤ b → (c.what a).m ≤ (c.what b).m := fun a b h => by
      have e : ∀ a, (c.what a).m = a / c.size := fun a => by unfold Cf.what; dsimp only; split <;> rfl
      rw [e, e]
      exact Int.ediv_le_ediv (size_pos hm.m1 hm.s1) h
    have hwi := fun (a : Int) (h1 : 0 ≤ a) (h2 : a < c.lv * c.size) => at_what hm h1 h2
    generalize c.lv * c.size = N at *
    have hN : N ≤ 1672 := by omega
    rcases (by omega : a < 0 ∨ (0 ≤ a ∧ a < N) ∨ (0 ≤ a ∧ N ≤ a)) with ga | ga | ga <;> rcases (by omega : b < 0 ∨ (0 ≤ b ∧ b < N) ∨ (0 ≤ b ∧ N ≤ b)) with gb | gb | gb
    · exact apart_nn c N hN a b ⟨0, 0, 0, 0⟩ ⟨0, 0, 0, 0⟩ (decide_eq_false (by omega)) (decide_eq_false (by omega)) hwd (hno a (.inl ga)) (hno b (.inl gb)) hn w
    · exact apart_ny c N hN a b ⟨0, 0, 0, 0⟩ (c.what b) (decide_eq_false (by omega)) gb.1 gb.2 hwd (hno a (.inl ga)) (hye b gb.1 gb.2) hn w
    · exact apart_ng c N hN a b ⟨0, 0, 0, 0⟩ ⟨0, 0, 0, 0⟩ (decide_eq_false (by omega)) gb.1 (decide_eq_false (by omega)) hwd (hno a (.inl ga)) (hno b (.inr gb.2)) hn w
    · exact apart_yn c N hN a b (c.what a) ⟨0, 0, 0, 0⟩ ga.1 ga.2 (decide_eq_false (by omega)) hwd (hye a ga.1 ga.2) (hno b (.inl gb)) hn w
    · rcases (by omega : a = b ∨ a < b ∨ b < a) with hab | hab | hab
      · subst hab
        exact apart_yye c N hN a (c.what a) ga.1 ga.2 hwd (hye a ga.1 ga.2) (hat a ga.1 ga.2) (hlv a ga.1 ga.2) (fun w => by rw [eql_px, decide_eq_true rfl]) hn w
      · have hne : c.what a ≠ c.what b := fun q => by have e1 := hwi a ga.1 ga.2; have e2 := hwi b gb.1 gb.2; rw [q] at e1; omega
        exact apart_yyl c N hN a b (c.what a) (c.what b) ga.1 ga.2 gb.1 gb.2 hwd (hye a ga.1 ga.2) (hye b gb.1 gb.2) (hat a ga.1 ga.2) (hat b gb.1 gb.2) (hlv a ga.1 ga.2) (fun w => by rw [eql_px, decide_eq_false hne]) (by simp; omega) (decide_eq_false (by omega)) (hmm a b (by omega)) hn w
      · have hne : c.what a ≠ c.what b := fun q => by have e1 := hwi a ga.1 ga.2; have e2 := hwi b gb.1 gb.2; rw [q] at e1; omega
        exact apart_yyg c N hN a b (c.what a) (c.what b) ga.1 ga.2 gb.1 gb.2 hwd (hye a ga.1 ga.2) (hye b gb.1 gb.2) (hat a ga.1 ga.2) (hat b gb.1 gb.2) (hlv a ga.1 ga.2) (fun w => by rw [eql_px, decide_eq_false hne]) (by simp; omega) hab hn w
    · exact apart_yg c N hN a b (c.what a) ⟨0, 0, 0, 0⟩ ga.1 ga.2 gb.1 (decide_eq_false (by omega)) hwd (hye a ga.1 ga.2) (hno b (.inr gb.2)) hn w
    · exact apart_gn c N hN a b ⟨0, 0, 0, 0⟩ ⟨0, 0, 0, 0⟩ ga.1 (decide_eq_false (by omega)) (decide_eq_false (by omega)) hwd (hno a (.inr ga.2)) (hno b (.inl gb)) hn w
    · exact apart_gy c N hN a b ⟨0, 0, 0, 0⟩ (c.what b) ga.1 (decide_eq_false (by omega)) gb.1 gb.2 hwd (hno a (.inr ga.2)) (hye b gb.1 gb.2) hn w
    · exact apart_gg c N hN a b ⟨0, 0, 0, 0⟩ ⟨0, 0, 0, 0⟩ ga.1 (decide_eq_false (by omega)) gb.1 (decide_eq_false (by omega)) hwd (hno a (.inr ga.2)) (hno b (.inr gb.2)) hn w
  · exact planapart_no c (may_no hm) a b w
end Go.Proofs.Ytpnhpiniflcciaa
