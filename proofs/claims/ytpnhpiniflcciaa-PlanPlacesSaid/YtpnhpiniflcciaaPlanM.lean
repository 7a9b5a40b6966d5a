/- The law PlanPlaces. -/
import Derived.Test.YtpnhpiniflcciaaPlanK
namespace Go.Proofs.Ytpnhpiniflcciaa
set_option linter.unusedVariables false
set_option linter.unusedSimpArgs false
open Go.RowKit

theorem neq_z14 (w : World) : (binOp .neq 45 (.agg #[.int .i64 0, .int .i64 0, .int .i64 0, .int .i64 0, .int .i64 0, .int .i64 0, .int .i64 0, .int .i64 0, .int .i64 0, .int .i64 0, .int .i64 0, .int .i64 0, .int .i64 0, .int .i64 0]) (.agg #[.int .i64 0, .int .i64 0, .int .i64 0, .int .i64 0, .int .i64 0, .int .i64 0, .int .i64 0, .int .i64 0, .int .i64 0, .int .i64 0, .int .i64 0, .int .i64 0, .int .i64 0, .int .i64 0])).run Try.prog w = .ok (.bool false) w := by
  simp [go_sem, arr8, eqElems]
theorem eql_z4 (w : World) : (binOp .eql 63 (.agg #[.int .i64 0, .int .i64 0, .int .i64 0, .int .i64 0]) (.agg #[.int .i64 0, .int .i64 0, .int .i64 0, .int .i64 0])).run Try.prog w = .ok (.bool true) w := by
  simp [go_sem, eqElems]
/-- Where the reference finds a place is where the plan has it. -/
theorem isat_at {c : Cf} (hm : c.May) {N : Nat} (hN : c.lv * c.size = (N : Int)) (x : Pl) : IsAt (wl c N) x (c.at_ x) := by
  by_cases hx : x.Ok c
  · have hb := pos_bd hm.m1 hm.s1 hx
    have hw := what_pos hm.m1 hm.s1 hx
    refine .inl ⟨(c.pos x).toNat, ?_, fun j hj e => ?_, ?_⟩
    · rw [wl_get (by omega), Int.toNat_of_nonneg hb.1, hw]
    · have hj2 : j < N := by omega
      rw [wl_get hj2] at e
      injection e with e
      have := (what_ok hm.m1 hm.s1 (a := (j : Int)) (by omega) (by omega)).2
      rw [e] at this
      omega
    · rw [at_ok hx, Int.toNat_of_nonneg hb.1]
  · refine .inr ⟨fun j e => ?_, at_no hx⟩
    by_cases hj : j < N
    · rw [wl_get hj] at e
      injection e with e
      have := (what_ok hm.m1 hm.s1 (a := (j : Int)) (by omega) (by omega)).1
      rw [e] at this
      exact hx this
    · rw [List.getElem?_eq_none (by rw [wl_len]; omega)] at e
      cases e

set_option maxHeartbeats 4000000 in
set_option maxRecDepth 100000 in
theorem planplaces_no (c : Cf) (hm : mayB c = false) (x : Pl) (a : Int) (w : World) : Calls Try.prog 12 #[.agg #[.int .i64 c.lv, .int .i64 c.th, .int .i64 c.o0, .int .i64 c.o1, .int .i64 c.o2, .int .i64 c.o3, .int .i64 c.o4, .int .i64 c.o5, .int .i64 c.o6, .int .i64 c.o7, .int .i64 c.sl, .int .i64 c.li, .int .i64 c.ge, .int .i64 c.qu], .agg #[.int .i64 x.m, .int .i64 x.k, .int .i64 x.i, .int .i64 x.j], .int .i64 a] w fun e w' => e = .returned (.bool true) ∧ Below w.heap.size w w' := by
  have hn := fun w => new_no c hm w
  have hr := fun w => rmay_any c w
  rw [hm] at hr
  have hnz := neq_z14
  go_enter Try.func12, Try.ntmps12
  go_wp2_with fail
  obtain ⟨W0, hW0, k0, k1, k2, k3, k4, k5, k6, k7, k8, k9, k10, k11, k12, k13, x0, x1, x2, x3, kb, hsz⟩ : ∃ W0, (w.alloc (.cells #[.int .i64 c.lv, .int .i64 c.th, .int .i64 c.o0, .int .i64 c.o1, .int .i64 c.o2, .int .i64 c.o3, .int .i64 c.o4, .int .i64 c.o5, .int .i64 c.o6, .int .i64 c.o7, .int .i64 c.sl, .int .i64 c.li, .int .i64 c.ge, .int .i64 c.qu] 45)).alloc (.cells #[.int .i64 x.m, .int .i64 x.k, .int .i64 x.i, .int .i64 x.j] 63) = W0 ∧ W0.cell? ⟨w.heap.size, 0, none⟩ = some (.int .i64 c.lv) ∧ W0.cell? ⟨w.heap.size, 1, none⟩ = some (.int .i64 c.th) ∧ W0.cell? ⟨w.heap.size, 2, none⟩ = some (.int .i64 c.o0) ∧ W0.cell? ⟨w.heap.size, 3, none⟩ = some (.int .i64 c.o1) ∧ W0.cell? ⟨w.heap.size, 4, none⟩ = some (.int .i64 c.o2) ∧ W0.cell? ⟨w.heap.size, 5, none⟩ = some (.int .i64 c.o3) ∧ W0.cell? ⟨w.heap.size, 6, none⟩ = some (.int .i64 c.o4) ∧ W0.cell? ⟨w.heap.size, 7, none⟩ = some (.int .i64 c.o5) ∧ W0.cell? ⟨w.heap.size, 8, none⟩ = some (.int .i64 c.o6) ∧ W0.cell? ⟨w.heap.size, 9, none⟩ = some (.int .i64 c.o7) ∧ W0.cell? ⟨w.heap.size, 10, none⟩ = some (.int .i64 c.sl) ∧ W0.cell? ⟨w.heap.size, 11, none⟩ = some (.int .i64 c.li) ∧ W0.cell? ⟨w.heap.size, 12, none⟩ = some (.int .i64 c.ge) ∧ W0.cell? ⟨w.heap.size, 13, none⟩ = some (.int .i64 c.qu) ∧ W0.cell? ⟨w.heap.size + 1, 0, none⟩ = some (.int .i64 x.m) ∧ W0.cell? ⟨w.heap.size + 1, 1, none⟩ = some (.int .i64 x.k) ∧ W0.cell? ⟨w.heap.size + 1, 2, none⟩ = some (.int .i64 x.i) ∧ W0.cell? ⟨w.heap.size + 1, 3, none⟩ = some (.int .i64 x.j) ∧ Below w.heap.size w W0 ∧ w.heap.size + 1 < W0.heap.size :=
    ⟨_, rfl, by go_simp, by go_simp, by go_simp, by go_simp, by go_simp, by go_simp, by go_simp, by go_simp, by go_simp, by go_simp, by go_simp, by go_simp, by go_simp, by go_simp, by go_simp, by go_simp, by go_simp, by go_simp, bnew (bnew (brefl w) _) _, by simp⟩
  rw [hW0]
  clear hW0
  refine (what_nil a _).mono ?_
  rintro e w1 ⟨rfl, hb1⟩
  have kb1 := bnext kb hb1
  have k0 := keep_below k0 hb1
  have k1 := keep_below k1 hb1
  have k2 := keep_below k2 hb1
  have k3 := keep_below k3 hb1
  have k4 := keep_below k4 hb1
  have k5 := keep_below k5 hb1
  have k6 := keep_below k6 hb1
  have k7 := keep_below k7 hb1
  have k8 := keep_below k8 hb1
  have k9 := keep_below k9 hb1
  have k10 := keep_below k10 hb1
  have k11 := keep_below k11 hb1
  have k12 := keep_below k12 hb1
  have k13 := keep_below k13 hb1
  have x0 := keep_below x0 hb1
  have x1 := keep_below x1 hb1
  have x2 := keep_below x2 hb1
  have x3 := keep_below x3 hb1
  have hs1 : w.heap.size + 1 < w1.heap.size := by have := hb1.size; omega
  clear kb hb1 hsz
  generalize hR : w.heap.size = R at *
  have HR := Lib.hid hR
  clear hR
  go_upto_region 3 with (fail)
  obtain ⟨W2, hW2, j0, j1, j2, j3, j4, j5, j6, j7, j8, j9, j10, j11, j12, j13, y0, y1, y2, y3, kb2, hs2⟩ : ∃ W2, w1.alloc (.cells #[.int .i64 0, .int .i64 0, .int .i64 0, .int .i64 0] 63) = W2 ∧ W2.cell? ⟨R, 0, none⟩ = some (.int .i64 c.lv) ∧ W2.cell? ⟨R, 1, none⟩ = some (.int .i64 c.th) ∧ W2.cell? ⟨R, 2, none⟩ = some (.int .i64 c.o0) ∧ W2.cell? ⟨R, 3, none⟩ = some (.int .i64 c.o1) ∧ W2.cell? ⟨R, 4, none⟩ = some (.int .i64 c.o2) ∧ W2.cell? ⟨R, 5, none⟩ = some (.int .i64 c.o3) ∧ W2.cell? ⟨R, 6, none⟩ = some (.int .i64 c.o4) ∧ W2.cell? ⟨R, 7, none⟩ = some (.int .i64 c.o5) ∧ W2.cell? ⟨R, 8, none⟩ = some (.int .i64 c.o6) ∧ W2.cell? ⟨R, 9, none⟩ = some (.int .i64 c.o7) ∧ W2.cell? ⟨R, 10, none⟩ = some (.int .i64 c.sl) ∧ W2.cell? ⟨R, 11, none⟩ = some (.int .i64 c.li) ∧ W2.cell? ⟨R, 12, none⟩ = some (.int .i64 c.ge) ∧ W2.cell? ⟨R, 13, none⟩ = some (.int .i64 c.qu) ∧ W2.cell? ⟨R + 1, 0, none⟩ = some (.int .i64 x.m) ∧ W2.cell? ⟨R + 1, 1, none⟩ = some (.int .i64 x.k) ∧ W2.cell? ⟨R + 1, 2, none⟩ = some (.int .i64 x.i) ∧ W2.cell? ⟨R + 1, 3, none⟩ = some (.int .i64 x.j) ∧ Below R w W2 ∧ R + 1 < W2.heap.size :=
    ⟨_, rfl, keep_below k0 (bnew (brefl _) _), keep_below k1 (bnew (brefl _) _), keep_below k2 (bnew (brefl _) _), keep_below k3 (bnew (brefl _) _), keep_below k4 (bnew (brefl _) _), keep_below k5 (bnew (brefl _) _), keep_below k6 (bnew (brefl _) _), keep_below k7 (bnew (brefl _) _), keep_below k8 (bnew (brefl _) _), keep_below k9 (bnew (brefl _) _), keep_below k10 (bnew (brefl _) _), keep_below k11 (bnew (brefl _) _), keep_below k12 (bnew (brefl _) _), keep_below k13 (bnew (brefl _) _), keep_below x0 (bnew (brefl _) _), keep_below x1 (bnew (brefl _) _), keep_below x2 (bnew (brefl _) _), keep_below x3 (bnew (brefl _) _), kb1.alloc (by omega) _, by simp; omega⟩
  rw [hW2]
  clear hW2 kb1 hs1 k0 k1 k2 k3 k4 k5 k6 k7 k8 k9 k10 k11 k12 k13 x0 x1 x2 x3
  go_wp2_with fail
  refine (words_nil _).mono ?_
  rintro e w3 ⟨rfl, rfl⟩
  go_wp2_with fail
  refine (at_nil x.m x.k x.i x.j _).mono ?_
  rintro e w3 ⟨rfl, hb3⟩
  go_wp2_with fail
  refine (conf_nil _).mono ?_
  rintro e w4 ⟨rfl, hb4⟩
  have kb4 : Below R w w4 := (kb2.trans (hb3.mono (by omega))).trans (hb4.mono (by have := hb3.size; omega))
  have j0 := keep_below (keep_below j0 hb3) hb4
  have j1 := keep_below (keep_below j1 hb3) hb4
  have j2 := keep_below (keep_below j2 hb3) hb4
  have j3 := keep_below (keep_below j3 hb3) hb4
  have j4 := keep_below (keep_below j4 hb3) hb4
  have j5 := keep_below (keep_below j5 hb3) hb4
  have j6 := keep_below (keep_below j6 hb3) hb4
  have j7 := keep_below (keep_below j7 hb3) hb4
  have j8 := keep_below (keep_below j8 hb3) hb4
  have j9 := keep_below (keep_below j9 hb3) hb4
  have j10 := keep_below (keep_below j10 hb3) hb4
  have j11 := keep_below (keep_below j11 hb3) hb4
  have j12 := keep_below (keep_below j12 hb3) hb4
  have j13 := keep_below (keep_below j13 hb3) hb4
  have y0 := keep_below (keep_below y0 hb3) hb4
  have y1 := keep_below (keep_below y1 hb3) hb4
  have y2 := keep_below (keep_below y2 hb3) hb4
  have y3 := keep_below (keep_below y3 hb3) hb4
  have hs4 : R + 1 < w4.heap.size := by have := hb3.size; have := hb4.size; omega
  clear kb2 hb3 hb4 hs2
  go_wp2_with fail
  refine (hn _).mono ?_
  rintro e w5 ⟨rfl, hb5⟩
  have kb5 : Below R w w5 := kb4.trans (hb5.mono (by omega))
  have j0 := keep_below j0 hb5
  have j1 := keep_below j1 hb5
  have j2 := keep_below j2 hb5
  have j3 := keep_below j3 hb5
  have j4 := keep_below j4 hb5
  have j5 := keep_below j5 hb5
  have j6 := keep_below j6 hb5
  have j7 := keep_below j7 hb5
  have j8 := keep_below j8 hb5
  have j9 := keep_below j9 hb5
  have j10 := keep_below j10 hb5
  have j11 := keep_below j11 hb5
  have j12 := keep_below j12 hb5
  have j13 := keep_below j13 hb5
  have y0 := keep_below y0 hb5
  have y1 := keep_below y1 hb5
  have y2 := keep_below y2 hb5
  have y3 := keep_below y3 hb5
  have hs5 : R + 1 < w5.heap.size := by have := hb5.size; omega
  clear kb4 hb5 hs4
  go_wp2_with fail
  refine (hr _).mono ?_
  rintro e w6 ⟨rfl, hb6⟩
  have kb6 : Below R w w6 := kb5.trans (hb6.mono (by omega))
  have j0 := keep_below j0 hb6
  have j1 := keep_below j1 hb6
  have j2 := keep_below j2 hb6
  have j3 := keep_below j3 hb6
  have j4 := keep_below j4 hb6
  have j5 := keep_below j5 hb6
  have j6 := keep_below j6 hb6
  have j7 := keep_below j7 hb6
  have j8 := keep_below j8 hb6
  have j9 := keep_below j9 hb6
  have j10 := keep_below j10 hb6
  have j11 := keep_below j11 hb6
  have j12 := keep_below j12 hb6
  have j13 := keep_below j13 hb6
  have y0 := keep_below y0 hb6
  have y1 := keep_below y1 hb6
  have y2 := keep_below y2 hb6
  have y3 := keep_below y3 hb6
  have hs6 : R + 1 < w6.heap.size := by have := hb6.size; omega
  clear kb5 hb6 hs5
  go_wp2_with fail
  refine (lives05 _).mono ?_
  rintro e w20 ⟨rfl, hb20⟩
  go_wp2
  go_ret
  exact ⟨rfl, by rw [HR.out]; exact kb6.trans (hb20.mono (by omega))⟩

set_option maxHeartbeats 4000000 in
set_option maxRecDepth 100000 in
theorem planplaces_n (c : Cf) (hm : c.May) (N : Nat) (hN : N ≤ 2000) (x : Pl) (a : Int) (ha : a < 0)
    (hn : ∀ w : World, Calls Try.prog 35 #[.agg #[.int .i64 c.lv, .int .i64 c.th, .int .i64 c.o0, .int .i64 c.o1, .int .i64 c.o2, .int .i64 c.o3, .int .i64 c.o4, .int .i64 c.o5, .int .i64 c.o6, .int .i64 c.o7, .int .i64 c.sl, .int .i64 c.li, .int .i64 c.ge, .int .i64 c.qu]] w fun e w' => ∃ p, e = .returned (.tuple #[.pointer (some ⟨p, 0, none⟩), .int .i64 0]) ∧ PBox w' p c ∧ Below w.heap.size w w')
    (hr : ∀ w : World, Calls Try.prog 21 #[.agg #[.int .i64 c.lv, .int .i64 c.th, .int .i64 c.o0, .int .i64 c.o1, .int .i64 c.o2, .int .i64 c.o3, .int .i64 c.o4, .int .i64 c.o5, .int .i64 c.o6, .int .i64 c.o7, .int .i64 c.sl, .int .i64 c.li, .int .i64 c.ge, .int .i64 c.qu]] w fun e w' => e = .returned (.bool true) ∧ Below w.heap.size w w')
    (hall : ∀ w : World, Calls Try.prog 37 #[.agg #[.int .i64 c.lv, .int .i64 c.th, .int .i64 c.o0, .int .i64 c.o1, .int .i64 c.o2, .int .i64 c.o3, .int .i64 c.o4, .int .i64 c.o5, .int .i64 c.o6, .int .i64 c.o7, .int .i64 c.sl, .int .i64 c.li, .int .i64 c.ge, .int .i64 c.qu]] w fun e w' => ∃ A' c', e = .returned (.slice A' N c') ∧ w'.ownsRow w.heap.size 66 4 (.slice A' N c') N ((wl c N).flatMap plc) ∧ Below w.heap.size w w')
    (hwd : ∀ (p : Nat) (w : World), PBox w p c → Calls Try.prog 40 #[.pointer (some ⟨p, 0, none⟩)] w fun e w' => e = .returned (.int .i64 (N : Int)) ∧ Below w.heap.size w w')
    (hcf : ∀ (p : Nat) (w : World), PBox w p c → Calls Try.prog 41 #[.pointer (some ⟨p, 0, none⟩)] w fun e w' => e = .returned (.agg #[.int .i64 c.lv, .int .i64 c.th, .int .i64 c.o0, .int .i64 c.o1, .int .i64 c.o2, .int .i64 c.o3, .int .i64 c.o4, .int .i64 c.o5, .int .i64 c.o6, .int .i64 c.o7, .int .i64 c.sl, .int .i64 c.li, .int .i64 c.ge, .int .i64 c.qu]) ∧ Below w.heap.size w w')
    (r : Int) (hat : ∀ (p : Nat) (w : World), PBox w p c → Calls Try.prog 39 #[.pointer (some ⟨p, 0, none⟩), .agg #[.int .i64 x.m, .int .i64 x.k, .int .i64 x.i, .int .i64 x.j]] w fun e w' => e = .returned (.int .i64 r) ∧ Below w.heap.size w w')
    (hrat : ∀ (A : Option Addr) (n' : Nat) (w : World), Sl plc w A N n' (wl c N) → Calls Try.prog 42 #[.slice A N n', .agg #[.int .i64 x.m, .int .i64 x.k, .int .i64 x.i, .int .i64 x.j]] w fun e w' => e = .returned (.int .i64 r) ∧ Below w.heap.size w w')
    (hwh : ∀ (p : Nat) (w : World), PBox w p c → Calls Try.prog 38 #[.pointer (some ⟨p, 0, none⟩), .int .i64 a] w fun e w' => e = .returned (.tuple #[.agg #[.int .i64 0, .int .i64 0, .int .i64 0, .int .i64 0], .bool false]) ∧ Below w.heap.size w w') (w : World) :
    Calls Try.prog 12 #[.agg #[.int .i64 c.lv, .int .i64 c.th, .int .i64 c.o0, .int .i64 c.o1, .int .i64 c.o2, .int .i64 c.o3, .int .i64 c.o4, .int .i64 c.o5, .int .i64 c.o6, .int .i64 c.o7, .int .i64 c.sl, .int .i64 c.li, .int .i64 c.ge, .int .i64 c.qu], .agg #[.int .i64 x.m, .int .i64 x.k, .int .i64 x.i, .int .i64 x.j], .int .i64 a] w fun e w' => e = .returned (.bool true) ∧ Below w.heap.size w w' := by
  have hnc := neq_c5 c
  have hnz := neq_z14
  go_enter Try.func12, Try.ntmps12
  go_wp2_with fail
  obtain ⟨W0, hW0, k0, k1, k2, k3, k4, k5, k6, k7, k8, k9, k10, k11, k12, k13, x0, x1, x2, x3, kb, hsz⟩ : ∃ W0, (w.alloc (.cells #[.int .i64 c.lv, .int .i64 c.th, .int .i64 c.o0, .int .i64 c.o1, .int .i64 c.o2, .int .i64 c.o3, .int .i64 c.o4, .int .i64 c.o5, .int .i64 c.o6, .int .i64 c.o7, .int .i64 c.sl, .int .i64 c.li, .int .i64 c.ge, .int .i64 c.qu] 45)).alloc (.cells #[.int .i64 x.m, .int .i64 x.k, .int .i64 x.i, .int .i64 x.j] 63) = W0 ∧ W0.cell? ⟨w.heap.size, 0, none⟩ = some (.int .i64 c.lv) ∧ W0.cell? ⟨w.heap.size, 1, none⟩ = some (.int .i64 c.th) ∧ W0.cell? ⟨w.heap.size, 2, none⟩ = some (.int .i64 c.o0) ∧ W0.cell? ⟨w.heap.size, 3, none⟩ = some (.int .i64 c.o1) ∧ W0.cell? ⟨w.heap.size, 4, none⟩ = some (.int .i64 c.o2) ∧ W0.cell? ⟨w.heap.size, 5, none⟩ = some (.int .i64 c.o3) ∧ W0.cell? ⟨w.heap.size, 6, none⟩ = some (.int .i64 c.o4) ∧ W0.cell? ⟨w.heap.size, 7, none⟩ = some (.int .i64 c.o5) ∧ W0.cell? ⟨w.heap.size, 8, none⟩ = some (.int .i64 c.o6) ∧ W0.cell? ⟨w.heap.size, 9, none⟩ = some (.int .i64 c.o7) ∧ W0.cell? ⟨w.heap.size, 10, none⟩ = some (.int .i64 c.sl) ∧ W0.cell? ⟨w.heap.size, 11, none⟩ = some (.int .i64 c.li) ∧ W0.cell? ⟨w.heap.size, 12, none⟩ = some (.int .i64 c.ge) ∧ W0.cell? ⟨w.heap.size, 13, none⟩ = some (.int .i64 c.qu) ∧ W0.cell? ⟨w.heap.size + 1, 0, none⟩ = some (.int .i64 x.m) ∧ W0.cell? ⟨w.heap.size + 1, 1, none⟩ = some (.int .i64 x.k) ∧ W0.cell? ⟨w.heap.size + 1, 2, none⟩ = some (.int .i64 x.i) ∧ W0.cell? ⟨w.heap.size + 1, 3, none⟩ = some (.int .i64 x.j) ∧ Below w.heap.size w W0 ∧ w.heap.size + 1 < W0.heap.size :=
    ⟨_, rfl, by go_simp, by go_simp, by go_simp, by go_simp, by go_simp, by go_simp, by go_simp, by go_simp, by go_simp, by go_simp, by go_simp, by go_simp, by go_simp, by go_simp, by go_simp, by go_simp, by go_simp, by go_simp, bnew (bnew (brefl w) _) _, by simp⟩
  rw [hW0]
  clear hW0
  refine (what_nil a _).mono ?_
  rintro e w1 ⟨rfl, hb1⟩
  have kb1 := bnext kb hb1
  have k0 := keep_below k0 hb1
  have k1 := keep_below k1 hb1
  have k2 := keep_below k2 hb1
  have k3 := keep_below k3 hb1
  have k4 := keep_below k4 hb1
  have k5 := keep_below k5 hb1
  have k6 := keep_below k6 hb1
  have k7 := keep_below k7 hb1
  have k8 := keep_below k8 hb1
  have k9 := keep_below k9 hb1
  have k10 := keep_below k10 hb1
  have k11 := keep_below k11 hb1
  have k12 := keep_below k12 hb1
  have k13 := keep_below k13 hb1
  have x0 := keep_below x0 hb1
  have x1 := keep_below x1 hb1
  have x2 := keep_below x2 hb1
  have x3 := keep_below x3 hb1
  have hs1 : w.heap.size + 1 < w1.heap.size := by have := hb1.size; omega
  clear kb hb1 hsz
  generalize hR : w.heap.size = R at *
  have HR := Lib.hid hR
  clear hR
  go_upto_region 3 with (fail)
  obtain ⟨W2, hW2, j0, j1, j2, j3, j4, j5, j6, j7, j8, j9, j10, j11, j12, j13, y0, y1, y2, y3, kb2, hs2⟩ : ∃ W2, w1.alloc (.cells #[.int .i64 0, .int .i64 0, .int .i64 0, .int .i64 0] 63) = W2 ∧ W2.cell? ⟨R, 0, none⟩ = some (.int .i64 c.lv) ∧ W2.cell? ⟨R, 1, none⟩ = some (.int .i64 c.th) ∧ W2.cell? ⟨R, 2, none⟩ = some (.int .i64 c.o0) ∧ W2.cell? ⟨R, 3, none⟩ = some (.int .i64 c.o1) ∧ W2.cell? ⟨R, 4, none⟩ = some (.int .i64 c.o2) ∧ W2.cell? ⟨R, 5, none⟩ = some (.int .i64 c.o3) ∧ W2.cell? ⟨R, 6, none⟩ = some (.int .i64 c.o4) ∧ W2.cell? ⟨R, 7, none⟩ = some (.int .i64 c.o5) ∧ W2.cell? ⟨R, 8, none⟩ = some (.int .i64 c.o6) ∧ W2.cell? ⟨R, 9, none⟩ = some (.int .i64 c.o7) ∧ W2.cell? ⟨R, 10, none⟩ = some (.int .i64 c.sl) ∧ W2.cell? ⟨R, 11, none⟩ = some (.int .i64 c.li) ∧ W2.cell? ⟨R, 12, none⟩ = some (.int .i64 c.ge) ∧ W2.cell? ⟨R, 13, none⟩ = some (.int .i64 c.qu) ∧ W2.cell? ⟨R + 1, 0, none⟩ = some (.int .i64 x.m) ∧ W2.cell? ⟨R + 1, 1, none⟩ = some (.int .i64 x.k) ∧ W2.cell? ⟨R + 1, 2, none⟩ = some (.int .i64 x.i) ∧ W2.cell? ⟨R + 1, 3, none⟩ = some (.int .i64 x.j) ∧ Below R w W2 ∧ R + 1 < W2.heap.size :=
    ⟨_, rfl, keep_below k0 (bnew (brefl _) _), keep_below k1 (bnew (brefl _) _), keep_below k2 (bnew (brefl _) _), keep_below k3 (bnew (brefl _) _), keep_below k4 (bnew (brefl _) _), keep_below k5 (bnew (brefl _) _), keep_below k6 (bnew (brefl _) _), keep_below k7 (bnew (brefl _) _), keep_below k8 (bnew (brefl _) _), keep_below k9 (bnew (brefl _) _), keep_below k10 (bnew (brefl _) _), keep_below k11 (bnew (brefl _) _), keep_below k12 (bnew (brefl _) _), keep_below k13 (bnew (brefl _) _), keep_below x0 (bnew (brefl _) _), keep_below x1 (bnew (brefl _) _), keep_below x2 (bnew (brefl _) _), keep_below x3 (bnew (brefl _) _), kb1.alloc (by omega) _, by simp; omega⟩
  rw [hW2]
  clear hW2 kb1 hs1 k0 k1 k2 k3 k4 k5 k6 k7 k8 k9 k10 k11 k12 k13 x0 x1 x2 x3
  go_wp2_with fail
  refine (words_nil _).mono ?_
  rintro e w3 ⟨rfl, rfl⟩
  go_wp2_with fail
  refine (at_nil x.m x.k x.i x.j _).mono ?_
  rintro e w3 ⟨rfl, hb3⟩
  go_wp2_with fail
  refine (conf_nil _).mono ?_
  rintro e w4 ⟨rfl, hb4⟩
  have kb4 : Below R w w4 := (kb2.trans (hb3.mono (by omega))).trans (hb4.mono (by have := hb3.size; omega))
  have j0 := keep_below (keep_below j0 hb3) hb4
  have j1 := keep_below (keep_below j1 hb3) hb4
  have j2 := keep_below (keep_below j2 hb3) hb4
  have j3 := keep_below (keep_below j3 hb3) hb4
  have j4 := keep_below (keep_below j4 hb3) hb4
  have j5 := keep_below (keep_below j5 hb3) hb4
  have j6 := keep_below (keep_below j6 hb3) hb4
  have j7 := keep_below (keep_below j7 hb3) hb4
  have j8 := keep_below (keep_below j8 hb3) hb4
  have j9 := keep_below (keep_below j9 hb3) hb4
  have j10 := keep_below (keep_below j10 hb3) hb4
  have j11 := keep_below (keep_below j11 hb3) hb4
  have j12 := keep_below (keep_below j12 hb3) hb4
  have j13 := keep_below (keep_below j13 hb3) hb4
  have y0 := keep_below (keep_below y0 hb3) hb4
  have y1 := keep_below (keep_below y1 hb3) hb4
  have y2 := keep_below (keep_below y2 hb3) hb4
  have y3 := keep_below (keep_below y3 hb3) hb4
  have hs4 : R + 1 < w4.heap.size := by have := hb3.size; have := hb4.size; omega
  clear kb2 hb3 hb4 hs2
  go_wp2_with fail
  refine (hn _).mono ?_
  rintro e w5 ⟨p, rfl, hp5, hb5⟩
  have kb5 : Below R w w5 := kb4.trans (hb5.mono (by omega))
  have j0 := keep_below j0 hb5
  have j1 := keep_below j1 hb5
  have j2 := keep_below j2 hb5
  have j3 := keep_below j3 hb5
  have j4 := keep_below j4 hb5
  have j5 := keep_below j5 hb5
  have j6 := keep_below j6 hb5
  have j7 := keep_below j7 hb5
  have j8 := keep_below j8 hb5
  have j9 := keep_below j9 hb5
  have j10 := keep_below j10 hb5
  have j11 := keep_below j11 hb5
  have j12 := keep_below j12 hb5
  have j13 := keep_below j13 hb5
  have y0 := keep_below y0 hb5
  have y1 := keep_below y1 hb5
  have y2 := keep_below y2 hb5
  have y3 := keep_below y3 hb5
  have hs5 : R + 1 < w5.heap.size := by have := hb5.size; omega
  clear kb4 hb5 hs4
  go_wp2_with fail
  refine (hr _).mono ?_
  rintro e w6 ⟨rfl, hb6⟩
  have kb6 : Below R w w6 := kb5.trans (hb6.mono (by omega))
  have j0 := keep_below j0 hb6
  have j1 := keep_below j1 hb6
  have j2 := keep_below j2 hb6
  have j3 := keep_below j3 hb6
  have j4 := keep_below j4 hb6
  have j5 := keep_below j5 hb6
  have j6 := keep_below j6 hb6
  have j7 := keep_below j7 hb6
  have j8 := keep_below j8 hb6
  have j9 := keep_below j9 hb6
  have j10 := keep_below j10 hb6
  have j11 := keep_below j11 hb6
  have j12 := keep_below j12 hb6
  have j13 := keep_below j13 hb6
  have y0 := keep_below y0 hb6
  have y1 := keep_below y1 hb6
  have y2 := keep_below y2 hb6
  have y3 := keep_below y3 hb6
  have hs6 : R + 1 < w6.heap.size := by have := hb6.size; omega
  have hp6 := hp5.below hb6
  clear hp5
  clear kb5 hb6 hs5
  go_wp2_with fail
  refine (hall _).mono ?_
  rintro e w7 ⟨A', c', rfl, own7, hb7⟩
  have kb7 : Below R w w7 := kb6.trans (hb7.mono (by omega))
  have j0 := keep_below j0 hb7
  have j1 := keep_below j1 hb7
  have j2 := keep_below j2 hb7
  have j3 := keep_below j3 hb7
  have j4 := keep_below j4 hb7
  have j5 := keep_below j5 hb7
  have j6 := keep_below j6 hb7
  have j7 := keep_below j7 hb7
  have j8 := keep_below j8 hb7
  have j9 := keep_below j9 hb7
  have j10 := keep_below j10 hb7
  have j11 := keep_below j11 hb7
  have j12 := keep_below j12 hb7
  have j13 := keep_below j13 hb7
  have y0 := keep_below y0 hb7
  have y1 := keep_below y1 hb7
  have y2 := keep_below y2 hb7
  have y3 := keep_below y3 hb7
  have hs7 : R + 1 < w7.heap.size := by have := hb7.size; omega
  have hp7 := hp6.below hb7
  have hl7 := Sl.of_own plc_len (by decide) own7
  clear hp6 own7
  clear kb6 hb7 hs6
  go_upto_region 9 with (fail)
  have hX := @Ext.cell w7
  have hzz0 := block_lt_of_cell j0
  have hzz1 := block_lt_of_cell y0
  refine wp_region_noPanic ?_
  refine wp_region_plan (fun w' => ∃ x : Ext w7, w' = x.w) [([0, 1, 2, 3, 5, 6], 4), ([7, 8, 9, 10, 12], 11), ([13, 14, 15, 16, 17, 19, 20], 18), ([], 21)] [22, 23] (by kernel_rfl) (by kernel_rfl) (by kernel_rfl) (fun _ _ _ _ _ h => h) ⟨⟨_, (brefl w7).drew⟩, rfl⟩ ?_
  refine wpPlan_cons ?_
  simp only [pickOps, List.getElem?_cons_succ, List.getElem?_cons_zero, Option.elim_some]
  repeat (go_big_quiet_step (fail))
  refine wpQuiet_nil ?_
  refine planAct_some (fun K hK => ?_)
  go_simp
  refine (hwd p _ (hp7.below (brefl w7).drew)).mono ?_
  rintro e wa ⟨rfl, hba⟩
  go_wp2_with fail
  refine hK.out _ _ ⟨⟨_, (bnext (brefl w7).drew hba)⟩, rfl⟩ ?_
  clear hK K
  refine wpPlan_cons ?_
  simp only [pickOps, List.getElem?_cons_succ, List.getElem?_cons_zero, Option.elim_some]
  repeat (go_big_quiet_step (fail))
  refine wpQuiet_nil ?_
  refine planAct_some (fun K hK => ?_)
  go_simp
  refine (hcf p _ (hp7.below (bnext (brefl w7).drew hba))).mono ?_
  rintro e wb ⟨rfl, hbb⟩
  go_wp2_with fail
  refine hK.out _ _ ⟨⟨_, (bnext (bnext (brefl w7).drew hba) hbb)⟩, rfl⟩ ?_
  clear hK K
  refine wpPlan_cons ?_
  simp only [pickOps, List.getElem?_cons_succ, List.getElem?_cons_zero, Option.elim_some]
  repeat (go_big_quiet_step (fail))
  refine wpQuiet_nil ?_
  refine planAct_some (fun K hK => ?_)
  go_simp
  refine (hat p _ (hp7.below (bnext (bnext (brefl w7).drew hba) hbb))).mono ?_
  rintro e wd ⟨rfl, hbd⟩
  go_wp2_with fail
  refine hK.out _ _ ⟨⟨_, (bnext (bnext (bnext (brefl w7).drew hba) hbb) hbd)⟩, rfl⟩ ?_
  clear hK K
  refine wpPlan_cons ?_
  simp only [pickOps, List.getElem?_cons_succ, List.getElem?_cons_zero, Option.elim_some]
  repeat (go_big_quiet_step (fail))
  refine wpQuiet_nil ?_
  refine planAct_some (fun K hK => ?_)
  go_simp
  refine (hrat _ _ _ (hl7.below (bnext (bnext (bnext (brefl w7).drew hba) hbb) hbd))).mono ?_
  rintro e we ⟨rfl, hbe⟩
  go_wp2_with fail
  refine hK.out _ _ ⟨⟨_, (bnext (bnext (bnext (bnext (brefl w7).drew hba) hbb) hbd) hbe)⟩, rfl⟩ ?_
  clear hK K
  refine wpPlan_last ?_
  simp only [pickOps, List.getElem?_cons_succ, List.getElem?_cons_zero, Option.elim_some]
  repeat (go_big_quiet_step (fail))
  refine wpQuiet_nil ?_
  refine NoPanic.normal ?_
  clear hX hzz0 hzz1
  have hb9 := (bnext (bnext (bnext (bnext (brefl w7).drew hba) hbb) hbd) hbe)
  have kb9 : Below R w we := kb7.trans (hb9.mono (by omega))
  have hp9 := hp7.below hb9
  have hl9 := hl7.below hb9
  have hs9 : R + 1 < we.heap.size := by have := hb9.size; omega
  clear hp7 hl7 hba hbb hbd hbe hb9 kb7 hs7 j0 j1 j2 j3 j4 j5 j6 j7 j8 j9 j10 j11 j12 j13 y0 y1 y2 y3
  generalize we = w9 at *
  go_wp2_with fail
  refine (hwh p _ hp9).mono ?_
  rintro e w10 ⟨rfl, hb10⟩
  have hl10 := hl9.below hb10
  have kb10 : Below R w w10 := kb9.trans (hb10.mono (by omega))
  have hs10 : R + 1 < w10.heap.size := by have := hb10.size; omega
  clear hp9 hl9 kb9 hb10 hs9
  go_upto_region 12 with (fail)
  obtain ⟨W11, hW11, y0, y1, y2, y3, kb11, hs11, hl11⟩ : ∃ W11, w10.alloc (.cells #[.int .i64 0, .int .i64 0, .int .i64 0, .int .i64 0] 63) = W11 ∧ W11.cell? ⟨w10.heap.size, 0, none⟩ = some (.int .i64 0) ∧ W11.cell? ⟨w10.heap.size, 1, none⟩ = some (.int .i64 0) ∧ W11.cell? ⟨w10.heap.size, 2, none⟩ = some (.int .i64 0) ∧ W11.cell? ⟨w10.heap.size, 3, none⟩ = some (.int .i64 0) ∧ Below R w W11 ∧ R + 1 < W11.heap.size ∧ Sl plc W11 A' N c' (wl c N) :=
    ⟨_, rfl, by go_simp, by go_simp, by go_simp, by go_simp, kb10.alloc (by omega) _, by simp; omega, hl10.alloc _⟩
  rw [hW11]
  clear hW11 kb10 hs10 hl10
  generalize w10.heap.size = B at *
  have hzB := block_lt_of_cell y0
  have hez := eql_z4
  clear hl11
  go_wp2_with fail
  refine (lives05 _).mono ?_
  rintro e w20 ⟨rfl, hb20⟩
  go_wp2
  go_ret
  exact ⟨rfl, by rw [HR.out]; exact kb11.trans (hb20.mono (by omega))⟩
set_option maxHeartbeats 4000000 in
set_option maxRecDepth 100000 in
theorem planplaces_g (c : Cf) (hm : c.May) (N : Nat) (hN : N ≤ 2000) (x : Pl) (a : Int) (ha : decide (a < 0) = false) (hb : (N : Int) ≤ a)
    (hn : ∀ w : World, Calls Try.prog 35 #[.agg #[.int .i64 c.lv, .int .i64 c.th, .int .i64 c.o0, .int .i64 c.o1, .int .i64 c.o2, .int .i64 c.o3, .int .i64 c.o4, .int .i64 c.o5, .int .i64 c.o6, .int .i64 c.o7, .int .i64 c.sl, .int .i64 c.li, .int .i64 c.ge, .int .i64 c.qu]] w fun e w' => ∃ p, e = .returned (.tuple #[.pointer (some ⟨p, 0, none⟩), .int .i64 0]) ∧ PBox w' p c ∧ Below w.heap.size w w')
    (hr : ∀ w : World, Calls Try.prog 21 #[.agg #[.int .i64 c.lv, .int .i64 c.th, .int .i64 c.o0, .int .i64 c.o1, .int .i64 c.o2, .int .i64 c.o3, .int .i64 c.o4, .int .i64 c.o5, .int .i64 c.o6, .int .i64 c.o7, .int .i64 c.sl, .int .i64 c.li, .int .i64 c.ge, .int .i64 c.qu]] w fun e w' => e = .returned (.bool true) ∧ Below w.heap.size w w')
    (hall : ∀ w : World, Calls Try.prog 37 #[.agg #[.int .i64 c.lv, .int .i64 c.th, .int .i64 c.o0, .int .i64 c.o1, .int .i64 c.o2, .int .i64 c.o3, .int .i64 c.o4, .int .i64 c.o5, .int .i64 c.o6, .int .i64 c.o7, .int .i64 c.sl, .int .i64 c.li, .int .i64 c.ge, .int .i64 c.qu]] w fun e w' => ∃ A' c', e = .returned (.slice A' N c') ∧ w'.ownsRow w.heap.size 66 4 (.slice A' N c') N ((wl c N).flatMap plc) ∧ Below w.heap.size w w')
    (hwd : ∀ (p : Nat) (w : World), PBox w p c → Calls Try.prog 40 #[.pointer (some ⟨p, 0, none⟩)] w fun e w' => e = .returned (.int .i64 (N : Int)) ∧ Below w.heap.size w w')
    (hcf : ∀ (p : Nat) (w : World), PBox w p c → Calls Try.prog 41 #[.pointer (some ⟨p, 0, none⟩)] w fun e w' => e = .returned (.agg #[.int .i64 c.lv, .int .i64 c.th, .int .i64 c.o0, .int .i64 c.o1, .int .i64 c.o2, .int .i64 c.o3, .int .i64 c.o4, .int .i64 c.o5, .int .i64 c.o6, .int .i64 c.o7, .int .i64 c.sl, .int .i64 c.li, .int .i64 c.ge, .int .i64 c.qu]) ∧ Below w.heap.size w w')
    (r : Int) (hat : ∀ (p : Nat) (w : World), PBox w p c → Calls Try.prog 39 #[.pointer (some ⟨p, 0, none⟩), .agg #[.int .i64 x.m, .int .i64 x.k, .int .i64 x.i, .int .i64 x.j]] w fun e w' => e = .returned (.int .i64 r) ∧ Below w.heap.size w w')
    (hrat : ∀ (A : Option Addr) (n' : Nat) (w : World), Sl plc w A N n' (wl c N) → Calls Try.prog 42 #[.slice A N n', .agg #[.int .i64 x.m, .int .i64 x.k, .int .i64 x.i, .int .i64 x.j]] w fun e w' => e = .returned (.int .i64 r) ∧ Below w.heap.size w w')
    (hwh : ∀ (p : Nat) (w : World), PBox w p c → Calls Try.prog 38 #[.pointer (some ⟨p, 0, none⟩), .int .i64 a] w fun e w' => e = .returned (.tuple #[.agg #[.int .i64 0, .int .i64 0, .int .i64 0, .int .i64 0], .bool false]) ∧ Below w.heap.size w w') (w : World) :
    Calls Try.prog 12 #[.agg #[.int .i64 c.lv, .int .i64 c.th, .int .i64 c.o0, .int .i64 c.o1, .int .i64 c.o2, .int .i64 c.o3, .int .i64 c.o4, .int .i64 c.o5, .int .i64 c.o6, .int .i64 c.o7, .int .i64 c.sl, .int .i64 c.li, .int .i64 c.ge, .int .i64 c.qu], .agg #[.int .i64 x.m, .int .i64 x.k, .int .i64 x.i, .int .i64 x.j], .int .i64 a] w fun e w' => e = .returned (.bool true) ∧ Below w.heap.size w w' := by
  have hnc := neq_c5 c
  have hnz := neq_z14
  go_enter Try.func12, Try.ntmps12
  go_wp2_with fail
  obtain ⟨W0, hW0, k0, k1, k2, k3, k4, k5, k6, k7, k8, k9, k10, k11, k12, k13, x0, x1, x2, x3, kb, hsz⟩ : ∃ W0, (w.alloc (.cells #[.int .i64 c.lv, .int .i64 c.th, .int .i64 c.o0, .int .i64 c.o1, .int .i64 c.o2, .int .i64 c.o3, .int .i64 c.o4, .int .i64 c.o5, .int .i64 c.o6, .int .i64 c.o7, .int .i64 c.sl, .int .i64 c.li, .int .i64 c.ge, .int .i64 c.qu] 45)).alloc (.cells #[.int .i64 x.m, .int .i64 x.k, .int .i64 x.i, .int .i64 x.j] 63) = W0 ∧ W0.cell? ⟨w.heap.size, 0, none⟩ = some (.int .i64 c.lv) ∧ W0.cell? ⟨w.heap.size, 1, none⟩ = some (.int .i64 c.th) ∧ W0.cell? ⟨w.heap.size, 2, none⟩ = some (.int .i64 c.o0) ∧ W0.cell? ⟨w.heap.size, 3, none⟩ = some (.int .i64 c.o1) ∧ W0.cell? ⟨w.heap.size, 4, none⟩ = some (.int .i64 c.o2) ∧ W0.cell? ⟨w.heap.size, 5, none⟩ = some (.int .i64 c.o3) ∧ W0.cell? ⟨w.heap.size, 6, none⟩ = some (.int .i64 c.o4) ∧ W0.cell? ⟨w.heap.size, 7, none⟩ = some (.int .i64 c.o5) ∧ W0.cell? ⟨w.heap.size, 8, none⟩ = some (.int .i64 c.o6) ∧ W0.cell? ⟨w.heap.size, 9, none⟩ = some (.int .i64 c.o7) ∧ W0.cell? ⟨w.heap.size, 10, none⟩ = some (.int .i64 c.sl) ∧ W0.cell? ⟨w.heap.size, 11, none⟩ = some (.int .i64 c.li) ∧ W0.cell? ⟨w.heap.size, 12, none⟩ = some (.int .i64 c.ge) ∧ W0.cell? ⟨w.heap.size, 13, none⟩ = some (.int .i64 c.qu) ∧ W0.cell? ⟨w.heap.size + 1, 0, none⟩ = some (.int .i64 x.m) ∧ W0.cell? ⟨w.heap.size + 1, 1, none⟩ = some (.int .i64 x.k) ∧ W0.cell? ⟨w.heap.size + 1, 2, none⟩ = some (.int .i64 x.i) ∧ W0.cell? ⟨w.heap.size + 1, 3, none⟩ = some (.int .i64 x.j) ∧ Below w.heap.size w W0 ∧ w.heap.size + 1 < W0.heap.size :=
    ⟨_, rfl, by go_simp, by go_simp, by go_simp, by go_simp, by go_simp, by go_simp, by go_simp, by go_simp, by go_simp, by go_simp, by go_simp, by go_simp, by go_simp, by go_simp, by go_simp, by go_simp, by go_simp, by go_simp, bnew (bnew (brefl w) _) _, by simp⟩
  rw [hW0]
  clear hW0
  refine (what_nil a _).mono ?_
  rintro e w1 ⟨rfl, hb1⟩
  have kb1 := bnext kb hb1
  have k0 := keep_below k0 hb1
  have k1 := keep_below k1 hb1
  have k2 := keep_below k2 hb1
  have k3 := keep_below k3 hb1
  have k4 := keep_below k4 hb1
  have k5 := keep_below k5 hb1
  have k6 := keep_below k6 hb1
  have k7 := keep_below k7 hb1
  have k8 := keep_below k8 hb1
  have k9 := keep_below k9 hb1
  have k10 := keep_below k10 hb1
  have k11 := keep_below k11 hb1
  have k12 := keep_below k12 hb1
  have k13 := keep_below k13 hb1
  have x0 := keep_below x0 hb1
  have x1 := keep_below x1 hb1
  have x2 := keep_below x2 hb1
  have x3 := keep_below x3 hb1
  have hs1 : w.heap.size + 1 < w1.heap.size := by have := hb1.size; omega
  clear kb hb1 hsz
  generalize hR : w.heap.size = R at *
  have HR := Lib.hid hR
  clear hR
  go_upto_region 3 with (fail)
  obtain ⟨W2, hW2, j0, j1, j2, j3, j4, j5, j6, j7, j8, j9, j10, j11, j12, j13, y0, y1, y2, y3, kb2, hs2⟩ : ∃ W2, w1.alloc (.cells #[.int .i64 0, .int .i64 0, .int .i64 0, .int .i64 0] 63) = W2 ∧ W2.cell? ⟨R, 0, none⟩ = some (.int .i64 c.lv) ∧ W2.cell? ⟨R, 1, none⟩ = some (.int .i64 c.th) ∧ W2.cell? ⟨R, 2, none⟩ = some (.int .i64 c.o0) ∧ W2.cell? ⟨R, 3, none⟩ = some (.int .i64 c.o1) ∧ W2.cell? ⟨R, 4, none⟩ = some (.int .i64 c.o2) ∧ W2.cell? ⟨R, 5, none⟩ = some (.int .i64 c.o3) ∧ W2.cell? ⟨R, 6, none⟩ = some (.int .i64 c.o4) ∧ W2.cell? ⟨R, 7, none⟩ = some (.int .i64 c.o5) ∧ W2.cell? ⟨R, 8, none⟩ = some (.int .i64 c.o6) ∧ W2.cell? ⟨R, 9, none⟩ = some (.int .i64 c.o7) ∧ W2.cell? ⟨R, 10, none⟩ = some (.int .i64 c.sl) ∧ W2.cell? ⟨R, 11, none⟩ = some (.int .i64 c.li) ∧ W2.cell? ⟨R, 12, none⟩ = some (.int .i64 c.ge) ∧ W2.cell? ⟨R, 13, none⟩ = some (.int .i64 c.qu) ∧ W2.cell? ⟨R + 1, 0, none⟩ = some (.int .i64 x.m) ∧ W2.cell? ⟨R + 1, 1, none⟩ = some (.int .i64 x.k) ∧ W2.cell? ⟨R + 1, 2, none⟩ = some (.int .i64 x.i) ∧ W2.cell? ⟨R + 1, 3, none⟩ = some (.int .i64 x.j) ∧ Below R w W2 ∧ R + 1 < W2.heap.size :=
    ⟨_, rfl, keep_below k0 (bnew (brefl _) _), keep_below k1 (bnew (brefl _) _), keep_below k2 (bnew (brefl _) _), keep_below k3 (bnew (brefl _) _), keep_below k4 (bnew (brefl _) _), keep_below k5 (bnew (brefl _) _), keep_below k6 (bnew (brefl _) _), keep_below k7 (bnew (brefl _) _), keep_below k8 (bnew (brefl _) _), keep_below k9 (bnew (brefl _) _), keep_below k10 (bnew (brefl _) _), keep_below k11 (bnew (brefl _) _), keep_below k12 (bnew (brefl _) _), keep_below k13 (bnew (brefl _) _), keep_below x0 (bnew (brefl _) _), keep_below x1 (bnew (brefl _) _), keep_below x2 (bnew (brefl _) _), keep_below x3 (bnew (brefl _) _), kb1.alloc (by omega) _, by simp; omega⟩
  rw [hW2]
  clear hW2 kb1 hs1 k0 k1 k2 k3 k4 k5 k6 k7 k8 k9 k10 k11 k12 k13 x0 x1 x2 x3
  go_wp2_with fail
  refine (words_nil _).mono ?_
  rintro e w3 ⟨rfl, rfl⟩
  go_wp2_with fail
  refine (at_nil x.m x.k x.i x.j _).mono ?_
  rintro e w3 ⟨rfl, hb3⟩
  go_wp2_with fail
  refine (conf_nil _).mono ?_
  rintro e w4 ⟨rfl, hb4⟩
  have kb4 : Below R w w4 := (kb2.trans (hb3.mono (by omega))).trans (hb4.mono (by have := hb3.size; omega))
  have j0 := keep_below (keep_below j0 hb3) hb4
  have j1 := keep_below (keep_below j1 hb3) hb4
  have j2 := keep_below (keep_below j2 hb3) hb4
  have j3 := keep_below (keep_below j3 hb3) hb4
  have j4 := keep_below (keep_below j4 hb3) hb4
  have j5 := keep_below (keep_below j5 hb3) hb4
  have j6 := keep_below (keep_below j6 hb3) hb4
  have j7 := keep_below (keep_below j7 hb3) hb4
  have j8 := keep_below (keep_below j8 hb3) hb4
  have j9 := keep_below (keep_below j9 hb3) hb4
  have j10 := keep_below (keep_below j10 hb3) hb4
  have j11 := keep_below (keep_below j11 hb3) hb4
  have j12 := keep_below (keep_below j12 hb3) hb4
  have j13 := keep_below (keep_below j13 hb3) hb4
  have y0 := keep_below (keep_below y0 hb3) hb4
  have y1 := keep_below (keep_below y1 hb3) hb4
  have y2 := keep_below (keep_below y2 hb3) hb4
  have y3 := keep_below (keep_below y3 hb3) hb4
  have hs4 : R + 1 < w4.heap.size := by have := hb3.size; have := hb4.size; omega
  clear kb2 hb3 hb4 hs2
  go_wp2_with fail
  refine (hn _).mono ?_
  rintro e w5 ⟨p, rfl, hp5, hb5⟩
  have kb5 : Below R w w5 := kb4.trans (hb5.mono (by omega))
  have j0 := keep_below j0 hb5
  have j1 := keep_below j1 hb5
  have j2 := keep_below j2 hb5
  have j3 := keep_below j3 hb5
  have j4 := keep_below j4 hb5
  have j5 := keep_below j5 hb5
  have j6 := keep_below j6 hb5
  have j7 := keep_below j7 hb5
  have j8 := keep_below j8 hb5
  have j9 := keep_below j9 hb5
  have j10 := keep_below j10 hb5
  have j11 := keep_below j11 hb5
  have j12 := keep_below j12 hb5
  have j13 := keep_below j13 hb5
  have y0 := keep_below y0 hb5
  have y1 := keep_below y1 hb5
  have y2 := keep_below y2 hb5
  have y3 := keep_below y3 hb5
  have hs5 : R + 1 < w5.heap.size := by have := hb5.size; omega
  clear kb4 hb5 hs4
  go_wp2_with fail
  refine (hr _).mono ?_
  rintro e w6 ⟨rfl, hb6⟩
  have kb6 : Below R w w6 := kb5.trans (hb6.mono (by omega))
  have j0 := keep_below j0 hb6
  have j1 := keep_below j1 hb6
  have j2 := keep_below j2 hb6
  have j3 := keep_below j3 hb6
  have j4 := keep_below j4 hb6
  have j5 := keep_below j5 hb6
  have j6 := keep_below j6 hb6
  have j7 := keep_below j7 hb6
  have j8 := keep_below j8 hb6
  have j9 := keep_below j9 hb6
  have j10 := keep_below j10 hb6
  have j11 := keep_below j11 hb6
  have j12 := keep_below j12 hb6
  have j13 := keep_below j13 hb6
  have y0 := keep_below y0 hb6
  have y1 := keep_below y1 hb6
  have y2 := keep_below y2 hb6
  have y3 := keep_below y3 hb6
  have hs6 : R + 1 < w6.heap.size := by have := hb6.size; omega
  have hp6 := hp5.below hb6
  clear hp5
  clear kb5 hb6 hs5
  go_wp2_with fail
  refine (hall _).mono ?_
  rintro e w7 ⟨A', c', rfl, own7, hb7⟩
  have kb7 : Below R w w7 := kb6.trans (hb7.mono (by omega))
  have j0 := keep_below j0 hb7
  have j1 := keep_below j1 hb7
  have j2 := keep_below j2 hb7
  have j3 := keep_below j3 hb7
  have j4 := keep_below j4 hb7
  have j5 := keep_below j5 hb7
  have j6 := keep_below j6 hb7
  have j7 := keep_below j7 hb7
  have j8 := keep_below j8 hb7
  have j9 := keep_below j9 hb7
  have j10 := keep_below j10 hb7
  have j11 := keep_below j11 hb7
  have j12 := keep_below j12 hb7
  have j13 := keep_below j13 hb7
  have y0 := keep_below y0 hb7
  have y1 := keep_below y1 hb7
  have y2 := keep_below y2 hb7
  have y3 := keep_below y3 hb7
  have hs7 : R + 1 < w7.heap.size := by have := hb7.size; omega
  have hp7 := hp6.below hb7
  have hl7 := Sl.of_own plc_len (by decide) own7
  clear hp6 own7
  clear kb6 hb7 hs6
  go_upto_region 9 with (fail)
  have hX := @Ext.cell w7
  have hzz0 := block_lt_of_cell j0
  have hzz1 := block_lt_of_cell y0
  refine wp_region_noPanic ?_
  refine wp_region_plan (fun w' => ∃ x : Ext w7, w' = x.w) [([0, 1, 2, 3, 5, 6], 4), ([7, 8, 9, 10, 12], 11), ([13, 14, 15, 16, 17, 19, 20], 18), ([], 21)] [22, 23] (by kernel_rfl) (by kernel_rfl) (by kernel_rfl) (fun _ _ _ _ _ h => h) ⟨⟨_, (brefl w7).drew⟩, rfl⟩ ?_
  refine wpPlan_cons ?_
  simp only [pickOps, List.getElem?_cons_succ, List.getElem?_cons_zero, Option.elim_some]
  repeat (go_big_quiet_step (fail))
  refine wpQuiet_nil ?_
  refine planAct_some (fun K hK => ?_)
  go_simp
  refine (hwd p _ (hp7.below (brefl w7).drew)).mono ?_
  rintro e wa ⟨rfl, hba⟩
  go_wp2_with fail
  refine hK.out _ _ ⟨⟨_, (bnext (brefl w7).drew hba)⟩, rfl⟩ ?_
  clear hK K
  refine wpPlan_cons ?_
  simp only [pickOps, List.getElem?_cons_succ, List.getElem?_cons_zero, Option.elim_some]
  repeat (go_big_quiet_step (fail))
  refine wpQuiet_nil ?_
  refine planAct_some (fun K hK => ?_)
  go_simp
  refine (hcf p _ (hp7.below (bnext (brefl w7).drew hba))).mono ?_
  rintro e wb ⟨rfl, hbb⟩
  go_wp2_with fail
  refine hK.out _ _ ⟨⟨_, (bnext (bnext (brefl w7).drew hba) hbb)⟩, rfl⟩ ?_
  clear hK K
  refine wpPlan_cons ?_
  simp only [pickOps, List.getElem?_cons_succ, List.getElem?_cons_zero, Option.elim_some]
  repeat (go_big_quiet_step (fail))
  refine wpQuiet_nil ?_
  refine planAct_some (fun K hK => ?_)
  go_simp
  refine (hat p _ (hp7.below (bnext (bnext (brefl w7).drew hba) hbb))).mono ?_
  rintro e wd ⟨rfl, hbd⟩
  go_wp2_with fail
  refine hK.out _ _ ⟨⟨_, (bnext (bnext (bnext (brefl w7).drew hba) hbb) hbd)⟩, rfl⟩ ?_
  clear hK K
  refine wpPlan_cons ?_
  simp only [pickOps, List.getElem?_cons_succ, List.getElem?_cons_zero, Option.elim_some]
  repeat (go_big_quiet_step (fail))
  refine wpQuiet_nil ?_
  refine planAct_some (fun K hK => ?_)
  go_simp
  refine (hrat _ _ _ (hl7.below (bnext (bnext (bnext (brefl w7).drew hba) hbb) hbd))).mono ?_
  rintro e we ⟨rfl, hbe⟩
  go_wp2_with fail
  refine hK.out _ _ ⟨⟨_, (bnext (bnext (bnext (bnext (brefl w7).drew hba) hbb) hbd) hbe)⟩, rfl⟩ ?_
  clear hK K
  refine wpPlan_last ?_
  simp only [pickOps, List.getElem?_cons_succ, List.getElem?_cons_zero, Option.elim_some]
  repeat (go_big_quiet_step (fail))
  refine wpQuiet_nil ?_
  refine NoPanic.normal ?_
  clear hX hzz0 hzz1
  have hb9 := (bnext (bnext (bnext (bnext (brefl w7).drew hba) hbb) hbd) hbe)
  have kb9 : Below R w we := kb7.trans (hb9.mono (by omega))
  have hp9 := hp7.below hb9
  have hl9 := hl7.below hb9
  have hs9 : R + 1 < we.heap.size := by have := hb9.size; omega
  clear hp7 hl7 hba hbb hbd hbe hb9 kb7 hs7 j0 j1 j2 j3 j4 j5 j6 j7 j8 j9 j10 j11 j12 j13 y0 y1 y2 y3
  generalize we = w9 at *
  go_wp2_with fail
  refine (hwh p _ hp9).mono ?_
  rintro e w10 ⟨rfl, hb10⟩
  have hl10 := hl9.below hb10
  have kb10 : Below R w w10 := kb9.trans (hb10.mono (by omega))
  have hs10 : R + 1 < w10.heap.size := by have := hb10.size; omega
  clear hp9 hl9 kb9 hb10 hs9
  go_upto_region 12 with (fail)
  obtain ⟨W11, hW11, y0, y1, y2, y3, kb11, hs11, hl11⟩ : ∃ W11, w10.alloc (.cells #[.int .i64 0, .int .i64 0, .int .i64 0, .int .i64 0] 63) = W11 ∧ W11.cell? ⟨w10.heap.size, 0, none⟩ = some (.int .i64 0) ∧ W11.cell? ⟨w10.heap.size, 1, none⟩ = some (.int .i64 0) ∧ W11.cell? ⟨w10.heap.size, 2, none⟩ = some (.int .i64 0) ∧ W11.cell? ⟨w10.heap.size, 3, none⟩ = some (.int .i64 0) ∧ Below R w W11 ∧ R + 1 < W11.heap.size ∧ Sl plc W11 A' N c' (wl c N) :=
    ⟨_, rfl, by go_simp, by go_simp, by go_simp, by go_simp, kb10.alloc (by omega) _, by simp; omega, hl10.alloc _⟩
  rw [hW11]
  clear hW11 kb10 hs10 hl10
  generalize w10.heap.size = B at *
  have hzB := block_lt_of_cell y0
  have hez := eql_z4
  clear hl11
  go_wp2_with fail
  refine (lives05 _).mono ?_
  rintro e w20 ⟨rfl, hb20⟩
  go_wp2
  go_ret
  exact ⟨rfl, by rw [HR.out]; exact kb11.trans (hb20.mono (by omega))⟩
set_option maxHeartbeats 4000000 in
set_option maxRecDepth 100000 in
theorem planplaces_y (c : Cf) (hm : c.May) (N : Nat) (hN : N ≤ 2000) (x : Pl) (a : Int) (q : Pl) (k : Nat) (hk : k < N) (hka : Hid (a = (k : Int))) (ha0 : 0 ≤ a) (ha1 : a < (N : Int)) (hq : (wl c N)[k]? = some q)
    (hn : ∀ w : World, Calls Try.prog 35 #[.agg #[.int .i64 c.lv, .int .i64 c.th, .int .i64 c.o0, .int .i64 c.o1, .int .i64 c.o2, .int .i64 c.o3, .int .i64 c.o4, .int .i64 c.o5, .int .i64 c.o6, .int .i64 c.o7, .int .i64 c.sl, .int .i64 c.li, .int .i64 c.ge, .int .i64 c.qu]] w fun e w' => ∃ p, e = .returned (.tuple #[.pointer (some ⟨p, 0, none⟩), .int .i64 0]) ∧ PBox w' p c ∧ Below w.heap.size w w')
    (hr : ∀ w : World, Calls Try.prog 21 #[.agg #[.int .i64 c.lv, .int .i64 c.th, .int .i64 c.o0, .int .i64 c.o1, .int .i64 c.o2, .int .i64 c.o3, .int .i64 c.o4, .int .i64 c.o5, .int .i64 c.o6, .int .i64 c.o7, .int .i64 c.sl, .int .i64 c.li, .int .i64 c.ge, .int .i64 c.qu]] w fun e w' => e = .returned (.bool true) ∧ Below w.heap.size w w')
    (hall : ∀ w : World, Calls Try.prog 37 #[.agg #[.int .i64 c.lv, .int .i64 c.th, .int .i64 c.o0, .int .i64 c.o1, .int .i64 c.o2, .int .i64 c.o3, .int .i64 c.o4, .int .i64 c.o5, .int .i64 c.o6, .int .i64 c.o7, .int .i64 c.sl, .int .i64 c.li, .int .i64 c.ge, .int .i64 c.qu]] w fun e w' => ∃ A' c', e = .returned (.slice A' N c') ∧ w'.ownsRow w.heap.size 66 4 (.slice A' N c') N ((wl c N).flatMap plc) ∧ Below w.heap.size w w')
    (hwd : ∀ (p : Nat) (w : World), PBox w p c → Calls Try.prog 40 #[.pointer (some ⟨p, 0, none⟩)] w fun e w' => e = .returned (.int .i64 (N : Int)) ∧ Below w.heap.size w w')
    (hcf : ∀ (p : Nat) (w : World), PBox w p c → Calls Try.prog 41 #[.pointer (some ⟨p, 0, none⟩)] w fun e w' => e = .returned (.agg #[.int .i64 c.lv, .int .i64 c.th, .int .i64 c.o0, .int .i64 c.o1, .int .i64 c.o2, .int .i64 c.o3, .int .i64 c.o4, .int .i64 c.o5, .int .i64 c.o6, .int .i64 c.o7, .int .i64 c.sl, .int .i64 c.li, .int .i64 c.ge, .int .i64 c.qu]) ∧ Below w.heap.size w w')
    (r : Int) (hat : ∀ (p : Nat) (w : World), PBox w p c → Calls Try.prog 39 #[.pointer (some ⟨p, 0, none⟩), .agg #[.int .i64 x.m, .int .i64 x.k, .int .i64 x.i, .int .i64 x.j]] w fun e w' => e = .returned (.int .i64 r) ∧ Below w.heap.size w w')
    (hrat : ∀ (A : Option Addr) (n' : Nat) (w : World), Sl plc w A N n' (wl c N) → Calls Try.prog 42 #[.slice A N n', .agg #[.int .i64 x.m, .int .i64 x.k, .int .i64 x.i, .int .i64 x.j]] w fun e w' => e = .returned (.int .i64 r) ∧ Below w.heap.size w w')
    (hwh : ∀ (p : Nat) (w : World), PBox w p c → Calls Try.prog 38 #[.pointer (some ⟨p, 0, none⟩), .int .i64 a] w fun e w' => e = .returned (.tuple #[.agg #[.int .i64 q.m, .int .i64 q.k, .int .i64 q.i, .int .i64 q.j], .bool true]) ∧ Below w.heap.size w w') (w : World) :
    Calls Try.prog 12 #[.agg #[.int .i64 c.lv, .int .i64 c.th, .int .i64 c.o0, .int .i64 c.o1, .int .i64 c.o2, .int .i64 c.o3, .int .i64 c.o4, .int .i64 c.o5, .int .i64 c.o6, .int .i64 c.o7, .int .i64 c.sl, .int .i64 c.li, .int .i64 c.ge, .int .i64 c.qu], .agg #[.int .i64 x.m, .int .i64 x.k, .int .i64 x.i, .int .i64 x.j], .int .i64 a] w fun e w' => e = .returned (.bool true) ∧ Below w.heap.size w w' := by
  have hnc := neq_c5 c
  have hnz := neq_z14
  go_enter Try.func12, Try.ntmps12
  go_wp2_with fail
  obtain ⟨W0, hW0, k0, k1, k2, k3, k4, k5, k6, k7, k8, k9, k10, k11, k12, k13, x0, x1, x2, x3, kb, hsz⟩ : ∃ W0, (w.alloc (.cells #[.int .i64 c.lv, .int .i64 c.th, .int .i64 c.o0, .int .i64 c.o1, .int .i64 c.o2, .int .i64 c.o3, .int .i64 c.o4, .int .i64 c.o5, .int .i64 c.o6, .int .i64 c.o7, .int .i64 c.sl, .int .i64 c.li, .int .i64 c.ge, .int .i64 c.qu] 45)).alloc (.cells #[.int .i64 x.m, .int .i64 x.k, .int .i64 x.i, .int .i64 x.j] 63) = W0 ∧ W0.cell? ⟨w.heap.size, 0, none⟩ = some (.int .i64 c.lv) ∧ W0.cell? ⟨w.heap.size, 1, none⟩ = some (.int .i64 c.th) ∧ W0.cell? ⟨w.heap.size, 2, none⟩ = some (.int .i64 c.o0) ∧ W0.cell? ⟨w.heap.size, 3, none⟩ = some (.int .i64 c.o1) ∧ W0.cell? ⟨w.heap.size, 4, none⟩ = some (.int .i64 c.o2) ∧ W0.cell? ⟨w.heap.size, 5, none⟩ = some (.int .i64 c.o3) ∧ W0.cell? ⟨w.heap.size, 6, none⟩ = some (.int .i64 c.o4) ∧ W0.cell? ⟨w.heap.size, 7, none⟩ = some (.int .i64 c.o5) ∧ W0.cell? ⟨w.heap.size, 8, none⟩ = some (.int .i64 c.o6) ∧ W0.cell? ⟨w.heap.size, 9, none⟩ = some (.int .i64 c.o7) ∧ W0.cell? ⟨w.heap.size, 10, none⟩ = some (.int .i64 c.sl) ∧ W0.cell? ⟨w.heap.size, 11, none⟩ = some (.int .i64 c.li) ∧ W0.cell? ⟨w.heap.size, 12, none⟩ = some (.int .i64 c.ge) ∧ W0.cell? ⟨w.heap.size, 13, none⟩ = some (.int .i64 c.qu) ∧ W0.cell? ⟨w.heap.size + 1, 0, none⟩ = some (.int .i64 x.m) ∧ W0.cell? ⟨w.heap.size + 1, 1, none⟩ = some (.int .i64 x.k) ∧ W0.cell? ⟨w.heap.size + 1, 2, none⟩ = some (.int .i64 x.i) ∧ W0.cell? ⟨w.heap.size + 1, 3, none⟩ = some (.int .i64 x.j) ∧ Below w.heap.size w W0 ∧ w.heap.size + 1 < W0.heap.size :=
    ⟨_, rfl, by go_simp, by go_simp, by go_simp, by go_simp, by go_simp, by go_simp, by go_simp, by go_simp, by go_simp, by go_simp, by go_simp, by go_simp, by go_simp, by go_simp, by go_simp, by go_simp, by go_simp, by go_simp, bnew (bnew (brefl w) _) _, by simp⟩
  rw [hW0]
  clear hW0
  refine (what_nil a _).mono ?_
  rintro e w1 ⟨rfl, hb1⟩
  have kb1 := bnext kb hb1
  have k0 := keep_below k0 hb1
  have k1 := keep_below k1 hb1
  have k2 := keep_below k2 hb1
  have k3 := keep_below k3 hb1
  have k4 := keep_below k4 hb1
  have k5 := keep_below k5 hb1
  have k6 := keep_below k6 hb1
  have k7 := keep_below k7 hb1
  have k8 := keep_below k8 hb1
  have k9 := keep_below k9 hb1
  have k10 := keep_below k10 hb1
  have k11 := keep_below k11 hb1
  have k12 := keep_below k12 hb1
  have k13 := keep_below k13 hb1
  have x0 := keep_below x0 hb1
  have x1 := keep_below x1 hb1
  have x2 := keep_below x2 hb1
  have x3 := keep_below x3 hb1
  have hs1 : w.heap.size + 1 < w1.heap.size := by have := hb1.size; omega
  clear kb hb1 hsz
  generalize hR : w.heap.size = R at *
  have HR := Lib.hid hR
  clear hR
  go_upto_region 3 with (fail)
  obtain ⟨W2, hW2, j0, j1, j2, j3, j4, j5, j6, j7, j8, j9, j10, j11, j12, j13, y0, y1, y2, y3, kb2, hs2⟩ : ∃ W2, w1.alloc (.cells #[.int .i64 0, .int .i64 0, .int .i64 0, .int .i64 0] 63) = W2 ∧ W2.cell? ⟨R, 0, none⟩ = some (.int .i64 c.lv) ∧ W2.cell? ⟨R, 1, none⟩ = some (.int .i64 c.th) ∧ W2.cell? ⟨R, 2, none⟩ = some (.int .i64 c.o0) ∧ W2.cell? ⟨R, 3, none⟩ = some (.int .i64 c.o1) ∧ W2.cell? ⟨R, 4, none⟩ = some (.int .i64 c.o2) ∧ W2.cell? ⟨R, 5, none⟩ = some (.int .i64 c.o3) ∧ W2.cell? ⟨R, 6, none⟩ = some (.int .i64 c.o4) ∧ W2.cell? ⟨R, 7, none⟩ = some (.int .i64 c.o5) ∧ W2.cell? ⟨R, 8, none⟩ = some (.int .i64 c.o6) ∧ W2.cell? ⟨R, 9, none⟩ = some (.int .i64 c.o7) ∧ W2.cell? ⟨R, 10, none⟩ = some (.int .i64 c.sl) ∧ W2.cell? ⟨R, 11, none⟩ = some (.int .i64 c.li) ∧ W2.cell? ⟨R, 12, none⟩ = some (.int .i64 c.ge) ∧ W2.cell? ⟨R, 13, none⟩ = some (.int .i64 c.qu) ∧ W2.cell? ⟨R + 1, 0, none⟩ = some (.int .i64 x.m) ∧ W2.cell? ⟨R + 1, 1, none⟩ = some (.int .i64 x.k) ∧ W2.cell? ⟨R + 1, 2, none⟩ = some (.int .i64 x.i) ∧ W2.cell? ⟨R + 1, 3, none⟩ = some (.int .i64 x.j) ∧ Below R w W2 ∧ R + 1 < W2.heap.size :=
    ⟨_, rfl, keep_below k0 (bnew (brefl _) _), keep_below k1 (bnew (brefl _) _), keep_below k2 (bnew (brefl _) _), keep_below k3 (bnew (brefl _) _), keep_below k4 (bnew (brefl _) _), keep_below k5 (bnew (brefl _) _), keep_below k6 (bnew (brefl _) _), keep_below k7 (bnew (brefl _) _), keep_below k8 (bnew (brefl _) _), keep_below k9 (bnew (brefl _) _), keep_below k10 (bnew (brefl _) _), keep_below k11 (bnew (brefl _) _), keep_below k12 (bnew (brefl _) _), keep_below k13 (bnew (brefl _) _), keep_below x0 (bnew (brefl _) _), keep_below x1 (bnew (brefl _) _), keep_below x2 (bnew (brefl _) _), keep_below x3 (bnew (brefl _) _), kb1.alloc (by omega) _, by simp; omega⟩
  rw [hW2]
  clear hW2 kb1 hs1 k0 k1 k2 k3 k4 k5 k6 k7 k8 k9 k10 k11 k12 k13 x0 x1 x2 x3
  go_wp2_with fail
  refine (words_nil _).mono ?_
  rintro e w3 ⟨rfl, rfl⟩
  go_wp2_with fail
  refine (at_nil x.m x.k x.i x.j _).mono ?_
  rintro e w3 ⟨rfl, hb3⟩
  go_wp2_with fail
  refine (conf_nil _).mono ?_
  rintro e w4 ⟨rfl, hb4⟩
  have kb4 : Below R w w4 := (kb2.trans (hb3.mono (by omega))).trans (hb4.mono (by have := hb3.size; omega))
  have j0 := keep_below (keep_below j0 hb3) hb4
  have j1 := keep_below (keep_below j1 hb3) hb4
  have j2 := keep_below (keep_below j2 hb3) hb4
  have j3 := keep_below (keep_below j3 hb3) hb4
  have j4 := keep_below (keep_below j4 hb3) hb4
  have j5 := keep_below (keep_below j5 hb3) hb4
  have j6 := keep_below (keep_below j6 hb3) hb4
  have j7 := keep_below (keep_below j7 hb3) hb4
  have j8 := keep_below (keep_below j8 hb3) hb4
  have j9 := keep_below (keep_below j9 hb3) hb4
  have j10 := keep_below (keep_below j10 hb3) hb4
  have j11 := keep_below (keep_below j11 hb3) hb4
  have j12 := keep_below (keep_below j12 hb3) hb4
  have j13 := keep_below (keep_below j13 hb3) hb4
  have y0 := keep_below (keep_below y0 hb3) hb4
  have y1 := keep_below (keep_below y1 hb3) hb4
  have y2 := keep_below (keep_below y2 hb3) hb4
  have y3 := keep_below (keep_below y3 hb3) hb4
  have hs4 : R + 1 < w4.heap.size := by have := hb3.size; have := hb4.size; omega
  clear kb2 hb3 hb4 hs2
  go_wp2_with fail
  refine (hn _).mono ?_
  rintro e w5 ⟨p, rfl, hp5, hb5⟩
  have kb5 : Below R w w5 := kb4.trans (hb5.mono (by omega))
  have j0 := keep_below j0 hb5
  have j1 := keep_below j1 hb5
  have j2 := keep_below j2 hb5
  have j3 := keep_below j3 hb5
  have j4 := keep_below j4 hb5
  have j5 := keep_below j5 hb5
  have j6 := keep_below j6 hb5
  have j7 := keep_below j7 hb5
  have j8 := keep_below j8 hb5
  have j9 := keep_below j9 hb5
  have j10 := keep_below j10 hb5
  have j11 := keep_below j11 hb5
  have j12 := keep_below j12 hb5
  have j13 := keep_below j13 hb5
  have y0 := keep_below y0 hb5
  have y1 := keep_below y1 hb5
  have y2 := keep_below y2 hb5
  have y3 := keep_below y3 hb5
  have hs5 : R + 1 < w5.heap.size := by have := hb5.size; omega
  clear kb4 hb5 hs4
  go_wp2_with fail
  refine (hr _).mono ?_
  rintro e w6 ⟨rfl, hb6⟩
  have kb6 : Below R w w6 := kb5.trans (hb6.mono (by omega))
  have j0 := keep_below j0 hb6
  have j1 := keep_below j1 hb6
  have j2 := keep_below j2 hb6
  have j3 := keep_below j3 hb6
  have j4 := keep_below j4 hb6
  have j5 := keep_below j5 hb6
  have j6 := keep_below j6 hb6
  have j7 := keep_below j7 hb6
  have j8 := keep_below j8 hb6
  have j9 := keep_below j9 hb6
  have j10 := keep_below j10 hb6
  have j11 := keep_below j11 hb6
  have j12 := keep_below j12 hb6
  have j13 := keep_below j13 hb6
  have y0 := keep_below y0 hb6
  have y1 := keep_below y1 hb6
  have y2 := keep_below y2 hb6
  have y3 := keep_below y3 hb6
  have hs6 : R + 1 < w6.heap.size := by have := hb6.size; omega
  have hp6 := hp5.below hb6
  clear hp5
  clear kb5 hb6 hs5
  go_wp2_with fail
  refine (hall _).mono ?_
  rintro e w7 ⟨A', c', rfl, own7, hb7⟩
  have kb7 : Below R w w7 := kb6.trans (hb7.mono (by omega))
  have j0 := keep_below j0 hb7
  have j1 := keep_below j1 hb7
  have j2 := keep_below j2 hb7
  have j3 := keep_below j3 hb7
  have j4 := keep_below j4 hb7
  have j5 := keep_below j5 hb7
  have j6 := keep_below j6 hb7
  have j7 := keep_below j7 hb7
  have j8 := keep_below j8 hb7
  have j9 := keep_below j9 hb7
  have j10 := keep_below j10 hb7
  have j11 := keep_below j11 hb7
  have j12 := keep_below j12 hb7
  have j13 := keep_below j13 hb7
  have y0 := keep_below y0 hb7
  have y1 := keep_below y1 hb7
  have y2 := keep_below y2 hb7
  have y3 := keep_below y3 hb7
  have hs7 : R + 1 < w7.heap.size := by have := hb7.size; omega
  have hp7 := hp6.below hb7
  have hl7 := Sl.of_own plc_len (by decide) own7
  clear hp6 own7
  clear kb6 hb7 hs6
  go_upto_region 9 with (fail)
  have hX := @Ext.cell w7
  have hzz0 := block_lt_of_cell j0
  have hzz1 := block_lt_of_cell y0
  refine wp_region_noPanic ?_
  refine wp_region_plan (fun w' => ∃ x : Ext w7, w' = x.w) [([0, 1, 2, 3, 5, 6], 4), ([7, 8, 9, 10, 12], 11), ([13, 14, 15, 16, 17, 19, 20], 18), ([], 21)] [22, 23] (by kernel_rfl) (by kernel_rfl) (by kernel_rfl) (fun _ _ _ _ _ h => h) ⟨⟨_, (brefl w7).drew⟩, rfl⟩ ?_
  refine wpPlan_cons ?_
  simp only [pickOps, List.getElem?_cons_succ, List.getElem?_cons_zero, Option.elim_some]
  repeat (go_big_quiet_step (fail))
  refine wpQuiet_nil ?_
  refine planAct_some (fun K hK => ?_)
  go_simp
  refine (hwd p _ (hp7.below (brefl w7).drew)).mono ?_
  rintro e wa ⟨rfl, hba⟩
  go_wp2_with fail
  refine hK.out _ _ ⟨⟨_, (bnext (brefl w7).drew hba)⟩, rfl⟩ ?_
  clear hK K
  refine wpPlan_cons ?_
  simp only [pickOps, List.getElem?_cons_succ, List.getElem?_cons_zero, Option.elim_some]
  repeat (go_big_quiet_step (fail))
  refine wpQuiet_nil ?_
  refine planAct_some (fun K hK => ?_)
  go_simp
  refine (hcf p _ (hp7.below (bnext (brefl w7).drew hba))).mono ?_
  rintro e wb ⟨rfl, hbb⟩
  go_wp2_with fail
  refine hK.out _ _ ⟨⟨_, (bnext (bnext (brefl w7).drew hba) hbb)⟩, rfl⟩ ?_
  clear hK K
  refine wpPlan_cons ?_
  simp only [pickOps, List.getElem?_cons_succ, List.getElem?_cons_zero, Option.elim_some]
  repeat (go_big_quiet_step (fail))
  refine wpQuiet_nil ?_
  refine planAct_some (fun K hK => ?_)
  go_simp
  refine (hat p _ (hp7.below (bnext (bnext (brefl w7).drew hba) hbb))).mono ?_
  rintro e wd ⟨rfl, hbd⟩
  go_wp2_with fail
  refine hK.out _ _ ⟨⟨_, (bnext (bnext (bnext (brefl w7).drew hba) hbb) hbd)⟩, rfl⟩ ?_
  clear hK K
  refine wpPlan_cons ?_
  simp only [pickOps, List.getElem?_cons_succ, List.getElem?_cons_zero, Option.elim_some]
  repeat (go_big_quiet_step (fail))
  refine wpQuiet_nil ?_
  refine planAct_some (fun K hK => ?_)
  go_simp
  refine (hrat _ _ _ (hl7.below (bnext (bnext (bnext (brefl w7).drew hba) hbb) hbd))).mono ?_
  rintro e we ⟨rfl, hbe⟩
  go_wp2_with fail
  refine hK.out _ _ ⟨⟨_, (bnext (bnext (bnext (bnext (brefl w7).drew hba) hbb) hbd) hbe)⟩, rfl⟩ ?_
  clear hK K
  refine wpPlan_last ?_
  simp only [pickOps, List.getElem?_cons_succ, List.getElem?_cons_zero, Option.elim_some]
  repeat (go_big_quiet_step (fail))
  refine wpQuiet_nil ?_
  refine NoPanic.normal ?_
  clear hX hzz0 hzz1
  have hb9 := (bnext (bnext (bnext (bnext (brefl w7).drew hba) hbb) hbd) hbe)
  have kb9 : Below R w we := kb7.trans (hb9.mono (by omega))
  have hp9 := hp7.below hb9
  have hl9 := hl7.below hb9
  have hs9 : R + 1 < we.heap.size := by have := hb9.size; omega
  clear hp7 hl7 hba hbb hbd hbe hb9 kb7 hs7 j0 j1 j2 j3 j4 j5 j6 j7 j8 j9 j10 j11 j12 j13 y0 y1 y2 y3
  generalize we = w9 at *
  go_wp2_with fail
  refine (hwh p _ hp9).mono ?_
  rintro e w10 ⟨rfl, hb10⟩
  have hl10 := hl9.below hb10
  have kb10 : Below R w w10 := kb9.trans (hb10.mono (by omega))
  have hs10 : R + 1 < w10.heap.size := by have := hb10.size; omega
  clear hp9 hl9 kb9 hb10 hs9
  go_upto_region 12 with (fail)
  obtain ⟨W11, hW11, y0, y1, y2, y3, kb11, hs11, hl11⟩ : ∃ W11, w10.alloc (.cells #[.int .i64 q.m, .int .i64 q.k, .int .i64 q.i, .int .i64 q.j] 63) = W11 ∧ W11.cell? ⟨w10.heap.size, 0, none⟩ = some (.int .i64 q.m) ∧ W11.cell? ⟨w10.heap.size, 1, none⟩ = some (.int .i64 q.k) ∧ W11.cell? ⟨w10.heap.size, 2, none⟩ = some (.int .i64 q.i) ∧ W11.cell? ⟨w10.heap.size, 3, none⟩ = some (.int .i64 q.j) ∧ Below R w W11 ∧ R + 1 < W11.heap.size ∧ Sl plc W11 A' N c' (wl c N) :=
    ⟨_, rfl, by go_simp, by go_simp, by go_simp, by go_simp, kb10.alloc (by omega) _, by simp; omega, hl10.alloc _⟩
  rw [hW11]
  clear hW11 kb10 hs10 hl10
  generalize w10.heap.size = B at *
  have hzB := block_lt_of_cell y0
  obtain ⟨b, o, rfl, hbb, hc⟩ := hl11.base plc_len (by decide) (by omega)
  have c0 : W11.cell? ⟨b, o + a.toNat * 4, none⟩ = some (.int .i64 q.m) := by rw [hka.out]; exact hc k _ 0 _ hq rfl
  have c1 : W11.cell? ⟨b, o + a.toNat * 4 + 1, none⟩ = some (.int .i64 q.k) := by rw [hka.out, Nat.add_assoc]; exact hc k _ 1 _ hq rfl
  have c2 : W11.cell? ⟨b, o + a.toNat * 4 + 2, none⟩ = some (.int .i64 q.i) := by rw [hka.out, Nat.add_assoc]; exact hc k _ 2 _ hq rfl
  have c3 : W11.cell? ⟨b, o + a.toNat * 4 + 3, none⟩ = some (.int .i64 q.j) := by rw [hka.out, Nat.add_assoc]; exact hc k _ 3 _ hq rfl
  have heq := eql_plx q
  have ha2 : decide (a < 0) = false := decide_eq_false (by omega)
  have ha3 : decide ((N : Int) ≤ a) = false := decide_eq_false (by omega)
  clear hc hq hl11
  go_upto_region 14 with (fail)
  have hX := @Ext.cell W11
  have hzz0 := block_lt_of_cell y0
  have hzz1 := block_lt_of_cell c0
  refine wp_region_noPanic ?_
  refine wp_region_plan (fun w' => ∃ x : Ext W11, w' = x.w) [([0, 1, 2, 3, 4, 5, 6, 7, 8, 9], 10)] [11, 12] (by kernel_rfl) (by kernel_rfl) (by kernel_rfl) (fun _ _ _ _ _ h => h) ⟨⟨_, (brefl W11).drew⟩, rfl⟩ ?_
  refine wpPlan_cons ?_
  simp only [pickOps, List.getElem?_cons_succ, List.getElem?_cons_zero, Option.elim_some]
  repeat (go_big_quiet_step (fail))
  refine wpQuiet_nil ?_
  refine planAct_some (fun K hK => ?_)
  go_simp
  refine (lives05 _).mono ?_
  rintro e w20 ⟨rfl, hb20⟩
  go_wp2_with fail
  refine hK.out _ _ ⟨⟨_, (bnext (brefl W11).drew hb20)⟩, rfl⟩ ?_
  clear hK K
  refine wpPlan_last ?_
  simp only [pickOps, List.getElem?_cons_succ, List.getElem?_cons_zero, Option.elim_some]
  repeat (go_big_quiet_step (fail))
  refine wpQuiet_nil ?_
  refine NoPanic.normal ?_
  clear hX hzz0 hzz1
  go_wp2
  go_ret
  exact ⟨rfl, by rw [HR.out]; exact kb11.trans ((bnext (brefl W11).drew hb20).mono (by omega))⟩

theorem planplaces_any (c : Cf) (hall : c.May → ∀ w : World, Calls Try.prog 37 #[.agg #[.int .i64 c.lv, .int .i64 c.th, .int .i64 c.o0, .int .i64 c.o1, .int .i64 c.o2, .int .i64 c.o3, .int .i64 c.o4, .int .i64 c.o5, .int .i64 c.o6, .int .i64 c.o7, .int .i64 c.sl, .int .i64 c.li, .int .i64 c.ge, .int .i64 c.qu]] w fun e w' => ∃ A' c', e = .returned (.slice A' (c.lv * c.size).toNat c') ∧ w'.ownsRow w.heap.size 66 4 (.slice A' (c.lv * c.size).toNat c') (c.lv * c.size).toNat ((wl c (c.lv * c.size).toNat).flatMap plc) ∧ Below w.heap.size w w')
    (x : Pl) (a : Int) (hi : x.i ≤ 9223372036854775807) (w : World) : Calls Try.prog 12 #[.agg #[.int .i64 c.lv, .int .i64 c.th, .int .i64 c.o0, .int .i64 c.o1, .int .i64 c.o2, .int .i64 c.o3, .int .i64 c.o4, .int .i64 c.o5, .int .i64 c.o6, .int .i64 c.o7, .int .i64 c.sl, .int .i64 c.li, .int .i64 c.ge, .int .i64 c.qu], .agg #[.int .i64 x.m, .int .i64 x.k, .int .i64 x.i, .int .i64 x.j], .int .i64 a] w fun e w' => e = .returned (.bool true) ∧ Below w.heap.size w w' := by
  by_cases hm : c.May
  · have hmb := mul_bd hm
    have hall := hall hm
    have hr := fun w => rmay_any c w
    rw [may_yes hm] at hr
    have hn := fun w => new_yes c hm w
    have hwd := fun (p : Nat) (w : World) (h : PBox w p c) => words_any h hm
    have hcf := fun (p : Nat) (w : World) (h : PBox w p c) => conf_any h
    have hat := fun (p : Nat) (w : World) (h : PBox w p c) => at_p h hm x.m x.k x.i x.j hi
    obtain ⟨N, hN⟩ : ∃ N : Nat, c.lv * c.size = (N : Int) := ⟨(c.lv * c.size).toNat, by omega⟩
    have hrat := fun (A : Option Addr) (n' : Nat) (w : World) (h : Sl plc w A N n' (wl c N)) => rat_any h (by omega) x (c.at_ x) (isat_at hm hN x)
    rw [hN] at hall hmb
    simp only [hN] at hwd
    rw [Int.toNat_natCast] at hall
    rcases (by omega : a < 0 ∨ (0 ≤ a ∧ a < (N : Int)) ∨ (0 ≤ a ∧ (N : Int) ≤ a)) with ga | ga | ga
    · exact planplaces_n c hm N (by omega) x a ga hn hr hall hwd hcf (c.at_ x) hat hrat (fun p w h => what_no h hm a (.inl ga)) w
    · exact planplaces_y c hm N (by omega) x a (c.what a) a.toNat (by omega) (by rw [Hid]; omega) ga.1 ga.2 (by rw [wl_get (by omega), Int.toNat_of_nonneg ga.1]) hn hr hall hwd hcf (c.at_ x) hat hrat (fun p w h => what_yes h hm a ga.1 (by omega)) w
    · exact planplaces_g c hm N (by omega) x a (decide_eq_false (by omega)) ga.2 hn hr hall hwd hcf (c.at_ x) hat hrat (fun p w h => what_no h hm a (.inr (by omega))) w
  · exact planplaces_no c (may_no hm) x a w
end Go.Proofs.Ytpnhpiniflcciaa
