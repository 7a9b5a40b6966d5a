/- The laws of plans: lives, PlanAll. -/
import Derived.Test.YtpnhpiniflcciaaPlanI
namespace Go.Proofs.Ytpnhpiniflcciaa
set_option linter.unusedVariables false
set_option linter.unusedSimpArgs false
open Go.RowKit

def c05 : Cf := ⟨1, 1, 0, 0, 0, 0, 0, 0, 0, 0, 2, 1, 1, 0⟩
theorem may05 : c05.May := by decide
theorem words05 : c05.lv * c05.size = 31 := by decide
theorem at05 : c05.at_ ⟨0, 9, 1, 0⟩ = 21 := by decide
set_option maxHeartbeats 4000000 in
set_option maxRecDepth 100000 in
theorem lives05 (w : World) : Calls Try.prog 36 #[] w fun e w' => e = .returned (.bool true) ∧ Below w.heap.size w w' := by
  go_enter Try.func36, Try.ntmps36
  go_wp2_with fail
  refine (new_yes c05 may05 _).mono ?_
  rintro e w1 ⟨p, rfl, hp, hb1⟩
  have hw := words_any hp may05
  rw [words05] at hw
  go_wp2_with fail
  refine hw.mono ?_
  rintro e w2 ⟨rfl, hb2⟩
  have ha := at_p (hp.below hb2) may05 0 9 1 0 (by decide)
  rw [at05] at ha
  clear hw
  go_wp2_with fail
  refine ha.mono ?_
  rintro e w3 ⟨rfl, hb3⟩
  go_wp2
  go_ret
  exact ⟨rfl, bnext (bnext hb1 hb2) hb3⟩

/-- Places held against the reference's. -/
theorem neq_plx (x : Pl) (w : World) : (binOp .neq 66 (.agg #[.int .i64 x.m, .int .i64 x.k, .int .i64 x.i, .int .i64 x.j]) (.agg #[.int .i64 x.m, .int .i64 x.k, .int .i64 x.i, .int .i64 x.j])).run Try.prog w = .ok (.bool false) w := by
  simp [go_sem, eqElems]
theorem eql_plx (x : Pl) (w : World) : (binOp .eql 66 (.agg #[.int .i64 x.m, .int .i64 x.k, .int .i64 x.i, .int .i64 x.j]) (.agg #[.int .i64 x.m, .int .i64 x.k, .int .i64 x.i, .int .i64 x.j])).run Try.prog w = .ok (.bool true) w := by
  simp [go_sem, eqElems]
theorem eql_px (x y : Pl) (w : World) : (binOp .eql 63 (.agg #[.int .i64 x.m, .int .i64 x.k, .int .i64 x.i, .int .i64 x.j]) (.agg #[.int .i64 y.m, .int .i64 y.k, .int .i64 y.i, .int .i64 y.j])).run Try.prog w = .ok (.bool (decide (x = y))) w := by
  obtain ⟨m, k, i, j⟩ := x
  obtain ⟨m', k', i', j'⟩ := y
  simp [go_sem, eqElems, Pl.mk.injEq]
  grind
theorem neq_c5 (c : Cf) (w : World) : (binOp .neq 45 (.agg #[.int .i64 c.lv, .int .i64 c.th, .int .i64 c.o0, .int .i64 c.o1, .int .i64 c.o2, .int .i64 c.o3, .int .i64 c.o4, .int .i64 c.o5, .int .i64 c.o6, .int .i64 c.o7, .int .i64 c.sl, .int .i64 c.li, .int .i64 c.ge, .int .i64 c.qu]) (.agg #[.int .i64 c.lv, .int .i64 c.th, .int .i64 c.o0, .int .i64 c.o1, .int .i64 c.o2, .int .i64 c.o3, .int .i64 c.o4, .int .i64 c.o5, .int .i64 c.o6, .int .i64 c.o7, .int .i64 c.sl, .int .i64 c.li, .int .i64 c.ge, .int .i64 c.qu])).run Try.prog w = .ok (.bool false) w := by
  simp [go_sem, arr8, eqElems]
theorem wl_get {c : Cf} {n k : Nat} (h : k < n) : (wl c n)[k]? = some (c.what k) := by
  unfold wl
  simp [h]
theorem at_what {c : Cf} (hm : c.May) {a : Int} (ha : 0 ≤ a) (hl : a < c.lv * c.size) : c.at_ (c.what a) = a := by
  obtain ⟨h1, h2⟩ := what_ok hm.m1 hm.s1 ha hl
  rw [at_ok h1, h2]
theorem what_i {c : Cf} (hm : c.May) {a : Int} (ha : 0 ≤ a) (hl : a < c.lv * c.size) : (c.what a).i ≤ 9223372036854775807 := by
  obtain ⟨h1, _⟩ := what_ok hm.m1 hm.s1 ha hl
  have h2 := h1.i1
  have h3 := base_bd (c.what a).k
  have h4 := many_bd hm (c.what a).k.toNat (by have := h1.k0; have := h1.k1; omega)
  have := hm.s2
  split at h2 <;> omega

set_option maxHeartbeats 4000000 in
set_option maxRecDepth 100000 in
theorem planall_no (c : Cf) (hm : mayB c = false) (w : World) : Calls Try.prog 10 #[.agg #[.int .i64 c.lv, .int .i64 c.th, .int .i64 c.o0, .int .i64 c.o1, .int .i64 c.o2, .int .i64 c.o3, .int .i64 c.o4, .int .i64 c.o5, .int .i64 c.o6, .int .i64 c.o7, .int .i64 c.sl, .int .i64 c.li, .int .i64 c.ge, .int .i64 c.qu]] w fun e w' => e = .returned (.bool true) ∧ Below w.heap.size w w' := by
  have hn := fun w => new_no c hm w
  have hr := fun w => rmay_any c w
  rw [hm] at hr
  go_enter Try.func10, Try.ntmps10
  go_wp2_with fail
  obtain ⟨W0, hW0, k0, k1, k2, k3, k4, k5, k6, k7, k8, k9, k10, k11, k12, k13, kb⟩ : ∃ W0, w.alloc (.cells #[.int .i64 c.lv, .int .i64 c.th, .int .i64 c.o0, .int .i64 c.o1, .int .i64 c.o2, .int .i64 c.o3, .int .i64 c.o4, .int .i64 c.o5, .int .i64 c.o6, .int .i64 c.o7, .int .i64 c.sl, .int .i64 c.li, .int .i64 c.ge, .int .i64 c.qu] 45) = W0 ∧ W0.cell? ⟨w.heap.size, 0, none⟩ = some (.int .i64 c.lv) ∧ W0.cell? ⟨w.heap.size, 1, none⟩ = some (.int .i64 c.th) ∧ W0.cell? ⟨w.heap.size, 2, none⟩ = some (.int .i64 c.o0) ∧ W0.cell? ⟨w.heap.size, 3, none⟩ = some (.int .i64 c.o1) ∧ W0.cell? ⟨w.heap.size, 4, none⟩ = some (.int .i64 c.o2) ∧ W0.cell? ⟨w.heap.size, 5, none⟩ = some (.int .i64 c.o3) ∧ W0.cell? ⟨w.heap.size, 6, none⟩ = some (.int .i64 c.o4) ∧ W0.cell? ⟨w.heap.size, 7, none⟩ = some (.int .i64 c.o5) ∧ W0.cell? ⟨w.heap.size, 8, none⟩ = some (.int .i64 c.o6) ∧ W0.cell? ⟨w.heap.size, 9, none⟩ = some (.int .i64 c.o7) ∧ W0.cell? ⟨w.heap.size, 10, none⟩ = some (.int .i64 c.sl) ∧ W0.cell? ⟨w.heap.size, 11, none⟩ = some (.int .i64 c.li) ∧ W0.cell? ⟨w.heap.size, 12, none⟩ = some (.int .i64 c.ge) ∧ W0.cell? ⟨w.heap.size, 13, none⟩ = some (.int .i64 c.qu) ∧ Below w.heap.size w W0 :=
    ⟨_, rfl, by go_simp, by go_simp, by go_simp, by go_simp, by go_simp, by go_simp, by go_simp, by go_simp, by go_simp, by go_simp, by go_simp, by go_simp, by go_simp, by go_simp, bnew (brefl w) _⟩
  rw [hW0]
  clear hW0
  refine (hn _).mono ?_
  rintro e w1 ⟨rfl, hb1⟩
  have z0 := keep_below k0 hb1
  have z1 := keep_below k1 hb1
  have z2 := keep_below k2 hb1
  have z3 := keep_below k3 hb1
  have z4 := keep_below k4 hb1
  have z5 := keep_below k5 hb1
  have z6 := keep_below k6 hb1
  have z7 := keep_below k7 hb1
  have z8 := keep_below k8 hb1
  have z9 := keep_below k9 hb1
  have z10 := keep_below k10 hb1
  have z11 := keep_below k11 hb1
  have z12 := keep_below k12 hb1
  have z13 := keep_below k13 hb1
  have kb1 := bnext kb hb1
  have hz := block_lt_of_cell z0
  clear k0 k1 k2 k3 k4 k5 k6 k7 k8 k9 k10 k11 k12 k13 kb hb1
  go_wp2_with fail
  refine (hr _).mono ?_
  rintro e w2 ⟨rfl, hb2⟩
  go_wp2_with fail
  refine (lives05 _).mono ?_
  rintro e w3 ⟨rfl, hb3⟩
  go_wp2
  go_ret
  exact ⟨rfl, bnext (bnext kb1 hb2) hb3⟩

set_option maxHeartbeats 4000000 in
set_option maxRecDepth 100000 in
theorem planall_yes (c : Cf) (hm : c.May) (hall : ∀ w : World, Calls Try.prog 37 #[.agg #[.int .i64 c.lv, .int .i64 c.th, .int .i64 c.o0, .int .i64 c.o1, .int .i64 c.o2, .int .i64 c.o3, .int .i64 c.o4, .int .i64 c.o5, .int .i64 c.o6, .int .i64 c.o7, .int .i64 c.sl, .int .i64 c.li, .int .i64 c.ge, .int .i64 c.qu]] w fun e w' => ∃ A' c', e = .returned (.slice A' (c.lv * c.size).toNat c') ∧ w'.ownsRow w.heap.size 66 4 (.slice A' (c.lv * c.size).toNat c') (c.lv * c.size).toNat ((wl c (c.lv * c.size).toNat).flatMap plc) ∧ Below w.heap.size w w') (w : World) : Calls Try.prog 10 #[.agg #[.int .i64 c.lv, .int .i64 c.th, .int .i64 c.o0, .int .i64 c.o1, .int .i64 c.o2, .int .i64 c.o3, .int .i64 c.o4, .int .i64 c.o5, .int .i64 c.o6, .int .i64 c.o7, .int .i64 c.sl, .int .i64 c.li, .int .i64 c.ge, .int .i64 c.qu]] w fun e w' => e = .returned (.bool true) ∧ Below w.heap.size w w' := by
  have hmb := mul_bd hm
  have hwd := fun (p : Nat) (w : World) (h : PBox w p c) => words_any h hm
  have hwh := fun (p : Nat) (w : World) (h : PBox w p c) (a : Int) h1 h2 => what_yes h hm a h1 h2
  have hat := fun (p : Nat) (w : World) (h : PBox w p c) (a : Int) (h1 : 0 ≤ a) (h2 : a < c.lv * c.size) => by
    have h3 := at_p h hm (c.what a).m (c.what a).k (c.what a).i (c.what a).j (what_i hm h1 h2)
    rw [show Pl.mk (c.what a).m (c.what a).k (c.what a).i (c.what a).j = c.what a from rfl, at_what hm h1 h2] at h3
    exact h3
  have hn := fun w => new_yes c hm w
  obtain ⟨N, hN⟩ : ∃ N : Nat, c.lv * c.size = (N : Int) := ⟨(c.lv * c.size).toNat, by omega⟩
  rw [hN] at hall hmb
  simp only [hN] at hwd hwh hat
  rw [Int.toNat_natCast] at hall
  have HN : N ≤ 1672 := by omega
  clear hN hmb
  go_enter Try.func10, Try.ntmps10
  go_wp2_with fail
  obtain ⟨W0, hW0, k0, k1, k2, k3, k4, k5, k6, k7, k8, k9, k10, k11, k12, k13, kb⟩ : ∃ W0, w.alloc (.cells #[.int .i64 c.lv, .int .i64 c.th, .int .i64 c.o0, .int .i64 c.o1, .int .i64 c.o2, .int .i64 c.o3, .int .i64 c.o4, .int .i64 c.o5, .int .i64 c.o6, .int .i64 c.o7, .int .i64 c.sl, .int .i64 c.li, .int .i64 c.ge, .int .i64 c.qu] 45) = W0 ∧ W0.cell? ⟨w.heap.size, 0, none⟩ = some (.int .i64 c.lv) ∧ W0.cell? ⟨w.heap.size, 1, none⟩ = some (.int .i64 c.th) ∧ W0.cell? ⟨w.heap.size, 2, none⟩ = some (.int .i64 c.o0) ∧ W0.cell? ⟨w.heap.size, 3, none⟩ = some (.int .i64 c.o1) ∧ W0.cell? ⟨w.heap.size, 4, none⟩ = some (.int .i64 c.o2) ∧ W0.cell? ⟨w.heap.size, 5, none⟩ = some (.int .i64 c.o3) ∧ W0.cell? ⟨w.heap.size, 6, none⟩ = some (.int .i64 c.o4) ∧ W0.cell? ⟨w.heap.size, 7, none⟩ = some (.int .i64 c.o5) ∧ W0.cell? ⟨w.heap.size, 8, none⟩ = some (.int .i64 c.o6) ∧ W0.cell? ⟨w.heap.size, 9, none⟩ = some (.int .i64 c.o7) ∧ W0.cell? ⟨w.heap.size, 10, none⟩ = some (.int .i64 c.sl) ∧ W0.cell? ⟨w.heap.size, 11, none⟩ = some (.int .i64 c.li) ∧ W0.cell? ⟨w.heap.size, 12, none⟩ = some (.int .i64 c.ge) ∧ W0.cell? ⟨w.heap.size, 13, none⟩ = some (.int .i64 c.qu) ∧ Below w.heap.size w W0 :=
    ⟨_, rfl, by go_simp, by go_simp, by go_simp, by go_simp, by go_simp, by go_simp, by go_simp, by go_simp, by go_simp, by go_simp, by go_simp, by go_simp, by go_simp, by go_simp, bnew (brefl w) _⟩
  rw [hW0]
  clear hW0
  refine (hn _).mono ?_
  rintro e w1 ⟨p, rfl, hp, hb1⟩
  have z0 := keep_below k0 hb1
  have z1 := keep_below k1 hb1
  have z2 := keep_below k2 hb1
  have z3 := keep_below k3 hb1
  have z4 := keep_below k4 hb1
  have z5 := keep_below k5 hb1
  have z6 := keep_below k6 hb1
  have z7 := keep_below k7 hb1
  have z8 := keep_below k8 hb1
  have z9 := keep_below k9 hb1
  have z10 := keep_below k10 hb1
  have z11 := keep_below k11 hb1
  have z12 := keep_below k12 hb1
  have z13 := keep_below k13 hb1
  have kb1 := bnext kb hb1
  have hz := block_lt_of_cell z0
  clear k0 k1 k2 k3 k4 k5 k6 k7 k8 k9 k10 k11 k12 k13 kb hb1
  go_wp2_with fail
  refine (hall _).mono ?_
  rintro e W2 ⟨A', c', rfl, own, hb2⟩
  have hs := Sl.of_own plc_len (by decide) own
  have hp2 := hp.below hb2
  have kb2 := bnext kb1 hb2
  clear z0 z1 z2 z3 z4 z5 z6 z7 z8 z9 z10 z11 z12 z13 hp kb1 hb2 own hz
  go_wp2_with fail
  go_loopg [6] N (fun gk i wr => ∃ k : Nat, k + gk = N ∧ i = .int .i64 k ∧ Below W2.heap.size W2 wr)
  case atStart => exact ⟨0, by omega, rfl, brefl W2⟩
  case round =>
    obtain ⟨k, hk, rfl, hbr⟩ := hrel
    have hpr := hp2.below hbr
    have hsr := hs.below hbr
    by_cases hlt : k < N
    · obtain ⟨b, o, rfl, hbb, hc⟩ := hsr.base plc_len (by decide) (by omega)
      have hy := wl_get (c := c) hlt
      have b0 : (0 : Int) ≤ (k : Int) := by omega
      have b1 : (k : Int) < (N : Int) := by omega
      have hwh1 := hwh p wr hpr k b0 b1
      have hat1 := fun (w : World) (h : PBox w p c) => hat p w h k b0 b1
      have c0 : wr.cell? ⟨b, o + k * 4, none⟩ = some (.int .i64 (c.what k).m) := hc k _ 0 _ hy rfl
      have c1 : wr.cell? ⟨b, o + k * 4 + 1, none⟩ = some (.int .i64 (c.what k).k) := by rw [Nat.add_assoc]; exact hc k _ 1 _ hy rfl
      have c2 : wr.cell? ⟨b, o + k * 4 + 2, none⟩ = some (.int .i64 (c.what k).i) := by rw [Nat.add_assoc]; exact hc k _ 2 _ hy rfl
      have c3 : wr.cell? ⟨b, o + k * 4 + 3, none⟩ = some (.int .i64 (c.what k).j) := by rw [Nat.add_assoc]; exact hc k _ 3 _ hy rfl
      have hne := neq_plx (c.what k)
      clear hc hy hat hwh hsr
      generalize c.what (k : Int) = x at *
      go_wp2_with fail
      refine hwh1.mono ?_
      rintro e w3 ⟨rfl, hb3⟩
      have d0 := keep_below c0 hb3
      have d1 := keep_below c1 hb3
      have d2 := keep_below c2 hb3
      have d3 := keep_below c3 hb3
      have hp3 := hpr.below hb3
      have hb03 := bnext hbr hb3
      clear hwh1 c0 c1 c2 c3 hb3
      go_upto_region 9 with (fail)
      obtain ⟨W4, hW4, x0, x1, x2, x3, y0, y1, y2, y3, hp4, hb4⟩ : ∃ W4, w3.alloc (.cells #[.int .i64 x.m, .int .i64 x.k, .int .i64 x.i, .int .i64 x.j] 63) = W4 ∧ W4.cell? ⟨w3.heap.size, 0, none⟩ = some (.int .i64 x.m) ∧ W4.cell? ⟨w3.heap.size, 1, none⟩ = some (.int .i64 x.k) ∧ W4.cell? ⟨w3.heap.size, 2, none⟩ = some (.int .i64 x.i) ∧ W4.cell? ⟨w3.heap.size, 3, none⟩ = some (.int .i64 x.j) ∧ W4.cell? ⟨b, o + k * 4, none⟩ = some (.int .i64 x.m) ∧ W4.cell? ⟨b, o + k * 4 + 1, none⟩ = some (.int .i64 x.k) ∧ W4.cell? ⟨b, o + k * 4 + 2, none⟩ = some (.int .i64 x.i) ∧ W4.cell? ⟨b, o + k * 4 + 3, none⟩ = some (.int .i64 x.j) ∧ PBox W4 p c ∧ Below W2.heap.size W2 W4 :=
        ⟨_, rfl, by go_simp, by go_simp, by go_simp, by go_simp, keep_below d0 (bnew (brefl _) _), keep_below d1 (bnew (brefl _) _), keep_below d2 (bnew (brefl _) _), keep_below d3 (bnew (brefl _) _), hp3.below (bnew (brefl _) _), bnew hb03 _⟩
      rw [hW4]
      clear hW4 d0 d1 d2 d3 hp3 hb03
      generalize w3.heap.size = Q at *
      have hX := @Ext.cell W4
      have hzz0 := block_lt_of_cell x0
      have hzz1 := block_lt_of_cell y0
      refine wp_region_noPanic ?_
      refine wp_region_plan (fun w' => ∃ x : Ext W4, w' = x.w) [([0, 1, 2, 3, 4, 5, 6, 7, 8, 9, 10, 11, 12, 14], 13)] [15, 16] (by kernel_rfl) (by kernel_rfl) (by kernel_rfl) (fun _ _ _ _ _ h => h) ⟨⟨_, (brefl W4).drew⟩, rfl⟩ ?_
      refine wpPlan_cons ?_
      simp only [pickOps, List.getElem?_cons_succ, List.getElem?_cons_zero, Option.elim_some]
      repeat (go_big_quiet_step (fail))
      refine wpQuiet_nil ?_
      refine planAct_some (fun K hK => ?_)
      go_simp
      refine (hat1 _ (hp4.below (brefl W4).drew)).mono ?_
      rintro e w5 ⟨rfl, hb5⟩
      go_wp2_with fail
      refine hK.out _ _ ⟨⟨_, (bnext (brefl W4).drew hb5)⟩, rfl⟩ ?_
      clear hK K
      refine wpPlan_last ?_
      simp only [pickOps, List.getElem?_cons_succ, List.getElem?_cons_zero, Option.elim_some]
      repeat (go_big_quiet_step (fail))
      refine wpQuiet_nil ?_
      refine NoPanic.normal ?_
      clear hX hzz0 hzz1
      go_wp2
      go_roundg (gk - 1)
      case measure => omega
      case rel => exact ⟨k + 1, by omega, by go_num, bnext hb4 (bnext (brefl W4).drew hb5)⟩
    · obtain rfl : k = N := by omega
      have hwd1 := hwd p wr hpr
      clear hat hwh hsr hs
      go_wp2_with fail
      refine hwd1.mono ?_
      rintro e w3 ⟨rfl, hb3⟩
      go_wp2_with fail
      refine (lives05 _).mono ?_
      rintro e w4 ⟨rfl, hb4⟩
      go_wp2
      go_ret
      exact ⟨rfl, bnext (bnext (bnext kb2 hbr) hb3) hb4⟩

theorem planall_any (c : Cf) (hall : c.May → ∀ w : World, Calls Try.prog 37 #[.agg #[.int .i64 c.lv, .int .i64 c.th, .int .i64 c.o0, .int .i64 c.o1, .int .i64 c.o2, .int .i64 c.o3, .int .i64 c.o4, .int .i64 c.o5, .int .i64 c.o6, .int .i64 c.o7, .int .i64 c.sl, .int .i64 c.li, .int .i64 c.ge, .int .i64 c.qu]] w fun e w' => ∃ A' c', e = .returned (.slice A' (c.lv * c.size).toNat c') ∧ w'.ownsRow w.heap.size 66 4 (.slice A' (c.lv * c.size).toNat c') (c.lv * c.size).toNat ((wl c (c.lv * c.size).toNat).flatMap plc) ∧ Below w.heap.size w w') (w : World) : Calls Try.prog 10 #[.agg #[.int .i64 c.lv, .int .i64 c.th, .int .i64 c.o0, .int .i64 c.o1, .int .i64 c.o2, .int .i64 c.o3, .int .i64 c.o4, .int .i64 c.o5, .int .i64 c.o6, .int .i64 c.o7, .int .i64 c.sl, .int .i64 c.li, .int .i64 c.ge, .int .i64 c.qu]] w fun e w' => e = .returned (.bool true) ∧ Below w.heap.size w w' := by
  by_cases hm : c.May
  · exact planall_yes c hm (hall hm) w
  · exact planall_no c (may_no hm) w
end Go.Proofs.Ytpnhpiniflcciaa
