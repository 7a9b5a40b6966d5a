/- The law ConfBares: the plain part, and the walk. -/
import Derived.Test.YtpnhpiniflcciaaConfI
namespace Go.Proofs.Ytpnhpiniflcciaa
set_option linter.unusedVariables false
set_option linter.unusedSimpArgs false
open Go.RowKit

def Cf.bare (c : Cf) (l : Int) : Cf := ⟨c.lv, c.th, c.bk l 0, c.bk l 1, c.bk l 2, c.bk l 3, c.bk l 4, c.bk l 5, c.bk l 6, c.bk l 7, c.sl, c.li, c.ge, c.qu⟩
theorem bare_of (c : Cf) (l : Int) : ∀ k : Nat, k < 8 → (c.bare l).of k = c.bk l k := fun k hk => by
  rcases (by omega : k = 0 ∨ k = 1 ∨ k = 2 ∨ k = 3 ∨ k = 4 ∨ k = 5 ∨ k = 6 ∨ k = 7) with rfl | rfl | rfl | rfl | rfl | rfl | rfl | rfl <;> rfl
theorem cf_ext {x c : Cf} (h1 : x.lv = c.lv) (h2 : x.th = c.th) (h : ∀ k : Nat, k < 8 → x.of k = c.of k) (h3 : x.sl = c.sl) (h4 : x.li = c.li) (h5 : x.ge = c.ge) (h6 : x.qu = c.qu) : x = c := by
  have e0 : x.o0 = c.o0 := h 0 (by decide)
  have e1 : x.o1 = c.o1 := h 1 (by decide)
  have e2 : x.o2 = c.o2 := h 2 (by decide)
  have e3 : x.o3 = c.o3 := h 3 (by decide)
  have e4 : x.o4 = c.o4 := h 4 (by decide)
  have e5 : x.o5 = c.o5 := h 5 (by decide)
  have e6 : x.o6 = c.o6 := h 6 (by decide)
  have e7 : x.o7 = c.o7 := h 7 (by decide)
  cases x
  cases c
  simp_all
theorem bare_no {c : Cf} (l : Int) (h : ∀ k : Nat, k < 8 → c.bk l k = c.of k) : c.bare l = c := cf_ext rfl rfl (fun k hk => by rw [bare_of c l k hk, h k hk]) rfl rfl rfl rfl
theorem bare_out {c : Cf} (l : Int) (h : ¬ mayB c = true) : c.bare l = c := bare_no l fun k _ => if_neg fun q => h q.1
theorem bare_may (c : Cf) (l : Int) : mayB (c.bare l) = mayB c := by
  by_cases h : mayB c = true
  · have m : c.May := of_decide_eq_true h
    rw [h]
    refine may_yes ⟨m.l1, m.l2, m.t1, m.t2, fun k hk hth => ?_, fun k hk => ?_, m.s1, m.s2, m.m1, m.m2, m.g1, m.g2, m.q1, m.q2⟩
    · rw [bare_of c l k hk, Cf.bk, if_neg (fun q => by have := q.2.1; have e : (c.bare l).th = c.th := rfl; omega)]
      exact m.z k hk hth
    · have hr := m.r k hk
      have e : (c.bare l).lv = c.lv := rfl
      rw [bare_of c l k hk, Cf.bk, e]
      have := m.l1
      split <;> omega
  · rw [bare_out l h]
theorem bare_twice (c : Cf) (l : Int) : (c.bare l).bare l = c.bare l := bare_no l fun k hk => by
  rw [Cf.bk, bare_may, bare_of c l k hk]
  split
  · rename_i h
    have e : (c.bare l).lv = c.lv := rfl
    rw [e]
    have h2 := h.2.2
    unfold Cf.bk at h2 ⊢
    split
    · rfl
    · rename_i h3
      rw [if_neg h3] at h2
      exact absurd ⟨h.1, h.2.1, h2⟩ h3
  · rfl
theorem bare_high {c : Cf} {l : Int} (h : wrap64 (c.lv - 1) ≤ l) : c.bare l = c := by
  by_cases hm : mayB c = true
  · have m : c.May := of_decide_eq_true hm
    have l1 := m.l1
    have l2 := m.l2
    have e : wrap64 (c.lv - 1) = c.lv - 1 := by unfold wrap64; omega
    rw [e] at h
    refine bare_no l fun k hk => if_neg fun q => ?_
    have := (m.r k hk).2
    omega
  · exact bare_out l hm
theorem bare_up (c : Cf) (l : Int) : atL (c.bare l) (fun x => decide (x ≤ l)) = atL c (fun x => decide (x ≤ l)) := by
  unfold atL
  rw [bare_may]
  split
  · rename_i hm
    have m : c.May := of_decide_eq_true hm
    have : ∀ k, k ≤ 8 → thr (c.bare l) (fun x => decide (x ≤ l)) k = thr c (fun x => decide (x ≤ l)) k := by
      intro k
      induction k with
      | zero => intro _; rfl
      | succ k ih =>
        intro hk
        have e : (c.bare l).th = c.th := rfl
        have hr := (m.r k (by omega)).2
        have e2 : decide (c.bk l k ≤ l) = decide (c.of k ≤ l) := by
          rw [decide_eq_decide, Cf.bk]
          split
          · rename_i q
            have := q.2.2
            omega
          · exact Iff.rfl
        rw [thr, thr, ih (by omega), e, bare_of c l k (by omega), e2]
    exact this 8 (Nat.le_refl _)
  · rfl
theorem neq_c (c : Cf) (w : World) : (binOp .neq 45 (.agg #[.int .i64 c.lv, .int .i64 c.th, .int .i64 c.o0, .int .i64 c.o1, .int .i64 c.o2, .int .i64 c.o3, .int .i64 c.o4, .int .i64 c.o5, .int .i64 c.o6, .int .i64 c.o7, .int .i64 c.sl, .int .i64 c.li, .int .i64 c.ge, .int .i64 c.qu]) (.agg #[.int .i64 c.lv, .int .i64 c.th, .int .i64 c.o0, .int .i64 c.o1, .int .i64 c.o2, .int .i64 c.o3, .int .i64 c.o4, .int .i64 c.o5, .int .i64 c.o6, .int .i64 c.o7, .int .i64 c.sl, .int .i64 c.li, .int .i64 c.ge, .int .i64 c.qu])).run Try.prog w = .ok (.bool false) w := by
  simp [go_sem, arr8, eqElems]

set_option maxHeartbeats 4000000 in
set_option maxRecDepth 100000 in
theorem bares_tn (c : Cf) (l : Int) (L : List Int) (m : Bool) (hT : wrap64 (c.lv - 1) ≤ l) (hl : l < 0) (hL : L.length ≤ 8)
    (hb : ∀ w : World, Calls Try.prog 31 #[.agg #[.int .i64 c.lv, .int .i64 c.th, .int .i64 c.o0, .int .i64 c.o1, .int .i64 c.o2, .int .i64 c.o3, .int .i64 c.o4, .int .i64 c.o5, .int .i64 c.o6, .int .i64 c.o7, .int .i64 c.sl, .int .i64 c.li, .int .i64 c.ge, .int .i64 c.qu], .int .i64 l] w fun e w' => e = .returned (.agg #[.int .i64 c.lv, .int .i64 c.th, .int .i64 c.o0, .int .i64 c.o1, .int .i64 c.o2, .int .i64 c.o3, .int .i64 c.o4, .int .i64 c.o5, .int .i64 c.o6, .int .i64 c.o7, .int .i64 c.sl, .int .i64 c.li, .int .i64 c.ge, .int .i64 c.qu]) ∧ Below w.heap.size w w')
    (hrb : ∀ w : World, Calls Try.prog 32 #[.agg #[.int .i64 c.lv, .int .i64 c.th, .int .i64 c.o0, .int .i64 c.o1, .int .i64 c.o2, .int .i64 c.o3, .int .i64 c.o4, .int .i64 c.o5, .int .i64 c.o6, .int .i64 c.o7, .int .i64 c.sl, .int .i64 c.li, .int .i64 c.ge, .int .i64 c.qu], .int .i64 l] w fun e w' => e = .returned (.agg #[.int .i64 c.lv, .int .i64 c.th, .int .i64 c.o0, .int .i64 c.o1, .int .i64 c.o2, .int .i64 c.o3, .int .i64 c.o4, .int .i64 c.o5, .int .i64 c.o6, .int .i64 c.o7, .int .i64 c.sl, .int .i64 c.li, .int .i64 c.ge, .int .i64 c.qu]) ∧ Below w.heap.size w w')
    (hbx : ∀ w : World, Calls Try.prog 31 #[.agg #[.int .i64 c.lv, .int .i64 c.th, .int .i64 c.o0, .int .i64 c.o1, .int .i64 c.o2, .int .i64 c.o3, .int .i64 c.o4, .int .i64 c.o5, .int .i64 c.o6, .int .i64 c.o7, .int .i64 c.sl, .int .i64 c.li, .int .i64 c.ge, .int .i64 c.qu], .int .i64 l] w fun e w' => e = .returned (.agg #[.int .i64 c.lv, .int .i64 c.th, .int .i64 c.o0, .int .i64 c.o1, .int .i64 c.o2, .int .i64 c.o3, .int .i64 c.o4, .int .i64 c.o5, .int .i64 c.o6, .int .i64 c.o7, .int .i64 c.sl, .int .i64 c.li, .int .i64 c.ge, .int .i64 c.qu]) ∧ Below w.heap.size w w')
    (hux : ∀ w : World, Calls Try.prog 28 #[.agg #[.int .i64 c.lv, .int .i64 c.th, .int .i64 c.o0, .int .i64 c.o1, .int .i64 c.o2, .int .i64 c.o3, .int .i64 c.o4, .int .i64 c.o5, .int .i64 c.o6, .int .i64 c.o7, .int .i64 c.sl, .int .i64 c.li, .int .i64 c.ge, .int .i64 c.qu], .int .i64 l] w fun e w' => ∃ A' c', e = .returned (.slice A' (L).length c') ∧ w'.ownsRow w.heap.size 3 1 (.slice A' (L).length c') (L).length ((L).flatMap ic) ∧ Below w.heap.size w w')
    (huc : ∀ w : World, Calls Try.prog 28 #[.agg #[.int .i64 c.lv, .int .i64 c.th, .int .i64 c.o0, .int .i64 c.o1, .int .i64 c.o2, .int .i64 c.o3, .int .i64 c.o4, .int .i64 c.o5, .int .i64 c.o6, .int .i64 c.o7, .int .i64 c.sl, .int .i64 c.li, .int .i64 c.ge, .int .i64 c.qu], .int .i64 l] w fun e w' => ∃ A' c', e = .returned (.slice A' (L).length c') ∧ w'.ownsRow w.heap.size 3 1 (.slice A' (L).length c') (L).length ((L).flatMap ic) ∧ Below w.heap.size w w')
    (hmx : ∀ w : World, Calls Try.prog 20 #[.agg #[.int .i64 c.lv, .int .i64 c.th, .int .i64 c.o0, .int .i64 c.o1, .int .i64 c.o2, .int .i64 c.o3, .int .i64 c.o4, .int .i64 c.o5, .int .i64 c.o6, .int .i64 c.o7, .int .i64 c.sl, .int .i64 c.li, .int .i64 c.ge, .int .i64 c.qu]] w fun e w' => e = .returned (.bool m) ∧ Below w.heap.size w w')
    (hmc : ∀ w : World, Calls Try.prog 20 #[.agg #[.int .i64 c.lv, .int .i64 c.th, .int .i64 c.o0, .int .i64 c.o1, .int .i64 c.o2, .int .i64 c.o3, .int .i64 c.o4, .int .i64 c.o5, .int .i64 c.o6, .int .i64 c.o7, .int .i64 c.sl, .int .i64 c.li, .int .i64 c.ge, .int .i64 c.qu]] w fun e w' => e = .returned (.bool m) ∧ Below w.heap.size w w') (w : World) :
    Calls Try.prog 8 #[.agg #[.int .i64 c.lv, .int .i64 c.th, .int .i64 c.o0, .int .i64 c.o1, .int .i64 c.o2, .int .i64 c.o3, .int .i64 c.o4, .int .i64 c.o5, .int .i64 c.o6, .int .i64 c.o7, .int .i64 c.sl, .int .i64 c.li, .int .i64 c.ge, .int .i64 c.qu], .int .i64 l] w fun e w' => e = .returned (.bool true) ∧ Below w.heap.size w w' := by
  have hne := neq_c c
  go_enter Try.func8, Try.ntmps8
  go_wp2_with fail
  obtain ⟨W0, hW0, k0, k1, k2, k3, k4, k5, k6, k7, k8, k9, k10, k11, k12, k13, kof, kb⟩ : ∃ W0, w.alloc (.cells #[.int .i64 c.lv, .int .i64 c.th, .int .i64 c.o0, .int .i64 c.o1, .int .i64 c.o2, .int .i64 c.o3, .int .i64 c.o4, .int .i64 c.o5, .int .i64 c.o6, .int .i64 c.o7, .int .i64 c.sl, .int .i64 c.li, .int .i64 c.ge, .int .i64 c.qu] 45) = W0 ∧ W0.cell? ⟨w.heap.size, 0, none⟩ = some (.int .i64 c.lv) ∧ W0.cell? ⟨w.heap.size, 1, none⟩ = some (.int .i64 c.th) ∧ W0.cell? ⟨w.heap.size, 2, none⟩ = some (.int .i64 c.o0) ∧ W0.cell? ⟨w.heap.size, 3, none⟩ = some (.int .i64 c.o1) ∧ W0.cell? ⟨w.heap.size, 4, none⟩ = some (.int .i64 c.o2) ∧ W0.cell? ⟨w.heap.size, 5, none⟩ = some (.int .i64 c.o3) ∧ W0.cell? ⟨w.heap.size, 6, none⟩ = some (.int .i64 c.o4) ∧ W0.cell? ⟨w.heap.size, 7, none⟩ = some (.int .i64 c.o5) ∧ W0.cell? ⟨w.heap.size, 8, none⟩ = some (.int .i64 c.o6) ∧ W0.cell? ⟨w.heap.size, 9, none⟩ = some (.int .i64 c.o7) ∧ W0.cell? ⟨w.heap.size, 10, none⟩ = some (.int .i64 c.sl) ∧ W0.cell? ⟨w.heap.size, 11, none⟩ = some (.int .i64 c.li) ∧ W0.cell? ⟨w.heap.size, 12, none⟩ = some (.int .i64 c.ge) ∧ W0.cell? ⟨w.heap.size, 13, none⟩ = some (.int .i64 c.qu) ∧ (∀ k : Nat, k < 8 → W0.cell? ⟨w.heap.size, 2 + k, none⟩ = some (.int .i64 (c.of k))) ∧ Below w.heap.size w W0 :=
    ⟨_, rfl, by go_simp, by go_simp, by go_simp, by go_simp, by go_simp, by go_simp, by go_simp, by go_simp, by go_simp, by go_simp, by go_simp, by go_simp, by go_simp, by go_simp, box_of c w, bnew (brefl w) _⟩
  rw [hW0]
  clear hW0
  clear kof
  refine (hb _).mono ?_
  rintro e w1 ⟨rfl, hb1⟩
  have z0 := keep_below k0 hb1
  have z1 := keep_below k1 hb1
  have z2 := keep_below k2 hb1
  have z3 := keep_below k3 hb1
  have z4 := keep_below k4 hb1
  have z5 := keep_below k5 hb1
  have z6 := keep_below k6 hb1
  have z7 := keep_below k7 hb1
  have z8 := keep_below k8 hb1
  have z9 := keep_below k9 hb1
  have z10 := keep_below k10 hb1
  have z11 := keep_below k11 hb1
  have z12 := keep_below k12 hb1
  have z13 := keep_below k13 hb1
  have kb1 := bnext kb hb1
  clear k0 k1 k2 k3 k4 k5 k6 k7 k8 k9 k10 k11 k12 k13 kb
  have hz := block_lt_of_cell z0
  go_upto_region 2 with (fail)
  obtain ⟨W0, hW0, k0, k1, k2, k3, k4, k5, k6, k7, k8, k9, k10, k11, k12, k13, y0, y1, y2, y3, y4, y5, y6, y7, y8, y9, y10, y11, y12, y13, kb⟩ : ∃ W0, w1.alloc (.cells #[.int .i64 c.lv, .int .i64 c.th, .int .i64 c.o0, .int .i64 c.o1, .int .i64 c.o2, .int .i64 c.o3, .int .i64 c.o4, .int .i64 c.o5, .int .i64 c.o6, .int .i64 c.o7, .int .i64 c.sl, .int .i64 c.li, .int .i64 c.ge, .int .i64 c.qu] 45) = W0 ∧ W0.cell? ⟨w.heap.size, 0, none⟩ = some (.int .i64 c.lv) ∧ W0.cell? ⟨w.heap.size, 1, none⟩ = some (.int .i64 c.th) ∧ W0.cell? ⟨w.heap.size, 2, none⟩ = some (.int .i64 c.o0) ∧ W0.cell? ⟨w.heap.size, 3, none⟩ = some (.int .i64 c.o1) ∧ W0.cell? ⟨w.heap.size, 4, none⟩ = some (.int .i64 c.o2) ∧ W0.cell? ⟨w.heap.size, 5, none⟩ = some (.int .i64 c.o3) ∧ W0.cell? ⟨w.heap.size, 6, none⟩ = some (.int .i64 c.o4) ∧ W0.cell? ⟨w.heap.size, 7, none⟩ = some (.int .i64 c.o5) ∧ W0.cell? ⟨w.heap.size, 8, none⟩ = some (.int .i64 c.o6) ∧ W0.cell? ⟨w.heap.size, 9, none⟩ = some (.int .i64 c.o7) ∧ W0.cell? ⟨w.heap.size, 10, none⟩ = some (.int .i64 c.sl) ∧ W0.cell? ⟨w.heap.size, 11, none⟩ = some (.int .i64 c.li) ∧ W0.cell? ⟨w.heap.size, 12, none⟩ = some (.int .i64 c.ge) ∧ W0.cell? ⟨w.heap.size, 13, none⟩ = some (.int .i64 c.qu) ∧ W0.cell? ⟨w1.heap.size, 0, none⟩ = some (.int .i64 c.lv) ∧ W0.cell? ⟨w1.heap.size, 1, none⟩ = some (.int .i64 c.th) ∧ W0.cell? ⟨w1.heap.size, 2, none⟩ = some (.int .i64 c.o0) ∧ W0.cell? ⟨w1.heap.size, 3, none⟩ = some (.int .i64 c.o1) ∧ W0.cell? ⟨w1.heap.size, 4, none⟩ = some (.int .i64 c.o2) ∧ W0.cell? ⟨w1.heap.size, 5, none⟩ = some (.int .i64 c.o3) ∧ W0.cell? ⟨w1.heap.size, 6, none⟩ = some (.int .i64 c.o4) ∧ W0.cell? ⟨w1.heap.size, 7, none⟩ = some (.int .i64 c.o5) ∧ W0.cell? ⟨w1.heap.size, 8, none⟩ = some (.int .i64 c.o6) ∧ W0.cell? ⟨w1.heap.size, 9, none⟩ = some (.int .i64 c.o7) ∧ W0.cell? ⟨w1.heap.size, 10, none⟩ = some (.int .i64 c.sl) ∧ W0.cell? ⟨w1.heap.size, 11, none⟩ = some (.int .i64 c.li) ∧ W0.cell? ⟨w1.heap.size, 12, none⟩ = some (.int .i64 c.ge) ∧ W0.cell? ⟨w1.heap.size, 13, none⟩ = some (.int .i64 c.qu) ∧ Below w.heap.size w W0 :=
    ⟨_, rfl, keep_below z0 (bnew (brefl w1) _), keep_below z1 (bnew (brefl w1) _), keep_below z2 (bnew (brefl w1) _), keep_below z3 (bnew (brefl w1) _), keep_below z4 (bnew (brefl w1) _), keep_below z5 (bnew (brefl w1) _), keep_below z6 (bnew (brefl w1) _), keep_below z7 (bnew (brefl w1) _), keep_below z8 (bnew (brefl w1) _), keep_below z9 (bnew (brefl w1) _), keep_below z10 (bnew (brefl w1) _), keep_below z11 (bnew (brefl w1) _), keep_below z12 (bnew (brefl w1) _), keep_below z13 (bnew (brefl w1) _), by go_simp, by go_simp, by go_simp, by go_simp, by go_simp, by go_simp, by go_simp, by go_simp, by go_simp, by go_simp, by go_simp, by go_simp, by go_simp, by go_simp, bnew kb1 _⟩
  rw [hW0]
  clear hW0
  generalize w1.heap.size = B5 at *
  clear kb1 hb1 z0 z1 z2 z3 z4 z5 z6 z7 z8 z9 z10 z11 z12 z13
  have hX := @Ext.cell W0
  have hzz0 := block_lt_of_cell k0
  have hzz1 := block_lt_of_cell y0
  refine wp_region_noPanic ?_
  refine wp_region_plan (fun w' => ∃ x : Ext W0, w' = x.w) [([0, 1, 2], 3), ([4, 5, 6, 7, 9], 8)] [10, 11] (by kernel_rfl) (by kernel_rfl) (by kernel_rfl) (fun _ _ _ _ _ h => h) ⟨⟨_, (brefl W0).drew⟩, rfl⟩ ?_
  refine wpPlan_cons ?_
  simp only [pickOps, List.getElem?_cons_succ, List.getElem?_cons_zero, Option.elim_some]
  repeat (go_big_quiet_step (fail))
  refine wpQuiet_nil ?_
  refine planAct_some (fun K hK => ?_)
  go_simp
  refine (hrb _).mono ?_
  rintro e wa ⟨rfl, hba⟩
  go_wp2_with fail
  refine hK.out _ _ ⟨⟨_, (bnext (brefl W0).drew hba)⟩, rfl⟩ ?_
  clear hK K
  refine wpPlan_cons ?_
  simp only [pickOps, List.getElem?_cons_succ, List.getElem?_cons_zero, Option.elim_some]
  repeat (go_big_quiet_step (fail))
  refine wpQuiet_nil ?_
  refine planAct_some (fun K hK => ?_)
  go_simp
  refine (hbx _).mono ?_
  rintro e wb ⟨rfl, hbb⟩
  go_wp2_with fail
  refine hK.out _ _ ⟨⟨_, (bnext (bnext (brefl W0).drew hba) hbb)⟩, rfl⟩ ?_
  clear hK K
  refine wpPlan_last ?_
  simp only [pickOps, List.getElem?_cons_succ, List.getElem?_cons_zero, Option.elim_some]
  repeat (go_big_quiet_step (fail))
  refine wpQuiet_nil ?_
  refine NoPanic.normal ?_
  clear hX hzz0 hzz1
  have hfin := (bnext (bnext (brefl W0).drew hba) hbb)
  have q0 := keep_below k0 hfin
  have q1 := keep_below k1 hfin
  have q2 := keep_below k2 hfin
  have q3 := keep_below k3 hfin
  have q4 := keep_below k4 hfin
  have q5 := keep_below k5 hfin
  have q6 := keep_below k6 hfin
  have q7 := keep_below k7 hfin
  have q8 := keep_below k8 hfin
  have q9 := keep_below k9 hfin
  have q10 := keep_below k10 hfin
  have q11 := keep_below k11 hfin
  have q12 := keep_below k12 hfin
  have q13 := keep_below k13 hfin
  have p0 := keep_below y0 hfin
  have p1 := keep_below y1 hfin
  have p2 := keep_below y2 hfin
  have p3 := keep_below y3 hfin
  have p4 := keep_below y4 hfin
  have p5 := keep_below y5 hfin
  have p6 := keep_below y6 hfin
  have p7 := keep_below y7 hfin
  have p8 := keep_below y8 hfin
  have p9 := keep_below y9 hfin
  have p10 := keep_below y10 hfin
  have p11 := keep_below y11 hfin
  have p12 := keep_below y12 hfin
  have p13 := keep_below y13 hfin
  have kb9 := bnext kb hfin
  clear k0 k1 k2 k3 k4 k5 k6 k7 k8 k9 k10 k11 k12 k13 y0 y1 y2 y3 y4 y5 y6 y7 y8 y9 y10 y11 y12 y13 kb hfin hba hbb hz
  generalize wb = w9 at *
  have hz9 := block_lt_of_cell q0
  have hz8 := block_lt_of_cell p0
  go_upto_region 6 with (fail)
  have hX := @Ext.cell w9
  have hzz0 := block_lt_of_cell q0
  have hzz1 := block_lt_of_cell p0
  refine wp_region_noPanic ?_
  refine wp_region_plan (fun w' => ∃ x : Ext w9, w' = x.w) [([0, 1, 2, 3, 4, 6, 7], 5), ([], 8), ([], 9), ([10, 11, 12, 14], 13), ([], 15), ([16, 17, 18], 19)] [20, 21] (by kernel_rfl) (by kernel_rfl) (by kernel_rfl) (fun _ _ _ _ _ h => h) ⟨⟨_, (brefl w9).drew⟩, rfl⟩ ?_
  refine wpPlan_cons ?_
  simp only [pickOps, List.getElem?_cons_succ, List.getElem?_cons_zero, Option.elim_some]
  repeat (go_big_quiet_step (fail))
  refine wpQuiet_nil ?_
  refine planAct_some (fun K hK => ?_)
  go_simp
  refine hK.out _ _ ⟨⟨_, (brefl w9).drew⟩, rfl⟩ ?_
  clear hK K
  refine wpPlan_cons ?_
  simp only [pickOps, List.getElem?_cons_succ, List.getElem?_cons_zero, Option.elim_some]
  repeat (go_big_quiet_step (fail))
  refine wpQuiet_nil ?_
  refine planAct_some (fun K hK => ?_)
  go_simp
  refine hK.out _ _ ⟨⟨_, (brefl w9).drew⟩, rfl⟩ ?_
  clear hK K
  refine wpPlan_cons ?_
  simp only [pickOps, List.getElem?_cons_succ, List.getElem?_cons_zero, Option.elim_some]
  repeat (go_big_quiet_step (fail))
  refine wpQuiet_nil ?_
  refine planAct_some (fun K hK => ?_)
  go_simp
  refine hK.out _ _ ⟨⟨_, (brefl w9).drew⟩, rfl⟩ ?_
  clear hK K
  refine wpPlan_cons ?_
  simp only [pickOps, List.getElem?_cons_succ, List.getElem?_cons_zero, Option.elim_some]
  repeat (go_big_quiet_step (fail))
  refine wpQuiet_nil ?_
  refine planAct_some (fun K hK => ?_)
  go_simp
  refine (hmx _).mono ?_
  rintro e wg ⟨rfl, hbg⟩
  go_wp2_with fail
  refine hK.out _ _ ⟨⟨_, (bnext (brefl w9).drew hbg)⟩, rfl⟩ ?_
  clear hK K
  refine wpPlan_cons ?_
  simp only [pickOps, List.getElem?_cons_succ, List.getElem?_cons_zero, Option.elim_some]
  repeat (go_big_quiet_step (fail))
  refine wpQuiet_nil ?_
  refine planAct_some (fun K hK => ?_)
  go_simp
  refine (hmc _).mono ?_
  rintro e wh ⟨rfl, hbh⟩
  go_wp2_with fail
  refine hK.out _ _ ⟨⟨_, (bnext (bnext (brefl w9).drew hbg) hbh)⟩, rfl⟩ ?_
  clear hK K
  refine wpPlan_cons ?_
  simp only [pickOps, List.getElem?_cons_succ, List.getElem?_cons_zero, Option.elim_some]
  repeat (go_big_quiet_step (fail))
  refine wpQuiet_nil ?_
  refine planAct_some (fun K hK => ?_)
  go_simp
  refine (lives04 _).mono ?_
  rintro e wi ⟨rfl, hbi⟩
  go_wp2_with fail
  refine hK.out _ _ ⟨⟨_, (bnext (bnext (bnext (brefl w9).drew hbg) hbh) hbi)⟩, rfl⟩ ?_
  clear hK K
  refine wpPlan_last ?_
  simp only [pickOps, List.getElem?_cons_succ, List.getElem?_cons_zero, Option.elim_some]
  repeat (go_big_quiet_step (fail))
  refine wpQuiet_nil ?_
  refine NoPanic.normal ?_
  clear hX hzz0 hzz1
  go_wp2
  go_ret
  exact ⟨rfl, bnext kb9 (bnext (bnext (bnext (brefl w9).drew hbg) hbh) hbi)⟩

set_option maxHeartbeats 4000000 in
set_option maxRecDepth 100000 in
theorem bares_tp (c : Cf) (l : Int) (L : List Int) (m : Bool) (hT : wrap64 (c.lv - 1) ≤ l) (hl : decide (l < 0) = false) (hL : L.length ≤ 8)
    (hb : ∀ w : World, Calls Try.prog 31 #[.agg #[.int .i64 c.lv, .int .i64 c.th, .int .i64 c.o0, .int .i64 c.o1, .int .i64 c.o2, .int .i64 c.o3, .int .i64 c.o4, .int .i64 c.o5, .int .i64 c.o6, .int .i64 c.o7, .int .i64 c.sl, .int .i64 c.li, .int .i64 c.ge, .int .i64 c.qu], .int .i64 l] w fun e w' => e = .returned (.agg #[.int .i64 c.lv, .int .i64 c.th, .int .i64 c.o0, .int .i64 c.o1, .int .i64 c.o2, .int .i64 c.o3, .int .i64 c.o4, .int .i64 c.o5, .int .i64 c.o6, .int .i64 c.o7, .int .i64 c.sl, .int .i64 c.li, .int .i64 c.ge, .int .i64 c.qu]) ∧ Below w.heap.size w w')
    (hrb : ∀ w : World, Calls Try.prog 32 #[.agg #[.int .i64 c.lv, .int .i64 c.th, .int .i64 c.o0, .int .i64 c.o1, .int .i64 c.o2, .int .i64 c.o3, .int .i64 c.o4, .int .i64 c.o5, .int .i64 c.o6, .int .i64 c.o7, .int .i64 c.sl, .int .i64 c.li, .int .i64 c.ge, .int .i64 c.qu], .int .i64 l] w fun e w' => e = .returned (.agg #[.int .i64 c.lv, .int .i64 c.th, .int .i64 c.o0, .int .i64 c.o1, .int .i64 c.o2, .int .i64 c.o3, .int .i64 c.o4, .int .i64 c.o5, .int .i64 c.o6, .int .i64 c.o7, .int .i64 c.sl, .int .i64 c.li, .int .i64 c.ge, .int .i64 c.qu]) ∧ Below w.heap.size w w')
    (hbx : ∀ w : World, Calls Try.prog 31 #[.agg #[.int .i64 c.lv, .int .i64 c.th, .int .i64 c.o0, .int .i64 c.o1, .int .i64 c.o2, .int .i64 c.o3, .int .i64 c.o4, .int .i64 c.o5, .int .i64 c.o6, .int .i64 c.o7, .int .i64 c.sl, .int .i64 c.li, .int .i64 c.ge, .int .i64 c.qu], .int .i64 l] w fun e w' => e = .returned (.agg #[.int .i64 c.lv, .int .i64 c.th, .int .i64 c.o0, .int .i64 c.o1, .int .i64 c.o2, .int .i64 c.o3, .int .i64 c.o4, .int .i64 c.o5, .int .i64 c.o6, .int .i64 c.o7, .int .i64 c.sl, .int .i64 c.li, .int .i64 c.ge, .int .i64 c.qu]) ∧ Below w.heap.size w w')
    (hux : ∀ w : World, Calls Try.prog 28 #[.agg #[.int .i64 c.lv, .int .i64 c.th, .int .i64 c.o0, .int .i64 c.o1, .int .i64 c.o2, .int .i64 c.o3, .int .i64 c.o4, .int .i64 c.o5, .int .i64 c.o6, .int .i64 c.o7, .int .i64 c.sl, .int .i64 c.li, .int .i64 c.ge, .int .i64 c.qu], .int .i64 l] w fun e w' => ∃ A' c', e = .returned (.slice A' (L).length c') ∧ w'.ownsRow w.heap.size 3 1 (.slice A' (L).length c') (L).length ((L).flatMap ic) ∧ Below w.heap.size w w')
    (huc : ∀ w : World, Calls Try.prog 28 #[.agg #[.int .i64 c.lv, .int .i64 c.th, .int .i64 c.o0, .int .i64 c.o1, .int .i64 c.o2, .int .i64 c.o3, .int .i64 c.o4, .int .i64 c.o5, .int .i64 c.o6, .int .i64 c.o7, .int .i64 c.sl, .int .i64 c.li, .int .i64 c.ge, .int .i64 c.qu], .int .i64 l] w fun e w' => ∃ A' c', e = .returned (.slice A' (L).length c') ∧ w'.ownsRow w.heap.size 3 1 (.slice A' (L).length c') (L).length ((L).flatMap ic) ∧ Below w.heap.size w w')
    (hmx : ∀ w : World, Calls Try.prog 20 #[.agg #[.int .i64 c.lv, .int .i64 c.th, .int .i64 c.o0, .int .i64 c.o1, .int .i64 c.o2, .int .i64 c.o3, .int .i64 c.o4, .int .i64 c.o5, .int .i64 c.o6, .int .i64 c.o7, .int .i64 c.sl, .int .i64 c.li, .int .i64 c.ge, .int .i64 c.qu]] w fun e w' => e = .returned (.bool m) ∧ Below w.heap.size w w')
    (hmc : ∀ w : World, Calls Try.prog 20 #[.agg #[.int .i64 c.lv, .int .i64 c.th, .int .i64 c.o0, .int .i64 c.o1, .int .i64 c.o2, .int .i64 c.o3, .int .i64 c.o4, .int .i64 c.o5, .int .i64 c.o6, .int .i64 c.o7, .int .i64 c.sl, .int .i64 c.li, .int .i64 c.ge, .int .i64 c.qu]] w fun e w' => e = .returned (.bool m) ∧ Below w.heap.size w w') (w : World) :
    Calls Try.prog 8 #[.agg #[.int .i64 c.lv, .int .i64 c.th, .int .i64 c.o0, .int .i64 c.o1, .int .i64 c.o2, .int .i64 c.o3, .int .i64 c.o4, .int .i64 c.o5, .int .i64 c.o6, .int .i64 c.o7, .int .i64 c.sl, .int .i64 c.li, .int .i64 c.ge, .int .i64 c.qu], .int .i64 l] w fun e w' => e = .returned (.bool true) ∧ Below w.heap.size w w' := by
  have hne := neq_c c
  go_enter Try.func8, Try.ntmps8
  go_wp2_with fail
  obtain ⟨W0, hW0, k0, k1, k2, k3, k4, k5, k6, k7, k8, k9, k10, k11, k12, k13, kof, kb⟩ : ∃ W0, w.alloc (.cells #[.int .i64 c.lv, .int .i64 c.th, .int .i64 c.o0, .int .i64 c.o1, .int .i64 c.o2, .int .i64 c.o3, .int .i64 c.o4, .int .i64 c.o5, .int .i64 c.o6, .int .i64 c.o7, .int .i64 c.sl, .int .i64 c.li, .int .i64 c.ge, .int .i64 c.qu] 45) = W0 ∧ W0.cell? ⟨w.heap.size, 0, none⟩ = some (.int .i64 c.lv) ∧ W0.cell? ⟨w.heap.size, 1, none⟩ = some (.int .i64 c.th) ∧ W0.cell? ⟨w.heap.size, 2, none⟩ = some (.int .i64 c.o0) ∧ W0.cell? ⟨w.heap.size, 3, none⟩ = some (.int .i64 c.o1) ∧ W0.cell? ⟨w.heap.size, 4, none⟩ = some (.int .i64 c.o2) ∧ W0.cell? ⟨w.heap.size, 5, none⟩ = some (.int .i64 c.o3) ∧ W0.cell? ⟨w.heap.size, 6, none⟩ = some (.int .i64 c.o4) ∧ W0.cell? ⟨w.heap.size, 7, none⟩ = some (.int .i64 c.o5) ∧ W0.cell? ⟨w.heap.size, 8, none⟩ = some (.int .i64 c.o6) ∧ W0.cell? ⟨w.heap.size, 9, none⟩ = some (.int .i64 c.o7) ∧ W0.cell? ⟨w.heap.size, 10, none⟩ = some (.int .i64 c.sl) ∧ W0.cell? ⟨w.heap.size, 11, none⟩ = some (.int .i64 c.li) ∧ W0.cell? ⟨w.heap.size, 12, none⟩ = some (.int .i64 c.ge) ∧ W0.cell? ⟨w.heap.size, 13, none⟩ = some (.int .i64 c.qu) ∧ (∀ k : Nat, k < 8 → W0.cell? ⟨w.heap.size, 2 + k, none⟩ = some (.int .i64 (c.of k))) ∧ Below w.heap.size w W0 :=
    ⟨_, rfl, by go_simp, by go_simp, by go_simp, by go_simp, by go_simp, by go_simp, by go_simp, by go_simp, by go_simp, by go_simp, by go_simp, by go_simp, by go_simp, by go_simp, box_of c w, bnew (brefl w) _⟩
  rw [hW0]
  clear hW0
  clear kof
  refine (hb _).mono ?_
  rintro e w1 ⟨rfl, hb1⟩
  have z0 := keep_below k0 hb1
  have z1 := keep_below k1 hb1
  have z2 := keep_below k2 hb1
  have z3 := keep_below k3 hb1
  have z4 := keep_below k4 hb1
  have z5 := keep_below k5 hb1
  have z6 := keep_below k6 hb1
  have z7 := keep_below k7 hb1
  have z8 := keep_below k8 hb1
  have z9 := keep_below k9 hb1
  have z10 := keep_below k10 hb1
  have z11 := keep_below k11 hb1
  have z12 := keep_below k12 hb1
  have z13 := keep_below k13 hb1
  have kb1 := bnext kb hb1
  clear k0 k1 k2 k3 k4 k5 k6 k7 k8 k9 k10 k11 k12 k13 kb
  have hz := block_lt_of_cell z0
  go_upto_region 2 with (fail)
  obtain ⟨W0, hW0, k0, k1, k2, k3, k4, k5, k6, k7, k8, k9, k10, k11, k12, k13, y0, y1, y2, y3, y4, y5, y6, y7, y8, y9, y10, y11, y12, y13, kb⟩ : ∃ W0, w1.alloc (.cells #[.int .i64 c.lv, .int .i64 c.th, .int .i64 c.o0, .int .i64 c.o1, .int .i64 c.o2, .int .i64 c.o3, .int .i64 c.o4, .int .i64 c.o5, .int .i64 c.o6, .int .i64 c.o7, .int .i64 c.sl, .int .i64 c.li, .int .i64 c.ge, .int .i64 c.qu] 45) = W0 ∧ W0.cell? ⟨w.heap.size, 0, none⟩ = some (.int .i64 c.lv) ∧ W0.cell? ⟨w.heap.size, 1, none⟩ = some (.int .i64 c.th) ∧ W0.cell? ⟨w.heap.size, 2, none⟩ = some (.int .i64 c.o0) ∧ W0.cell? ⟨w.heap.size, 3, none⟩ = some (.int .i64 c.o1) ∧ W0.cell? ⟨w.heap.size, 4, none⟩ = some (.int .i64 c.o2) ∧ W0.cell? ⟨w.heap.size, 5, none⟩ = some (.int .i64 c.o3) ∧ W0.cell? ⟨w.heap.size, 6, none⟩ = some (.int .i64 c.o4) ∧ W0.cell? ⟨w.heap.size, 7, none⟩ = some (.int .i64 c.o5) ∧ W0.cell? ⟨w.heap.size, 8, none⟩ = some (.int .i64 c.o6) ∧ W0.cell? ⟨w.heap.size, 9, none⟩ = some (.int .i64 c.o7) ∧ W0.cell? ⟨w.heap.size, 10, none⟩ = some (.int .i64 c.sl) ∧ W0.cell? ⟨w.heap.size, 11, none⟩ = some (.int .i64 c.li) ∧ W0.cell? ⟨w.heap.size, 12, none⟩ = some (.int .i64 c.ge) ∧ W0.cell? ⟨w.heap.size, 13, none⟩ = some (.int .i64 c.qu) ∧ W0.cell? ⟨w1.heap.size, 0, none⟩ = some (.int .i64 c.lv) ∧ W0.cell? ⟨w1.heap.size, 1, none⟩ = some (.int .i64 c.th) ∧ W0.cell? ⟨w1.heap.size, 2, none⟩ = some (.int .i64 c.o0) ∧ W0.cell? ⟨w1.heap.size, 3, none⟩ = some (.int .i64 c.o1) ∧ W0.cell? ⟨w1.heap.size, 4, none⟩ = some (.int .i64 c.o2) ∧ W0.cell? ⟨w1.heap.size, 5, none⟩ = some (.int .i64 c.o3) ∧ W0.cell? ⟨w1.heap.size, 6, none⟩ = some (.int .i64 c.o4) ∧ W0.cell? ⟨w1.heap.size, 7, none⟩ = some (.int .i64 c.o5) ∧ W0.cell? ⟨w1.heap.size, 8, none⟩ = some (.int .i64 c.o6) ∧ W0.cell? ⟨w1.heap.size, 9, none⟩ = some (.int .i64 c.o7) ∧ W0.cell? ⟨w1.heap.size, 10, none⟩ = some (.int .i64 c.sl) ∧ W0.cell? ⟨w1.heap.size, 11, none⟩ = some (.int .i64 c.li) ∧ W0.cell? ⟨w1.heap.size, 12, none⟩ = some (.int .i64 c.ge) ∧ W0.cell? ⟨w1.heap.size, 13, none⟩ = some (.int .i64 c.qu) ∧ Below w.heap.size w W0 :=
    ⟨_, rfl, keep_below z0 (bnew (brefl w1) _), keep_below z1 (bnew (brefl w1) _), keep_below z2 (bnew (brefl w1) _), keep_below z3 (bnew (brefl w1) _), keep_below z4 (bnew (brefl w1) _), keep_below z5 (bnew (brefl w1) _), keep_below z6 (bnew (brefl w1) _), keep_below z7 (bnew (brefl w1) _), keep_below z8 (bnew (brefl w1) _), keep_below z9 (bnew (brefl w1) _), keep_below z10 (bnew (brefl w1) _), keep_below z11 (bnew (brefl w1) _), keep_below z12 (bnew (brefl w1) _), keep_below z13 (bnew (brefl w1) _), by go_simp, by go_simp, by go_simp, by go_simp, by go_simp, by go_simp, by go_simp, by go_simp, by go_simp, by go_simp, by go_simp, by go_simp, by go_simp, by go_simp, bnew kb1 _⟩
  rw [hW0]
  clear hW0
  generalize w1.heap.size = B5 at *
  clear kb1 hb1 z0 z1 z2 z3 z4 z5 z6 z7 z8 z9 z10 z11 z12 z13
  have hX := @Ext.cell W0
  have hzz0 := block_lt_of_cell k0
  have hzz1 := block_lt_of_cell y0
  refine wp_region_noPanic ?_
  refine wp_region_plan (fun w' => ∃ x : Ext W0, w' = x.w) [([0, 1, 2], 3), ([4, 5, 6, 7, 9], 8)] [10, 11] (by kernel_rfl) (by kernel_rfl) (by kernel_rfl) (fun _ _ _ _ _ h => h) ⟨⟨_, (brefl W0).drew⟩, rfl⟩ ?_
  refine wpPlan_cons ?_
  simp only [pickOps, List.getElem?_cons_succ, List.getElem?_cons_zero, Option.elim_some]
  repeat (go_big_quiet_step (fail))
  refine wpQuiet_nil ?_
  refine planAct_some (fun K hK => ?_)
  go_simp
  refine (hrb _).mono ?_
  rintro e wa ⟨rfl, hba⟩
  go_wp2_with fail
  refine hK.out _ _ ⟨⟨_, (bnext (brefl W0).drew hba)⟩, rfl⟩ ?_
  clear hK K
  refine wpPlan_cons ?_
  simp only [pickOps, List.getElem?_cons_succ, List.getElem?_cons_zero, Option.elim_some]
  repeat (go_big_quiet_step (fail))
  refine wpQuiet_nil ?_
  refine planAct_some (fun K hK => ?_)
  go_simp
  refine (hbx _).mono ?_
  rintro e wb ⟨rfl, hbb⟩
  go_wp2_with fail
  refine hK.out _ _ ⟨⟨_, (bnext (bnext (brefl W0).drew hba) hbb)⟩, rfl⟩ ?_
  clear hK K
  refine wpPlan_last ?_
  simp only [pickOps, List.getElem?_cons_succ, List.getElem?_cons_zero, Option.elim_some]
  repeat (go_big_quiet_step (fail))
  refine wpQuiet_nil ?_
  refine NoPanic.normal ?_
  clear hX hzz0 hzz1
  have hfin := (bnext (bnext (brefl W0).drew hba) hbb)
  have q0 := keep_below k0 hfin
  have q1 := keep_below k1 hfin
  have q2 := keep_below k2 hfin
  have q3 := keep_below k3 hfin
  have q4 := keep_below k4 hfin
  have q5 := keep_below k5 hfin
  have q6 := keep_below k6 hfin
  have q7 := keep_below k7 hfin
  have q8 := keep_below k8 hfin
  have q9 := keep_below k9 hfin
  have q10 := keep_below k10 hfin
  have q11 := keep_below k11 hfin
  have q12 := keep_below k12 hfin
  have q13 := keep_below k13 hfin
  have p0 := keep_below y0 hfin
  have p1 := keep_below y1 hfin
  have p2 := keep_below y2 hfin
  have p3 := keep_below y3 hfin
  have p4 := keep_below y4 hfin
  have p5 := keep_below y5 hfin
  have p6 := keep_below y6 hfin
  have p7 := keep_below y7 hfin
  have p8 := keep_below y8 hfin
  have p9 := keep_below y9 hfin
  have p10 := keep_below y10 hfin
  have p11 := keep_below y11 hfin
  have p12 := keep_below y12 hfin
  have p13 := keep_below y13 hfin
  have kb9 := bnext kb hfin
  clear k0 k1 k2 k3 k4 k5 k6 k7 k8 k9 k10 k11 k12 k13 y0 y1 y2 y3 y4 y5 y6 y7 y8 y9 y10 y11 y12 y13 kb hfin hba hbb hz
  generalize wb = w9 at *
  have hz9 := block_lt_of_cell q0
  have hz8 := block_lt_of_cell p0
  go_upto_region 6 with (fail)
  have hX := @Ext.cell w9
  have hzz0 := block_lt_of_cell q0
  have hzz1 := block_lt_of_cell p0
  refine wp_region_noPanic ?_
  refine wp_region_plan (fun w' => ∃ x : Ext w9, w' = x.w) [([0, 1, 2, 3, 4, 6, 7], 5), ([], 8), ([], 9), ([10, 11, 12, 14], 13), ([], 15), ([16, 17, 18], 19)] [20, 21] (by kernel_rfl) (by kernel_rfl) (by kernel_rfl) (fun _ _ _ _ _ h => h) ⟨⟨_, (brefl w9).drew⟩, rfl⟩ ?_
  refine wpPlan_cons ?_
  simp only [pickOps, List.getElem?_cons_succ, List.getElem?_cons_zero, Option.elim_some]
  repeat (go_big_quiet_step (fail))
  refine wpQuiet_nil ?_
  refine planAct_some (fun K hK => ?_)
  go_simp
  refine (hux _).mono ?_
  rintro e wd ⟨A1, c1, rfl, own1, hbd⟩
  go_wp2_with fail
  refine hK.out _ _ ⟨⟨_, (bnext (brefl w9).drew hbd)⟩, rfl⟩ ?_
  clear hK K
  refine wpPlan_cons ?_
  simp only [pickOps, List.getElem?_cons_succ, List.getElem?_cons_zero, Option.elim_some]
  repeat (go_big_quiet_step (fail))
  refine wpQuiet_nil ?_
  refine planAct_some (fun K hK => ?_)
  go_simp
  refine (huc _).mono ?_
  rintro e we ⟨A2, c2, rfl, own2, hbe⟩
  go_wp2_with fail
  refine hK.out _ _ ⟨⟨_, (bnext (bnext (brefl w9).drew hbd) hbe)⟩, rfl⟩ ?_
  clear hK K
  refine wpPlan_cons ?_
  simp only [pickOps, List.getElem?_cons_succ, List.getElem?_cons_zero, Option.elim_some]
  repeat (go_big_quiet_step (fail))
  refine wpQuiet_nil ?_
  refine planAct_some (fun K hK => ?_)
  go_simp
  refine (ints_any ((Sl.of_own ic_len (by decide) own1).below hbe) (Sl.of_own ic_len (by decide) own2) (by omega)).mono ?_
  rintro e wf ⟨rfl, d, rfl⟩
  go_wp2_with fail
  refine hK.out _ _ ⟨⟨_, (below_drewN (bnext (bnext (brefl w9).drew hbd) hbe) d)⟩, rfl⟩ ?_
  clear hK K
  refine wpPlan_cons ?_
  simp only [pickOps, List.getElem?_cons_succ, List.getElem?_cons_zero, Option.elim_some]
  repeat (go_big_quiet_step (fail))
  refine wpQuiet_nil ?_
  refine planAct_some (fun K hK => ?_)
  go_simp
  refine (hmx _).mono ?_
  rintro e wg ⟨rfl, hbg⟩
  go_wp2_with fail
  refine hK.out _ _ ⟨⟨_, (bnext (below_drewN (bnext (bnext (brefl w9).drew hbd) hbe) d) hbg)⟩, rfl⟩ ?_
  clear hK K
  refine wpPlan_cons ?_
  simp only [pickOps, List.getElem?_cons_succ, List.getElem?_cons_zero, Option.elim_some]
  repeat (go_big_quiet_step (fail))
  refine wpQuiet_nil ?_
  refine planAct_some (fun K hK => ?_)
  go_simp
  refine (hmc _).mono ?_
  rintro e wh ⟨rfl, hbh⟩
  go_wp2_with fail
  refine hK.out _ _ ⟨⟨_, (bnext (bnext (below_drewN (bnext (bnext (brefl w9).drew hbd) hbe) d) hbg) hbh)⟩, rfl⟩ ?_
  clear hK K
  refine wpPlan_cons ?_
  simp only [pickOps, List.getElem?_cons_succ, List.getElem?_cons_zero, Option.elim_some]
  repeat (go_big_quiet_step (fail))
  refine wpQuiet_nil ?_
  refine planAct_some (fun K hK => ?_)
  go_simp
  refine (lives04 _).mono ?_
  rintro e wi ⟨rfl, hbi⟩
  go_wp2_with fail
  refine hK.out _ _ ⟨⟨_, (bnext (bnext (bnext (below_drewN (bnext (bnext (brefl w9).drew hbd) hbe) d) hbg) hbh) hbi)⟩, rfl⟩ ?_
  clear hK K
  refine wpPlan_last ?_
  simp only [pickOps, List.getElem?_cons_succ, List.getElem?_cons_zero, Option.elim_some]
  repeat (go_big_quiet_step (fail))
  refine wpQuiet_nil ?_
  refine NoPanic.normal ?_
  clear hX hzz0 hzz1
  go_wp2
  go_ret
  exact ⟨rfl, bnext kb9 (bnext (bnext (bnext (below_drewN (bnext (bnext (brefl w9).drew hbd) hbe) d) hbg) hbh) hbi)⟩

set_option maxHeartbeats 4000000 in
set_option maxRecDepth 100000 in
theorem bares_fn (c x : Cf) (l : Int) (L : List Int) (m : Bool) (hT : decide (wrap64 (c.lv - 1) ≤ l) = false) (hl : l < 0) (hL : L.length ≤ 8)
    (hb : ∀ w : World, Calls Try.prog 31 #[.agg #[.int .i64 c.lv, .int .i64 c.th, .int .i64 c.o0, .int .i64 c.o1, .int .i64 c.o2, .int .i64 c.o3, .int .i64 c.o4, .int .i64 c.o5, .int .i64 c.o6, .int .i64 c.o7, .int .i64 c.sl, .int .i64 c.li, .int .i64 c.ge, .int .i64 c.qu], .int .i64 l] w fun e w' => e = .returned (.agg #[.int .i64 x.lv, .int .i64 x.th, .int .i64 x.o0, .int .i64 x.o1, .int .i64 x.o2, .int .i64 x.o3, .int .i64 x.o4, .int .i64 x.o5, .int .i64 x.o6, .int .i64 x.o7, .int .i64 x.sl, .int .i64 x.li, .int .i64 x.ge, .int .i64 x.qu]) ∧ Below w.heap.size w w')
    (hrb : ∀ w : World, Calls Try.prog 32 #[.agg #[.int .i64 c.lv, .int .i64 c.th, .int .i64 c.o0, .int .i64 c.o1, .int .i64 c.o2, .int .i64 c.o3, .int .i64 c.o4, .int .i64 c.o5, .int .i64 c.o6, .int .i64 c.o7, .int .i64 c.sl, .int .i64 c.li, .int .i64 c.ge, .int .i64 c.qu], .int .i64 l] w fun e w' => e = .returned (.agg #[.int .i64 x.lv, .int .i64 x.th, .int .i64 x.o0, .int .i64 x.o1, .int .i64 x.o2, .int .i64 x.o3, .int .i64 x.o4, .int .i64 x.o5, .int .i64 x.o6, .int .i64 x.o7, .int .i64 x.sl, .int .i64 x.li, .int .i64 x.ge, .int .i64 x.qu]) ∧ Below w.heap.size w w')
    (hbx : ∀ w : World, Calls Try.prog 31 #[.agg #[.int .i64 x.lv, .int .i64 x.th, .int .i64 x.o0, .int .i64 x.o1, .int .i64 x.o2, .int .i64 x.o3, .int .i64 x.o4, .int .i64 x.o5, .int .i64 x.o6, .int .i64 x.o7, .int .i64 x.sl, .int .i64 x.li, .int .i64 x.ge, .int .i64 x.qu], .int .i64 l] w fun e w' => e = .returned (.agg #[.int .i64 x.lv, .int .i64 x.th, .int .i64 x.o0, .int .i64 x.o1, .int .i64 x.o2, .int .i64 x.o3, .int .i64 x.o4, .int .i64 x.o5, .int .i64 x.o6, .int .i64 x.o7, .int .i64 x.sl, .int .i64 x.li, .int .i64 x.ge, .int .i64 x.qu]) ∧ Below w.heap.size w w')
    (hux : ∀ w : World, Calls Try.prog 28 #[.agg #[.int .i64 x.lv, .int .i64 x.th, .int .i64 x.o0, .int .i64 x.o1, .int .i64 x.o2, .int .i64 x.o3, .int .i64 x.o4, .int .i64 x.o5, .int .i64 x.o6, .int .i64 x.o7, .int .i64 x.sl, .int .i64 x.li, .int .i64 x.ge, .int .i64 x.qu], .int .i64 l] w fun e w' => ∃ A' c', e = .returned (.slice A' (L).length c') ∧ w'.ownsRow w.heap.size 3 1 (.slice A' (L).length c') (L).length ((L).flatMap ic) ∧ Below w.heap.size w w')
    (huc : ∀ w : World, Calls Try.prog 28 #[.agg #[.int .i64 c.lv, .int .i64 c.th, .int .i64 c.o0, .int .i64 c.o1, .int .i64 c.o2, .int .i64 c.o3, .int .i64 c.o4, .int .i64 c.o5, .int .i64 c.o6, .int .i64 c.o7, .int .i64 c.sl, .int .i64 c.li, .int .i64 c.ge, .int .i64 c.qu], .int .i64 l] w fun e w' => ∃ A' c', e = .returned (.slice A' (L).length c') ∧ w'.ownsRow w.heap.size 3 1 (.slice A' (L).length c') (L).length ((L).flatMap ic) ∧ Below w.heap.size w w')
    (hmx : ∀ w : World, Calls Try.prog 20 #[.agg #[.int .i64 x.lv, .int .i64 x.th, .int .i64 x.o0, .int .i64 x.o1, .int .i64 x.o2, .int .i64 x.o3, .int .i64 x.o4, .int .i64 x.o5, .int .i64 x.o6, .int .i64 x.o7, .int .i64 x.sl, .int .i64 x.li, .int .i64 x.ge, .int .i64 x.qu]] w fun e w' => e = .returned (.bool m) ∧ Below w.heap.size w w')
    (hmc : ∀ w : World, Calls Try.prog 20 #[.agg #[.int .i64 c.lv, .int .i64 c.th, .int .i64 c.o0, .int .i64 c.o1, .int .i64 c.o2, .int .i64 c.o3, .int .i64 c.o4, .int .i64 c.o5, .int .i64 c.o6, .int .i64 c.o7, .int .i64 c.sl, .int .i64 c.li, .int .i64 c.ge, .int .i64 c.qu]] w fun e w' => e = .returned (.bool m) ∧ Below w.heap.size w w') (w : World) :
    Calls Try.prog 8 #[.agg #[.int .i64 c.lv, .int .i64 c.th, .int .i64 c.o0, .int .i64 c.o1, .int .i64 c.o2, .int .i64 c.o3, .int .i64 c.o4, .int .i64 c.o5, .int .i64 c.o6, .int .i64 c.o7, .int .i64 c.sl, .int .i64 c.li, .int .i64 c.ge, .int .i64 c.qu], .int .i64 l] w fun e w' => e = .returned (.bool true) ∧ Below w.heap.size w w' := by
  have hne := neq_c x
  go_enter Try.func8, Try.ntmps8
  go_wp2_with fail
  obtain ⟨W0, hW0, k0, k1, k2, k3, k4, k5, k6, k7, k8, k9, k10, k11, k12, k13, kof, kb⟩ : ∃ W0, w.alloc (.cells #[.int .i64 c.lv, .int .i64 c.th, .int .i64 c.o0, .int .i64 c.o1, .int .i64 c.o2, .int .i64 c.o3, .int .i64 c.o4, .int .i64 c.o5, .int .i64 c.o6, .int .i64 c.o7, .int .i64 c.sl, .int .i64 c.li, .int .i64 c.ge, .int .i64 c.qu] 45) = W0 ∧ W0.cell? ⟨w.heap.size, 0, none⟩ = some (.int .i64 c.lv) ∧ W0.cell? ⟨w.heap.size, 1, none⟩ = some (.int .i64 c.th) ∧ W0.cell? ⟨w.heap.size, 2, none⟩ = some (.int .i64 c.o0) ∧ W0.cell? ⟨w.heap.size, 3, none⟩ = some (.int .i64 c.o1) ∧ W0.cell? ⟨w.heap.size, 4, none⟩ = some (.int .i64 c.o2) ∧ W0.cell? ⟨w.heap.size, 5, none⟩ = some (.int .i64 c.o3) ∧ W0.cell? ⟨w.heap.size, 6, none⟩ = some (.int .i64 c.o4) ∧ W0.cell? ⟨w.heap.size, 7, none⟩ = some (.int .i64 c.o5) ∧ W0.cell? ⟨w.heap.size, 8, none⟩ = some (.int .i64 c.o6) ∧ W0.cell? ⟨w.heap.size, 9, none⟩ = some (.int .i64 c.o7) ∧ W0.cell? ⟨w.heap.size, 10, none⟩ = some (.int .i64 c.sl) ∧ W0.cell? ⟨w.heap.size, 11, none⟩ = some (.int .i64 c.li) ∧ W0.cell? ⟨w.heap.size, 12, none⟩ = some (.int .i64 c.ge) ∧ W0.cell? ⟨w.heap.size, 13, none⟩ = some (.int .i64 c.qu) ∧ (∀ k : Nat, k < 8 → W0.cell? ⟨w.heap.size, 2 + k, none⟩ = some (.int .i64 (c.of k))) ∧ Below w.heap.size w W0 :=
    ⟨_, rfl, by go_simp, by go_simp, by go_simp, by go_simp, by go_simp, by go_simp, by go_simp, by go_simp, by go_simp, by go_simp, by go_simp, by go_simp, by go_simp, by go_simp, box_of c w, bnew (brefl w) _⟩
  rw [hW0]
  clear hW0
  clear kof
  refine (hb _).mono ?_
  rintro e w1 ⟨rfl, hb1⟩
  have z0 := keep_below k0 hb1
  have z1 := keep_below k1 hb1
  have z2 := keep_below k2 hb1
  have z3 := keep_below k3 hb1
  have z4 := keep_below k4 hb1
  have z5 := keep_below k5 hb1
  have z6 := keep_below k6 hb1
  have z7 := keep_below k7 hb1
  have z8 := keep_below k8 hb1
  have z9 := keep_below k9 hb1
  have z10 := keep_below k10 hb1
  have z11 := keep_below k11 hb1
  have z12 := keep_below k12 hb1
  have z13 := keep_below k13 hb1
  have kb1 := bnext kb hb1
  clear k0 k1 k2 k3 k4 k5 k6 k7 k8 k9 k10 k11 k12 k13 kb
  have hz := block_lt_of_cell z0
  go_upto_region 2 with (fail)
  obtain ⟨W0, hW0, k0, k1, k2, k3, k4, k5, k6, k7, k8, k9, k10, k11, k12, k13, y0, y1, y2, y3, y4, y5, y6, y7, y8, y9, y10, y11, y12, y13, kb⟩ : ∃ W0, w1.alloc (.cells #[.int .i64 x.lv, .int .i64 x.th, .int .i64 x.o0, .int .i64 x.o1, .int .i64 x.o2, .int .i64 x.o3, .int .i64 x.o4, .int .i64 x.o5, .int .i64 x.o6, .int .i64 x.o7, .int .i64 x.sl, .int .i64 x.li, .int .i64 x.ge, .int .i64 x.qu] 45) = W0 ∧ W0.cell? ⟨w.heap.size, 0, none⟩ = some (.int .i64 c.lv) ∧ W0.cell? ⟨w.heap.size, 1, none⟩ = some (.int .i64 c.th) ∧ W0.cell? ⟨w.heap.size, 2, none⟩ = some (.int .i64 c.o0) ∧ W0.cell? ⟨w.heap.size, 3, none⟩ = some (.int .i64 c.o1) ∧ W0.cell? ⟨w.heap.size, 4, none⟩ = some (.int .i64 c.o2) ∧ W0.cell? ⟨w.heap.size, 5, none⟩ = some (.int .i64 c.o3) ∧ W0.cell? ⟨w.heap.size, 6, none⟩ = some (.int .i64 c.o4) ∧ W0.cell? ⟨w.heap.size, 7, none⟩ = some (.int .i64 c.o5) ∧ W0.cell? ⟨w.heap.size, 8, none⟩ = some (.int .i64 c.o6) ∧ W0.cell? ⟨w.heap.size, 9, none⟩ = some (.int .i64 c.o7) ∧ W0.cell? ⟨w.heap.size, 10, none⟩ = some (.int .i64 c.sl) ∧ W0.cell? ⟨w.heap.size, 11, none⟩ = some (.int .i64 c.li) ∧ W0.cell? ⟨w.heap.size, 12, none⟩ = some (.int .i64 c.ge) ∧ W0.cell? ⟨w.heap.size, 13, none⟩ = some (.int .i64 c.qu) ∧ W0.cell? ⟨w1.heap.size, 0, none⟩ = some (.int .i64 x.lv) ∧ W0.cell? ⟨w1.heap.size, 1, none⟩ = some (.int .i64 x.th) ∧ W0.cell? ⟨w1.heap.size, 2, none⟩ = some (.int .i64 x.o0) ∧ W0.cell? ⟨w1.heap.size, 3, none⟩ = some (.int .i64 x.o1) ∧ W0.cell? ⟨w1.heap.size, 4, none⟩ = some (.int .i64 x.o2) ∧ W0.cell? ⟨w1.heap.size, 5, none⟩ = some (.int .i64 x.o3) ∧ W0.cell? ⟨w1.heap.size, 6, none⟩ = some (.int .i64 x.o4) ∧ W0.cell? ⟨w1.heap.size, 7, none⟩ = some (.int .i64 x.o5) ∧ W0.cell? ⟨w1.heap.size, 8, none⟩ = some (.int .i64 x.o6) ∧ W0.cell? ⟨w1.heap.size, 9, none⟩ = some (.int .i64 x.o7) ∧ W0.cell? ⟨w1.heap.size, 10, none⟩ = some (.int .i64 x.sl) ∧ W0.cell? ⟨w1.heap.size, 11, none⟩ = some (.int .i64 x.li) ∧ W0.cell? ⟨w1.heap.size, 12, none⟩ = some (.int .i64 x.ge) ∧ W0.cell? ⟨w1.heap.size, 13, none⟩ = some (.int .i64 x.qu) ∧ Below w.heap.size w W0 :=
    ⟨_, rfl, keep_below z0 (bnew (brefl w1) _), keep_below z1 (bnew (brefl w1) _), keep_below z2 (bnew (brefl w1) _), keep_below z3 (bnew (brefl w1) _), keep_below z4 (bnew (brefl w1) _), keep_below z5 (bnew (brefl w1) _), keep_below z6 (bnew (brefl w1) _), keep_below z7 (bnew (brefl w1) _), keep_below z8 (bnew (brefl w1) _), keep_below z9 (bnew (brefl w1) _), keep_below z10 (bnew (brefl w1) _), keep_below z11 (bnew (brefl w1) _), keep_below z12 (bnew (brefl w1) _), keep_below z13 (bnew (brefl w1) _), by go_simp, by go_simp, by go_simp, by go_simp, by go_simp, by go_simp, by go_simp, by go_simp, by go_simp, by go_simp, by go_simp, by go_simp, by go_simp, by go_simp, bnew kb1 _⟩
  rw [hW0]
  clear hW0
  generalize w1.heap.size = B5 at *
  clear kb1 hb1 z0 z1 z2 z3 z4 z5 z6 z7 z8 z9 z10 z11 z12 z13
  have hX := @Ext.cell W0
  have hzz0 := block_lt_of_cell k0
  have hzz1 := block_lt_of_cell y0
  refine wp_region_noPanic ?_
  refine wp_region_plan (fun w' => ∃ x : Ext W0, w' = x.w) [([0, 1, 2], 3), ([4, 5, 6, 7, 9], 8)] [10, 11] (by kernel_rfl) (by kernel_rfl) (by kernel_rfl) (fun _ _ _ _ _ h => h) ⟨⟨_, (brefl W0).drew⟩, rfl⟩ ?_
  refine wpPlan_cons ?_
  simp only [pickOps, List.getElem?_cons_succ, List.getElem?_cons_zero, Option.elim_some]
  repeat (go_big_quiet_step (fail))
  refine wpQuiet_nil ?_
  refine planAct_some (fun K hK => ?_)
  go_simp
  refine (hrb _).mono ?_
  rintro e wa ⟨rfl, hba⟩
  go_wp2_with fail
  refine hK.out _ _ ⟨⟨_, (bnext (brefl W0).drew hba)⟩, rfl⟩ ?_
  clear hK K
  refine wpPlan_cons ?_
  simp only [pickOps, List.getElem?_cons_succ, List.getElem?_cons_zero, Option.elim_some]
  repeat (go_big_quiet_step (fail))
  refine wpQuiet_nil ?_
  refine planAct_some (fun K hK => ?_)
  go_simp
  refine (hbx _).mono ?_
  rintro e wb ⟨rfl, hbb⟩
  go_wp2_with fail
  refine hK.out _ _ ⟨⟨_, (bnext (bnext (brefl W0).drew hba) hbb)⟩, rfl⟩ ?_
  clear hK K
  refine wpPlan_last ?_
  simp only [pickOps, List.getElem?_cons_succ, List.getElem?_cons_zero, Option.elim_some]
  repeat (go_big_quiet_step (fail))
  refine wpQuiet_nil ?_
  refine NoPanic.normal ?_
  clear hX hzz0 hzz1
  have hfin := (bnext (bnext (brefl W0).drew hba) hbb)
  have q0 := keep_below k0 hfin
  have q1 := keep_below k1 hfin
  have q2 := keep_below k2 hfin
  have q3 := keep_below k3 hfin
  have q4 := keep_below k4 hfin
  have q5 := keep_below k5 hfin
  have q6 := keep_below k6 hfin
  have q7 := keep_below k7 hfin
  have q8 := keep_below k8 hfin
  have q9 := keep_below k9 hfin
  have q10 := keep_below k10 hfin
  have q11 := keep_below k11 hfin
  have q12 := keep_below k12 hfin
  have q13 := keep_below k13 hfin
  have p0 := keep_below y0 hfin
  have p1 := keep_below y1 hfin
  have p2 := keep_below y2 hfin
  have p3 := keep_below y3 hfin
  have p4 := keep_below y4 hfin
  have p5 := keep_below y5 hfin
  have p6 := keep_below y6 hfin
  have p7 := keep_below y7 hfin
  have p8 := keep_below y8 hfin
  have p9 := keep_below y9 hfin
  have p10 := keep_below y10 hfin
  have p11 := keep_below y11 hfin
  have p12 := keep_below y12 hfin
  have p13 := keep_below y13 hfin
  have kb9 := bnext kb hfin
  clear k0 k1 k2 k3 k4 k5 k6 k7 k8 k9 k10 k11 k12 k13 y0 y1 y2 y3 y4 y5 y6 y7 y8 y9 y10 y11 y12 y13 kb hfin hba hbb hz
  generalize wb = w9 at *
  have hz9 := block_lt_of_cell q0
  have hz8 := block_lt_of_cell p0
  go_upto_region 6 with (fail)
  have hX := @Ext.cell w9
  have hzz0 := block_lt_of_cell q0
  have hzz1 := block_lt_of_cell p0
  refine wp_region_noPanic ?_
  refine wp_region_plan (fun w' => ∃ x : Ext w9, w' = x.w) [([0, 1, 2, 3, 4, 6, 7], 5), ([], 8), ([], 9), ([10, 11, 12, 14], 13), ([], 15), ([16, 17, 18], 19)] [20, 21] (by kernel_rfl) (by kernel_rfl) (by kernel_rfl) (fun _ _ _ _ _ h => h) ⟨⟨_, (brefl w9).drew⟩, rfl⟩ ?_
  refine wpPlan_cons ?_
  simp only [pickOps, List.getElem?_cons_succ, List.getElem?_cons_zero, Option.elim_some]
  repeat (go_big_quiet_step (fail))
  refine wpQuiet_nil ?_
  refine planAct_some (fun K hK => ?_)
  go_simp
  refine hK.out _ _ ⟨⟨_, (brefl w9).drew⟩, rfl⟩ ?_
  clear hK K
  refine wpPlan_cons ?_
  simp only [pickOps, List.getElem?_cons_succ, List.getElem?_cons_zero, Option.elim_some]
  repeat (go_big_quiet_step (fail))
  refine wpQuiet_nil ?_
  refine planAct_some (fun K hK => ?_)
  go_simp
  refine hK.out _ _ ⟨⟨_, (brefl w9).drew⟩, rfl⟩ ?_
  clear hK K
  refine wpPlan_cons ?_
  simp only [pickOps, List.getElem?_cons_succ, List.getElem?_cons_zero, Option.elim_some]
  repeat (go_big_quiet_step (fail))
  refine wpQuiet_nil ?_
  refine planAct_some (fun K hK => ?_)
  go_simp
  refine hK.out _ _ ⟨⟨_, (brefl w9).drew⟩, rfl⟩ ?_
  clear hK K
  refine wpPlan_cons ?_
  simp only [pickOps, List.getElem?_cons_succ, List.getElem?_cons_zero, Option.elim_some]
  repeat (go_big_quiet_step (fail))
  refine wpQuiet_nil ?_
  refine planAct_some (fun K hK => ?_)
  go_simp
  refine (hmx _).mono ?_
  rintro e wg ⟨rfl, hbg⟩
  go_wp2_with fail
  refine hK.out _ _ ⟨⟨_, (bnext (brefl w9).drew hbg)⟩, rfl⟩ ?_
  clear hK K
  refine wpPlan_cons ?_
  simp only [pickOps, List.getElem?_cons_succ, List.getElem?_cons_zero, Option.elim_some]
  repeat (go_big_quiet_step (fail))
  refine wpQuiet_nil ?_
  refine planAct_some (fun K hK => ?_)
  go_simp
  refine (hmc _).mono ?_
  rintro e wh ⟨rfl, hbh⟩
  go_wp2_with fail
  refine hK.out _ _ ⟨⟨_, (bnext (bnext (brefl w9).drew hbg) hbh)⟩, rfl⟩ ?_
  clear hK K
  refine wpPlan_cons ?_
  simp only [pickOps, List.getElem?_cons_succ, List.getElem?_cons_zero, Option.elim_some]
  repeat (go_big_quiet_step (fail))
  refine wpQuiet_nil ?_
  refine planAct_some (fun K hK => ?_)
  go_simp
  refine (lives04 _).mono ?_
  rintro e wi ⟨rfl, hbi⟩
  go_wp2_with fail
  refine hK.out _ _ ⟨⟨_, (bnext (bnext (bnext (brefl w9).drew hbg) hbh) hbi)⟩, rfl⟩ ?_
  clear hK K
  refine wpPlan_last ?_
  simp only [pickOps, List.getElem?_cons_succ, List.getElem?_cons_zero, Option.elim_some]
  repeat (go_big_quiet_step (fail))
  refine wpQuiet_nil ?_
  refine NoPanic.normal ?_
  clear hX hzz0 hzz1
  go_wp2
  go_ret
  exact ⟨rfl, bnext kb9 (bnext (bnext (bnext (brefl w9).drew hbg) hbh) hbi)⟩

set_option maxHeartbeats 4000000 in
set_option maxRecDepth 100000 in
theorem bares_fp (c x : Cf) (l : Int) (L : List Int) (m : Bool) (hT : decide (wrap64 (c.lv - 1) ≤ l) = false) (hl : decide (l < 0) = false) (hL : L.length ≤ 8)
    (hb : ∀ w : World, Calls Try.prog 31 #[.agg #[.int .i64 c.lv, .int .i64 c.th, .int .i64 c.o0, .int .i64 c.o1, .int .i64 c.o2, .int .i64 c.o3, .int .i64 c.o4, .int .i64 c.o5, .int .i64 c.o6, .int .i64 c.o7, .int .i64 c.sl, .int .i64 c.li, .int .i64 c.ge, .int .i64 c.qu], .int .i64 l] w fun e w' => e = .returned (.agg #[.int .i64 x.lv, .int .i64 x.th, .int .i64 x.o0, .int .i64 x.o1, .int .i64 x.o2, .int .i64 x.o3, .int .i64 x.o4, .int .i64 x.o5, .int .i64 x.o6, .int .i64 x.o7, .int .i64 x.sl, .int .i64 x.li, .int .i64 x.ge, .int .i64 x.qu]) ∧ Below w.heap.size w w')
    (hrb : ∀ w : World, Calls Try.prog 32 #[.agg #[.int .i64 c.lv, .int .i64 c.th, .int .i64 c.o0, .int .i64 c.o1, .int .i64 c.o2, .int .i64 c.o3, .int .i64 c.o4, .int .i64 c.o5, .int .i64 c.o6, .int .i64 c.o7, .int .i64 c.sl, .int .i64 c.li, .int .i64 c.ge, .int .i64 c.qu], .int .i64 l] w fun e w' => e = .returned (.agg #[.int .i64 x.lv, .int .i64 x.th, .int .i64 x.o0, .int .i64 x.o1, .int .i64 x.o2, .int .i64 x.o3, .int .i64 x.o4, .int .i64 x.o5, .int .i64 x.o6, .int .i64 x.o7, .int .i64 x.sl, .int .i64 x.li, .int .i64 x.ge, .int .i64 x.qu]) ∧ Below w.heap.size w w')
    (hbx : ∀ w : World, Calls Try.prog 31 #[.agg #[.int .i64 x.lv, .int .i64 x.th, .int .i64 x.o0, .int .i64 x.o1, .int .i64 x.o2, .int .i64 x.o3, .int .i64 x.o4, .int .i64 x.o5, .int .i64 x.o6, .int .i64 x.o7, .int .i64 x.sl, .int .i64 x.li, .int .i64 x.ge, .int .i64 x.qu], .int .i64 l] w fun e w' => e = .returned (.agg #[.int .i64 x.lv, .int .i64 x.th, .int .i64 x.o0, .int .i64 x.o1, .int .i64 x.o2, .int .i64 x.o3, .int .i64 x.o4, .int .i64 x.o5, .int .i64 x.o6, .int .i64 x.o7, .int .i64 x.sl, .int .i64 x.li, .int .i64 x.ge, .int .i64 x.qu]) ∧ Below w.heap.size w w')
    (hux : ∀ w : World, Calls Try.prog 28 #[.agg #[.int .i64 x.lv, .int .i64 x.th, .int .i64 x.o0, .int .i64 x.o1, .int .i64 x.o2, .int .i64 x.o3, .int .i64 x.o4, .int .i64 x.o5, .int .i64 x.o6, .int .i64 x.o7, .int .i64 x.sl, .int .i64 x.li, .int .i64 x.ge, .int .i64 x.qu], .int .i64 l] w fun e w' => ∃ A' c', e = .returned (.slice A' (L).length c') ∧ w'.ownsRow w.heap.size 3 1 (.slice A' (L).length c') (L).length ((L).flatMap ic) ∧ Below w.heap.size w w')
    (huc : ∀ w : World, Calls Try.prog 28 #[.agg #[.int .i64 c.lv, .int .i64 c.th, .int .i64 c.o0, .int .i64 c.o1, .int .i64 c.o2, .int .i64 c.o3, .int .i64 c.o4, .int .i64 c.o5, .int .i64 c.o6, .int .i64 c.o7, .int .i64 c.sl, .int .i64 c.li, .int .i64 c.ge, .int .i64 c.qu], .int .i64 l] w fun e w' => ∃ A' c', e = .returned (.slice A' (L).length c') ∧ w'.ownsRow w.heap.size 3 1 (.slice A' (L).length c') (L).length ((L).flatMap ic) ∧ Below w.heap.size w w')
    (hmx : ∀ w : World, Calls Try.prog 20 #[.agg #[.int .i64 x.lv, .int .i64 x.th, .int .i64 x.o0, .int .i64 x.o1, .int .i64 x.o2, .int .i64 x.o3, .int .i64 x.o4, .int .i64 x.o5, .int .i64 x.o6, .int .i64 x.o7, .int .i64 x.sl, .int .i64 x.li, .int .i64 x.ge, .int .i64 x.qu]] w fun e w' => e = .returned (.bool m) ∧ Below w.heap.size w w')
    (hmc : ∀ w : World, Calls Try.prog 20 #[.agg #[.int .i64 c.lv, .int .i64 c.th, .int .i64 c.o0, .int .i64 c.o1, .int .i64 c.o2, .int .i64 c.o3, .int .i64 c.o4, .int .i64 c.o5, .int .i64 c.o6, .int .i64 c.o7, .int .i64 c.sl, .int .i64 c.li, .int .i64 c.ge, .int .i64 c.qu]] w fun e w' => e = .returned (.bool m) ∧ Below w.heap.size w w') (w : World) :
    Calls Try.prog 8 #[.agg #[.int .i64 c.lv, .int .i64 c.th, .int .i64 c.o0, .int .i64 c.o1, .int .i64 c.o2, .int .i64 c.o3, .int .i64 c.o4, .int .i64 c.o5, .int .i64 c.o6, .int .i64 c.o7, .int .i64 c.sl, .int .i64 c.li, .int .i64 c.ge, .int .i64 c.qu], .int .i64 l] w fun e w' => e = .returned (.bool true) ∧ Below w.heap.size w w' := by
  have hne := neq_c x
  go_enter Try.func8, Try.ntmps8
  go_wp2_with fail
  obtain ⟨W0, hW0, k0, k1, k2, k3, k4, k5, k6, k7, k8, k9, k10, k11, k12, k13, kof, kb⟩ : ∃ W0, w.alloc (.cells #[.int .i64 c.lv, .int .i64 c.th, .int .i64 c.o0, .int .i64 c.o1, .int .i64 c.o2, .int .i64 c.o3, .int .i64 c.o4, .int .i64 c.o5, .int .i64 c.o6, .int .i64 c.o7, .int .i64 c.sl, .int .i64 c.li, .int .i64 c.ge, .int .i64 c.qu] 45) = W0 ∧ W0.cell? ⟨w.heap.size, 0, none⟩ = some (.int .i64 c.lv) ∧ W0.cell? ⟨w.heap.size, 1, none⟩ = some (.int .i64 c.th) ∧ W0.cell? ⟨w.heap.size, 2, none⟩ = some (.int .i64 c.o0) ∧ W0.cell? ⟨w.heap.size, 3, none⟩ = some (.int .i64 c.o1) ∧ W0.cell? ⟨w.heap.size, 4, none⟩ = some (.int .i64 c.o2) ∧ W0.cell? ⟨w.heap.size, 5, none⟩ = some (.int .i64 c.o3) ∧ W0.cell? ⟨w.heap.size, 6, none⟩ = some (.int .i64 c.o4) ∧ W0.cell? ⟨w.heap.size, 7, none⟩ = some (.int .i64 c.o5) ∧ W0.cell? ⟨w.heap.size, 8, none⟩ = some (.int .i64 c.o6) ∧ W0.cell? ⟨w.heap.size, 9, none⟩ = some (.int .i64 c.o7) ∧ W0.cell? ⟨w.heap.size, 10, none⟩ = some (.int .i64 c.sl) ∧ W0.cell? ⟨w.heap.size, 11, none⟩ = some (.int .i64 c.li) ∧ W0.cell? ⟨w.heap.size, 12, none⟩ = some (.int .i64 c.ge) ∧ W0.cell? ⟨w.heap.size, 13, none⟩ = some (.int .i64 c.qu) ∧ (∀ k : Nat, k < 8 → W0.cell? ⟨w.heap.size, 2 + k, none⟩ = some (.int .i64 (c.of k))) ∧ Below w.heap.size w W0 :=
    ⟨_, rfl, by go_simp, by go_simp, by go_simp, by go_simp, by go_simp, by go_simp, by go_simp, by go_simp, by go_simp, by go_simp, by go_simp, by go_simp, by go_simp, by go_simp, box_of c w, bnew (brefl w) _⟩
  rw [hW0]
  clear hW0
  clear kof
  refine (hb _).mono ?_
  rintro e w1 ⟨rfl, hb1⟩
  have z0 := keep_below k0 hb1
  have z1 := keep_below k1 hb1
  have z2 := keep_below k2 hb1
  have z3 := keep_below k3 hb1
  have z4 := keep_below k4 hb1
  have z5 := keep_below k5 hb1
  have z6 := keep_below k6 hb1
  have z7 := keep_below k7 hb1
  have z8 := keep_below k8 hb1
  have z9 := keep_below k9 hb1
  have z10 := keep_below k10 hb1
  have z11 := keep_below k11 hb1
  have z12 := keep_below k12 hb1
  have z13 := keep_below k13 hb1
  have kb1 := bnext kb hb1
  clear k0 k1 k2 k3 k4 k5 k6 k7 k8 k9 k10 k11 k12 k13 kb
  have hz := block_lt_of_cell z0
  go_upto_region 2 with (fail)
  obtain ⟨W0, hW0, k0, k1, k2, k3, k4, k5, k6, k7, k8, k9, k10, k11, k12, k13, y0, y1, y2, y3, y4, y5, y6, y7, y8, y9, y10, y11, y12, y13, kb⟩ : ∃ W0, w1.alloc (.cells #[.int .i64 x.lv, .int .i64 x.th, .int .i64 x.o0, .int .i64 x.o1, .int .i64 x.o2, .int .i64 x.o3, .int .i64 x.o4, .int .i64 x.o5, .int .i64 x.o6, .int .i64 x.o7, .int .i64 x.sl, .int .i64 x.li, .int .i64 x.ge, .int .i64 x.qu] 45) = W0 ∧ W0.cell? ⟨w.heap.size, 0, none⟩ = some (.int .i64 c.lv) ∧ W0.cell? ⟨w.heap.size, 1, none⟩ = some (.int .i64 c.th) ∧ W0.cell? ⟨w.heap.size, 2, none⟩ = some (.int .i64 c.o0) ∧ W0.cell? ⟨w.heap.size, 3, none⟩ = some (.int .i64 c.o1) ∧ W0.cell? ⟨w.heap.size, 4, none⟩ = some (.int .i64 c.o2) ∧ W0.cell? ⟨w.heap.size, 5, none⟩ = some (.int .i64 c.o3) ∧ W0.cell? ⟨w.heap.size, 6, none⟩ = some (.int .i64 c.o4) ∧ W0.cell? ⟨w.heap.size, 7, none⟩ = some (.int .i64 c.o5) ∧ W0.cell? ⟨w.heap.size, 8, none⟩ = some (.int .i64 c.o6) ∧ W0.cell? ⟨w.heap.size, 9, none⟩ = some (.int .i64 c.o7) ∧ W0.cell? ⟨w.heap.size, 10, none⟩ = some (.int .i64 c.sl) ∧ W0.cell? ⟨w.heap.size, 11, none⟩ = some (.int .i64 c.li) ∧ W0.cell? ⟨w.heap.size, 12, none⟩ = some (.int .i64 c.ge) ∧ W0.cell? ⟨w.heap.size, 13, none⟩ = some (.int .i64 c.qu) ∧ W0.cell? ⟨w1.heap.size, 0, none⟩ = some (.int .i64 x.lv) ∧ W0.cell? ⟨w1.heap.size, 1, none⟩ = some (.int .i64 x.th) ∧ W0.cell? ⟨w1.heap.size, 2, none⟩ = some (.int .i64 x.o0) ∧ W0.cell? ⟨w1.heap.size, 3, none⟩ = some (.int .i64 x.o1) ∧ W0.cell? ⟨w1.heap.size, 4, none⟩ = some (.int .i64 x.o2) ∧ W0.cell? ⟨w1.heap.size, 5, none⟩ = some (.int .i64 x.o3) ∧ W0.cell? ⟨w1.heap.size, 6, none⟩ = some (.int .i64 x.o4) ∧ W0.cell? ⟨w1.heap.size, 7, none⟩ = some (.int .i64 x.o5) ∧ W0.cell? ⟨w1.heap.size, 8, none⟩ = some (.int .i64 x.o6) ∧ W0.cell? ⟨w1.heap.size, 9, none⟩ = some (.int .i64 x.o7) ∧ W0.cell? ⟨w1.heap.size, 10, none⟩ = some (.int .i64 x.sl) ∧ W0.cell? ⟨w1.heap.size, 11, none⟩ = some (.int .i64 x.li) ∧ W0.cell? ⟨w1.heap.size, 12, none⟩ = some (.int .i64 x.ge) ∧ W0.cell? ⟨w1.heap.size, 13, none⟩ = some (.int .i64 x.qu) ∧ Below w.heap.size w W0 :=
    ⟨_, rfl, keep_below z0 (bnew (brefl w1) _), keep_below z1 (bnew (brefl w1) _), keep_below z2 (bnew (brefl w1) _), keep_below z3 (bnew (brefl w1) _), keep_below z4 (bnew (brefl w1) _), keep_below z5 (bnew (brefl w1) _), keep_below z6 (bnew (brefl w1) _), keep_below z7 (bnew (brefl w1) _), keep_below z8 (bnew (brefl w1) _), keep_below z9 (bnew (brefl w1) _), keep_below z10 (bnew (brefl w1) _), keep_below z11 (bnew (brefl w1) _), keep_below z12 (bnew (brefl w1) _), keep_below z13 (bnew (brefl w1) _), by go_simp, by go_simp, by go_simp, by go_simp, by go_simp, by go_simp, by go_simp, by go_simp, by go_simp, by go_simp, by go_simp, by go_simp, by go_simp, by go_simp, bnew kb1 _⟩
  rw [hW0]
  clear hW0
  generalize w1.heap.size = B5 at *
  clear kb1 hb1 z0 z1 z2 z3 z4 z5 z6 z7 z8 z9 z10 z11 z12 z13
  have hX := @Ext.cell W0
  have hzz0 := block_lt_of_cell k0
  have hzz1 := block_lt_of_cell y0
  refine wp_region_noPanic ?_
  refine wp_region_plan (fun w' => ∃ x : Ext W0, w' = x.w) [([0, 1, 2], 3), ([4, 5, 6, 7, 9], 8)] [10, 11] (by kernel_rfl) (by kernel_rfl) (by kernel_rfl) (fun _ _ _ _ _ h => h) ⟨⟨_, (brefl W0).drew⟩, rfl⟩ ?_
  refine wpPlan_cons ?_
  simp only [pickOps, List.getElem?_cons_succ, List.getElem?_cons_zero, Option.elim_some]
  repeat (go_big_quiet_step (fail))
  refine wpQuiet_nil ?_
  refine planAct_some (fun K hK => ?_)
  go_simp
  refine (hrb _).mono ?_
  rintro e wa ⟨rfl, hba⟩
  go_wp2_with fail
  refine hK.out _ _ ⟨⟨_, (bnext (brefl W0).drew hba)⟩, rfl⟩ ?_
  clear hK K
  refine wpPlan_cons ?_
  simp only [pickOps, List.getElem?_cons_succ, List.getElem?_cons_zero, Option.elim_some]
  repeat (go_big_quiet_step (fail))
  refine wpQuiet_nil ?_
  refine planAct_some (fun K hK => ?_)
  go_simp
  refine (hbx _).mono ?_
  rintro e wb ⟨rfl, hbb⟩
  go_wp2_with fail
  refine hK.out _ _ ⟨⟨_, (bnext (bnext (brefl W0).drew hba) hbb)⟩, rfl⟩ ?_
  clear hK K
  refine wpPlan_last ?_
  simp only [pickOps, List.getElem?_cons_succ, List.getElem?_cons_zero, Option.elim_some]
  repeat (go_big_quiet_step (fail))
  refine wpQuiet_nil ?_
  refine NoPanic.normal ?_
  clear hX hzz0 hzz1
  have hfin := (bnext (bnext (brefl W0).drew hba) hbb)
  have q0 := keep_below k0 hfin
  have q1 := keep_below k1 hfin
  have q2 := keep_below k2 hfin
  have q3 := keep_below k3 hfin
  have q4 := keep_below k4 hfin
  have q5 := keep_below k5 hfin
  have q6 := keep_below k6 hfin
  have q7 := keep_below k7 hfin
  have q8 := keep_below k8 hfin
  have q9 := keep_below k9 hfin
  have q10 := keep_below k10 hfin
  have q11 := keep_below k11 hfin
  have q12 := keep_below k12 hfin
  have q13 := keep_below k13 hfin
  have p0 := keep_below y0 hfin
  have p1 := keep_below y1 hfin
  have p2 := keep_below y2 hfin
  have p3 := keep_below y3 hfin
  have p4 := keep_below y4 hfin
  have p5 := keep_below y5 hfin
  have p6 := keep_below y6 hfin
  have p7 := keep_below y7 hfin
  have p8 := keep_below y8 hfin
  have p9 := keep_below y9 hfin
  have p10 := keep_below y10 hfin
  have p11 := keep_below y11 hfin
  have p12 := keep_below y12 hfin
  have p13 := keep_below y13 hfin
  have kb9 := bnext kb hfin
  clear k0 k1 k2 k3 k4 k5 k6 k7 k8 k9 k10 k11 k12 k13 y0 y1 y2 y3 y4 y5 y6 y7 y8 y9 y10 y11 y12 y13 kb hfin hba hbb hz
  generalize wb = w9 at *
  have hz9 := block_lt_of_cell q0
  have hz8 := block_lt_of_cell p0
  go_upto_region 6 with (fail)
  have hX := @Ext.cell w9
  have hzz0 := block_lt_of_cell q0
  have hzz1 := block_lt_of_cell p0
  refine wp_region_noPanic ?_
  refine wp_region_plan (fun w' => ∃ x : Ext w9, w' = x.w) [([0, 1, 2, 3, 4, 6, 7], 5), ([], 8), ([], 9), ([10, 11, 12, 14], 13), ([], 15), ([16, 17, 18], 19)] [20, 21] (by kernel_rfl) (by kernel_rfl) (by kernel_rfl) (fun _ _ _ _ _ h => h) ⟨⟨_, (brefl w9).drew⟩, rfl⟩ ?_
  refine wpPlan_cons ?_
  simp only [pickOps, List.getElem?_cons_succ, List.getElem?_cons_zero, Option.elim_some]
  repeat (go_big_quiet_step (fail))
  refine wpQuiet_nil ?_
  refine planAct_some (fun K hK => ?_)
  go_simp
  refine (hux _).mono ?_
  rintro e wd ⟨A1, c1, rfl, own1, hbd⟩
  go_wp2_with fail
  refine hK.out _ _ ⟨⟨_, (bnext (brefl w9).drew hbd)⟩, rfl⟩ ?_
  clear hK K
  refine wpPlan_cons ?_
  simp only [pickOps, List.getElem?_cons_succ, List.getElem?_cons_zero, Option.elim_some]
  repeat (go_big_quiet_step (fail))
  refine wpQuiet_nil ?_
  refine planAct_some (fun K hK => ?_)
  go_simp
  refine (huc _).mono ?_
  rintro e we ⟨A2, c2, rfl, own2, hbe⟩
  go_wp2_with fail
  refine hK.out _ _ ⟨⟨_, (bnext (bnext (brefl w9).drew hbd) hbe)⟩, rfl⟩ ?_
  clear hK K
  refine wpPlan_cons ?_
  simp only [pickOps, List.getElem?_cons_succ, List.getElem?_cons_zero, Option.elim_some]
  repeat (go_big_quiet_step (fail))
  refine wpQuiet_nil ?_
  refine planAct_some (fun K hK => ?_)
  go_simp
  refine (ints_any ((Sl.of_own ic_len (by decide) own1).below hbe) (Sl.of_own ic_len (by decide) own2) (by omega)).mono ?_
  rintro e wf ⟨rfl, d, rfl⟩
  go_wp2_with fail
  refine hK.out _ _ ⟨⟨_, (below_drewN (bnext (bnext (brefl w9).drew hbd) hbe) d)⟩, rfl⟩ ?_
  clear hK K
  refine wpPlan_cons ?_
  simp only [pickOps, List.getElem?_cons_succ, List.getElem?_cons_zero, Option.elim_some]
  repeat (go_big_quiet_step (fail))
  refine wpQuiet_nil ?_
  refine planAct_some (fun K hK => ?_)
  go_simp
  refine (hmx _).mono ?_
  rintro e wg ⟨rfl, hbg⟩
  go_wp2_with fail
  refine hK.out _ _ ⟨⟨_, (bnext (below_drewN (bnext (bnext (brefl w9).drew hbd) hbe) d) hbg)⟩, rfl⟩ ?_
  clear hK K
  refine wpPlan_cons ?_
  simp only [pickOps, List.getElem?_cons_succ, List.getElem?_cons_zero, Option.elim_some]
  repeat (go_big_quiet_step (fail))
  refine wpQuiet_nil ?_
  refine planAct_some (fun K hK => ?_)
  go_simp
  refine (hmc _).mono ?_
  rintro e wh ⟨rfl, hbh⟩
  go_wp2_with fail
  refine hK.out _ _ ⟨⟨_, (bnext (bnext (below_drewN (bnext (bnext (brefl w9).drew hbd) hbe) d) hbg) hbh)⟩, rfl⟩ ?_
  clear hK K
  refine wpPlan_cons ?_
  simp only [pickOps, List.getElem?_cons_succ, List.getElem?_cons_zero, Option.elim_some]
  repeat (go_big_quiet_step (fail))
  refine wpQuiet_nil ?_
  refine planAct_some (fun K hK => ?_)
  go_simp
  refine (lives04 _).mono ?_
  rintro e wi ⟨rfl, hbi⟩
  go_wp2_with fail
  refine hK.out _ _ ⟨⟨_, (bnext (bnext (bnext (below_drewN (bnext (bnext (brefl w9).drew hbd) hbe) d) hbg) hbh) hbi)⟩, rfl⟩ ?_
  clear hK K
  refine wpPlan_last ?_
  simp only [pickOps, List.getElem?_cons_succ, List.getElem?_cons_zero, Option.elim_some]
  repeat (go_big_quiet_step (fail))
  refine wpQuiet_nil ?_
  refine NoPanic.normal ?_
  clear hX hzz0 hzz1
  go_wp2
  go_ret
  exact ⟨rfl, bnext kb9 (bnext (bnext (bnext (below_drewN (bnext (bnext (brefl w9).drew hbd) hbe) d) hbg) hbh) hbi)⟩

theorem confbares_any (c : Cf) (l : Int) (w : World) : Calls Try.prog 8 #[.agg #[.int .i64 c.lv, .int .i64 c.th, .int .i64 c.o0, .int .i64 c.o1, .int .i64 c.o2, .int .i64 c.o3, .int .i64 c.o4, .int .i64 c.o5, .int .i64 c.o6, .int .i64 c.o7, .int .i64 c.sl, .int .i64 c.li, .int .i64 c.ge, .int .i64 c.qu], .int .i64 l] w fun e w' => e = .returned (.bool true) ∧ Below w.heap.size w w' := by
  have hb : ∀ w : World, Calls Try.prog 31 #[.agg #[.int .i64 c.lv, .int .i64 c.th, .int .i64 c.o0, .int .i64 c.o1, .int .i64 c.o2, .int .i64 c.o3, .int .i64 c.o4, .int .i64 c.o5, .int .i64 c.o6, .int .i64 c.o7, .int .i64 c.sl, .int .i64 c.li, .int .i64 c.ge, .int .i64 c.qu], .int .i64 l] w fun e w' => e = .returned (.agg #[.int .i64 (c.bare l).lv, .int .i64 (c.bare l).th, .int .i64 (c.bare l).o0, .int .i64 (c.bare l).o1, .int .i64 (c.bare l).o2, .int .i64 (c.bare l).o3, .int .i64 (c.bare l).o4, .int .i64 (c.bare l).o5, .int .i64 (c.bare l).o6, .int .i64 (c.bare l).o7, .int .i64 (c.bare l).sl, .int .i64 (c.bare l).li, .int .i64 (c.bare l).ge, .int .i64 (c.bare l).qu]) ∧ Below w.heap.size w w' := bare_any c l
  have hrb : ∀ w : World, Calls Try.prog 32 #[.agg #[.int .i64 c.lv, .int .i64 c.th, .int .i64 c.o0, .int .i64 c.o1, .int .i64 c.o2, .int .i64 c.o3, .int .i64 c.o4, .int .i64 c.o5, .int .i64 c.o6, .int .i64 c.o7, .int .i64 c.sl, .int .i64 c.li, .int .i64 c.ge, .int .i64 c.qu], .int .i64 l] w fun e w' => e = .returned (.agg #[.int .i64 (c.bare l).lv, .int .i64 (c.bare l).th, .int .i64 (c.bare l).o0, .int .i64 (c.bare l).o1, .int .i64 (c.bare l).o2, .int .i64 (c.bare l).o3, .int .i64 (c.bare l).o4, .int .i64 (c.bare l).o5, .int .i64 (c.bare l).o6, .int .i64 (c.bare l).o7, .int .i64 (c.bare l).sl, .int .i64 (c.bare l).li, .int .i64 (c.bare l).ge, .int .i64 (c.bare l).qu]) ∧ Below w.heap.size w w' := rbare_any c l
  have hbx : ∀ w : World, Calls Try.prog 31 #[.agg #[.int .i64 (c.bare l).lv, .int .i64 (c.bare l).th, .int .i64 (c.bare l).o0, .int .i64 (c.bare l).o1, .int .i64 (c.bare l).o2, .int .i64 (c.bare l).o3, .int .i64 (c.bare l).o4, .int .i64 (c.bare l).o5, .int .i64 (c.bare l).o6, .int .i64 (c.bare l).o7, .int .i64 (c.bare l).sl, .int .i64 (c.bare l).li, .int .i64 (c.bare l).ge, .int .i64 (c.bare l).qu], .int .i64 l] w fun e w' => e = .returned (.agg #[.int .i64 ((c.bare l).bare l).lv, .int .i64 ((c.bare l).bare l).th, .int .i64 ((c.bare l).bare l).o0, .int .i64 ((c.bare l).bare l).o1, .int .i64 ((c.bare l).bare l).o2, .int .i64 ((c.bare l).bare l).o3, .int .i64 ((c.bare l).bare l).o4, .int .i64 ((c.bare l).bare l).o5, .int .i64 ((c.bare l).bare l).o6, .int .i64 ((c.bare l).bare l).o7, .int .i64 ((c.bare l).bare l).sl, .int .i64 ((c.bare l).bare l).li, .int .i64 ((c.bare l).bare l).ge, .int .i64 ((c.bare l).bare l).qu]) ∧ Below w.heap.size w w' := bare_any (c.bare l) l
  rw [bare_twice] at hbx
  have hux := upto_any (c.bare l) l
  rw [bare_up] at hux
  have hmx := may_any (c.bare l)
  rw [bare_may] at hmx
  have hL := atL_len c (fun x => decide (x ≤ l))
  by_cases hT : wrap64 (c.lv - 1) ≤ l
  · rw [bare_high hT] at hb hrb hbx hux hmx
    by_cases hl : l < 0
    · exact bares_tn c l _ _ hT hl hL hb hrb hbx hux (upto_any c l) hmx (may_any c) w
    · exact bares_tp c l _ _ hT (decide_eq_false hl) hL hb hrb hbx hux (upto_any c l) hmx (may_any c) w
  · by_cases hl : l < 0
    · exact bares_fn c (c.bare l) l _ _ (decide_eq_false hT) hl hL hb hrb hbx hux (upto_any c l) hmx (may_any c) w
    · exact bares_fp c (c.bare l) l _ _ (decide_eq_false hT) (decide_eq_false hl) hL hb hrb hbx hux (upto_any c l) hmx (may_any c) w
end Go.Proofs.Ytpnhpiniflcciaa
