/- conf.May, conf.Level, and their references. -/
import Derived.Test.YtjjgngccgjpnaaaGreatDoorConfA
import Derived.Test.YtjjgngccgjpnaaaGreatDoorArrEq
namespace Go.Proofs.YtjjgngccgjpnaaaGreatDoor
set_option linter.unusedVariables false
set_option linter.unusedSimpArgs false
open Go.RowKit

theorem idx8_0 (a0 a1 a2 a3 a4 a5 a6 a7 : Int) (w : World) : (Instr.index 23 (.agg #[.int .i64 a0, .int .i64 a1, .int .i64 a2, .int .i64 a3, .int .i64 a4, .int .i64 a5, .int .i64 a6, .int .i64 a7]) (.int .i64 0)).run Tryz.prog w = .ok (.int .i64 a0) w := by simp [Instr.index, go_sem]
theorem idx8_1 (a0 a1 a2 a3 a4 a5 a6 a7 : Int) (w : World) : (Instr.index 23 (.agg #[.int .i64 a0, .int .i64 a1, .int .i64 a2, .int .i64 a3, .int .i64 a4, .int .i64 a5, .int .i64 a6, .int .i64 a7]) (.int .i64 1)).run Tryz.prog w = .ok (.int .i64 a1) w := by simp [Instr.index, go_sem]
theorem idx8_2 (a0 a1 a2 a3 a4 a5 a6 a7 : Int) (w : World) : (Instr.index 23 (.agg #[.int .i64 a0, .int .i64 a1, .int .i64 a2, .int .i64 a3, .int .i64 a4, .int .i64 a5, .int .i64 a6, .int .i64 a7]) (.int .i64 2)).run Tryz.prog w = .ok (.int .i64 a2) w := by simp [Instr.index, go_sem]
theorem idx8_3 (a0 a1 a2 a3 a4 a5 a6 a7 : Int) (w : World) : (Instr.index 23 (.agg #[.int .i64 a0, .int .i64 a1, .int .i64 a2, .int .i64 a3, .int .i64 a4, .int .i64 a5, .int .i64 a6, .int .i64 a7]) (.int .i64 3)).run Tryz.prog w = .ok (.int .i64 a3) w := by simp [Instr.index, go_sem]
theorem idx8_4 (a0 a1 a2 a3 a4 a5 a6 a7 : Int) (w : World) : (Instr.index 23 (.agg #[.int .i64 a0, .int .i64 a1, .int .i64 a2, .int .i64 a3, .int .i64 a4, .int .i64 a5, .int .i64 a6, .int .i64 a7]) (.int .i64 4)).run Tryz.prog w = .ok (.int .i64 a4) w := by simp [Instr.index, go_sem]
theorem idx8_5 (a0 a1 a2 a3 a4 a5 a6 a7 : Int) (w : World) : (Instr.index 23 (.agg #[.int .i64 a0, .int .i64 a1, .int .i64 a2, .int .i64 a3, .int .i64 a4, .int .i64 a5, .int .i64 a6, .int .i64 a7]) (.int .i64 5)).run Tryz.prog w = .ok (.int .i64 a5) w := by simp [Instr.index, go_sem]
theorem idx8_6 (a0 a1 a2 a3 a4 a5 a6 a7 : Int) (w : World) : (Instr.index 23 (.agg #[.int .i64 a0, .int .i64 a1, .int .i64 a2, .int .i64 a3, .int .i64 a4, .int .i64 a5, .int .i64 a6, .int .i64 a7]) (.int .i64 6)).run Tryz.prog w = .ok (.int .i64 a6) w := by simp [Instr.index, go_sem]
theorem idx8_7 (a0 a1 a2 a3 a4 a5 a6 a7 : Int) (w : World) : (Instr.index 23 (.agg #[.int .i64 a0, .int .i64 a1, .int .i64 a2, .int .i64 a3, .int .i64 a4, .int .i64 a5, .int .i64 a6, .int .i64 a7]) (.int .i64 7)).run Tryz.prog w = .ok (.int .i64 a7) w := by simp [Instr.index, go_sem]
theorem size_i (w : World) : (sizeOf 3).run Tryz.prog w = .ok 1 w := by kernel_rfl
theorem arr8 (d : Nat) (xs ys : Array Value) (w : World) : (Op.equalIn (d + 1) 23 (.agg xs) (.agg ys)).run Tryz.prog w = (eqElems d 3 1 xs ys [0, 1, 2, 3, 4, 5, 6, 7]).run Tryz.prog w :=
  run_equalIn_array w d 23 3 8 1 xs ys Tryz.underlying23 size_i
theorem neq8 (a0 b0 a1 b1 a2 b2 a3 b3 a4 b4 a5 b5 a6 b6 a7 b7 : Int) (w : World) : (binOp .neq 23 (.agg #[.int .i64 a0, .int .i64 a1, .int .i64 a2, .int .i64 a3, .int .i64 a4, .int .i64 a5, .int .i64 a6, .int .i64 a7]) (.agg #[.int .i64 b0, .int .i64 b1, .int .i64 b2, .int .i64 b3, .int .i64 b4, .int .i64 b5, .int .i64 b6, .int .i64 b7])).run Tryz.prog w = .ok (.bool (!(a0 == b0 && a1 == b1 && a2 == b2 && a3 == b3 && a4 == b4 && a5 == b5 && a6 == b6 && a7 == b7))) w := by
  by_cases h0 : a0 = b0
  · subst h0
    by_cases h1 : a1 = b1
    · subst h1
      by_cases h2 : a2 = b2
      · subst h2
        by_cases h3 : a3 = b3
        · subst h3
          by_cases h4 : a4 = b4
          · subst h4
            by_cases h5 : a5 = b5
            · subst h5
              by_cases h6 : a6 = b6
              · subst h6
                by_cases h7 : a7 = b7
                · subst h7
                  simp [go_sem, arr8, eqElems]
                · simp [go_sem, arr8, eqElems, h7]
              · simp [go_sem, arr8, eqElems, h6]
            · simp [go_sem, arr8, eqElems, h5]
          · simp [go_sem, arr8, eqElems, h4]
        · simp [go_sem, arr8, eqElems, h3]
      · simp [go_sem, arr8, eqElems, h2]
    · simp [go_sem, arr8, eqElems, h1]
  · simp [go_sem, arr8, eqElems, h0]

theorem cl_same {c : Cf} (hz : ∀ k : Nat, k < 8 → c.th ≤ (k : Int) → c.of k = 0) : ∀ k : Nat, k < 8 → c.cl k = c.of k := fun k hk => by
  unfold Cf.cl
  split
  · rename_i h
    exact (hz k hk h).symm
  · rfl
theorem cl_other {c : Cf} {k : Nat} (hk : k < 8) (h : c.th ≤ (k : Int)) (hz : ¬ c.of k = 0) : (c.o0 == c.cl 0 && c.o1 == c.cl 1 && c.o2 == c.cl 2 && c.o3 == c.cl 3 && c.o4 == c.cl 4 && c.o5 == c.cl 5 && c.o6 == c.cl 6 && c.o7 == c.cl 7) = false := by
  have h1 : c.cl k = 0 := if_pos h
  rcases (by omega : k = 0 ∨ k = 1 ∨ k = 2 ∨ k = 3 ∨ k = 4 ∨ k = 5 ∨ k = 6 ∨ k = 7) with rfl | rfl | rfl | rfl | rfl | rfl | rfl | rfl
  all_goals (simp only [Cf.of] at hz; simp [h1, hz])

set_option maxHeartbeats 4000000 in
set_option maxRecDepth 100000 in
theorem may_any (c : Cf) (w : World) : Calls Tryz.prog 66 #[.agg #[.int .i64 c.lv, .int .i64 c.th, .int .i64 c.o0, .int .i64 c.o1, .int .i64 c.o2, .int .i64 c.o3, .int .i64 c.o4, .int .i64 c.o5, .int .i64 c.o6, .int .i64 c.o7, .int .i64 c.sl, .int .i64 c.li, .int .i64 c.ge, .int .i64 c.qu]] w fun e w' => e = .returned (.bool (mayB c)) ∧ Below w.heap.size w w' := by
  by_cases h1 : 1 ≤ c.lv ∧ c.lv ≤ 4
  · have i1 := in_any c.lv 1 4
    rw [in_yes h1.1 h1.2] at i1
    have i2 := in_any c.th 1 8
    by_cases h2 : 1 ≤ c.th ∧ c.th ≤ 8
    · rw [in_yes h2.1 h2.2] at i2
      have hcc := cleared_any c
      by_cases h3 : ∀ k : Nat, k < 8 → c.th ≤ (k : Int) → c.of k = 0
      · have hcl := cl_same h3
        rw [hcl 0 (by decide)] at hcc; rw [hcl 1 (by decide)] at hcc; rw [hcl 2 (by decide)] at hcc; rw [hcl 3 (by decide)] at hcc; rw [hcl 4 (by decide)] at hcc; rw [hcl 5 (by decide)] at hcc; rw [hcl 6 (by decide)] at hcc; rw [hcl 7 (by decide)] at hcc
        simp only [Cf.of] at hcc
        have hne := neq8 c.o0 c.o0 c.o1 c.o1 c.o2 c.o2 c.o3 c.o3 c.o4 c.o4 c.o5 c.o5 c.o6 c.o6 c.o7 c.o7
        simp only [beq_self_eq_true, Bool.and_self, Bool.not_true] at hne
        have H3 : Hid (∀ k : Nat, k < 8 → c.th ≤ (k : Int) → c.of k = 0) := h3
        have hc1 := fun w => hcc w h2.1 h2.2
        obtain ⟨l1, l2⟩ := h1
        obtain ⟨t1, t2⟩ := h2
        clear h3 hcl hcc
        go_enter Tryz.func66, Tryz.ntmps66
        go_wp2_with fail
        obtain ⟨W0, hW0, k0, k1, k2, k3, k4, k5, k6, k7, k8, k9, k10, k11, k12, k13, kof, kb⟩ : ∃ W0, w.alloc (.cells #[.int .i64 c.lv, .int .i64 c.th, .int .i64 c.o0, .int .i64 c.o1, .int .i64 c.o2, .int .i64 c.o3, .int .i64 c.o4, .int .i64 c.o5, .int .i64 c.o6, .int .i64 c.o7, .int .i64 c.sl, .int .i64 c.li, .int .i64 c.ge, .int .i64 c.qu] 25) = W0 ∧ W0.cell? ⟨w.heap.size, 0, none⟩ = some (.int .i64 c.lv) ∧ W0.cell? ⟨w.heap.size, 1, none⟩ = some (.int .i64 c.th) ∧ W0.cell? ⟨w.heap.size, 2, none⟩ = some (.int .i64 c.o0) ∧ W0.cell? ⟨w.heap.size, 3, none⟩ = some (.int .i64 c.o1) ∧ W0.cell? ⟨w.heap.size, 4, none⟩ = some (.int .i64 c.o2) ∧ W0.cell? ⟨w.heap.size, 5, none⟩ = some (.int .i64 c.o3) ∧ W0.cell? ⟨w.heap.size, 6, none⟩ = some (.int .i64 c.o4) ∧ W0.cell? ⟨w.heap.size, 7, none⟩ = some (.int .i64 c.o5) ∧ W0.cell? ⟨w.heap.size, 8, none⟩ = some (.int .i64 c.o6) ∧ W0.cell? ⟨w.heap.size, 9, none⟩ = some (.int .i64 c.o7) ∧ W0.cell? ⟨w.heap.size, 10, none⟩ = some (.int .i64 c.sl) ∧ W0.cell? ⟨w.heap.size, 11, none⟩ = some (.int .i64 c.li) ∧ W0.cell? ⟨w.heap.size, 12, none⟩ = some (.int .i64 c.ge) ∧ W0.cell? ⟨w.heap.size, 13, none⟩ = some (.int .i64 c.qu) ∧ (∀ k : Nat, k < 8 → W0.cell? ⟨w.heap.size, 2 + k, none⟩ = some (.int .i64 (c.of k))) ∧ Below w.heap.size w W0 :=
          ⟨_, rfl, by go_simp, by go_simp, by go_simp, by go_simp, by go_simp, by go_simp, by go_simp, by go_simp, by go_simp, by go_simp, by go_simp, by go_simp, by go_simp, by go_simp, box_of c w, bnew (brefl w) _⟩
        rw [hW0]
        clear hW0
        have hX := @Ext.cell W0
        have hzz0 := block_lt_of_cell k0
        refine wp_region_noPanic ?_
        refine wp_region_plan (fun w' => ∃ x : Ext W0, w' = x.w) [([0, 1], 2), ([3, 4, 5, 6], 7), ([8, 9, 10, 11, 12, 13], 14)] [15, 16] (by kernel_rfl) (by kernel_rfl) (by kernel_rfl) (fun _ _ _ _ _ h => h) ⟨⟨_, (brefl W0).drew⟩, rfl⟩ ?_
        refine wpPlan_cons ?_
        simp only [pickOps, List.getElem?_cons_succ, List.getElem?_cons_zero, Option.elim_some]
        repeat (go_big_quiet_step (fail))
        refine wpQuiet_nil ?_
        refine planAct_some (fun K hK => ?_)
        go_simp
        refine (i1 _).mono ?_
        rintro e w' ⟨rfl, rfl⟩
        go_wp2_with fail
        refine hK.out _ _ ⟨⟨_, (brefl W0).drew⟩, rfl⟩ ?_
        clear hK K
        refine wpPlan_cons ?_
        simp only [pickOps, List.getElem?_cons_succ, List.getElem?_cons_zero, Option.elim_some]
        repeat (go_big_quiet_step (fail))
        refine wpQuiet_nil ?_
        refine planAct_some (fun K hK => ?_)
        go_simp
        refine (i2 _).mono ?_
        rintro e w' ⟨rfl, rfl⟩
        go_wp2_with fail
        refine hK.out _ _ ⟨⟨_, (brefl W0).drew⟩, rfl⟩ ?_
        clear hK K
        refine wpPlan_cons ?_
        simp only [pickOps, List.getElem?_cons_succ, List.getElem?_cons_zero, Option.elim_some]
        repeat (go_big_quiet_step (fail))
        refine wpQuiet_nil ?_
        refine planAct_some (fun K hK => ?_)
        go_simp
        refine (hc1 _).mono ?_
        rintro e w1 ⟨rfl, hb1⟩
        go_wp2_with fail
        refine hK.out _ _ ⟨⟨_, (bnext (brefl W0).drew hb1)⟩, rfl⟩ ?_
        clear hK K
        refine wpPlan_last ?_
        simp only [pickOps, List.getElem?_cons_succ, List.getElem?_cons_zero, Option.elim_some]
        repeat (go_big_quiet_step (fail))
        refine wpQuiet_nil ?_
        refine NoPanic.normal ?_
        clear hX hzz0
        have hb2 := bnext (brefl W0).drew hb1
        have q0 := keep_below k0 hb2
        have q1 := keep_below k1 hb2
        have q2 := keep_below k2 hb2
        have q3 := keep_below k3 hb2
        have q4 := keep_below k4 hb2
        have q5 := keep_below k5 hb2
        have q6 := keep_below k6 hb2
        have q7 := keep_below k7 hb2
        have q8 := keep_below k8 hb2
        have q9 := keep_below k9 hb2
        have q10 := keep_below k10 hb2
        have q11 := keep_below k11 hb2
        have q12 := keep_below k12 hb2
        have q13 := keep_below k13 hb2
        go_wp2_with fail
        go_loopg [24] 8 (fun gk i wr => ∃ k : Nat, k + gk = 8 ∧ i = .int .i64 k ∧ Hid (∀ j : Nat, j < k → 0 ≤ c.of j ∧ c.of j < c.lv) ∧ w1 = wr)
        case atStart => exact ⟨0, by omega, rfl, fun j hj => by omega, rfl⟩
        case round =>
          obtain ⟨k, hk, rfl, hR, rfl⟩ := hrel
          by_cases hlt : k < 8
          · have hR2 : Hid (0 ≤ c.of k ∧ c.of k < c.lv → ∀ j : Nat, j < k + 1 → 0 ≤ c.of j ∧ c.of j < c.lv) := fun h j hj => by
              rcases Nat.lt_succ_iff_lt_or_eq.1 hj with h3 | h3
              · exact hR.out j h3
              · rw [h3]; exact h
            have hE : Hid (¬ (0 ≤ c.of k ∧ c.of k < c.lv) → mayB c = false) := fun h => may_no fun m => h (m.r k hlt)
            clear hR
            rcases (by omega : k = 0 ∨ k = 1 ∨ k = 2 ∨ k = 3 ∨ k = 4 ∨ k = 5 ∨ k = 6 ∨ k = 7) with rfl | rfl | rfl | rfl | rfl | rfl | rfl | rfl
            · simp only [Cf.of] at hR2 hE
              have hix := idx8_0 c.o0 c.o1 c.o2 c.o3 c.o4 c.o5 c.o6 c.o7
              by_cases g : 0 ≤ c.o0 ∧ c.o0 ≤ c.lv - 1
              · have i3 := in_any c.o0 0 (c.lv - 1)
                rw [in_yes g.1 g.2] at i3
                have hR3 : Hid _ := hR2.out ⟨by omega, by omega⟩
                clear hE hR2 g
                go_wp2_with (go_at_call 97; refine (i3 _).mono ?_; rintro e w' ⟨rfl, rfl⟩)
                go_roundg (gk - 1)
                case measure => omega
                case rel => exact ⟨1, by omega, rfl, hR3, rfl⟩
              · have i3 := in_any c.o0 0 (c.lv - 1)
                rw [in_no g] at i3
                have hE2 : Hid (mayB c = false) := hE.out (by omega)
                clear hE hR2 g
                go_wp2_with (go_at_call 97; refine (i3 _).mono ?_; rintro e w' ⟨rfl, rfl⟩)
                go_ret
                exact ⟨by rw [hE2.out]; rfl, bnext kb hb2⟩
            · simp only [Cf.of] at hR2 hE
              have hix := idx8_1 c.o0 c.o1 c.o2 c.o3 c.o4 c.o5 c.o6 c.o7
              by_cases g : 0 ≤ c.o1 ∧ c.o1 ≤ c.lv - 1
              · have i3 := in_any c.o1 0 (c.lv - 1)
                rw [in_yes g.1 g.2] at i3
                have hR3 : Hid _ := hR2.out ⟨by omega, by omega⟩
                clear hE hR2 g
                go_wp2_with (go_at_call 97; refine (i3 _).mono ?_; rintro e w' ⟨rfl, rfl⟩)
                go_roundg (gk - 1)
                case measure => omega
                case rel => exact ⟨2, by omega, rfl, hR3, rfl⟩
              · have i3 := in_any c.o1 0 (c.lv - 1)
                rw [in_no g] at i3
                have hE2 : Hid (mayB c = false) := hE.out (by omega)
                clear hE hR2 g
                go_wp2_with (go_at_call 97; refine (i3 _).mono ?_; rintro e w' ⟨rfl, rfl⟩)
                go_ret
                exact ⟨by rw [hE2.out]; rfl, bnext kb hb2⟩
            · simp only [Cf.of] at hR2 hE
              have hix := idx8_2 c.o0 c.o1 c.o2 c.o3 c.o4 c.o5 c.o6 c.o7
              by_cases g : 0 ≤ c.o2 ∧ c.o2 ≤ c.lv - 1
              · have i3 := in_any c.o2 0 (c.lv - 1)
                rw [in_yes g.1 g.2] at i3
                have hR3 : Hid _ := hR2.out ⟨by omega, by omega⟩
                clear hE hR2 g
                go_wp2_with (go_at_call 97; refine (i3 _).mono ?_; rintro e w' ⟨rfl, rfl⟩)
                go_roundg (gk - 1)
                case measure => omega
                case rel => exact ⟨3, by omega, rfl, hR3, rfl⟩
              · have i3 := in_any c.o2 0 (c.lv - 1)
                rw [in_no g] at i3
                have hE2 : Hid (mayB c = false) := hE.out (by omega)
                clear hE hR2 g
                go_wp2_with (go_at_call 97; refine (i3 _).mono ?_; rintro e w' ⟨rfl, rfl⟩)
                go_ret
                exact ⟨by rw [hE2.out]; rfl, bnext kb hb2⟩
            · simp only [Cf.of] at hR2 hE
              have hix := idx8_3 c.o0 c.o1 c.o2 c.o3 c.o4 c.o5 c.o6 c.o7
              by_cases g : 0 ≤ c.o3 ∧ c.o3 ≤ c.lv - 1
              · have i3 := in_any c.o3 0 (c.lv - 1)
                rw [in_yes g.1 g.2] at i3
                have hR3 : Hid _ := hR2.out ⟨by omega, by omega⟩
                clear hE hR2 g
                go_wp2_with (go_at_call 97; refine (i3 _).mono ?_; rintro e w' ⟨rfl, rfl⟩)
                go_roundg (gk - 1)
                case measure => omega
                case rel => exact ⟨4, by omega, rfl, hR3, rfl⟩
              · have i3 := in_any c.o3 0 (c.lv - 1)
                rw [in_no g] at i3
                have hE2 : Hid (mayB c = false) := hE.out (by omega)
                clear hE hR2 g
                go_wp2_with (go_at_call 97; refine (i3 _).mono ?_; rintro e w' ⟨rfl, rfl⟩)
                go_ret
                exact ⟨by rw [hE2.out]; rfl, bnext kb hb2⟩
            · simp only [Cf.of] at hR2 hE
              have hix := idx8_4 c.o0 c.o1 c.o2 c.o3 c.o4 c.o5 c.o6 c.o7
              by_cases g : 0 ≤ c.o4 ∧ c.o4 ≤ c.lv - 1
              · have i3 := in_any c.o4 0 (c.lv - 1)
                rw [in_yes g.1 g.2] at i3
                have hR3 : Hid _ := hR2.out ⟨by omega, by omega⟩
                clear hE hR2 g
                go_wp2_with (go_at_call 97; refine (i3 _).mono ?_; rintro e w' ⟨rfl, rfl⟩)
                go_roundg (gk - 1)
                case measure => omega
                case rel => exact ⟨5, by omega, rfl, hR3, rfl⟩
              · have i3 := in_any c.o4 0 (c.lv - 1)
                rw [in_no g] at i3
                have hE2 : Hid (mayB c = false) := hE.out (by omega)
                clear hE hR2 g
                go_wp2_with (go_at_call 97; refine (i3 _).mono ?_; rintro e w' ⟨rfl, rfl⟩)
                go_ret
                exact ⟨by rw [hE2.out]; rfl, bnext kb hb2⟩
            · simp only [Cf.of] at hR2 hE
              have hix := idx8_5 c.o0 c.o1 c.o2 c.o3 c.o4 c.o5 c.o6 c.o7
              by_cases g : 0 ≤ c.o5 ∧ c.o5 ≤ c.lv - 1
              · have i3 := in_any c.o5 0 (c.lv - 1)
                rw [in_yes g.1 g.2] at i3
                have hR3 : Hid _ := hR2.out ⟨by omega, by omega⟩
                clear hE hR2 g
                go_wp2_with (go_at_call 97; refine (i3 _).mono ?_; rintro e w' ⟨rfl, rfl⟩)
                go_roundg (gk - 1)
                case measure => omega
                case rel => exact ⟨6, by omega, rfl, hR3, rfl⟩
              · have i3 := in_any c.o5 0 (c.lv - 1)
                rw [in_no g] at i3
                have hE2 : Hid (mayB c = false) := hE.out (by omega)
                clear hE hR2 g
                go_wp2_with (go_at_call 97; refine (i3 _).mono ?_; rintro e w' ⟨rfl, rfl⟩)
                go_ret
                exact ⟨by rw [hE2.out]; rfl, bnext kb hb2⟩
            · simp only [Cf.of] at hR2 hE
              have hix := idx8_6 c.o0 c.o1 c.o2 c.o3 c.o4 c.o5 c.o6 c.o7
              by_cases g : 0 ≤ c.o6 ∧ c.o6 ≤ c.lv - 1
              · have i3 := in_any c.o6 0 (c.lv - 1)
                rw [in_yes g.1 g.2] at i3
                have hR3 : Hid _ := hR2.out ⟨by omega, by omega⟩
                clear hE hR2 g
                go_wp2_with (go_at_call 97; refine (i3 _).mono ?_; rintro e w' ⟨rfl, rfl⟩)
                go_roundg (gk - 1)
                case measure => omega
                case rel => exact ⟨7, by omega, rfl, hR3, rfl⟩
              · have i3 := in_any c.o6 0 (c.lv - 1)
                rw [in_no g] at i3
                have hE2 : Hid (mayB c = false) := hE.out (by omega)
                clear hE hR2 g
                go_wp2_with (go_at_call 97; refine (i3 _).mono ?_; rintro e w' ⟨rfl, rfl⟩)
                go_ret
                exact ⟨by rw [hE2.out]; rfl, bnext kb hb2⟩
            · simp only [Cf.of] at hR2 hE
              have hix := idx8_7 c.o0 c.o1 c.o2 c.o3 c.o4 c.o5 c.o6 c.o7
              by_cases g : 0 ≤ c.o7 ∧ c.o7 ≤ c.lv - 1
              · have i3 := in_any c.o7 0 (c.lv - 1)
                rw [in_yes g.1 g.2] at i3
                have hR3 : Hid _ := hR2.out ⟨by omega, by omega⟩
                clear hE hR2 g
                go_wp2_with (go_at_call 97; refine (i3 _).mono ?_; rintro e w' ⟨rfl, rfl⟩)
                go_roundg (gk - 1)
                case measure => omega
                case rel => exact ⟨8, by omega, rfl, hR3, rfl⟩
              · have i3 := in_any c.o7 0 (c.lv - 1)
                rw [in_no g] at i3
                have hE2 : Hid (mayB c = false) := hE.out (by omega)
                clear hE hR2 g
                go_wp2_with (go_at_call 97; refine (i3 _).mono ?_; rintro e w' ⟨rfl, rfl⟩)
                go_ret
                exact ⟨by rw [hE2.out]; rfl, bnext kb hb2⟩
          · obtain rfl : k = 8 := by omega
            have hm : Hid ((2 ≤ c.sl ∧ c.sl ≤ 60) → (1 ≤ c.li ∧ c.li ≤ 40) → (1 ≤ c.ge ∧ c.ge ≤ 1048576) → (0 ≤ c.qu ∧ c.qu ≤ 60) → mayB c = true) := fun a b d e => may_yes ⟨l1, l2, t1, t2, H3.out, hR.out, a.1, a.2, b.1, b.2, d.1, d.2, e.1, e.2⟩
            clear hR H3
            have j0 := in_any c.sl 2 60
            by_cases u0 : 2 ≤ c.sl ∧ c.sl ≤ 60
            · rw [in_yes u0.1 u0.2] at j0
              have j1 := in_any c.li 1 40
              by_cases u1 : 1 ≤ c.li ∧ c.li ≤ 40
              · rw [in_yes u1.1 u1.2] at j1
                have j2 := in_any c.ge 1 1048576
                by_cases u2 : 1 ≤ c.ge ∧ c.ge ≤ 1048576
                · rw [in_yes u2.1 u2.2] at j2
                  have j3 := in_any c.qu 0 60
                  by_cases u3 : 0 ≤ c.qu ∧ c.qu ≤ 60
                  · rw [in_yes u3.1 u3.2] at j3
                    have hE : Hid (mayB c = true) := hm.out u0 u1 u2 u3
                    clear hm u0 u1 u2 u3
                    go_wp2_with fail
                    refine (j0 _).mono ?_
                    rintro e w1 ⟨rfl, rfl⟩
                    go_wp2_with fail
                    refine (j1 _).mono ?_
                    rintro e w1 ⟨rfl, rfl⟩
                    go_wp2_with fail
                    refine (j2 _).mono ?_
                    rintro e w1 ⟨rfl, rfl⟩
                    go_wp2_with fail
                    refine (j3 _).mono ?_
                    rintro e w1 ⟨rfl, rfl⟩
                    go_wp2
                    go_ret
                    exact ⟨by rw [hE.out]; rfl, bnext kb hb2⟩
                  · rw [in_no u3] at j3
                    have hE : Hid (mayB c = false) := may_no fun m => u3 ⟨m.q1, m.q2⟩
                    clear hm u0 u1 u2 u3
                    go_wp2_with fail
                    refine (j0 _).mono ?_
                    rintro e w1 ⟨rfl, rfl⟩
                    go_wp2_with fail
                    refine (j1 _).mono ?_
                    rintro e w1 ⟨rfl, rfl⟩
                    go_wp2_with fail
                    refine (j2 _).mono ?_
                    rintro e w1 ⟨rfl, rfl⟩
                    go_wp2_with fail
                    refine (j3 _).mono ?_
                    rintro e w1 ⟨rfl, rfl⟩
                    go_wp2
                    go_ret
                    exact ⟨by rw [hE.out]; rfl, bnext kb hb2⟩
                · rw [in_no u2] at j2
                  have hE : Hid (mayB c = false) := may_no fun m => u2 ⟨m.g1, m.g2⟩
                  clear hm u0 u1 u2
                  go_wp2_with fail
                  refine (j0 _).mono ?_
                  rintro e w1 ⟨rfl, rfl⟩
                  go_wp2_with fail
                  refine (j1 _).mono ?_
                  rintro e w1 ⟨rfl, rfl⟩
                  go_wp2_with fail
                  refine (j2 _).mono ?_
                  rintro e w1 ⟨rfl, rfl⟩
                  go_wp2
                  go_ret
                  exact ⟨by rw [hE.out]; rfl, bnext kb hb2⟩
              · rw [in_no u1] at j1
                have hE : Hid (mayB c = false) := may_no fun m => u1 ⟨m.m1, m.m2⟩
                clear hm u0 u1
                go_wp2_with fail
                refine (j0 _).mono ?_
                rintro e w1 ⟨rfl, rfl⟩
                go_wp2_with fail
                refine (j1 _).mono ?_
                rintro e w1 ⟨rfl, rfl⟩
                go_wp2
                go_ret
                exact ⟨by rw [hE.out]; rfl, bnext kb hb2⟩
            · rw [in_no u0] at j0
              have hE : Hid (mayB c = false) := may_no fun m => u0 ⟨m.s1, m.s2⟩
              clear hm u0
              go_wp2_with fail
              refine (j0 _).mono ?_
              rintro e w1 ⟨rfl, rfl⟩
              go_wp2
              go_ret
              exact ⟨by rw [hE.out]; rfl, bnext kb hb2⟩
      · obtain ⟨k, hk, hth, hz⟩ : ∃ k : Nat, k < 8 ∧ c.th ≤ (k : Int) ∧ ¬ c.of k = 0 := by
          refine Classical.byContradiction fun hn => h3 fun k hk hth => ?_
          exact Classical.byContradiction fun hz => hn ⟨k, hk, hth, hz⟩
        have hE : Hid (mayB c = false) := may_no fun m => hz (m.z k hk hth)
        have hne := neq8 c.o0 (c.cl 0) c.o1 (c.cl 1) c.o2 (c.cl 2) c.o3 (c.cl 3) c.o4 (c.cl 4) c.o5 (c.cl 5) c.o6 (c.cl 6) c.o7 (c.cl 7)
        rw [cl_other hk hth hz] at hne
        have hc1 := fun w => hcc w h2.1 h2.2
        clear h3 hcc hz hth hk h1 h2
        go_enter Tryz.func66, Tryz.ntmps66
        go_wp2_with fail
        obtain ⟨W0, hW0, k0, k1, k2, k3, k4, k5, k6, k7, k8, k9, k10, k11, k12, k13, kof, kb⟩ : ∃ W0, w.alloc (.cells #[.int .i64 c.lv, .int .i64 c.th, .int .i64 c.o0, .int .i64 c.o1, .int .i64 c.o2, .int .i64 c.o3, .int .i64 c.o4, .int .i64 c.o5, .int .i64 c.o6, .int .i64 c.o7, .int .i64 c.sl, .int .i64 c.li, .int .i64 c.ge, .int .i64 c.qu] 25) = W0 ∧ W0.cell? ⟨w.heap.size, 0, none⟩ = some (.int .i64 c.lv) ∧ W0.cell? ⟨w.heap.size, 1, none⟩ = some (.int .i64 c.th) ∧ W0.cell? ⟨w.heap.size, 2, none⟩ = some (.int .i64 c.o0) ∧ W0.cell? ⟨w.heap.size, 3, none⟩ = some (.int .i64 c.o1) ∧ W0.cell? ⟨w.heap.size, 4, none⟩ = some (.int .i64 c.o2) ∧ W0.cell? ⟨w.heap.size, 5, none⟩ = some (.int .i64 c.o3) ∧ W0.cell? ⟨w.heap.size, 6, none⟩ = some (.int .i64 c.o4) ∧ W0.cell? ⟨w.heap.size, 7, none⟩ = some (.int .i64 c.o5) ∧ W0.cell? ⟨w.heap.size, 8, none⟩ = some (.int .i64 c.o6) ∧ W0.cell? ⟨w.heap.size, 9, none⟩ = some (.int .i64 c.o7) ∧ W0.cell? ⟨w.heap.size, 10, none⟩ = some (.int .i64 c.sl) ∧ W0.cell? ⟨w.heap.size, 11, none⟩ = some (.int .i64 c.li) ∧ W0.cell? ⟨w.heap.size, 12, none⟩ = some (.int .i64 c.ge) ∧ W0.cell? ⟨w.heap.size, 13, none⟩ = some (.int .i64 c.qu) ∧ (∀ k : Nat, k < 8 → W0.cell? ⟨w.heap.size, 2 + k, none⟩ = some (.int .i64 (c.of k))) ∧ Below w.heap.size w W0 :=
          ⟨_, rfl, by go_simp, by go_simp, by go_simp, by go_simp, by go_simp, by go_simp, by go_simp, by go_simp, by go_simp, by go_simp, by go_simp, by go_simp, by go_simp, by go_simp, box_of c w, bnew (brefl w) _⟩
        rw [hW0]
        clear hW0
        have hX := @Ext.cell W0
        have hzz0 := block_lt_of_cell k0
        refine wp_region_noPanic ?_
        refine wp_region_plan (fun w' => ∃ x : Ext W0, w' = x.w) [([0, 1], 2), ([3, 4, 5, 6], 7), ([8, 9, 10, 11, 12, 13], 14)] [15, 16] (by kernel_rfl) (by kernel_rfl) (by kernel_rfl) (fun _ _ _ _ _ h => h) ⟨⟨_, (brefl W0).drew⟩, rfl⟩ ?_
        refine wpPlan_cons ?_
        simp only [pickOps, List.getElem?_cons_succ, List.getElem?_cons_zero, Option.elim_some]
        repeat (go_big_quiet_step (fail))
        refine wpQuiet_nil ?_
        refine planAct_some (fun K hK => ?_)
        go_simp
        refine (i1 _).mono ?_
        rintro e w' ⟨rfl, rfl⟩
        go_wp2_with fail
        refine hK.out _ _ ⟨⟨_, (brefl W0).drew⟩, rfl⟩ ?_
        clear hK K
        refine wpPlan_cons ?_
        simp only [pickOps, List.getElem?_cons_succ, List.getElem?_cons_zero, Option.elim_some]
        repeat (go_big_quiet_step (fail))
        refine wpQuiet_nil ?_
        refine planAct_some (fun K hK => ?_)
        go_simp
        refine (i2 _).mono ?_
        rintro e w' ⟨rfl, rfl⟩
        go_wp2_with fail
        refine hK.out _ _ ⟨⟨_, (brefl W0).drew⟩, rfl⟩ ?_
        clear hK K
        refine wpPlan_cons ?_
        simp only [pickOps, List.getElem?_cons_succ, List.getElem?_cons_zero, Option.elim_some]
        repeat (go_big_quiet_step (fail))
        refine wpQuiet_nil ?_
        refine planAct_some (fun K hK => ?_)
        go_simp
        refine (hc1 _).mono ?_
        rintro e w1 ⟨rfl, hb1⟩
        go_wp2_with fail
        refine hK.out _ _ ⟨⟨_, (bnext (brefl W0).drew hb1)⟩, rfl⟩ ?_
        clear hK K
        refine wpPlan_last ?_
        simp only [pickOps, List.getElem?_cons_succ, List.getElem?_cons_zero, Option.elim_some]
        repeat (go_big_quiet_step (fail))
        refine wpQuiet_nil ?_
        refine NoPanic.normal ?_
        clear hX hzz0
        go_wp2
        go_ret
        exact ⟨by rw [hE.out]; rfl, bnext kb (bnext (brefl W0).drew hb1)⟩
    · rw [in_no h2] at i2
      have hE : Hid (mayB c = false) := may_no fun m => h2 ⟨m.t1, m.t2⟩
      clear h2 h1
      go_enter Tryz.func66, Tryz.ntmps66
      go_wp2_with fail
      obtain ⟨W0, hW0, k0, k1, k2, k3, k4, k5, k6, k7, k8, k9, k10, k11, k12, k13, kof, kb⟩ : ∃ W0, w.alloc (.cells #[.int .i64 c.lv, .int .i64 c.th, .int .i64 c.o0, .int .i64 c.o1, .int .i64 c.o2, .int .i64 c.o3, .int .i64 c.o4, .int .i64 c.o5, .int .i64 c.o6, .int .i64 c.o7, .int .i64 c.sl, .int .i64 c.li, .int .i64 c.ge, .int .i64 c.qu] 25) = W0 ∧ W0.cell? ⟨w.heap.size, 0, none⟩ = some (.int .i64 c.lv) ∧ W0.cell? ⟨w.heap.size, 1, none⟩ = some (.int .i64 c.th) ∧ W0.cell? ⟨w.heap.size, 2, none⟩ = some (.int .i64 c.o0) ∧ W0.cell? ⟨w.heap.size, 3, none⟩ = some (.int .i64 c.o1) ∧ W0.cell? ⟨w.heap.size, 4, none⟩ = some (.int .i64 c.o2) ∧ W0.cell? ⟨w.heap.size, 5, none⟩ = some (.int .i64 c.o3) ∧ W0.cell? ⟨w.heap.size, 6, none⟩ = some (.int .i64 c.o4) ∧ W0.cell? ⟨w.heap.size, 7, none⟩ = some (.int .i64 c.o5) ∧ W0.cell? ⟨w.heap.size, 8, none⟩ = some (.int .i64 c.o6) ∧ W0.cell? ⟨w.heap.size, 9, none⟩ = some (.int .i64 c.o7) ∧ W0.cell? ⟨w.heap.size, 10, none⟩ = some (.int .i64 c.sl) ∧ W0.cell? ⟨w.heap.size, 11, none⟩ = some (.int .i64 c.li) ∧ W0.cell? ⟨w.heap.size, 12, none⟩ = some (.int .i64 c.ge) ∧ W0.cell? ⟨w.heap.size, 13, none⟩ = some (.int .i64 c.qu) ∧ (∀ k : Nat, k < 8 → W0.cell? ⟨w.heap.size, 2 + k, none⟩ = some (.int .i64 (c.of k))) ∧ Below w.heap.size w W0 :=
        ⟨_, rfl, by go_simp, by go_simp, by go_simp, by go_simp, by go_simp, by go_simp, by go_simp, by go_simp, by go_simp, by go_simp, by go_simp, by go_simp, by go_simp, by go_simp, box_of c w, bnew (brefl w) _⟩
      rw [hW0]
      clear hW0
      have hX := @Ext.cell W0
      have hzz0 := block_lt_of_cell k0
      refine wp_region_noPanic ?_
      refine wp_region_plan (fun w' => ∃ x : Ext W0, w' = x.w) [([0, 1], 2), ([3, 4, 5, 6], 7), ([8, 9, 10, 11, 12, 13], 14)] [15, 16] (by kernel_rfl) (by kernel_rfl) (by kernel_rfl) (fun _ _ _ _ _ h => h) ⟨⟨_, (brefl W0).drew⟩, rfl⟩ ?_
      refine wpPlan_cons ?_
      simp only [pickOps, List.getElem?_cons_succ, List.getElem?_cons_zero, Option.elim_some]
      repeat (go_big_quiet_step (fail))
      refine wpQuiet_nil ?_
      refine planAct_some (fun K hK => ?_)
      go_simp
      refine (i1 _).mono ?_
      rintro e w' ⟨rfl, rfl⟩
      go_wp2_with fail
      refine hK.out _ _ ⟨⟨_, (brefl W0).drew⟩, rfl⟩ ?_
      clear hK K
      refine wpPlan_cons ?_
      simp only [pickOps, List.getElem?_cons_succ, List.getElem?_cons_zero, Option.elim_some]
      repeat (go_big_quiet_step (fail))
      refine wpQuiet_nil ?_
      refine planAct_some (fun K hK => ?_)
      go_simp
      refine (i2 _).mono ?_
      rintro e w' ⟨rfl, rfl⟩
      go_wp2_with fail
      refine hK.out _ _ ⟨⟨_, (brefl W0).drew⟩, rfl⟩ ?_
      clear hK K
      refine wpPlan_cons ?_
      simp only [pickOps, List.getElem?_cons_succ, List.getElem?_cons_zero, Option.elim_some]
      repeat (go_big_quiet_step (fail))
      refine wpQuiet_nil ?_
      refine planAct_some (fun K hK => ?_)
      go_simp
      refine hK.out _ _ ⟨⟨_, (brefl W0).drew⟩, rfl⟩ ?_
      clear hK K
      refine wpPlan_last ?_
      simp only [pickOps, List.getElem?_cons_succ, List.getElem?_cons_zero, Option.elim_some]
      repeat (go_big_quiet_step (fail))
      refine wpQuiet_nil ?_
      refine NoPanic.normal ?_
      clear hX hzz0
      go_wp2
      go_ret
      exact ⟨by rw [hE.out]; rfl, bnext kb (brefl W0).drew⟩
  · have i1 := in_any c.lv 1 4
    rw [in_no h1] at i1
    have hE : Hid (mayB c = false) := may_no fun m => h1 ⟨m.l1, m.l2⟩
    clear h1
    go_enter Tryz.func66, Tryz.ntmps66
    go_wp2_with fail
    obtain ⟨W0, hW0, k0, k1, k2, k3, k4, k5, k6, k7, k8, k9, k10, k11, k12, k13, kof, kb⟩ : ∃ W0, w.alloc (.cells #[.int .i64 c.lv, .int .i64 c.th, .int .i64 c.o0, .int .i64 c.o1, .int .i64 c.o2, .int .i64 c.o3, .int .i64 c.o4, .int .i64 c.o5, .int .i64 c.o6, .int .i64 c.o7, .int .i64 c.sl, .int .i64 c.li, .int .i64 c.ge, .int .i64 c.qu] 25) = W0 ∧ W0.cell? ⟨w.heap.size, 0, none⟩ = some (.int .i64 c.lv) ∧ W0.cell? ⟨w.heap.size, 1, none⟩ = some (.int .i64 c.th) ∧ W0.cell? ⟨w.heap.size, 2, none⟩ = some (.int .i64 c.o0) ∧ W0.cell? ⟨w.heap.size, 3, none⟩ = some (.int .i64 c.o1) ∧ W0.cell? ⟨w.heap.size, 4, none⟩ = some (.int .i64 c.o2) ∧ W0.cell? ⟨w.heap.size, 5, none⟩ = some (.int .i64 c.o3) ∧ W0.cell? ⟨w.heap.size, 6, none⟩ = some (.int .i64 c.o4) ∧ W0.cell? ⟨w.heap.size, 7, none⟩ = some (.int .i64 c.o5) ∧ W0.cell? ⟨w.heap.size, 8, none⟩ = some (.int .i64 c.o6) ∧ W0.cell? ⟨w.heap.size, 9, none⟩ = some (.int .i64 c.o7) ∧ W0.cell? ⟨w.heap.size, 10, none⟩ = some (.int .i64 c.sl) ∧ W0.cell? ⟨w.heap.size, 11, none⟩ = some (.int .i64 c.li) ∧ W0.cell? ⟨w.heap.size, 12, none⟩ = some (.int .i64 c.ge) ∧ W0.cell? ⟨w.heap.size, 13, none⟩ = some (.int .i64 c.qu) ∧ (∀ k : Nat, k < 8 → W0.cell? ⟨w.heap.size, 2 + k, none⟩ = some (.int .i64 (c.of k))) ∧ Below w.heap.size w W0 :=
      ⟨_, rfl, by go_simp, by go_simp, by go_simp, by go_simp, by go_simp, by go_simp, by go_simp, by go_simp, by go_simp, by go_simp, by go_simp, by go_simp, by go_simp, by go_simp, box_of c w, bnew (brefl w) _⟩
    rw [hW0]
    clear hW0
    have hX := @Ext.cell W0
    have hzz0 := block_lt_of_cell k0
    refine wp_region_noPanic ?_
    refine wp_region_plan (fun w' => ∃ x : Ext W0, w' = x.w) [([0, 1], 2), ([3, 4, 5, 6], 7), ([8, 9, 10, 11, 12, 13], 14)] [15, 16] (by kernel_rfl) (by kernel_rfl) (by kernel_rfl) (fun _ _ _ _ _ h => h) ⟨⟨_, (brefl W0).drew⟩, rfl⟩ ?_
    refine wpPlan_cons ?_
    simp only [pickOps, List.getElem?_cons_succ, List.getElem?_cons_zero, Option.elim_some]
    repeat (go_big_quiet_step (fail))
    refine wpQuiet_nil ?_
    refine planAct_some (fun K hK => ?_)
    go_simp
    refine (i1 _).mono ?_
    rintro e w' ⟨rfl, rfl⟩
    go_wp2_with fail
    refine hK.out _ _ ⟨⟨_, (brefl W0).drew⟩, rfl⟩ ?_
    clear hK K
    refine wpPlan_cons ?_
    simp only [pickOps, List.getElem?_cons_succ, List.getElem?_cons_zero, Option.elim_some]
    repeat (go_big_quiet_step (fail))
    refine wpQuiet_nil ?_
    refine planAct_some (fun K hK => ?_)
    go_simp
    refine hK.out _ _ ⟨⟨_, (brefl W0).drew⟩, rfl⟩ ?_
    clear hK K
    refine wpPlan_cons ?_
    simp only [pickOps, List.getElem?_cons_succ, List.getElem?_cons_zero, Option.elim_some]
    repeat (go_big_quiet_step (fail))
    refine wpQuiet_nil ?_
    refine planAct_some (fun K hK => ?_)
    go_simp
    refine hK.out _ _ ⟨⟨_, (brefl W0).drew⟩, rfl⟩ ?_
    clear hK K
    refine wpPlan_last ?_
    simp only [pickOps, List.getElem?_cons_succ, List.getElem?_cons_zero, Option.elim_some]
    repeat (go_big_quiet_step (fail))
    refine wpQuiet_nil ?_
    refine NoPanic.normal ?_
    clear hX hzz0
    go_wp2
    go_ret
    exact ⟨by rw [hE.out]; rfl, bnext kb (brefl W0).drew⟩
end Go.Proofs.YtjjgngccgjpnaaaGreatDoor
