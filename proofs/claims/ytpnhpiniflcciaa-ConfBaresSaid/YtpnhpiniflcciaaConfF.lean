/- The example; the laws ConfMay, ConfThreads, walked. -/
import Derived.Test.YtpnhpiniflcciaaConfE
namespace Go.Proofs.Ytpnhpiniflcciaa
set_option linter.unusedVariables false
set_option linter.unusedSimpArgs false
open Go.RowKit

set_option maxHeartbeats 2000000 in
set_option maxRecDepth 100000 in
theorem lives04 (w : World) : Calls Try.prog 24 #[] w fun e w' => e = .returned (.bool true) ∧ Below w.heap.size w w' := by
  have hm : ∀ w : World, Calls Try.prog 20 #[.agg #[.int .i64 2, .int .i64 3, .int .i64 0, .int .i64 1, .int .i64 0, .int .i64 0, .int .i64 0, .int .i64 0, .int .i64 0, .int .i64 0, .int .i64 2, .int .i64 1, .int .i64 1, .int .i64 0]] w fun e w' => e = .returned (.bool true) ∧ Below w.heap.size w w' := by
    have e1 : mayB ⟨2, 3, 0, 1, 0, 0, 0, 0, 0, 0, 2, 1, 1, 0⟩ = true := by decide +kernel
    have h := may_any ⟨2, 3, 0, 1, 0, 0, 0, 0, 0, 0, 2, 1, 1, 0⟩
    rw [e1] at h
    exact h
  have ha : ∀ w : World, Calls Try.prog 26 #[.agg #[.int .i64 2, .int .i64 3, .int .i64 0, .int .i64 1, .int .i64 0, .int .i64 0, .int .i64 0, .int .i64 0, .int .i64 0, .int .i64 0, .int .i64 2, .int .i64 1, .int .i64 1, .int .i64 0], .int .i64 0] w fun e w' => ∃ A' c', e = .returned (.slice A' 2 c') ∧ w'.ownsRow w.heap.size 3 1 (.slice A' 2 c') 2 ([(0 : Int), 2].flatMap ic) ∧ Below w.heap.size w w' := by
    have e1 : atL ⟨2, 3, 0, 1, 0, 0, 0, 0, 0, 0, 2, 1, 1, 0⟩ (fun x => x == 0) = [0, 2] := by decide +kernel
    have h := at_any ⟨2, 3, 0, 1, 0, 0, 0, 0, 0, 0, 2, 1, 1, 0⟩ 0
    rw [e1] at h
    exact h
  have hu : ∀ w : World, Calls Try.prog 28 #[.agg #[.int .i64 2, .int .i64 3, .int .i64 0, .int .i64 1, .int .i64 0, .int .i64 0, .int .i64 0, .int .i64 0, .int .i64 0, .int .i64 0, .int .i64 2, .int .i64 1, .int .i64 1, .int .i64 0], .int .i64 1] w fun e w' => ∃ A' c', e = .returned (.slice A' 3 c') ∧ Below w.heap.size w w' := by
    have e1 : (atL ⟨2, 3, 0, 1, 0, 0, 0, 0, 0, 0, 2, 1, 1, 0⟩ (fun x => decide (x ≤ 1))).length = 3 := by decide +kernel
    have h := upto_any ⟨2, 3, 0, 1, 0, 0, 0, 0, 0, 0, 2, 1, 1, 0⟩ 1
    rw [e1] at h
    exact fun w => (h w).mono fun e w' ⟨A', c', q1, _, q3⟩ => ⟨A', c', q1, q3⟩
  go_enter Try.func24, Try.ntmps24
  go_wp2_with fail
  obtain ⟨W0, hW0, k0, k1, k2, k3, k4, k5, k6, k7, k8, k9, k10, k11, k12, k13, kb⟩ : ∃ W0, w.alloc (.cells #[.int .i64 2, .int .i64 3, .int .i64 0, .int .i64 1, .int .i64 0, .int .i64 0, .int .i64 0, .int .i64 0, .int .i64 0, .int .i64 0, .int .i64 2, .int .i64 1, .int .i64 1, .int .i64 0] 45) = W0 ∧ W0.cell? ⟨w.heap.size, 0, none⟩ = some (.int .i64 2) ∧ W0.cell? ⟨w.heap.size, 1, none⟩ = some (.int .i64 3) ∧ W0.cell? ⟨w.heap.size, 2, none⟩ = some (.int .i64 0) ∧ W0.cell? ⟨w.heap.size, 3, none⟩ = some (.int .i64 1) ∧ W0.cell? ⟨w.heap.size, 4, none⟩ = some (.int .i64 0) ∧ W0.cell? ⟨w.heap.size, 5, none⟩ = some (.int .i64 0) ∧ W0.cell? ⟨w.heap.size, 6, none⟩ = some (.int .i64 0) ∧ W0.cell? ⟨w.heap.size, 7, none⟩ = some (.int .i64 0) ∧ W0.cell? ⟨w.heap.size, 8, none⟩ = some (.int .i64 0) ∧ W0.cell? ⟨w.heap.size, 9, none⟩ = some (.int .i64 0) ∧ W0.cell? ⟨w.heap.size, 10, none⟩ = some (.int .i64 2) ∧ W0.cell? ⟨w.heap.size, 11, none⟩ = some (.int .i64 1) ∧ W0.cell? ⟨w.heap.size, 12, none⟩ = some (.int .i64 1) ∧ W0.cell? ⟨w.heap.size, 13, none⟩ = some (.int .i64 0) ∧ Below w.heap.size w W0 :=
    ⟨_, rfl, by go_simp, by go_simp, by go_simp, by go_simp, by go_simp, by go_simp, by go_simp, by go_simp, by go_simp, by go_simp, by go_simp, by go_simp, by go_simp, by go_simp, bnew (brefl w) _⟩
  rw [hW0]
  clear hW0
  have hz := block_lt_of_cell k0
  refine (hm _).mono ?_
  rintro e w1 ⟨rfl, hb1⟩
  obtain ⟨hc1, _, hz1⟩ := bcell hb1
  go_wp2_with fail
  refine (ha _).mono ?_
  rintro e w2 ⟨A2, c2, rfl, own2, hb2⟩
  obtain ⟨hc2, _, hz2⟩ := bcell hb2
  have hz3 : w.heap.size < w1.heap.size := by omega
  have hz4 : w.heap.size < w2.heap.size := by omega
  go_wp2_with fail
  have s2 : Sl ic (w2.alloc (.cells #[.int .i64 0, .int .i64 2] 3)) (some ⟨w2.heap.size, 0, none⟩) 2 2 [0, 2] := ⟨rfl, Nat.le_refl _, Rd.new _ _ _ rfl, fun h => by cases h⟩
  refine (ints_any ((Sl.of_own ic_len (by decide) own2).alloc _) s2 (by decide)).mono ?_
  rintro e w3 ⟨rfl, d, rfl⟩
  clear s2 own2
  go_wp2_with fail
  refine (hu _).mono ?_
  rintro e w4 ⟨A4, c4, rfl, hb4⟩
  go_wp2
  go_ret
  exact ⟨rfl, bnext (below_drewN (bnew (bnext (bnext kb hb1) hb2) _) d) hb4⟩

set_option maxHeartbeats 2000000 in
set_option maxRecDepth 100000 in
theorem confmay_any (c : Cf) (t : Int) (w : World) : Calls Try.prog 5 #[.agg #[.int .i64 c.lv, .int .i64 c.th, .int .i64 c.o0, .int .i64 c.o1, .int .i64 c.o2, .int .i64 c.o3, .int .i64 c.o4, .int .i64 c.o5, .int .i64 c.o6, .int .i64 c.o7, .int .i64 c.sl, .int .i64 c.li, .int .i64 c.ge, .int .i64 c.qu], .int .i64 t] w fun e w' => e = .returned (.bool true) ∧ Below w.heap.size w w' := by
  have m1 := may_any c
  have m2 := rmay_any c
  have m3 := level_any c t
  have m4 := rlevel_any c t
  generalize mayB c = m at *
  generalize levelOf c t = v at *
  go_enter Try.func5, Try.ntmps5
  go_wp2_with fail
  obtain ⟨W0, hW0, k0, k1, k2, k3, k4, k5, k6, k7, k8, k9, k10, k11, k12, k13, kof, kb⟩ : ∃ W0, w.alloc (.cells #[.int .i64 c.lv, .int .i64 c.th, .int .i64 c.o0, .int .i64 c.o1, .int .i64 c.o2, .int .i64 c.o3, .int .i64 c.o4, .int .i64 c.o5, .int .i64 c.o6, .int .i64 c.o7, .int .i64 c.sl, .int .i64 c.li, .int .i64 c.ge, .int .i64 c.qu] 45) = W0 ∧ W0.cell? ⟨w.heap.size, 0, none⟩ = some (.int .i64 c.lv) ∧ W0.cell? ⟨w.heap.size, 1, none⟩ = some (.int .i64 c.th) ∧ W0.cell? ⟨w.heap.size, 2, none⟩ = some (.int .i64 c.o0) ∧ W0.cell? ⟨w.heap.size, 3, none⟩ = some (.int .i64 c.o1) ∧ W0.cell? ⟨w.heap.size, 4, none⟩ = some (.int .i64 c.o2) ∧ W0.cell? ⟨w.heap.size, 5, none⟩ = some (.int .i64 c.o3) ∧ W0.cell? ⟨w.heap.size, 6, none⟩ = some (.int .i64 c.o4) ∧ W0.cell? ⟨w.heap.size, 7, none⟩ = some (.int .i64 c.o5) ∧ W0.cell? ⟨w.heap.size, 8, none⟩ = some (.int .i64 c.o6) ∧ W0.cell? ⟨w.heap.size, 9, none⟩ = some (.int .i64 c.o7) ∧ W0.cell? ⟨w.heap.size, 10, none⟩ = some (.int .i64 c.sl) ∧ W0.cell? ⟨w.heap.size, 11, none⟩ = some (.int .i64 c.li) ∧ W0.cell? ⟨w.heap.size, 12, none⟩ = some (.int .i64 c.ge) ∧ W0.cell? ⟨w.heap.size, 13, none⟩ = some (.int .i64 c.qu) ∧ (∀ k : Nat, k < 8 → W0.cell? ⟨w.heap.size, 2 + k, none⟩ = some (.int .i64 (c.of k))) ∧ Below w.heap.size w W0 :=
    ⟨_, rfl, by go_simp, by go_simp, by go_simp, by go_simp, by go_simp, by go_simp, by go_simp, by go_simp, by go_simp, by go_simp, by go_simp, by go_simp, by go_simp, by go_simp, box_of c w, bnew (brefl w) _⟩
  rw [hW0]
  clear hW0
  clear kof
  have hX := @Ext.cell W0
  have hzz0 := block_lt_of_cell k0
  refine wp_region_noPanic ?_
  refine wp_region_plan (fun w' => ∃ x : Ext W0, w' = x.w) [([0, 2], 1), ([], 3), ([4, 5, 6, 7, 9, 10], 8), ([], 11), ([12, 13, 14], 15)] [16, 17] (by kernel_rfl) (by kernel_rfl) (by kernel_rfl) (fun _ _ _ _ _ h => h) ⟨⟨_, (brefl W0).drew⟩, rfl⟩ ?_
  refine wpPlan_cons ?_
  simp only [pickOps, List.getElem?_cons_succ, List.getElem?_cons_zero, Option.elim_some]
  repeat (go_big_quiet_step (fail))
  refine wpQuiet_nil ?_
  refine planAct_some (fun K hK => ?_)
  go_simp
  refine (m1 _).mono ?_
  rintro e w1 ⟨rfl, hb1⟩
  go_wp2_with fail
  refine hK.out _ _ ⟨⟨_, (bnext (brefl W0).drew hb1)⟩, rfl⟩ ?_
  clear hK K
  refine wpPlan_cons ?_
  simp only [pickOps, List.getElem?_cons_succ, List.getElem?_cons_zero, Option.elim_some]
  repeat (go_big_quiet_step (fail))
  refine wpQuiet_nil ?_
  refine planAct_some (fun K hK => ?_)
  go_simp
  refine (m2 _).mono ?_
  rintro e w2 ⟨rfl, hb2⟩
  go_wp2_with fail
  refine hK.out _ _ ⟨⟨_, (bnext (bnext (brefl W0).drew hb1) hb2)⟩, rfl⟩ ?_
  clear hK K
  refine wpPlan_cons ?_
  simp only [pickOps, List.getElem?_cons_succ, List.getElem?_cons_zero, Option.elim_some]
  repeat (go_big_quiet_step (fail))
  refine wpQuiet_nil ?_
  refine planAct_some (fun K hK => ?_)
  go_simp
  refine (m3 _).mono ?_
  rintro e w3 ⟨rfl, hb3⟩
  go_wp2_with fail
  refine hK.out _ _ ⟨⟨_, (bnext (bnext (bnext (brefl W0).drew hb1) hb2) hb3)⟩, rfl⟩ ?_
  clear hK K
  refine wpPlan_cons ?_
  simp only [pickOps, List.getElem?_cons_succ, List.getElem?_cons_zero, Option.elim_some]
  repeat (go_big_quiet_step (fail))
  refine wpQuiet_nil ?_
  refine planAct_some (fun K hK => ?_)
  go_simp
  refine (m4 _).mono ?_
  rintro e w4 ⟨rfl, hb4⟩
  go_wp2_with fail
  refine hK.out _ _ ⟨⟨_, (bnext (bnext (bnext (bnext (brefl W0).drew hb1) hb2) hb3) hb4)⟩, rfl⟩ ?_
  clear hK K
  refine wpPlan_cons ?_
  simp only [pickOps, List.getElem?_cons_succ, List.getElem?_cons_zero, Option.elim_some]
  repeat (go_big_quiet_step (fail))
  refine wpQuiet_nil ?_
  refine planAct_some (fun K hK => ?_)
  go_simp
  refine (lives04 _).mono ?_
  rintro e w5 ⟨rfl, hb5⟩
  go_wp2_with fail
  refine hK.out _ _ ⟨⟨_, (bnext (bnext (bnext (bnext (bnext (brefl W0).drew hb1) hb2) hb3) hb4) hb5)⟩, rfl⟩ ?_
  clear hK K
  refine wpPlan_last ?_
  simp only [pickOps, List.getElem?_cons_succ, List.getElem?_cons_zero, Option.elim_some]
  repeat (go_big_quiet_step (fail))
  refine wpQuiet_nil ?_
  refine NoPanic.normal ?_
  clear hX hzz0
  go_wp2
  go_ret
  exact ⟨rfl, bnext kb (bnext (bnext (bnext (bnext (bnext (brefl W0).drew hb1) hb2) hb3) hb4) hb5)⟩

theorem atL_congr (c : Cf) {p q : Int → Bool} (h : mayB c = true → ∀ k : Nat, k < 8 → p (c.of k) = q (c.of k)) : atL c p = atL c q := by
  unfold atL
  split
  · rename_i hm
    exact thr_congr c (h hm) 8 (Nat.le_refl _)
  · rfl
theorem atL_same (c : Cf) (l : Int) : atL c (between l l) = atL c (fun x => x == l) := atL_congr c fun _ k _ => by
  unfold between
  rw [Bool.eq_iff_iff]
  simp only [decide_eq_true_eq, beq_iff_eq]
  omega
theorem atL_up (c : Cf) (l : Int) : atL c (between 0 l) = atL c (fun x => decide (x ≤ l)) := atL_congr c fun hm k hk => by
  have m : c.May := of_decide_eq_true hm
  have := (m.r k hk).1
  unfold between
  rw [decide_eq_decide]
  omega
theorem atL_len (c : Cf) (p : Int → Bool) : (atL c p).length ≤ 8 := by
  unfold atL
  split
  · exact thr_len c p 8
  · simp
end Go.Proofs.Ytpnhpiniflcciaa
