/- The law ConfThreads, walked. -/
import Derived.Test.YtpnhpiniflcciaaConfF
namespace Go.Proofs.Ytpnhpiniflcciaa
set_option linter.unusedVariables false
set_option linter.unusedSimpArgs false
open Go.RowKit

set_option maxHeartbeats 4000000 in
set_option maxRecDepth 100000 in
theorem confthreads_any (c : Cf) (t l : Int) (w : World) : Calls Try.prog 6 #[.agg #[.int .i64 c.lv, .int .i64 c.th, .int .i64 c.o0, .int .i64 c.o1, .int .i64 c.o2, .int .i64 c.o3, .int .i64 c.o4, .int .i64 c.o5, .int .i64 c.o6, .int .i64 c.o7, .int .i64 c.sl, .int .i64 c.li, .int .i64 c.ge, .int .i64 c.qu], .int .i64 t, .int .i64 l] w fun e w' => e = .returned (.bool true) ∧ Below w.heap.size w w' := by
  have hlv := rlevel_any c t
  have hwr := writes_any c t l
  have hrd := reads_any c t l
  have HW : Hid (writesB c t l = decide (0 ≤ levelOf c t ∧ levelOf c t = l)) := rfl
  have HR : Hid (readsB c t l = decide (0 ≤ l ∧ l ≤ levelOf c t)) := rfl
  have hat := at_any c l
  have hra := rat_any c l l
  rw [atL_same] at hra
  have hup := upto_any c l
  have hru := rat_any c 0 l
  rw [atL_up] at hru
  have n1 := atL_len c (fun x => x == l)
  have n2 := atL_len c (fun x => decide (x ≤ l))
  generalize atL c (fun x => x == l) = L1 at *
  generalize atL c (fun x => decide (x ≤ l)) = L2 at *
  generalize levelOf c t = v at *
  go_enter Try.func6, Try.ntmps6
  go_wp2_with fail
  obtain ⟨W0, hW0, k0, k1, k2, k3, k4, k5, k6, k7, k8, k9, k10, k11, k12, k13, kof, kb⟩ : ∃ W0, w.alloc (.cells #[.int .i64 c.lv, .int .i64 c.th, .int .i64 c.o0, .int .i64 c.o1, .int .i64 c.o2, .int .i64 c.o3, .int .i64 c.o4, .int .i64 c.o5, .int .i64 c.o6, .int .i64 c.o7, .int .i64 c.sl, .int .i64 c.li, .int .i64 c.ge, .int .i64 c.qu] 45) = W0 ∧ W0.cell? ⟨w.heap.size, 0, none⟩ = some (.int .i64 c.lv) ∧ W0.cell? ⟨w.heap.size, 1, none⟩ = some (.int .i64 c.th) ∧ W0.cell? ⟨w.heap.size, 2, none⟩ = some (.int .i64 c.o0) ∧ W0.cell? ⟨w.heap.size, 3, none⟩ = some (.int .i64 c.o1) ∧ W0.cell? ⟨w.heap.size, 4, none⟩ = some (.int .i64 c.o2) ∧ W0.cell? ⟨w.heap.size, 5, none⟩ = some (.int .i64 c.o3) ∧ W0.cell? ⟨w.heap.size, 6, none⟩ = some (.int .i64 c.o4) ∧ W0.cell? ⟨w.heap.size, 7, none⟩ = some (.int .i64 c.o5) ∧ W0.cell? ⟨w.heap.size, 8, none⟩ = some (.int .i64 c.o6) ∧ W0.cell? ⟨w.heap.size, 9, none⟩ = some (.int .i64 c.o7) ∧ W0.cell? ⟨w.heap.size, 10, none⟩ = some (.int .i64 c.sl) ∧ W0.cell? ⟨w.heap.size, 11, none⟩ = some (.int .i64 c.li) ∧ W0.cell? ⟨w.heap.size, 12, none⟩ = some (.int .i64 c.ge) ∧ W0.cell? ⟨w.heap.size, 13, none⟩ = some (.int .i64 c.qu) ∧ (∀ k : Nat, k < 8 → W0.cell? ⟨w.heap.size, 2 + k, none⟩ = some (.int .i64 (c.of k))) ∧ Below w.heap.size w W0 :=
    ⟨_, rfl, by go_simp, by go_simp, by go_simp, by go_simp, by go_simp, by go_simp, by go_simp, by go_simp, by go_simp, by go_simp, by go_simp, by go_simp, by go_simp, by go_simp, box_of c w, bnew (brefl w) _⟩
  rw [hW0]
  clear hW0
  clear kof
  have hz := block_lt_of_cell k0
  refine (hlv _).mono ?_
  rintro e w0 ⟨rfl, hb0⟩
  obtain ⟨W1, hW1⟩ : ∃ W1, w0 = W1 := ⟨_, rfl⟩
  subst hW1
  have k0 := keep_below k0 hb0
  have k1 := keep_below k1 hb0
  have k2 := keep_below k2 hb0
  have k3 := keep_below k3 hb0
  have k4 := keep_below k4 hb0
  have k5 := keep_below k5 hb0
  have k6 := keep_below k6 hb0
  have k7 := keep_below k7 hb0
  have k8 := keep_below k8 hb0
  have k9 := keep_below k9 hb0
  have k10 := keep_below k10 hb0
  have k11 := keep_below k11 hb0
  have k12 := keep_below k12 hb0
  have k13 := keep_below k13 hb0
  have kb := bnext kb hb0
  go_wp2_with fail
  have hX := @Ext.cell w0
  have hzz0 := block_lt_of_cell k0
  refine wp_region_noPanic ?_
  refine wp_region_plan (fun w' => ∃ x : Ext w0, w' = x.w) [([0, 1, 3, 4, 5], 2), ([], 6), ([], 7), ([8, 9, 10, 11, 13, 14], 12), ([], 15), ([], 16)] [17, 18] (by kernel_rfl) (by kernel_rfl) (by kernel_rfl) (fun _ _ _ _ _ h => h) ⟨⟨_, (brefl w0).drew⟩, rfl⟩ ?_
  refine wpPlan_cons ?_
  simp only [pickOps, List.getElem?_cons_succ, List.getElem?_cons_zero, Option.elim_some]
  repeat (go_big_quiet_step (fail))
  refine wpQuiet_nil ?_
  refine planAct_some (fun K hK => ?_)
  go_simp
  refine (hat _).mono ?_
  rintro e wa ⟨A1, c1, rfl, own1, hba⟩
  go_wp2_with fail
  refine hK.out _ _ ⟨⟨_, (bnext (brefl w0).drew hba)⟩, rfl⟩ ?_
  clear hK K
  refine wpPlan_cons ?_
  simp only [pickOps, List.getElem?_cons_succ, List.getElem?_cons_zero, Option.elim_some]
  repeat (go_big_quiet_step (fail))
  refine wpQuiet_nil ?_
  refine planAct_some (fun K hK => ?_)
  go_simp
  refine (hra _).mono ?_
  rintro e wb ⟨A2, c2, rfl, own2, hbb⟩
  go_wp2_with fail
  refine hK.out _ _ ⟨⟨_, (bnext (bnext (brefl w0).drew hba) hbb)⟩, rfl⟩ ?_
  clear hK K
  refine wpPlan_cons ?_
  simp only [pickOps, List.getElem?_cons_succ, List.getElem?_cons_zero, Option.elim_some]
  repeat (go_big_quiet_step (fail))
  refine wpQuiet_nil ?_
  refine planAct_some (fun K hK => ?_)
  go_simp
  refine (ints_any ((Sl.of_own ic_len (by decide) own1).below hbb) (Sl.of_own ic_len (by decide) own2) (by omega)).mono ?_
  rintro e wd ⟨rfl, d1, rfl⟩
  go_wp2_with fail
  refine hK.out _ _ ⟨⟨_, (below_drewN (bnext (bnext (brefl w0).drew hba) hbb) d1)⟩, rfl⟩ ?_
  clear hK K
  refine wpPlan_cons ?_
  simp only [pickOps, List.getElem?_cons_succ, List.getElem?_cons_zero, Option.elim_some]
  repeat (go_big_quiet_step (fail))
  refine wpQuiet_nil ?_
  refine planAct_some (fun K hK => ?_)
  go_simp
  refine (hup _).mono ?_
  rintro e wd ⟨A3, c3, rfl, own3, hbd⟩
  go_wp2_with fail
  refine hK.out _ _ ⟨⟨_, (bnext (below_drewN (bnext (bnext (brefl w0).drew hba) hbb) d1) hbd)⟩, rfl⟩ ?_
  clear hK K
  refine wpPlan_cons ?_
  simp only [pickOps, List.getElem?_cons_succ, List.getElem?_cons_zero, Option.elim_some]
  repeat (go_big_quiet_step (fail))
  refine wpQuiet_nil ?_
  refine planAct_some (fun K hK => ?_)
  go_simp
  refine (hru _).mono ?_
  rintro e we ⟨A4, c4, rfl, own4, hbe⟩
  go_wp2_with fail
  refine hK.out _ _ ⟨⟨_, (bnext (bnext (below_drewN (bnext (bnext (brefl w0).drew hba) hbb) d1) hbd) hbe)⟩, rfl⟩ ?_
  clear hK K
  refine wpPlan_cons ?_
  simp only [pickOps, List.getElem?_cons_succ, List.getElem?_cons_zero, Option.elim_some]
  repeat (go_big_quiet_step (fail))
  refine wpQuiet_nil ?_
  refine planAct_some (fun K hK => ?_)
  go_simp
  refine (ints_any ((Sl.of_own ic_len (by decide) own3).below hbe) (Sl.of_own ic_len (by decide) own4) (by omega)).mono ?_
  rintro e wf ⟨rfl, d2, rfl⟩
  go_wp2_with fail
  refine hK.out _ _ ⟨⟨_, (below_drewN (bnext (bnext (below_drewN (bnext (bnext (brefl w0).drew hba) hbb) d1) hbd) hbe) d2)⟩, rfl⟩ ?_
  clear hK K
  refine wpPlan_last ?_
  simp only [pickOps, List.getElem?_cons_succ, List.getElem?_cons_zero, Option.elim_some]
  repeat (go_big_quiet_step (fail))
  refine wpQuiet_nil ?_
  refine NoPanic.normal ?_
  clear hX hzz0
  have hfin := (below_drewN (bnext (bnext (below_drewN (bnext (bnext (brefl w0).drew hba) hbb) d1) hbd) hbe) d2)
  generalize we.drewN d2 = w9 at *
  have q0 := keep_below k0 hfin
  have q1 := keep_below k1 hfin
  have q2 := keep_below k2 hfin
  have q3 := keep_below k3 hfin
  have q4 := keep_below k4 hfin
  have q5 := keep_below k5 hfin
  have q6 := keep_below k6 hfin
  have q7 := keep_below k7 hfin
  have q8 := keep_below k8 hfin
  have q9 := keep_below k9 hfin
  have q10 := keep_below k10 hfin
  have q11 := keep_below k11 hfin
  have q12 := keep_below k12 hfin
  have q13 := keep_below k13 hfin
  have kb9 := bnext kb hfin
  clear own1 own2 own3 own4 hba hbb hbd hbe hat hra hup hru n1 n2 k0 k1 k2 k3 k4 k5 k6 k7 k8 k9 k10 k11 k12 k13 hfin kb hb0
  by_cases a1 : 0 ≤ v
  · by_cases a2 : v = l
    · by_cases a3 : 0 ≤ l
      · by_cases a4 : l ≤ v
        · have ew : writesB c t l = true := by rw [HW.out]; exact decide_eq_true (by omega)
          have er : readsB c t l = true := by rw [HR.out]; exact decide_eq_true (by omega)
          rw [ew] at hwr
          rw [er] at hrd
          have t2 : (v == l) = true := by rw [beq_iff_eq]; omega
          have t1 : decide (0 ≤ v) = true := decide_eq_true (by omega)
          have t3 : decide (0 ≤ l) = true := decide_eq_true (by omega)
          have t4 : decide (l ≤ v) = true := decide_eq_true (by omega)
          clear ew er HW HR a1 a3 a4 a2
          have u1 : 0 ≤ v := of_decide_eq_true t1
          have u3 : 0 ≤ l := of_decide_eq_true t3
          have u4 : l ≤ v := of_decide_eq_true t4
          go_wp2_with (first | (go_at_call 29; refine (hwr _).mono ?_; rintro e wx ⟨rfl, hbx⟩; obtain ⟨hcx, _, hzx⟩ := bcell hbx; have hzz := block_lt_of_cell q0) | (go_at_call 30; refine (hrd _).mono ?_; rintro e wy ⟨rfl, hby⟩) | (go_at_call 24; refine (lives04 _).mono ?_; rintro e wz ⟨rfl, hbz⟩))
          go_ret
          exact ⟨rfl, bnext (bnext (bnext kb9 hbx) hby) hbz⟩
        · exfalso
          omega
      · by_cases a4 : l ≤ v
        · exfalso
          omega
        · exfalso
          omega
    · by_cases a3 : 0 ≤ l
      · by_cases a4 : l ≤ v
        · have ew : writesB c t l = false := by rw [HW.out]; exact decide_eq_false (by omega)
          have er : readsB c t l = true := by rw [HR.out]; exact decide_eq_true (by omega)
          rw [ew] at hwr
          rw [er] at hrd
          have t2 : (v == l) = false := by rw [beq_eq_false_iff_ne]; omega
          have t1 : decide (0 ≤ v) = true := decide_eq_true (by omega)
          have t3 : decide (0 ≤ l) = true := decide_eq_true (by omega)
          have t4 : decide (l ≤ v) = true := decide_eq_true (by omega)
          clear ew er HW HR a1 a3 a4 a2
          have u1 : 0 ≤ v := of_decide_eq_true t1
          have u3 : 0 ≤ l := of_decide_eq_true t3
          have u4 : l ≤ v := of_decide_eq_true t4
          go_wp2_with (first | (go_at_call 29; refine (hwr _).mono ?_; rintro e wx ⟨rfl, hbx⟩; obtain ⟨hcx, _, hzx⟩ := bcell hbx; have hzz := block_lt_of_cell q0) | (go_at_call 30; refine (hrd _).mono ?_; rintro e wy ⟨rfl, hby⟩) | (go_at_call 24; refine (lives04 _).mono ?_; rintro e wz ⟨rfl, hbz⟩))
          go_ret
          exact ⟨rfl, bnext (bnext (bnext kb9 hbx) hby) hbz⟩
        · have ew : writesB c t l = false := by rw [HW.out]; exact decide_eq_false (by omega)
          have er : readsB c t l = false := by rw [HR.out]; exact decide_eq_false (by omega)
          rw [ew] at hwr
          rw [er] at hrd
          have t2 : (v == l) = false := by rw [beq_eq_false_iff_ne]; omega
          have t1 : decide (0 ≤ v) = true := decide_eq_true (by omega)
          have t3 : decide (0 ≤ l) = true := decide_eq_true (by omega)
          have t4 : decide (l ≤ v) = false := decide_eq_false (by omega)
          clear ew er HW HR a1 a3 a4 a2
          have u1 : 0 ≤ v := of_decide_eq_true t1
          have u3 : 0 ≤ l := of_decide_eq_true t3
          go_wp2_with (first | (go_at_call 29; refine (hwr _).mono ?_; rintro e wx ⟨rfl, hbx⟩; obtain ⟨hcx, _, hzx⟩ := bcell hbx; have hzz := block_lt_of_cell q0) | (go_at_call 30; refine (hrd _).mono ?_; rintro e wy ⟨rfl, hby⟩) | (go_at_call 24; refine (lives04 _).mono ?_; rintro e wz ⟨rfl, hbz⟩))
          go_ret
          exact ⟨rfl, bnext (bnext (bnext kb9 hbx) hby) hbz⟩
      · by_cases a4 : l ≤ v
        · have ew : writesB c t l = false := by rw [HW.out]; exact decide_eq_false (by omega)
          have er : readsB c t l = false := by rw [HR.out]; exact decide_eq_false (by omega)
          rw [ew] at hwr
          rw [er] at hrd
          have t2 : (v == l) = false := by rw [beq_eq_false_iff_ne]; omega
          have t1 : decide (0 ≤ v) = true := decide_eq_true (by omega)
          have t3 : decide (0 ≤ l) = false := decide_eq_false (by omega)
          have t4 : decide (l ≤ v) = true := decide_eq_true (by omega)
          clear ew er HW HR a1 a3 a4 a2
          have u1 : 0 ≤ v := of_decide_eq_true t1
          have u4 : l ≤ v := of_decide_eq_true t4
          go_wp2_with (first | (go_at_call 29; refine (hwr _).mono ?_; rintro e wx ⟨rfl, hbx⟩; obtain ⟨hcx, _, hzx⟩ := bcell hbx; have hzz := block_lt_of_cell q0) | (go_at_call 30; refine (hrd _).mono ?_; rintro e wy ⟨rfl, hby⟩) | (go_at_call 24; refine (lives04 _).mono ?_; rintro e wz ⟨rfl, hbz⟩))
          go_ret
          exact ⟨rfl, bnext (bnext (bnext kb9 hbx) hby) hbz⟩
        · exfalso
          omega
  · by_cases a2 : v = l
    · by_cases a3 : 0 ≤ l
      · by_cases a4 : l ≤ v
        · exfalso
          omega
        · exfalso
          omega
      · by_cases a4 : l ≤ v
        · have ew : writesB c t l = false := by rw [HW.out]; exact decide_eq_false (by omega)
          have er : readsB c t l = false := by rw [HR.out]; exact decide_eq_false (by omega)
          rw [ew] at hwr
          rw [er] at hrd
          have t2 : (v == l) = true := by rw [beq_iff_eq]; omega
          have t1 : decide (0 ≤ v) = false := decide_eq_false (by omega)
          have t3 : decide (0 ≤ l) = false := decide_eq_false (by omega)
          have t4 : decide (l ≤ v) = true := decide_eq_true (by omega)
          clear ew er HW HR a1 a3 a4 a2
          have u4 : l ≤ v := of_decide_eq_true t4
          go_wp2_with (first | (go_at_call 29; refine (hwr _).mono ?_; rintro e wx ⟨rfl, hbx⟩; obtain ⟨hcx, _, hzx⟩ := bcell hbx; have hzz := block_lt_of_cell q0) | (go_at_call 30; refine (hrd _).mono ?_; rintro e wy ⟨rfl, hby⟩) | (go_at_call 24; refine (lives04 _).mono ?_; rintro e wz ⟨rfl, hbz⟩))
          go_ret
          exact ⟨rfl, bnext (bnext (bnext kb9 hbx) hby) hbz⟩
        · exfalso
          omega
    · by_cases a3 : 0 ≤ l
      · by_cases a4 : l ≤ v
        · exfalso
          omega
        · have ew : writesB c t l = false := by rw [HW.out]; exact decide_eq_false (by omega)
          have er : readsB c t l = false := by rw [HR.out]; exact decide_eq_false (by omega)
          rw [ew] at hwr
          rw [er] at hrd
          have t2 : (v == l) = false := by rw [beq_eq_false_iff_ne]; omega
          have t1 : decide (0 ≤ v) = false := decide_eq_false (by omega)
          have t3 : decide (0 ≤ l) = true := decide_eq_true (by omega)
          have t4 : decide (l ≤ v) = false := decide_eq_false (by omega)
          clear ew er HW HR a1 a3 a4 a2
          have u3 : 0 ≤ l := of_decide_eq_true t3
          go_wp2_with (first | (go_at_call 29; refine (hwr _).mono ?_; rintro e wx ⟨rfl, hbx⟩; obtain ⟨hcx, _, hzx⟩ := bcell hbx; have hzz := block_lt_of_cell q0) | (go_at_call 30; refine (hrd _).mono ?_; rintro e wy ⟨rfl, hby⟩) | (go_at_call 24; refine (lives04 _).mono ?_; rintro e wz ⟨rfl, hbz⟩))
          go_ret
          exact ⟨rfl, bnext (bnext (bnext kb9 hbx) hby) hbz⟩
      · by_cases a4 : l ≤ v
        · have ew : writesB c t l = false := by rw [HW.out]; exact decide_eq_false (by omega)
          have er : readsB c t l = false := by rw [HR.out]; exact decide_eq_false (by omega)
          rw [ew] at hwr
          rw [er] at hrd
          have t2 : (v == l) = false := by rw [beq_eq_false_iff_ne]; omega
          have t1 : decide (0 ≤ v) = false := decide_eq_false (by omega)
          have t3 : decide (0 ≤ l) = false := decide_eq_false (by omega)
          have t4 : decide (l ≤ v) = true := decide_eq_true (by omega)
          clear ew er HW HR a1 a3 a4 a2
          have u4 : l ≤ v := of_decide_eq_true t4
          go_wp2_with (first | (go_at_call 29; refine (hwr _).mono ?_; rintro e wx ⟨rfl, hbx⟩; obtain ⟨hcx, _, hzx⟩ := bcell hbx; have hzz := block_lt_of_cell q0) | (go_at_call 30; refine (hrd _).mono ?_; rintro e wy ⟨rfl, hby⟩) | (go_at_call 24; refine (lives04 _).mono ?_; rintro e wz ⟨rfl, hbz⟩))
          go_ret
          exact ⟨rfl, bnext (bnext (bnext kb9 hbx) hby) hbz⟩
        · have ew : writesB c t l = false := by rw [HW.out]; exact decide_eq_false (by omega)
          have er : readsB c t l = false := by rw [HR.out]; exact decide_eq_false (by omega)
          rw [ew] at hwr
          rw [er] at hrd
          have t2 : (v == l) = false := by rw [beq_eq_false_iff_ne]; omega
          have t1 : decide (0 ≤ v) = false := decide_eq_false (by omega)
          have t3 : decide (0 ≤ l) = false := decide_eq_false (by omega)
          have t4 : decide (l ≤ v) = false := decide_eq_false (by omega)
          clear ew er HW HR a1 a3 a4 a2
          go_wp2_with (first | (go_at_call 29; refine (hwr _).mono ?_; rintro e wx ⟨rfl, hbx⟩; obtain ⟨hcx, _, hzx⟩ := bcell hbx; have hzz := block_lt_of_cell q0) | (go_at_call 30; refine (hrd _).mono ?_; rintro e wy ⟨rfl, hby⟩) | (go_at_call 24; refine (lives04 _).mono ?_; rintro e wz ⟨rfl, hbz⟩))
          go_ret
          exact ⟨rfl, bnext (bnext (bnext kb9 hbx) hby) hbz⟩
end Go.Proofs.Ytpnhpiniflcciaa
