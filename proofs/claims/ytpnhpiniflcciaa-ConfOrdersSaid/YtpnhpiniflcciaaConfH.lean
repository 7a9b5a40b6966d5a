/- The law ConfOrders, walked. -/
import Derived.Test.YtpnhpiniflcciaaConfF
namespace Go.Proofs.Ytpnhpiniflcciaa
set_option linter.unusedVariables false
set_option linter.unusedSimpArgs false
open Go.RowKit

theorem thr_split (c : Cf) (l : Int) : ∀ k, (thr c (fun x => decide (x ≤ l)) k).length = (thr c (fun x => decide (x ≤ l - 1)) k).length + (thr c (fun x => x == l) k).length
  | 0 => rfl
  | k + 1 => by
    have ih := thr_split c l k
    simp only [thr, List.length_append]
    rw [ih]
    by_cases h1 : (k : Int) < c.th
    · by_cases h2 : c.of k ≤ l - 1
      · have e1 : c.of k ≤ l := by omega
        have e2 : (c.of k == l) = false := by rw [beq_eq_false_iff_ne]; omega
        simp only [decide_eq_true h1, decide_eq_true h2, decide_eq_true e1, e2, Bool.and_true, Bool.and_false, if_true, Bool.false_eq_true, if_false, List.length_singleton, List.length_nil]
        omega
      · by_cases h3 : c.of k = l
        · have e1 : c.of k ≤ l := by omega
          have e2 : (c.of k == l) = true := by rw [beq_iff_eq]; exact h3
          simp only [decide_eq_true h1, decide_eq_false h2, decide_eq_true e1, e2, Bool.and_true, Bool.and_false, if_true, Bool.false_eq_true, if_false, List.length_singleton, List.length_nil]
          omega
        · have e1 : ¬ c.of k ≤ l := by omega
          have e2 : (c.of k == l) = false := by rw [beq_eq_false_iff_ne]; exact h3
          simp only [decide_eq_true h1, decide_eq_false h2, decide_eq_false e1, e2, Bool.and_true, Bool.and_false, if_true, Bool.false_eq_true, if_false, List.length_singleton, List.length_nil]
          omega
    · simp only [decide_eq_false h1, Bool.false_and, Bool.false_eq_true, if_false, List.length_nil]
      omega
theorem atL_split (c : Cf) (l : Int) : (atL c (fun x => decide (x ≤ l))).length = (atL c (fun x => decide (x ≤ l - 1))).length + (atL c (fun x => x == l)).length := by
  unfold atL
  split
  · exact thr_split c l 8
  · rfl
theorem level_range (c : Cf) (t : Int) : -1 ≤ levelOf c t ∧ levelOf c t ≤ 3 := by
  unfold levelOf
  split
  · rename_i h
    have m : c.May := of_decide_eq_true h.1
    have l2 := m.t2
    have := m.r t.toNat (by omega)
    have := m.l2
    omega
  · omega

set_option maxHeartbeats 4000000 in
set_option maxRecDepth 100000 in
theorem conforders_walk (c : Cf) (t l : Int) (w : World) (b1 : -1000 ≤ l) (b2 : l ≤ 1000) : Calls Try.prog 7 #[.agg #[.int .i64 c.lv, .int .i64 c.th, .int .i64 c.o0, .int .i64 c.o1, .int .i64 c.o2, .int .i64 c.o3, .int .i64 c.o4, .int .i64 c.o5, .int .i64 c.o6, .int .i64 c.o7, .int .i64 c.sl, .int .i64 c.li, .int .i64 c.ge, .int .i64 c.qu], .int .i64 t, .int .i64 l] w fun e w' => e = .returned (.bool true) ∧ Below w.heap.size w w' := by
  have hlv := level_any c t
  have hwr := writes_any c t l
  have hrd := reads_any c t l
  have hrd1 := reads_any c t (l + 1)
  have HWK : Hid (∀ l, writesB c t l = decide (0 ≤ levelOf c t ∧ levelOf c t = l)) := fun l => rfl
  have HW : Hid (writesB c t l = decide (0 ≤ levelOf c t ∧ levelOf c t = l)) := rfl
  have HR : Hid (readsB c t l = decide (0 ≤ l ∧ l ≤ levelOf c t)) := rfl
  have HR1 : Hid (readsB c t (l + 1) = decide (0 ≤ l + 1 ∧ l + 1 ≤ levelOf c t)) := rfl
  obtain ⟨v1, v2⟩ := level_range c t
  have hat := at_any c l
  have hup := upto_any c l
  have hup1 := upto_any c (l - 1)
  have hN := atL_split c l
  have n1 := atL_len c (fun x => x == l)
  have n2 := atL_len c (fun x => decide (x ≤ l - 1))
  generalize (atL c (fun x => decide (x ≤ l))) = L0 at *
  generalize (atL c (fun x => x == l)) = L1 at *
  generalize (atL c (fun x => decide (x ≤ l - 1))) = L2 at *
  generalize levelOf c t = v at *
  generalize hn0 : L0.length = N0 at *
  generalize hn1 : L1.length = N1 at *
  generalize hn2 : L2.length = N2 at *
  have hup' : ∀ w : World, Calls Try.prog 28 #[.agg #[.int .i64 c.lv, .int .i64 c.th, .int .i64 c.o0, .int .i64 c.o1, .int .i64 c.o2, .int .i64 c.o3, .int .i64 c.o4, .int .i64 c.o5, .int .i64 c.o6, .int .i64 c.o7, .int .i64 c.sl, .int .i64 c.li, .int .i64 c.ge, .int .i64 c.qu], .int .i64 l] w fun e w' => ∃ A' c', e = .returned (.slice A' N0 c') ∧ Below w.heap.size w w' := fun w => (hup w).mono fun e w' ⟨A', c', q1, _, q3⟩ => ⟨A', c', q1, q3⟩
  have hup1' : ∀ w : World, Calls Try.prog 28 #[.agg #[.int .i64 c.lv, .int .i64 c.th, .int .i64 c.o0, .int .i64 c.o1, .int .i64 c.o2, .int .i64 c.o3, .int .i64 c.o4, .int .i64 c.o5, .int .i64 c.o6, .int .i64 c.o7, .int .i64 c.sl, .int .i64 c.li, .int .i64 c.ge, .int .i64 c.qu], .int .i64 (l - 1)] w fun e w' => ∃ A' c', e = .returned (.slice A' N2 c') ∧ Below w.heap.size w w' := fun w => (hup1 w).mono fun e w' ⟨A', c', q1, _, q3⟩ => ⟨A', c', q1, q3⟩
  have hat' : ∀ w : World, Calls Try.prog 26 #[.agg #[.int .i64 c.lv, .int .i64 c.th, .int .i64 c.o0, .int .i64 c.o1, .int .i64 c.o2, .int .i64 c.o3, .int .i64 c.o4, .int .i64 c.o5, .int .i64 c.o6, .int .i64 c.o7, .int .i64 c.sl, .int .i64 c.li, .int .i64 c.ge, .int .i64 c.qu], .int .i64 l] w fun e w' => ∃ A' c', e = .returned (.slice A' N1 c') ∧ Below w.heap.size w w' := fun w => (hat w).mono fun e w' ⟨A', c', q1, _, q3⟩ => ⟨A', c', q1, q3⟩
  subst hN
  clear hat hup hup1 hn0 hn1 hn2 L0 L1 L2
  go_enter Try.func7, Try.ntmps7
  go_upto_region 3 with (fail)
  obtain ⟨W0, hW0, k0, k1, k2, k3, k4, k5, k6, k7, k8, k9, k10, k11, k12, k13, kof, kb⟩ : ∃ W0, w.alloc (.cells #[.int .i64 c.lv, .int .i64 c.th, .int .i64 c.o0, .int .i64 c.o1, .int .i64 c.o2, .int .i64 c.o3, .int .i64 c.o4, .int .i64 c.o5, .int .i64 c.o6, .int .i64 c.o7, .int .i64 c.sl, .int .i64 c.li, .int .i64 c.ge, .int .i64 c.qu] 45) = W0 ∧ W0.cell? ⟨w.heap.size, 0, none⟩ = some (.int .i64 c.lv) ∧ W0.cell? ⟨w.heap.size, 1, none⟩ = some (.int .i64 c.th) ∧ W0.cell? ⟨w.heap.size, 2, none⟩ = some (.int .i64 c.o0) ∧ W0.cell? ⟨w.heap.size, 3, none⟩ = some (.int .i64 c.o1) ∧ W0.cell? ⟨w.heap.size, 4, none⟩ = some (.int .i64 c.o2) ∧ W0.cell? ⟨w.heap.size, 5, none⟩ = some (.int .i64 c.o3) ∧ W0.cell? ⟨w.heap.size, 6, none⟩ = some (.int .i64 c.o4) ∧ W0.cell? ⟨w.heap.size, 7, none⟩ = some (.int .i64 c.o5) ∧ W0.cell? ⟨w.heap.size, 8, none⟩ = some (.int .i64 c.o6) ∧ W0.cell? ⟨w.heap.size, 9, none⟩ = some (.int .i64 c.o7) ∧ W0.cell? ⟨w.heap.size, 10, none⟩ = some (.int .i64 c.sl) ∧ W0.cell? ⟨w.heap.size, 11, none⟩ = some (.int .i64 c.li) ∧ W0.cell? ⟨w.heap.size, 12, none⟩ = some (.int .i64 c.ge) ∧ W0.cell? ⟨w.heap.size, 13, none⟩ = some (.int .i64 c.qu) ∧ (∀ k : Nat, k < 8 → W0.cell? ⟨w.heap.size, 2 + k, none⟩ = some (.int .i64 (c.of k))) ∧ Below w.heap.size w W0 :=
    ⟨_, rfl, by go_simp, by go_simp, by go_simp, by go_simp, by go_simp, by go_simp, by go_simp, by go_simp, by go_simp, by go_simp, by go_simp, by go_simp, by go_simp, by go_simp, box_of c w, bnew (brefl w) _⟩
  rw [hW0]
  clear hW0
  clear kof
  have hz := block_lt_of_cell k0
  go_cut [44] (fun z w' => z = .bool false ∧ Below W0.heap.size W0 w')
  case first =>
    by_cases z1 : 0 ≤ v ∧ v = l
    · by_cases z2 : 0 ≤ l ∧ l ≤ v
      · by_cases z3 : 0 ≤ l + 1 ∧ l + 1 ≤ v
        · by_cases z4 : 0 ≤ l
          · exfalso
            omega
          · exfalso
            omega
        · by_cases z4 : 0 ≤ l
          · have ew : writesB c t l = true := by rw [HW.out]; exact decide_eq_true (by omega)
            have er : readsB c t l = true := by rw [HR.out]; exact decide_eq_true (by omega)
            have e1 : readsB c t (l + 1) = false := by rw [HR1.out]; exact decide_eq_false (by omega)
            rw [ew] at hwr
            rw [er] at hrd
            rw [e1] at hrd1
            have g : 0 ≤ l := by omega
            clear ew er e1 HW HR HR1 HWK z1 z2 z3 z4
            go_wp2_with fail
            refine (hwr _).mono ?_
            rintro e x0 ⟨rfl, hx0⟩
            obtain ⟨hc0, _, hs0⟩ := bcell hx0
            have hl0 : w.heap.size < x0.heap.size := by omega
            go_wp2_with fail
            refine (hrd _).mono ?_
            rintro e x1 ⟨rfl, hx1⟩
            obtain ⟨hc1, _, hs1⟩ := bcell hx1
            have hl1 : w.heap.size < x1.heap.size := by omega
            go_wp2_with fail
            refine (hrd1 _).mono ?_
            rintro e x2 ⟨rfl, hx2⟩
            obtain ⟨hc2, _, hs2⟩ := bcell hx2
            have hl2 : w.heap.size < x2.heap.size := by omega
            go_wp2_with fail
            go_meet
            case rel => exact ⟨rfl, (bnext (bnext (bnext (brefl W0) hx0) hx1) hx2)⟩
          · exfalso
            omega
      · by_cases z3 : 0 ≤ l + 1 ∧ l + 1 ≤ v
        · by_cases z4 : 0 ≤ l
          · exfalso
            omega
          · exfalso
            omega
        · by_cases z4 : 0 ≤ l
          · exfalso
            omega
          · exfalso
            omega
    · by_cases z2 : 0 ≤ l ∧ l ≤ v
      · by_cases z3 : 0 ≤ l + 1 ∧ l + 1 ≤ v
        · by_cases z4 : 0 ≤ l
          · have ew : writesB c t l = false := by rw [HW.out]; exact decide_eq_false (by omega)
            have er : readsB c t l = true := by rw [HR.out]; exact decide_eq_true (by omega)
            have e1 : readsB c t (l + 1) = true := by rw [HR1.out]; exact decide_eq_true (by omega)
            rw [ew] at hwr
            rw [er] at hrd
            rw [e1] at hrd1
            have g : 0 ≤ l := by omega
            clear ew er e1 HW HR HR1 HWK z1 z2 z3 z4
            go_wp2_with fail
            refine (hwr _).mono ?_
            rintro e x0 ⟨rfl, hx0⟩
            obtain ⟨hc0, _, hs0⟩ := bcell hx0
            have hl0 : w.heap.size < x0.heap.size := by omega
            go_wp2_with fail
            refine (hrd1 _).mono ?_
            rintro e x1 ⟨rfl, hx1⟩
            obtain ⟨hc1, _, hs1⟩ := bcell hx1
            have hl1 : w.heap.size < x1.heap.size := by omega
            go_wp2_with fail
            refine (hrd _).mono ?_
            rintro e x2 ⟨rfl, hx2⟩
            obtain ⟨hc2, _, hs2⟩ := bcell hx2
            have hl2 : w.heap.size < x2.heap.size := by omega
            go_wp2_with fail
            go_meet
            case rel => exact ⟨rfl, (bnext (bnext (bnext (brefl W0) hx0) hx1) hx2)⟩
          · exfalso
            omega
        · by_cases z4 : 0 ≤ l
          · exfalso
            omega
          · exfalso
            omega
      · by_cases z3 : 0 ≤ l + 1 ∧ l + 1 ≤ v
        · by_cases z4 : 0 ≤ l
          · exfalso
            omega
          · have ew : writesB c t l = false := by rw [HW.out]; exact decide_eq_false (by omega)
            have er : readsB c t l = false := by rw [HR.out]; exact decide_eq_false (by omega)
            have e1 : readsB c t (l + 1) = true := by rw [HR1.out]; exact decide_eq_true (by omega)
            rw [ew] at hwr
            rw [er] at hrd
            rw [e1] at hrd1
            have g : decide (0 ≤ l) = false := decide_eq_false (by omega)
            clear ew er e1 HW HR HR1 HWK z1 z2 z3 z4
            go_wp2_with fail
            refine (hwr _).mono ?_
            rintro e x0 ⟨rfl, hx0⟩
            obtain ⟨hc0, _, hs0⟩ := bcell hx0
            have hl0 : w.heap.size < x0.heap.size := by omega
            go_wp2_with fail
            refine (hrd1 _).mono ?_
            rintro e x1 ⟨rfl, hx1⟩
            obtain ⟨hc1, _, hs1⟩ := bcell hx1
            have hl1 : w.heap.size < x1.heap.size := by omega
            go_wp2_with fail
            go_meet
            case rel => exact ⟨rfl, (bnext (bnext (brefl W0) hx0) hx1)⟩
        · by_cases z4 : 0 ≤ l
          · have ew : writesB c t l = false := by rw [HW.out]; exact decide_eq_false (by omega)
            have er : readsB c t l = false := by rw [HR.out]; exact decide_eq_false (by omega)
            have e1 : readsB c t (l + 1) = false := by rw [HR1.out]; exact decide_eq_false (by omega)
            rw [ew] at hwr
            rw [er] at hrd
            rw [e1] at hrd1
            have g : 0 ≤ l := by omega
            clear ew er e1 HW HR HR1 HWK z1 z2 z3 z4
            go_wp2_with fail
            refine (hwr _).mono ?_
            rintro e x0 ⟨rfl, hx0⟩
            obtain ⟨hc0, _, hs0⟩ := bcell hx0
            have hl0 : w.heap.size < x0.heap.size := by omega
            go_wp2_with fail
            refine (hrd1 _).mono ?_
            rintro e x1 ⟨rfl, hx1⟩
            obtain ⟨hc1, _, hs1⟩ := bcell hx1
            have hl1 : w.heap.size < x1.heap.size := by omega
            go_wp2_with fail
            go_meet
            case rel => exact ⟨rfl, (bnext (bnext (brefl W0) hx0) hx1)⟩
          · have ew : writesB c t l = false := by rw [HW.out]; exact decide_eq_false (by omega)
            have er : readsB c t l = false := by rw [HR.out]; exact decide_eq_false (by omega)
            have e1 : readsB c t (l + 1) = false := by rw [HR1.out]; exact decide_eq_false (by omega)
            rw [ew] at hwr
            rw [er] at hrd
            rw [e1] at hrd1
            have g : decide (0 ≤ l) = false := decide_eq_false (by omega)
            clear ew er e1 HW HR HR1 HWK z1 z2 z3 z4
            go_wp2_with fail
            refine (hwr _).mono ?_
            rintro e x0 ⟨rfl, hx0⟩
            obtain ⟨hc0, _, hs0⟩ := bcell hx0
            have hl0 : w.heap.size < x0.heap.size := by omega
            go_wp2_with fail
            refine (hrd1 _).mono ?_
            rintro e x1 ⟨rfl, hx1⟩
            obtain ⟨hc1, _, hs1⟩ := bcell hx1
            have hl1 : w.heap.size < x1.heap.size := by omega
            go_wp2_with fail
            go_meet
            case rel => exact ⟨rfl, (bnext (bnext (brefl W0) hx0) hx1)⟩
  case rest =>
    obtain ⟨rfl, hbc⟩ := hcut
    have k0 := keep_below k0 hbc
    have k1 := keep_below k1 hbc
    have k2 := keep_below k2 hbc
    have k3 := keep_below k3 hbc
    have k4 := keep_below k4 hbc
    have k5 := keep_below k5 hbc
    have k6 := keep_below k6 hbc
    have k7 := keep_below k7 hbc
    have k8 := keep_below k8 hbc
    have k9 := keep_below k9 hbc
    have k10 := keep_below k10 hbc
    have k11 := keep_below k11 hbc
    have k12 := keep_below k12 hbc
    have k13 := keep_below k13 hbc
    have kb := bnext kb hbc
    have hz := block_lt_of_cell k0
    clear hrd hrd1 hwr HW HR HR1 hbc
    go_wp2_with fail
    have hX := @Ext.cell wc
    have hzz0 := block_lt_of_cell k0
    refine wp_region_noPanic ?_
    refine wp_region_plan (fun w' => ∃ x : Ext wc, w' = x.w) [([0, 1, 4, 5, 6, 9, 10], 2), ([3], 7), ([8], 11)] [12, 13, 14] (by kernel_rfl) (by kernel_rfl) (by kernel_rfl) (fun _ _ _ _ _ h => h) ⟨⟨_, (brefl wc).drew⟩, rfl⟩ ?_
    refine wpPlan_cons ?_
    simp only [pickOps, List.getElem?_cons_succ, List.getElem?_cons_zero, Option.elim_some]
    repeat (go_big_quiet_step (fail))
    refine wpQuiet_nil ?_
    refine planAct_some (fun K hK => ?_)
    go_simp
    refine (hup' _).mono ?_
    rintro e wa ⟨A1, c1, rfl, hba⟩
    go_wp2_with fail
    refine hK.out _ _ ⟨⟨_, (bnext (brefl wc).drew hba)⟩, rfl⟩ ?_
    clear hK K
    refine wpPlan_cons ?_
    simp only [pickOps, List.getElem?_cons_succ, List.getElem?_cons_zero, Option.elim_some]
    repeat (go_big_quiet_step (fail))
    refine wpQuiet_nil ?_
    refine planAct_some (fun K hK => ?_)
    go_simp
    refine (hup1' _).mono ?_
    rintro e wb ⟨A2, c2, rfl, hbb⟩
    go_wp2_with fail
    refine hK.out _ _ ⟨⟨_, (bnext (bnext (brefl wc).drew hba) hbb)⟩, rfl⟩ ?_
    clear hK K
    refine wpPlan_cons ?_
    simp only [pickOps, List.getElem?_cons_succ, List.getElem?_cons_zero, Option.elim_some]
    repeat (go_big_quiet_step (fail))
    refine wpQuiet_nil ?_
    refine planAct_some (fun K hK => ?_)
    go_simp
    refine (hat' _).mono ?_
    rintro e wd ⟨A3, c3, rfl, hbd⟩
    go_wp2_with fail
    refine hK.out _ _ ⟨⟨_, (bnext (bnext (bnext (brefl wc).drew hba) hbb) hbd)⟩, rfl⟩ ?_
    clear hK K
    refine wpPlan_last ?_
    simp only [pickOps, List.getElem?_cons_succ, List.getElem?_cons_zero, Option.elim_some]
    repeat (go_big_quiet_step (fail))
    refine wpQuiet_nil ?_
    refine NoPanic.normal ?_
    clear hX hzz0
    have hfin := (bnext (bnext (bnext (brefl wc).drew hba) hbb) hbd)
    have k0 := keep_below k0 hfin
    have k1 := keep_below k1 hfin
    have k2 := keep_below k2 hfin
    have k3 := keep_below k3 hfin
    have k4 := keep_below k4 hfin
    have k5 := keep_below k5 hfin
    have k6 := keep_below k6 hfin
    have k7 := keep_below k7 hfin
    have k8 := keep_below k8 hfin
    have k9 := keep_below k9 hfin
    have k10 := keep_below k10 hfin
    have k11 := keep_below k11 hfin
    have k12 := keep_below k12 hfin
    have k13 := keep_below k13 hfin
    have kb := bnext kb hfin
    clear hfin hba hbb hup' hup1' hat' n1 n2 hbd
    have hz := block_lt_of_cell k0
    go_wp2_with fail
    go_loopg [7, 8] 4 (fun gk nn i wr => ∃ (k : Nat) (m : Int), k + gk = 4 ∧ i = .int .i64 k ∧ nn = .int .i64 m ∧ Hid (m = if 0 ≤ v ∧ v < (k : Int) then 1 else 0) ∧ 0 ≤ m ∧ m ≤ 1 ∧ Below wd.heap.size wd wr)
    case atStart => exact ⟨0, 0, by omega, rfl, rfl, (if_neg (by omega)).symm, by omega, by omega, brefl wd⟩
    case round =>
      obtain ⟨k, m, hk, rfl, rfl, hm, m0, m1, hbr⟩ := hrel
      obtain ⟨hc0, _, hs0⟩ := bcell hbr
      have hl0 : w.heap.size < wr.heap.size := by omega
      by_cases hlt : k < 4
      · have b3 : (k : Int) < 4 := by omega
        have hwk := writes_any c t (k : Int)
        have b0 : (0 : Int) ≤ (k : Int) := by omega
        by_cases hv : v = (k : Int)
        · have e : writesB c t (k : Int) = true := by rw [HWK.out]; exact decide_eq_true (by omega)
          rw [e] at hwk
          have hm0 : m = 0 := by rw [hm.out, if_neg (by omega)]
          subst hm0
          have hm2 : Hid ((1 : Int) = if 0 ≤ v ∧ v < ((k + 1 : Nat) : Int) then 1 else 0) := (if_pos (by push_cast; omega)).symm
          clear e hm hv
          go_wp2_with (go_at_call 29; refine (hwk _).mono ?_; rintro e wx ⟨rfl, hbx⟩)
          go_roundg (gk - 1)
          case measure => omega
          case rel => exact ⟨k + 1, 1, by omega, by go_num, by first | rfl | go_num, hm2, by omega, by omega, bnext hbr hbx⟩
        · have e : writesB c t (k : Int) = false := by rw [HWK.out]; exact decide_eq_false (by omega)
          rw [e] at hwk
          have hm2 : Hid (m = if 0 ≤ v ∧ v < ((k + 1 : Nat) : Int) then 1 else 0) := by
            rw [Hid, hm.out]
            by_cases h3 : 0 ≤ v ∧ v < (k : Int)
            · rw [if_pos h3, if_pos (by push_cast; omega)]
            · rw [if_neg h3, if_neg (by push_cast; omega)]
          clear e hm hv
          go_wp2_with (go_at_call 29; refine (hwk _).mono ?_; rintro e wx ⟨rfl, hbx⟩)
          go_roundg (gk - 1)
          case measure => omega
          case rel => exact ⟨k + 1, m, by omega, by go_num, rfl, hm2, by omega, by omega, bnext hbr hbx⟩
      · obtain rfl : k = 4 := by omega
        by_cases hv : 0 ≤ v
        · have hm1 : m = 1 := by rw [hm.out, if_pos (by omega)]
          subst hm1
          clear hm HWK
          go_wp2_with (first | (go_at_call 22; refine (hlv _).mono ?_; rintro e wx ⟨rfl, hbx⟩) | (go_at_call 24; refine (lives04 _).mono ?_; rintro e wz ⟨rfl, hbz⟩))
          go_ret
          exact ⟨rfl, bnext (bnext (bnext kb hbr) hbx) hbz⟩
        · have hm1 : m = 0 := by rw [hm.out, if_neg (by omega)]
          subst hm1
          have hv' : decide (0 ≤ v) = false := decide_eq_false hv
          clear hm HWK
          go_wp2_with (first | (go_at_call 22; refine (hlv _).mono ?_; rintro e wx ⟨rfl, hbx⟩) | (go_at_call 24; refine (lives04 _).mono ?_; rintro e wz ⟨rfl, hbz⟩))
          go_ret
          exact ⟨rfl, bnext (bnext (bnext kb hbr) hbx) hbz⟩

theorem conforders_any (c : Cf) (t l : Int) (w : World) : Calls Try.prog 7 #[.agg #[.int .i64 c.lv, .int .i64 c.th, .int .i64 c.o0, .int .i64 c.o1, .int .i64 c.o2, .int .i64 c.o3, .int .i64 c.o4, .int .i64 c.o5, .int .i64 c.o6, .int .i64 c.o7, .int .i64 c.sl, .int .i64 c.li, .int .i64 c.ge, .int .i64 c.qu], .int .i64 t, .int .i64 l] w fun e w' => e = .returned (.bool true) ∧ Below w.heap.size w w' := by
  by_cases h1 : l < -1000
  · go_enter Try.func7, Try.ntmps7
    go_wp2_with (go_at_call 24; refine (lives04 _).mono ?_; rintro e wz ⟨rfl, hbz⟩)
    go_ret
    exact ⟨rfl, bnext (bnew (brefl w) _) hbz⟩
  · by_cases h2 : 1000 < l
    · go_enter Try.func7, Try.ntmps7
      go_wp2_with (go_at_call 24; refine (lives04 _).mono ?_; rintro e wz ⟨rfl, hbz⟩)
      go_ret
      exact ⟨rfl, bnext (bnew (brefl w) _) hbz⟩
    · exact conforders_walk c t l w (by omega) (by omega)
end Go.Proofs.Ytpnhpiniflcciaa
