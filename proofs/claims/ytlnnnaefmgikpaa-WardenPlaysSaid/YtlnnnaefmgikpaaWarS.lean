/- Clone of a warden. -/
import Derived.Test.YtlnnnaefmgikpaaWarR
namespace Go.Proofs.Ytlnnnaefmgikpaa
set_option linter.unusedVariables false
set_option linter.unusedSimpArgs false
open Go.RowKit

theorem clone_end {w W3 x1 x2 : World} {p bh bg N : Nat} {s : St} {d : Int → Int → Bool} (h : WB w p bh bg N s) (C3 : Blk x2 w.heap.size 50 #[.int .i64 s.lv, .int .i64 s.sl, .map (some bh), .map (some bg), .int .i64 s.slips]) (g1 : MapF x1 W3.drew.heap.size N (h01 s) s.H) (g2 : MapF x2 x1.heap.size N s.G d) (l1 : W3.drew.heap.size < x1.heap.size) (q1 : Below W3.drew.heap.size W3.drew x1) (q2 : Below x1.heap.size x1 x2) (hz : w.heap.size < W3.heap.size) (kb : Below w.heap.size w W3) :
    ∃ p' bh' bg', (Ending.returned (.pointer (some ⟨w.heap.size, 0, none⟩)) : Ending) = .returned (.pointer (some ⟨p', 0, none⟩)) ∧ w.heap.size ≤ p' ∧ w.heap.size ≤ bh' ∧ w.heap.size ≤ bg' ∧ WB ((x2.setCell ⟨w.heap.size, 2, none⟩ (.map (some W3.heap.size))).setCell ⟨w.heap.size, 3, none⟩ (.map (some x1.heap.size))) p' bh' bg' N s ∧ Below w.heap.size w ((x2.setCell ⟨w.heap.size, 2, none⟩ (.map (some W3.heap.size))).setCell ⟨w.heap.size, 3, none⟩ (.map (some x1.heap.size))) := by
  have l1 : W3.heap.size < x1.heap.size := l1
  have hk : Keeps (fun y => y = w.heap.size) x2 ((x2.setCell ⟨w.heap.size, 2, none⟩ (.map (some W3.heap.size))).setCell ⟨w.heap.size, 3, none⟩ (.map (some x1.heap.size))) := keepq_set (keepq_set (Keeps.refl _ x2))
  have g1' : MapF x2 W3.heap.size N (h01 s) s.H := g1.blk (q2.block _ l1)
  refine ⟨w.heap.size, W3.heap.size, x1.heap.size, rfl, Nat.le_refl _, by omega, by omega, ⟨?_, g1'.keeps hk (by omega), ⟨d, g2.keeps hk (by omega)⟩, by omega, h.l1, h.l4, h.s1, h.s60, h.hin, h.gb, h.sb⟩, bset (bset (bnext (bnext kb (of_drew q1)) q2) (Nat.le_refl _) _) (Nat.le_refl _) _⟩
  simpa using (C3.set_ 2 (.map (some W3.heap.size))).set_ 3 (.map (some x1.heap.size))
set_option maxHeartbeats 4000000 in
set_option maxRecDepth 100000 in
theorem clone_any {w : World} {p bh bg N : Nat} {s : St} (h : WB w p bh bg N s) : Calls Try.prog 17 #[.pointer (some ⟨p, 0, none⟩)] w fun e w' => ∃ p' bh' bg', e = .returned (.pointer (some ⟨p', 0, none⟩)) ∧ w.heap.size ≤ p' ∧ w.heap.size ≤ bh' ∧ w.heap.size ≤ bg' ∧ WB w' p' bh' bg' N s ∧ Below w.heap.size w w' := by
  have hWB := h
  obtain ⟨z1, z2, z3⟩ := h.lts
  have e0 := h.box.cell_ (i := 0) rfl
  have e1 := h.box.cell_ (i := 1) rfl
  have e2 := h.box.cell_ (i := 2) rfl
  have e3 := h.box.cell_ (i := 3) rfl
  have e4 := h.box.cell_ (i := 4) rfl
  have B3 := Blk.new w 50 #[.int .i64 s.lv, .int .i64 s.sl, .map (some bh), .map (some bg), .int .i64 s.slips]
  have kb3 := bnew (brefl w) (.cells #[.int .i64 s.lv, .int .i64 s.sl, .map (some bh), .map (some bg), .int .i64 s.slips] 50)
  have h3 := h.below kb3
  go_enter Try.func17, Try.ntmps17
  go_upto_region 4 with (fail)
  obtain ⟨W3, hW3⟩ : ∃ W3, w.alloc (.cells #[.int .i64 s.lv, .int .i64 s.sl, .map (some bh), .map (some bg), .int .i64 s.slips] 50) = W3 := ⟨_, rfl⟩
  rw [hW3] at B3 kb3 h3 ⊢
  clear hW3 e0 e1 e2 e3 e4 z1 z2 z3 h
  obtain ⟨z1, z2, z3⟩ := h3.lts
  have d2 := h3.box.cell_ (i := 2) rfl
  have d3 := h3.box.cell_ (i := 3) rfl
  have z0c := B3.cell_ (i := 0) rfl
  have hz3 := B3.lt
  have n1 : p ≠ w.heap.size := by have := hWB.lts; omega
  have hA := mclone_any (h3.mh.blk (w' := W3.drew) rfl)
  obtain ⟨d, hG0⟩ := h3.mg
  have hG0 := Lib.hid hG0
  have hX := @ExtK.cell (w.heap.size) W3
  have hzz0 := block_lt_of_cell d2
  have hzz1 := block_lt_of_cell z0c
  refine wp_region_noPanic ?_
  refine wp_region_tree (fun w' => ∃ x : ExtK (w.heap.size) W3, w' = x.w) (PT.two [0, 5] 1 (PT.two [2, 3] 4 (PT.one [] 6 (PT.one [7, 8] 9 (PT.one [10] 11 (PT.one [12] 13 (PT.fin []))))) 6 (PT.one [7, 8] 4 (PT.one [] 9 (PT.one [10] 11 (PT.one [12] 13 (PT.fin [])))))) 6 (PT.one [7, 8] 1 (PT.one [2, 3] 4 (PT.one [] 9 (PT.one [10] 11 (PT.one [12] 13 (PT.fin []))))))) (by kernel_rfl) (by kernel_rfl) (by kernel_rfl) (fun _ _ _ _ _ h => h) ⟨⟨_, (Keeps.refl _ W3).drew⟩, rfl⟩ ?_
  refine wpTree_two ?_
  simp only [pickOps, List.getElem?_cons_succ, List.getElem?_cons_zero, Option.elim_some]
  repeat (go_big_quiet_step (fail))
  refine wpQuiet_nil ?_
  refine ⟨?_, ?_⟩
  · refine planAct_some (fun K hK => ?_)
    go_simp
    refine hK.out _ _ (extk_mem (Keeps.refl _ W3).drew) ?_
    clear hK K
    refine wpTree_two ?_
    simp only [pickOps, List.getElem?_cons_succ, List.getElem?_cons_zero, Option.elim_some]
    repeat (go_big_quiet_step (fail))
    refine wpQuiet_nil ?_
    refine ⟨?_, ?_⟩
    · refine planAct_some (fun K hK => ?_)
      go_simp
      refine (hA).mono ?_
      rintro e x1 ⟨rfl, g1, l1, q1⟩
      go_wp2_with fail
      refine hK.out _ _ (extk_mem ((Keeps.refl _ W3).drew.trans_ (Keeps.of_below q1))) ?_
      clear hK K
      have hB := mclone_any (hG0.out.blk (w' := x1) (by exact q1.block bg (by exact z3)))
      refine wpTree_one ?_
      simp only [pickOps, List.getElem?_cons_succ, List.getElem?_cons_zero, Option.elim_some]
      repeat (go_big_quiet_step (fail))
      refine wpQuiet_nil ?_
      refine planAct_some (fun K hK => ?_)
      go_simp
      refine hK.out _ _ (extk_mem ((Keeps.refl _ W3).drew.trans_ (Keeps.of_below q1))) ?_
      clear hK K
      refine wpTree_one ?_
      simp only [pickOps, List.getElem?_cons_succ, List.getElem?_cons_zero, Option.elim_some]
      repeat (go_big_quiet_step (fail))
      refine wpQuiet_nil ?_
      refine planAct_some (fun K hK => ?_)
      go_simp
      refine (hB).mono ?_
      rintro e x2 ⟨rfl, g2, l2, q2⟩
      go_wp2_with fail
      refine hK.out _ _ (extk_mem (((Keeps.refl _ W3).drew.trans_ (Keeps.of_below q1)).trans_ (Keeps.of_below q2))) ?_
      clear hK K
      have C3 := (B3.drew.below_ q1).below_ q2
      have y2 := C3.cell_ (i := 2) rfl
      have y3 := C3.cell_ (i := 3) rfl
      have y4 := C3.frozen 2
      have y5 := C3.frozen 3
      have y6 := C3.lt
      refine wpTree_one ?_
      simp only [pickOps, List.getElem?_cons_succ, List.getElem?_cons_zero, Option.elim_some]
      repeat (go_big_quiet_step (fail))
      refine wpQuiet_nil ?_
      refine planAct_some (fun K hK => ?_)
      go_simp
      refine hK.out _ _ (extk_mem (by repeat (first | (with_reducible exact (((Keeps.refl _ W3).drew.trans_ (Keeps.of_below q1)).trans_ (Keeps.of_below q2))) | (with_reducible exact Keeps.refl _ _) | (with_reducible refine keepq_set ?_) | (with_reducible refine keepq_drew ?_)))) ?_
      clear hK K
      refine wpTree_one ?_
      simp only [pickOps, List.getElem?_cons_succ, List.getElem?_cons_zero, Option.elim_some]
      repeat (go_big_quiet_step (fail))
      refine wpQuiet_nil ?_
      refine planAct_some (fun K hK => ?_)
      go_simp
      refine hK.out _ _ (extk_mem (by repeat (first | (with_reducible exact (by repeat (first | (with_reducible exact (((Keeps.refl _ W3).drew.trans_ (Keeps.of_below q1)).trans_ (Keeps.of_below q2))) | (with_reducible exact Keeps.refl _ _) | (with_reducible refine keepq_set ?_) | (with_reducible refine keepq_drew ?_)))) | (with_reducible exact Keeps.refl _ _) | (with_reducible refine keepq_set ?_) | (with_reducible refine keepq_drew ?_)))) ?_
      clear hK K
      refine wpTree_fin ?_
      simp only [pickOps, List.getElem?_cons_succ, List.getElem?_cons_zero, Option.elim_some]
      repeat (go_big_quiet_step (fail))
      refine wpQuiet_nil ?_
      refine NoPanic.normal ?_
      clear hX hzz0 hzz1
      go_wp2_with fail
      go_ret
      exact clone_end hWB C3 g1 g2 l1 q1 q2 hz3 kb3
    · refine planAct_some (fun K hK => ?_)
      go_simp
      refine hK.out _ _ (extk_mem (Keeps.refl _ W3).drew) ?_
      clear hK K
      refine wpTree_one ?_
      simp only [pickOps, List.getElem?_cons_succ, List.getElem?_cons_zero, Option.elim_some]
      repeat (go_big_quiet_step (fail))
      refine wpQuiet_nil ?_
      refine planAct_some (fun K hK => ?_)
      go_simp
      refine (hA).mono ?_
      rintro e x1 ⟨rfl, g1, l1, q1⟩
      go_wp2_with fail
      refine hK.out _ _ (extk_mem ((Keeps.refl _ W3).drew.trans_ (Keeps.of_below q1))) ?_
      clear hK K
      have hB := mclone_any (hG0.out.blk (w' := x1) (by exact q1.block bg (by exact z3)))
      refine wpTree_one ?_
      simp only [pickOps, List.getElem?_cons_succ, List.getElem?_cons_zero, Option.elim_some]
      repeat (go_big_quiet_step (fail))
      refine wpQuiet_nil ?_
      refine planAct_some (fun K hK => ?_)
      go_simp
      refine (hB).mono ?_
      rintro e x2 ⟨rfl, g2, l2, q2⟩
      go_wp2_with fail
      refine hK.out _ _ (extk_mem (((Keeps.refl _ W3).drew.trans_ (Keeps.of_below q1)).trans_ (Keeps.of_below q2))) ?_
      clear hK K
      have C3 := (B3.drew.below_ q1).below_ q2
      have y2 := C3.cell_ (i := 2) rfl
      have y3 := C3.cell_ (i := 3) rfl
      have y4 := C3.frozen 2
      have y5 := C3.frozen 3
      have y6 := C3.lt
      refine wpTree_one ?_
      simp only [pickOps, List.getElem?_cons_succ, List.getElem?_cons_zero, Option.elim_some]
      repeat (go_big_quiet_step (fail))
      refine wpQuiet_nil ?_
      refine planAct_some (fun K hK => ?_)
      go_simp
      refine hK.out _ _ (extk_mem (by repeat (first | (with_reducible exact (((Keeps.refl _ W3).drew.trans_ (Keeps.of_below q1)).trans_ (Keeps.of_below q2))) | (with_reducible exact Keeps.refl _ _) | (with_reducible refine keepq_set ?_) | (with_reducible refine keepq_drew ?_)))) ?_
      clear hK K
      refine wpTree_one ?_
      simp only [pickOps, List.getElem?_cons_succ, List.getElem?_cons_zero, Option.elim_some]
      repeat (go_big_quiet_step (fail))
      refine wpQuiet_nil ?_
      refine planAct_some (fun K hK => ?_)
      go_simp
      refine hK.out _ _ (extk_mem (by repeat (first | (with_reducible exact (by repeat (first | (with_reducible exact (((Keeps.refl _ W3).drew.trans_ (Keeps.of_below q1)).trans_ (Keeps.of_below q2))) | (with_reducible exact Keeps.refl _ _) | (with_reducible refine keepq_set ?_) | (with_reducible refine keepq_drew ?_)))) | (with_reducible exact Keeps.refl _ _) | (with_reducible refine keepq_set ?_) | (with_reducible refine keepq_drew ?_)))) ?_
      clear hK K
      refine wpTree_fin ?_
      simp only [pickOps, List.getElem?_cons_succ, List.getElem?_cons_zero, Option.elim_some]
      repeat (go_big_quiet_step (fail))
      refine wpQuiet_nil ?_
      refine NoPanic.normal ?_
      clear hX hzz0 hzz1
      go_wp2_with fail
      go_ret
      exact clone_end hWB C3 g1 g2 l1 q1 q2 hz3 kb3
  · refine planAct_some (fun K hK => ?_)
    go_simp
    refine hK.out _ _ (extk_mem (Keeps.refl _ W3).drew) ?_
    clear hK K
    refine wpTree_one ?_
    simp only [pickOps, List.getElem?_cons_succ, List.getElem?_cons_zero, Option.elim_some]
    repeat (go_big_quiet_step (fail))
    refine wpQuiet_nil ?_
    refine planAct_some (fun K hK => ?_)
    go_simp
    refine hK.out _ _ (extk_mem (Keeps.refl _ W3).drew) ?_
    clear hK K
    refine wpTree_one ?_
    simp only [pickOps, List.getElem?_cons_succ, List.getElem?_cons_zero, Option.elim_some]
    repeat (go_big_quiet_step (fail))
    refine wpQuiet_nil ?_
    refine planAct_some (fun K hK => ?_)
    go_simp
    refine (hA).mono ?_
    rintro e x1 ⟨rfl, g1, l1, q1⟩
    go_wp2_with fail
    refine hK.out _ _ (extk_mem ((Keeps.refl _ W3).drew.trans_ (Keeps.of_below q1))) ?_
    clear hK K
    have hB := mclone_any (hG0.out.blk (w' := x1) (by exact q1.block bg (by exact z3)))
    refine wpTree_one ?_
    simp only [pickOps, List.getElem?_cons_succ, List.getElem?_cons_zero, Option.elim_some]
    repeat (go_big_quiet_step (fail))
    refine wpQuiet_nil ?_
    refine planAct_some (fun K hK => ?_)
    go_simp
    refine (hB).mono ?_
    rintro e x2 ⟨rfl, g2, l2, q2⟩
    go_wp2_with fail
    refine hK.out _ _ (extk_mem (((Keeps.refl _ W3).drew.trans_ (Keeps.of_below q1)).trans_ (Keeps.of_below q2))) ?_
    clear hK K
    have C3 := (B3.drew.below_ q1).below_ q2
    have y2 := C3.cell_ (i := 2) rfl
    have y3 := C3.cell_ (i := 3) rfl
    have y4 := C3.frozen 2
    have y5 := C3.frozen 3
    have y6 := C3.lt
    refine wpTree_one ?_
    simp only [pickOps, List.getElem?_cons_succ, List.getElem?_cons_zero, Option.elim_some]
    repeat (go_big_quiet_step (fail))
    refine wpQuiet_nil ?_
    refine planAct_some (fun K hK => ?_)
    go_simp
    refine hK.out _ _ (extk_mem (by repeat (first | (with_reducible exact (((Keeps.refl _ W3).drew.trans_ (Keeps.of_below q1)).trans_ (Keeps.of_below q2))) | (with_reducible exact Keeps.refl _ _) | (with_reducible refine keepq_set ?_) | (with_reducible refine keepq_drew ?_)))) ?_
    clear hK K
    refine wpTree_one ?_
    simp only [pickOps, List.getElem?_cons_succ, List.getElem?_cons_zero, Option.elim_some]
    repeat (go_big_quiet_step (fail))
    refine wpQuiet_nil ?_
    refine planAct_some (fun K hK => ?_)
    go_simp
    refine hK.out _ _ (extk_mem (by repeat (first | (with_reducible exact (by repeat (first | (with_reducible exact (((Keeps.refl _ W3).drew.trans_ (Keeps.of_below q1)).trans_ (Keeps.of_below q2))) | (with_reducible exact Keeps.refl _ _) | (with_reducible refine keepq_set ?_) | (with_reducible refine keepq_drew ?_)))) | (with_reducible exact Keeps.refl _ _) | (with_reducible refine keepq_set ?_) | (with_reducible refine keepq_drew ?_)))) ?_
    clear hK K
    refine wpTree_fin ?_
    simp only [pickOps, List.getElem?_cons_succ, List.getElem?_cons_zero, Option.elim_some]
    repeat (go_big_quiet_step (fail))
    refine wpQuiet_nil ?_
    refine NoPanic.normal ?_
    clear hX hzz0 hzz1
    go_wp2_with fail
    go_ret
    exact clone_end hWB C3 g1 g2 l1 q1 q2 hz3 kb3
end Go.Proofs.Ytlnnnaefmgikpaa
