/- A warden: Link, Leads, Slips, New. -/
import Derived.Test.YtlnnnaefmgikpaaWarD
namespace Go.Proofs.Ytlnnnaefmgikpaa
set_option linter.unusedVariables false
set_option linter.unusedSimpArgs false
open Go.RowKit

def linkV (s : St) (a b : Int) : Nat := if inR s a b = true then lmk b (s.G a b) else 0
set_option maxHeartbeats 4000000 in
set_option maxRecDepth 100000 in
theorem link_out {w : World} {p bh bg N : Nat} {s : St} (h : WB w p bh bg N s) (a b : Int) (hir : inR s a b = false) : Calls Try.prog 10 #[.pointer (some ⟨p, 0, none⟩), .int .i64 a, .int .i64 b] w fun e w' => e = .returned (.int .u64 0) ∧ Below w.heap.size w w' := by
  go_enter Try.func10, Try.ntmps10
  go_upto_region 2 with (fail)
  obtain ⟨W1, hW1, Q1, h1, k1⟩ : ∃ W1, w.alloc (.cells #[.int .i64 a, .int .i64 b] 52) = W1 ∧ Blk W1 w.heap.size 52 #[.int .i64 a, .int .i64 b] ∧ WB W1 p bh bg N s ∧ Below w.heap.size w W1 := ⟨_, rfl, Blk.new _ _ _, h.below (bnew (brefl w) _), bnew (brefl w) _⟩
  rw [hW1]
  have hpz := h.box.lt
  have hpq : p ≠ w.heap.size := by omega
  have hbhq : bh ≠ w.heap.size := by have := h.mh.lt; omega
  have hbgq : bg ≠ w.heap.size := h.mg.elim fun d hm => by have := hm.lt; omega
  clear hW1 h
  generalize hq : w.heap.size = q at *
  have d0 : W1.cell? ⟨q, 0, none⟩ = some (.int .i64 a) := Q1.cell 0
  have d1 : W1.cell? ⟨q, 1, none⟩ = some (.int .i64 b) := Q1.cell 1
  have c2 : W1.cell? ⟨p, 2, none⟩ = some (.map (some bh)) := h1.box.cell 2
  have hpz1 := h1.box.lt
  have HQ := Lib.hid hq
  have k1' : Below w.heap.size w W1 := by rw [hq]; exact k1
  clear hq
  have hth := there_any h1 a b
  rw [hir] at hth
  go_wp2_with (go_at_call 20; refine hth.mono ?_; rintro e w2 ⟨rfl, hb2⟩)
  go_ret
  exact ⟨rfl, bnext k1' hb2⟩
set_option maxHeartbeats 4000000 in
set_option maxRecDepth 100000 in
theorem link_in {w : World} {p bh bg N : Nat} {s : St} (h : WB w p bh bg N s) (a b : Int) (hir : inR s a b = true) : Calls Try.prog 10 #[.pointer (some ⟨p, 0, none⟩), .int .i64 a, .int .i64 b] w fun e w' => e = .returned (.int .u64 (lmk b (s.G a b) : Nat)) ∧ Below w.heap.size w w' := by
  obtain ⟨hwa, hwb⟩ := h.wf hir
  go_enter Try.func10, Try.ntmps10
  go_upto_region 2 with (fail)
  obtain ⟨W1, hW1, Q1, h1, k1⟩ : ∃ W1, w.alloc (.cells #[.int .i64 a, .int .i64 b] 52) = W1 ∧ Blk W1 w.heap.size 52 #[.int .i64 a, .int .i64 b] ∧ WB W1 p bh bg N s ∧ Below w.heap.size w W1 := ⟨_, rfl, Blk.new _ _ _, h.below (bnew (brefl w) _), bnew (brefl w) _⟩
  rw [hW1]
  have hpz := h.box.lt
  have hpq : p ≠ w.heap.size := by omega
  have hbhq : bh ≠ w.heap.size := by have := h.mh.lt; omega
  have hbgq : bg ≠ w.heap.size := h.mg.elim fun d hm => by have := hm.lt; omega
  clear hW1 h
  generalize hq : w.heap.size = q at *
  have d0 : W1.cell? ⟨q, 0, none⟩ = some (.int .i64 a) := Q1.cell 0
  have d1 : W1.cell? ⟨q, 1, none⟩ = some (.int .i64 b) := Q1.cell 1
  have c2 : W1.cell? ⟨p, 2, none⟩ = some (.map (some bh)) := h1.box.cell 2
  have hpz1 := h1.box.lt
  have HQ := Lib.hid hq
  have k1' : Below w.heap.size w W1 := by rw [hq]; exact k1
  clear hq
  have hth := there_any h1 a b
  rw [hir] at hth
  go_upto_region 4 with (go_at_call 20; refine hth.mono ?_; rintro e w2 ⟨rfl, hb2⟩)
  obtain ⟨W2, hW2⟩ : ∃ W2, W2 = w2 := ⟨_, rfl⟩
  subst hW2
  have h2 := h1.below hb2
  have d0 := keep_below d0 hb2
  have d1 := keep_below d1 hb2
  have c3 : W2.cell? ⟨p, 3, none⟩ = some (.map (some bg)) := h2.box.cell 3
  have hlk := h2.mg.elim fun d hm => (MapF.blk (w' := W2.drew) hm rfl).look hwa hwb
  have k2 := bnext k1' hb2
  clear hth h1 Q1 hb2 k1 k1' c2
  have hX := @Ext.cell W2
  have hzz0 := block_lt_of_cell d0
  have hzz1 := block_lt_of_cell c3
  refine wp_region_noPanic ?_
  refine wp_region_plan (fun w' => ∃ x : Ext W2, w' = x.w) [([0, 1, 5], 2), ([3, 4], 6), ([], 7)] [8] (by kernel_rfl) (by kernel_rfl) (by kernel_rfl) (fun _ _ _ _ _ h => h) ⟨⟨_, (brefl W2).drew⟩, rfl⟩ ?_
  refine wpPlan_cons ?_
  simp only [pickOps, List.getElem?_cons_succ, List.getElem?_cons_zero, Option.elim_some]
  repeat (go_big_quiet_step (fail))
  refine wpQuiet_nil ?_
  refine planAct_some (fun K hK => ?_)
  go_simp
  refine hK.out _ _ ⟨⟨_, (brefl W2).drew⟩, rfl⟩ ?_
  clear hK K
  refine wpPlan_cons ?_
  simp only [pickOps, List.getElem?_cons_succ, List.getElem?_cons_zero, Option.elim_some]
  repeat (go_big_quiet_step (fail))
  refine wpQuiet_nil ?_
  refine planAct_some (fun K hK => ?_)
  go_simp
  refine hK.out _ _ ⟨⟨_, (brefl W2).drew⟩, rfl⟩ ?_
  clear hK K
  refine wpPlan_cons ?_
  simp only [pickOps, List.getElem?_cons_succ, List.getElem?_cons_zero, Option.elim_some]
  repeat (go_big_quiet_step (fail))
  refine wpQuiet_nil ?_
  refine planAct_some (fun K hK => ?_)
  go_simp
  refine (link_make b (s.G a b) _).mono ?_
  rintro e w3 ⟨rfl, rfl⟩
  go_wp2_with fail
  refine hK.out _ _ ⟨⟨_, (brefl W2).drew⟩, rfl⟩ ?_
  clear hK K
  refine wpPlan_last ?_
  simp only [pickOps, List.getElem?_cons_succ, List.getElem?_cons_zero, Option.elim_some]
  repeat (go_big_quiet_step (fail))
  refine wpQuiet_nil ?_
  refine NoPanic.normal ?_
  clear hX hzz0 hzz1
  go_wp2_with fail
  go_ret
  exact ⟨rfl, bnext k2 (brefl W2).drew⟩
theorem link_any {w : World} {p bh bg N : Nat} {s : St} (h : WB w p bh bg N s) (a b : Int) : Calls Try.prog 10 #[.pointer (some ⟨p, 0, none⟩), .int .i64 a, .int .i64 b] w fun e w' => e = .returned (.int .u64 (linkV s a b : Nat)) ∧ Below w.heap.size w w' := by
  unfold linkV
  cases hir : inR s a b with
  | false => exact link_out h a b hir
  | true => exact link_in h a b hir
theorem linkV_lt (s : St) (a b : Int) : linkV s a b < 2 ^ 64 := by
  unfold linkV
  split
  · exact lmk_lt _ _
  · omega
set_option maxHeartbeats 4000000 in
set_option maxRecDepth 100000 in
theorem link_nil (a b : Int) (w : World) : Calls Try.prog 10 #[.pointer none, .int .i64 a, .int .i64 b] w fun e w' => e = .returned (.int .u64 0) ∧ Below w.heap.size w w' := by
  go_enter Try.func10, Try.ntmps10
  go_wp2_with (go_at_call 20; refine (there_nil a b _).mono ?_; rintro e w2 ⟨rfl, hb2⟩)
  go_ret
  exact ⟨rfl, bnext (bnew (brefl w) _) hb2⟩
set_option maxHeartbeats 4000000 in
set_option maxRecDepth 100000 in
theorem slips_any {w : World} {p bh bg N : Nat} {s : St} (h : WB w p bh bg N s) : Calls Try.prog 18 #[.pointer (some ⟨p, 0, none⟩)] w fun e w' => e = .returned (.int .i64 s.slips) ∧ w = w' := by
  have c4 : w.cell? ⟨p, 4, none⟩ = some (.int .i64 s.slips) := h.box.cell 4
  have z4 := h.box.lt
  clear h
  go_enter Try.func18, Try.ntmps18
  go_wp2
  go_ret
  exact ⟨rfl, rfl⟩
set_option maxHeartbeats 4000000 in
set_option maxRecDepth 100000 in
theorem slips_nil (w : World) : Calls Try.prog 18 #[.pointer none] w fun e w' => e = .returned (.int .i64 0) ∧ w = w' := by
  go_enter Try.func18, Try.ntmps18
  go_wp2
  go_ret
  exact ⟨rfl, rfl⟩
set_option maxHeartbeats 4000000 in
set_option maxRecDepth 100000 in
theorem take_nil (a b : Int) (w : World) : Calls Try.prog 8 #[.pointer none, .int .i64 a, .int .i64 b] w fun e w' => e = .returned (.bool false) ∧ Below w.heap.size w w' := by
  go_enter Try.func8, Try.ntmps8
  go_upto_region 2 with (fail)
  obtain ⟨W1, hW1, Q1, k1⟩ : ∃ W1, w.alloc (.cells #[.int .i64 a, .int .i64 b] 52) = W1 ∧ Blk W1 w.heap.size 52 #[.int .i64 a, .int .i64 b] ∧ Below w.heap.size w W1 := ⟨_, rfl, Blk.new _ _ _, bnew (brefl w) _⟩
  rw [hW1]
  have d0 : W1.cell? ⟨w.heap.size, 0, none⟩ = some (.int .i64 a) := Q1.cell 0
  have d1 : W1.cell? ⟨w.heap.size, 1, none⟩ = some (.int .i64 b) := Q1.cell 1
  clear hW1
  have hX := @Ext.cell W1
  have hzz0 := block_lt_of_cell d0
  refine wp_region_noPanic ?_
  refine wp_region_plan (fun w' => ∃ x : Ext W1, w' = x.w) [([0, 1, 2], 3), ([4, 5, 9], 6), ([7, 8], 10), ([11, 12], 13)] [14] (by kernel_rfl) (by kernel_rfl) (by kernel_rfl) (fun _ _ _ _ _ h => h) ⟨⟨_, (brefl W1).drew⟩, rfl⟩ ?_
  refine wpPlan_cons ?_
  simp only [pickOps, List.getElem?_cons_succ, List.getElem?_cons_zero, Option.elim_some]
  repeat (go_big_quiet_step (fail))
  refine wpQuiet_nil ?_
  refine planAct_some (fun K hK => ?_)
  go_simp
  refine (there_nil a b _).mono ?_
  rintro e w2 ⟨rfl, hb2⟩
  go_wp2_with fail
  refine hK.out _ _ ⟨⟨_, (bnext (brefl W1).drew hb2)⟩, rfl⟩ ?_
  clear hK K
  refine wpPlan_cons ?_
  simp only [pickOps, List.getElem?_cons_succ, List.getElem?_cons_zero, Option.elim_some]
  repeat (go_big_quiet_step (fail))
  refine wpQuiet_nil ?_
  refine planAct_some (fun K hK => ?_)
  go_simp
  refine hK.out _ _ ⟨⟨_, (bnext (brefl W1).drew hb2)⟩, rfl⟩ ?_
  clear hK K
  refine wpPlan_cons ?_
  simp only [pickOps, List.getElem?_cons_succ, List.getElem?_cons_zero, Option.elim_some]
  repeat (go_big_quiet_step (fail))
  refine wpQuiet_nil ?_
  refine planAct_some (fun K hK => ?_)
  go_simp
  refine hK.out _ _ ⟨⟨_, (bnext (brefl W1).drew hb2)⟩, rfl⟩ ?_
  clear hK K
  refine wpPlan_cons ?_
  simp only [pickOps, List.getElem?_cons_succ, List.getElem?_cons_zero, Option.elim_some]
  repeat (go_big_quiet_step (fail))
  refine wpQuiet_nil ?_
  refine planAct_some (fun K hK => ?_)
  go_simp
  refine (note_nil false _).mono ?_
  rintro e w3 ⟨rfl, rfl⟩
  go_wp2_with fail
  refine hK.out _ _ ⟨⟨_, (bnext (brefl W1).drew hb2)⟩, rfl⟩ ?_
  clear hK K
  refine wpPlan_last ?_
  simp only [pickOps, List.getElem?_cons_succ, List.getElem?_cons_zero, Option.elim_some]
  repeat (go_big_quiet_step (fail))
  refine wpQuiet_nil ?_
  refine NoPanic.normal ?_
  clear hX hzz0
  go_wp2_with fail
  go_ret
  exact ⟨rfl, bnext k1 (bnext (brefl W1).drew hb2)⟩
set_option maxHeartbeats 4000000 in
set_option maxRecDepth 100000 in
theorem drop_nil (a b : Int) (w : World) : Calls Try.prog 9 #[.pointer none, .int .i64 a, .int .i64 b] w fun e w' => e = .returned (.bool false) ∧ Below w.heap.size w w' := by
  go_enter Try.func9, Try.ntmps9
  go_upto_region 2 with (fail)
  obtain ⟨W1, hW1, Q1, k1⟩ : ∃ W1, w.alloc (.cells #[.int .i64 a, .int .i64 b] 52) = W1 ∧ Blk W1 w.heap.size 52 #[.int .i64 a, .int .i64 b] ∧ Below w.heap.size w W1 := ⟨_, rfl, Blk.new _ _ _, bnew (brefl w) _⟩
  rw [hW1]
  have d0 : W1.cell? ⟨w.heap.size, 0, none⟩ = some (.int .i64 a) := Q1.cell 0
  have d1 : W1.cell? ⟨w.heap.size, 1, none⟩ = some (.int .i64 b) := Q1.cell 1
  clear hW1
  have hX := @Ext.cell W1
  have hzz0 := block_lt_of_cell d0
  refine wp_region_noPanic ?_
  refine wp_region_plan (fun w' => ∃ x : Ext W1, w' = x.w) [([0, 1, 2], 3), ([4, 5, 9], 6), ([7, 8], 10), ([11, 12], 13)] [14] (by kernel_rfl) (by kernel_rfl) (by kernel_rfl) (fun _ _ _ _ _ h => h) ⟨⟨_, (brefl W1).drew⟩, rfl⟩ ?_
  refine wpPlan_cons ?_
  simp only [pickOps, List.getElem?_cons_succ, List.getElem?_cons_zero, Option.elim_some]
  repeat (go_big_quiet_step (fail))
  refine wpQuiet_nil ?_
  refine planAct_some (fun K hK => ?_)
  go_simp
  refine (there_nil a b _).mono ?_
  rintro e w2 ⟨rfl, hb2⟩
  go_wp2_with fail
  refine hK.out _ _ ⟨⟨_, (bnext (brefl W1).drew hb2)⟩, rfl⟩ ?_
  clear hK K
  refine wpPlan_cons ?_
  simp only [pickOps, List.getElem?_cons_succ, List.getElem?_cons_zero, Option.elim_some]
  repeat (go_big_quiet_step (fail))
  refine wpQuiet_nil ?_
  refine planAct_some (fun K hK => ?_)
  go_simp
  refine hK.out _ _ ⟨⟨_, (bnext (brefl W1).drew hb2)⟩, rfl⟩ ?_
  clear hK K
  refine wpPlan_cons ?_
  simp only [pickOps, List.getElem?_cons_succ, List.getElem?_cons_zero, Option.elim_some]
  repeat (go_big_quiet_step (fail))
  refine wpQuiet_nil ?_
  refine planAct_some (fun K hK => ?_)
  go_simp
  refine hK.out _ _ ⟨⟨_, (bnext (brefl W1).drew hb2)⟩, rfl⟩ ?_
  clear hK K
  refine wpPlan_cons ?_
  simp only [pickOps, List.getElem?_cons_succ, List.getElem?_cons_zero, Option.elim_some]
  repeat (go_big_quiet_step (fail))
  refine wpQuiet_nil ?_
  refine planAct_some (fun K hK => ?_)
  go_simp
  refine (note_nil false _).mono ?_
  rintro e w3 ⟨rfl, rfl⟩
  go_wp2_with fail
  refine hK.out _ _ ⟨⟨_, (bnext (brefl W1).drew hb2)⟩, rfl⟩ ?_
  clear hK K
  refine wpPlan_last ?_
  simp only [pickOps, List.getElem?_cons_succ, List.getElem?_cons_zero, Option.elim_some]
  repeat (go_big_quiet_step (fail))
  refine wpQuiet_nil ?_
  refine NoPanic.normal ?_
  clear hX hzz0
  go_wp2_with fail
  go_ret
  exact ⟨rfl, bnext k1 (bnext (brefl W1).drew hb2)⟩
def st0 (lv sl : Int) : St := ⟨lv, sl, 0, fun _ _ => false, fun _ _ => 0⟩
set_option maxHeartbeats 4000000 in
set_option maxRecDepth 100000 in
theorem new_any (lv sl : Int) (w : World) (h1 : 1 ≤ lv) (h4 : lv ≤ 4) (s1 : 1 ≤ sl) (s60 : sl ≤ 60) : Calls Try.prog 7 #[.int .i64 lv, .int .i64 sl] w fun e w' => ∃ p bh bg, e = .returned (.pointer (some ⟨p, 0, none⟩)) ∧ w.heap.size ≤ p ∧ w.heap.size ≤ bh ∧ w.heap.size ≤ bg ∧ WB w' p bh bg 0 (st0 lv sl) ∧ Below w.heap.size w w' := by
  have hmm := @run_makeMap Try.prog
  have t1 : decide (lv < 1) = false := decide_eq_false (by omega)
  have t2 : decide (4 < lv) = false := decide_eq_false (by omega)
  have t3 : decide (sl < 1) = false := decide_eq_false (by omega)
  have t4 : decide (60 < sl) = false := decide_eq_false (by omega)
  go_enter Try.func7, Try.ntmps7
  go_wp2
  go_ret
  have m1 := MapF.made w
  have m2 := MapF.made (w.alloc (.map #[] 0))
  rw [World.size_alloc] at m2
  have bx := Blk.new ((w.alloc (.map #[] 0)).alloc (.map #[] 0)) 50 #[.int .i64 lv, .int .i64 sl, .map (some w.heap.size), .map (some (w.heap.size + 1)), .int .i64 0]
  rw [World.size_alloc, World.size_alloc] at bx
  refine ⟨w.heap.size + 1 + 1, w.heap.size, w.heap.size + 1, rfl, by omega, Nat.le_refl _, by omega, ⟨bx, (m1.below (brefl _)).below (bnew (bnew (brefl _) _) _), ⟨_, m2.below (bnew (brefl _) _)⟩, by omega, h1, h4, s1, s60, (fun a b h => by cases h), (fun a b => ⟨Int.le_refl _, Int.le_refl _⟩), ⟨Int.le_refl _, Int.le_refl _⟩⟩, bnew (bnew (bnew (brefl w) _) _) _⟩
set_option maxHeartbeats 4000000 in
set_option maxRecDepth 100000 in
theorem new_out (lv sl : Int) (w : World) (h : lv < 1 ∨ 4 < lv ∨ sl < 1 ∨ 60 < sl) : Calls Try.prog 7 #[.int .i64 lv, .int .i64 sl] w fun e w' => e = .returned (.pointer none) ∧ w = w' := by
  by_cases h1 : lv < 1
  · go_enter Try.func7, Try.ntmps7
    go_wp2
    go_ret
    exact ⟨rfl, rfl⟩
  have t1 : decide (lv < 1) = false := decide_eq_false h1
  by_cases h2 : 4 < lv
  · clear h1
    go_enter Try.func7, Try.ntmps7
    go_wp2
    go_ret
    exact ⟨rfl, rfl⟩
  have t2 : decide (4 < lv) = false := decide_eq_false h2
  by_cases h3 : sl < 1
  · clear h1 h2
    go_enter Try.func7, Try.ntmps7
    go_wp2
    go_ret
    exact ⟨rfl, rfl⟩
  have t3 : decide (sl < 1) = false := decide_eq_false h3
  have h4 : 60 < sl := by omega
  clear h1 h2 h3
  go_enter Try.func7, Try.ntmps7
  go_wp2
  go_ret
  exact ⟨rfl, rfl⟩
end Go.Proofs.Ytlnnnaefmgikpaa
