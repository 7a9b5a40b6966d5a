/- A warden: Take and Drop. -/
import Derived.Test.YtlnnnaefmgikpaaWarC
namespace Go.Proofs.Ytlnnnaefmgikpaa
set_option linter.unusedVariables false
set_option linter.unusedSimpArgs false
open Go.RowKit

theorem WB.slip {w : World} {p bh bg N : Nat} {s : St} (h : WB w p bh bg N s) : WB (w.setCell ⟨p, 4, none⟩ (.int .i64 (s.slips + 1))) p bh bg (N + 1) { s with slips := s.slips + 1 } := by
  have k : Keeps (fun b => b = p) w (w.setCell ⟨p, 4, none⟩ (.int .i64 (s.slips + 1))) := (Keeps.refl (fun b => b = p) w).setCell (p := ⟨p, 4, none⟩) (fun _ => rfl) _
  have hm := h.mono (Nat.le_succ N)
  refine ⟨h.box.set_ 4 _, hm.mh.keeps k h.pbh.symm, hm.mg.elim fun d hg => ⟨d, hg.keeps k h.pbg.symm⟩, h.ne, h.l1, h.l4, h.s1, h.s60, h.hin, hm.gb, ?_⟩
  have := h.sb
  show 0 ≤ s.slips + 1 ∧ s.slips + 1 ≤ ((N + 1 : Nat) : Int)
  omega
set_option maxHeartbeats 4000000 in
set_option maxRecDepth 100000 in
theorem take_out {w : World} {p bh bg N : Nat} {s : St} (h : WB w p bh bg N s) (hN : N ≤ 900000) (a b : Int) (hir : inR s a b = false) : Calls Try.prog 8 #[.pointer (some ⟨p, 0, none⟩), .int .i64 a, .int .i64 b] w fun e w' => e = .returned (.bool false) ∧ WB w' p bh bg (N + 1) ({ s with slips := s.slips + 1 }) ∧ Keeps (fun x => x = p ∨ x = bh ∨ x = bg) w w' := by
  go_enter Try.func8, Try.ntmps8
  go_upto_region 2 with (fail)
  obtain ⟨W1, hW1, Q1, h1, k1⟩ : ∃ W1, w.alloc (.cells #[.int .i64 a, .int .i64 b] 52) = W1 ∧ Blk W1 w.heap.size 52 #[.int .i64 a, .int .i64 b] ∧ WB W1 p bh bg N s ∧ Below w.heap.size w W1 := ⟨_, rfl, Blk.new _ _ _, h.below (bnew (brefl w) _), bnew (brefl w) _⟩
  rw [hW1]
  have hpz := h.box.lt
  have hpq : p ≠ w.heap.size := by omega
  have hbhq : bh ≠ w.heap.size := by have := h.mh.lt; omega
  have hbgq : bg ≠ w.heap.size := h.mg.elim fun d hm => by have := hm.lt; omega
  clear hW1 h
  generalize hq : w.heap.size = q at *
  have d0 : W1.cell? ⟨q, 0, none⟩ = some (.int .i64 a) := Q1.cell 0
  have d1 : W1.cell? ⟨q, 1, none⟩ = some (.int .i64 b) := Q1.cell 1
  have c2 : W1.cell? ⟨p, 2, none⟩ = some (.map (some bh)) := h1.box.cell 2
  have hpz1 := h1.box.lt
  have hth := there_any (h1.below (brefl W1).drew) a b
  have HQ := Lib.hid hq
  have k1' : Below w.heap.size w W1 := by rw [hq]; exact k1
  clear hq
  rw [hir] at hth
  clear hir
  have hX := @ExtP.cell p W1
  have hzz0 := block_lt_of_cell d0
  have hzz1 := block_lt_of_cell c2
  refine wp_region_noPanic ?_
  refine wp_region_plan (fun w' => ∃ x : ExtP p W1, w' = x.w) [([0, 1, 2], 3), ([4, 5, 9], 6), ([7, 8], 10), ([11, 12], 13)] [14] (by kernel_rfl) (by kernel_rfl) (by kernel_rfl) (fun _ _ _ _ _ h => h) ⟨⟨_, (PKeep.refl p W1).drew⟩, rfl⟩ ?_
  refine wpPlan_cons ?_
  simp only [pickOps, List.getElem?_cons_succ, List.getElem?_cons_zero, Option.elim_some]
  repeat (go_big_quiet_step (fail))
  refine wpQuiet_nil ?_
  refine planAct_some (fun K hK => ?_)
  go_simp
  refine (hth).mono ?_
  rintro e w2 ⟨rfl, hb2⟩; have h2 := (h1.below (brefl W1).drew).below hb2
  go_wp2_with fail
  refine hK.out _ _ ⟨⟨_, ((PKeep.refl p W1).drew.below hpz1 hb2)⟩, rfl⟩ ?_
  clear hK K
  refine wpPlan_cons ?_
  simp only [pickOps, List.getElem?_cons_succ, List.getElem?_cons_zero, Option.elim_some]
  repeat (go_big_quiet_step (fail))
  refine wpQuiet_nil ?_
  refine planAct_some (fun K hK => ?_)
  go_simp
  refine hK.out _ _ ⟨⟨_, ((PKeep.refl p W1).drew.below hpz1 hb2)⟩, rfl⟩ ?_
  clear hK K
  refine wpPlan_cons ?_
  simp only [pickOps, List.getElem?_cons_succ, List.getElem?_cons_zero, Option.elim_some]
  repeat (go_big_quiet_step (fail))
  refine wpQuiet_nil ?_
  refine planAct_some (fun K hK => ?_)
  go_simp
  refine hK.out _ _ ⟨⟨_, ((PKeep.refl p W1).drew.below hpz1 hb2)⟩, rfl⟩ ?_
  clear hK K
  refine wpPlan_cons ?_
  simp only [pickOps, List.getElem?_cons_succ, List.getElem?_cons_zero, Option.elim_some]
  repeat (go_big_quiet_step (fail))
  refine wpQuiet_nil ?_
  refine planAct_some (fun K hK => ?_)
  go_simp
  refine (note_no h2 (by omega)).mono ?_
  rintro e w3 ⟨rfl, rfl⟩
  go_wp2_with fail
  refine hK.out _ _ ⟨⟨_, (((PKeep.refl p W1).drew.below hpz1 hb2).set4 _)⟩, rfl⟩ ?_
  clear hK K
  refine wpPlan_last ?_
  simp only [pickOps, List.getElem?_cons_succ, List.getElem?_cons_zero, Option.elim_some]
  repeat (go_big_quiet_step (fail))
  refine wpQuiet_nil ?_
  refine NoPanic.normal ?_
  clear hX hzz0 hzz1
  go_wp2
  go_ret
  exact ⟨rfl, h2.slip, ((Keeps.of_below (bnext k1' (of_drew hb2))).setCell (p := ⟨p, 4, none⟩) (fun _ => .inl rfl) _)⟩
set_option maxHeartbeats 4000000 in
set_option maxRecDepth 100000 in
theorem take_held {w : World} {p bh bg N : Nat} {s : St} (h : WB w p bh bg N s) (hN : N ≤ 900000) (a b : Int) (hir : inR s a b = true) (hH : s.H a b = true) : Calls Try.prog 8 #[.pointer (some ⟨p, 0, none⟩), .int .i64 a, .int .i64 b] w fun e w' => e = .returned (.bool false) ∧ WB w' p bh bg (N + 1) ({ s with slips := s.slips + 1 }) ∧ Keeps (fun x => x = p ∨ x = bh ∨ x = bg) w w' := by
  obtain ⟨hwa, hwb⟩ := h.wf hir
  have hv : h01 s a b = 1 := if_pos hH
  clear hH
  go_enter Try.func8, Try.ntmps8
  go_upto_region 2 with (fail)
  obtain ⟨W1, hW1, Q1, h1, k1⟩ : ∃ W1, w.alloc (.cells #[.int .i64 a, .int .i64 b] 52) = W1 ∧ Blk W1 w.heap.size 52 #[.int .i64 a, .int .i64 b] ∧ WB W1 p bh bg N s ∧ Below w.heap.size w W1 := ⟨_, rfl, Blk.new _ _ _, h.below (bnew (brefl w) _), bnew (brefl w) _⟩
  rw [hW1]
  have hpz := h.box.lt
  have hpq : p ≠ w.heap.size := by omega
  have hbhq : bh ≠ w.heap.size := by have := h.mh.lt; omega
  have hbgq : bg ≠ w.heap.size := h.mg.elim fun d hm => by have := hm.lt; omega
  clear hW1 h
  generalize hq : w.heap.size = q at *
  have d0 : W1.cell? ⟨q, 0, none⟩ = some (.int .i64 a) := Q1.cell 0
  have d1 : W1.cell? ⟨q, 1, none⟩ = some (.int .i64 b) := Q1.cell 1
  have c2 : W1.cell? ⟨p, 2, none⟩ = some (.map (some bh)) := h1.box.cell 2
  have hpz1 := h1.box.lt
  have hth := there_any (h1.below (brefl W1).drew) a b
  have HQ := Lib.hid hq
  have k1' : Below w.heap.size w W1 := by rw [hq]; exact k1
  clear hq
  rw [hir] at hth
  clear hir
  have hX := @ExtP.cell p W1
  have hzz0 := block_lt_of_cell d0
  have hzz1 := block_lt_of_cell c2
  refine wp_region_noPanic ?_
  refine wp_region_plan (fun w' => ∃ x : ExtP p W1, w' = x.w) [([0, 1, 2], 3), ([4, 5, 9], 6), ([7, 8], 10), ([11, 12], 13)] [14] (by kernel_rfl) (by kernel_rfl) (by kernel_rfl) (fun _ _ _ _ _ h => h) ⟨⟨_, (PKeep.refl p W1).drew⟩, rfl⟩ ?_
  refine wpPlan_cons ?_
  simp only [pickOps, List.getElem?_cons_succ, List.getElem?_cons_zero, Option.elim_some]
  repeat (go_big_quiet_step (fail))
  refine wpQuiet_nil ?_
  refine planAct_some (fun K hK => ?_)
  go_simp
  refine (hth).mono ?_
  rintro e w2 ⟨rfl, hb2⟩; have h2 := (h1.below (brefl W1).drew).below hb2; have hlk := h2.mh.look hwa hwb; rw [hv] at hlk
  go_wp2_with fail
  refine hK.out _ _ ⟨⟨_, ((PKeep.refl p W1).drew.below hpz1 hb2)⟩, rfl⟩ ?_
  clear hK K
  refine wpPlan_cons ?_
  simp only [pickOps, List.getElem?_cons_succ, List.getElem?_cons_zero, Option.elim_some]
  repeat (go_big_quiet_step (fail))
  refine wpQuiet_nil ?_
  refine planAct_some (fun K hK => ?_)
  go_simp
  refine hK.out _ _ ⟨⟨_, ((PKeep.refl p W1).drew.below hpz1 hb2)⟩, rfl⟩ ?_
  clear hK K
  refine wpPlan_cons ?_
  simp only [pickOps, List.getElem?_cons_succ, List.getElem?_cons_zero, Option.elim_some]
  repeat (go_big_quiet_step (fail))
  refine wpQuiet_nil ?_
  refine planAct_some (fun K hK => ?_)
  go_simp
  refine hK.out _ _ ⟨⟨_, ((PKeep.refl p W1).drew.below hpz1 hb2)⟩, rfl⟩ ?_
  clear hK K
  clear hlk
  refine wpPlan_cons ?_
  simp only [pickOps, List.getElem?_cons_succ, List.getElem?_cons_zero, Option.elim_some]
  repeat (go_big_quiet_step (fail))
  refine wpQuiet_nil ?_
  refine planAct_some (fun K hK => ?_)
  go_simp
  refine (note_no h2 (by omega)).mono ?_
  rintro e w3 ⟨rfl, rfl⟩
  go_wp2_with fail
  refine hK.out _ _ ⟨⟨_, (((PKeep.refl p W1).drew.below hpz1 hb2).set4 _)⟩, rfl⟩ ?_
  clear hK K
  refine wpPlan_last ?_
  simp only [pickOps, List.getElem?_cons_succ, List.getElem?_cons_zero, Option.elim_some]
  repeat (go_big_quiet_step (fail))
  refine wpQuiet_nil ?_
  refine NoPanic.normal ?_
  clear hX hzz0 hzz1
  go_wp2
  go_ret
  exact ⟨rfl, h2.slip, ((Keeps.of_below (bnext k1' (of_drew hb2))).setCell (p := ⟨p, 4, none⟩) (fun _ => .inl rfl) _)⟩
set_option maxHeartbeats 4000000 in
set_option maxRecDepth 100000 in
theorem drop_out {w : World} {p bh bg N : Nat} {s : St} (h : WB w p bh bg N s) (hN : N ≤ 900000) (a b : Int) (hir : inR s a b = false) : Calls Try.prog 9 #[.pointer (some ⟨p, 0, none⟩), .int .i64 a, .int .i64 b] w fun e w' => e = .returned (.bool false) ∧ WB w' p bh bg (N + 1) ({ s with slips := s.slips + 1 }) ∧ Keeps (fun x => x = p ∨ x = bh ∨ x = bg) w w' := by
  go_enter Try.func9, Try.ntmps9
  go_upto_region 2 with (fail)
  obtain ⟨W1, hW1, Q1, h1, k1⟩ : ∃ W1, w.alloc (.cells #[.int .i64 a, .int .i64 b] 52) = W1 ∧ Blk W1 w.heap.size 52 #[.int .i64 a, .int .i64 b] ∧ WB W1 p bh bg N s ∧ Below w.heap.size w W1 := ⟨_, rfl, Blk.new _ _ _, h.below (bnew (brefl w) _), bnew (brefl w) _⟩
  rw [hW1]
  have hpz := h.box.lt
  have hpq : p ≠ w.heap.size := by omega
  have hbhq : bh ≠ w.heap.size := by have := h.mh.lt; omega
  have hbgq : bg ≠ w.heap.size := h.mg.elim fun d hm => by have := hm.lt; omega
  clear hW1 h
  generalize hq : w.heap.size = q at *
  have d0 : W1.cell? ⟨q, 0, none⟩ = some (.int .i64 a) := Q1.cell 0
  have d1 : W1.cell? ⟨q, 1, none⟩ = some (.int .i64 b) := Q1.cell 1
  have c2 : W1.cell? ⟨p, 2, none⟩ = some (.map (some bh)) := h1.box.cell 2
  have hpz1 := h1.box.lt
  have hth := there_any (h1.below (brefl W1).drew) a b
  have HQ := Lib.hid hq
  have k1' : Below w.heap.size w W1 := by rw [hq]; exact k1
  clear hq
  rw [hir] at hth
  clear hir
  have hX := @ExtP.cell p W1
  have hzz0 := block_lt_of_cell d0
  have hzz1 := block_lt_of_cell c2
  refine wp_region_noPanic ?_
  refine wp_region_plan (fun w' => ∃ x : ExtP p W1, w' = x.w) [([0, 1, 2], 3), ([4, 5, 9], 6), ([7, 8], 10), ([11, 12], 13)] [14] (by kernel_rfl) (by kernel_rfl) (by kernel_rfl) (fun _ _ _ _ _ h => h) ⟨⟨_, (PKeep.refl p W1).drew⟩, rfl⟩ ?_
  refine wpPlan_cons ?_
  simp only [pickOps, List.getElem?_cons_succ, List.getElem?_cons_zero, Option.elim_some]
  repeat (go_big_quiet_step (fail))
  refine wpQuiet_nil ?_
  refine planAct_some (fun K hK => ?_)
  go_simp
  refine (hth).mono ?_
  rintro e w2 ⟨rfl, hb2⟩; have h2 := (h1.below (brefl W1).drew).below hb2
  go_wp2_with fail
  refine hK.out _ _ ⟨⟨_, ((PKeep.refl p W1).drew.below hpz1 hb2)⟩, rfl⟩ ?_
  clear hK K
  refine wpPlan_cons ?_
  simp only [pickOps, List.getElem?_cons_succ, List.getElem?_cons_zero, Option.elim_some]
  repeat (go_big_quiet_step (fail))
  refine wpQuiet_nil ?_
  refine planAct_some (fun K hK => ?_)
  go_simp
  refine hK.out _ _ ⟨⟨_, ((PKeep.refl p W1).drew.below hpz1 hb2)⟩, rfl⟩ ?_
  clear hK K
  refine wpPlan_cons ?_
  simp only [pickOps, List.getElem?_cons_succ, List.getElem?_cons_zero, Option.elim_some]
  repeat (go_big_quiet_step (fail))
  refine wpQuiet_nil ?_
  refine planAct_some (fun K hK => ?_)
  go_simp
  refine hK.out _ _ ⟨⟨_, ((PKeep.refl p W1).drew.below hpz1 hb2)⟩, rfl⟩ ?_
  clear hK K
  refine wpPlan_cons ?_
  simp only [pickOps, List.getElem?_cons_succ, List.getElem?_cons_zero, Option.elim_some]
  repeat (go_big_quiet_step (fail))
  refine wpQuiet_nil ?_
  refine planAct_some (fun K hK => ?_)
  go_simp
  refine (note_no h2 (by omega)).mono ?_
  rintro e w3 ⟨rfl, rfl⟩
  go_wp2_with fail
  refine hK.out _ _ ⟨⟨_, (((PKeep.refl p W1).drew.below hpz1 hb2).set4 _)⟩, rfl⟩ ?_
  clear hK K
  refine wpPlan_last ?_
  simp only [pickOps, List.getElem?_cons_succ, List.getElem?_cons_zero, Option.elim_some]
  repeat (go_big_quiet_step (fail))
  refine wpQuiet_nil ?_
  refine NoPanic.normal ?_
  clear hX hzz0 hzz1
  go_wp2
  go_ret
  exact ⟨rfl, h2.slip, ((Keeps.of_below (bnext k1' (of_drew hb2))).setCell (p := ⟨p, 4, none⟩) (fun _ => .inl rfl) _)⟩
set_option maxHeartbeats 4000000 in
set_option maxRecDepth 100000 in
theorem drop_free {w : World} {p bh bg N : Nat} {s : St} (h : WB w p bh bg N s) (hN : N ≤ 900000) (a b : Int) (hir : inR s a b = true) (hH : s.H a b = false) : Calls Try.prog 9 #[.pointer (some ⟨p, 0, none⟩), .int .i64 a, .int .i64 b] w fun e w' => e = .returned (.bool false) ∧ WB w' p bh bg (N + 1) ({ s with slips := s.slips + 1 }) ∧ Keeps (fun x => x = p ∨ x = bh ∨ x = bg) w w' := by
  obtain ⟨hwa, hwb⟩ := h.wf hir
  have hv : h01 s a b = 0 := if_neg (by rw [hH]; decide)
  clear hH
  go_enter Try.func9, Try.ntmps9
  go_upto_region 2 with (fail)
  obtain ⟨W1, hW1, Q1, h1, k1⟩ : ∃ W1, w.alloc (.cells #[.int .i64 a, .int .i64 b] 52) = W1 ∧ Blk W1 w.heap.size 52 #[.int .i64 a, .int .i64 b] ∧ WB W1 p bh bg N s ∧ Below w.heap.size w W1 := ⟨_, rfl, Blk.new _ _ _, h.below (bnew (brefl w) _), bnew (brefl w) _⟩
  rw [hW1]
  have hpz := h.box.lt
  have hpq : p ≠ w.heap.size := by omega
  have hbhq : bh ≠ w.heap.size := by have := h.mh.lt; omega
  have hbgq : bg ≠ w.heap.size := h.mg.elim fun d hm => by have := hm.lt; omega
  clear hW1 h
  generalize hq : w.heap.size = q at *
  have d0 : W1.cell? ⟨q, 0, none⟩ = some (.int .i64 a) := Q1.cell 0
  have d1 : W1.cell? ⟨q, 1, none⟩ = some (.int .i64 b) := Q1.cell 1
  have c2 : W1.cell? ⟨p, 2, none⟩ = some (.map (some bh)) := h1.box.cell 2
  have hpz1 := h1.box.lt
  have hth := there_any (h1.below (brefl W1).drew) a b
  have HQ := Lib.hid hq
  have k1' : Below w.heap.size w W1 := by rw [hq]; exact k1
  clear hq
  rw [hir] at hth
  clear hir
  have hX := @ExtP.cell p W1
  have hzz0 := block_lt_of_cell d0
  have hzz1 := block_lt_of_cell c2
  refine wp_region_noPanic ?_
  refine wp_region_plan (fun w' => ∃ x : ExtP p W1, w' = x.w) [([0, 1, 2], 3), ([4, 5, 9], 6), ([7, 8], 10), ([11, 12], 13)] [14] (by kernel_rfl) (by kernel_rfl) (by kernel_rfl) (fun _ _ _ _ _ h => h) ⟨⟨_, (PKeep.refl p W1).drew⟩, rfl⟩ ?_
  refine wpPlan_cons ?_
  simp only [pickOps, List.getElem?_cons_succ, List.getElem?_cons_zero, Option.elim_some]
  repeat (go_big_quiet_step (fail))
  refine wpQuiet_nil ?_
  refine planAct_some (fun K hK => ?_)
  go_simp
  refine (hth).mono ?_
  rintro e w2 ⟨rfl, hb2⟩; have h2 := (h1.below (brefl W1).drew).below hb2; have hlk := h2.mh.look hwa hwb; rw [hv] at hlk
  go_wp2_with fail
  refine hK.out _ _ ⟨⟨_, ((PKeep.refl p W1).drew.below hpz1 hb2)⟩, rfl⟩ ?_
  clear hK K
  refine wpPlan_cons ?_
  simp only [pickOps, List.getElem?_cons_succ, List.getElem?_cons_zero, Option.elim_some]
  repeat (go_big_quiet_step (fail))
  refine wpQuiet_nil ?_
  refine planAct_some (fun K hK => ?_)
  go_simp
  refine hK.out _ _ ⟨⟨_, ((PKeep.refl p W1).drew.below hpz1 hb2)⟩, rfl⟩ ?_
  clear hK K
  refine wpPlan_cons ?_
  simp only [pickOps, List.getElem?_cons_succ, List.getElem?_cons_zero, Option.elim_some]
  repeat (go_big_quiet_step (fail))
  refine wpQuiet_nil ?_
  refine planAct_some (fun K hK => ?_)
  go_simp
  refine hK.out _ _ ⟨⟨_, ((PKeep.refl p W1).drew.below hpz1 hb2)⟩, rfl⟩ ?_
  clear hK K
  clear hlk
  refine wpPlan_cons ?_
  simp only [pickOps, List.getElem?_cons_succ, List.getElem?_cons_zero, Option.elim_some]
  repeat (go_big_quiet_step (fail))
  refine wpQuiet_nil ?_
  refine planAct_some (fun K hK => ?_)
  go_simp
  refine (note_no h2 (by omega)).mono ?_
  rintro e w3 ⟨rfl, rfl⟩
  go_wp2_with fail
  refine hK.out _ _ ⟨⟨_, (((PKeep.refl p W1).drew.below hpz1 hb2).set4 _)⟩, rfl⟩ ?_
  clear hK K
  refine wpPlan_last ?_
  simp only [pickOps, List.getElem?_cons_succ, List.getElem?_cons_zero, Option.elim_some]
  repeat (go_big_quiet_step (fail))
  refine wpQuiet_nil ?_
  refine NoPanic.normal ?_
  clear hX hzz0 hzz1
  go_wp2
  go_ret
  exact ⟨rfl, h2.slip, ((Keeps.of_below (bnext k1' (of_drew hb2))).setCell (p := ⟨p, 4, none⟩) (fun _ => .inl rfl) _)⟩
theorem h01_upd (s : St) (a b : Int) (v : Bool) (n : Int) (hn : n = if v = true then 1 else 0) : upd (h01 s) a b n = h01 { s with H := upd s.H a b v } := by
  funext x y
  unfold h01 upd
  by_cases hq : x = a ∧ y = b
  · rw [if_pos hq]
    simp only [if_pos hq]
    exact hn
  · rw [if_neg hq]
    simp only [if_neg hq]
theorem WB.take {w w6 : World} {p bh bg N : Nat} {s : St} (h : WB w p bh bg N s) {a b : Int} (hir : inR s a b = true) (M : MapF w6 bh (N + 1) (upd (h01 s) a b 1) (upd s.H a b true)) (K : Keeps (fun q => q = bh) w w6) : WB w6 p bh bg (N + 1) { s with H := upd s.H a b true } := by
  have hm := h.mono (Nat.le_succ N)
  refine ⟨K.blk h.box h.pbh, ?_, hm.mg.elim fun d hg => ⟨d, hg.keeps K h.ne.symm⟩, h.ne, h.l1, h.l4, h.s1, h.s60, fun x y hxy => ?_, hm.gb, hm.sb⟩
  · rw [← h01_upd s a b true 1 rfl]
    exact M
  · show inR s x y = true
    by_cases hq : x = a ∧ y = b
    · rw [hq.1, hq.2]
      exact hir
    · exact h.hin x y (by have h0 : upd s.H a b true x y = true := hxy; rwa [upd_other _ _ hq] at h0)
set_option maxHeartbeats 4000000 in
set_option maxRecDepth 100000 in
theorem take_free {w : World} {p bh bg N : Nat} {s : St} (h : WB w p bh bg N s) (hN : N ≤ 900000) (a b : Int) (hir : inR s a b = true) (hH : s.H a b = false) : Calls Try.prog 8 #[.pointer (some ⟨p, 0, none⟩), .int .i64 a, .int .i64 b] w fun e w' => e = .returned (.bool true) ∧ WB w' p bh bg (N + 1) ({ s with H := upd s.H a b true }) ∧ Keeps (fun x => x = p ∨ x = bh ∨ x = bg) w w' := by
  obtain ⟨hwa, hwb⟩ := h.wf hir
  have hv : h01 s a b = 0 := if_neg (by rw [hH]; decide)
  clear hH
  go_enter Try.func8, Try.ntmps8
  go_upto_region 2 with (fail)
  obtain ⟨W1, hW1, Q1, h1, k1⟩ : ∃ W1, w.alloc (.cells #[.int .i64 a, .int .i64 b] 52) = W1 ∧ Blk W1 w.heap.size 52 #[.int .i64 a, .int .i64 b] ∧ WB W1 p bh bg N s ∧ Below w.heap.size w W1 := ⟨_, rfl, Blk.new _ _ _, h.below (bnew (brefl w) _), bnew (brefl w) _⟩
  rw [hW1]
  have hpz := h.box.lt
  have hpq : p ≠ w.heap.size := by omega
  have hbhq : bh ≠ w.heap.size := by have := h.mh.lt; omega
  have hbgq : bg ≠ w.heap.size := h.mg.elim fun d hm => by have := hm.lt; omega
  clear hW1 h
  generalize hq : w.heap.size = q at *
  have d0 : W1.cell? ⟨q, 0, none⟩ = some (.int .i64 a) := Q1.cell 0
  have d1 : W1.cell? ⟨q, 1, none⟩ = some (.int .i64 b) := Q1.cell 1
  have c2 : W1.cell? ⟨p, 2, none⟩ = some (.map (some bh)) := h1.box.cell 2
  have hpz1 := h1.box.lt
  have hth := there_any (h1.below (brefl W1).drew) a b
  have HQ := Lib.hid hq
  have k1' : Below w.heap.size w W1 := by rw [hq]; exact k1
  clear hq
  rw [hir] at hth
  have hX := @ExtP.cell p W1
  have hzz0 := block_lt_of_cell d0
  have hzz1 := block_lt_of_cell c2
  refine wp_region_noPanic ?_
  refine wp_region_plan (fun w' => ∃ x : ExtP p W1, w' = x.w) [([0, 1, 2], 3), ([4, 5, 9], 6), ([7, 8], 10), ([11, 12], 13)] [14] (by kernel_rfl) (by kernel_rfl) (by kernel_rfl) (fun _ _ _ _ _ h => h) ⟨⟨_, (PKeep.refl p W1).drew⟩, rfl⟩ ?_
  refine wpPlan_cons ?_
  simp only [pickOps, List.getElem?_cons_succ, List.getElem?_cons_zero, Option.elim_some]
  repeat (go_big_quiet_step (fail))
  refine wpQuiet_nil ?_
  refine planAct_some (fun K hK => ?_)
  go_simp
  refine (hth).mono ?_
  rintro e w2 ⟨rfl, hb2⟩; have h2 := (h1.below (brefl W1).drew).below hb2; have hlk := h2.mh.look hwa hwb; rw [hv] at hlk
  go_wp2_with fail
  refine hK.out _ _ ⟨⟨_, ((PKeep.refl p W1).drew.below hpz1 hb2)⟩, rfl⟩ ?_
  clear hK K
  refine wpPlan_cons ?_
  simp only [pickOps, List.getElem?_cons_succ, List.getElem?_cons_zero, Option.elim_some]
  repeat (go_big_quiet_step (fail))
  refine wpQuiet_nil ?_
  refine planAct_some (fun K hK => ?_)
  go_simp
  refine hK.out _ _ ⟨⟨_, ((PKeep.refl p W1).drew.below hpz1 hb2)⟩, rfl⟩ ?_
  clear hK K
  refine wpPlan_cons ?_
  simp only [pickOps, List.getElem?_cons_succ, List.getElem?_cons_zero, Option.elim_some]
  repeat (go_big_quiet_step (fail))
  refine wpQuiet_nil ?_
  refine planAct_some (fun K hK => ?_)
  go_simp
  refine hK.out _ _ ⟨⟨_, ((PKeep.refl p W1).drew.below hpz1 hb2)⟩, rfl⟩ ?_
  clear hK K
  clear hlk
  refine wpPlan_cons ?_
  simp only [pickOps, List.getElem?_cons_succ, List.getElem?_cons_zero, Option.elim_some]
  repeat (go_big_quiet_step (fail))
  refine wpQuiet_nil ?_
  refine planAct_some (fun K hK => ?_)
  go_simp
  refine (note_yes h2).mono ?_
  rintro e w3 ⟨rfl, rfl⟩
  go_wp2_with fail
  refine hK.out _ _ ⟨⟨_, ((PKeep.refl p W1).drew.below hpz1 hb2)⟩, rfl⟩ ?_
  clear hK K
  refine wpPlan_last ?_
  simp only [pickOps, List.getElem?_cons_succ, List.getElem?_cons_zero, Option.elim_some]
  repeat (go_big_quiet_step (fail))
  refine wpQuiet_nil ?_
  refine NoPanic.normal ?_
  clear hX hzz0 hzz1
  have k2 := bnext k1' (of_drew hb2)
  have d0 := keep_below d0 (of_drew hb2)
  have d1 := keep_below d1 (of_drew hb2)
  have c2 : w2.cell? ⟨p, 2, none⟩ = some (.map (some bh)) := h2.box.cell 2
  clear hth h1 Q1 hb2 k1 k1' hpz1
  go_upto_region 4 with (fail)
  obtain ⟨W5, hW5⟩ : ∃ W5, W5 = w2 := ⟨_, rfl⟩
  subst hW5
  have hM0 : MapF W5.drew bh N (h01 s) s.H := h2.mh.blk rfl
  have np1 := h2.pbh
  have np2 := h2.pbg
  have nq1 := hbhq.symm
  have nq2 := hbgq.symm
  obtain ⟨W6, hup, M6, K6⟩ := hM0.store (by omega) hwa hwb (v := 1) (by unfold wfI; omega)
  have hX := @ExtK.cell (bh) W5
  have hzz0 := block_lt_of_cell d0
  have hzz1 := block_lt_of_cell c2
  refine wp_region_noPanic ?_
  refine wp_region_last (fun w' => ∃ x : ExtK (bh) W5, w' = x.w) 5 (PG.one [0, 4] 1 (PG.fin [2, 3])) (by kernel_rfl) (by kernel_rfl) (by kernel_rfl) (fun _ _ _ _ _ h => h) ⟨⟨_, (Keeps.refl _ W5).drew⟩, rfl⟩ ?_
  refine wpG_one ?_
  simp only [pickOps, List.getElem?_cons_succ, List.getElem?_cons_zero, Option.elim_some]
  repeat (go_big_quiet_step (fail))
  refine wpQuiet_nil ?_
  refine planAct_some (fun K hK => ?_)
  go_simp
  refine hK.out _ _ (extk_mem (Keeps.refl _ W5).drew) ?_
  clear hK K
  refine wpG_fin ?_
  simp only [pickOps, List.getElem?_cons_succ, List.getElem?_cons_zero, Option.elim_some]
  repeat (go_big_quiet_step (fail))
  refine wpQuiet_nil ?_
  refine lastG_some (fun K hK => ?_)
  go_simp
  refine hK.out _ _ ?_
  clear hK K
  refine NoPanic.normal ?_
  clear hX hzz0 hzz1
  go_wp2
  go_ret
  exact ⟨rfl, (h2.below (brefl W5).drew).take hir M6 K6, ((Keeps.of_below k2).drew).trans_ (K6.mono fun x hx _ => .inr (.inl hx))⟩
theorem WB.drop_ {w w6 w8 : World} {p bh bg N : Nat} {s : St} {d : Int → Int → Bool} (h : WB w p bh bg N s) {a b : Int} (M : MapF w6 bh N (upd (h01 s) a b 0) (upd s.H a b false)) (K : Keeps (fun q => q = bh) w w6) (M8 : MapF w8 bg (N + 1) (upd s.G a b (s.G a b + 1)) d) (K8 : Keeps (fun q => q = bg) w6 w8) : WB w8 p bh bg (N + 1) { s with H := upd s.H a b false, G := upd s.G a b (s.G a b + 1) } := by
  refine ⟨K8.blk (K.blk h.box h.pbh) h.pbg, ?_, ⟨d, M8⟩, h.ne, h.l1, h.l4, h.s1, h.s60, fun x y hxy => ?_, fun x y => ?_, ?_⟩
  · have := (M.mono (Nat.le_succ N)).keeps K8 h.ne
    rw [h01_upd s a b false 0 rfl] at this
    exact this
  · show inR s x y = true
    have h0 : upd s.H a b false x y = true := hxy
    by_cases hq : x = a ∧ y = b
    · rw [hq.1, hq.2, upd_same] at h0
      cases h0
    · rw [upd_other _ _ hq] at h0
      exact h.hin x y h0
  · show 0 ≤ upd s.G a b (s.G a b + 1) x y ∧ upd s.G a b (s.G a b + 1) x y ≤ ((N + 1 : Nat) : Int)
    have h1 := h.gb a b
    have h2 := h.gb x y
    by_cases hq : x = a ∧ y = b
    · rw [hq.1, hq.2, upd_same]
      omega
    · rw [upd_other _ _ hq]
      omega
  · have := h.sb
    show 0 ≤ s.slips ∧ s.slips ≤ ((N + 1 : Nat) : Int)
    omega
set_option maxHeartbeats 4000000 in
set_option maxRecDepth 100000 in
theorem drop_held {w : World} {p bh bg N : Nat} {s : St} (h : WB w p bh bg N s) (hN : N ≤ 900000) (a b : Int) (hir : inR s a b = true) (hH : s.H a b = true) : Calls Try.prog 9 #[.pointer (some ⟨p, 0, none⟩), .int .i64 a, .int .i64 b] w fun e w' => e = .returned (.bool true) ∧ WB w' p bh bg (N + 1) ({ s with H := upd s.H a b false, G := upd s.G a b (s.G a b + 1) }) ∧ Keeps (fun x => x = p ∨ x = bh ∨ x = bg) w w' := by
  obtain ⟨hwa, hwb⟩ := h.wf hir
  have hv : h01 s a b = 1 := if_pos hH
  clear hH
  go_enter Try.func9, Try.ntmps9
  go_upto_region 2 with (fail)
  obtain ⟨W1, hW1, Q1, h1, k1⟩ : ∃ W1, w.alloc (.cells #[.int .i64 a, .int .i64 b] 52) = W1 ∧ Blk W1 w.heap.size 52 #[.int .i64 a, .int .i64 b] ∧ WB W1 p bh bg N s ∧ Below w.heap.size w W1 := ⟨_, rfl, Blk.new _ _ _, h.below (bnew (brefl w) _), bnew (brefl w) _⟩
  rw [hW1]
  have hpz := h.box.lt
  have hpq : p ≠ w.heap.size := by omega
  have hbhq : bh ≠ w.heap.size := by have := h.mh.lt; omega
  have hbgq : bg ≠ w.heap.size := h.mg.elim fun d hm => by have := hm.lt; omega
  clear hW1 h
  generalize hq : w.heap.size = q at *
  have d0 : W1.cell? ⟨q, 0, none⟩ = some (.int .i64 a) := Q1.cell 0
  have d1 : W1.cell? ⟨q, 1, none⟩ = some (.int .i64 b) := Q1.cell 1
  have c2 : W1.cell? ⟨p, 2, none⟩ = some (.map (some bh)) := h1.box.cell 2
  have hpz1 := h1.box.lt
  have hth := there_any (h1.below (brefl W1).drew) a b
  have HQ := Lib.hid hq
  have k1' : Below w.heap.size w W1 := by rw [hq]; exact k1
  clear hq
  rw [hir] at hth
  have hX := @ExtP.cell p W1
  have hzz0 := block_lt_of_cell d0
  have hzz1 := block_lt_of_cell c2
  refine wp_region_noPanic ?_
  refine wp_region_plan (fun w' => ∃ x : ExtP p W1, w' = x.w) [([0, 1, 2], 3), ([4, 5, 9], 6), ([7, 8], 10), ([11, 12], 13)] [14] (by kernel_rfl) (by kernel_rfl) (by kernel_rfl) (fun _ _ _ _ _ h => h) ⟨⟨_, (PKeep.refl p W1).drew⟩, rfl⟩ ?_
  refine wpPlan_cons ?_
  simp only [pickOps, List.getElem?_cons_succ, List.getElem?_cons_zero, Option.elim_some]
  repeat (go_big_quiet_step (fail))
  refine wpQuiet_nil ?_
  refine planAct_some (fun K hK => ?_)
  go_simp
  refine (hth).mono ?_
  rintro e w2 ⟨rfl, hb2⟩; have h2 := (h1.below (brefl W1).drew).below hb2; have hlk := h2.mh.look hwa hwb; rw [hv] at hlk
  go_wp2_with fail
  refine hK.out _ _ ⟨⟨_, ((PKeep.refl p W1).drew.below hpz1 hb2)⟩, rfl⟩ ?_
  clear hK K
  refine wpPlan_cons ?_
  simp only [pickOps, List.getElem?_cons_succ, List.getElem?_cons_zero, Option.elim_some]
  repeat (go_big_quiet_step (fail))
  refine wpQuiet_nil ?_
  refine planAct_some (fun K hK => ?_)
  go_simp
  refine hK.out _ _ ⟨⟨_, ((PKeep.refl p W1).drew.below hpz1 hb2)⟩, rfl⟩ ?_
  clear hK K
  refine wpPlan_cons ?_
  simp only [pickOps, List.getElem?_cons_succ, List.getElem?_cons_zero, Option.elim_some]
  repeat (go_big_quiet_step (fail))
  refine wpQuiet_nil ?_
  refine planAct_some (fun K hK => ?_)
  go_simp
  refine hK.out _ _ ⟨⟨_, ((PKeep.refl p W1).drew.below hpz1 hb2)⟩, rfl⟩ ?_
  clear hK K
  clear hlk
  refine wpPlan_cons ?_
  simp only [pickOps, List.getElem?_cons_succ, List.getElem?_cons_zero, Option.elim_some]
  repeat (go_big_quiet_step (fail))
  refine wpQuiet_nil ?_
  refine planAct_some (fun K hK => ?_)
  go_simp
  refine (note_yes h2).mono ?_
  rintro e w3 ⟨rfl, rfl⟩
  go_wp2_with fail
  refine hK.out _ _ ⟨⟨_, ((PKeep.refl p W1).drew.below hpz1 hb2)⟩, rfl⟩ ?_
  clear hK K
  refine wpPlan_last ?_
  simp only [pickOps, List.getElem?_cons_succ, List.getElem?_cons_zero, Option.elim_some]
  repeat (go_big_quiet_step (fail))
  refine wpQuiet_nil ?_
  refine NoPanic.normal ?_
  clear hX hzz0 hzz1
  have k2 := bnext k1' (of_drew hb2)
  have d0 := keep_below d0 (of_drew hb2)
  have d1 := keep_below d1 (of_drew hb2)
  have c2 : w2.cell? ⟨p, 2, none⟩ = some (.map (some bh)) := h2.box.cell 2
  clear hth h1 Q1 hb2 k1 k1' hpz1
  go_upto_region 4 with (fail)
  obtain ⟨W5, hW5⟩ : ∃ W5, W5 = w2 := ⟨_, rfl⟩
  subst hW5
  have hM0 : MapF W5.drew bh N (h01 s) s.H := h2.mh.blk rfl
  have np1 := h2.pbh
  have np2 := h2.pbg
  have nq1 := hbhq.symm
  have nq2 := hbgq.symm
  obtain ⟨W6, hup, M6, K6⟩ := hM0.drop hwa hwb
  have hX := @ExtK.cell (bh) W5
  have hzz0 := block_lt_of_cell d0
  have hzz1 := block_lt_of_cell c2
  refine wp_region_noPanic ?_
  refine wp_region_tree (fun w' => ∃ x : ExtK (bh) W5, w' = x.w) (PT.one [0, 4] 1 (PT.one [2, 3] 5 (PT.fin []))) (by kernel_rfl) (by kernel_rfl) (by kernel_rfl) (fun _ _ _ _ _ h => h) ⟨⟨_, (Keeps.refl _ W5).drew⟩, rfl⟩ ?_
  refine wpTree_one ?_
  simp only [pickOps, List.getElem?_cons_succ, List.getElem?_cons_zero, Option.elim_some]
  repeat (go_big_quiet_step (fail))
  refine wpQuiet_nil ?_
  refine planAct_some (fun K hK => ?_)
  go_simp
  refine hK.out _ _ (extk_mem (Keeps.refl _ W5).drew) ?_
  clear hK K
  refine wpTree_one ?_
  simp only [pickOps, List.getElem?_cons_succ, List.getElem?_cons_zero, Option.elim_some]
  repeat (go_big_quiet_step (fail))
  refine wpQuiet_nil ?_
  refine planAct_some (fun K hK => ?_)
  go_simp
  refine hK.out _ _ (extk_mem ((Keeps.refl _ W5).drew.trans_ K6)) ?_
  clear hK K
  refine wpTree_fin ?_
  simp only [pickOps, List.getElem?_cons_succ, List.getElem?_cons_zero, Option.elim_some]
  repeat (go_big_quiet_step (fail))
  refine wpQuiet_nil ?_
  refine NoPanic.normal ?_
  clear hX hzz0 hzz1
  have d0 : W6.cell? ⟨q, 0, none⟩ = some (.int .i64 a) := K6.cell d0 hbhq.symm
  have d1 : W6.cell? ⟨q, 1, none⟩ = some (.int .i64 b) := K6.cell d1 hbhq.symm
  have h5 := h2.below (brefl W5).drew
  have c3 : W6.cell? ⟨p, 3, none⟩ = some (.map (some bg)) := (K6.blk h5.box np1).cell 3
  obtain ⟨d, hg⟩ := h5.mg
  have hg := hg.keeps K6 h5.ne.symm
  have hg0 : MapF W6.drew bg N s.G d := hg.blk rfl
  have gb1 := (h5.gb a b).1
  have gb2 := (h5.gb a b).2
  have gb3 : s.G a b ≤ 900000 := by omega
  obtain ⟨st, w7, e1, M7, K7, hst⟩ := hg0.entry (by omega) hwa hwb (by unfold wfI; omega)
  obtain ⟨w8, hs, M8, K8⟩ := hst w7 (s.G a b + 1) (by unfold wfI; omega) rfl
  have hlk0 := hg0.look hwa hwb
  have hlk7 := M7.look hwa hwb
  rw [upd_same] at hlk7
  have e1 : (Instr.mapEntry 48 (.map (some bg)) (.agg #[.int .i64 a, .int .i64 b])).run Try.prog W6.drew = .ok (.tuple #[.int .i64 (s.G a b), .int .i64 (st : Nat)]) w7 := e1
  have hs : (Instr.entryStore 48 (.map (some bg)) (.int .i64 (st : Nat)) (.int .i64 (s.G a b + 1))).run Try.prog w7 = .ok () w8 := hs
  have FIN := Lib.hid (h5.drop_ M6 K6 M8 ((Keeps.refl _ W6).drew.trans_ (K7.trans_ K8)))
  have KFIN : Hid (Keeps (fun x => x = p ∨ x = bh ∨ x = bg) w w8) := (((Keeps.of_below k2).drew).trans_ (K6.mono fun x hx _ => .inr (.inl hx))).trans_ (((Keeps.refl _ W6).drew.trans_ (K7.trans_ K8)).mono fun x hx _ => .inr (.inr hx))
  clear hst M8 M7 hg0 hg M6 hM0 h5 h2 hup
  go_upto_region 5 with (fail)
  have hX := @ExtK.cell (bg) W6
  have hzz0 := block_lt_of_cell d0
  have hzz1 := block_lt_of_cell c3
  refine wp_region_noPanic ?_
  refine wp_region_last (fun w' => ∃ x : ExtK (bg) W6, w' = x.w) 9 (PG.one [0, 4] 1 (PG.two [2, 3] 5 (PG.one [6] 7 (PG.fin [8])) 7 (PG.one [8] 5 (PG.fin [6])))) (by kernel_rfl) (by kernel_rfl) (by kernel_rfl) (fun _ _ _ _ _ h => h) ⟨⟨_, (Keeps.refl _ W6).drew⟩, rfl⟩ ?_
  refine wpG_one ?_
  simp only [pickOps, List.getElem?_cons_succ, List.getElem?_cons_zero, Option.elim_some]
  repeat (go_big_quiet_step (fail))
  refine wpQuiet_nil ?_
  refine planAct_some (fun K hK => ?_)
  go_simp
  refine hK.out _ _ (extk_mem (Keeps.refl _ W6).drew) ?_
  clear hK K
  refine wpG_two ?_
  simp only [pickOps, List.getElem?_cons_succ, List.getElem?_cons_zero, Option.elim_some]
  repeat (go_big_quiet_step (fail))
  refine wpQuiet_nil ?_
  refine ⟨?_, ?_⟩
  · refine planAct_some (fun K hK => ?_)
    go_simp
    refine hK.out _ _ (extk_mem (Keeps.refl _ W6).drew) ?_
    clear hK K
    refine wpG_one ?_
    simp only [pickOps, List.getElem?_cons_succ, List.getElem?_cons_zero, Option.elim_some]
    repeat (go_big_quiet_step (fail))
    refine wpQuiet_nil ?_
    refine planAct_some (fun K hK => ?_)
    go_simp
    refine hK.out _ _ (extk_mem ((Keeps.refl _ W6).drew.trans_ K7)) ?_
    clear hK K
    refine wpG_fin ?_
    simp only [pickOps, List.getElem?_cons_succ, List.getElem?_cons_zero, Option.elim_some]
    repeat (go_big_quiet_step (fail))
    refine wpQuiet_nil ?_
    refine lastG_some (fun K hK => ?_)
    go_simp
    refine hK.out _ _ ?_
    clear hK K
    refine NoPanic.normal ?_
    clear hX hzz0 hzz1
    go_wp2
    go_ret
    exact ⟨rfl, FIN.out, KFIN.out⟩
  · refine planAct_some (fun K hK => ?_)
    go_simp
    refine hK.out _ _ (extk_mem ((Keeps.refl _ W6).drew.trans_ K7)) ?_
    clear hK K
    refine wpG_one ?_
    simp only [pickOps, List.getElem?_cons_succ, List.getElem?_cons_zero, Option.elim_some]
    repeat (go_big_quiet_step (fail))
    refine wpQuiet_nil ?_
    refine planAct_some (fun K hK => ?_)
    go_simp
    refine hK.out _ _ (extk_mem ((Keeps.refl _ W6).drew.trans_ K7)) ?_
    clear hK K
    refine wpG_fin ?_
    simp only [pickOps, List.getElem?_cons_succ, List.getElem?_cons_zero, Option.elim_some]
    repeat (go_big_quiet_step (fail))
    refine wpQuiet_nil ?_
    refine lastG_some (fun K hK => ?_)
    go_simp
    refine hK.out _ _ ?_
    clear hK K
    refine NoPanic.normal ?_
    clear hX hzz0 hzz1
    go_wp2
    go_ret
    exact ⟨rfl, FIN.out, KFIN.out⟩
end Go.Proofs.Ytlnnnaefmgikpaa
