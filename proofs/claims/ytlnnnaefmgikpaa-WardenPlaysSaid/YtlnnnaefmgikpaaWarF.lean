/- A warden: Leads, Held. -/
import Derived.Test.YtlnnnaefmgikpaaWarE
namespace Go.Proofs.Ytlnnnaefmgikpaa
set_option linter.unusedVariables false
set_option linter.unusedSimpArgs false
open Go.RowKit
set_option maxHeartbeats 4000000 in
set_option maxRecDepth 100000 in
theorem leads_out {w : World} {p bh bg N : Nat} {s : St} (h : WB w p bh bg N s) (a n : Int) (hn : U64 n) {b : Int} (hb : ((lSlot n.toNat : Nat) : Int) = b) (hir : inR s a b = false) : Calls Try.prog 12 #[.pointer (some ⟨p, 0, none⟩), .int .i64 a, .int .u64 n] w fun e w' => e = .returned (.bool false) ∧ Below w.heap.size w w' := by
  go_enter Try.func12, Try.ntmps12
  go_upto_region 2 with (go_at_call 22; refine (slot_any n hn _).mono ?_; rintro e w0 ⟨rfl, rfl⟩; rw [hb])
  obtain ⟨W1, hW1, Q1, h1, k1⟩ : ∃ W1, w.alloc (.cells #[.int .i64 a, .int .i64 b] 52) = W1 ∧ Blk W1 w.heap.size 52 #[.int .i64 a, .int .i64 b] ∧ WB W1 p bh bg N s ∧ Below w.heap.size w W1 := ⟨_, rfl, Blk.new _ _ _, h.below (bnew (brefl w) _), bnew (brefl w) _⟩
  rw [hW1]
  have hpz := h.box.lt
  have hpq : p ≠ w.heap.size := by omega
  have hbhq : bh ≠ w.heap.size := by have := h.mh.lt; omega
  have hbgq : bg ≠ w.heap.size := h.mg.elim fun d hm => by have := hm.lt; omega
  clear hW1 h
  generalize hq : w.heap.size = q at *
  have d0 : W1.cell? ⟨q, 0, none⟩ = some (.int .i64 a) := Q1.cell 0
  have d1 : W1.cell? ⟨q, 1, none⟩ = some (.int .i64 b) := Q1.cell 1
  have c2 : W1.cell? ⟨p, 2, none⟩ = some (.map (some bh)) := h1.box.cell 2
  have hpz1 := h1.box.lt
  have HQ := Lib.hid hq
  have k1' : Below w.heap.size w W1 := by rw [hq]; exact k1
  clear hq
  have hth := there_any (h1.below (brefl W1).drew) a b
  rw [hir] at hth
  have HB := Lib.hid hb
  clear hir hb
  have hX := @Ext.cell W1
  have hzz0 := block_lt_of_cell d0
  have hzz1 := block_lt_of_cell c2
  refine wp_region_noPanic ?_
  refine wp_region_plan (fun w' => ∃ x : Ext W1, w' = x.w) [([0, 1], 2), ([3, 4, 8], 5), ([6, 7], 9), ([10, 11, 12, 13, 14, 15, 16, 17], 18), ([], 19)] [20, 21] (by kernel_rfl) (by kernel_rfl) (by kernel_rfl) (fun _ _ _ _ _ h => h) ⟨⟨_, (brefl W1).drew⟩, rfl⟩ ?_
  refine wpPlan_cons ?_
  simp only [pickOps, List.getElem?_cons_succ, List.getElem?_cons_zero, Option.elim_some]
  repeat (go_big_quiet_step (fail))
  refine wpQuiet_nil ?_
  refine planAct_some (fun K hK => ?_)
  go_simp
  refine (hth).mono ?_
  rintro e w2 ⟨rfl, hb2⟩; have h2 := (h1.below (brefl W1).drew).below hb2
  go_wp2_with fail
  refine hK.out _ _ ⟨⟨_, (bnext (brefl W1).drew hb2)⟩, rfl⟩ ?_
  clear hK K
  refine wpPlan_cons ?_
  simp only [pickOps, List.getElem?_cons_succ, List.getElem?_cons_zero, Option.elim_some]
  repeat (go_big_quiet_step (fail))
  refine wpQuiet_nil ?_
  refine planAct_some (fun K hK => ?_)
  go_simp
  refine hK.out _ _ ⟨⟨_, (bnext (brefl W1).drew hb2)⟩, rfl⟩ ?_
  clear hK K
  refine wpPlan_cons ?_
  simp only [pickOps, List.getElem?_cons_succ, List.getElem?_cons_zero, Option.elim_some]
  repeat (go_big_quiet_step (fail))
  refine wpQuiet_nil ?_
  refine planAct_some (fun K hK => ?_)
  go_simp
  refine hK.out _ _ ⟨⟨_, (bnext (brefl W1).drew hb2)⟩, rfl⟩ ?_
  clear hK K
  refine wpPlan_cons ?_
  simp only [pickOps, List.getElem?_cons_succ, List.getElem?_cons_zero, Option.elim_some]
  repeat (go_big_quiet_step (fail))
  refine wpQuiet_nil ?_
  refine planAct_some (fun K hK => ?_)
  go_simp
  refine hK.out _ _ ⟨⟨_, (bnext (brefl W1).drew hb2)⟩, rfl⟩ ?_
  clear hK K
  refine wpPlan_cons ?_
  simp only [pickOps, List.getElem?_cons_succ, List.getElem?_cons_zero, Option.elim_some]
  repeat (go_big_quiet_step (fail))
  refine wpQuiet_nil ?_
  refine planAct_some (fun K hK => ?_)
  go_simp
  refine hK.out _ _ ⟨⟨_, (bnext (brefl W1).drew hb2)⟩, rfl⟩ ?_
  clear hK K
  refine wpPlan_last ?_
  simp only [pickOps, List.getElem?_cons_succ, List.getElem?_cons_zero, Option.elim_some]
  repeat (go_big_quiet_step (fail))
  refine wpQuiet_nil ?_
  refine NoPanic.normal ?_
  clear hX hzz0 hzz1
  go_wp2_with fail
  go_ret
  exact ⟨rfl, bnext k1' (of_drew hb2)⟩
set_option maxHeartbeats 4000000 in
set_option maxRecDepth 100000 in
theorem leads_free {w : World} {p bh bg N : Nat} {s : St} (h : WB w p bh bg N s) (a n : Int) (hn : U64 n) {b : Int} (hb : ((lSlot n.toNat : Nat) : Int) = b) (hir : inR s a b = true) (hH : s.H a b = false) : Calls Try.prog 12 #[.pointer (some ⟨p, 0, none⟩), .int .i64 a, .int .u64 n] w fun e w' => e = .returned (.bool false) ∧ Below w.heap.size w w' := by
  obtain ⟨hwa, hwb⟩ := h.wf hir
  have hv : h01 s a b = 0 := if_neg (by rw [hH]; decide)
  clear hH
  go_enter Try.func12, Try.ntmps12
  go_upto_region 2 with (go_at_call 22; refine (slot_any n hn _).mono ?_; rintro e w0 ⟨rfl, rfl⟩; rw [hb])
  obtain ⟨W1, hW1, Q1, h1, k1⟩ : ∃ W1, w.alloc (.cells #[.int .i64 a, .int .i64 b] 52) = W1 ∧ Blk W1 w.heap.size 52 #[.int .i64 a, .int .i64 b] ∧ WB W1 p bh bg N s ∧ Below w.heap.size w W1 := ⟨_, rfl, Blk.new _ _ _, h.below (bnew (brefl w) _), bnew (brefl w) _⟩
  rw [hW1]
  have hpz := h.box.lt
  have hpq : p ≠ w.heap.size := by omega
  have hbhq : bh ≠ w.heap.size := by have := h.mh.lt; omega
  have hbgq : bg ≠ w.heap.size := h.mg.elim fun d hm => by have := hm.lt; omega
  clear hW1 h
  generalize hq : w.heap.size = q at *
  have d0 : W1.cell? ⟨q, 0, none⟩ = some (.int .i64 a) := Q1.cell 0
  have d1 : W1.cell? ⟨q, 1, none⟩ = some (.int .i64 b) := Q1.cell 1
  have c2 : W1.cell? ⟨p, 2, none⟩ = some (.map (some bh)) := h1.box.cell 2
  have hpz1 := h1.box.lt
  have HQ := Lib.hid hq
  have k1' : Below w.heap.size w W1 := by rw [hq]; exact k1
  clear hq
  have hth := there_any (h1.below (brefl W1).drew) a b
  rw [hir] at hth
  have HB := Lib.hid hb
  clear hir hb
  have hX := @Ext.cell W1
  have hzz0 := block_lt_of_cell d0
  have hzz1 := block_lt_of_cell c2
  refine wp_region_noPanic ?_
  refine wp_region_plan (fun w' => ∃ x : Ext W1, w' = x.w) [([0, 1], 2), ([3, 4, 8], 5), ([6, 7], 9), ([10, 11, 12, 13, 14, 15, 16, 17], 18), ([], 19)] [20, 21] (by kernel_rfl) (by kernel_rfl) (by kernel_rfl) (fun _ _ _ _ _ h => h) ⟨⟨_, (brefl W1).drew⟩, rfl⟩ ?_
  refine wpPlan_cons ?_
  simp only [pickOps, List.getElem?_cons_succ, List.getElem?_cons_zero, Option.elim_some]
  repeat (go_big_quiet_step (fail))
  refine wpQuiet_nil ?_
  refine planAct_some (fun K hK => ?_)
  go_simp
  refine (hth).mono ?_
  rintro e w2 ⟨rfl, hb2⟩; have h2 := (h1.below (brefl W1).drew).below hb2; have hlk := h2.mh.look hwa hwb; rw [hv] at hlk
  go_wp2_with fail
  refine hK.out _ _ ⟨⟨_, (bnext (brefl W1).drew hb2)⟩, rfl⟩ ?_
  clear hK K
  refine wpPlan_cons ?_
  simp only [pickOps, List.getElem?_cons_succ, List.getElem?_cons_zero, Option.elim_some]
  repeat (go_big_quiet_step (fail))
  refine wpQuiet_nil ?_
  refine planAct_some (fun K hK => ?_)
  go_simp
  refine hK.out _ _ ⟨⟨_, (bnext (brefl W1).drew hb2)⟩, rfl⟩ ?_
  clear hK K
  refine wpPlan_cons ?_
  simp only [pickOps, List.getElem?_cons_succ, List.getElem?_cons_zero, Option.elim_some]
  repeat (go_big_quiet_step (fail))
  refine wpQuiet_nil ?_
  refine planAct_some (fun K hK => ?_)
  go_simp
  refine hK.out _ _ ⟨⟨_, (bnext (brefl W1).drew hb2)⟩, rfl⟩ ?_
  clear hK K
  clear hlk
  refine wpPlan_cons ?_
  simp only [pickOps, List.getElem?_cons_succ, List.getElem?_cons_zero, Option.elim_some]
  repeat (go_big_quiet_step (fail))
  refine wpQuiet_nil ?_
  refine planAct_some (fun K hK => ?_)
  go_simp
  refine hK.out _ _ ⟨⟨_, (bnext (brefl W1).drew hb2)⟩, rfl⟩ ?_
  clear hK K
  refine wpPlan_cons ?_
  simp only [pickOps, List.getElem?_cons_succ, List.getElem?_cons_zero, Option.elim_some]
  repeat (go_big_quiet_step (fail))
  refine wpQuiet_nil ?_
  refine planAct_some (fun K hK => ?_)
  go_simp
  refine hK.out _ _ ⟨⟨_, (bnext (brefl W1).drew hb2)⟩, rfl⟩ ?_
  clear hK K
  refine wpPlan_last ?_
  simp only [pickOps, List.getElem?_cons_succ, List.getElem?_cons_zero, Option.elim_some]
  repeat (go_big_quiet_step (fail))
  refine wpQuiet_nil ?_
  refine NoPanic.normal ?_
  clear hX hzz0 hzz1
  go_wp2_with fail
  go_ret
  exact ⟨rfl, bnext k1' (of_drew hb2)⟩
set_option maxHeartbeats 4000000 in
set_option maxRecDepth 100000 in
theorem leads_held {w : World} {p bh bg N : Nat} {s : St} (h : WB w p bh bg N s) (a n : Int) (hn : U64 n) {b : Int} (hb : ((lSlot n.toNat : Nat) : Int) = b) (hir : inR s a b = true) (hH : s.H a b = true) : Calls Try.prog 12 #[.pointer (some ⟨p, 0, none⟩), .int .i64 a, .int .u64 n] w fun e w' => e = .returned (.bool (decide (lPlain n.toNat = lPlain ((linkV s a b : Nat) : Int).toNat))) ∧ Below w.heap.size w w' := by
  obtain ⟨hwa, hwb⟩ := h.wf hir
  have hv : h01 s a b = 1 := if_pos hH
  clear hH
  go_enter Try.func12, Try.ntmps12
  go_upto_region 2 with (go_at_call 22; refine (slot_any n hn _).mono ?_; rintro e w0 ⟨rfl, rfl⟩; rw [hb])
  obtain ⟨W1, hW1, Q1, h1, k1⟩ : ∃ W1, w.alloc (.cells #[.int .i64 a, .int .i64 b] 52) = W1 ∧ Blk W1 w.heap.size 52 #[.int .i64 a, .int .i64 b] ∧ WB W1 p bh bg N s ∧ Below w.heap.size w W1 := ⟨_, rfl, Blk.new _ _ _, h.below (bnew (brefl w) _), bnew (brefl w) _⟩
  rw [hW1]
  have hpz := h.box.lt
  have hpq : p ≠ w.heap.size := by omega
  have hbhq : bh ≠ w.heap.size := by have := h.mh.lt; omega
  have hbgq : bg ≠ w.heap.size := h.mg.elim fun d hm => by have := hm.lt; omega
  clear hW1 h
  generalize hq : w.heap.size = q at *
  have d0 : W1.cell? ⟨q, 0, none⟩ = some (.int .i64 a) := Q1.cell 0
  have d1 : W1.cell? ⟨q, 1, none⟩ = some (.int .i64 b) := Q1.cell 1
  have c2 : W1.cell? ⟨p, 2, none⟩ = some (.map (some bh)) := h1.box.cell 2
  have hpz1 := h1.box.lt
  have HQ := Lib.hid hq
  have k1' : Below w.heap.size w W1 := by rw [hq]; exact k1
  clear hq
  have hth := there_any (h1.below (brefl W1).drew) a b
  rw [hir] at hth
  have HB := Lib.hid hb
  clear hir hb
  have hX := @Ext.cell W1
  have hzz0 := block_lt_of_cell d0
  have hzz1 := block_lt_of_cell c2
  refine wp_region_noPanic ?_
  refine wp_region_plan (fun w' => ∃ x : Ext W1, w' = x.w) [([0, 1], 2), ([3, 4, 8], 5), ([6, 7], 9), ([10, 11, 12, 13, 14, 15, 16, 17], 18), ([], 19)] [20, 21] (by kernel_rfl) (by kernel_rfl) (by kernel_rfl) (fun _ _ _ _ _ h => h) ⟨⟨_, (brefl W1).drew⟩, rfl⟩ ?_
  refine wpPlan_cons ?_
  simp only [pickOps, List.getElem?_cons_succ, List.getElem?_cons_zero, Option.elim_some]
  repeat (go_big_quiet_step (fail))
  refine wpQuiet_nil ?_
  refine planAct_some (fun K hK => ?_)
  go_simp
  refine (hth).mono ?_
  rintro e w2 ⟨rfl, hb2⟩; have h2 := (h1.below (brefl W1).drew).below hb2; have hlk := h2.mh.look hwa hwb; rw [hv] at hlk
  go_wp2_with fail
  refine hK.out _ _ ⟨⟨_, (bnext (brefl W1).drew hb2)⟩, rfl⟩ ?_
  clear hK K
  refine wpPlan_cons ?_
  simp only [pickOps, List.getElem?_cons_succ, List.getElem?_cons_zero, Option.elim_some]
  repeat (go_big_quiet_step (fail))
  refine wpQuiet_nil ?_
  refine planAct_some (fun K hK => ?_)
  go_simp
  refine hK.out _ _ ⟨⟨_, (bnext (brefl W1).drew hb2)⟩, rfl⟩ ?_
  clear hK K
  refine wpPlan_cons ?_
  simp only [pickOps, List.getElem?_cons_succ, List.getElem?_cons_zero, Option.elim_some]
  repeat (go_big_quiet_step (fail))
  refine wpQuiet_nil ?_
  refine planAct_some (fun K hK => ?_)
  go_simp
  refine hK.out _ _ ⟨⟨_, (bnext (brefl W1).drew hb2)⟩, rfl⟩ ?_
  clear hK K
  clear hlk
  refine wpPlan_cons ?_
  simp only [pickOps, List.getElem?_cons_succ, List.getElem?_cons_zero, Option.elim_some]
  repeat (go_big_quiet_step (fail))
  refine wpQuiet_nil ?_
  refine planAct_some (fun K hK => ?_)
  go_simp
  refine (link_any h2 a b).mono ?_
  rintro e w3 ⟨rfl, hb3⟩
  go_wp2_with fail
  refine hK.out _ _ ⟨⟨_, (bnext (bnext (brefl W1).drew hb2) hb3)⟩, rfl⟩ ?_
  clear hK K
  refine wpPlan_cons ?_
  simp only [pickOps, List.getElem?_cons_succ, List.getElem?_cons_zero, Option.elim_some]
  repeat (go_big_quiet_step (fail))
  refine wpQuiet_nil ?_
  refine planAct_some (fun K hK => ?_)
  go_simp
  refine (same_any n _ hn (U64.nat (linkV_lt _ _ _)) _).mono ?_
  rintro e w4 ⟨rfl, rfl⟩
  go_wp2_with fail
  refine hK.out _ _ ⟨⟨_, (bnext (bnext (brefl W1).drew hb2) hb3)⟩, rfl⟩ ?_
  clear hK K
  refine wpPlan_last ?_
  simp only [pickOps, List.getElem?_cons_succ, List.getElem?_cons_zero, Option.elim_some]
  repeat (go_big_quiet_step (fail))
  refine wpQuiet_nil ?_
  refine NoPanic.normal ?_
  clear hX hzz0 hzz1
  go_wp2_with fail
  go_ret
  exact ⟨rfl, bnext (bnext k1' (of_drew hb2)) hb3⟩
def leadsB (s : St) (a n : Int) : Bool := inR s a (lSlot n.toNat : Nat) && s.H a (lSlot n.toNat : Nat) && decide (lPlain n.toNat = lPlain (linkV s a (lSlot n.toNat : Nat)))
theorem leads_any {w : World} {p bh bg N : Nat} {s : St} (h : WB w p bh bg N s) (a n : Int) (hn : U64 n) : Calls Try.prog 12 #[.pointer (some ⟨p, 0, none⟩), .int .i64 a, .int .u64 n] w fun e w' => e = .returned (.bool (leadsB s a n)) ∧ Below w.heap.size w w' := by
  unfold leadsB
  cases hir : inR s a (lSlot n.toNat : Nat) with
  | false => exact leads_out h a n hn rfl hir
  | true =>
    cases hH : s.H a (lSlot n.toNat : Nat) with
    | false => exact leads_free h a n hn rfl hir hH
    | true => exact leads_held h a n hn rfl hir hH
set_option maxHeartbeats 4000000 in
set_option maxRecDepth 100000 in
theorem leads_nil (a n : Int) (hn : U64 n) (w : World) : Calls Try.prog 12 #[.pointer none, .int .i64 a, .int .u64 n] w fun e w' => e = .returned (.bool false) ∧ Below w.heap.size w w' := by
  go_enter Try.func12, Try.ntmps12
  go_upto_region 2 with (go_at_call 22; refine (slot_any n hn _).mono ?_; rintro e w0 ⟨rfl, rfl⟩)
  obtain ⟨b, hb⟩ : ∃ b, ((lSlot n.toNat : Nat) : Int) = b := ⟨_, rfl⟩
  rw [hb]
  obtain ⟨W1, hW1, Q1, k1⟩ : ∃ W1, w.alloc (.cells #[.int .i64 a, .int .i64 b] 52) = W1 ∧ Blk W1 w.heap.size 52 #[.int .i64 a, .int .i64 b] ∧ Below w.heap.size w W1 := ⟨_, rfl, Blk.new _ _ _, bnew (brefl w) _⟩
  rw [hW1]
  have d0 : W1.cell? ⟨w.heap.size, 0, none⟩ = some (.int .i64 a) := Q1.cell 0
  have d1 : W1.cell? ⟨w.heap.size, 1, none⟩ = some (.int .i64 b) := Q1.cell 1
  clear hW1 hb
  have hX := @Ext.cell W1
  have hzz0 := block_lt_of_cell d0
  refine wp_region_noPanic ?_
  refine wp_region_plan (fun w' => ∃ x : Ext W1, w' = x.w) [([0, 1], 2), ([3, 4, 8], 5), ([6, 7], 9), ([10, 11, 12, 13, 14, 15, 16, 17], 18), ([], 19)] [20, 21] (by kernel_rfl) (by kernel_rfl) (by kernel_rfl) (fun _ _ _ _ _ h => h) ⟨⟨_, (brefl W1).drew⟩, rfl⟩ ?_
  refine wpPlan_cons ?_
  simp only [pickOps, List.getElem?_cons_succ, List.getElem?_cons_zero, Option.elim_some]
  repeat (go_big_quiet_step (fail))
  refine wpQuiet_nil ?_
  refine planAct_some (fun K hK => ?_)
  go_simp
  refine (there_nil a b _).mono ?_
  rintro e w2 ⟨rfl, hb2⟩
  go_wp2_with fail
  refine hK.out _ _ ⟨⟨_, (bnext (brefl W1).drew hb2)⟩, rfl⟩ ?_
  clear hK K
  refine wpPlan_cons ?_
  simp only [pickOps, List.getElem?_cons_succ, List.getElem?_cons_zero, Option.elim_some]
  repeat (go_big_quiet_step (fail))
  refine wpQuiet_nil ?_
  refine planAct_some (fun K hK => ?_)
  go_simp
  refine hK.out _ _ ⟨⟨_, (bnext (brefl W1).drew hb2)⟩, rfl⟩ ?_
  clear hK K
  refine wpPlan_cons ?_
  simp only [pickOps, List.getElem?_cons_succ, List.getElem?_cons_zero, Option.elim_some]
  repeat (go_big_quiet_step (fail))
  refine wpQuiet_nil ?_
  refine planAct_some (fun K hK => ?_)
  go_simp
  refine hK.out _ _ ⟨⟨_, (bnext (brefl W1).drew hb2)⟩, rfl⟩ ?_
  clear hK K
  refine wpPlan_cons ?_
  simp only [pickOps, List.getElem?_cons_succ, List.getElem?_cons_zero, Option.elim_some]
  repeat (go_big_quiet_step (fail))
  refine wpQuiet_nil ?_
  refine planAct_some (fun K hK => ?_)
  go_simp
  refine hK.out _ _ ⟨⟨_, (bnext (brefl W1).drew hb2)⟩, rfl⟩ ?_
  clear hK K
  refine wpPlan_cons ?_
  simp only [pickOps, List.getElem?_cons_succ, List.getElem?_cons_zero, Option.elim_some]
  repeat (go_big_quiet_step (fail))
  refine wpQuiet_nil ?_
  refine planAct_some (fun K hK => ?_)
  go_simp
  refine hK.out _ _ ⟨⟨_, (bnext (brefl W1).drew hb2)⟩, rfl⟩ ?_
  clear hK K
  refine wpPlan_last ?_
  simp only [pickOps, List.getElem?_cons_succ, List.getElem?_cons_zero, Option.elim_some]
  repeat (go_big_quiet_step (fail))
  refine wpQuiet_nil ?_
  refine NoPanic.normal ?_
  clear hX hzz0
  go_wp2_with fail
  go_ret
  exact ⟨rfl, bnext k1 (bnext (brefl W1).drew hb2)⟩
def gl (f : Int → Int → Bool) (a : Int) (j : Nat) : Bool := f a (j : Int)
def heldN (s : St) (a : Int) : Nat := cntM (gl s.H a) 60
set_option maxHeartbeats 4000000 in
set_option maxRecDepth 100000 in
theorem held_nil (a : Int) (w : World) : Calls Try.prog 11 #[.pointer none, .int .i64 a] w fun e w' => e = .returned (.int .i64 0) ∧ w = w' := by
  go_enter Try.func11, Try.ntmps11
  go_wp2
  go_ret
  exact ⟨rfl, rfl⟩
theorem inR_slot {s : St} {a b : Int} (h : inR s a b = true) (h60 : s.sl ≤ 60) : ∃ j : Nat, b = (j : Int) ∧ 1 ≤ j ∧ j ≤ 60 := by
  have := of_decide_eq_true h
  exact ⟨b.toNat, by omega, by omega, by omega⟩
set_option maxHeartbeats 4000000 in
set_option maxRecDepth 100000 in
theorem held_any {w : World} {p bh bg N : Nat} {s : St} (h : WB w p bh bg N s) (a : Int) (ha : wfI a) : Calls Try.prog 11 #[.pointer (some ⟨p, 0, none⟩), .int .i64 a] w fun e w' => e = .returned (.int .i64 (heldN s a : Nat)) ∧ Below w.heap.size w w' := by
  have c2 : w.cell? ⟨p, 2, none⟩ = some (.map (some bh)) := h.box.cell 2
  have hpz := h.box.lt
  obtain ⟨W1, cnt0, hrg, R0, hg0, hz1⟩ := h.mh.range
  have hin := h.hin
  have h60 := h.s60
  have kb1 : Below w.heap.size w W1 := bgrown (brefl w) hg0 (fun k q => by cases q)
  have HIN : Hid (∀ x y, s.H x y = true → inR s x y = true) := hin
  clear h hg0 hin
  go_enter Try.func11, Try.ntmps11
  go_wp2_with fail
  clear hrg c2
  go_loopg [5] (cnt0 + 1) (fun gk nv wr => ∃ (lf : Int → Int → Bool) (cnt k : Nat), cnt + 1 ≤ gk ∧ nv = .int .i64 k ∧ k ≤ 60 ∧ Hid (k + cntM (gl lf a) 60 = heldN s a) ∧ Hid (∀ x y, lf x y = true → s.H x y = true) ∧ MapR wr bh w.heap.size N lf cnt ∧ Below w.heap.size w wr)
  case atStart => exact ⟨s.H, cnt0, 0, Nat.le_refl _, rfl, by omega, Nat.zero_add _, fun _ _ h => h, R0, kb1⟩
  case round =>
    clear R0 kb1
    obtain ⟨lf, cnt, k, hc, rfl, hk, hsum, hlf, R, kb⟩ := hrel
    rcases R.next 0 with ⟨hn, hrun⟩ | ⟨x, y, v, w2, cnt2, hx, hy, hl, hrun, R2, hc2, hg2, hent⟩
    · have HF : Hid (k = heldN s a) := by
        have h0 := hsum.out
        rw [cntM_none (g := gl lf a) 60 (fun j h1 h2 => hn a (j : Int) ha (by unfold wfI; omega))] at h0
        exact h0
      clear hn hsum hlf R
      go_wp2
      go_ret
      exact ⟨by rw [← HF.out]; rfl, kb⟩
    · have kb2 : Below w.heap.size w w2 := bgrown kb hg2 (fun j q => by cases q; exact Nat.le_refl _)
      have HL2 : Hid (∀ x' y', upd lf x y false x' y' = true → s.H x' y' = true) := fun x' y' h' => by
        by_cases hq : x' = x ∧ y' = y
        · rw [hq.1, hq.2, upd_same] at h'
          cases h'
        · rw [upd_other _ _ hq] at h'
          exact hlf.out x' y' h'
      obtain ⟨j, hj, hj1, hj2⟩ := inR_slot (HIN.out x y (hlf.out x y hl)) h60
      have R3 := R2.alloc (.cells #[.int .i64 x, .int .i64 y] 52)
      have kb3 := bnew kb2 (.cells #[.int .i64 x, .int .i64 y] 52)
      by_cases hxa : x = a
      · have hless : cntM (gl (upd lf x y false) a) 60 + 1 = cntM (gl lf a) 60 := cntM_less (j0 := j) hj1 (by unfold gl; rw [← hj, ← hxa]; exact hl) (by unfold gl; rw [← hj, ← hxa, upd_same]) (fun i hi => by
          unfold gl
          rw [upd_other _ _ (fun q => hi (by have := q.2; omega))]) 60 hj2
        have HS : Hid (k + 1 + cntM (gl (upd lf x y false) a) 60 = heldN s a) := by rw [Hid, ← hsum.out]; omega
        have hk2 : k + 1 ≤ 60 := by
          have h1 := HS.out
          have h2 : heldN s a ≤ 60 := cntM_le _ 60
          omega
        clear hsum hlf R R2 hl hj hless kb
        subst hxa
        go_wp2
        go_roundg (gk - 1)
        case measure => omega
        case rel => exact ⟨_, cnt2, k + 1, by omega, by go_num, hk2, HS, HL2, R3, kb3⟩
      · have hsame : cntM (gl (upd lf x y false) a) 60 = cntM (gl lf a) 60 := cntM_same 60 (fun i _ _ => by
          unfold gl
          rw [upd_other _ _ (fun q => hxa q.1.symm)])
        have HS : Hid (k + cntM (gl (upd lf x y false) a) 60 = heldN s a) := by rw [Hid, hsame]; exact hsum.out
        have t1 : (x == a) = false := by rw [beq_eq_false_iff_ne]; exact hxa
        clear hsum hlf R R2 hl hj hsame kb hxa
        go_wp2
        go_roundg (gk - 1)
        case measure => omega
        case rel => exact ⟨_, cnt2, k, by omega, rfl, hk, HS, HL2, R3, kb3⟩
end Go.Proofs.Ytlnnnaefmgikpaa
