/- The document's warden: Leads. -/
import Derived.Test.YtlnnnaefmgikpaaWarK
namespace Go.Proofs.Ytlnnnaefmgikpaa
set_option linter.unusedVariables false
set_option linter.unusedSimpArgs false
open Go.RowKit
set_option maxHeartbeats 4000000 in
set_option maxRecDepth 100000 in
theorem rleads_free {w : World} {A : Option Addr} {c L M : Nat} {s : St} (h : RW w A c L M s) (i : Nat) (n : Int) (hn : U64 n) {j : Nat} (hi : i < L) (hj : j < M) (hb : ((lSlot n.toNat : Nat) : Int) = (j : Int) + 1) (hH : s.H (i : Int) ((j : Int) + 1) = false) : Calls Try.prog 27 #[(.agg #[.slice A L c, .int .i64 s.slips]), .int .i64 i, .int .u64 n] w fun e w' => e = .returned (.bool false) ∧ Below w.heap.size w w' := by
  have hrd := read02_any n hn (w.alloc (.cells #[.slice A L c, .int .i64 s.slips] 38))
  rw [hb] at hrd
  have hir : inR s (i : Int) ((j : Int) + 1) = true := decide_eq_true (by rw [h.lv, h.sl]; omega)
  have h' := h.below (bnew (brefl w) (.cells #[.slice A L c, .int .i64 s.slips] 38))
  have hm60 := h.m60
  have hl4 := h.l4
  have d0 : (w.alloc (.cells #[.slice A L c, .int .i64 s.slips] 38)).cell? ⟨w.heap.size, 0, none⟩ = some (.slice A L c) := (Blk.new w 38 #[.slice A L c, .int .i64 s.slips]).cell 0
  have d1 : (w.alloc (.cells #[.slice A L c, .int .i64 s.slips] 38)).cell? ⟨w.heap.size, 1, none⟩ = some (.int .i64 s.slips) := (Blk.new w 38 #[.slice A L c, .int .i64 s.slips]).cell 1
  clear hb h
  generalize lGen n.toNat = gn at *
  go_enter Try.func27, Try.ntmps27
  go_upto_region 2 with (go_at_call 35; refine hrd.mono ?_; rintro e w1 ⟨rfl, hb1⟩)
  obtain ⟨W2, hW2, k2, e0, e1⟩ : ∃ W2, w1.alloc (.cells #[.int .i64 ((j : Int) + 1), .int .i64 gn, .bool (lMarked n.toNat)] 70) = W2 ∧ Below (w.alloc (.cells #[.slice A L c, .int .i64 s.slips] 38)).heap.size (w.alloc (.cells #[.slice A L c, .int .i64 s.slips] 38)) W2 ∧ W2.cell? ⟨w1.heap.size, 0, none⟩ = some (.int .i64 ((j : Int) + 1)) ∧ W2.cell? ⟨w1.heap.size, 1, none⟩ = some (.int .i64 gn) := ⟨_, rfl, bnew hb1 _, (Blk.new w1 70 #[.int .i64 ((j : Int) + 1), .int .i64 gn, .bool (lMarked n.toNat)]).cell 0, (Blk.new w1 70 #[.int .i64 ((j : Int) + 1), .int .i64 gn, .bool (lMarked n.toNat)]).cell 1⟩
  rw [hW2]
  have x0 := keep_below d0 k2
  have x1 := keep_below d1 k2
  have z0 := block_lt_of_cell x0
  have z1 := block_lt_of_cell e0
  have h2 := h'.below k2
  have hth := rthere_any h2 (i : Int) ((j : Int) + 1)
  rw [hir] at hth
  have kb2 := bnext (bnew (brefl w) _) k2
  clear hW2 d0 d1 hb1 hrd h' k2 hir
  generalize w1.heap.size = q1 at *
  go_upto_region 4 with (go_at_call 28; refine hth.mono ?_; rintro e w2 ⟨rfl, hb2⟩)
  have h4 := h2.below hb2
  have x0 := keep_below x0 hb2
  have x1' := keep_below x1 hb2
  have e0 := keep_below e0 hb2
  have e1 := keep_below e1 hb2
  have kb4 := bnext kb2 hb2
  obtain ⟨W4, hW4⟩ : ∃ W4, W4 = w2 := ⟨_, rfl⟩
  subst hW4
  obtain ⟨bo, oo, br, or_, c', hA, x1, x2, x3⟩ := h4.spot hi hj
  subst hA
  rw [hH] at x2
  have z0 := block_lt_of_cell x0
  have z1 := block_lt_of_cell e0
  have k0 : (0 : Int) ≤ (i : Int) := by omega
  have k1 : (i : Int) < (L : Int) := by omega
  have k3 : (0 : Int) ≤ (j : Int) := by omega
  have k5 : (j : Int) < (M : Int) := by omega
  have hw : IntKind.i64.wrap ((j : Int) + 1 - 1) = (j : Int) := by rw [IntKind.wrap_i64]; omega
  have hw' : (j : Int) + 1 - 1 = (j : Int) := by omega
  clear h2 h4 hth hH hb2 kb2
  obtain ⟨g, hg⟩ : ∃ g, s.G (i : Int) ((j : Int) + 1) = g := ⟨_, rfl⟩
  rw [hg] at x3
  have HG := Lib.hid hg
  clear hg
  have hX := @Ext.cell W4
  have hzz0 := block_lt_of_cell x0
  have hzz1 := block_lt_of_cell x1
  have hzz2 := block_lt_of_cell x2
  have hzz3 := block_lt_of_cell x3
  have hzz4 := block_lt_of_cell e0
  refine wp_region_noPanic ?_
  refine wp_region_plan (fun w' => ∃ x : Ext W4, w' = x.w) [([0, 1, 2, 3, 4, 5, 6, 7, 8, 9], 10), ([], 11)] [] (by kernel_rfl) (by kernel_rfl) (by kernel_rfl) (fun _ _ _ _ _ h => h) ⟨⟨_, (brefl W4).drew⟩, rfl⟩ ?_
  refine wpPlan_cons ?_
  simp only [pickOps, List.getElem?_cons_succ, List.getElem?_cons_zero, Option.elim_some]
  repeat (go_big_quiet_step (fail))
  refine wpQuiet_nil ?_
  refine planAct_some (fun K hK => ?_)
  go_simp
  refine hK.out _ _ ⟨⟨_, (bnew (brefl W4).drew _)⟩, rfl⟩ ?_
  clear hK K
  refine wpPlan_cons ?_
  simp only [pickOps, List.getElem?_cons_succ, List.getElem?_cons_zero, Option.elim_some]
  repeat (go_big_quiet_step (fail))
  refine wpQuiet_nil ?_
  refine planAct_some (fun K hK => ?_)
  go_simp
  refine hK.out _ _ ⟨⟨_, (bnew (brefl W4).drew _)⟩, rfl⟩ ?_
  clear hK K
  refine wpPlan_last ?_
  simp only [pickOps, List.getElem?_cons_succ, List.getElem?_cons_zero, Option.elim_some]
  repeat (go_big_quiet_step (fail))
  refine wpQuiet_nil ?_
  refine NoPanic.normal ?_
  clear hX hzz0 hzz1 hzz2 hzz3 hzz4
  go_wp2
  go_ret
  exact ⟨by first | rfl | (rw [HG.out]; rfl), bnext kb4 (bnew (brefl W4).drew _)⟩
set_option maxHeartbeats 4000000 in
set_option maxRecDepth 100000 in
theorem rleads_held {w : World} {A : Option Addr} {c L M : Nat} {s : St} (h : RW w A c L M s) (i : Nat) (n : Int) (hn : U64 n) {j : Nat} (hi : i < L) (hj : j < M) (hb : ((lSlot n.toNat : Nat) : Int) = (j : Int) + 1) (hH : s.H (i : Int) ((j : Int) + 1) = true) : Calls Try.prog 27 #[(.agg #[.slice A L c, .int .i64 s.slips]), .int .i64 i, .int .u64 n] w fun e w' => e = .returned (.bool (s.G (i : Int) ((j : Int) + 1) == (lGen n.toNat : Nat))) ∧ Below w.heap.size w w' := by
  have hrd := read02_any n hn (w.alloc (.cells #[.slice A L c, .int .i64 s.slips] 38))
  rw [hb] at hrd
  have hir : inR s (i : Int) ((j : Int) + 1) = true := decide_eq_true (by rw [h.lv, h.sl]; omega)
  have h' := h.below (bnew (brefl w) (.cells #[.slice A L c, .int .i64 s.slips] 38))
  have hm60 := h.m60
  have hl4 := h.l4
  have d0 : (w.alloc (.cells #[.slice A L c, .int .i64 s.slips] 38)).cell? ⟨w.heap.size, 0, none⟩ = some (.slice A L c) := (Blk.new w 38 #[.slice A L c, .int .i64 s.slips]).cell 0
  have d1 : (w.alloc (.cells #[.slice A L c, .int .i64 s.slips] 38)).cell? ⟨w.heap.size, 1, none⟩ = some (.int .i64 s.slips) := (Blk.new w 38 #[.slice A L c, .int .i64 s.slips]).cell 1
  clear hb h
  generalize lGen n.toNat = gn at *
  go_enter Try.func27, Try.ntmps27
  go_upto_region 2 with (go_at_call 35; refine hrd.mono ?_; rintro e w1 ⟨rfl, hb1⟩)
  obtain ⟨W2, hW2, k2, e0, e1⟩ : ∃ W2, w1.alloc (.cells #[.int .i64 ((j : Int) + 1), .int .i64 gn, .bool (lMarked n.toNat)] 70) = W2 ∧ Below (w.alloc (.cells #[.slice A L c, .int .i64 s.slips] 38)).heap.size (w.alloc (.cells #[.slice A L c, .int .i64 s.slips] 38)) W2 ∧ W2.cell? ⟨w1.heap.size, 0, none⟩ = some (.int .i64 ((j : Int) + 1)) ∧ W2.cell? ⟨w1.heap.size, 1, none⟩ = some (.int .i64 gn) := ⟨_, rfl, bnew hb1 _, (Blk.new w1 70 #[.int .i64 ((j : Int) + 1), .int .i64 gn, .bool (lMarked n.toNat)]).cell 0, (Blk.new w1 70 #[.int .i64 ((j : Int) + 1), .int .i64 gn, .bool (lMarked n.toNat)]).cell 1⟩
  rw [hW2]
  have x0 := keep_below d0 k2
  have x1 := keep_below d1 k2
  have z0 := block_lt_of_cell x0
  have z1 := block_lt_of_cell e0
  have h2 := h'.below k2
  have hth := rthere_any h2 (i : Int) ((j : Int) + 1)
  rw [hir] at hth
  have kb2 := bnext (bnew (brefl w) _) k2
  clear hW2 d0 d1 hb1 hrd h' k2 hir
  generalize w1.heap.size = q1 at *
  go_upto_region 4 with (go_at_call 28; refine hth.mono ?_; rintro e w2 ⟨rfl, hb2⟩)
  have h4 := h2.below hb2
  have x0 := keep_below x0 hb2
  have x1' := keep_below x1 hb2
  have e0 := keep_below e0 hb2
  have e1 := keep_below e1 hb2
  have kb4 := bnext kb2 hb2
  obtain ⟨W4, hW4⟩ : ∃ W4, W4 = w2 := ⟨_, rfl⟩
  subst hW4
  obtain ⟨bo, oo, br, or_, c', hA, x1, x2, x3⟩ := h4.spot hi hj
  subst hA
  rw [hH] at x2
  have z0 := block_lt_of_cell x0
  have z1 := block_lt_of_cell e0
  have k0 : (0 : Int) ≤ (i : Int) := by omega
  have k1 : (i : Int) < (L : Int) := by omega
  have k3 : (0 : Int) ≤ (j : Int) := by omega
  have k5 : (j : Int) < (M : Int) := by omega
  have hw : IntKind.i64.wrap ((j : Int) + 1 - 1) = (j : Int) := by rw [IntKind.wrap_i64]; omega
  have hw' : (j : Int) + 1 - 1 = (j : Int) := by omega
  clear h2 h4 hth hH hb2 kb2
  obtain ⟨g, hg⟩ : ∃ g, s.G (i : Int) ((j : Int) + 1) = g := ⟨_, rfl⟩
  rw [hg] at x3
  have HG := Lib.hid hg
  clear hg
  have hX := @Ext.cell W4
  have hzz0 := block_lt_of_cell x0
  have hzz1 := block_lt_of_cell x1
  have hzz2 := block_lt_of_cell x2
  have hzz3 := block_lt_of_cell x3
  have hzz4 := block_lt_of_cell e0
  refine wp_region_noPanic ?_
  refine wp_region_plan (fun w' => ∃ x : Ext W4, w' = x.w) [([0, 1, 2, 3, 4, 5, 6, 7, 8, 9], 10), ([], 11)] [] (by kernel_rfl) (by kernel_rfl) (by kernel_rfl) (fun _ _ _ _ _ h => h) ⟨⟨_, (brefl W4).drew⟩, rfl⟩ ?_
  refine wpPlan_cons ?_
  simp only [pickOps, List.getElem?_cons_succ, List.getElem?_cons_zero, Option.elim_some]
  repeat (go_big_quiet_step (fail))
  refine wpQuiet_nil ?_
  refine planAct_some (fun K hK => ?_)
  go_simp
  refine hK.out _ _ ⟨⟨_, (bnew (brefl W4).drew _)⟩, rfl⟩ ?_
  clear hK K
  refine wpPlan_cons ?_
  simp only [pickOps, List.getElem?_cons_succ, List.getElem?_cons_zero, Option.elim_some]
  repeat (go_big_quiet_step (fail))
  refine wpQuiet_nil ?_
  refine planAct_some (fun K hK => ?_)
  go_simp
  refine hK.out _ _ ⟨⟨_, (bnew (brefl W4).drew _)⟩, rfl⟩ ?_
  clear hK K
  refine wpPlan_last ?_
  simp only [pickOps, List.getElem?_cons_succ, List.getElem?_cons_zero, Option.elim_some]
  repeat (go_big_quiet_step (fail))
  refine wpQuiet_nil ?_
  refine NoPanic.normal ?_
  clear hX hzz0 hzz1 hzz2 hzz3 hzz4
  go_wp2
  go_ret
  exact ⟨by first | rfl | (rw [HG.out]; rfl), bnext kb4 (bnew (brefl W4).drew _)⟩
theorem rleads_any {w : World} {A : Option Addr} {c L M : Nat} {s : St} (h : RW w A c L M s) (a n : Int) (hn : U64 n) : Calls Try.prog 27 #[(.agg #[.slice A L c, .int .i64 s.slips]), .int .i64 a, .int .u64 n] w fun e w' => e = .returned (.bool (rleadsB s a n)) ∧ Below w.heap.size w w' := by
  unfold rleadsB
  cases hir : inR s a (lSlot n.toNat : Nat) with
  | false => exact rleads_out h a n hn rfl hir
  | true =>
    obtain ⟨i, j, rfl, hb, hi, hj⟩ := h.nat hir
    rw [hb]
    cases hH : s.H (i : Int) ((j : Int) + 1) with
    | false => exact rleads_free h i n hn hi hj hb hH
    | true => exact rleads_held h i n hn hi hj hb hH
/-- Both lead alike. -/
theorem leads_same {s : St} (h60 : s.sl ≤ 60) (hG : ∀ a b, 0 ≤ s.G a b ∧ s.G a b ≤ 1000000) (a n : Int) : rleadsB s a n = leadsB s a n := by
  unfold rleadsB leadsB
  cases hir : inR s a (lSlot n.toNat : Nat) with
  | false => rfl
  | true =>
    have hl : linkV s a (lSlot n.toNat : Nat) = lmk (lSlot n.toNat : Nat) (s.G a (lSlot n.toNat : Nat)) := by unfold linkV; rw [hir]; rfl
    have hb := inR_b hir h60
    have hg := hG a (lSlot n.toNat : Nat)
    rw [hl]
    congr 1
    rw [Bool.eq_iff_iff, beq_iff_eq, decide_eq_true_iff]
    generalize s.G a (lSlot n.toNat : Nat) = g at hg
    unfold lPlain lmk lGen lSlot Fld.u64
    omega
end Go.Proofs.Ytlnnnaefmgikpaa
