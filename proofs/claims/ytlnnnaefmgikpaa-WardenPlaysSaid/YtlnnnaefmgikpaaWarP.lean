/- The law's same: the warden and the document's answer alike. -/
import Derived.Test.YtlnnnaefmgikpaaWarO
namespace Go.Proofs.Ytlnnnaefmgikpaa
set_option linter.unusedVariables false
set_option linter.unusedSimpArgs false
open Go.RowKit

set_option maxHeartbeats 4000000 in
set_option maxRecDepth 100000 in
theorem lawsame_any {w : World} {p bh bg N : Nat} {A : Option Addr} {c L M : Nat} {s : St} (h : WB w p bh bg N s) (hr : RW w A c L M s) (hin : ∀ a b, s.H a b = true → inR s a b = true) (hGb : ∀ a b, 0 ≤ s.G a b ∧ s.G a b ≤ 1000000) (a b n : Int) (ha : wfI a) (hn : U64 n) : Calls Try.prog 15 #[.pointer (some ⟨p, 0, none⟩), (.agg #[.slice A L c, .int .i64 s.slips]), .int .i64 a, .int .i64 b, .int .u64 n] w fun e w' => e = .returned (.bool true) ∧ Below w.heap.size w w' := by
  have h60 : s.sl ≤ 60 := by rw [hr.sl]; have := hr.m60; omega
  go_enter Try.func15, Try.ntmps15
  go_upto_region 1 with (fail)
  obtain ⟨W1, hW1, B1, h1, r1, kb1⟩ : ∃ W1, w.alloc (.cells #[.slice A L c, .int .i64 s.slips] 38) = W1 ∧ Blk W1 w.heap.size 38 #[.slice A L c, .int .i64 s.slips] ∧ WB W1 p bh bg N s ∧ RW W1 A c L M s ∧ Below w.heap.size w W1 := ⟨_, rfl, Blk.new _ _ _, h.below (bnew (brefl w) _), hr.below (bnew (brefl w) _), bnew (brefl w) _⟩
  rw [hW1]
  have d0 : W1.cell? ⟨w.heap.size, 0, none⟩ = some (.slice A L c) := B1.cell 0
  have d1 : W1.cell? ⟨w.heap.size, 1, none⟩ = some (.int .i64 s.slips) := B1.cell 1
  clear hW1 h hr B1
  have hA := held_any (h1.below (brefl W1).drew) a ha
  obtain ⟨k, hHN⟩ : ∃ k, heldN s a = k := ⟨_, rfl⟩
  obtain ⟨lk, hLK⟩ : ∃ lk, linkV s a b = lk := ⟨_, rfl⟩
  obtain ⟨le, hLE⟩ : ∃ le, leadsB s a n = le := ⟨_, rfl⟩
  rw [hHN] at hA
  have HHN := Lib.hid hHN
  have HLK := Lib.hid hLK
  have HLE := Lib.hid hLE
  have H60 := Lib.hid h60
  have HGB := Lib.hid hGb
  have HIN := Lib.hid hin
  clear hHN hLK hLE h60 hGb hin
  have hX := @Ext.cell W1
  have hzz0 := block_lt_of_cell d0
  refine wp_region_noPanic ?_
  refine wp_region_plan (fun w' => ∃ x : Ext W1, w' = x.w) [([0, 1, 3, 4], 2), ([], 5), ([6, 7, 8, 10, 11], 9), ([12, 13, 14, 15, 16, 17, 19, 20, 21], 18), ([], 22), ([23, 24, 25, 26, 27, 28, 30, 31, 32], 29), ([], 33)] [34, 35, 36] (by kernel_rfl) (by kernel_rfl) (by kernel_rfl) (fun _ _ _ _ _ h => h) ⟨⟨_, (brefl W1).drew⟩, rfl⟩ ?_
  refine wpPlan_cons ?_
  simp only [pickOps, List.getElem?_cons_succ, List.getElem?_cons_zero, Option.elim_some]
  repeat (go_big_quiet_step (fail))
  refine wpQuiet_nil ?_
  refine planAct_some (fun K hK => ?_)
  go_simp
  refine (hA).mono ?_
  rintro e1 x1 ⟨rfl, q1⟩; have m1 := bnext (brefl W1).drew q1; have g1 := r1.below (of_drew q1); have f1 := h1.below (of_drew q1); have hB := rheld_any g1 HIN.out a; rw [HHN.out] at hB
  go_wp2_with fail
  refine hK.out _ _ ⟨⟨_, m1⟩, rfl⟩ ?_
  clear hK K
  refine wpPlan_cons ?_
  simp only [pickOps, List.getElem?_cons_succ, List.getElem?_cons_zero, Option.elim_some]
  repeat (go_big_quiet_step (fail))
  refine wpQuiet_nil ?_
  refine planAct_some (fun K hK => ?_)
  go_simp
  refine (hB).mono ?_
  rintro e2 x2 ⟨rfl, q2⟩; have m2 := bnext m1 q2; have g2 := g1.below q2; have f2 := f1.below q2; have hC := slips_any f2
  go_wp2_with fail
  refine hK.out _ _ ⟨⟨_, m2⟩, rfl⟩ ?_
  clear hK K
  refine wpPlan_cons ?_
  simp only [pickOps, List.getElem?_cons_succ, List.getElem?_cons_zero, Option.elim_some]
  repeat (go_big_quiet_step (fail))
  refine wpQuiet_nil ?_
  refine planAct_some (fun K hK => ?_)
  go_simp
  refine (hC).mono ?_
  rintro e3 x3 ⟨rfl, rfl⟩; have hD := link_any f2 a b; rw [HLK.out] at hD
  go_wp2_with fail
  refine hK.out _ _ ⟨⟨_, m2⟩, rfl⟩ ?_
  clear hK K
  refine wpPlan_cons ?_
  simp only [pickOps, List.getElem?_cons_succ, List.getElem?_cons_zero, Option.elim_some]
  repeat (go_big_quiet_step (fail))
  refine wpQuiet_nil ?_
  refine planAct_some (fun K hK => ?_)
  go_simp
  refine (hD).mono ?_
  rintro e4 x4 ⟨rfl, q4⟩; have m4 := bnext m2 q4; have g4 := g2.below q4; have f4 := f2.below q4; have hE := rlink_any g4 a b; rw [HLK.out] at hE
  go_wp2_with fail
  refine hK.out _ _ ⟨⟨_, m4⟩, rfl⟩ ?_
  clear hK K
  refine wpPlan_cons ?_
  simp only [pickOps, List.getElem?_cons_succ, List.getElem?_cons_zero, Option.elim_some]
  repeat (go_big_quiet_step (fail))
  refine wpQuiet_nil ?_
  refine planAct_some (fun K hK => ?_)
  go_simp
  refine (hE).mono ?_
  rintro e5 x5 ⟨rfl, q5⟩; have m5 := bnext m4 q5; have g5 := g4.below q5; have f5 := f4.below q5; have hF := leads_any f5 a n hn; rw [HLE.out] at hF
  go_wp2_with fail
  refine hK.out _ _ ⟨⟨_, m5⟩, rfl⟩ ?_
  clear hK K
  refine wpPlan_cons ?_
  simp only [pickOps, List.getElem?_cons_succ, List.getElem?_cons_zero, Option.elim_some]
  repeat (go_big_quiet_step (fail))
  refine wpQuiet_nil ?_
  refine planAct_some (fun K hK => ?_)
  go_simp
  refine (hF).mono ?_
  rintro e6 x6 ⟨rfl, q6⟩; have m6 := bnext m5 q6; have g6 := g5.below q6; have hI := rleads_any g6 a n hn; rw [leads_same H60.out HGB.out, HLE.out] at hI
  go_wp2_with fail
  refine hK.out _ _ ⟨⟨_, m6⟩, rfl⟩ ?_
  clear hK K
  refine wpPlan_cons ?_
  simp only [pickOps, List.getElem?_cons_succ, List.getElem?_cons_zero, Option.elim_some]
  repeat (go_big_quiet_step (fail))
  refine wpQuiet_nil ?_
  refine planAct_some (fun K hK => ?_)
  go_simp
  refine (hI).mono ?_
  rintro e7 x7 ⟨rfl, q7⟩; have m7 := bnext m6 q7
  go_wp2_with fail
  refine hK.out _ _ ⟨⟨_, m7⟩, rfl⟩ ?_
  clear hK K
  refine wpPlan_last ?_
  simp only [pickOps, List.getElem?_cons_succ, List.getElem?_cons_zero, Option.elim_some]
  repeat (go_big_quiet_step (fail))
  refine wpQuiet_nil ?_
  refine NoPanic.normal ?_
  clear hX hzz0
  go_wp2_with fail
  go_ret
  exact ⟨by simp, bnext kb1 m7⟩
end Go.Proofs.Ytlnnnaefmgikpaa
