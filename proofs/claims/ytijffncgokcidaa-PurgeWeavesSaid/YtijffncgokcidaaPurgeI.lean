/- Scripts: the law PurgeTo. -/
import Derived.Test.YtijffncgokcidaaPurgeH
namespace Go.Proofs.Ytijffncgokcidaa
set_option linter.unusedVariables false
set_option linter.unusedSimpArgs false
open Go.RowKit

theorem wpQuiet_load_row_g {P : Program} {ops : Array Oper} {C : World → Prop} {Q : Act → Prop} {rest : List Oper} {o : Oper} {a : Act} (hgd : Region.wanted o (yielded ops a.tmps) = true) (ty : TypeId) (x : Operand) (ho : o.op = .load ty x)
    (g : Nat) (hx : a.eval x = .pointer (some ⟨g, 0, none⟩)) (t : TypeId) (cs : Array Value) (d : TypeDesc) (hg : ∀ w, C w → Blk w g t cs)
    (hu : P.underlying ty = some d) (hd : (match d with | .struct _ | .array _ _ => true | _ => false) = true) (hi : (P.info? ty).map (·.size) = some cs.size)
    (h : wpQuiet P ops C Q rest (a.put o.dst (.agg cs))) : wpQuiet P ops C Q (o :: rest) a := by
  unfold wpQuiet
  rw [if_pos hgd]
  refine ⟨.agg cs, fun w hw => ?_, h⟩
  unfold Oper.quietAt execOp
  simp only [ho, hx, Instr.loadAt, Instr.sureAddr, Sem.run_bind, Sem.run_pure, Result.andThen_ok, run_loadVar_row w g t ty cs (0, 0) d (hg w hw) hu hd hi]
  exact ⟨rfl, rfl⟩
/-- What is the same on both sides. -/
theorem same_self {w : World} {c : Cf} {us us2 : List Value} {ps : List (List CV)} {EA EA2 : Option Addr} {en ec en2 ec2 : Nat} {es : List En} (hP : PIn (fun _ => False) w us ps) (hE : Sl enc_ w EA en ec es) (hP2 : PIn (fun _ => False) w us2 ps) (hE2 : Sl enc_ w EA2 en2 ec2 es) (hen : en ≤ 1000000) (hre : ∀ l, l ∈ ps → l.length * 56 ≤ 140737488351232) :
    Calls Try.prog 8 #[.agg (scc c us (.slice EA en ec)).toArray, .agg (scc c us2 (.slice EA2 en2 ec2)).toArray] w fun e w' => e = .returned (.bool true) ∧ Below w.heap.size w w' := by
  have h := same_any (c := c) (c2 := c) hP hE hP2 hE2 hen (by have := hE.len; have := hE2.len; omega) hre hre
  rwa [show sameB c c ps ps es es = true from same_yes rfl rfl rfl] at h
set_option maxHeartbeats 4000000 in
set_option maxRecDepth 100000 in
theorem purgeto_a {w : World} {c c2 : Cf} {us us2 : List Value} {EA EA2 : Option Addr} {en ec en2 ec2 : Nat} (h8 : us.length = 8) (h82 : us2.length = 8) (lv : Int) (hg : 2000 < en) :
    Calls Try.prog 3 #[.agg (scc c us (.slice EA en ec)).toArray, .agg (scc c2 us2 (.slice EA2 en2 ec2)).toArray, .int .i64 lv] w fun e w' => e = .returned (.bool true) ∧ Below w.heap.size w w' := by
  have hi0 := info_scc (c := c) (us := us) (ev := .slice EA en ec) h8
  have hi1 := info_scc (c := c2) (us := us2) (ev := .slice EA2 en2 ec2) h82
  go_enter Try.func3, Try.ntmps3
  go_upto_region 1 with (fail)
  obtain ⟨W0, hW0, B0, B1, kb⟩ : ∃ W0, (w.alloc (.cells (scc c us (.slice EA en ec)).toArray 29)).alloc (.cells (scc c2 us2 (.slice EA2 en2 ec2)).toArray 29) = W0 ∧ Blk W0 w.heap.size 29 (scc c us (.slice EA en ec)).toArray ∧ Blk W0 (w.heap.size + 1) 29 (scc c2 us2 (.slice EA2 en2 ec2)).toArray ∧ Below w.heap.size w W0 := ⟨_, rfl, (Blk.new _ _ _).alloc _, by have := Blk.new (w.alloc (.cells (scc c us (.slice EA en ec)).toArray 29)) 29 (scc c2 us2 (.slice EA2 en2 ec2)).toArray; rwa [World.size_alloc] at this, bnew (bnew (brefl w) _) _⟩
  rw [hW0]
  clear hW0
  have hgr := great_any (c := c) (A := EA) (n := en) (d := ec) (w := W0) h8
  rw [decide_eq_true (by omega)] at hgr
  clear h8 h82 hg
  have tok1 : True := trivial; have tok2 : True := trivial; have tok3 : True := trivial; have tok4 : True := trivial
  go_wp2_with (first | (have _t := tok1; refine wpList_load_row (o := ⟨some 7, _, _, _, _, _⟩) rfl 29 (.tmp 3) rfl w.heap.size rfl 29 _ _ _ B0 Try.underlying29 rfl hi0 ?_; clear tok1 _t) | (have _t := tok2; go_at_call 6; refine hgr.mono ?_; rintro e wa ⟨rfl, hba⟩; clear tok2 _t) | (have _t := tok3; go_at_call 7; refine (lives19 _).mono ?_; rintro e wb ⟨rfl, hbb⟩; clear tok3 _t))
  go_ret
  exact ⟨rfl, bnext (bnext kb hba) hbb⟩
set_option maxHeartbeats 4000000 in
set_option maxRecDepth 100000 in
theorem purgeto_b {w : World} {c c2 : Cf} {us us2 : List Value} {EA EA2 : Option Addr} {en ec en2 ec2 : Nat} (h8 : us.length = 8) (h82 : us2.length = 8) (lv : Int) (hg0 : en ≤ 2000) (hg : 2000 < en2) :
    Calls Try.prog 3 #[.agg (scc c us (.slice EA en ec)).toArray, .agg (scc c2 us2 (.slice EA2 en2 ec2)).toArray, .int .i64 lv] w fun e w' => e = .returned (.bool true) ∧ Below w.heap.size w w' := by
  have hi0 := info_scc (c := c) (us := us) (ev := .slice EA en ec) h8
  have hi1 := info_scc (c := c2) (us := us2) (ev := .slice EA2 en2 ec2) h82
  go_enter Try.func3, Try.ntmps3
  go_upto_region 1 with (fail)
  obtain ⟨W0, hW0, B0, B1, kb⟩ : ∃ W0, (w.alloc (.cells (scc c us (.slice EA en ec)).toArray 29)).alloc (.cells (scc c2 us2 (.slice EA2 en2 ec2)).toArray 29) = W0 ∧ Blk W0 w.heap.size 29 (scc c us (.slice EA en ec)).toArray ∧ Blk W0 (w.heap.size + 1) 29 (scc c2 us2 (.slice EA2 en2 ec2)).toArray ∧ Below w.heap.size w W0 := ⟨_, rfl, (Blk.new _ _ _).alloc _, by have := Blk.new (w.alloc (.cells (scc c us (.slice EA en ec)).toArray 29)) 29 (scc c2 us2 (.slice EA2 en2 ec2)).toArray; rwa [World.size_alloc] at this, bnew (bnew (brefl w) _) _⟩
  rw [hW0]
  clear hW0
  have hgr := great_any (c := c) (A := EA) (n := en) (d := ec) (w := W0) h8
  rw [decide_eq_false (by omega)] at hgr
  have hgr2 := fun W => great_any (c := c2) (A := EA2) (n := en2) (d := ec2) (w := W) h82
  simp only [decide_eq_true (show (2000 : Int) < (en2 : Int) by omega)] at hgr2
  clear h8 h82 hg hg0
  have tok1 : True := trivial; have tok2 : True := trivial; have tok3 : True := trivial; have tok4 : True := trivial
  have tok5 : True := trivial
  go_wp2_with (first | (have _t := tok1; refine wpList_load_row (o := ⟨some 7, _, _, _, _, _⟩) rfl 29 (.tmp 3) rfl w.heap.size rfl 29 _ _ _ B0 Try.underlying29 rfl hi0 ?_; clear tok1 _t) | (have _t := tok2; go_at_call 6; refine hgr.mono ?_; rintro e wa ⟨rfl, hba⟩; have B1a := B1.below_ hba; clear tok2 _t) | (have _t := tok3; refine wpList_load_row_g (o := ⟨some 10, _, _, _, _, _⟩) rfl 29 (.tmp 4) rfl (w.heap.size + 1) rfl 29 _ _ _ B1a Try.underlying29 rfl hi1 ?_; clear tok3 _t) | (have _t := tok4; go_at_call 6; refine (hgr2 _).mono ?_; rintro e wc ⟨rfl, hbc⟩; clear tok4 _t) | (have _t := tok5; go_at_call 7; refine (lives19 _).mono ?_; rintro e wb ⟨rfl, hbb⟩; clear tok5 _t))
  go_ret
  exact ⟨rfl, bnext (bnext (bnext kb hba) hbc) hbb⟩
set_option maxHeartbeats 4000000 in
set_option maxRecDepth 100000 in
theorem purgeto_c {w : World} {c c2 : Cf} {us us2 : List Value} {ps ps2 : List (List CV)} {EA EA2 : Option Addr} {en ec en2 ec2 : Nat} {es es2 : List En} (hP : PIn (fun _ => False) w us ps) (hE : Sl enc_ w EA en ec es) (hP2 : PIn (fun _ => False) w us2 ps2) (hE2 : Sl enc_ w EA2 en2 ec2 es2) (hen : en ≤ 1000000) (hen2 : en2 ≤ 1000000) (hre : ∀ l, l ∈ ps → l.length * 56 ≤ 140737488351232) (hre2 : ∀ l, l ∈ ps2 → l.length * 56 ≤ 140737488351232) (lv : Int) (hg0 : en ≤ 2000) (hg : en2 ≤ 2000) :
    Calls Try.prog 3 #[.agg (scc c us (.slice EA en ec)).toArray, .agg (scc c2 us2 (.slice EA2 en2 ec2)).toArray, .int .i64 lv] w fun e w' => e = .returned (.bool true) ∧ Below w.heap.size w w' := by
  have hi0 := info_scc (c := c) (us := us) (ev := .slice EA en ec) hP.u8
  have hi1 := info_scc (c := c2) (us := us2) (ev := .slice EA2 en2 ec2) hP2.u8
  go_enter Try.func3, Try.ntmps3
  go_upto_region 1 with (fail)
  obtain ⟨W0, hW0, B0, B1, kb⟩ : ∃ W0, (w.alloc (.cells (scc c us (.slice EA en ec)).toArray 29)).alloc (.cells (scc c2 us2 (.slice EA2 en2 ec2)).toArray 29) = W0 ∧ Blk W0 w.heap.size 29 (scc c us (.slice EA en ec)).toArray ∧ Blk W0 (w.heap.size + 1) 29 (scc c2 us2 (.slice EA2 en2 ec2)).toArray ∧ Below w.heap.size w W0 := ⟨_, rfl, (Blk.new _ _ _).alloc _, by have := Blk.new (w.alloc (.cells (scc c us (.slice EA en ec)).toArray 29)) 29 (scc c2 us2 (.slice EA2 en2 ec2)).toArray; rwa [World.size_alloc] at this, bnew (bnew (brefl w) _) _⟩
  rw [hW0]
  clear hW0
  have hgr := great_any (c := c) (A := EA) (n := en) (d := ec) (w := W0) hP.u8
  rw [decide_eq_false (by omega)] at hgr
  have hgr2 := fun W => great_any (c := c2) (A := EA2) (n := en2) (d := ec2) (w := W) hP2.u8
  simp only [decide_eq_false (show ¬ (2000 : Int) < (en2 : Int) by omega)] at hgr2
  have hen1 : en ≤ 1000000 := by omega
  clear hg hg0
  have tok1 : True := trivial; have tok2 : True := trivial; have tok3 : True := trivial; have tok4 : True := trivial
  go_upto_region 3 with (first | (have _t := tok1; refine wpList_load_row (o := ⟨some 7, _, _, _, _, _⟩) rfl 29 (.tmp 3) rfl w.heap.size rfl 29 _ _ _ B0 Try.underlying29 rfl hi0 ?_; clear tok1 _t) | (have _t := tok2; go_at_call 6; refine hgr.mono ?_; rintro e wa ⟨rfl, hba⟩; have B1a := B1.below_ hba; clear tok2 _t) | (have _t := tok3; refine wpList_load_row_g (o := ⟨some 10, _, _, _, _, _⟩) rfl 29 (.tmp 4) rfl (w.heap.size + 1) rfl 29 _ _ _ B1a Try.underlying29 rfl hi1 ?_; clear tok3 _t) | (have _t := tok4; go_at_call 6; refine (hgr2 _).mono ?_; rintro e wc ⟨rfl, hbc⟩; clear tok4 _t))
  have hb := bnext hba hbc
  have C0 := B0.below_ hb
  have C1 := B1.below_ hb
  have kb1 := bnext kb hb
  have heq := fun (W : World) (hW : Below w.heap.size w W) => equal_any (c := c) (c2 := c2) (hP.below hW) (hE.below hW) (hP2.below hW) (hE2.below hW) hen hen2 hre hre2 lv
  have hreq := fun (W : World) (hW : Below w.heap.size w W) => requal_any (c := c) (c2 := c2) (hP.below hW) (hE.below hW) (hP2.below hW) (hE2.below hW) hen hen2 hre hre2 lv
  generalize eqTo c c2 ps ps2 es es2 lv = EQ at *
  clear B0 B1 B1a hba hbc hgr hgr2 kb hb
  obtain ⟨W1, hW1⟩ : ∃ W1, W1 = wc := ⟨_, rfl⟩
  subst hW1
  have hX := @Ext.cell W1
  refine wp_region_noPanic ?_
  refine wp_region_plan (fun w' => ∃ x : Ext W1, w' = x.w) [([0, 1, 3, 4], 2), ([], 5), ([], 6), ([7, 8, 9, 11, 12], 10), ([], 13), ([], 14), ([15, 16, 17, 18, 19, 21, 22, 23], 20), ([], 24), ([25, 26, 27], 28)] [29, 30] (by kernel_rfl) (by kernel_rfl) (by kernel_rfl) (fun _ _ _ _ _ h => h) ⟨⟨_, (brefl W1).drew⟩, rfl⟩ ?_
  refine wpPlan_cons ?_
  simp only [pickOps, List.getElem?_cons_succ, List.getElem?_cons_zero, Option.elim_some]
  refine wpQuiet_load_row_g rfl 29 (.tmp 3) rfl w.heap.size rfl 29 _ _ (blk_ext C0) Try.underlying29 rfl hi0 ?_; simp only [Act.put, List.setIfInBounds_toArray, List.set_cons_succ, List.set_cons_zero]
  go_big_quiet_step (fail)
  refine wpQuiet_load_row_g rfl 29 (.tmp 3) rfl w.heap.size rfl 29 _ _ (blk_ext C0) Try.underlying29 rfl hi0 ?_; simp only [Act.put, List.setIfInBounds_toArray, List.set_cons_succ, List.set_cons_zero]
  go_big_quiet_step (fail)
  refine wpQuiet_nil ?_
  refine planAct_some (fun K hK => ?_)
  go_simp
  refine (to_any lv (hP.below kb1.drew) (hE.below kb1.drew) hen1 hre).mono ?_
  rintro e w1 ⟨ua, Aa, ma, da, rfl, PA, SA, h1⟩
  go_wp2_with fail
  refine hK.out _ _ ⟨⟨_, (bnext (brefl W1).drew h1)⟩, rfl⟩ ?_
  clear hK K
  refine wpPlan_cons ?_
  simp only [pickOps, List.getElem?_cons_succ, List.getElem?_cons_zero, Option.elim_some]
  repeat (go_big_quiet_step (fail))
  refine wpQuiet_nil ?_
  refine planAct_some (fun K hK => ?_)
  go_simp
  refine (rkeep_to lv (hP.below (bnext kb1.drew h1)) (hE.below (bnext kb1.drew h1)) hen1).mono ?_
  rintro e w2 ⟨ub, Ab, mb, db, rfl, PB, SB, h2⟩
  go_wp2_with fail
  refine hK.out _ _ ⟨⟨_, (bnext (bnext (brefl W1).drew h1) h2)⟩, rfl⟩ ?_
  clear hK K
  refine wpPlan_cons ?_
  simp only [pickOps, List.getElem?_cons_succ, List.getElem?_cons_zero, Option.elim_some]
  repeat (go_big_quiet_step (fail))
  refine wpQuiet_nil ?_
  refine planAct_some (fun K hK => ?_)
  go_simp
  refine (same_self (PA.below h2) (SA.below h2) PB SB (filt_le SA hE hen1) (psK_re hre)).mono ?_
  rintro e w3 ⟨rfl, h3⟩
  go_wp2_with fail
  refine hK.out _ _ ⟨⟨_, (bnext (bnext (bnext (brefl W1).drew h1) h2) h3)⟩, rfl⟩ ?_
  clear hK K
  refine wpPlan_cons ?_
  simp only [pickOps, List.getElem?_cons_succ, List.getElem?_cons_zero, Option.elim_some]
  go_big_quiet_step (fail)
  refine wpQuiet_load_row_g rfl 29 (.tmp 3) rfl w.heap.size rfl 29 _ _ (blk_ext C0) Try.underlying29 rfl hi0 ?_; simp only [Act.put, List.setIfInBounds_toArray, List.set_cons_succ, List.set_cons_zero]
  go_big_quiet_step (fail)
  refine wpQuiet_load_row_g rfl 29 (.tmp 3) rfl w.heap.size rfl 29 _ _ (blk_ext C0) Try.underlying29 rfl hi0 ?_; simp only [Act.put, List.setIfInBounds_toArray, List.set_cons_succ, List.set_cons_zero]
  go_big_quiet_step (fail)
  refine wpQuiet_nil ?_
  refine planAct_some (fun K hK => ?_)
  go_simp
  refine (abv_any lv (hP.below (bnext (bnext (bnext kb1.drew h1) h2) h3)) (hE.below (bnext (bnext (bnext kb1.drew h1) h2) h3)) hen1 hre).mono ?_
  rintro e w4 ⟨uc, Ac, mc, dc, rfl, PC, SC, h4⟩
  go_wp2_with fail
  refine hK.out _ _ ⟨⟨_, (bnext (bnext (bnext (bnext (brefl W1).drew h1) h2) h3) h4)⟩, rfl⟩ ?_
  clear hK K
  refine wpPlan_cons ?_
  simp only [pickOps, List.getElem?_cons_succ, List.getElem?_cons_zero, Option.elim_some]
  repeat (go_big_quiet_step (fail))
  refine wpQuiet_nil ?_
  refine planAct_some (fun K hK => ?_)
  go_simp
  refine (rkeep_ab lv (hP.below (bnext (bnext (bnext (bnext kb1.drew h1) h2) h3) h4)) (hE.below (bnext (bnext (bnext (bnext kb1.drew h1) h2) h3) h4)) hen1).mono ?_
  rintro e w5 ⟨ud, Ad, md, dd, rfl, PD, SD, h5⟩
  go_wp2_with fail
  refine hK.out _ _ ⟨⟨_, (bnext (bnext (bnext (bnext (bnext (brefl W1).drew h1) h2) h3) h4) h5)⟩, rfl⟩ ?_
  clear hK K
  refine wpPlan_cons ?_
  simp only [pickOps, List.getElem?_cons_succ, List.getElem?_cons_zero, Option.elim_some]
  repeat (go_big_quiet_step (fail))
  refine wpQuiet_nil ?_
  refine planAct_some (fun K hK => ?_)
  go_simp
  refine (same_self (PC.below h5) (SC.below h5) PD SD (filt_le SC hE hen1) (psK_re hre)).mono ?_
  rintro e w6 ⟨rfl, h6⟩
  go_wp2_with fail
  refine hK.out _ _ ⟨⟨_, (bnext (bnext (bnext (bnext (bnext (bnext (brefl W1).drew h1) h2) h3) h4) h5) h6)⟩, rfl⟩ ?_
  clear hK K
  refine wpPlan_cons ?_
  simp only [pickOps, List.getElem?_cons_succ, List.getElem?_cons_zero, Option.elim_some]
  go_big_quiet_step (fail)
  go_big_quiet_step (fail)
  refine wpQuiet_load_row_g rfl 29 (.tmp 3) rfl w.heap.size rfl 29 _ _ (blk_ext C0) Try.underlying29 rfl hi0 ?_; simp only [Act.put, List.setIfInBounds_toArray, List.set_cons_succ, List.set_cons_zero]
  refine wpQuiet_load_row_g rfl 29 (.tmp 4) rfl (w.heap.size + 1) rfl 29 _ _ (blk_ext C1) Try.underlying29 rfl hi1 ?_; simp only [Act.put, List.setIfInBounds_toArray, List.set_cons_succ, List.set_cons_zero]
  go_big_quiet_step (fail)
  refine wpQuiet_load_row_g rfl 29 (.tmp 3) rfl w.heap.size rfl 29 _ _ (blk_ext C0) Try.underlying29 rfl hi0 ?_; simp only [Act.put, List.setIfInBounds_toArray, List.set_cons_succ, List.set_cons_zero]
  refine wpQuiet_load_row_g rfl 29 (.tmp 4) rfl (w.heap.size + 1) rfl 29 _ _ (blk_ext C1) Try.underlying29 rfl hi1 ?_; simp only [Act.put, List.setIfInBounds_toArray, List.set_cons_succ, List.set_cons_zero]
  go_big_quiet_step (fail)
  refine wpQuiet_nil ?_
  refine planAct_some (fun K hK => ?_)
  go_simp
  refine (heq _ (bnext (bnext (bnext (bnext (bnext (bnext kb1.drew h1) h2) h3) h4) h5) h6)).mono ?_
  rintro e w7 ⟨rfl, h7⟩
  go_wp2_with fail
  refine hK.out _ _ ⟨⟨_, (bnext (bnext (bnext (bnext (bnext (bnext (bnext (brefl W1).drew h1) h2) h3) h4) h5) h6) h7)⟩, rfl⟩ ?_
  clear hK K
  refine wpPlan_cons ?_
  simp only [pickOps, List.getElem?_cons_succ, List.getElem?_cons_zero, Option.elim_some]
  repeat (go_big_quiet_step (fail))
  refine wpQuiet_nil ?_
  refine planAct_some (fun K hK => ?_)
  go_simp
  refine (hreq _ (bnext (bnext (bnext (bnext (bnext (bnext (bnext kb1.drew h1) h2) h3) h4) h5) h6) h7)).mono ?_
  rintro e w8 ⟨rfl, h8⟩
  go_wp2_with fail
  refine hK.out _ _ ⟨⟨_, (bnext (bnext (bnext (bnext (bnext (bnext (bnext (bnext (brefl W1).drew h1) h2) h3) h4) h5) h6) h7) h8)⟩, rfl⟩ ?_
  clear hK K
  refine wpPlan_cons ?_
  simp only [pickOps, List.getElem?_cons_succ, List.getElem?_cons_zero, Option.elim_some]
  repeat (go_big_quiet_step (fail))
  refine wpQuiet_nil ?_
  refine planAct_some (fun K hK => ?_)
  go_simp
  refine (lives19 _).mono ?_
  rintro e w9 ⟨rfl, h9⟩
  go_wp2_with fail
  refine hK.out _ _ ⟨⟨_, (bnext (bnext (bnext (bnext (bnext (bnext (bnext (bnext (bnext (brefl W1).drew h1) h2) h3) h4) h5) h6) h7) h8) h9)⟩, rfl⟩ ?_
  clear hK K
  refine wpPlan_last ?_
  simp only [pickOps, List.getElem?_cons_succ, List.getElem?_cons_zero, Option.elim_some]
  repeat (go_big_quiet_step (fail))
  refine wpQuiet_nil ?_
  refine NoPanic.normal ?_
  clear hX
  go_wp2_with fail
  go_ret
  exact ⟨rfl, (bnext (bnext (bnext (bnext (bnext (bnext (bnext (bnext (bnext kb1.drew h1) h2) h3) h4) h5) h6) h7) h8) h9)⟩
theorem purgeto_any {w : World} {c c2 : Cf} {us us2 : List Value} {ps ps2 : List (List CV)} {EA EA2 : Option Addr} {en ec en2 ec2 : Nat} {es es2 : List En} (hP : PIn (fun _ => False) w us ps) (hE : Sl enc_ w EA en ec es) (hP2 : PIn (fun _ => False) w us2 ps2) (hE2 : Sl enc_ w EA2 en2 ec2 es2) (hre : ∀ l, l ∈ ps → l.length * 56 ≤ 140737488351232) (hre2 : ∀ l, l ∈ ps2 → l.length * 56 ≤ 140737488351232) (lv : Int) :
    Calls Try.prog 3 #[.agg (scc c us (.slice EA en ec)).toArray, .agg (scc c2 us2 (.slice EA2 en2 ec2)).toArray, .int .i64 lv] w fun e w' => e = .returned (.bool true) ∧ Below w.heap.size w w' := by
  by_cases h1 : 2000 < en
  · exact purgeto_a hP.u8 hP2.u8 lv h1
  · by_cases h2 : 2000 < en2
    · exact purgeto_b hP.u8 hP2.u8 lv (by omega) h2
    · exact purgeto_c hP hE hP2 hE2 (by omega) (by omega) hre hre2 lv (by omega) (by omega)
end Go.Proofs.Ytijffncgokcidaa
