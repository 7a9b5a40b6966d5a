/- The law ScriptRight. -/
import Derived.Test.YtknngjdcbldmgaaDoorScrN
namespace Go.Proofs.YtknngjdcbldmgaaDoor
set_option linter.unusedVariables false
set_option linter.unusedSimpArgs false
open Go.RowKit

theorem wpQuiet_load_row_g {P : Program} {ops : Array Oper} {C : World → Prop} {Q : Act → Prop} {rest : List Oper} {o : Oper} {a : Act} (hgd : Region.wanted o (yielded ops a.tmps) = true) (ty : TypeId) (x : Operand) (ho : o.op = .load ty x)
    (g : Nat) (hx : a.eval x = .pointer (some ⟨g, 0, none⟩)) (t : TypeId) (cs : Array Value) (d : TypeDesc) (hg : ∀ w, C w → Blk w g t cs)
    (hu : P.underlying ty = some d) (hd : (match d with | .struct _ | .array _ _ => true | _ => false) = true) (hi : (P.info? ty).map (·.size) = some cs.size)
    (h : wpQuiet P ops C Q rest (a.put o.dst (.agg cs))) : wpQuiet P ops C Q (o :: rest) a := by
  unfold wpQuiet
  rw [if_pos hgd]
  refine ⟨.agg cs, fun w hw => ?_, h⟩
  unfold Oper.quietAt execOp
  simp only [ho, hx, Instr.loadAt, Instr.sureAddr, Sem.run_bind, Sem.run_pure, Result.andThen_ok, run_loadVar_row w g t ty cs (0, 0) d (hg w hw) hu hd hi]
  exact ⟨rfl, rfl⟩
set_option maxHeartbeats 4000000 in
set_option maxRecDepth 100000 in
theorem scriptright_any {w : World} {c : Cf} {us : List Value} {ps : List (List CV)} {EA : Option Addr} {en ec : Nat} {es : List En} (hP : PIn (fun _ => False) w us ps) (hE : Sl enc_ w EA en ec es) (hg : GV w) (lv : Int) : Calls Tryd.prog 3 #[.agg (scc c us (.slice EA en ec)).toArray, .int .i64 lv] w fun e w' => e = .returned (.bool true) ∧ Below w.heap.size w w' := by
  have h8 := hP.u8
  have hi := info_scc (c := c) (ev := .slice EA en ec) h8
  obtain ⟨W0, hW0, hB, kb⟩ : ∃ W0, w.alloc (.cells (scc c us (.slice EA en ec)).toArray 29) = W0 ∧ Blk W0 w.heap.size 29 (scc c us (.slice EA en ec)).toArray ∧ Below w.heap.size w W0 := ⟨_, rfl, Blk.new _ _ _, bnew (brefl w) _⟩
  have hP0 := hP.below kb
  have hE0 := hE.below kb
  have hg0 := hg.below kb
  have hgr := great_any (w := W0) (c := c) hP0 hE0 60100
  have x22 : W0.cell? ⟨w.heap.size, 22, none⟩ = some (.slice EA en ec) := (hB.cell 22).trans (by rw [List.getElem?_toArray]; exact scc_last h8)
  have HEL := Lib.hid hE.len
  have HP := Lib.hid hP0
  have HE := Lib.hid hE0
  have HG := Lib.hid hg0
  clear hP hE hg hP0 hE0 hg0
  generalize hcs : scc c us (.slice EA en ec) = cs at *
  have HCS := Lib.hid hcs
  clear hcs
  cases hgb : greatB ps es 60100 with
  | true =>
    rw [hgb] at hgr
    clear hgb
    go_enter Tryd.func3, Tryd.ntmps3
    go_upto_region 1 with (fail)
    have tok1 : True := trivial
    go_wp2_with (first | (have _t := tok1; refine wpList_load_row (o := ⟨some 7, _, _, _, _, _⟩) rfl 29 (.tmp 2) rfl w.heap.size rfl 29 _ _ _ hB Tryd.underlying29 rfl hi ?_; clear tok1 _t) | (go_at_call 7; refine hgr.mono ?_; rintro e w1 ⟨rfl, hb1⟩) | (go_at_call 8; refine (lives18 _).mono ?_; rintro e w2 ⟨rfl, hb2⟩))
    go_ret
    exact ⟨rfl, bnext kb (bnext hb1 hb2)⟩
  | false =>
    rw [hgb] at hgr
    obtain ⟨hps, hen⟩ := great_no HP.out.p8 hgb
    clear hgb
    by_cases h2 : 2000 < en ∧ en < 60000
    · obtain ⟨h2a, h2b⟩ := h2
      have h2a' : (2000 : Int) < (en : Int) := by omega
      have h2b' : (en : Int) < 60000 := by omega
      go_enter Tryd.func3, Tryd.ntmps3
      go_upto_region 1 with (fail)
      have tok1 : True := trivial
      go_wp2_with (first | (have _t := tok1; refine wpList_load_row (o := ⟨some 7, _, _, _, _, _⟩) rfl 29 (.tmp 2) rfl w.heap.size rfl 29 _ _ _ hB Tryd.underlying29 rfl hi ?_; clear tok1 _t) | (go_at_call 7; refine hgr.mono ?_; rintro e w1 ⟨rfl, hb1⟩; have y22 := keep_below x22 hb1; have yz := block_lt_of_cell y22) | (go_at_call 8; refine (lives18 _).mono ?_; rintro e w2 ⟨rfl, hb2⟩))
      go_ret
      exact ⟨rfl, bnext kb (bnext hb1 hb2)⟩
    · have hen2 : en ≤ 1000000 := by have := HEL.out; omega
      have hps2 : ∀ l, l ∈ ps → l.length ≤ 1000000 := fun l hl => by have := hps l hl; omega
      have HRT := Lib.hid (fun W (hW : Below W0.heap.size W0 W) => right_any (w := W) (c := c) (HP.out.below hW) (HE.out.below hW) hen2 hps2 lv)
      have HRR := Lib.hid (fun W (hW : Below W0.heap.size W0 W) => rright_any (w := W) (c := c) (HP.out.below hW) (HE.out.below hW) hen2 hps2 lv)
      have HTP := Lib.hid (fun W (hW : Below W0.heap.size W0 W) => top_any (w := W) (c := c) (HP.out.below hW) (HE.out.below hW) hen2 hps2)
      have HRP := Lib.hid (fun W (hW : Below W0.heap.size W0 W) => rtop_any (w := W) (c := c) (HP.out.below hW) (HE.out.below hW) hen2 hps2)
      rw [HCS.out] at HRT HRR HTP HRP
      clear hps hen hps2 HP HE HCS HEL
      by_cases h2a : 2000 < en
      · have h2a' : (2000 : Int) < (en : Int) := by omega
        have h2b' : decide ((en : Int) < 60000) = false := decide_eq_false (by omega)
        clear h2 h2a
        go_enter Tryd.func3, Tryd.ntmps3
        go_upto_region 1 with (fail)
        have tok1 : True := trivial
        go_upto_region 3 with (first | (have _t := tok1; refine wpList_load_row (o := ⟨some 7, _, _, _, _, _⟩) rfl 29 (.tmp 2) rfl w.heap.size rfl 29 _ _ _ hB Tryd.underlying29 rfl hi ?_; clear tok1 _t) | (go_at_call 7; refine hgr.mono ?_; rintro e w1 ⟨rfl, hb1⟩; have y22 := keep_below x22 hb1; have yz := block_lt_of_cell y22))
        have hB1 := hB.below_ hb1
        clear hB x22 y22 yz hgr
        have tok1 : True := trivial
        go_upto_region 4 with (first | (have _t := tok1; refine wpList_load_row (o := ⟨some 22, _, _, _, _, _⟩) rfl 29 (.tmp 2) rfl w.heap.size rfl 29 _ _ _ hB1 Tryd.underlying29 rfl hi ?_; clear tok1 _t) | (go_at_call 9; refine (HRT.out _ hb1).mono ?_; rintro e w2 ⟨v, rfl, hv, hb2⟩))
        have k2 := bnext hb1 hb2
        have hB2 := hB1.below_ hb2
        have tok1 : True := trivial
        go_upto_region 5 with (first | (have _t := tok1; refine wpList_load_row (o := ⟨some 25, _, _, _, _, _⟩) rfl 29 (.tmp 2) rfl w.heap.size rfl 29 _ _ _ hB2 Tryd.underlying29 rfl hi ?_; clear tok1 _t) | (go_at_call 10; refine (HRR.out _ k2).mono ?_; rintro e W3 ⟨rfl, hb3⟩))
        have k3 := bnext k2 hb3
        have B3 := hB2.below_ hb3
        have hv3 := hv.below hb3
        clear HRT HRR hb1 hB1 hb2 hB2 hv hb3 k2
        have HCO : Hid (∀ W, Below W3.heap.size W3 W → Calls Tryd.prog 11 #[v] W (CodeR W (rightN c ps es lv))) := fun W hW => code_any (hv3.below hW) ((HG.out.below k3).below hW)
        generalize rightN c ps es lv = n at *
        rcases hv3 with ⟨rfl, rfl⟩ | ⟨hn, p, rfl, hp⟩
        · have hX := @Ext.cell W3
          refine wp_region_noPanic ?_
          refine wp_region_plan (fun w' => ∃ x : Ext W3, w' = x.w) [([0, 2], 1), ([3, 4, 5, 6, 7, 8, 9, 10, 11, 12, 14], 13), ([], 15), ([16, 17, 18], 19)] [20, 21] (by kernel_rfl) (by kernel_rfl) (by kernel_rfl) (fun _ _ _ _ _ h => h) ⟨⟨_, (brefl W3).drew⟩, rfl⟩ ?_
          refine wpPlan_cons ?_
          simp only [pickOps, List.getElem?_cons_succ, List.getElem?_cons_zero, Option.elim_some]
          repeat (go_big_quiet_step (fail))
          refine wpQuiet_nil ?_
          refine planAct_some (fun K hK => ?_)
          go_simp
          refine (HCO.out _ ((brefl W3).drew)).mono ?_
          rintro e x1 ⟨rfl, q1⟩; have m1 := bnext ((brefl W3).drew) q1
          go_wp2_with fail
          refine hK.out _ _ ⟨⟨_, m1⟩, rfl⟩ ?_
          clear hK K
          refine wpPlan_cons ?_
          simp only [pickOps, List.getElem?_cons_succ, List.getElem?_cons_zero, Option.elim_some]
          go_big_quiet_step (fail)
          go_big_quiet_step (fail)
          go_big_quiet_step (fail)
          go_big_quiet_step (fail)
          go_big_quiet_step (fail)
          go_big_quiet_step (fail)
          go_big_quiet_step (fail)
          go_big_quiet_step (fail)
          go_big_quiet_step (fail)
          refine wpQuiet_load_row_g rfl 29 (.tmp 2) rfl w.heap.size rfl 29 _ _ (blk_ext B3) Tryd.underlying29 rfl hi ?_; simp only [Act.put, List.setIfInBounds_toArray, List.set_cons_succ, List.set_cons_zero]
          refine wpQuiet_load_row_g rfl 29 (.tmp 2) rfl w.heap.size rfl 29 _ _ (blk_ext B3) Tryd.underlying29 rfl hi ?_; simp only [Act.put, List.setIfInBounds_toArray, List.set_cons_succ, List.set_cons_zero]
          refine wpQuiet_nil ?_
          refine planAct_some (fun K hK => ?_)
          go_simp
          refine (HTP.out _ (bnext k3 m1)).mono ?_
          rintro e x2 ⟨rfl, q2⟩; have m2 := bnext m1 q2
          go_wp2_with fail
          refine hK.out _ _ ⟨⟨_, m2⟩, rfl⟩ ?_
          clear hK K
          refine wpPlan_cons ?_
          simp only [pickOps, List.getElem?_cons_succ, List.getElem?_cons_zero, Option.elim_some]
          repeat (go_big_quiet_step (fail))
          refine wpQuiet_nil ?_
          refine planAct_some (fun K hK => ?_)
          go_simp
          refine (HRP.out _ (bnext k3 m2)).mono ?_
          rintro e x3 ⟨rfl, q3⟩; have m3 := bnext m2 q3
          go_wp2_with fail
          refine hK.out _ _ ⟨⟨_, m3⟩, rfl⟩ ?_
          clear hK K
          refine wpPlan_cons ?_
          simp only [pickOps, List.getElem?_cons_succ, List.getElem?_cons_zero, Option.elim_some]
          repeat (go_big_quiet_step (fail))
          refine wpQuiet_nil ?_
          refine planAct_some (fun K hK => ?_)
          go_simp
          refine (lives18 _).mono ?_
          rintro e x4 ⟨rfl, q4⟩; have m4 := bnext m3 q4
          go_wp2_with fail
          refine hK.out _ _ ⟨⟨_, m4⟩, rfl⟩ ?_
          clear hK K
          refine wpPlan_last ?_
          simp only [pickOps, List.getElem?_cons_succ, List.getElem?_cons_zero, Option.elim_some]
          repeat (go_big_quiet_step (fail))
          refine wpQuiet_nil ?_
          refine NoPanic.normal ?_
          clear hX
          clear HCO HTP HRP
          go_wp2_with fail
          go_ret
          exact ⟨rfl, bnext kb (bnext k3 m4)⟩
        · have t0 : (n == 0) = false := by simpa using hn
          clear hn hp
          have hX := @Ext.cell W3
          refine wp_region_noPanic ?_
          refine wp_region_plan (fun w' => ∃ x : Ext W3, w' = x.w) [([0, 2], 1), ([3, 4, 5, 6, 7, 8, 9, 10, 11, 12, 14], 13), ([], 15), ([16, 17, 18], 19)] [20, 21] (by kernel_rfl) (by kernel_rfl) (by kernel_rfl) (fun _ _ _ _ _ h => h) ⟨⟨_, (brefl W3).drew⟩, rfl⟩ ?_
          refine wpPlan_cons ?_
          simp only [pickOps, List.getElem?_cons_succ, List.getElem?_cons_zero, Option.elim_some]
          repeat (go_big_quiet_step (fail))
          refine wpQuiet_nil ?_
          refine planAct_some (fun K hK => ?_)
          go_simp
          refine (HCO.out _ ((brefl W3).drew)).mono ?_
          rintro e x1 ⟨rfl, q1⟩; have m1 := bnext ((brefl W3).drew) q1
          go_wp2_with fail
          refine hK.out _ _ ⟨⟨_, m1⟩, rfl⟩ ?_
          clear hK K
          refine wpPlan_cons ?_
          simp only [pickOps, List.getElem?_cons_succ, List.getElem?_cons_zero, Option.elim_some]
          go_big_quiet_step (fail)
          go_big_quiet_step (fail)
          go_big_quiet_step (fail)
          go_big_quiet_step (fail)
          go_big_quiet_step (fail)
          go_big_quiet_step (fail)
          go_big_quiet_step (fail)
          go_big_quiet_step (fail)
          go_big_quiet_step (fail)
          refine wpQuiet_load_row_g rfl 29 (.tmp 2) rfl w.heap.size rfl 29 _ _ (blk_ext B3) Tryd.underlying29 rfl hi ?_; simp only [Act.put, List.setIfInBounds_toArray, List.set_cons_succ, List.set_cons_zero]
          refine wpQuiet_load_row_g rfl 29 (.tmp 2) rfl w.heap.size rfl 29 _ _ (blk_ext B3) Tryd.underlying29 rfl hi ?_; simp only [Act.put, List.setIfInBounds_toArray, List.set_cons_succ, List.set_cons_zero]
          refine wpQuiet_nil ?_
          refine planAct_some (fun K hK => ?_)
          go_simp
          refine (HTP.out _ (bnext k3 m1)).mono ?_
          rintro e x2 ⟨rfl, q2⟩; have m2 := bnext m1 q2
          go_wp2_with fail
          refine hK.out _ _ ⟨⟨_, m2⟩, rfl⟩ ?_
          clear hK K
          refine wpPlan_cons ?_
          simp only [pickOps, List.getElem?_cons_succ, List.getElem?_cons_zero, Option.elim_some]
          repeat (go_big_quiet_step (fail))
          refine wpQuiet_nil ?_
          refine planAct_some (fun K hK => ?_)
          go_simp
          refine (HRP.out _ (bnext k3 m2)).mono ?_
          rintro e x3 ⟨rfl, q3⟩; have m3 := bnext m2 q3
          go_wp2_with fail
          refine hK.out _ _ ⟨⟨_, m3⟩, rfl⟩ ?_
          clear hK K
          refine wpPlan_cons ?_
          simp only [pickOps, List.getElem?_cons_succ, List.getElem?_cons_zero, Option.elim_some]
          repeat (go_big_quiet_step (fail))
          refine wpQuiet_nil ?_
          refine planAct_some (fun K hK => ?_)
          go_simp
          refine (lives18 _).mono ?_
          rintro e x4 ⟨rfl, q4⟩; have m4 := bnext m3 q4
          go_wp2_with fail
          refine hK.out _ _ ⟨⟨_, m4⟩, rfl⟩ ?_
          clear hK K
          refine wpPlan_last ?_
          simp only [pickOps, List.getElem?_cons_succ, List.getElem?_cons_zero, Option.elim_some]
          repeat (go_big_quiet_step (fail))
          refine wpQuiet_nil ?_
          refine NoPanic.normal ?_
          clear hX
          clear HCO HTP HRP
          go_wp2_with fail
          go_ret
          exact ⟨rfl, bnext kb (bnext k3 m4)⟩
      · have h2a' : decide ((2000 : Int) < (en : Int)) = false := decide_eq_false (by omega)
        clear h2 h2a
        go_enter Tryd.func3, Tryd.ntmps3
        go_upto_region 1 with (fail)
        have tok1 : True := trivial
        go_upto_region 3 with (first | (have _t := tok1; refine wpList_load_row (o := ⟨some 7, _, _, _, _, _⟩) rfl 29 (.tmp 2) rfl w.heap.size rfl 29 _ _ _ hB Tryd.underlying29 rfl hi ?_; clear tok1 _t) | (go_at_call 7; refine hgr.mono ?_; rintro e w1 ⟨rfl, hb1⟩; have y22 := keep_below x22 hb1; have yz := block_lt_of_cell y22))
        have hB1 := hB.below_ hb1
        clear hB x22 y22 yz hgr
        have tok1 : True := trivial
        go_upto_region 4 with (first | (have _t := tok1; refine wpList_load_row (o := ⟨some 22, _, _, _, _, _⟩) rfl 29 (.tmp 2) rfl w.heap.size rfl 29 _ _ _ hB1 Tryd.underlying29 rfl hi ?_; clear tok1 _t) | (go_at_call 9; refine (HRT.out _ hb1).mono ?_; rintro e w2 ⟨v, rfl, hv, hb2⟩))
        have k2 := bnext hb1 hb2
        have hB2 := hB1.below_ hb2
        have tok1 : True := trivial
        go_upto_region 5 with (first | (have _t := tok1; refine wpList_load_row (o := ⟨some 25, _, _, _, _, _⟩) rfl 29 (.tmp 2) rfl w.heap.size rfl 29 _ _ _ hB2 Tryd.underlying29 rfl hi ?_; clear tok1 _t) | (go_at_call 10; refine (HRR.out _ k2).mono ?_; rintro e W3 ⟨rfl, hb3⟩))
        have k3 := bnext k2 hb3
        have B3 := hB2.below_ hb3
        have hv3 := hv.below hb3
        clear HRT HRR hb1 hB1 hb2 hB2 hv hb3 k2
        have HCO : Hid (∀ W, Below W3.heap.size W3 W → Calls Tryd.prog 11 #[v] W (CodeR W (rightN c ps es lv))) := fun W hW => code_any (hv3.below hW) ((HG.out.below k3).below hW)
        generalize rightN c ps es lv = n at *
        rcases hv3 with ⟨rfl, rfl⟩ | ⟨hn, p, rfl, hp⟩
        · have hX := @Ext.cell W3
          refine wp_region_noPanic ?_
          refine wp_region_plan (fun w' => ∃ x : Ext W3, w' = x.w) [([0, 2], 1), ([3, 4, 5, 6, 7, 8, 9, 10, 11, 12, 14], 13), ([], 15), ([16, 17, 18], 19)] [20, 21] (by kernel_rfl) (by kernel_rfl) (by kernel_rfl) (fun _ _ _ _ _ h => h) ⟨⟨_, (brefl W3).drew⟩, rfl⟩ ?_
          refine wpPlan_cons ?_
          simp only [pickOps, List.getElem?_cons_succ, List.getElem?_cons_zero, Option.elim_some]
          repeat (go_big_quiet_step (fail))
          refine wpQuiet_nil ?_
          refine planAct_some (fun K hK => ?_)
          go_simp
          refine (HCO.out _ ((brefl W3).drew)).mono ?_
          rintro e x1 ⟨rfl, q1⟩; have m1 := bnext ((brefl W3).drew) q1
          go_wp2_with fail
          refine hK.out _ _ ⟨⟨_, m1⟩, rfl⟩ ?_
          clear hK K
          refine wpPlan_cons ?_
          simp only [pickOps, List.getElem?_cons_succ, List.getElem?_cons_zero, Option.elim_some]
          go_big_quiet_step (fail)
          go_big_quiet_step (fail)
          go_big_quiet_step (fail)
          go_big_quiet_step (fail)
          go_big_quiet_step (fail)
          go_big_quiet_step (fail)
          go_big_quiet_step (fail)
          go_big_quiet_step (fail)
          go_big_quiet_step (fail)
          refine wpQuiet_load_row_g rfl 29 (.tmp 2) rfl w.heap.size rfl 29 _ _ (blk_ext B3) Tryd.underlying29 rfl hi ?_; simp only [Act.put, List.setIfInBounds_toArray, List.set_cons_succ, List.set_cons_zero]
          refine wpQuiet_load_row_g rfl 29 (.tmp 2) rfl w.heap.size rfl 29 _ _ (blk_ext B3) Tryd.underlying29 rfl hi ?_; simp only [Act.put, List.setIfInBounds_toArray, List.set_cons_succ, List.set_cons_zero]
          refine wpQuiet_nil ?_
          refine planAct_some (fun K hK => ?_)
          go_simp
          refine (HTP.out _ (bnext k3 m1)).mono ?_
          rintro e x2 ⟨rfl, q2⟩; have m2 := bnext m1 q2
          go_wp2_with fail
          refine hK.out _ _ ⟨⟨_, m2⟩, rfl⟩ ?_
          clear hK K
          refine wpPlan_cons ?_
          simp only [pickOps, List.getElem?_cons_succ, List.getElem?_cons_zero, Option.elim_some]
          repeat (go_big_quiet_step (fail))
          refine wpQuiet_nil ?_
          refine planAct_some (fun K hK => ?_)
          go_simp
          refine (HRP.out _ (bnext k3 m2)).mono ?_
          rintro e x3 ⟨rfl, q3⟩; have m3 := bnext m2 q3
          go_wp2_with fail
          refine hK.out _ _ ⟨⟨_, m3⟩, rfl⟩ ?_
          clear hK K
          refine wpPlan_cons ?_
          simp only [pickOps, List.getElem?_cons_succ, List.getElem?_cons_zero, Option.elim_some]
          repeat (go_big_quiet_step (fail))
          refine wpQuiet_nil ?_
          refine planAct_some (fun K hK => ?_)
          go_simp
          refine (lives18 _).mono ?_
          rintro e x4 ⟨rfl, q4⟩; have m4 := bnext m3 q4
          go_wp2_with fail
          refine hK.out _ _ ⟨⟨_, m4⟩, rfl⟩ ?_
          clear hK K
          refine wpPlan_last ?_
          simp only [pickOps, List.getElem?_cons_succ, List.getElem?_cons_zero, Option.elim_some]
          repeat (go_big_quiet_step (fail))
          refine wpQuiet_nil ?_
          refine NoPanic.normal ?_
          clear hX
          clear HCO HTP HRP
          go_wp2_with fail
          go_ret
          exact ⟨rfl, bnext kb (bnext k3 m4)⟩
        · have t0 : (n == 0) = false := by simpa using hn
          clear hn hp
          have hX := @Ext.cell W3
          refine wp_region_noPanic ?_
          refine wp_region_plan (fun w' => ∃ x : Ext W3, w' = x.w) [([0, 2], 1), ([3, 4, 5, 6, 7, 8, 9, 10, 11, 12, 14], 13), ([], 15), ([16, 17, 18], 19)] [20, 21] (by kernel_rfl) (by kernel_rfl) (by kernel_rfl) (fun _ _ _ _ _ h => h) ⟨⟨_, (brefl W3).drew⟩, rfl⟩ ?_
          refine wpPlan_cons ?_
          simp only [pickOps, List.getElem?_cons_succ, List.getElem?_cons_zero, Option.elim_some]
          repeat (go_big_quiet_step (fail))
          refine wpQuiet_nil ?_
          refine planAct_some (fun K hK => ?_)
          go_simp
          refine (HCO.out _ ((brefl W3).drew)).mono ?_
          rintro e x1 ⟨rfl, q1⟩; have m1 := bnext ((brefl W3).drew) q1
          go_wp2_with fail
          refine hK.out _ _ ⟨⟨_, m1⟩, rfl⟩ ?_
          clear hK K
          refine wpPlan_cons ?_
          simp only [pickOps, List.getElem?_cons_succ, List.getElem?_cons_zero, Option.elim_some]
          go_big_quiet_step (fail)
          go_big_quiet_step (fail)
          go_big_quiet_step (fail)
          go_big_quiet_step (fail)
          go_big_quiet_step (fail)
          go_big_quiet_step (fail)
          go_big_quiet_step (fail)
          go_big_quiet_step (fail)
          go_big_quiet_step (fail)
          refine wpQuiet_load_row_g rfl 29 (.tmp 2) rfl w.heap.size rfl 29 _ _ (blk_ext B3) Tryd.underlying29 rfl hi ?_; simp only [Act.put, List.setIfInBounds_toArray, List.set_cons_succ, List.set_cons_zero]
          refine wpQuiet_load_row_g rfl 29 (.tmp 2) rfl w.heap.size rfl 29 _ _ (blk_ext B3) Tryd.underlying29 rfl hi ?_; simp only [Act.put, List.setIfInBounds_toArray, List.set_cons_succ, List.set_cons_zero]
          refine wpQuiet_nil ?_
          refine planAct_some (fun K hK => ?_)
          go_simp
          refine (HTP.out _ (bnext k3 m1)).mono ?_
          rintro e x2 ⟨rfl, q2⟩; have m2 := bnext m1 q2
          go_wp2_with fail
          refine hK.out _ _ ⟨⟨_, m2⟩, rfl⟩ ?_
          clear hK K
          refine wpPlan_cons ?_
          simp only [pickOps, List.getElem?_cons_succ, List.getElem?_cons_zero, Option.elim_some]
          repeat (go_big_quiet_step (fail))
          refine wpQuiet_nil ?_
          refine planAct_some (fun K hK => ?_)
          go_simp
          refine (HRP.out _ (bnext k3 m2)).mono ?_
          rintro e x3 ⟨rfl, q3⟩; have m3 := bnext m2 q3
          go_wp2_with fail
          refine hK.out _ _ ⟨⟨_, m3⟩, rfl⟩ ?_
          clear hK K
          refine wpPlan_cons ?_
          simp only [pickOps, List.getElem?_cons_succ, List.getElem?_cons_zero, Option.elim_some]
          repeat (go_big_quiet_step (fail))
          refine wpQuiet_nil ?_
          refine planAct_some (fun K hK => ?_)
          go_simp
          refine (lives18 _).mono ?_
          rintro e x4 ⟨rfl, q4⟩; have m4 := bnext m3 q4
          go_wp2_with fail
          refine hK.out _ _ ⟨⟨_, m4⟩, rfl⟩ ?_
          clear hK K
          refine wpPlan_last ?_
          simp only [pickOps, List.getElem?_cons_succ, List.getElem?_cons_zero, Option.elim_some]
          repeat (go_big_quiet_step (fail))
          refine wpQuiet_nil ?_
          refine NoPanic.normal ?_
          clear hX
          clear HCO HTP HRP
          go_wp2_with fail
          go_ret
          exact ⟨rfl, bnext kb (bnext k3 m4)⟩
end Go.Proofs.YtknngjdcbldmgaaDoor
