/- The law ScriptPuts. -/
import Derived.Test.YtknngjdcbldmgaaDoorScrT
namespace Go.Proofs.YtknngjdcbldmgaaDoor
set_option linter.unusedVariables false
set_option linter.unusedSimpArgs false
open Go.RowKit
theorem wpList_load_row_g {P : Program} {ops : Array Oper} {rest : List Oper} {o : Oper} {a : Act} {w : World} {Q : Exit → Act → World → Prop} (hgd : Region.wanted o (yielded ops a.tmps) = true) (ty : TypeId) (x : Operand) (ho : o.op = .load ty x)
    (g : Nat) (hx : a.eval x = .pointer (some ⟨g, 0, none⟩)) (t : TypeId) (cs : Array Value) (fr : Nat × Nat) (d : TypeDesc) (hg : w.heap[g]? = some (.cells cs t fr))
    (hu : P.underlying ty = some d) (hd : (match d with | .struct _ | .array _ _ => true | _ => false) = true) (hi : (P.info? ty).map (·.size) = some cs.size)
    (h : wpList P ops Q rest (a.put o.dst (.agg cs)) w) : wpList P ops Q (o :: rest) a w :=
  wpList_step fun K hK => by
    rw [if_pos hgd]
    exact wp_load_row ty x ho g hx t cs fr d hg hu hd hi (hK _ _ h)
set_option maxHeartbeats 4000000 in
set_option maxRecDepth 100000 in
theorem scriptputs_any {w : World} {c c2 : Cf} {us us2 : List Value} {ps ps2 : List (List CV)} {EA EA2 : Option Addr} {en ec en2 ec2 : Nat} {es es2 : List En} (hP : PIn (fun _ => False) w us ps) (hE : Sl enc_ w EA en ec es) (hP2 : PIn (fun _ => False) w us2 ps2) (hE2 : Sl enc_ w EA2 en2 ec2 es2) (hg : GV w) (hU : ∀ l, l ∈ ps → ∀ x, x ∈ l → CVk x) : Calls Tryd.prog 4 #[.agg (scc c us (.slice EA en ec)).toArray, .agg (scc c2 us2 (.slice EA2 en2 ec2)).toArray] w fun e w' => e = .returned (.bool true) ∧ Below w.heap.size w w' := by
  have h8 := hP.u8
  have h82 := hP2.u8
  have hi := info_scc (c := c) (ev := .slice EA en ec) h8
  have hi2 := info_scc (c := c2) (ev := .slice EA2 en2 ec2) h82
  obtain ⟨W0, hW0, B0, B1, kb⟩ : ∃ W0, (w.alloc (.cells (scc c us (.slice EA en ec)).toArray 29)).alloc (.cells (scc c2 us2 (.slice EA2 en2 ec2)).toArray 29) = W0 ∧ Blk W0 w.heap.size 29 (scc c us (.slice EA en ec)).toArray ∧ Blk W0 (w.heap.size + 1) 29 (scc c2 us2 (.slice EA2 en2 ec2)).toArray ∧ Below w.heap.size w W0 := ⟨_, rfl, (Blk.new _ _ _).alloc _, by have := Blk.new (w.alloc (.cells (scc c us (.slice EA en ec)).toArray 29)) 29 (scc c2 us2 (.slice EA2 en2 ec2)).toArray; rwa [World.size_alloc] at this, bnew (bnew (brefl w) _) _⟩
  have HG := Lib.hid (hg.below kb)
  have HP := Lib.hid (hP.below kb)
  have HE := Lib.hid (hE.below kb)
  have HP2 := Lib.hid (hP2.below kb)
  have HE2 := Lib.hid (hE2.below kb)
  have HU := Lib.hid hU
  have X0 : Hid (W0.cell? ⟨w.heap.size, 0, none⟩ = some (.int .i64 c.lv)) := B0.cell 0
  have hgr1 := fun (W : World) (hW : Below W0.heap.size W0 W) => great_any (w := W) (c := c) (HP.out.below hW) (HE.out.below hW) 2000
  have hgr2 := fun (W : World) (hW : Below W0.heap.size W0 W) => great_any (w := W) (c := c2) (HP2.out.below hW) (HE2.out.below hW) 2000
  clear hP hE hP2 hE2 hU hg h8 h82
  generalize hcs : scc c us (.slice EA en ec) = cs at *
  generalize hcs2 : scc c2 us2 (.slice EA2 en2 ec2) = cs2 at *
  have HCS := Lib.hid hcs
  have HCS2 := Lib.hid hcs2
  clear hcs hcs2
  cases hgb : greatB ps es 2000 with
  | true =>
    rw [hgb] at hgr1
    clear hgb hgr2
    go_enter Tryd.func4, Tryd.ntmps4
    go_upto_region 1 with (fail)
    skip
    have tok1 : True := trivial
    go_wp2_with (first | (have _t := tok1; refine wpList_load_row (o := ⟨some 8, _, _, _, _, _⟩) rfl 29 (.tmp 2) rfl w.heap.size rfl 29 _ _ _ B0 Tryd.underlying29 rfl hi ?_; clear tok1 _t) | (go_at_call 7; refine (hgr1 _ (brefl W0)).mono ?_; rintro e w1 ⟨rfl, hb1⟩) | (go_at_call 8; refine (lives18 _).mono ?_; rintro e w2 ⟨rfl, hb2⟩))
    go_ret
    exact ⟨rfl, bnext kb (bnext hb1 hb2)⟩
  | false =>
    rw [hgb] at hgr1
    cases hgb2 : greatB ps2 es2 2000 with
    | true =>
      rw [hgb2] at hgr2
      clear hgb hgb2
      go_enter Tryd.func4, Tryd.ntmps4
      go_upto_region 1 with (fail)
      skip
      have tok1 : True := trivial
      have tok2 : True := trivial
      have tok3 : True := trivial
      go_wp2_with (first | (have _t := tok1; refine wpList_load_row (o := ⟨some 8, _, _, _, _, _⟩) rfl 29 (.tmp 2) rfl w.heap.size rfl 29 _ _ _ B0 Tryd.underlying29 rfl hi ?_; clear tok1 _t) | (have _t := tok3; go_at_call 7; refine (hgr1 _ (brefl W0)).mono ?_; rintro e w1 ⟨rfl, hb1⟩; have C1 := B1.below_ hb1; clear tok3 _t) | (have _t := tok2; refine wpList_load_row_g (o := ⟨some 11, _, _, _, _, _⟩) rfl 29 (.tmp 3) rfl (w.heap.size + 1) rfl 29 _ _ _ C1 Tryd.underlying29 rfl hi2 ?_; clear tok2 _t) | (go_at_call 7; refine (hgr2 _ hb1).mono ?_; rintro e w2 ⟨rfl, hb2⟩) | (go_at_call 8; refine (lives18 _).mono ?_; rintro e w3 ⟨rfl, hb3⟩))
      go_ret
      exact ⟨rfl, bnext kb (bnext hb1 (bnext hb2 hb3))⟩
    | false =>
      rw [hgb2] at hgr2
      obtain ⟨hps, hen⟩ := great_no HP.out.p8 hgb
      obtain ⟨hps2, hen2⟩ := great_no HP2.out.p8 hgb2
      have hl1 : ∀ l, l ∈ ps → l.length ≤ 1000000 := fun l hl => by have := hps l hl; omega
      have hr1 : ∀ l, l ∈ ps → l.length * 56 ≤ 140737488351232 := fun l hl => by have := hps l hl; omega
      have hr2 : ∀ l, l ∈ ps2 → l.length * 56 ≤ 140737488351232 := fun l hl => by have := hps2 l hl; omega
      have hn1 : en ≤ 1000000 := by have := HE.out.len; omega
      have hn2 : en2 ≤ 1000000 := by have := HE2.out.len; omega
      have HS1 := Lib.hid (fun (W : World) (hW : Below W0.heap.size W0 W) => ssame_any (w := W) (c := c) (c2 := c2) (HP.out.below hW) (HE.out.below hW) (HP2.out.below hW) (HE2.out.below hW) hn1 hn2 hr1 hr2)
      have HS2 := Lib.hid (fun (W : World) (hW : Below W0.heap.size W0 W) => same_any (w := W) (c := c) (c2 := c2) (HP.out.below hW) (HE.out.below hW) (HP2.out.below hW) (HE2.out.below hW) hn1 hn2 hr1 hr2)
      have HS3 := Lib.hid (fun (W : World) (hW : Below W0.heap.size W0 W) => ssame_any (w := W) (c := c) (c2 := c) (HP.out.below hW) (HE.out.below hW) (HP.out.below hW) (HE.out.below hW) hn1 hn1 hr1 hr1)
      rw [show sameB c c ps ps es es = true from same_yes rfl rfl rfl] at HS3
      rw [HCS.out, HCS2.out] at HS1 HS2
      rw [HCS.out] at HS3
      generalize sameB c c2 ps ps2 es es2 = sb at *
      have HRR0 := Lib.hid (fun (W : World) (hW : Below W0.heap.size W0 W) (lv : Int) => rright_any (w := W) (c := c) (HP.out.below hW) (HE.out.below hW) hn1 hl1 lv)
      rw [HCS.out] at HRR0
      clear hgb hgb2 hps hps2 hr1 hr2 hen hen2
      cases hm : mayB c with
      | false =>
        have hN : ∀ lv, (mayB c = true → lv = c.lv - 1) → rightN c ps es lv = 2 := fun lv _ => by rw [rightN, if_pos hm]
        have HPT := Lib.hid (fun (W : World) (hW : Below W0.heap.size W0 W) => sput_no2 (w := W) (c := c) (HP.out.below hW) (HE.out.below hW) hn1 hl1 hm (n := 2) (by decide) hN)
        rw [HCS.out] at HPT
        have HRR : Hid (∀ W, Below W0.heap.size W0 W → ∀ lv, (mayB c = true → lv = c.lv - 1) → Calls Tryd.prog 10 #[.agg cs.toArray, .int .i64 lv] W (RightR W 2)) := fun W hW lv hl => by have h := HRR0.out W hW lv; rwa [hN lv hl] at h
        have HMB := Lib.hid hm
        obtain ⟨n, hn⟩ : ∃ n : Int, n = 2 := ⟨_, rfl⟩
        have t0 : (n == 0) = false := by rw [hn]; decide
        rw [← hn] at HPT HRR
        clear hn HRR0 hm hN hl1 hn1 hn2
        go_enter Tryd.func4, Tryd.ntmps4
        go_upto_region 1 with (fail)
        skip
        have tok1 : True := trivial
        have tok2 : True := trivial
        have tok3 : True := trivial
        have tok4 : True := trivial
        go_upto_region 3 with (first | (have _t := tok1; refine wpList_load_row (o := ⟨some 8, _, _, _, _, _⟩) rfl 29 (.tmp 2) rfl w.heap.size rfl 29 _ _ _ B0 Tryd.underlying29 rfl hi ?_; clear tok1 _t) | (have _t := tok3; go_at_call 7; refine (hgr1 _ (brefl W0)).mono ?_; rintro e w1 ⟨rfl, hb1⟩; have C1 := B1.below_ hb1; clear tok3 _t) | (have _t := tok2; refine wpList_load_row_g (o := ⟨some 11, _, _, _, _, _⟩) rfl 29 (.tmp 3) rfl (w.heap.size + 1) rfl 29 _ _ _ C1 Tryd.underlying29 rfl hi2 ?_; clear tok2 _t) | (have _t := tok4; go_at_call 7; refine (hgr2 _ hb1).mono ?_; rintro e w2 ⟨rfl, hb2⟩; clear tok4 _t))
        have k1 := bnext hb1 hb2
        have D0 := B0.below_ k1
        clear hgr1 hgr2 hb1 hb2 C1
        have tok1 : True := trivial
        go_upto_region 4 with (first | (have _t := tok1; refine wpList_load_row (o := ⟨some 16, _, _, _, _, _⟩) rfl 29 (.tmp 2) rfl w.heap.size rfl 29 _ _ _ D0 Tryd.underlying29 rfl hi ?_; clear tok1 _t) | (go_at_call 14; refine (HPT.out _ k1).mono ?_; rintro e w3 ⟨p, rfl, hv, hb2⟩))
        have k2 := bnext k1 hb2
        have D2 := B0.below_ k2
        have x0 := keep_below X0.out k2
        have xz := D2.lt
        have tok1 : True := trivial
        go_upto_region 5 with (first | (have _t := tok1; refine wpList_load_row (o := ⟨some 20, _, _, _, _, _⟩) rfl 29 (.tmp 2) rfl w.heap.size rfl 29 _ _ _ D2 Tryd.underlying29 rfl hi ?_; clear tok1 _t) | (go_at_call 10; refine (HRR.out _ k2 _ (fun q => by rw [HMB.out] at q; cases q)).mono ?_; rintro e W3 ⟨rfl, hb3⟩))
        have k3 := bnext k2 hb3
        have B3 := B0.below_ k3
        have C3 := B1.below_ k3
        have hv3 := hv.below hb3
        have HCO : Hid (∀ W, Below W3.heap.size W3 W → Calls Tryd.prog 11 #[.iface 89 (.pointer (some ⟨p, 0, none⟩))] W (CodeR W n)) := fun W hW => code_any (hv3.below hW) ((HG.out.below k3).below hW)
        clear k1 D0 hb2 D2 x0 xz hb3 HRR HPT B0 B1 hv hv3 k2
        have hX := @Ext.cell W3
        refine wp_region_noPanic ?_
        refine wp_region_plan (fun w' => ∃ x : Ext W3, w' = x.w) [([0, 1, 3, 4], 2), ([], 5), ([6, 7, 8, 9], 10), ([11, 12, 13, 14, 16], 15)] [17, 18] (by kernel_rfl) (by kernel_rfl) (by kernel_rfl) (fun _ _ _ _ _ h => h) ⟨⟨_, (brefl W3).drew⟩, rfl⟩ ?_
        refine wpPlan_cons ?_
        simp only [pickOps, List.getElem?_cons_succ, List.getElem?_cons_zero, Option.elim_some]
        refine wpQuiet_load_row_g rfl 29 (.tmp 2) rfl w.heap.size rfl 29 _ _ (blk_ext B3) Tryd.underlying29 rfl hi ?_; simp only [Act.put, List.setIfInBounds_toArray, List.set_cons_succ, List.set_cons_zero]
        refine wpQuiet_load_row_g rfl 29 (.tmp 3) rfl (w.heap.size + 1) rfl 29 _ _ (blk_ext C3) Tryd.underlying29 rfl hi2 ?_; simp only [Act.put, List.setIfInBounds_toArray, List.set_cons_succ, List.set_cons_zero]
        refine wpQuiet_load_row_g rfl 29 (.tmp 2) rfl w.heap.size rfl 29 _ _ (blk_ext B3) Tryd.underlying29 rfl hi ?_; simp only [Act.put, List.setIfInBounds_toArray, List.set_cons_succ, List.set_cons_zero]
        refine wpQuiet_load_row_g rfl 29 (.tmp 3) rfl (w.heap.size + 1) rfl 29 _ _ (blk_ext C3) Tryd.underlying29 rfl hi2 ?_; simp only [Act.put, List.setIfInBounds_toArray, List.set_cons_succ, List.set_cons_zero]
        refine wpQuiet_nil ?_
        refine planAct_some (fun K hK => ?_)
        go_simp
        refine (HS1.out _ (bnext k3 (brefl W3).drew)).mono ?_
        rintro e x1 ⟨rfl, q1⟩; have m1 := bnext ((brefl W3).drew) q1
        go_wp2_with fail
        refine hK.out _ _ ⟨⟨_, m1⟩, rfl⟩ ?_
        clear hK K
        refine wpPlan_cons ?_
        simp only [pickOps, List.getElem?_cons_succ, List.getElem?_cons_zero, Option.elim_some]
        repeat (go_big_quiet_step (fail))
        refine wpQuiet_nil ?_
        refine planAct_some (fun K hK => ?_)
        go_simp
        refine (HS2.out _ (bnext k3 m1)).mono ?_
        rintro e x2 ⟨rfl, q2⟩; have m2 := bnext m1 q2
        go_wp2_with fail
        refine hK.out _ _ ⟨⟨_, m2⟩, rfl⟩ ?_
        clear hK K
        refine wpPlan_cons ?_
        simp only [pickOps, List.getElem?_cons_succ, List.getElem?_cons_zero, Option.elim_some]
        go_big_quiet_step (fail)
        go_big_quiet_step (fail)
        refine wpQuiet_load_row_g rfl 29 (.tmp 2) rfl w.heap.size rfl 29 _ _ (blk_ext B3) Tryd.underlying29 rfl hi ?_; simp only [Act.put, List.setIfInBounds_toArray, List.set_cons_succ, List.set_cons_zero]
        refine wpQuiet_load_row_g rfl 29 (.tmp 2) rfl w.heap.size rfl 29 _ _ (blk_ext B3) Tryd.underlying29 rfl hi ?_; simp only [Act.put, List.setIfInBounds_toArray, List.set_cons_succ, List.set_cons_zero]
        refine wpQuiet_nil ?_
        refine planAct_some (fun K hK => ?_)
        go_simp
        refine (HS3.out _ (bnext k3 m2)).mono ?_
        rintro e x3 ⟨rfl, q3⟩; have m3 := bnext m2 q3
        go_wp2_with fail
        refine hK.out _ _ ⟨⟨_, m3⟩, rfl⟩ ?_
        clear hK K
        refine wpPlan_cons ?_
        simp only [pickOps, List.getElem?_cons_succ, List.getElem?_cons_zero, Option.elim_some]
        repeat (go_big_quiet_step (fail))
        refine wpQuiet_nil ?_
        refine planAct_some (fun K hK => ?_)
        go_simp
        refine (HCO.out _ m3).mono ?_
        rintro e x4 ⟨rfl, q4⟩; have m4 := bnext m3 q4
        go_wp2_with fail
        refine hK.out _ _ ⟨⟨_, m4⟩, rfl⟩ ?_
        clear hK K
        refine wpPlan_last ?_
        simp only [pickOps, List.getElem?_cons_succ, List.getElem?_cons_zero, Option.elim_some]
        repeat (go_big_quiet_step (fail))
        refine wpQuiet_nil ?_
        refine NoPanic.normal ?_
        clear hX
        go_wp2_with (go_at_call 8; refine (lives18 _).mono ?_; rintro e x9 ⟨rfl, q9⟩)
        go_ret
        exact ⟨rfl, bnext kb (bnext k3 (bnext m4 q9))⟩
      | true =>
        have m : c.May := of_decide_eq_true hm
        have hlv1 := m.l1
        have hlv2 := m.l2
        clear m
        have HMB := Lib.hid hm
        by_cases hz : rightN c ps es (c.lv - 1) = 0
        · have HPT := Lib.hid (fun (W : World) (hW : Below W0.heap.size W0 W) => sput_yes (w := W) (c := c) (HP.out.below hW) (HE.out.below hW) hn1 hl1 (fun l hl x hx => (HU.out l hl x hx).1) hz)
          have HRPT := Lib.hid (fun (W : World) (hW : Below W0.heap.size W0 W) => rput_any (w := W) (c := c) (HP.out.below hW) (HE.out.below hW) hm hn1 hl1 HU.out (right_ok hz).2)
          rw [HCS.out] at HPT HRPT
          obtain ⟨SB, hSB⟩ : ∃ SB, strOfNums (scriptW c ps es) = SB := ⟨_, rfl⟩
          have HSN := Lib.hid hSB
          have HRR : Hid (∀ W, Below W0.heap.size W0 W → ∀ lv, (mayB c = true → lv = c.lv - 1) → Calls Tryd.prog 10 #[.agg cs.toArray, .int .i64 lv] W (RightR W 0)) := fun W hW lv hl => by have h := HRR0.out W hW lv; rwa [hl HMB.out, hz, ← hl HMB.out] at h
          clear hz hSB HRR0 hm hl1 hn1 hn2
          go_enter Tryd.func4, Tryd.ntmps4
          go_upto_region 1 with (fail)
          skip
          have tok1 : True := trivial
          have tok2 : True := trivial
          have tok3 : True := trivial
          have tok4 : True := trivial
          go_upto_region 3 with (first | (have _t := tok1; refine wpList_load_row (o := ⟨some 8, _, _, _, _, _⟩) rfl 29 (.tmp 2) rfl w.heap.size rfl 29 _ _ _ B0 Tryd.underlying29 rfl hi ?_; clear tok1 _t) | (have _t := tok3; go_at_call 7; refine (hgr1 _ (brefl W0)).mono ?_; rintro e w1 ⟨rfl, hb1⟩; have C1 := B1.below_ hb1; clear tok3 _t) | (have _t := tok2; refine wpList_load_row_g (o := ⟨some 11, _, _, _, _, _⟩) rfl 29 (.tmp 3) rfl (w.heap.size + 1) rfl 29 _ _ _ C1 Tryd.underlying29 rfl hi2 ?_; clear tok2 _t) | (have _t := tok4; go_at_call 7; refine (hgr2 _ hb1).mono ?_; rintro e w2 ⟨rfl, hb2⟩; clear tok4 _t))
          have k1 := bnext hb1 hb2
          have D0 := B0.below_ k1
          clear hgr1 hgr2 hb1 hb2 C1
          have tok1 : True := trivial
          go_upto_region 4 with (first | (have _t := tok1; refine wpList_load_row (o := ⟨some 16, _, _, _, _, _⟩) rfl 29 (.tmp 2) rfl w.heap.size rfl 29 _ _ _ D0 Tryd.underlying29 rfl hi ?_; clear tok1 _t) | (go_at_call 14; refine (HPT.out _ k1).mono ?_; rintro e w3 ⟨A, n0, d, rfl, hb2, own⟩))
          have k2 := bnext k1 hb2
          have D2 := B0.below_ k2
          have x0 := keep_below X0.out k2
          have xz := D2.lt
          have tok1 : True := trivial
          go_upto_region 5 with (first | (have _t := tok1; refine wpList_load_row (o := ⟨some 20, _, _, _, _, _⟩) rfl 29 (.tmp 2) rfl w.heap.size rfl 29 _ _ _ D2 Tryd.underlying29 rfl hi ?_; clear tok1 _t) | (go_at_call 10; refine (HRR.out _ k2 _ (fun _ => rfl)).mono ?_; rintro e W3 ⟨rfl, hb3⟩))
          have k3 := bnext k2 hb3
          have B3 := B0.below_ k3
          have C3 := B1.below_ k3
          have own3 := own_below own hb3
          have HCO : Hid (∀ W, Below W3.heap.size W3 W → Calls Tryd.prog 11 #[.nilIface] W (CodeR W 0)) := fun W hW => code_any (.inl ⟨rfl, rfl⟩) ((HG.out.below k3).below hW)
          clear k1 D0 hb2 D2 x0 xz hb3 HRR HPT B0 B1 own k2
          have hX := @Ext.cell W3
          refine wp_region_noPanic ?_
          refine wp_region_plan (fun w' => ∃ x : Ext W3, w' = x.w) [([0, 1, 3, 4], 2), ([], 5), ([6, 7, 8, 9], 10), ([11, 12, 13, 14, 16], 15)] [17, 18] (by kernel_rfl) (by kernel_rfl) (by kernel_rfl) (fun _ _ _ _ _ h => h) ⟨⟨_, (brefl W3).drew⟩, rfl⟩ ?_
          refine wpPlan_cons ?_
          simp only [pickOps, List.getElem?_cons_succ, List.getElem?_cons_zero, Option.elim_some]
          refine wpQuiet_load_row_g rfl 29 (.tmp 2) rfl w.heap.size rfl 29 _ _ (blk_ext B3) Tryd.underlying29 rfl hi ?_; simp only [Act.put, List.setIfInBounds_toArray, List.set_cons_succ, List.set_cons_zero]
          refine wpQuiet_load_row_g rfl 29 (.tmp 3) rfl (w.heap.size + 1) rfl 29 _ _ (blk_ext C3) Tryd.underlying29 rfl hi2 ?_; simp only [Act.put, List.setIfInBounds_toArray, List.set_cons_succ, List.set_cons_zero]
          refine wpQuiet_load_row_g rfl 29 (.tmp 2) rfl w.heap.size rfl 29 _ _ (blk_ext B3) Tryd.underlying29 rfl hi ?_; simp only [Act.put, List.setIfInBounds_toArray, List.set_cons_succ, List.set_cons_zero]
          refine wpQuiet_load_row_g rfl 29 (.tmp 3) rfl (w.heap.size + 1) rfl 29 _ _ (blk_ext C3) Tryd.underlying29 rfl hi2 ?_; simp only [Act.put, List.setIfInBounds_toArray, List.set_cons_succ, List.set_cons_zero]
          refine wpQuiet_nil ?_
          refine planAct_some (fun K hK => ?_)
          go_simp
          refine (HS1.out _ (bnext k3 (brefl W3).drew)).mono ?_
          rintro e x1 ⟨rfl, q1⟩; have m1 := bnext ((brefl W3).drew) q1
          go_wp2_with fail
          refine hK.out _ _ ⟨⟨_, m1⟩, rfl⟩ ?_
          clear hK K
          refine wpPlan_cons ?_
          simp only [pickOps, List.getElem?_cons_succ, List.getElem?_cons_zero, Option.elim_some]
          repeat (go_big_quiet_step (fail))
          refine wpQuiet_nil ?_
          refine planAct_some (fun K hK => ?_)
          go_simp
          refine (HS2.out _ (bnext k3 m1)).mono ?_
          rintro e x2 ⟨rfl, q2⟩; have m2 := bnext m1 q2
          go_wp2_with fail
          refine hK.out _ _ ⟨⟨_, m2⟩, rfl⟩ ?_
          clear hK K
          refine wpPlan_cons ?_
          simp only [pickOps, List.getElem?_cons_succ, List.getElem?_cons_zero, Option.elim_some]
          go_big_quiet_step (fail)
          go_big_quiet_step (fail)
          refine wpQuiet_load_row_g rfl 29 (.tmp 2) rfl w.heap.size rfl 29 _ _ (blk_ext B3) Tryd.underlying29 rfl hi ?_; simp only [Act.put, List.setIfInBounds_toArray, List.set_cons_succ, List.set_cons_zero]
          refine wpQuiet_load_row_g rfl 29 (.tmp 2) rfl w.heap.size rfl 29 _ _ (blk_ext B3) Tryd.underlying29 rfl hi ?_; simp only [Act.put, List.setIfInBounds_toArray, List.set_cons_succ, List.set_cons_zero]
          refine wpQuiet_nil ?_
          refine planAct_some (fun K hK => ?_)
          go_simp
          refine (HS3.out _ (bnext k3 m2)).mono ?_
          rintro e x3 ⟨rfl, q3⟩; have m3 := bnext m2 q3
          go_wp2_with fail
          refine hK.out _ _ ⟨⟨_, m3⟩, rfl⟩ ?_
          clear hK K
          refine wpPlan_cons ?_
          simp only [pickOps, List.getElem?_cons_succ, List.getElem?_cons_zero, Option.elim_some]
          repeat (go_big_quiet_step (fail))
          refine wpQuiet_nil ?_
          refine planAct_some (fun K hK => ?_)
          go_simp
          refine (HCO.out _ m3).mono ?_
          rintro e x4 ⟨rfl, q4⟩; have m4 := bnext m3 q4
          go_wp2_with fail
          refine hK.out _ _ ⟨⟨_, m4⟩, rfl⟩ ?_
          clear hK K
          refine wpPlan_last ?_
          simp only [pickOps, List.getElem?_cons_succ, List.getElem?_cons_zero, Option.elim_some]
          repeat (go_big_quiet_step (fail))
          refine wpQuiet_nil ?_
          refine NoPanic.normal ?_
          clear hX
          clear HS1 HS2 HS3 HCO q1 q2 q3 q4 m1 m2 m3
          have k9 := bnext k3 m4
          have B9 := B3.below_ m4
          have own9 := own_below own3 m4
          clear B3 C3 k3 own3 m4
          obtain ⟨W9, hW9⟩ : ∃ W9, W9 = x4 := ⟨_, rfl⟩
          subst hW9
          go_upto_region 9 with (fail)
          have hcv1 : ∀ x : Ext W9, (convert 39 9 (.slice A n0 d)).run Tryd.prog x.w = .ok (.string SB) x.w := fun x => by rw [← HSN.out]; exact str_own (own_below own9 x.b)
          clear own9
          have hX := @Ext.cell W9
          refine wp_region_noPanic ?_
          refine wp_region_plan (fun w' => ∃ x : Ext W9, w' = x.w) [([0, 1, 2], 3), ([], 4), ([5, 6], 7)] [8, 9] (by kernel_rfl) (by kernel_rfl) (by kernel_rfl) (fun _ _ _ _ _ h => h) ⟨⟨_, (brefl W9).drew⟩, rfl⟩ ?_
          refine wpPlan_cons ?_
          simp only [pickOps, List.getElem?_cons_succ, List.getElem?_cons_zero, Option.elim_some]
          go_big_quiet_step (fail)
          go_big_quiet_step (fail)
          refine wpQuiet_load_row_g rfl 29 (.tmp 2) rfl w.heap.size rfl 29 _ _ (blk_ext B9) Tryd.underlying29 rfl hi ?_; simp only [Act.put, List.setIfInBounds_toArray, List.set_cons_succ, List.set_cons_zero]
          refine wpQuiet_nil ?_
          refine planAct_some (fun K hK => ?_)
          go_simp
          refine (HRPT.out _ (bnext k9 (brefl W9).drew)).mono ?_
          rintro e wa ⟨A2, n2, d2, rfl, q1, own2⟩; have hcv2 := str_own own2; rw [HSN.out] at hcv2; have m1 := bnext ((brefl W9).drew) q1
          go_wp2_with fail
          refine hK.out _ _ ⟨⟨_, m1⟩, rfl⟩ ?_
          clear hK K
          refine wpPlan_cons ?_
          simp only [pickOps, List.getElem?_cons_succ, List.getElem?_cons_zero, Option.elim_some]
          repeat (go_big_quiet_step (fail))
          refine wpQuiet_nil ?_
          refine planAct_some (fun K hK => ?_)
          go_simp
          refine hK.out _ _ ⟨⟨_, m1⟩, rfl⟩ ?_
          clear hK K
          refine wpPlan_cons ?_
          simp only [pickOps, List.getElem?_cons_succ, List.getElem?_cons_zero, Option.elim_some]
          repeat (go_big_quiet_step (fail))
          refine wpQuiet_nil ?_
          refine planAct_some (fun K hK => ?_)
          go_simp
          refine (lives18 _).mono ?_
          rintro e x4 ⟨rfl, q4⟩; have m4 := bnext m1 q4
          go_wp2_with fail
          refine hK.out _ _ ⟨⟨_, m4⟩, rfl⟩ ?_
          clear hK K
          refine wpPlan_last ?_
          simp only [pickOps, List.getElem?_cons_succ, List.getElem?_cons_zero, Option.elim_some]
          repeat (go_big_quiet_step (fail))
          refine wpQuiet_nil ?_
          refine NoPanic.normal ?_
          clear hX
          go_wp2_with fail
          go_ret
          exact ⟨rfl, bnext kb (bnext k9 m4)⟩
        · have hN : ∀ lv, (mayB c = true → lv = c.lv - 1) → rightN c ps es lv = rightN c ps es (c.lv - 1) := fun lv hl => by rw [hl hm]
          generalize rightN c ps es (c.lv - 1) = n at *
          have HPT := Lib.hid (fun (W : World) (hW : Below W0.heap.size W0 W) => sput_no1 (w := W) (c := c) (HP.out.below hW) (HE.out.below hW) hn1 hl1 hm hz hN)
          rw [HCS.out] at HPT
          have HRR : Hid (∀ W, Below W0.heap.size W0 W → ∀ lv, (mayB c = true → lv = c.lv - 1) → Calls Tryd.prog 10 #[.agg cs.toArray, .int .i64 lv] W (RightR W n)) := fun W hW lv hl => by have h := HRR0.out W hW lv; rwa [hN lv hl] at h
          have t0 : (n == 0) = false := by simpa using hz
          clear hz HRR0 hm hN hl1 hn1 hn2
          go_enter Tryd.func4, Tryd.ntmps4
          go_upto_region 1 with (fail)
          skip
          have tok1 : True := trivial
          have tok2 : True := trivial
          have tok3 : True := trivial
          have tok4 : True := trivial
          go_upto_region 3 with (first | (have _t := tok1; refine wpList_load_row (o := ⟨some 8, _, _, _, _, _⟩) rfl 29 (.tmp 2) rfl w.heap.size rfl 29 _ _ _ B0 Tryd.underlying29 rfl hi ?_; clear tok1 _t) | (have _t := tok3; go_at_call 7; refine (hgr1 _ (brefl W0)).mono ?_; rintro e w1 ⟨rfl, hb1⟩; have C1 := B1.below_ hb1; clear tok3 _t) | (have _t := tok2; refine wpList_load_row_g (o := ⟨some 11, _, _, _, _, _⟩) rfl 29 (.tmp 3) rfl (w.heap.size + 1) rfl 29 _ _ _ C1 Tryd.underlying29 rfl hi2 ?_; clear tok2 _t) | (have _t := tok4; go_at_call 7; refine (hgr2 _ hb1).mono ?_; rintro e w2 ⟨rfl, hb2⟩; clear tok4 _t))
          have k1 := bnext hb1 hb2
          have D0 := B0.below_ k1
          clear hgr1 hgr2 hb1 hb2 C1
          have tok1 : True := trivial
          go_upto_region 4 with (first | (have _t := tok1; refine wpList_load_row (o := ⟨some 16, _, _, _, _, _⟩) rfl 29 (.tmp 2) rfl w.heap.size rfl 29 _ _ _ D0 Tryd.underlying29 rfl hi ?_; clear tok1 _t) | (go_at_call 14; refine (HPT.out _ k1).mono ?_; rintro e w3 ⟨p, rfl, hv, hb2⟩))
          have k2 := bnext k1 hb2
          have D2 := B0.below_ k2
          have x0 := keep_below X0.out k2
          have xz := D2.lt
          have tok1 : True := trivial
          go_upto_region 5 with (first | (have _t := tok1; refine wpList_load_row (o := ⟨some 20, _, _, _, _, _⟩) rfl 29 (.tmp 2) rfl w.heap.size rfl 29 _ _ _ D2 Tryd.underlying29 rfl hi ?_; clear tok1 _t) | (go_at_call 10; refine (HRR.out _ k2 _ (fun _ => rfl)).mono ?_; rintro e W3 ⟨rfl, hb3⟩))
          have k3 := bnext k2 hb3
          have B3 := B0.below_ k3
          have C3 := B1.below_ k3
          have hv3 := hv.below hb3
          have HCO : Hid (∀ W, Below W3.heap.size W3 W → Calls Tryd.prog 11 #[.iface 89 (.pointer (some ⟨p, 0, none⟩))] W (CodeR W n)) := fun W hW => code_any (hv3.below hW) ((HG.out.below k3).below hW)
          clear k1 D0 hb2 D2 x0 xz hb3 HRR HPT B0 B1 hv hv3 k2
          have hX := @Ext.cell W3
          refine wp_region_noPanic ?_
          refine wp_region_plan (fun w' => ∃ x : Ext W3, w' = x.w) [([0, 1, 3, 4], 2), ([], 5), ([6, 7, 8, 9], 10), ([11, 12, 13, 14, 16], 15)] [17, 18] (by kernel_rfl) (by kernel_rfl) (by kernel_rfl) (fun _ _ _ _ _ h => h) ⟨⟨_, (brefl W3).drew⟩, rfl⟩ ?_
          refine wpPlan_cons ?_
          simp only [pickOps, List.getElem?_cons_succ, List.getElem?_cons_zero, Option.elim_some]
          refine wpQuiet_load_row_g rfl 29 (.tmp 2) rfl w.heap.size rfl 29 _ _ (blk_ext B3) Tryd.underlying29 rfl hi ?_; simp only [Act.put, List.setIfInBounds_toArray, List.set_cons_succ, List.set_cons_zero]
          refine wpQuiet_load_row_g rfl 29 (.tmp 3) rfl (w.heap.size + 1) rfl 29 _ _ (blk_ext C3) Tryd.underlying29 rfl hi2 ?_; simp only [Act.put, List.setIfInBounds_toArray, List.set_cons_succ, List.set_cons_zero]
          refine wpQuiet_load_row_g rfl 29 (.tmp 2) rfl w.heap.size rfl 29 _ _ (blk_ext B3) Tryd.underlying29 rfl hi ?_; simp only [Act.put, List.setIfInBounds_toArray, List.set_cons_succ, List.set_cons_zero]
          refine wpQuiet_load_row_g rfl 29 (.tmp 3) rfl (w.heap.size + 1) rfl 29 _ _ (blk_ext C3) Tryd.underlying29 rfl hi2 ?_; simp only [Act.put, List.setIfInBounds_toArray, List.set_cons_succ, List.set_cons_zero]
          refine wpQuiet_nil ?_
          refine planAct_some (fun K hK => ?_)
          go_simp
          refine (HS1.out _ (bnext k3 (brefl W3).drew)).mono ?_
          rintro e x1 ⟨rfl, q1⟩; have m1 := bnext ((brefl W3).drew) q1
          go_wp2_with fail
          refine hK.out _ _ ⟨⟨_, m1⟩, rfl⟩ ?_
          clear hK K
          refine wpPlan_cons ?_
          simp only [pickOps, List.getElem?_cons_succ, List.getElem?_cons_zero, Option.elim_some]
          repeat (go_big_quiet_step (fail))
          refine wpQuiet_nil ?_
          refine planAct_some (fun K hK => ?_)
          go_simp
          refine (HS2.out _ (bnext k3 m1)).mono ?_
          rintro e x2 ⟨rfl, q2⟩; have m2 := bnext m1 q2
          go_wp2_with fail
          refine hK.out _ _ ⟨⟨_, m2⟩, rfl⟩ ?_
          clear hK K
          refine wpPlan_cons ?_
          simp only [pickOps, List.getElem?_cons_succ, List.getElem?_cons_zero, Option.elim_some]
          go_big_quiet_step (fail)
          go_big_quiet_step (fail)
          refine wpQuiet_load_row_g rfl 29 (.tmp 2) rfl w.heap.size rfl 29 _ _ (blk_ext B3) Tryd.underlying29 rfl hi ?_; simp only [Act.put, List.setIfInBounds_toArray, List.set_cons_succ, List.set_cons_zero]
          refine wpQuiet_load_row_g rfl 29 (.tmp 2) rfl w.heap.size rfl 29 _ _ (blk_ext B3) Tryd.underlying29 rfl hi ?_; simp only [Act.put, List.setIfInBounds_toArray, List.set_cons_succ, List.set_cons_zero]
          refine wpQuiet_nil ?_
          refine planAct_some (fun K hK => ?_)
          go_simp
          refine (HS3.out _ (bnext k3 m2)).mono ?_
          rintro e x3 ⟨rfl, q3⟩; have m3 := bnext m2 q3
          go_wp2_with fail
          refine hK.out _ _ ⟨⟨_, m3⟩, rfl⟩ ?_
          clear hK K
          refine wpPlan_cons ?_
          simp only [pickOps, List.getElem?_cons_succ, List.getElem?_cons_zero, Option.elim_some]
          repeat (go_big_quiet_step (fail))
          refine wpQuiet_nil ?_
          refine planAct_some (fun K hK => ?_)
          go_simp
          refine (HCO.out _ m3).mono ?_
          rintro e x4 ⟨rfl, q4⟩; have m4 := bnext m3 q4
          go_wp2_with fail
          refine hK.out _ _ ⟨⟨_, m4⟩, rfl⟩ ?_
          clear hK K
          refine wpPlan_last ?_
          simp only [pickOps, List.getElem?_cons_succ, List.getElem?_cons_zero, Option.elim_some]
          repeat (go_big_quiet_step (fail))
          refine wpQuiet_nil ?_
          refine NoPanic.normal ?_
          clear hX
          go_wp2_with (go_at_call 8; refine (lives18 _).mono ?_; rintro e x9 ⟨rfl, q9⟩)
          go_ret
          exact ⟨rfl, bnext kb (bnext k3 (bnext m4 q9))⟩
end Go.Proofs.YtknngjdcbldmgaaDoor
