/- Why a script is not right, by the document. -/
import Derived.Test.YtjjgngccgjpnaaaGreatDoorScrF
namespace Go.Proofs.YtjjgngccgjpnaaaGreatDoor
set_option linter.unusedVariables false
set_option linter.unusedSimpArgs false
open Go.RowKit

theorem wpList_load_mid_g {P : Program} {ops : Array Oper} {rest : List Oper} {op : Oper} {a : Act} {w : World} {Q : Exit → Act → World → Prop} (hgd : Region.wanted op (yielded ops a.tmps) = true) (ty : TypeId) (x : Operand) (ho : op.op = .load ty x)
    (b o : Nat) (hx : a.eval x = .pointer (some ⟨b, o, none⟩)) (cs : List Value) (d : TypeDesc) (hc : w.rangeAt b o cs)
    (hu : P.underlying ty = some d) (hd : d.isRow = true) (hi : (P.info? ty).map (·.size) = some cs.length)
    (h : wpList P ops Q rest (a.put op.dst (.agg cs.toArray)) w) : wpList P ops Q (op :: rest) a w :=
  wpList_step fun K hK => by
    rw [if_pos hgd]
    exact wp_load_mid ty x ho b o hx cs d hc hu hd hi (hK _ _ h)
theorem of_nonneg {c : Cf} (hm : mayB c = true) {k : Nat} (hk : k < 8) : 0 ≤ c.of k := ((of_decide_eq_true hm : c.May).r k hk).1
theorem lev_in {c : Cf} (hm : mayB c = true) {t : Int} (ht : thB c t = true) : 0 ≤ levelOf c t := by
  have h := of_decide_eq_true ht
  have m : c.May := of_decide_eq_true hm
  have := m.t2
  unfold levelOf
  rw [if_pos ⟨hm, h.1, h.2⟩]
  exact of_nonneg hm (by omega)
theorem lev_out {c : Cf} {t : Int} (ht : thB c t = false) : levelOf c t = -1 := by
  have h := of_decide_eq_false ht
  unfold levelOf
  rw [if_neg (by omega)]
theorem thr_step {c : Cf} {p : Int → Bool} {k : Nat} (hk : (k : Int) < c.th) : thr c p (k + 1) = thr c p k ++ (if p (c.of k) = true then [(k : Int)] else []) := by
  rw [thr, decide_eq_true hk, Bool.true_and]
theorem any_app1 {α : Type} (l : List α) (x : α) (p : α → Bool) : (l ++ [x]).any p = (l.any p || p x) := by simp
def RightR (w : World) (n : Int) (e : Ending) (w' : World) : Prop := e = .returned (.int .i64 n) ∧ Below w.heap.size w w'

set_option maxHeartbeats 4000000 in
set_option maxRecDepth 100000 in
theorem rright_no {w : World} (c : Cf) {us : List Value} {ev : Value} (ps : List (List CV)) (es : List En) (hm : mayB c = false) (lv : Int) : Calls Tryz.prog 14 #[.agg (scc c us ev).toArray, .int .i64 lv] w (RightR w (rightN c ps es lv)) := by
  obtain ⟨W0, hW0, hB, kb⟩ : ∃ W0, w.alloc (.cells (scc c us ev).toArray 30) = W0 ∧ Blk W0 w.heap.size 30 (scc c us ev).toArray ∧ Below w.heap.size w W0 := ⟨_, rfl, Blk.new _ _ _, bnew (brefl w) _⟩
  have r0 : W0.rangeAt w.heap.size 0 [.int .i64 c.lv, .int .i64 c.th, .int .i64 c.o0, .int .i64 c.o1, .int .i64 c.o2, .int .i64 c.o3, .int .i64 c.o4, .int .i64 c.o5, .int .i64 c.o6, .int .i64 c.o7, .int .i64 c.sl, .int .i64 c.li, .int .i64 c.ge, .int .i64 c.qu] := range_blk hB 0 (scc_conf c us _)
  have hmay := fun W => rmay_any c W
  have HR : Hid (rightN c ps es lv = 2) := by unfold Hid rightN; rw [if_pos hm]
  rw [hm] at hmay
  clear hm hB
  generalize scc c us ev = cs at *
  go_enter Tryz.func14, Tryz.ntmps14
  go_upto_region 1 with (fail)
  have tok1 : True := trivial
  go_wp2_with (first | (have _t := tok1; refine wpList_load_mid (op := ⟨some 15, _, _, _, _, _⟩) rfl 25 (.tmp 14) rfl w.heap.size (0) rfl [.int .i64 c.lv, .int .i64 c.th, .int .i64 c.o0, .int .i64 c.o1, .int .i64 c.o2, .int .i64 c.o3, .int .i64 c.o4, .int .i64 c.o5, .int .i64 c.o6, .int .i64 c.o7, .int .i64 c.sl, .int .i64 c.li, .int .i64 c.ge, .int .i64 c.qu] _ r0 Tryz.underlying25 rfl (by kernel_rfl) ?_; clear tok1 _t) | (go_at_call 41; refine (hmay _).mono ?_; rintro e w1 ⟨rfl, hb1⟩))
  go_ret
  exact ⟨by rw [HR.out]; rfl, bnext kb hb1⟩
set_option maxHeartbeats 4000000 in
set_option maxRecDepth 100000 in
theorem rright_yes {w : World} {c : Cf} {us : List Value} {ps : List (List CV)} {EA : Option Addr} {en ec : Nat} {es : List En} (hP : PIn (fun _ => False) w us ps) (hE : Sl enc_ w EA en ec es) (hen : en ≤ 1000000) (hps : ∀ l, l ∈ ps → l.length ≤ 1000000) (hm : mayB c = true) (lv : Int) : Calls Tryz.prog 14 #[.agg (scc c us (.slice EA en ec)).toArray, .int .i64 lv] w (RightR w (rightN c ps es lv)) := by
  have h8 := hP.u8
  obtain ⟨W0, hW0, hB, kb⟩ : ∃ W0, w.alloc (.cells (scc c us (.slice EA en ec)).toArray 30) = W0 ∧ Blk W0 w.heap.size 30 (scc c us (.slice EA en ec)).toArray ∧ Below w.heap.size w W0 := ⟨_, rfl, Blk.new _ _ _, bnew (brefl w) _⟩
  have hP0 := hP.below kb
  have hE0 := hE.below kb
  have x22 : W0.cell? ⟨w.heap.size, 22, none⟩ = some (.slice EA en ec) := (hB.cell 22).trans (by rw [List.getElem?_toArray]; exact scc_last h8)
  have x1 : W0.cell? ⟨w.heap.size, 1, none⟩ = some (.int .i64 c.th) := hB.cell 1
  have xk : ∀ (k : Nat) (v : Value), us[k]? = some v → W0.cell? ⟨w.heap.size, 14 + k, none⟩ = some v := fun k v hk => (hB.cell _).trans (by rw [List.getElem?_toArray]; exact scc_get hk)
  have xo : ∀ k : Nat, k < 8 → W0.cell? ⟨w.heap.size, 2 + k, none⟩ = some (.int .i64 (c.of k)) := fun k hk => by
    rcases (by omega : k = 0 ∨ k = 1 ∨ k = 2 ∨ k = 3 ∨ k = 4 ∨ k = 5 ∨ k = 6 ∨ k = 7) with rfl | rfl | rfl | rfl | rfl | rfl | rfl | rfl <;> exact hB.cell _
  have r0 : W0.rangeAt w.heap.size 0 [.int .i64 c.lv, .int .i64 c.th, .int .i64 c.o0, .int .i64 c.o1, .int .i64 c.o2, .int .i64 c.o3, .int .i64 c.o4, .int .i64 c.o5, .int .i64 c.o6, .int .i64 c.o7, .int .i64 c.sl, .int .i64 c.li, .int .i64 c.ge, .int .i64 c.qu] := range_blk hB 0 (scc_conf c us _)
  have hz := hB.lt
  have hmay := fun W => rmay_any c W
  have XK := Lib.hid xk
  have XO := Lib.hid xo
  have HMB := Lib.hid hm
  have m : c.May := of_decide_eq_true hm
  have hth1 := m.t1
  have hth8 := m.t2
  have HLV := Lib.hid (fun W (t : Int) => rlevel_any c t W)
  have HELN := Lib.hid hE.len
  rw [hm] at hmay
  clear xk xo hP hE h8 hB m hm
  generalize scc c us (.slice EA en ec) = cs at *
  go_enter Tryz.func14, Tryz.ntmps14
  go_upto_region 1 with (fail)
  have tok1 : True := trivial
  go_wp2_with (first | (have _t := tok1; refine wpList_load_mid (op := ⟨some 15, _, _, _, _, _⟩) rfl 25 (.tmp 14) rfl w.heap.size (0) rfl [.int .i64 c.lv, .int .i64 c.th, .int .i64 c.o0, .int .i64 c.o1, .int .i64 c.o2, .int .i64 c.o3, .int .i64 c.o4, .int .i64 c.o5, .int .i64 c.o6, .int .i64 c.o7, .int .i64 c.sl, .int .i64 c.li, .int .i64 c.ge, .int .i64 c.qu] _ r0 Tryz.underlying25 rfl (by kernel_rfl) ?_; clear tok1 _t) | (go_at_call 41; refine (hmay _).mono ?_; rintro e w1 ⟨rfl, hb1⟩))
  clear hmay
  go_loopg [8] 8 (fun gk i wr => ∃ k : Nat, k + gk = 8 ∧ i = .int .i64 k ∧ Hid (∀ j, j < k → pAbs c ps j = false) ∧ Below W0.heap.size W0 wr)
  case atStart => exact ⟨0, by omega, rfl, fun j hj => by omega, hb1⟩
  case round =>
    clear hb1
    obtain ⟨k, hk, rfl, hall, kr⟩ := hrel
    by_cases hlt : k < 8
    · obtain ⟨l, hl⟩ : ∃ l, ps[k]? = some l := ⟨ps[k]'(by have := hP0.p8; omega), List.getElem?_eq_getElem (i := k) _⟩
      obtain ⟨A, n, c', hu, hs, _⟩ := hP0.at_ k l hl
      have v0 := keep_below (XK.out k _ hu) kr
      have rq : wr.rangeAt w.heap.size 0 [.int .i64 c.lv, .int .i64 c.th, .int .i64 c.o0, .int .i64 c.o1, .int .i64 c.o2, .int .i64 c.o3, .int .i64 c.o4, .int .i64 c.o5, .int .i64 c.o6, .int .i64 c.o7, .int .i64 c.sl, .int .i64 c.li, .int .i64 c.ge, .int .i64 c.qu] := fun j v hj => keep_below (r0 j v hj) kr
      have b0 : (0 : Int) ≤ (k : Int) := by omega
      have b1 : (k : Int) < 8 := by omega
      have hn : n ≤ 1000000 := by have := hps l (List.mem_of_getElem? hl); have := hs.len; omega
      have HP : Hid (pAbs c ps k = (!thB c (k : Int) && decide (0 < n))) := by
        unfold Hid pAbs
        rw [List.getD_eq_getElem?_getD, hl, Option.getD_some, hs.len]
      have hlev := fun W => HLV.out W (k : Int)
      clear hu hl hs
      cases htb : thB c (k : Int) with
      | true =>
        have hge := lev_in HMB.out htb
        have HT := Lib.hid htb
        generalize levelOf c (k : Int) = lev at *
        have u1 : decide (lev < 0) = false := decide_eq_false (by omega)
        clear htb
        have tok2 : True := trivial
        go_wp2_with (first | (have _t := tok2; refine wpList_load_mid (op := ⟨some 23, _, _, _, _, _⟩) rfl 25 (.tmp 22) rfl w.heap.size (0) rfl [.int .i64 c.lv, .int .i64 c.th, .int .i64 c.o0, .int .i64 c.o1, .int .i64 c.o2, .int .i64 c.o3, .int .i64 c.o4, .int .i64 c.o5, .int .i64 c.o6, .int .i64 c.o7, .int .i64 c.sl, .int .i64 c.li, .int .i64 c.ge, .int .i64 c.qu] _ rq Tryz.underlying25 rfl (by kernel_rfl) ?_; clear tok2 _t) | (go_at_call 42; refine (hlev _).mono ?_; rintro e w2 ⟨rfl, hb2⟩))
        go_roundg (gk - 1)
        case measure => omega
        case rel =>
          refine ⟨k + 1, by omega, by go_num, fun j hj => ?_, bnext kr hb2⟩
          by_cases hjk : j = k
          · subst hjk; rw [HP.out, HT.out]; rfl
          · exact hall.out j (by omega)
      | false =>
        rw [lev_out htb] at hlev
        have HT := Lib.hid htb
        clear htb
        by_cases h0 : 0 < n
        · have h0' : (0 : Int) < (n : Int) := by omega
          have HR : Hid (rightN c ps es lv = 1) := by
            unfold Hid rightN absB
            rw [HMB.out, List.any_eq_true.2 ⟨k, List.mem_range.2 hlt, by rw [HP.out, HT.out, decide_eq_true h0]; rfl⟩]
            simp
          have tok2 : True := trivial
          go_wp2_with (first | (have _t := tok2; refine wpList_load_mid (op := ⟨some 23, _, _, _, _, _⟩) rfl 25 (.tmp 22) rfl w.heap.size (0) rfl [.int .i64 c.lv, .int .i64 c.th, .int .i64 c.o0, .int .i64 c.o1, .int .i64 c.o2, .int .i64 c.o3, .int .i64 c.o4, .int .i64 c.o5, .int .i64 c.o6, .int .i64 c.o7, .int .i64 c.sl, .int .i64 c.li, .int .i64 c.ge, .int .i64 c.qu] _ rq Tryz.underlying25 rfl (by kernel_rfl) ?_; clear tok2 _t) | (go_at_call 42; refine (hlev _).mono ?_; rintro e w2 ⟨rfl, hb2⟩; have v1 := keep_below v0 hb2; have z1 := block_lt_of_cell v1))
          go_ret
          exact ⟨by rw [HR.out]; rfl, bnext kb (bnext kr hb2)⟩
        · have h0' : decide (0 < n) = false := decide_eq_false h0
          have HP2 : Hid (pAbs c ps k = false) := by rw [Hid, HP.out, h0', Bool.and_false]
          clear h0
          have tok2 : True := trivial
          go_wp2_with (first | (have _t := tok2; refine wpList_load_mid (op := ⟨some 23, _, _, _, _, _⟩) rfl 25 (.tmp 22) rfl w.heap.size (0) rfl [.int .i64 c.lv, .int .i64 c.th, .int .i64 c.o0, .int .i64 c.o1, .int .i64 c.o2, .int .i64 c.o3, .int .i64 c.o4, .int .i64 c.o5, .int .i64 c.o6, .int .i64 c.o7, .int .i64 c.sl, .int .i64 c.li, .int .i64 c.ge, .int .i64 c.qu] _ rq Tryz.underlying25 rfl (by kernel_rfl) ?_; clear tok2 _t) | (go_at_call 42; refine (hlev _).mono ?_; rintro e w2 ⟨rfl, hb2⟩; have v1 := keep_below v0 hb2; have z1 := block_lt_of_cell v1))
          go_roundg (gk - 1)
          case measure => omega
          case rel =>
            refine ⟨k + 1, by omega, by go_num, fun j hj => ?_, bnext kr hb2⟩
            by_cases hjk : j = k
            · subst hjk; exact HP2.out
            · exact hall.out j (by omega)
    · have t9 : decide (k < 8) = false := decide_eq_false (by omega)
      obtain rfl : k = 8 := by omega
      have HAB : Hid (absB c ps es = es.any (fun e => !thB c e.th)) := by rw [Hid, absB, range_any hall.out, Bool.false_or]
      clear hall
      go_wp2_with fail
      go_loopg [5, 7, 10] en (fun gk s5 s7 i wr => ∃ (k : Nat) (bk : Bool) (cn : Nat), k + gk = en ∧ i = .int .i64 k ∧ s5 = .bool bk ∧ s7 = .int .i64 cn ∧ Hid ((es.take k).any (eBad c lv) = bk) ∧ Hid (((es.take k).filter (eIn c lv)).length = cn) ∧ Hid ((es.take k).any (fun e => !thB c e.th) = false) ∧ Below W0.heap.size W0 wr)
      case atStart => exact ⟨0, false, 0, by omega, rfl, rfl, rfl, rfl, rfl, rfl, kr⟩
      case round =>
        clear kr t9
        obtain ⟨k, bk, cn, hk, rfl, rfl, rfl, hbk, hcn, hna, kr⟩ := hrel
        have y22 := keep_below x22 kr
        have yz := block_lt_of_cell y22
        by_cases hlt : k < en
        · obtain ⟨b, o', rfl, _, hce⟩ := hE0.base enc__len (by decide) (by omega)
          obtain ⟨x, hx⟩ : ∃ x, es[k]? = some x := ⟨es[k]'(by have := HELN.out; omega), List.getElem?_eq_getElem (i := k) _⟩
          have e0 : W0.cell? ⟨b, o' + k * 2, none⟩ = some (.int .i64 x.th) := by have h0 := hce k x 0 _ hx rfl; simpa using h0
          have e1 : W0.cell? ⟨b, o' + k * 2 + 1, none⟩ = some (.int .i64 x.wh) := by have h0 := hce k x 1 _ hx rfl; simpa [Nat.add_assoc] using h0
          have k0 : (0 : Int) ≤ (k : Int) := by omega
          have k1 : (k : Int) < (en : Int) := by omega
          have hcn1 : cn ≤ 1000000 := by have h1 := hcn.out; have h2 := List.length_filter_le (eIn c lv) (es.take k); have h3 := List.length_take_le k es; omega
          have HB : Hid ((es.take (k + 1)).any (eBad c lv) = (bk || eBad c lv x)) := by rw [Hid, any_snoc hx, hbk.out]
          have HC : Hid (((es.take (k + 1)).filter (eIn c lv)).length = cn + (if eIn c lv x = true then 1 else 0)) := by rw [Hid, filter_snoc hx, hcn.out]
          have HNA0 : Hid ((es.take (k + 1)).any (fun e => !thB c e.th) = !thB c x.th) := by rw [Hid, any_snoc hx, hna.out, Bool.false_or]
          have HAX : Hid (thB c x.th = false → rightN c ps es lv = 1) := fun q => by
            unfold rightN
            rw [HMB.out, HAB.out, List.any_eq_true.2 ⟨x, List.mem_of_getElem? hx, by rw [q]; rfl⟩]
            simp
          clear hx hce hbk hcn hna
          go_upto_region 14 with (fail)
          cases htb : thB c x.th with
          | false =>
            have HR := Lib.hid (HAX.out htb)
            have HLE := Lib.hid (lev_out htb)
            clear htb HAX
            have hX := @Ext.cell W0
            have hzz0 := block_lt_of_cell x22
            have hzz1 := block_lt_of_cell e0
            refine wp_region_noPanic ?_
            refine wp_region_plan (fun w' => ∃ x : Ext W0, w' = x.w) [([0, 1, 2, 3, 4, 5, 6, 7], 8)] [9] (by kernel_rfl) (by kernel_rfl) (by kernel_rfl) (fun _ _ _ _ _ h => h) ⟨⟨_, kr.drew⟩, rfl⟩ ?_
            refine wpPlan_cons ?_
            simp only [pickOps, List.getElem?_cons_succ, List.getElem?_cons_zero, Option.elim_some]
            go_big_quiet_step (fail)
            refine wpQuiet_load_mid rfl 25 (.tmp 43) rfl w.heap.size (0) rfl [.int .i64 c.lv, .int .i64 c.th, .int .i64 c.o0, .int .i64 c.o1, .int .i64 c.o2, .int .i64 c.o3, .int .i64 c.o4, .int .i64 c.o5, .int .i64 c.o6, .int .i64 c.o7, .int .i64 c.sl, .int .i64 c.li, .int .i64 c.ge, .int .i64 c.qu] _ (range_ext r0) Tryz.underlying25 rfl (by kernel_rfl) ?_; simp only [Act.put, List.setIfInBounds_toArray, List.set_cons_succ, List.set_cons_zero]
            go_big_quiet_step (fail)
            go_big_quiet_step (fail)
            go_big_quiet_step (fail)
            go_big_quiet_step (fail)
            go_big_quiet_step (fail)
            go_big_quiet_step (fail)
            refine wpQuiet_nil ?_
            refine planAct_some (fun K hK => ?_)
            go_simp
            refine (HLV.out _ x.th).mono ?_
            rintro e2 w2 ⟨rfl, hb2⟩; have m1 := bnext kr.drew hb2
            go_wp2_with fail
            refine hK.out _ _ ⟨⟨_, m1⟩, rfl⟩ ?_
            clear hK K
            refine wpPlan_last ?_
            simp only [pickOps, List.getElem?_cons_succ, List.getElem?_cons_zero, Option.elim_some]
            repeat (go_big_quiet_step (fail))
            refine wpQuiet_nil ?_
            refine NoPanic.normal ?_
            clear hX hzz0 hzz1
            rw [HLE.out]
            go_wp2_with fail
            go_ret
            exact ⟨by rw [HR.out]; rfl, bnext kb m1⟩
          | true =>
            have hge := lev_in HMB.out htb
            have HNA : Hid ((es.take (k + 1)).any (fun e => !thB c e.th) = false) := by rw [Hid, HNA0.out, htb]; rfl
            have HIN0 : Hid (eIn c lv x = decide (levelOf c x.th ≤ lv)) := rfl
            clear htb HAX HNA0
            have hX := @Ext.cell W0
            have hzz0 := block_lt_of_cell x22
            have hzz1 := block_lt_of_cell e0
            refine wp_region_noPanic ?_
            refine wp_region_plan (fun w' => ∃ x : Ext W0, w' = x.w) [([0, 1, 2, 3, 4, 5, 6, 7], 8)] [9] (by kernel_rfl) (by kernel_rfl) (by kernel_rfl) (fun _ _ _ _ _ h => h) ⟨⟨_, kr.drew⟩, rfl⟩ ?_
            refine wpPlan_cons ?_
            simp only [pickOps, List.getElem?_cons_succ, List.getElem?_cons_zero, Option.elim_some]
            go_big_quiet_step (fail)
            refine wpQuiet_load_mid rfl 25 (.tmp 43) rfl w.heap.size (0) rfl [.int .i64 c.lv, .int .i64 c.th, .int .i64 c.o0, .int .i64 c.o1, .int .i64 c.o2, .int .i64 c.o3, .int .i64 c.o4, .int .i64 c.o5, .int .i64 c.o6, .int .i64 c.o7, .int .i64 c.sl, .int .i64 c.li, .int .i64 c.ge, .int .i64 c.qu] _ (range_ext r0) Tryz.underlying25 rfl (by kernel_rfl) ?_; simp only [Act.put, List.setIfInBounds_toArray, List.set_cons_succ, List.set_cons_zero]
            go_big_quiet_step (fail)
            go_big_quiet_step (fail)
            go_big_quiet_step (fail)
            go_big_quiet_step (fail)
            go_big_quiet_step (fail)
            go_big_quiet_step (fail)
            refine wpQuiet_nil ?_
            refine planAct_some (fun K hK => ?_)
            go_simp
            refine (HLV.out _ x.th).mono ?_
            rintro e2 w2 ⟨rfl, hb2⟩; have m1 := bnext kr.drew hb2
            go_wp2_with fail
            refine hK.out _ _ ⟨⟨_, m1⟩, rfl⟩ ?_
            clear hK K
            refine wpPlan_last ?_
            simp only [pickOps, List.getElem?_cons_succ, List.getElem?_cons_zero, Option.elim_some]
            repeat (go_big_quiet_step (fail))
            refine wpQuiet_nil ?_
            refine NoPanic.normal ?_
            clear hX hzz0 hzz1
            obtain ⟨lev, hlv⟩ : ∃ lev, levelOf c x.th = lev := ⟨_, rfl⟩
            rw [hlv] at HIN0 hge ⊢
            clear hlv
            have u1 : decide (lev < 0) = false := decide_eq_false (by omega)
            have y22 := keep_below x22 m1
            have y1 := keep_below e1 m1
            have yz := block_lt_of_cell y22
            have yz1 := block_lt_of_cell y1
            by_cases hle : lev ≤ lv
            · have HIN : Hid (eIn c lv x = true) := by rw [Hid, HIN0.out]; exact decide_eq_true hle
              cases bk with
              | true =>
                go_wp2_with fail
                go_roundg (gk - 1)
                case measure => omega
                case rel => exact ⟨k + 1, true, cn + 1, by omega, by go_num, rfl, by go_num, by rw [Hid, HB.out, eBad, HIN.out]; simp, by rw [Hid, HC.out, HIN.out]; simp, HNA.out, m1⟩
              | false =>
                by_cases w1 : x.wh < 0
                · have W1' := Lib.hid w1
                  go_wp2_with fail
                  go_roundg (gk - 1)
                  case measure => omega
                  case rel => exact ⟨k + 1, true, cn + 1, by omega, by go_num, rfl, by go_num, by rw [Hid, HB.out, eBad, HIN.out]; simp [W1'.out], by rw [Hid, HC.out, HIN.out]; simp, HNA.out, m1⟩
                · have v1 : decide (x.wh < 0) = false := decide_eq_false w1
                  by_cases w3 : 3 < x.wh
                  · have W3' := Lib.hid w3
                    clear w1
                    go_wp2_with fail
                    go_roundg (gk - 1)
                    case measure => omega
                    case rel => exact ⟨k + 1, true, cn + 1, by omega, by go_num, rfl, by go_num, by rw [Hid, HB.out, eBad, HIN.out]; simp [W3'.out], by rw [Hid, HC.out, HIN.out]; simp, HNA.out, m1⟩
                  · have v3 : decide (3 < x.wh) = false := decide_eq_false w3
                    have W5' : Hid (0 ≤ x.wh ∧ x.wh ≤ 3) := ⟨by omega, by omega⟩
                    clear w1 w3
                    go_wp2_with fail
                    go_roundg (gk - 1)
                    case measure => omega
                    case rel => exact ⟨k + 1, false, cn + 1, by omega, by go_num, rfl, by go_num, by rw [Hid, HB.out, eBad, HIN.out]; simp; have := W5'.out; omega, by rw [Hid, HC.out, HIN.out]; simp, HNA.out, m1⟩
            · have HIN : Hid (eIn c lv x = false) := by rw [Hid, HIN0.out]; exact decide_eq_false hle
              have hle' : decide (lev ≤ lv) = false := decide_eq_false hle
              clear hle
              go_wp2_with fail
              go_roundg (gk - 1)
              case measure => omega
              case rel => exact ⟨k + 1, bk, cn, by omega, by go_num, rfl, by go_num, by rw [Hid, HB.out, eBad, HIN.out]; simp, by rw [Hid, HC.out, HIN.out]; simp, HNA.out, m1⟩
        · have t8 : decide (k < en) = false := decide_eq_false (by omega)
          obtain rfl : k = en := by omega
          have hb1 := hbk.out
          have hc1 := hcn.out
          have hn1 := hna.out
          rw [List.take_of_length_le (by have := HELN.out; omega)] at hb1 hc1 hn1
          have HBE := Lib.hid hb1
          have HCE : Hid (cntE c lv es = cn) := hc1
          have HABF : Hid (absB c ps es = false) := by rw [Hid, HAB.out]; exact hn1
          have hcn1 : cn ≤ 1000000 := by have h2 := List.length_filter_le (eIn c lv) es; have h3 := HELN.out; omega
          have HUP : Hid (ups c lv = thr c (fun x => decide (x ≤ lv)) c.th.toNat) := by
            have := thr_past c (fun x => decide (x ≤ lv)) (k := c.th.toNat) (by omega) (8 - c.th.toNat)
            rw [show c.th.toNat + (8 - c.th.toNat) = 8 by omega] at this
            rw [Hid, ups, atL, if_pos HMB.out, this]
          clear hbk hcn hna hb1 hc1 hn1
          have ten : (0 : Int) ≤ (k : Int) := by omega
          go_wp2_with fail
          clear y22 yz t8
          go_loopg [5, 6, 12] c.th.toNat (fun gk s5 s6 i wr => ∃ (k : Nat) (bk lk : Bool), k + gk = c.th.toNat ∧ i = .int .i64 k ∧ s5 = .bool bk ∧ s6 = .bool lk ∧ Hid ((es.any (eBad c lv) || (thr c (fun x => decide (x ≤ lv)) k).any (pBad ps)) = bk) ∧ Hid ((thr c (fun x => decide (x ≤ lv)) k).any (pLong ps) = lk) ∧ Below W0.heap.size W0 wr)
          case atStart => exact ⟨0, bk, false, by omega, rfl, rfl, rfl, by rw [Hid, HBE.out]; simp [thr], rfl, kr⟩
          case round =>
            clear kr HBE
            obtain ⟨k, bk, lk, hk, rfl, rfl, rfl, hbk, hlk, kr⟩ := hrel
            have y1 := keep_below x1 kr
            have yz := block_lt_of_cell y1
            by_cases hlt : (k : Int) < c.th
            · have hk8 : k < 8 := by omega
              have yo := keep_below (XO.out k hk8) kr
              have HS := Lib.hid (thr_step (c := c) (p := (fun x => decide (x ≤ lv))) hlt)
              obtain ⟨l, hl⟩ : ∃ l, ps[k]? = some l := ⟨ps[k]'(by have := hP0.p8; omega), List.getElem?_eq_getElem (i := k) _⟩
              obtain ⟨A, n, c', hu, hs, _⟩ := hP0.at_ k l hl
              have v0 := XK.out k _ hu
              have v1 := keep_below v0 kr
              have k0 : (0 : Int) ≤ (k : Int) := by omega
              have k1 : (k : Int) < 8 := by omega
              have hn : n ≤ 1000000 := by have := hps l (List.mem_of_getElem? hl); have := hs.len; omega
              have HSL := Lib.hid hs.len
              have E1 : Hid (pBad ps (k : Int) = l.any (fun x => !okC x)) := by unfold Hid pBad; rw [Int.toNat_natCast, List.getD_eq_getElem?_getD, hl, Option.getD_some]
              have E2 : Hid (pLong ps (k : Int) = decide (40 < n)) := by unfold Hid pLong; rw [Int.toNat_natCast, List.getD_eq_getElem?_getD, hl, Option.getD_some, hs.len]
              clear hl hu
              generalize c.of k = ok at *
              by_cases hgt : lv < ok
              · have HE : Hid (thr c (fun x => decide (x ≤ lv)) (k + 1) = thr c (fun x => decide (x ≤ lv)) k) := by rw [Hid, HS.out, if_neg (by simp; omega), List.append_nil]
                go_wp2_with fail
                go_roundg (gk - 1)
                case measure => omega
                case rel => exact ⟨k + 1, bk, lk, by omega, by go_num, rfl, rfl, by rw [Hid, HE.out]; exact hbk.out, by rw [Hid, HE.out]; exact hlk.out, kr⟩
              · have HE : Hid (thr c (fun x => decide (x ≤ lv)) (k + 1) = thr c (fun x => decide (x ≤ lv)) k ++ [(k : Int)]) := by rw [Hid, HS.out, if_pos (by simp; omega)]
                have ugt : decide (lv < ok) = false := decide_eq_false hgt
                obtain ⟨g3, hg3⟩ : ∃ g, g = gk := ⟨_, rfl⟩
                subst hg3
                clear hgt HS
                go_wp2_with fail
                go_loopg [5, 13] n (fun gk s5 i w4 => ∃ (j : Nat) (b4 : Bool), j + gk = n ∧ i = .int .i64 j ∧ s5 = .bool b4 ∧ Hid ((bk || (l.take j).any (fun x => !okC x)) = b4) ∧ Below W0.heap.size W0 w4)
                case atStart => exact ⟨0, bk, by omega, rfl, rfl, by simp [Hid], kr⟩
                case round =>
                  clear kr y1 yz yo v1
                  obtain ⟨j, b4, hj, rfl, rfl, hb4, kr⟩ := hrel
                  have v1 := keep_below v0 kr
                  have vz := block_lt_of_cell v1
                  by_cases hjn : j < n
                  · obtain ⟨b, o', rfl, _, _⟩ := hs.base cvc_len (by decide) (by omega)
                    obtain ⟨x, hx⟩ : ∃ x, l[j]? = some x := ⟨l[j]'(by have := HSL.out; omega), List.getElem?_eq_getElem (i := j) _⟩
                    have r1 : wr.rangeAt b (o' + j * 7) (cvc x) := range_sl cvc_len (hs.below kr) hx
                    have j0 : (0 : Int) ≤ (j : Int) := by omega
                    have j1 : (j : Int) < (n : Int) := by omega
                    have HB : Hid ((bk || (l.take (j + 1)).any (fun x => !okC x)) = (b4 || !okC x)) := by rw [Hid, any_snoc hx, ← Bool.or_assoc, hb4.out]
                    have hcm := fun W => rcmay_any x W
                    have hi := info_cvc x
                    clear hx hb4
                    generalize cvc x = csx at *
                    generalize okC x = okx at *
                    cases b4 with
                    | true =>
                      go_wp2_with fail
                      go_roundg (gk - 1)
                      case measure => omega
                      case rel => exact ⟨j + 1, true, by omega, by go_num, rfl, by rw [Hid, HB.out]; simp, kr⟩
                    | false =>
                      have tok3 : True := trivial
                      go_wp2_with (first | (have _t := tok3; refine wpList_load_mid_g (op := ⟨some 109, _, _, _, _, _⟩) rfl 51 (.tmp 108) rfl b (o' + j * 7) rfl csx _ r1 Tryz.underlying51 rfl hi ?_; clear tok3 _t) | (go_at_call 43; refine (hcm _).mono ?_; rintro e w5 ⟨rfl, hb5⟩))
                      go_roundg (gk - 1)
                      case measure => omega
                      case rel => exact ⟨j + 1, !okx, by omega, by go_num, rfl, by rw [Hid, HB.out]; simp, bnext kr hb5⟩
                  · have t7 : decide (j < n) = false := decide_eq_false (by omega)
                    obtain rfl : j = n := by omega
                    have h4 := hb4.out
                    rw [List.take_of_length_le (by have := HSL.out; omega)] at h4
                    have HB : Hid ((es.any (eBad c lv) || (thr c (fun x => decide (x ≤ lv)) (k + 1)).any (pBad ps)) = b4) := by rw [Hid, HE.out, any_app1, E1.out, ← Bool.or_assoc, hbk.out]; exact h4
                    have HL : Hid ((thr c (fun x => decide (x ≤ lv)) (k + 1)).any (pLong ps) = (lk || decide (40 < j))) := by rw [Hid, HE.out, any_app1, E2.out, hlk.out]
                    clear h4 hb4 hbk hlk HE
                    cases lk with
                    | true =>
                      go_wp2_with fail
                      go_roundg (g3 - 1)
                      case measure => omega
                      case rel => exact ⟨k + 1, b4, true, by omega, by go_num, rfl, rfl, HB.out, by rw [Hid, HL.out]; simp, kr⟩
                    | false =>
                      by_cases h40 : 40 < j
                      · have u40 : (40 : Int) < (j : Int) := by omega
                        have H40 := Lib.hid h40
                        go_wp2_with fail
                        go_roundg (g3 - 1)
                        case measure => omega
                        case rel => exact ⟨k + 1, b4, true, by omega, by go_num, rfl, rfl, HB.out, by rw [Hid, HL.out]; simp [H40.out], kr⟩
                      · have u40 : decide ((40 : Int) < (j : Int)) = false := decide_eq_false (by omega)
                        have H40 := Lib.hid h40
                        clear h40
                        go_wp2_with fail
                        go_roundg (g3 - 1)
                        case measure => omega
                        case rel => exact ⟨k + 1, b4, false, by omega, by go_num, rfl, rfl, HB.out, by rw [Hid, HL.out]; simp; have := H40.out; omega, kr⟩
            · have tlt : decide ((k : Int) < c.th) = false := decide_eq_false hlt
              have hkth : k = c.th.toNat := by omega
              have HR1 : Hid (badB c ps es lv = bk) := by rw [Hid, badB, HUP.out, ← hkth, Bool.or_comm]; exact hbk.out
              have HR2 : Hid (longB c ps es lv = (lk || decide (60000 < cn))) := by rw [Hid, longB, HUP.out, ← hkth, hlk.out, HCE.out]
              have HR : Hid (rightN c ps es lv = if bk = true then 14 else if (lk || decide (60000 < cn)) = true then 5 else 0) := by
                unfold Hid rightN
                rw [HMB.out, HABF.out, HR1.out, HR2.out]
                simp
              clear hkth hbk hlk hlt HR1 HR2
              cases bk with
              | true =>
                go_wp2_with fail
                go_ret
                exact ⟨by rw [HR.out]; rfl, bnext kb kr⟩
              | false =>
                cases lk with
                | true =>
                  go_wp2_with fail
                  go_ret
                  exact ⟨by rw [HR.out]; rfl, bnext kb kr⟩
                | false =>
                  by_cases h6 : 60000 < cn
                  · have u6 : (60000 : Int) < (cn : Int) := by omega
                    have H6 := Lib.hid h6
                    go_wp2_with fail
                    go_ret
                    exact ⟨by rw [HR.out, decide_eq_true H6.out]; rfl, bnext kb kr⟩
                  · have u6 : decide ((60000 : Int) < (cn : Int)) = false := decide_eq_false (by omega)
                    have H6 := Lib.hid h6
                    clear h6
                    go_wp2_with fail
                    go_ret
                    exact ⟨by rw [HR.out, decide_eq_false H6.out]; rfl, bnext kb kr⟩
theorem rright_any {w : World} {c : Cf} {us : List Value} {ps : List (List CV)} {EA : Option Addr} {en ec : Nat} {es : List En} (hP : PIn (fun _ => False) w us ps) (hE : Sl enc_ w EA en ec es) (hen : en ≤ 1000000) (hps : ∀ l, l ∈ ps → l.length ≤ 1000000) (lv : Int) : Calls Tryz.prog 14 #[.agg (scc c us (.slice EA en ec)).toArray, .int .i64 lv] w (RightR w (rightN c ps es lv)) := by
  cases hm : mayB c with
  | false => exact rright_no c ps es hm lv
  | true => exact rright_yes hP hE hen hps hm lv
end Go.Proofs.YtjjgngccgjpnaaaGreatDoor
