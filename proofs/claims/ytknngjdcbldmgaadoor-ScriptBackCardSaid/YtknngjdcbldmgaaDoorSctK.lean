/- The law ScriptBack. -/
import Derived.Test.YtknngjdcbldmgaaDoorSctPM
namespace Go.Proofs.YtknngjdcbldmgaaDoor
set_option linter.unusedVariables false
set_option linter.unusedSimpArgs false
open Go.RowKit
theorem byte_num (s : Nat) (x : Int) : By (num s x) := fun y hy => by
  obtain ⟨i, _, rfl⟩ := List.mem_map.1 hy
  omega
theorem By.app {a b : List Int} (ha : By a) (hb : By b) : By (a ++ b) := fun x hx => (List.mem_append.1 hx).elim (ha x) (hb x)
theorem By.flat {α : Type} {f : α → List Int} (h : ∀ a, By (f a)) (l : List α) : By (l.flatMap f) := fun x hx => by
  obtain ⟨a, _, h2⟩ := List.mem_flatMap.1 hx
  exact h a x h2
theorem by_callW (x : CV) : By (callW x) := (By.flat (fun _ => byte_num _ _) _).app (By.flat (fun _ => byte_num _ _) _)
theorem by_progW (l : List CV) : By (progW l) := (By.flat (fun _ => byte_num _ _) _).app (By.flat by_callW _)
theorem by_scriptW (c : Cf) (ps : List (List CV)) (es : List En) : By (scriptW c ps es) := by
  unfold scriptW confW
  refine By.app ((By.flat (fun _ => byte_num _ _) _).app (By.app (By.flat (fun _ => byte_num _ _) _) ((By.flat (fun _ => byte_num _ _) _).app ((By.flat (fun _ => byte_num _ _) _).app (By.flat (fun _ => byte_num _ _) _))))) (By.app (By.flat (fun _ => by_progW _) _) (By.flat (fun _ => byte_num _ _) _))
theorem progsW_len60 {ps : List (List CV)} (h : ∀ j, (ps.getD j []).length ≤ 60) : ∀ k, (progsW ps k).length ≤ k * 2101
  | 0 => by simp [progsW]
  | k + 1 => by
    have e : progsW ps (k + 1) = progsW ps k ++ progW (ps.getD k []) := by
      unfold progsW
      rw [List.range_succ, List.flatMap_append, List.flatMap_cons, List.flatMap_nil, List.append_nil]
    have := progsW_len60 h k
    have := h k
    rw [e, List.length_append, progW_len]
    omega
theorem scriptW_len60 {c : Cf} {ps : List (List CV)} {es : List En} (h : ∀ l, l ∈ ps → l.length ≤ 60) (he : es.length ≤ 2000) (ht : c.th.toNat ≤ 8) : (scriptW c ps es).length ≤ 900000 := by
  have h1 := progsW_len60 (ps := ps) (fun j => by
    by_cases hj : j < ps.length
    · rw [List.getD_eq_getElem?_getD, List.getElem?_eq_getElem hj]; exact h _ (List.getElem_mem hj)
    · rw [List.getD_eq_getElem?_getD, List.getElem?_eq_none (by omega)]; exact Nat.zero_le _) c.th.toNat
  unfold scriptW
  rw [List.length_append, List.length_append, confW_len, entsW_len]
  omega
theorem b8l_map (l : List Int) : l.flatMap b8l = l.map b8 := by
  induction l with
  | nil => rfl
  | cons a t ih => rw [List.flatMap_cons, ih]; rfl
theorem sl_bytes {w : World} {B n d : Nat} {A : Option Addr} {bs : List Int} (h : w.ownsRow B 5 1 (.slice A n d) n (bs.map b8)) : Sl b8l w A n d bs := Sl.of_own b8l_len (by decide) (by rw [b8l_map]; exact h)
theorem cutP_0 {c : Cf} {lv : Int} {ps : List (List CV)} (h8 : ps.length = 8) : cutP c lv ps 0 = ps := ext8 (cutP_len _ _ _ _) h8 fun j hj => by rw [cutP_get _ _ _ _ hj, if_neg (by omega)]
theorem cutP_no {c : Cf} {lv : Int} {ps : List (List CV)} {k : Nat} (hk : k < 8) (h : ¬ ((k : Int) < c.th ∧ lv < c.of k)) : cutP c lv ps (k + 1) = cutP c lv ps k := ext8 (cutP_len _ _ _ _) (cutP_len _ _ _ _) fun j hj => by
  rw [cutP_get _ _ _ _ hj, cutP_get _ _ _ _ hj]
  by_cases hjk : j = k
  · subst hjk; rw [if_neg (fun q => h q.2), if_neg (by omega)]
  · by_cases q : j < k ∧ (j : Int) < c.th ∧ lv < c.of j
    · rw [if_pos q, if_pos ⟨by omega, q.2⟩]
    · rw [if_neg q, if_neg (fun q' => q ⟨by omega, q'.2⟩)]
theorem cutP_yes {c : Cf} {lv : Int} {ps : List (List CV)} {k : Nat} (h8 : ps.length = 8) (hk : k < 8) (h1 : (k : Int) < c.th) (h2 : lv < c.of k) : cutP c lv ps (k + 1) = (cutP c lv ps k).set k [] := ext8 (cutP_len _ _ _ _) (by rw [List.length_set, cutP_len]) fun j hj => by
  rw [cutP_get _ _ _ _ hj]
  by_cases hjk : j = k
  · subst hjk
    have e : ((cutP c lv ps j).set j []).getD j [] = [] := by rw [List.getD_eq_getElem?_getD, List.getElem?_set_self (by rw [cutP_len]; exact hj)]; rfl
    rw [e, if_pos ⟨by omega, h1, h2⟩]
  · have e : ((cutP c lv ps k).set k []).getD j [] = (cutP c lv ps k).getD j [] := by rw [List.getD_eq_getElem?_getD, List.getElem?_set_ne (fun e => hjk e.symm), ← List.getD_eq_getElem?_getD]
    rw [e, cutP_get _ _ _ _ hj]
    by_cases q : j < k ∧ (j : Int) < c.th ∧ lv < c.of j
    · rw [if_pos q, if_pos ⟨by omega, q.2⟩]
    · rw [if_neg q, if_neg (fun q' => q ⟨by omega, q'.2⟩)]
theorem cutP_lens {c : Cf} {lv : Int} {ps : List (List CV)} {k m : Nat} (h : ∀ l, l ∈ ps → l.length ≤ m) : ∀ l, l ∈ cutP c lv ps k → l.length ≤ m := fun l hl => by
  obtain ⟨j, hj, rfl⟩ := List.mem_map.1 hl
  by_cases q : j < k ∧ (j : Int) < c.th ∧ lv < c.of j
  · rw [if_pos q]; exact Nat.zero_le _
  · rw [if_neg q]
    by_cases hj : j < ps.length
    · rw [List.getD_eq_getElem?_getD, List.getElem?_eq_getElem hj]; exact h _ (List.getElem_mem hj)
    · rw [List.getD_eq_getElem?_getD, List.getElem?_eq_none (by omega)]; exact Nat.zero_le _

set_option maxHeartbeats 4000000 in
set_option maxRecDepth 100000 in
theorem scriptback_any {w : World} {c : Cf} {us : List Value} {ps : List (List CV)} {EA : Option Addr} {en ec : Nat} {es : List En} (hP : PIn (fun _ => False) w us ps) (hE : Sl enc_ w EA en ec es) (hg : GV w) (hU : ∀ l, l ∈ ps → ∀ x, x ∈ l → CVk x) {BA : Option Addr} {bn bc : Nat} {l : List Int} (hS : Sl b8l w BA bn bc l) (hb : By l) (lv : Int) : Calls Tryd.prog 6 #[.agg (scc c us (.slice EA en ec)).toArray, .slice BA bn bc, .int .i64 lv] w fun e w' => e = .returned (.bool true) ∧ Below w.heap.size w w' := by
  have h8 := hP.u8
  have hi := info_scc (c := c) (ev := .slice EA en ec) h8
  have hold0 : (#[.int .i64 0, .int .i64 0, .int .i64 0, .int .i64 0, .int .i64 0, .int .i64 0, .int .i64 0, .int .i64 0, .int .i64 0, .int .i64 0, .int .i64 0, .int .i64 0, .int .i64 0, .int .i64 0, .slice none 0 0, .slice none 0 0, .slice none 0 0, .slice none 0 0, .slice none 0 0, .slice none 0 0, .slice none 0 0, .slice none 0 0, .slice none 0 0] : Array Value).size = (scc c us (.slice EA en ec)).toArray.size := by show 23 = _; rw [List.size_toArray, scc_len h8]
  have hone0 := scc_one (c := c) hP EA en ec
  obtain ⟨a, ha⟩ : ∃ a, w.heap.size = a := ⟨_, rfl⟩
  obtain ⟨W0, hW0, B0, kb⟩ : ∃ W0, w.alloc (.cells (scc c us (.slice EA en ec)).toArray 29) = W0 ∧ Blk W0 a 29 (scc c us (.slice EA en ec)).toArray ∧ Below w.heap.size w W0 := ⟨_, rfl, by rw [← ha]; exact Blk.new _ _ _, bnew (brefl w) _⟩
  have HG := Lib.hid (hg.below kb)
  have HP := Lib.hid (hP.below kb)
  have HE := Lib.hid (hE.below kb)
  have HU := Lib.hid hU
  have HS := Lib.hid (hS.below kb)
  have HB := Lib.hid hb
  have X0 : Hid (W0.cell? ⟨a, 0, none⟩ = some (.int .i64 c.lv)) := B0.cell 0
  have X1 : Hid (W0.cell? ⟨a, 1, none⟩ = some (.int .i64 c.th)) := B0.cell 1
  have X2 : Hid (∀ k : Nat, k < 8 → W0.cell? ⟨a, 2 + k, none⟩ = some (.int .i64 (c.of k))) := fun k hk => by
    rcases (by omega : k = 0 ∨ k = 1 ∨ k = 2 ∨ k = 3 ∨ k = 4 ∨ k = 5 ∨ k = 6 ∨ k = 7) with rfl | rfl | rfl | rfl | rfl | rfl | rfl | rfl <;> exact B0.cell _
  have hgr := great_any (w := W0) (c := c) HP.out HE.out 2000
  have hlen := hS.len
  clear hP hE hU hg hS hb h8
  generalize hcs : scc c us (.slice EA en ec) = cs at *
  have HCS := Lib.hid hcs
  have HB0 := Lib.hid B0
  clear hcs
  cases hgb : greatB ps es 2000 with
  | true =>
    rw [hgb] at hgr
    clear hgb
    go_enter Tryd.func6, Tryd.ntmps6
    go_upto_region 1 with (fail)
    have tok1 : True := trivial
    go_wp2_with (first | (have _t := tok1; refine wpList_load_row (o := ⟨some 17, _, _, _, _, _⟩) rfl 29 (.tmp 3) rfl a rfl 29 _ _ _ B0 Tryd.underlying29 rfl hi ?_; clear tok1 _t) | (go_at_call 7; refine hgr.mono ?_; rintro e w1 ⟨rfl, hb1⟩) | (go_at_call 8; refine (lives18 _).mono ?_; rintro e w2 ⟨rfl, hb2⟩))
    go_ret
    exact ⟨rfl, bnext kb (bnext hb1 hb2)⟩
  | false =>
    rw [hgb] at hgr
    obtain ⟨hps, hen⟩ := great_no HP.out.p8 hgb
    clear hgb
    by_cases h5 : 5000 < bn
    · have t5 : (5000 : Int) < (bn : Int) := by omega
      go_enter Tryd.func6, Tryd.ntmps6
      go_upto_region 1 with (fail)
      have tok1 : True := trivial
      go_wp2_with (first | (have _t := tok1; refine wpList_load_row (o := ⟨some 17, _, _, _, _, _⟩) rfl 29 (.tmp 3) rfl a rfl 29 _ _ _ B0 Tryd.underlying29 rfl hi ?_; clear tok1 _t) | (go_at_call 7; refine hgr.mono ?_; rintro e w1 ⟨rfl, hb1⟩) | (go_at_call 8; refine (lives18 _).mono ?_; rintro e w2 ⟨rfl, hb2⟩))
      go_ret
      exact ⟨rfl, bnext kb (bnext hb1 hb2)⟩
    · have t5 : decide ((5000 : Int) < (bn : Int)) = false := decide_eq_false (by omega)
      have hl1 : ∀ l, l ∈ ps → l.length ≤ 1000000 := fun l hl => by have := hps l hl; omega
      have hr1 : ∀ l, l ∈ ps → l.length * 56 ≤ 140737488351232 := fun l hl => by have := hps l hl; omega
      have hn1 : en ≤ 1000000 := by have := HE.out.len; omega
      have HRS := Lib.hid (fun (W : World) (hW : Below W0.heap.size W0 W) (lv : Int) => right_any (w := W) (c := c) (HP.out.below hW) (HE.out.below hW) hn1 hl1 lv)
      have HPT0 := Lib.hid (fun (W : World) (hW : Below W0.heap.size W0 W) => sput_all (w := W) (c := c) (HP.out.below hW) (HE.out.below hW) hn1 hl1 HU.out)
      have HTB0 := Lib.hid (fun (W : World) (hW : Below W0.heap.size W0 W) => stake_any (w := W) (HS.out.below hW) HB.out (by omega))
      rw [HCS.out] at HRS HPT0
      by_cases hz : rightN c ps es (c.lv - 1) = 0
      · have HPT : Hid (∀ W, Below W0.heap.size W0 W → Calls Tryd.prog 14 #[.agg cs.toArray] W fun e w' => Below W.heap.size W w' ∧ ∃ A n d, e = .returned (.tuple #[.slice A n d, .nilIface]) ∧ w'.ownsRow W.heap.size 5 1 (.slice A n d) n ((scriptW c ps es).map b8)) := fun W hW => (HPT0.out W hW).mono fun e w' ⟨x, y⟩ => ⟨x, y.elim (fun q => q.2) (fun q => absurd hz q.1)⟩
        have m : c.May := of_decide_eq_true (rightN_iff.1 hz).may
        have hlv1 := m.l1
        have hlv2 := m.l2
        have HPW := Lib.hid (pScript_W HP.out.p8 HU.out hz)
        have HWL := Lib.hid (scriptW_len60 (c := c) (ps := ps) (es := es) hps (by omega) (by have := m.t2; omega))
        have HTN := Lib.hid (topN_all hz)
        clear HPT0 hz m hps hen h5
        cases hx : pScript l with
        | error m =>
          have hm0 := pScript_code hx
          rw [hx] at HTB0
          have HTE : Hid (∀ W, Below W0.heap.size W0 W → Calls Tryd.prog 18 #[.slice BA bn bc] W fun e w' => Below W.heap.size W w' ∧ ∃ pp : Nat, e = .returned (.tuple #[.agg (scc cf0 nil8 (.slice none 0 0)).toArray, .iface 89 (.pointer (some ⟨pp, 0, none⟩))])) := fun W hW => (HTB0.out W hW).mono fun e w' ⟨x, ev, y, z⟩ => ⟨x, z.elim (fun q => absurd q.1 hm0) (fun ⟨_, p, q, _⟩ => ⟨p, by rw [← q]; exact y⟩)⟩
          clear HTB0 hx
          go_enter Tryd.func6, Tryd.ntmps6
          go_upto_region 1 with (fail)
          have tok1 : True := trivial
          go_upto_region 3 with (first | (have _t := tok1; refine wpList_load_row (o := ⟨some 17, _, _, _, _, _⟩) rfl 29 (.tmp 3) rfl a rfl 29 _ _ _ B0 Tryd.underlying29 rfl hi ?_; clear tok1 _t) | (go_at_call 7; refine hgr.mono ?_; rintro e w1 ⟨rfl, kb1⟩))
          have C1 := HB0.out.below_ kb1
          clear B0 hgr
          have tok1 : True := trivial
          go_upto_region 5 with (first | (have _t := tok1; refine wpList_load_row (o := ⟨some 26, _, _, _, _, _⟩) rfl 29 (.tmp 3) rfl a rfl 29 _ _ _ C1 Tryd.underlying29 rfl hi ?_; clear tok1 _t) | (go_at_call 14; refine (HPT.out _ kb1).mono ?_; rintro e w2 ⟨hb2, A2, n2, d2, rfl, own2⟩))
          have kw2 := bnext kb1 hb2
          have HTK : Hid (Calls Tryd.prog 18 #[.slice A2 n2 d2] w2 fun e w' => Below w2.heap.size w2 w' ∧ ∃ us EA ec, e = .returned (.tuple #[.agg (scc c us (.slice EA es.length ec)).toArray, .nilIface]) ∧ PIn (fun b => b < w2.heap.size) w' us ps ∧ Sl enc_ w' EA es.length ec es ∧ (∀ ad, EA = some ad → w2.heap.size ≤ ad.block) ∧ (∀ l, l ∈ ps → l.length ≤ 40) ∧ es.length ≤ 60000) := by
            have h := stake_any (sl_bytes own2) (by_scriptW c ps es) HWL.out
            rw [HPW.out] at h
            exact h
          clear own2
          have tok1 : True := trivial
          have tok2 : True := trivial
          go_upto_region 6 with (first | (have _t := tok1; go_at_call 18; refine HTK.out.mono ?_; rintro e w3 ⟨hb3, us3, EA3, ec3, rfl, P3, S3, _, h43, h53⟩; have h83 := P3.u8; have hi3 := info_scc (c := c) (us := us3) (ev := .slice EA3 es.length ec3) h83; have hold3 : (#[.int .i64 0, .int .i64 0, .int .i64 0, .int .i64 0, .int .i64 0, .int .i64 0, .int .i64 0, .int .i64 0, .int .i64 0, .int .i64 0, .int .i64 0, .int .i64 0, .int .i64 0, .int .i64 0, .slice none 0 0, .slice none 0 0, .slice none 0 0, .slice none 0 0, .slice none 0 0, .slice none 0 0, .slice none 0 0, .slice none 0 0, .slice none 0 0] : Array Value).size = (scc c us3 (.slice EA3 es.length ec3)).toArray.size := (by show 23 = _; rw [List.size_toArray, scc_len h83]); have hone3 := scc_one (c := c) P3 EA3 es.length ec3; obtain ⟨cs3, hcs3⟩ : ∃ cs, scc c us3 (.slice EA3 es.length ec3) = cs := ⟨_, rfl⟩; rw [hcs3] at hi3 hold3 hone3; rw [hcs3]; have HCS3 := Lib.hid hcs3; clear hcs3; clear tok1 _t) | (have _t := tok2; refine wpList_store_row (o := ⟨none, .store 29 (.tmp 9) (.tmp 35), _, _, _, _⟩) rfl 29 (.tmp 9) (.tmp 35) rfl w3.heap.size _ rfl rfl 29 _ (Blk.new w3 _ _) hi3 hold3 hone3 ?_; clear tok2 _t))
          try simp only [Act.put]
          obtain ⟨q3, hq3⟩ : ∃ q, w3.heap.size = q := ⟨_, rfl⟩
          obtain ⟨W3, hW3, B3, k3⟩ : ∃ W, (w3.alloc (.cells #[.int .i64 0, .int .i64 0, .int .i64 0, .int .i64 0, .int .i64 0, .int .i64 0, .int .i64 0, .int .i64 0, .int .i64 0, .int .i64 0, .int .i64 0, .int .i64 0, .int .i64 0, .int .i64 0, .slice none 0 0, .slice none 0 0, .slice none 0 0, .slice none 0 0, .slice none 0 0, .slice none 0 0, .slice none 0 0, .slice none 0 0, .slice none 0 0] 29)).setRow w3.heap.size cs3.toArray = W ∧ Blk W q3 29 cs3.toArray ∧ Below w3.heap.size w3 W := by
            have kr := keeps_row (w3.alloc (.cells #[.int .i64 0, .int .i64 0, .int .i64 0, .int .i64 0, .int .i64 0, .int .i64 0, .int .i64 0, .int .i64 0, .int .i64 0, .int .i64 0, .int .i64 0, .int .i64 0, .int .i64 0, .int .i64 0, .slice none 0 0, .slice none 0 0, .slice none 0 0, .slice none 0 0, .slice none 0 0, .slice none 0 0, .slice none 0 0, .slice none 0 0, .slice none 0 0] 29)) w3.heap.size cs3.toArray
            exact ⟨_, rfl, by rw [← hq3]; exact (Blk.new w3 _ _).row _, kr.below (bnew (brefl w3) _) (by simp) (fun x e _ => by have e' : x = w3.heap.size := e; omega)⟩
          rw [hW3]
          try rw [hq3]
          have K3 := bnext kw2 (bnext hb3 k3)
          clear hW3 hq3
          have HSS := Lib.hid (fun W (hW : Below W3.heap.size W3 W) => ssame_any (c := c) (c2 := c) (((P3.weak (S' := fun _ => False) (fun _ h => h.elim)).below k3).below hW) ((S3.below k3).below hW) (HP.out.below (bnext K3 hW)) (HE.out.below (bnext K3 hW)) (by omega) hn1 hr1 hr1)
          rw [HCS3.out, HCS.out, show sameB c c ps ps es es = true from same_yes rfl rfl rfl] at HSS
          have HTP := Lib.hid (fun W (hW : Below W3.heap.size W3 W) => top_any (c := c) (HP.out.below (bnext K3 hW)) (HE.out.below (bnext K3 hW)) hn1 hl1)
          rw [HCS.out, HTN.out] at HTP
          have B0' := HB0.out.below_ K3
          have x0 := keep_below X0.out K3
          clear HTK P3 S3 h43 h53 hb2 hb3 kw2 C1
          have hX := @Ext.cell W3
          have hzz0 := block_lt_of_cell x0
          refine wp_region_noPanic ?_
          refine wp_region_plan (fun w' => ∃ x : Ext W3, w' = x.w) [([0, 1, 2, 3, 4], 5), ([6, 7, 8, 9, 11, 12, 13, 14], 10)] [15, 16] (by kernel_rfl) (by kernel_rfl) (by kernel_rfl) (fun _ _ _ _ _ h => h) ⟨⟨_, (brefl W3).drew⟩, rfl⟩ ?_
          refine wpPlan_cons ?_
          simp only [pickOps, List.getElem?_cons_succ, List.getElem?_cons_zero, Option.elim_some]
          go_big_quiet_step (fail)
          go_big_quiet_step (fail)
          go_big_quiet_step (fail)
          refine wpQuiet_load_row_g rfl 29 (.tmp 9) rfl q3 rfl 29 _ _ (blk_ext B3) Tryd.underlying29 rfl hi3 ?_; simp only [Act.put, List.setIfInBounds_toArray, List.set_cons_succ, List.set_cons_zero]
          refine wpQuiet_load_row_g rfl 29 (.tmp 3) rfl a rfl 29 _ _ (blk_ext B0') Tryd.underlying29 rfl hi ?_; simp only [Act.put, List.setIfInBounds_toArray, List.set_cons_succ, List.set_cons_zero]
          refine wpQuiet_nil ?_
          refine planAct_some (fun K hK => ?_)
          go_simp
          refine (HSS.out _ (brefl W3).drew).mono ?_
          rintro e x1 ⟨rfl, q1⟩; have m1 := bnext ((brefl W3).drew) q1
          go_wp2_with fail
          refine hK.out _ _ ⟨⟨_, m1⟩, rfl⟩ ?_
          clear hK K
          refine wpPlan_cons ?_
          simp only [pickOps, List.getElem?_cons_succ, List.getElem?_cons_zero, Option.elim_some]
          go_big_quiet_step (fail)
          go_big_quiet_step (fail)
          go_big_quiet_step (fail)
          refine wpQuiet_load_row_g rfl 29 (.tmp 3) rfl a rfl 29 _ _ (blk_ext B0') Tryd.underlying29 rfl hi ?_; simp only [Act.put, List.setIfInBounds_toArray, List.set_cons_succ, List.set_cons_zero]
          go_big_quiet_step (fail)
          go_big_quiet_step (fail)
          go_big_quiet_step (fail)
          go_big_quiet_step (fail)
          refine wpQuiet_nil ?_
          refine planAct_some (fun K hK => ?_)
          go_simp
          refine (HTP.out _ m1).mono ?_
          rintro e x2 ⟨rfl, q2⟩; have m2 := bnext m1 q2
          go_wp2_with fail
          refine hK.out _ _ ⟨⟨_, m2⟩, rfl⟩ ?_
          clear hK K
          refine wpPlan_last ?_
          simp only [pickOps, List.getElem?_cons_succ, List.getElem?_cons_zero, Option.elim_some]
          repeat (go_big_quiet_step (fail))
          refine wpQuiet_nil ?_
          refine NoPanic.normal ?_
          clear hX hzz0
          go_upto_region 8 with (fail)
          have K2 := bnext K3 m2
          clear HSS HTP B0' x0 q1 q2 m1 m2 K3 B3 k3
          have HTB := Lib.hid (HTE.out _ K2)
          have tok1 : True := trivial
          have tok2 : True := trivial
          go_upto_region 13 with (first | (have _t := tok1; go_at_call 18; refine HTB.out.mono ?_; rintro e w4 ⟨hb4, pp, rfl⟩; clear tok1 _t) | (have _t := tok2; refine wpList_store_row (o := ⟨none, .store 29 (.tmp 11) (.tmp 57), _, _, _, _⟩) rfl 29 (.tmp 11) (.tmp 57) rfl w4.heap.size _ rfl rfl 29 _ (Blk.new w4 _ _) (by kernel_rfl) (by simp [scc, cfc, nil8]) (by simp [Value.oneCell', scc, cfc, nil8, cf0]) ?_; clear tok2 _t))
          obtain ⟨W5, hW5, k4⟩ : ∃ W, (w4.alloc (.cells #[.int .i64 0, .int .i64 0, .int .i64 0, .int .i64 0, .int .i64 0, .int .i64 0, .int .i64 0, .int .i64 0, .int .i64 0, .int .i64 0, .int .i64 0, .int .i64 0, .int .i64 0, .int .i64 0, .slice none 0 0, .slice none 0 0, .slice none 0 0, .slice none 0 0, .slice none 0 0, .slice none 0 0, .slice none 0 0, .slice none 0 0, .slice none 0 0] 29)).setRow w4.heap.size (scc cf0 nil8 (.slice none 0 0)).toArray = W ∧ Below w4.heap.size w4 W := by
            have kr := keeps_row (w4.alloc (.cells #[.int .i64 0, .int .i64 0, .int .i64 0, .int .i64 0, .int .i64 0, .int .i64 0, .int .i64 0, .int .i64 0, .int .i64 0, .int .i64 0, .int .i64 0, .int .i64 0, .int .i64 0, .int .i64 0, .slice none 0 0, .slice none 0 0, .slice none 0 0, .slice none 0 0, .slice none 0 0, .slice none 0 0, .slice none 0 0, .slice none 0 0, .slice none 0 0] 29)) w4.heap.size (scc cf0 nil8 (.slice none 0 0)).toArray
            exact ⟨_, rfl, kr.below (bnew (brefl w4) _) (by simp) (fun x e _ => by have e' : x = w4.heap.size := e; omega)⟩
          rw [hW5]
          have K5 := bnext K2 (bnext hb4 k4)
          clear hW5 hb4 k4 K2 HTB
          by_cases hl0 : lv < 0
          · go_wp2_with (go_at_call 8; refine (lives18 _).mono ?_; rintro e w7 ⟨rfl, hb7⟩)
            go_ret
            exact ⟨rfl, bnext kb (bnext K5 hb7)⟩
          have t0 : decide (lv < 0) = false := decide_eq_false hl0
          by_cases hl3 : 3 < lv
          · go_wp2_with (go_at_call 8; refine (lives18 _).mono ?_; rintro e w7 ⟨rfl, hb7⟩)
            go_ret
            exact ⟨rfl, bnext kb (bnext K5 hb7)⟩
          have t3 : decide (3 < lv) = false := decide_eq_false hl3
          have hl0' : 0 ≤ lv := by omega
          have hl3' : lv ≤ 3 := by omega
          clear hl0 hl3
          have C5 := HB0.out.below_ K5
          have tok1 : True := trivial
          have tok2 : True := trivial
          go_upto_region 16 with (first | (have _t := tok1; refine wpList_load_row (o := ⟨some 91, _, _, _, _, _⟩) rfl 29 (.tmp 3) rfl a rfl 29 _ _ _ C5 Tryd.underlying29 rfl hi ?_; clear tok1 _t) | (have _t := tok2; refine wpList_store_row (o := ⟨none, .store 29 (.tmp 15) (.tmp 91), _, _, _, _⟩) rfl 29 (.tmp 15) (.tmp 91) rfl W5.heap.size _ rfl rfl 29 _ (Blk.new W5 _ _) hi hold0 hone0 ?_; clear tok2 _t))
          try simp only [Act.put]
          obtain ⟨q7, hq7⟩ : ∃ q, W5.heap.size = q := ⟨_, rfl⟩
          obtain ⟨W7, hW7, B7, k7⟩ : ∃ W, (W5.alloc (.cells #[.int .i64 0, .int .i64 0, .int .i64 0, .int .i64 0, .int .i64 0, .int .i64 0, .int .i64 0, .int .i64 0, .int .i64 0, .int .i64 0, .int .i64 0, .int .i64 0, .int .i64 0, .int .i64 0, .slice none 0 0, .slice none 0 0, .slice none 0 0, .slice none 0 0, .slice none 0 0, .slice none 0 0, .slice none 0 0, .slice none 0 0, .slice none 0 0] 29)).setRow W5.heap.size cs.toArray = W ∧ Blk W q7 29 cs.toArray ∧ Below W5.heap.size W5 W := by
            have kr := keeps_row (W5.alloc (.cells #[.int .i64 0, .int .i64 0, .int .i64 0, .int .i64 0, .int .i64 0, .int .i64 0, .int .i64 0, .int .i64 0, .int .i64 0, .int .i64 0, .int .i64 0, .int .i64 0, .int .i64 0, .int .i64 0, .slice none 0 0, .slice none 0 0, .slice none 0 0, .slice none 0 0, .slice none 0 0, .slice none 0 0, .slice none 0 0, .slice none 0 0, .slice none 0 0] 29)) W5.heap.size cs.toArray
            exact ⟨_, rfl, by rw [← hq7]; exact (Blk.new W5 _ _).row _, kr.below (bnew (brefl W5) _) (by simp) (fun x e _ => by have e' : x = W5.heap.size := e; omega)⟩
          rw [hW7]
          try rw [hq7]
          have K7 := bnext K5 k7
          have hz7 : W0.heap.size ≤ q7 := by rw [← hq7]; exact K5.size
          clear hW7 hq7 k7 K5 C5
          rw [← HCS.out] at B7
          have HB7 := Lib.hid B7
          clear B7
          go_wp2_with fail
          go_loopg [16] 8 (fun gk s16 wr => ∃ (k : Nat) (us9 : List Value), k + gk = 8 ∧ s16 = .int .i64 k ∧ Blk wr q7 29 (scc c us9 (.slice EA en ec)).toArray ∧ PIn (fun _ => False) W0 us9 (cutP c lv ps k) ∧ Below W0.heap.size W0 wr)
          case atStart => exact ⟨0, us, by omega, rfl, HB7.out, by rw [cutP_0 HP.out.p8]; exact HP.out, K7⟩
          case round =>
            clear HB7 K7
            obtain ⟨k, us9, hk, rfl, B9, P9, K9⟩ := hrel
            have x1 := keep_below X1.out K9
            by_cases hlt : k < 8
            · have k0 : (0 : Int) ≤ (k : Int) := by omega
              have k8 : (k : Int) < 8 := by omega
              have x2 := keep_below (X2.out k hlt) K9
              have xz := block_lt_of_cell x1
              have hu9 := P9.u8
              have j2 : (k : Int).toNat = k := by omega
              by_cases hth : (k : Int) < c.th
              · by_cases hof : lv < c.of k
                · have hst : cutP c lv ps (k + 1) = (cutP c lv ps k).set k [] := cutP_yes HP.out.p8 hlt hth hof
                  have y9 : ∃ v, (scc c us9 (.slice EA en ec)).toArray[14 + k]? = some v := ⟨us9[k]'(by omega), by rw [List.getElem?_toArray]; exact scc_get (List.getElem?_eq_getElem _)⟩
                  obtain ⟨v9, hv9⟩ := y9
                  have y9 := (B9.cell (14 + k)).trans hv9
                  have f9 := B9.frozen (14 + k)
                  have z9 := B9.lt
                  go_wp2_with fail
                  go_roundg (gk - 1)
                  case measure => omega
                  case rel =>
                    have D9 := B9.set_ (14 + k) (.slice none 0 0)
                    rw [List.setIfInBounds_toArray, scc_set (by omega)] at D9
                    exact ⟨k + 1, _, by omega, by go_num, D9, by rw [hst]; exact P9.setP (xs := []) ⟨rfl, Nat.le_refl _, Rd.nil _ _, fun _ => ⟨rfl, rfl⟩⟩ (fun ad e => by cases e), bset K9 (by show _ ≤ q7; omega) _⟩
                · have tof : decide (lv < c.of k) = false := decide_eq_false hof
                  have hst : cutP c lv ps (k + 1) = cutP c lv ps k := cutP_no hlt (by omega)
                  go_wp2_with fail
                  go_roundg (gk - 1)
                  case measure => omega
                  case rel => exact ⟨k + 1, us9, by omega, by go_num, B9, by rw [hst]; exact P9, K9⟩
              · have tth : decide ((k : Int) < c.th) = false := decide_eq_false hth
                have hst : cutP c lv ps (k + 1) = cutP c lv ps k := cutP_no hlt (by omega)
                go_wp2_with fail
                go_roundg (gk - 1)
                case measure => omega
                case rel => exact ⟨k + 1, us9, by omega, by go_num, B9, by rw [hst]; exact P9, K9⟩
            · obtain rfl : k = 8 := by omega
              have hu9 := P9.u8
              have hi9 := info_scc (c := c) (us := us9) (ev := .slice EA en ec) hu9
              have HR1 := Lib.hid (fun W (hW : Below W0.heap.size W0 W) => right_any (w := W) (c := c) (P9.below hW) (HE.out.below hW) hn1 (cutP_lens hl1) lv)
              obtain ⟨cs9, hcs9⟩ : ∃ cs, scc c us9 (.slice EA en ec) = cs := ⟨_, rfl⟩
              rw [hcs9] at HR1 B9 hi9
              rw [right_cut] at HR1
              clear hcs9 P9 x1 hu9
              go_upto_region 21 with (fail)
              have B0' := HB0.out.below_ K9
              have hX := @Ext.cell wr
              refine wp_region_noPanic ?_
              refine wp_region_plan (fun w' => ∃ x : Ext wr, w' = x.w) [([0, 1, 4, 5], 2), ([], 3), ([], 6), ([], 7)] [8] (by kernel_rfl) (by kernel_rfl) (by kernel_rfl) (fun _ _ _ _ _ h => h) ⟨⟨_, (brefl wr).drew⟩, rfl⟩ ?_
              refine wpPlan_cons ?_
              simp only [pickOps, List.getElem?_cons_succ, List.getElem?_cons_zero, Option.elim_some]
              refine wpQuiet_load_row rfl 29 (.tmp 15) rfl q7 rfl 29 _ _ (blk_ext B9) Tryd.underlying29 rfl hi9 ?_; simp only [Act.put, List.setIfInBounds_toArray, List.set_cons_succ, List.set_cons_zero]
              go_big_quiet_step (fail)
              refine wpQuiet_load_row rfl 29 (.tmp 3) rfl a rfl 29 _ _ (blk_ext B0') Tryd.underlying29 rfl hi ?_; simp only [Act.put, List.setIfInBounds_toArray, List.set_cons_succ, List.set_cons_zero]
              go_big_quiet_step (fail)
              refine wpQuiet_nil ?_
              refine planAct_some (fun K hK => ?_)
              go_simp
              refine (HR1.out _ (bnext K9 (brefl wr).drew)).mono ?_
              rintro e y1 ⟨va, rfl, hea, q1⟩; have m1 := bnext ((brefl wr).drew) q1
              go_wp2_with fail
              refine hK.out _ _ ⟨⟨_, m1⟩, rfl⟩ ?_
              clear hK K
              refine wpPlan_cons ?_
              simp only [pickOps, List.getElem?_cons_succ, List.getElem?_cons_zero, Option.elim_some]
              repeat (go_big_quiet_step (fail))
              refine wpQuiet_nil ?_
              refine planAct_some (fun K hK => ?_)
              go_simp
              refine (code_any hea (HG.out.below (bnext K9 m1))).mono ?_
              rintro e y2 ⟨rfl, q2⟩; have m2 := bnext m1 q2
              go_wp2_with fail
              refine hK.out _ _ ⟨⟨_, m2⟩, rfl⟩ ?_
              clear hK K
              refine wpPlan_cons ?_
              simp only [pickOps, List.getElem?_cons_succ, List.getElem?_cons_zero, Option.elim_some]
              repeat (go_big_quiet_step (fail))
              refine wpQuiet_nil ?_
              refine planAct_some (fun K hK => ?_)
              go_simp
              refine (HRS.out _ (bnext K9 m2) lv).mono ?_
              rintro e y3 ⟨vb, rfl, heb, q3⟩; have m3 := bnext m2 q3
              go_wp2_with fail
              refine hK.out _ _ ⟨⟨_, m3⟩, rfl⟩ ?_
              clear hK K
              refine wpPlan_cons ?_
              simp only [pickOps, List.getElem?_cons_succ, List.getElem?_cons_zero, Option.elim_some]
              repeat (go_big_quiet_step (fail))
              refine wpQuiet_nil ?_
              refine planAct_some (fun K hK => ?_)
              go_simp
              refine (code_any heb (HG.out.below (bnext K9 m3))).mono ?_
              rintro e y4 ⟨rfl, q4⟩; have m4 := bnext m3 q4
              go_wp2_with fail
              refine hK.out _ _ ⟨⟨_, m4⟩, rfl⟩ ?_
              clear hK K
              refine wpPlan_last ?_
              simp only [pickOps, List.getElem?_cons_succ, List.getElem?_cons_zero, Option.elim_some]
              repeat (go_big_quiet_step (fail))
              refine wpQuiet_nil ?_
              refine NoPanic.normal ?_
              clear hX
              have K10 := bnext K9 m4
              clear hea heb m1 m2 m3 m4 q1 q2 q3 q4 HR1 B9 K9 B0'
              have B0' := HB0.out.below_ K10
              by_cases hn0 : rightN c ps es lv = 0
              · have hn9 : rightN c ps es (lv - 1) = 0 := right_down hn0 (by omega)
                have HR5 := Lib.hid (fun W (hW : Below y4.heap.size y4 W) => HRS.out W (bnext K10 hW) lv)
                rw [hn0] at HR5
                have HR6 := Lib.hid (fun W (hW : Below y4.heap.size y4 W) => HRS.out W (bnext K10 hW) (lv - 1))
                rw [hn9] at HR6
                clear hn0 hn9
                have tok1 : True := trivial
                have tok2 : True := trivial
                have tok3 : True := trivial
                go_wp2_with (first | (have _t := tok1; refine wpList_load_row (o := ⟨some 122, _, _, _, _, _⟩) rfl 29 (.tmp 3) rfl a rfl 29 _ _ _ B0' Tryd.underlying29 rfl hi ?_; clear tok1 _t) | (have _t := tok3; go_at_call 9; refine (HR5.out _ (brefl y4)).mono ?_; rintro e y5 ⟨v5, rfl, he5, hb5⟩; obtain rfl : v5 = .nilIface := he5.elim (fun q => q.2) (fun q => absurd rfl q.1); have B5' := B0'.below_ hb5; clear tok3 _t) | (have _t := tok2; refine wpList_load_row_g (o := ⟨some 127, _, _, _, _, _⟩) rfl 29 (.tmp 3) rfl a rfl 29 _ _ _ B5' Tryd.underlying29 rfl hi ?_; clear tok2 _t) | (go_at_call 9; refine (HR6.out _ hb5).mono ?_; rintro e y6 ⟨v6, rfl, he6, hb6⟩; obtain rfl : v6 = .nilIface := he6.elim (fun q => q.2) (fun q => absurd rfl q.1)) | (go_at_call 8; refine (lives18 _).mono ?_; rintro e y7 ⟨rfl, hb7⟩))
                go_ret
                exact ⟨rfl, bnext kb (bnext K10 (bnext hb5 (bnext hb6 hb7)))⟩
              · have HR5 := Lib.hid (fun W (hW : Below y4.heap.size y4 W) => HRS.out W (bnext K10 hW) lv)
                generalize rightN c ps es lv = n9 at HR5 hn0
                skip
                have tok1 : True := trivial
                have tok2 : True := trivial
                have tok3 : True := trivial
                go_wp2_with (first | (have _t := tok1; refine wpList_load_row (o := ⟨some 122, _, _, _, _, _⟩) rfl 29 (.tmp 3) rfl a rfl 29 _ _ _ B0' Tryd.underlying29 rfl hi ?_; clear tok1 _t) | (go_at_call 9; refine (HR5.out _ (brefl y4)).mono ?_; rintro e y5 ⟨v5, rfl, he5, hb5⟩; obtain ⟨pp5, rfl⟩ : ∃ pp : Nat, v5 = .iface 89 (.pointer (some ⟨pp, 0, none⟩)) := he5.elim (fun q => absurd q.1 hn0) (fun q => q.2.imp fun _ h => h.1)) | (go_at_call 8; refine (lives18 _).mono ?_; rintro e y7 ⟨rfl, hb7⟩))
                go_ret
                exact ⟨rfl, bnext kb (bnext K10 (bnext hb5 hb7))⟩
        | ok s =>
          have hsl := pScript_L HB.out hx
          obtain ⟨r1, r2, r3, r4, r5, r6⟩ := hsl
          have HSR := Lib.hid r1
          have HSW := Lib.hid r2
          have HSK := Lib.hid r4
          have HBN : Hid (0 < bn) := by
            have : 16 ≤ l.length := by
              by_cases q : l.length < 16
              · rw [pScript, if_pos q] at hx; cases hx
              · omega
            show 0 < bn
            omega
          rw [hx] at HTB0
          have HTO : Hid (∀ W, Below W0.heap.size W0 W → Calls Tryd.prog 18 #[.slice BA bn bc] W fun e w' => Below W.heap.size W w' ∧ ∃ us EA ec, e = .returned (.tuple #[.agg (scc s.c us (.slice EA s.es.length ec)).toArray, .nilIface]) ∧ PIn (fun b => b < W.heap.size) w' us s.ps ∧ Sl enc_ w' EA s.es.length ec s.es ∧ (∀ ad, EA = some ad → W.heap.size ≤ ad.block) ∧ (∀ l, l ∈ s.ps → l.length ≤ 40) ∧ s.es.length ≤ 60000) := fun W hW => HTB0.out W hW
          have hsm : s.c.May := of_decide_eq_true (rightN_iff.1 r1).may
          have hslv1 := hsm.l1
          have hslv2 := hsm.l2
          clear HTB0 hx r1 r2 r3 r4 r5 r6 hsm
          go_enter Tryd.func6, Tryd.ntmps6
          go_upto_region 1 with (fail)
          have tok1 : True := trivial
          go_upto_region 3 with (first | (have _t := tok1; refine wpList_load_row (o := ⟨some 17, _, _, _, _, _⟩) rfl 29 (.tmp 3) rfl a rfl 29 _ _ _ B0 Tryd.underlying29 rfl hi ?_; clear tok1 _t) | (go_at_call 7; refine hgr.mono ?_; rintro e w1 ⟨rfl, kb1⟩))
          have C1 := HB0.out.below_ kb1
          clear B0 hgr
          have tok1 : True := trivial
          go_upto_region 5 with (first | (have _t := tok1; refine wpList_load_row (o := ⟨some 26, _, _, _, _, _⟩) rfl 29 (.tmp 3) rfl a rfl 29 _ _ _ C1 Tryd.underlying29 rfl hi ?_; clear tok1 _t) | (go_at_call 14; refine (HPT.out _ kb1).mono ?_; rintro e w2 ⟨hb2, A2, n2, d2, rfl, own2⟩))
          have kw2 := bnext kb1 hb2
          have HTK : Hid (Calls Tryd.prog 18 #[.slice A2 n2 d2] w2 fun e w' => Below w2.heap.size w2 w' ∧ ∃ us EA ec, e = .returned (.tuple #[.agg (scc c us (.slice EA es.length ec)).toArray, .nilIface]) ∧ PIn (fun b => b < w2.heap.size) w' us ps ∧ Sl enc_ w' EA es.length ec es ∧ (∀ ad, EA = some ad → w2.heap.size ≤ ad.block) ∧ (∀ l, l ∈ ps → l.length ≤ 40) ∧ es.length ≤ 60000) := by
            have h := stake_any (sl_bytes own2) (by_scriptW c ps es) HWL.out
            rw [HPW.out] at h
            exact h
          clear own2
          have tok1 : True := trivial
          have tok2 : True := trivial
          go_upto_region 6 with (first | (have _t := tok1; go_at_call 18; refine HTK.out.mono ?_; rintro e w3 ⟨hb3, us3, EA3, ec3, rfl, P3, S3, _, h43, h53⟩; have h83 := P3.u8; have hi3 := info_scc (c := c) (us := us3) (ev := .slice EA3 es.length ec3) h83; have hold3 : (#[.int .i64 0, .int .i64 0, .int .i64 0, .int .i64 0, .int .i64 0, .int .i64 0, .int .i64 0, .int .i64 0, .int .i64 0, .int .i64 0, .int .i64 0, .int .i64 0, .int .i64 0, .int .i64 0, .slice none 0 0, .slice none 0 0, .slice none 0 0, .slice none 0 0, .slice none 0 0, .slice none 0 0, .slice none 0 0, .slice none 0 0, .slice none 0 0] : Array Value).size = (scc c us3 (.slice EA3 es.length ec3)).toArray.size := (by show 23 = _; rw [List.size_toArray, scc_len h83]); have hone3 := scc_one (c := c) P3 EA3 es.length ec3; obtain ⟨cs3, hcs3⟩ : ∃ cs, scc c us3 (.slice EA3 es.length ec3) = cs := ⟨_, rfl⟩; rw [hcs3] at hi3 hold3 hone3; rw [hcs3]; have HCS3 := Lib.hid hcs3; clear hcs3; clear tok1 _t) | (have _t := tok2; refine wpList_store_row (o := ⟨none, .store 29 (.tmp 9) (.tmp 35), _, _, _, _⟩) rfl 29 (.tmp 9) (.tmp 35) rfl w3.heap.size _ rfl rfl 29 _ (Blk.new w3 _ _) hi3 hold3 hone3 ?_; clear tok2 _t))
          try simp only [Act.put]
          obtain ⟨q3, hq3⟩ : ∃ q, w3.heap.size = q := ⟨_, rfl⟩
          obtain ⟨W3, hW3, B3, k3⟩ : ∃ W, (w3.alloc (.cells #[.int .i64 0, .int .i64 0, .int .i64 0, .int .i64 0, .int .i64 0, .int .i64 0, .int .i64 0, .int .i64 0, .int .i64 0, .int .i64 0, .int .i64 0, .int .i64 0, .int .i64 0, .int .i64 0, .slice none 0 0, .slice none 0 0, .slice none 0 0, .slice none 0 0, .slice none 0 0, .slice none 0 0, .slice none 0 0, .slice none 0 0, .slice none 0 0] 29)).setRow w3.heap.size cs3.toArray = W ∧ Blk W q3 29 cs3.toArray ∧ Below w3.heap.size w3 W := by
            have kr := keeps_row (w3.alloc (.cells #[.int .i64 0, .int .i64 0, .int .i64 0, .int .i64 0, .int .i64 0, .int .i64 0, .int .i64 0, .int .i64 0, .int .i64 0, .int .i64 0, .int .i64 0, .int .i64 0, .int .i64 0, .int .i64 0, .slice none 0 0, .slice none 0 0, .slice none 0 0, .slice none 0 0, .slice none 0 0, .slice none 0 0, .slice none 0 0, .slice none 0 0, .slice none 0 0] 29)) w3.heap.size cs3.toArray
            exact ⟨_, rfl, by rw [← hq3]; exact (Blk.new w3 _ _).row _, kr.below (bnew (brefl w3) _) (by simp) (fun x e _ => by have e' : x = w3.heap.size := e; omega)⟩
          rw [hW3]
          try rw [hq3]
          have K3 := bnext kw2 (bnext hb3 k3)
          clear hW3 hq3
          have HSS := Lib.hid (fun W (hW : Below W3.heap.size W3 W) => ssame_any (c := c) (c2 := c) (((P3.weak (S' := fun _ => False) (fun _ h => h.elim)).below k3).below hW) ((S3.below k3).below hW) (HP.out.below (bnext K3 hW)) (HE.out.below (bnext K3 hW)) (by omega) hn1 hr1 hr1)
          rw [HCS3.out, HCS.out, show sameB c c ps ps es es = true from same_yes rfl rfl rfl] at HSS
          have HTP := Lib.hid (fun W (hW : Below W3.heap.size W3 W) => top_any (c := c) (HP.out.below (bnext K3 hW)) (HE.out.below (bnext K3 hW)) hn1 hl1)
          rw [HCS.out, HTN.out] at HTP
          have B0' := HB0.out.below_ K3
          have x0 := keep_below X0.out K3
          clear HTK P3 S3 h43 h53 hb2 hb3 kw2 C1
          have hX := @Ext.cell W3
          have hzz0 := block_lt_of_cell x0
          refine wp_region_noPanic ?_
          refine wp_region_plan (fun w' => ∃ x : Ext W3, w' = x.w) [([0, 1, 2, 3, 4], 5), ([6, 7, 8, 9, 11, 12, 13, 14], 10)] [15, 16] (by kernel_rfl) (by kernel_rfl) (by kernel_rfl) (fun _ _ _ _ _ h => h) ⟨⟨_, (brefl W3).drew⟩, rfl⟩ ?_
          refine wpPlan_cons ?_
          simp only [pickOps, List.getElem?_cons_succ, List.getElem?_cons_zero, Option.elim_some]
          go_big_quiet_step (fail)
          go_big_quiet_step (fail)
          go_big_quiet_step (fail)
          refine wpQuiet_load_row_g rfl 29 (.tmp 9) rfl q3 rfl 29 _ _ (blk_ext B3) Tryd.underlying29 rfl hi3 ?_; simp only [Act.put, List.setIfInBounds_toArray, List.set_cons_succ, List.set_cons_zero]
          refine wpQuiet_load_row_g rfl 29 (.tmp 3) rfl a rfl 29 _ _ (blk_ext B0') Tryd.underlying29 rfl hi ?_; simp only [Act.put, List.setIfInBounds_toArray, List.set_cons_succ, List.set_cons_zero]
          refine wpQuiet_nil ?_
          refine planAct_some (fun K hK => ?_)
          go_simp
          refine (HSS.out _ (brefl W3).drew).mono ?_
          rintro e x1 ⟨rfl, q1⟩; have m1 := bnext ((brefl W3).drew) q1
          go_wp2_with fail
          refine hK.out _ _ ⟨⟨_, m1⟩, rfl⟩ ?_
          clear hK K
          refine wpPlan_cons ?_
          simp only [pickOps, List.getElem?_cons_succ, List.getElem?_cons_zero, Option.elim_some]
          go_big_quiet_step (fail)
          go_big_quiet_step (fail)
          go_big_quiet_step (fail)
          refine wpQuiet_load_row_g rfl 29 (.tmp 3) rfl a rfl 29 _ _ (blk_ext B0') Tryd.underlying29 rfl hi ?_; simp only [Act.put, List.setIfInBounds_toArray, List.set_cons_succ, List.set_cons_zero]
          go_big_quiet_step (fail)
          go_big_quiet_step (fail)
          go_big_quiet_step (fail)
          go_big_quiet_step (fail)
          refine wpQuiet_nil ?_
          refine planAct_some (fun K hK => ?_)
          go_simp
          refine (HTP.out _ m1).mono ?_
          rintro e x2 ⟨rfl, q2⟩; have m2 := bnext m1 q2
          go_wp2_with fail
          refine hK.out _ _ ⟨⟨_, m2⟩, rfl⟩ ?_
          clear hK K
          refine wpPlan_last ?_
          simp only [pickOps, List.getElem?_cons_succ, List.getElem?_cons_zero, Option.elim_some]
          repeat (go_big_quiet_step (fail))
          refine wpQuiet_nil ?_
          refine NoPanic.normal ?_
          clear hX hzz0
          go_upto_region 8 with (fail)
          have K2 := bnext K3 m2
          clear HSS HTP B0' x0 q1 q2 m1 m2 K3 B3 k3
          have HTB := Lib.hid (HTO.out _ K2)
          have tok1 : True := trivial
          have tok2 : True := trivial
          go_upto_region 10 with (first | (have _t := tok1; go_at_call 18; refine HTB.out.mono ?_; rintro e w4 ⟨hb4, us4, EA4, ec4, rfl, P4', S4, _, h44, h54⟩; have P4 := P4'.weak (S' := fun _ => False) (fun _ h => h.elim); have h84 := P4.u8; have hi4 := info_scc (c := s.c) (us := us4) (ev := .slice EA4 s.es.length ec4) h84; have hold4 : (#[.int .i64 0, .int .i64 0, .int .i64 0, .int .i64 0, .int .i64 0, .int .i64 0, .int .i64 0, .int .i64 0, .int .i64 0, .int .i64 0, .int .i64 0, .int .i64 0, .int .i64 0, .int .i64 0, .slice none 0 0, .slice none 0 0, .slice none 0 0, .slice none 0 0, .slice none 0 0, .slice none 0 0, .slice none 0 0, .slice none 0 0, .slice none 0 0] : Array Value).size = (scc s.c us4 (.slice EA4 s.es.length ec4)).toArray.size := (by show 23 = _; rw [List.size_toArray, scc_len h84]); have hone4 := scc_one (c := s.c) P4 EA4 s.es.length ec4; obtain ⟨cs4, hcs4⟩ : ∃ cs, scc s.c us4 (.slice EA4 s.es.length ec4) = cs := ⟨_, rfl⟩; rw [hcs4] at hi4 hold4 hone4; rw [hcs4]; have HCS4 := Lib.hid hcs4; clear hcs4; clear tok1 _t) | (have _t := tok2; refine wpList_store_row (o := ⟨none, .store 29 (.tmp 11) (.tmp 57), _, _, _, _⟩) rfl 29 (.tmp 11) (.tmp 57) rfl w4.heap.size _ rfl rfl 29 _ (Blk.new w4 _ _) hi4 hold4 hone4 ?_; clear tok2 _t))
          try simp only [Act.put]
          obtain ⟨q4, hq4⟩ : ∃ q, w4.heap.size = q := ⟨_, rfl⟩
          obtain ⟨W4, hW4, B4, k4⟩ : ∃ W, (w4.alloc (.cells #[.int .i64 0, .int .i64 0, .int .i64 0, .int .i64 0, .int .i64 0, .int .i64 0, .int .i64 0, .int .i64 0, .int .i64 0, .int .i64 0, .int .i64 0, .int .i64 0, .int .i64 0, .int .i64 0, .slice none 0 0, .slice none 0 0, .slice none 0 0, .slice none 0 0, .slice none 0 0, .slice none 0 0, .slice none 0 0, .slice none 0 0, .slice none 0 0] 29)).setRow w4.heap.size cs4.toArray = W ∧ Blk W q4 29 cs4.toArray ∧ Below w4.heap.size w4 W := by
            have kr := keeps_row (w4.alloc (.cells #[.int .i64 0, .int .i64 0, .int .i64 0, .int .i64 0, .int .i64 0, .int .i64 0, .int .i64 0, .int .i64 0, .int .i64 0, .int .i64 0, .int .i64 0, .int .i64 0, .int .i64 0, .int .i64 0, .slice none 0 0, .slice none 0 0, .slice none 0 0, .slice none 0 0, .slice none 0 0, .slice none 0 0, .slice none 0 0, .slice none 0 0, .slice none 0 0] 29)) w4.heap.size cs4.toArray
            exact ⟨_, rfl, by rw [← hq4]; exact (Blk.new w4 _ _).row _, kr.below (bnew (brefl w4) _) (by simp) (fun x e _ => by have e' : x = w4.heap.size := e; omega)⟩
          rw [hW4]
          try rw [hq4]
          have K4 := bnext K2 (bnext hb4 k4)
          clear hW4 hq4
          have P4b := P4.below k4
          have S4b := S4.below k4
          have HPB := Lib.hid (sput_yes (w := W4) (c := s.c) P4b S4b (by omega) (fun l hl => by have := h44 l hl; omega) (fun l hl x hx => (HSK.out l hl x hx).1) HSR.out)
          have HRB := Lib.hid (fun W (hW : Below W4.heap.size W4 W) => right_any (w := W) (c := s.c) (P4b.below hW) (S4b.below hW) (by omega) (fun l hl => by have := h44 l hl; omega) (s.c.lv - 1))
          rw [HCS4.out] at HPB HRB
          rw [HSW.out] at HPB
          rw [HSR.out] at HRB
          have xl : W4.cell? ⟨q4, 0, none⟩ = some (.int .i64 s.c.lv) := B4.cell_ (by rw [← HCS4.out]; rfl)
          clear P4 P4' S4 P4b S4b h44 h54 hb4 HTB K2
          have HB4 := Lib.hid B4
          have tok1 : True := trivial
          have tok2 : True := trivial
          have tok3 : True := trivial
          go_upto_region 13 with (first | (have _t := tok1; refine wpList_load_row (o := ⟨some 62, _, _, _, _, _⟩) rfl 29 (.tmp 11) rfl q4 rfl 29 _ _ _ B4 Tryd.underlying29 rfl hi4 ?_; clear tok1 _t) | (have _t := tok2; go_at_call 14; refine HPB.out.mono ?_; rintro e w5 ⟨A5, n5, d5, rfl, hb5, own5⟩; have hcv1 := str_own own5; have hcv2 := str_sl (HS.out.below (bnext K4 hb5)) HB.out HBN.out; obtain ⟨SB, hSB⟩ : ∃ SB, strOfNums l = SB := ⟨_, rfl⟩; rw [hSB] at hcv1 hcv2; have B5 := HB4.out.below_ hb5; have xl5 := keep_below xl hb5; have xz5 := B5.lt; clear tok2 _t) | (have _t := tok3; refine wpList_load_row_g (o := ⟨some 76, _, _, _, _, _⟩) rfl 29 (.tmp 11) rfl q4 rfl 29 _ _ _ B5 Tryd.underlying29 rfl hi4 ?_; clear tok3 _t) | (go_at_call 9; refine (HRB.out _ hb5).mono ?_; rintro e w6 ⟨v6, rfl, her6, hb6⟩; obtain rfl : v6 = .nilIface := her6.elim (fun q => q.2) (fun q => absurd rfl q.1)))
          have K5 := bnext K4 (bnext hb5 hb6)
          clear hb5 hb6 own5 hcv1 hcv2 B5 xl xl5 xz5 her6 HPB HRB B4 HB4 K4 k4
          by_cases hl0 : lv < 0
          · go_wp2_with (go_at_call 8; refine (lives18 _).mono ?_; rintro e w7 ⟨rfl, hb7⟩)
            go_ret
            exact ⟨rfl, bnext kb (bnext K5 hb7)⟩
          have t0 : decide (lv < 0) = false := decide_eq_false hl0
          by_cases hl3 : 3 < lv
          · go_wp2_with (go_at_call 8; refine (lives18 _).mono ?_; rintro e w7 ⟨rfl, hb7⟩)
            go_ret
            exact ⟨rfl, bnext kb (bnext K5 hb7)⟩
          have t3 : decide (3 < lv) = false := decide_eq_false hl3
          have hl0' : 0 ≤ lv := by omega
          have hl3' : lv ≤ 3 := by omega
          clear hl0 hl3
          have C5 := HB0.out.below_ K5
          have tok1 : True := trivial
          have tok2 : True := trivial
          go_upto_region 16 with (first | (have _t := tok1; refine wpList_load_row (o := ⟨some 91, _, _, _, _, _⟩) rfl 29 (.tmp 3) rfl a rfl 29 _ _ _ C5 Tryd.underlying29 rfl hi ?_; clear tok1 _t) | (have _t := tok2; refine wpList_store_row (o := ⟨none, .store 29 (.tmp 15) (.tmp 91), _, _, _, _⟩) rfl 29 (.tmp 15) (.tmp 91) rfl w6.heap.size _ rfl rfl 29 _ (Blk.new w6 _ _) hi hold0 hone0 ?_; clear tok2 _t))
          try simp only [Act.put]
          obtain ⟨q7, hq7⟩ : ∃ q, w6.heap.size = q := ⟨_, rfl⟩
          obtain ⟨W7, hW7, B7, k7⟩ : ∃ W, (w6.alloc (.cells #[.int .i64 0, .int .i64 0, .int .i64 0, .int .i64 0, .int .i64 0, .int .i64 0, .int .i64 0, .int .i64 0, .int .i64 0, .int .i64 0, .int .i64 0, .int .i64 0, .int .i64 0, .int .i64 0, .slice none 0 0, .slice none 0 0, .slice none 0 0, .slice none 0 0, .slice none 0 0, .slice none 0 0, .slice none 0 0, .slice none 0 0, .slice none 0 0] 29)).setRow w6.heap.size cs.toArray = W ∧ Blk W q7 29 cs.toArray ∧ Below w6.heap.size w6 W := by
            have kr := keeps_row (w6.alloc (.cells #[.int .i64 0, .int .i64 0, .int .i64 0, .int .i64 0, .int .i64 0, .int .i64 0, .int .i64 0, .int .i64 0, .int .i64 0, .int .i64 0, .int .i64 0, .int .i64 0, .int .i64 0, .int .i64 0, .slice none 0 0, .slice none 0 0, .slice none 0 0, .slice none 0 0, .slice none 0 0, .slice none 0 0, .slice none 0 0, .slice none 0 0, .slice none 0 0] 29)) w6.heap.size cs.toArray
            exact ⟨_, rfl, by rw [← hq7]; exact (Blk.new w6 _ _).row _, kr.below (bnew (brefl w6) _) (by simp) (fun x e _ => by have e' : x = w6.heap.size := e; omega)⟩
          rw [hW7]
          try rw [hq7]
          have K7 := bnext K5 k7
          have hz7 : W0.heap.size ≤ q7 := by rw [← hq7]; exact K5.size
          clear hW7 hq7 k7 K5 C5
          rw [← HCS.out] at B7
          have HB7 := Lib.hid B7
          clear B7
          go_wp2_with fail
          go_loopg [16] 8 (fun gk s16 wr => ∃ (k : Nat) (us9 : List Value), k + gk = 8 ∧ s16 = .int .i64 k ∧ Blk wr q7 29 (scc c us9 (.slice EA en ec)).toArray ∧ PIn (fun _ => False) W0 us9 (cutP c lv ps k) ∧ Below W0.heap.size W0 wr)
          case atStart => exact ⟨0, us, by omega, rfl, HB7.out, by rw [cutP_0 HP.out.p8]; exact HP.out, K7⟩
          case round =>
            clear HB7 K7
            obtain ⟨k, us9, hk, rfl, B9, P9, K9⟩ := hrel
            have x1 := keep_below X1.out K9
            by_cases hlt : k < 8
            · have k0 : (0 : Int) ≤ (k : Int) := by omega
              have k8 : (k : Int) < 8 := by omega
              have x2 := keep_below (X2.out k hlt) K9
              have xz := block_lt_of_cell x1
              have hu9 := P9.u8
              have j2 : (k : Int).toNat = k := by omega
              by_cases hth : (k : Int) < c.th
              · by_cases hof : lv < c.of k
                · have hst : cutP c lv ps (k + 1) = (cutP c lv ps k).set k [] := cutP_yes HP.out.p8 hlt hth hof
                  have y9 : ∃ v, (scc c us9 (.slice EA en ec)).toArray[14 + k]? = some v := ⟨us9[k]'(by omega), by rw [List.getElem?_toArray]; exact scc_get (List.getElem?_eq_getElem _)⟩
                  obtain ⟨v9, hv9⟩ := y9
                  have y9 := (B9.cell (14 + k)).trans hv9
                  have f9 := B9.frozen (14 + k)
                  have z9 := B9.lt
                  go_wp2_with fail
                  go_roundg (gk - 1)
                  case measure => omega
                  case rel =>
                    have D9 := B9.set_ (14 + k) (.slice none 0 0)
                    rw [List.setIfInBounds_toArray, scc_set (by omega)] at D9
                    exact ⟨k + 1, _, by omega, by go_num, D9, by rw [hst]; exact P9.setP (xs := []) ⟨rfl, Nat.le_refl _, Rd.nil _ _, fun _ => ⟨rfl, rfl⟩⟩ (fun ad e => by cases e), bset K9 (by show _ ≤ q7; omega) _⟩
                · have tof : decide (lv < c.of k) = false := decide_eq_false hof
                  have hst : cutP c lv ps (k + 1) = cutP c lv ps k := cutP_no hlt (by omega)
                  go_wp2_with fail
                  go_roundg (gk - 1)
                  case measure => omega
                  case rel => exact ⟨k + 1, us9, by omega, by go_num, B9, by rw [hst]; exact P9, K9⟩
              · have tth : decide ((k : Int) < c.th) = false := decide_eq_false hth
                have hst : cutP c lv ps (k + 1) = cutP c lv ps k := cutP_no hlt (by omega)
                go_wp2_with fail
                go_roundg (gk - 1)
                case measure => omega
                case rel => exact ⟨k + 1, us9, by omega, by go_num, B9, by rw [hst]; exact P9, K9⟩
            · obtain rfl : k = 8 := by omega
              have hu9 := P9.u8
              have hi9 := info_scc (c := c) (us := us9) (ev := .slice EA en ec) hu9
              have HR1 := Lib.hid (fun W (hW : Below W0.heap.size W0 W) => right_any (w := W) (c := c) (P9.below hW) (HE.out.below hW) hn1 (cutP_lens hl1) lv)
              obtain ⟨cs9, hcs9⟩ : ∃ cs, scc c us9 (.slice EA en ec) = cs := ⟨_, rfl⟩
              rw [hcs9] at HR1 B9 hi9
              rw [right_cut] at HR1
              clear hcs9 P9 x1 hu9
              go_upto_region 21 with (fail)
              have B0' := HB0.out.below_ K9
              have hX := @Ext.cell wr
              refine wp_region_noPanic ?_
              refine wp_region_plan (fun w' => ∃ x : Ext wr, w' = x.w) [([0, 1, 4, 5], 2), ([], 3), ([], 6), ([], 7)] [8] (by kernel_rfl) (by kernel_rfl) (by kernel_rfl) (fun _ _ _ _ _ h => h) ⟨⟨_, (brefl wr).drew⟩, rfl⟩ ?_
              refine wpPlan_cons ?_
              simp only [pickOps, List.getElem?_cons_succ, List.getElem?_cons_zero, Option.elim_some]
              refine wpQuiet_load_row rfl 29 (.tmp 15) rfl q7 rfl 29 _ _ (blk_ext B9) Tryd.underlying29 rfl hi9 ?_; simp only [Act.put, List.setIfInBounds_toArray, List.set_cons_succ, List.set_cons_zero]
              go_big_quiet_step (fail)
              refine wpQuiet_load_row rfl 29 (.tmp 3) rfl a rfl 29 _ _ (blk_ext B0') Tryd.underlying29 rfl hi ?_; simp only [Act.put, List.setIfInBounds_toArray, List.set_cons_succ, List.set_cons_zero]
              go_big_quiet_step (fail)
              refine wpQuiet_nil ?_
              refine planAct_some (fun K hK => ?_)
              go_simp
              refine (HR1.out _ (bnext K9 (brefl wr).drew)).mono ?_
              rintro e y1 ⟨va, rfl, hea, q1⟩; have m1 := bnext ((brefl wr).drew) q1
              go_wp2_with fail
              refine hK.out _ _ ⟨⟨_, m1⟩, rfl⟩ ?_
              clear hK K
              refine wpPlan_cons ?_
              simp only [pickOps, List.getElem?_cons_succ, List.getElem?_cons_zero, Option.elim_some]
              repeat (go_big_quiet_step (fail))
              refine wpQuiet_nil ?_
              refine planAct_some (fun K hK => ?_)
              go_simp
              refine (code_any hea (HG.out.below (bnext K9 m1))).mono ?_
              rintro e y2 ⟨rfl, q2⟩; have m2 := bnext m1 q2
              go_wp2_with fail
              refine hK.out _ _ ⟨⟨_, m2⟩, rfl⟩ ?_
              clear hK K
              refine wpPlan_cons ?_
              simp only [pickOps, List.getElem?_cons_succ, List.getElem?_cons_zero, Option.elim_some]
              repeat (go_big_quiet_step (fail))
              refine wpQuiet_nil ?_
              refine planAct_some (fun K hK => ?_)
              go_simp
              refine (HRS.out _ (bnext K9 m2) lv).mono ?_
              rintro e y3 ⟨vb, rfl, heb, q3⟩; have m3 := bnext m2 q3
              go_wp2_with fail
              refine hK.out _ _ ⟨⟨_, m3⟩, rfl⟩ ?_
              clear hK K
              refine wpPlan_cons ?_
              simp only [pickOps, List.getElem?_cons_succ, List.getElem?_cons_zero, Option.elim_some]
              repeat (go_big_quiet_step (fail))
              refine wpQuiet_nil ?_
              refine planAct_some (fun K hK => ?_)
              go_simp
              refine (code_any heb (HG.out.below (bnext K9 m3))).mono ?_
              rintro e y4 ⟨rfl, q4⟩; have m4 := bnext m3 q4
              go_wp2_with fail
              refine hK.out _ _ ⟨⟨_, m4⟩, rfl⟩ ?_
              clear hK K
              refine wpPlan_last ?_
              simp only [pickOps, List.getElem?_cons_succ, List.getElem?_cons_zero, Option.elim_some]
              repeat (go_big_quiet_step (fail))
              refine wpQuiet_nil ?_
              refine NoPanic.normal ?_
              clear hX
              have K10 := bnext K9 m4
              clear hea heb m1 m2 m3 m4 q1 q2 q3 q4 HR1 B9 K9 B0'
              have B0' := HB0.out.below_ K10
              by_cases hn0 : rightN c ps es lv = 0
              · have hn9 : rightN c ps es (lv - 1) = 0 := right_down hn0 (by omega)
                have HR5 := Lib.hid (fun W (hW : Below y4.heap.size y4 W) => HRS.out W (bnext K10 hW) lv)
                rw [hn0] at HR5
                have HR6 := Lib.hid (fun W (hW : Below y4.heap.size y4 W) => HRS.out W (bnext K10 hW) (lv - 1))
                rw [hn9] at HR6
                clear hn0 hn9
                have tok1 : True := trivial
                have tok2 : True := trivial
                have tok3 : True := trivial
                go_wp2_with (first | (have _t := tok1; refine wpList_load_row (o := ⟨some 122, _, _, _, _, _⟩) rfl 29 (.tmp 3) rfl a rfl 29 _ _ _ B0' Tryd.underlying29 rfl hi ?_; clear tok1 _t) | (have _t := tok3; go_at_call 9; refine (HR5.out _ (brefl y4)).mono ?_; rintro e y5 ⟨v5, rfl, he5, hb5⟩; obtain rfl : v5 = .nilIface := he5.elim (fun q => q.2) (fun q => absurd rfl q.1); have B5' := B0'.below_ hb5; clear tok3 _t) | (have _t := tok2; refine wpList_load_row_g (o := ⟨some 127, _, _, _, _, _⟩) rfl 29 (.tmp 3) rfl a rfl 29 _ _ _ B5' Tryd.underlying29 rfl hi ?_; clear tok2 _t) | (go_at_call 9; refine (HR6.out _ hb5).mono ?_; rintro e y6 ⟨v6, rfl, he6, hb6⟩; obtain rfl : v6 = .nilIface := he6.elim (fun q => q.2) (fun q => absurd rfl q.1)) | (go_at_call 8; refine (lives18 _).mono ?_; rintro e y7 ⟨rfl, hb7⟩))
                go_ret
                exact ⟨rfl, bnext kb (bnext K10 (bnext hb5 (bnext hb6 hb7)))⟩
              · have HR5 := Lib.hid (fun W (hW : Below y4.heap.size y4 W) => HRS.out W (bnext K10 hW) lv)
                generalize rightN c ps es lv = n9 at HR5 hn0
                skip
                have tok1 : True := trivial
                have tok2 : True := trivial
                have tok3 : True := trivial
                go_wp2_with (first | (have _t := tok1; refine wpList_load_row (o := ⟨some 122, _, _, _, _, _⟩) rfl 29 (.tmp 3) rfl a rfl 29 _ _ _ B0' Tryd.underlying29 rfl hi ?_; clear tok1 _t) | (go_at_call 9; refine (HR5.out _ (brefl y4)).mono ?_; rintro e y5 ⟨v5, rfl, he5, hb5⟩; obtain ⟨pp5, rfl⟩ : ∃ pp : Nat, v5 = .iface 89 (.pointer (some ⟨pp, 0, none⟩)) := he5.elim (fun q => absurd q.1 hn0) (fun q => q.2.imp fun _ h => h.1)) | (go_at_call 8; refine (lives18 _).mono ?_; rintro e y7 ⟨rfl, hb7⟩))
                go_ret
                exact ⟨rfl, bnext kb (bnext K10 (bnext hb5 hb7))⟩
      · have HPT : Hid (∀ W, Below W0.heap.size W0 W → Calls Tryd.prog 14 #[.agg cs.toArray] W fun e w' => Below W.heap.size W w' ∧ ∃ p : Nat, e = .returned (.tuple #[.slice none 0 0, .iface 89 (.pointer (some ⟨p, 0, none⟩))])) := fun W hW => (HPT0.out W hW).mono fun e w' ⟨x, y⟩ => ⟨x, y.elim (fun q => absurd q.1 hz) (fun q => q.2)⟩
        clear HPT0 hz hps hen h5
        cases hx : pScript l with
        | error m =>
          have hm0 := pScript_code hx
          rw [hx] at HTB0
          have HTE : Hid (∀ W, Below W0.heap.size W0 W → Calls Tryd.prog 18 #[.slice BA bn bc] W fun e w' => Below W.heap.size W w' ∧ ∃ pp : Nat, e = .returned (.tuple #[.agg (scc cf0 nil8 (.slice none 0 0)).toArray, .iface 89 (.pointer (some ⟨pp, 0, none⟩))])) := fun W hW => (HTB0.out W hW).mono fun e w' ⟨x, ev, y, z⟩ => ⟨x, z.elim (fun q => absurd q.1 hm0) (fun ⟨_, p, q, _⟩ => ⟨p, by rw [← q]; exact y⟩)⟩
          clear HTB0 hx
          go_enter Tryd.func6, Tryd.ntmps6
          go_upto_region 1 with (fail)
          have tok1 : True := trivial
          go_upto_region 3 with (first | (have _t := tok1; refine wpList_load_row (o := ⟨some 17, _, _, _, _, _⟩) rfl 29 (.tmp 3) rfl a rfl 29 _ _ _ B0 Tryd.underlying29 rfl hi ?_; clear tok1 _t) | (go_at_call 7; refine hgr.mono ?_; rintro e w1 ⟨rfl, kb1⟩))
          have C1 := HB0.out.below_ kb1
          clear B0 hgr
          have tok1 : True := trivial
          go_upto_region 8 with (first | (have _t := tok1; refine wpList_load_row (o := ⟨some 26, _, _, _, _, _⟩) rfl 29 (.tmp 3) rfl a rfl 29 _ _ _ C1 Tryd.underlying29 rfl hi ?_; clear tok1 _t) | (go_at_call 14; refine (HPT.out _ kb1).mono ?_; rintro e w2 ⟨hb2, p9, rfl⟩))
          have K2 := bnext kb1 hb2
          clear hb2 C1
          have HTB := Lib.hid (HTE.out _ K2)
          have tok1 : True := trivial
          have tok2 : True := trivial
          go_upto_region 13 with (first | (have _t := tok1; go_at_call 18; refine HTB.out.mono ?_; rintro e w4 ⟨hb4, pp, rfl⟩; clear tok1 _t) | (have _t := tok2; refine wpList_store_row (o := ⟨none, .store 29 (.tmp 11) (.tmp 57), _, _, _, _⟩) rfl 29 (.tmp 11) (.tmp 57) rfl w4.heap.size _ rfl rfl 29 _ (Blk.new w4 _ _) (by kernel_rfl) (by simp [scc, cfc, nil8]) (by simp [Value.oneCell', scc, cfc, nil8, cf0]) ?_; clear tok2 _t))
          obtain ⟨W5, hW5, k4⟩ : ∃ W, (w4.alloc (.cells #[.int .i64 0, .int .i64 0, .int .i64 0, .int .i64 0, .int .i64 0, .int .i64 0, .int .i64 0, .int .i64 0, .int .i64 0, .int .i64 0, .int .i64 0, .int .i64 0, .int .i64 0, .int .i64 0, .slice none 0 0, .slice none 0 0, .slice none 0 0, .slice none 0 0, .slice none 0 0, .slice none 0 0, .slice none 0 0, .slice none 0 0, .slice none 0 0] 29)).setRow w4.heap.size (scc cf0 nil8 (.slice none 0 0)).toArray = W ∧ Below w4.heap.size w4 W := by
            have kr := keeps_row (w4.alloc (.cells #[.int .i64 0, .int .i64 0, .int .i64 0, .int .i64 0, .int .i64 0, .int .i64 0, .int .i64 0, .int .i64 0, .int .i64 0, .int .i64 0, .int .i64 0, .int .i64 0, .int .i64 0, .int .i64 0, .slice none 0 0, .slice none 0 0, .slice none 0 0, .slice none 0 0, .slice none 0 0, .slice none 0 0, .slice none 0 0, .slice none 0 0, .slice none 0 0] 29)) w4.heap.size (scc cf0 nil8 (.slice none 0 0)).toArray
            exact ⟨_, rfl, kr.below (bnew (brefl w4) _) (by simp) (fun x e _ => by have e' : x = w4.heap.size := e; omega)⟩
          rw [hW5]
          have K5 := bnext K2 (bnext hb4 k4)
          clear hW5 hb4 k4 K2 HTB
          by_cases hl0 : lv < 0
          · go_wp2_with (go_at_call 8; refine (lives18 _).mono ?_; rintro e w7 ⟨rfl, hb7⟩)
            go_ret
            exact ⟨rfl, bnext kb (bnext K5 hb7)⟩
          have t0 : decide (lv < 0) = false := decide_eq_false hl0
          by_cases hl3 : 3 < lv
          · go_wp2_with (go_at_call 8; refine (lives18 _).mono ?_; rintro e w7 ⟨rfl, hb7⟩)
            go_ret
            exact ⟨rfl, bnext kb (bnext K5 hb7)⟩
          have t3 : decide (3 < lv) = false := decide_eq_false hl3
          have hl0' : 0 ≤ lv := by omega
          have hl3' : lv ≤ 3 := by omega
          clear hl0 hl3
          have C5 := HB0.out.below_ K5
          have tok1 : True := trivial
          have tok2 : True := trivial
          go_upto_region 16 with (first | (have _t := tok1; refine wpList_load_row (o := ⟨some 91, _, _, _, _, _⟩) rfl 29 (.tmp 3) rfl a rfl 29 _ _ _ C5 Tryd.underlying29 rfl hi ?_; clear tok1 _t) | (have _t := tok2; refine wpList_store_row (o := ⟨none, .store 29 (.tmp 15) (.tmp 91), _, _, _, _⟩) rfl 29 (.tmp 15) (.tmp 91) rfl W5.heap.size _ rfl rfl 29 _ (Blk.new W5 _ _) hi hold0 hone0 ?_; clear tok2 _t))
          try simp only [Act.put]
          obtain ⟨q7, hq7⟩ : ∃ q, W5.heap.size = q := ⟨_, rfl⟩
          obtain ⟨W7, hW7, B7, k7⟩ : ∃ W, (W5.alloc (.cells #[.int .i64 0, .int .i64 0, .int .i64 0, .int .i64 0, .int .i64 0, .int .i64 0, .int .i64 0, .int .i64 0, .int .i64 0, .int .i64 0, .int .i64 0, .int .i64 0, .int .i64 0, .int .i64 0, .slice none 0 0, .slice none 0 0, .slice none 0 0, .slice none 0 0, .slice none 0 0, .slice none 0 0, .slice none 0 0, .slice none 0 0, .slice none 0 0] 29)).setRow W5.heap.size cs.toArray = W ∧ Blk W q7 29 cs.toArray ∧ Below W5.heap.size W5 W := by
            have kr := keeps_row (W5.alloc (.cells #[.int .i64 0, .int .i64 0, .int .i64 0, .int .i64 0, .int .i64 0, .int .i64 0, .int .i64 0, .int .i64 0, .int .i64 0, .int .i64 0, .int .i64 0, .int .i64 0, .int .i64 0, .int .i64 0, .slice none 0 0, .slice none 0 0, .slice none 0 0, .slice none 0 0, .slice none 0 0, .slice none 0 0, .slice none 0 0, .slice none 0 0, .slice none 0 0] 29)) W5.heap.size cs.toArray
            exact ⟨_, rfl, by rw [← hq7]; exact (Blk.new W5 _ _).row _, kr.below (bnew (brefl W5) _) (by simp) (fun x e _ => by have e' : x = W5.heap.size := e; omega)⟩
          rw [hW7]
          try rw [hq7]
          have K7 := bnext K5 k7
          have hz7 : W0.heap.size ≤ q7 := by rw [← hq7]; exact K5.size
          clear hW7 hq7 k7 K5 C5
          rw [← HCS.out] at B7
          have HB7 := Lib.hid B7
          clear B7
          go_wp2_with fail
          go_loopg [16] 8 (fun gk s16 wr => ∃ (k : Nat) (us9 : List Value), k + gk = 8 ∧ s16 = .int .i64 k ∧ Blk wr q7 29 (scc c us9 (.slice EA en ec)).toArray ∧ PIn (fun _ => False) W0 us9 (cutP c lv ps k) ∧ Below W0.heap.size W0 wr)
          case atStart => exact ⟨0, us, by omega, rfl, HB7.out, by rw [cutP_0 HP.out.p8]; exact HP.out, K7⟩
          case round =>
            clear HB7 K7
            obtain ⟨k, us9, hk, rfl, B9, P9, K9⟩ := hrel
            have x1 := keep_below X1.out K9
            by_cases hlt : k < 8
            · have k0 : (0 : Int) ≤ (k : Int) := by omega
              have k8 : (k : Int) < 8 := by omega
              have x2 := keep_below (X2.out k hlt) K9
              have xz := block_lt_of_cell x1
              have hu9 := P9.u8
              have j2 : (k : Int).toNat = k := by omega
              by_cases hth : (k : Int) < c.th
              · by_cases hof : lv < c.of k
                · have hst : cutP c lv ps (k + 1) = (cutP c lv ps k).set k [] := cutP_yes HP.out.p8 hlt hth hof
                  have y9 : ∃ v, (scc c us9 (.slice EA en ec)).toArray[14 + k]? = some v := ⟨us9[k]'(by omega), by rw [List.getElem?_toArray]; exact scc_get (List.getElem?_eq_getElem _)⟩
                  obtain ⟨v9, hv9⟩ := y9
                  have y9 := (B9.cell (14 + k)).trans hv9
                  have f9 := B9.frozen (14 + k)
                  have z9 := B9.lt
                  go_wp2_with fail
                  go_roundg (gk - 1)
                  case measure => omega
                  case rel =>
                    have D9 := B9.set_ (14 + k) (.slice none 0 0)
                    rw [List.setIfInBounds_toArray, scc_set (by omega)] at D9
                    exact ⟨k + 1, _, by omega, by go_num, D9, by rw [hst]; exact P9.setP (xs := []) ⟨rfl, Nat.le_refl _, Rd.nil _ _, fun _ => ⟨rfl, rfl⟩⟩ (fun ad e => by cases e), bset K9 (by show _ ≤ q7; omega) _⟩
                · have tof : decide (lv < c.of k) = false := decide_eq_false hof
                  have hst : cutP c lv ps (k + 1) = cutP c lv ps k := cutP_no hlt (by omega)
                  go_wp2_with fail
                  go_roundg (gk - 1)
                  case measure => omega
                  case rel => exact ⟨k + 1, us9, by omega, by go_num, B9, by rw [hst]; exact P9, K9⟩
              · have tth : decide ((k : Int) < c.th) = false := decide_eq_false hth
                have hst : cutP c lv ps (k + 1) = cutP c lv ps k := cutP_no hlt (by omega)
                go_wp2_with fail
                go_roundg (gk - 1)
                case measure => omega
                case rel => exact ⟨k + 1, us9, by omega, by go_num, B9, by rw [hst]; exact P9, K9⟩
            · obtain rfl : k = 8 := by omega
              have hu9 := P9.u8
              have hi9 := info_scc (c := c) (us := us9) (ev := .slice EA en ec) hu9
              have HR1 := Lib.hid (fun W (hW : Below W0.heap.size W0 W) => right_any (w := W) (c := c) (P9.below hW) (HE.out.below hW) hn1 (cutP_lens hl1) lv)
              obtain ⟨cs9, hcs9⟩ : ∃ cs, scc c us9 (.slice EA en ec) = cs := ⟨_, rfl⟩
              rw [hcs9] at HR1 B9 hi9
              rw [right_cut] at HR1
              clear hcs9 P9 x1 hu9
              go_upto_region 21 with (fail)
              have B0' := HB0.out.below_ K9
              have hX := @Ext.cell wr
              refine wp_region_noPanic ?_
              refine wp_region_plan (fun w' => ∃ x : Ext wr, w' = x.w) [([0, 1, 4, 5], 2), ([], 3), ([], 6), ([], 7)] [8] (by kernel_rfl) (by kernel_rfl) (by kernel_rfl) (fun _ _ _ _ _ h => h) ⟨⟨_, (brefl wr).drew⟩, rfl⟩ ?_
              refine wpPlan_cons ?_
              simp only [pickOps, List.getElem?_cons_succ, List.getElem?_cons_zero, Option.elim_some]
              refine wpQuiet_load_row rfl 29 (.tmp 15) rfl q7 rfl 29 _ _ (blk_ext B9) Tryd.underlying29 rfl hi9 ?_; simp only [Act.put, List.setIfInBounds_toArray, List.set_cons_succ, List.set_cons_zero]
              go_big_quiet_step (fail)
              refine wpQuiet_load_row rfl 29 (.tmp 3) rfl a rfl 29 _ _ (blk_ext B0') Tryd.underlying29 rfl hi ?_; simp only [Act.put, List.setIfInBounds_toArray, List.set_cons_succ, List.set_cons_zero]
              go_big_quiet_step (fail)
              refine wpQuiet_nil ?_
              refine planAct_some (fun K hK => ?_)
              go_simp
              refine (HR1.out _ (bnext K9 (brefl wr).drew)).mono ?_
              rintro e y1 ⟨va, rfl, hea, q1⟩; have m1 := bnext ((brefl wr).drew) q1
              go_wp2_with fail
              refine hK.out _ _ ⟨⟨_, m1⟩, rfl⟩ ?_
              clear hK K
              refine wpPlan_cons ?_
              simp only [pickOps, List.getElem?_cons_succ, List.getElem?_cons_zero, Option.elim_some]
              repeat (go_big_quiet_step (fail))
              refine wpQuiet_nil ?_
              refine planAct_some (fun K hK => ?_)
              go_simp
              refine (code_any hea (HG.out.below (bnext K9 m1))).mono ?_
              rintro e y2 ⟨rfl, q2⟩; have m2 := bnext m1 q2
              go_wp2_with fail
              refine hK.out _ _ ⟨⟨_, m2⟩, rfl⟩ ?_
              clear hK K
              refine wpPlan_cons ?_
              simp only [pickOps, List.getElem?_cons_succ, List.getElem?_cons_zero, Option.elim_some]
              repeat (go_big_quiet_step (fail))
              refine wpQuiet_nil ?_
              refine planAct_some (fun K hK => ?_)
              go_simp
              refine (HRS.out _ (bnext K9 m2) lv).mono ?_
              rintro e y3 ⟨vb, rfl, heb, q3⟩; have m3 := bnext m2 q3
              go_wp2_with fail
              refine hK.out _ _ ⟨⟨_, m3⟩, rfl⟩ ?_
              clear hK K
              refine wpPlan_cons ?_
              simp only [pickOps, List.getElem?_cons_succ, List.getElem?_cons_zero, Option.elim_some]
              repeat (go_big_quiet_step (fail))
              refine wpQuiet_nil ?_
              refine planAct_some (fun K hK => ?_)
              go_simp
              refine (code_any heb (HG.out.below (bnext K9 m3))).mono ?_
              rintro e y4 ⟨rfl, q4⟩; have m4 := bnext m3 q4
              go_wp2_with fail
              refine hK.out _ _ ⟨⟨_, m4⟩, rfl⟩ ?_
              clear hK K
              refine wpPlan_last ?_
              simp only [pickOps, List.getElem?_cons_succ, List.getElem?_cons_zero, Option.elim_some]
              repeat (go_big_quiet_step (fail))
              refine wpQuiet_nil ?_
              refine NoPanic.normal ?_
              clear hX
              have K10 := bnext K9 m4
              clear hea heb m1 m2 m3 m4 q1 q2 q3 q4 HR1 B9 K9 B0'
              have B0' := HB0.out.below_ K10
              by_cases hn0 : rightN c ps es lv = 0
              · have hn9 : rightN c ps es (lv - 1) = 0 := right_down hn0 (by omega)
                have HR5 := Lib.hid (fun W (hW : Below y4.heap.size y4 W) => HRS.out W (bnext K10 hW) lv)
                rw [hn0] at HR5
                have HR6 := Lib.hid (fun W (hW : Below y4.heap.size y4 W) => HRS.out W (bnext K10 hW) (lv - 1))
                rw [hn9] at HR6
                clear hn0 hn9
                have tok1 : True := trivial
                have tok2 : True := trivial
                have tok3 : True := trivial
                go_wp2_with (first | (have _t := tok1; refine wpList_load_row (o := ⟨some 122, _, _, _, _, _⟩) rfl 29 (.tmp 3) rfl a rfl 29 _ _ _ B0' Tryd.underlying29 rfl hi ?_; clear tok1 _t) | (have _t := tok3; go_at_call 9; refine (HR5.out _ (brefl y4)).mono ?_; rintro e y5 ⟨v5, rfl, he5, hb5⟩; obtain rfl : v5 = .nilIface := he5.elim (fun q => q.2) (fun q => absurd rfl q.1); have B5' := B0'.below_ hb5; clear tok3 _t) | (have _t := tok2; refine wpList_load_row_g (o := ⟨some 127, _, _, _, _, _⟩) rfl 29 (.tmp 3) rfl a rfl 29 _ _ _ B5' Tryd.underlying29 rfl hi ?_; clear tok2 _t) | (go_at_call 9; refine (HR6.out _ hb5).mono ?_; rintro e y6 ⟨v6, rfl, he6, hb6⟩; obtain rfl : v6 = .nilIface := he6.elim (fun q => q.2) (fun q => absurd rfl q.1)) | (go_at_call 8; refine (lives18 _).mono ?_; rintro e y7 ⟨rfl, hb7⟩))
                go_ret
                exact ⟨rfl, bnext kb (bnext K10 (bnext hb5 (bnext hb6 hb7)))⟩
              · have HR5 := Lib.hid (fun W (hW : Below y4.heap.size y4 W) => HRS.out W (bnext K10 hW) lv)
                generalize rightN c ps es lv = n9 at HR5 hn0
                skip
                have tok1 : True := trivial
                have tok2 : True := trivial
                have tok3 : True := trivial
                go_wp2_with (first | (have _t := tok1; refine wpList_load_row (o := ⟨some 122, _, _, _, _, _⟩) rfl 29 (.tmp 3) rfl a rfl 29 _ _ _ B0' Tryd.underlying29 rfl hi ?_; clear tok1 _t) | (go_at_call 9; refine (HR5.out _ (brefl y4)).mono ?_; rintro e y5 ⟨v5, rfl, he5, hb5⟩; obtain ⟨pp5, rfl⟩ : ∃ pp : Nat, v5 = .iface 89 (.pointer (some ⟨pp, 0, none⟩)) := he5.elim (fun q => absurd q.1 hn0) (fun q => q.2.imp fun _ h => h.1)) | (go_at_call 8; refine (lives18 _).mono ?_; rintro e y7 ⟨rfl, hb7⟩))
                go_ret
                exact ⟨rfl, bnext kb (bnext K10 (bnext hb5 hb7))⟩
        | ok s =>
          have hsl := pScript_L HB.out hx
          obtain ⟨r1, r2, r3, r4, r5, r6⟩ := hsl
          have HSR := Lib.hid r1
          have HSW := Lib.hid r2
          have HSK := Lib.hid r4
          have HBN : Hid (0 < bn) := by
            have : 16 ≤ l.length := by
              by_cases q : l.length < 16
              · rw [pScript, if_pos q] at hx; cases hx
              · omega
            show 0 < bn
            omega
          rw [hx] at HTB0
          have HTO : Hid (∀ W, Below W0.heap.size W0 W → Calls Tryd.prog 18 #[.slice BA bn bc] W fun e w' => Below W.heap.size W w' ∧ ∃ us EA ec, e = .returned (.tuple #[.agg (scc s.c us (.slice EA s.es.length ec)).toArray, .nilIface]) ∧ PIn (fun b => b < W.heap.size) w' us s.ps ∧ Sl enc_ w' EA s.es.length ec s.es ∧ (∀ ad, EA = some ad → W.heap.size ≤ ad.block) ∧ (∀ l, l ∈ s.ps → l.length ≤ 40) ∧ s.es.length ≤ 60000) := fun W hW => HTB0.out W hW
          have hsm : s.c.May := of_decide_eq_true (rightN_iff.1 r1).may
          have hslv1 := hsm.l1
          have hslv2 := hsm.l2
          clear HTB0 hx r1 r2 r3 r4 r5 r6 hsm
          go_enter Tryd.func6, Tryd.ntmps6
          go_upto_region 1 with (fail)
          have tok1 : True := trivial
          go_upto_region 3 with (first | (have _t := tok1; refine wpList_load_row (o := ⟨some 17, _, _, _, _, _⟩) rfl 29 (.tmp 3) rfl a rfl 29 _ _ _ B0 Tryd.underlying29 rfl hi ?_; clear tok1 _t) | (go_at_call 7; refine hgr.mono ?_; rintro e w1 ⟨rfl, kb1⟩))
          have C1 := HB0.out.below_ kb1
          clear B0 hgr
          have tok1 : True := trivial
          go_upto_region 8 with (first | (have _t := tok1; refine wpList_load_row (o := ⟨some 26, _, _, _, _, _⟩) rfl 29 (.tmp 3) rfl a rfl 29 _ _ _ C1 Tryd.underlying29 rfl hi ?_; clear tok1 _t) | (go_at_call 14; refine (HPT.out _ kb1).mono ?_; rintro e w2 ⟨hb2, p9, rfl⟩))
          have K2 := bnext kb1 hb2
          clear hb2 C1
          have HTB := Lib.hid (HTO.out _ K2)
          have tok1 : True := trivial
          have tok2 : True := trivial
          go_upto_region 10 with (first | (have _t := tok1; go_at_call 18; refine HTB.out.mono ?_; rintro e w4 ⟨hb4, us4, EA4, ec4, rfl, P4', S4, _, h44, h54⟩; have P4 := P4'.weak (S' := fun _ => False) (fun _ h => h.elim); have h84 := P4.u8; have hi4 := info_scc (c := s.c) (us := us4) (ev := .slice EA4 s.es.length ec4) h84; have hold4 : (#[.int .i64 0, .int .i64 0, .int .i64 0, .int .i64 0, .int .i64 0, .int .i64 0, .int .i64 0, .int .i64 0, .int .i64 0, .int .i64 0, .int .i64 0, .int .i64 0, .int .i64 0, .int .i64 0, .slice none 0 0, .slice none 0 0, .slice none 0 0, .slice none 0 0, .slice none 0 0, .slice none 0 0, .slice none 0 0, .slice none 0 0, .slice none 0 0] : Array Value).size = (scc s.c us4 (.slice EA4 s.es.length ec4)).toArray.size := (by show 23 = _; rw [List.size_toArray, scc_len h84]); have hone4 := scc_one (c := s.c) P4 EA4 s.es.length ec4; obtain ⟨cs4, hcs4⟩ : ∃ cs, scc s.c us4 (.slice EA4 s.es.length ec4) = cs := ⟨_, rfl⟩; rw [hcs4] at hi4 hold4 hone4; rw [hcs4]; have HCS4 := Lib.hid hcs4; clear hcs4; clear tok1 _t) | (have _t := tok2; refine wpList_store_row (o := ⟨none, .store 29 (.tmp 11) (.tmp 57), _, _, _, _⟩) rfl 29 (.tmp 11) (.tmp 57) rfl w4.heap.size _ rfl rfl 29 _ (Blk.new w4 _ _) hi4 hold4 hone4 ?_; clear tok2 _t))
          try simp only [Act.put]
          obtain ⟨q4, hq4⟩ : ∃ q, w4.heap.size = q := ⟨_, rfl⟩
          obtain ⟨W4, hW4, B4, k4⟩ : ∃ W, (w4.alloc (.cells #[.int .i64 0, .int .i64 0, .int .i64 0, .int .i64 0, .int .i64 0, .int .i64 0, .int .i64 0, .int .i64 0, .int .i64 0, .int .i64 0, .int .i64 0, .int .i64 0, .int .i64 0, .int .i64 0, .slice none 0 0, .slice none 0 0, .slice none 0 0, .slice none 0 0, .slice none 0 0, .slice none 0 0, .slice none 0 0, .slice none 0 0, .slice none 0 0] 29)).setRow w4.heap.size cs4.toArray = W ∧ Blk W q4 29 cs4.toArray ∧ Below w4.heap.size w4 W := by
            have kr := keeps_row (w4.alloc (.cells #[.int .i64 0, .int .i64 0, .int .i64 0, .int .i64 0, .int .i64 0, .int .i64 0, .int .i64 0, .int .i64 0, .int .i64 0, .int .i64 0, .int .i64 0, .int .i64 0, .int .i64 0, .int .i64 0, .slice none 0 0, .slice none 0 0, .slice none 0 0, .slice none 0 0, .slice none 0 0, .slice none 0 0, .slice none 0 0, .slice none 0 0, .slice none 0 0] 29)) w4.heap.size cs4.toArray
            exact ⟨_, rfl, by rw [← hq4]; exact (Blk.new w4 _ _).row _, kr.below (bnew (brefl w4) _) (by simp) (fun x e _ => by have e' : x = w4.heap.size := e; omega)⟩
          rw [hW4]
          try rw [hq4]
          have K4 := bnext K2 (bnext hb4 k4)
          clear hW4 hq4
          have P4b := P4.below k4
          have S4b := S4.below k4
          have HPB := Lib.hid (sput_yes (w := W4) (c := s.c) P4b S4b (by omega) (fun l hl => by have := h44 l hl; omega) (fun l hl x hx => (HSK.out l hl x hx).1) HSR.out)
          have HRB := Lib.hid (fun W (hW : Below W4.heap.size W4 W) => right_any (w := W) (c := s.c) (P4b.below hW) (S4b.below hW) (by omega) (fun l hl => by have := h44 l hl; omega) (s.c.lv - 1))
          rw [HCS4.out] at HPB HRB
          rw [HSW.out] at HPB
          rw [HSR.out] at HRB
          have xl : W4.cell? ⟨q4, 0, none⟩ = some (.int .i64 s.c.lv) := B4.cell_ (by rw [← HCS4.out]; rfl)
          clear P4 P4' S4 P4b S4b h44 h54 hb4 HTB K2
          have HB4 := Lib.hid B4
          have tok1 : True := trivial
          have tok2 : True := trivial
          have tok3 : True := trivial
          go_upto_region 13 with (first | (have _t := tok1; refine wpList_load_row (o := ⟨some 62, _, _, _, _, _⟩) rfl 29 (.tmp 11) rfl q4 rfl 29 _ _ _ B4 Tryd.underlying29 rfl hi4 ?_; clear tok1 _t) | (have _t := tok2; go_at_call 14; refine HPB.out.mono ?_; rintro e w5 ⟨A5, n5, d5, rfl, hb5, own5⟩; have hcv1 := str_own own5; have hcv2 := str_sl (HS.out.below (bnext K4 hb5)) HB.out HBN.out; obtain ⟨SB, hSB⟩ : ∃ SB, strOfNums l = SB := ⟨_, rfl⟩; rw [hSB] at hcv1 hcv2; have B5 := HB4.out.below_ hb5; have xl5 := keep_below xl hb5; have xz5 := B5.lt; clear tok2 _t) | (have _t := tok3; refine wpList_load_row_g (o := ⟨some 76, _, _, _, _, _⟩) rfl 29 (.tmp 11) rfl q4 rfl 29 _ _ _ B5 Tryd.underlying29 rfl hi4 ?_; clear tok3 _t) | (go_at_call 9; refine (HRB.out _ hb5).mono ?_; rintro e w6 ⟨v6, rfl, her6, hb6⟩; obtain rfl : v6 = .nilIface := her6.elim (fun q => q.2) (fun q => absurd rfl q.1)))
          have K5 := bnext K4 (bnext hb5 hb6)
          clear hb5 hb6 own5 hcv1 hcv2 B5 xl xl5 xz5 her6 HPB HRB B4 HB4 K4 k4
          by_cases hl0 : lv < 0
          · go_wp2_with (go_at_call 8; refine (lives18 _).mono ?_; rintro e w7 ⟨rfl, hb7⟩)
            go_ret
            exact ⟨rfl, bnext kb (bnext K5 hb7)⟩
          have t0 : decide (lv < 0) = false := decide_eq_false hl0
          by_cases hl3 : 3 < lv
          · go_wp2_with (go_at_call 8; refine (lives18 _).mono ?_; rintro e w7 ⟨rfl, hb7⟩)
            go_ret
            exact ⟨rfl, bnext kb (bnext K5 hb7)⟩
          have t3 : decide (3 < lv) = false := decide_eq_false hl3
          have hl0' : 0 ≤ lv := by omega
          have hl3' : lv ≤ 3 := by omega
          clear hl0 hl3
          have C5 := HB0.out.below_ K5
          have tok1 : True := trivial
          have tok2 : True := trivial
          go_upto_region 16 with (first | (have _t := tok1; refine wpList_load_row (o := ⟨some 91, _, _, _, _, _⟩) rfl 29 (.tmp 3) rfl a rfl 29 _ _ _ C5 Tryd.underlying29 rfl hi ?_; clear tok1 _t) | (have _t := tok2; refine wpList_store_row (o := ⟨none, .store 29 (.tmp 15) (.tmp 91), _, _, _, _⟩) rfl 29 (.tmp 15) (.tmp 91) rfl w6.heap.size _ rfl rfl 29 _ (Blk.new w6 _ _) hi hold0 hone0 ?_; clear tok2 _t))
          try simp only [Act.put]
          obtain ⟨q7, hq7⟩ : ∃ q, w6.heap.size = q := ⟨_, rfl⟩
          obtain ⟨W7, hW7, B7, k7⟩ : ∃ W, (w6.alloc (.cells #[.int .i64 0, .int .i64 0, .int .i64 0, .int .i64 0, .int .i64 0, .int .i64 0, .int .i64 0, .int .i64 0, .int .i64 0, .int .i64 0, .int .i64 0, .int .i64 0, .int .i64 0, .int .i64 0, .slice none 0 0, .slice none 0 0, .slice none 0 0, .slice none 0 0, .slice none 0 0, .slice none 0 0, .slice none 0 0, .slice none 0 0, .slice none 0 0] 29)).setRow w6.heap.size cs.toArray = W ∧ Blk W q7 29 cs.toArray ∧ Below w6.heap.size w6 W := by
            have kr := keeps_row (w6.alloc (.cells #[.int .i64 0, .int .i64 0, .int .i64 0, .int .i64 0, .int .i64 0, .int .i64 0, .int .i64 0, .int .i64 0, .int .i64 0, .int .i64 0, .int .i64 0, .int .i64 0, .int .i64 0, .int .i64 0, .slice none 0 0, .slice none 0 0, .slice none 0 0, .slice none 0 0, .slice none 0 0, .slice none 0 0, .slice none 0 0, .slice none 0 0, .slice none 0 0] 29)) w6.heap.size cs.toArray
            exact ⟨_, rfl, by rw [← hq7]; exact (Blk.new w6 _ _).row _, kr.below (bnew (brefl w6) _) (by simp) (fun x e _ => by have e' : x = w6.heap.size := e; omega)⟩
          rw [hW7]
          try rw [hq7]
          have K7 := bnext K5 k7
          have hz7 : W0.heap.size ≤ q7 := by rw [← hq7]; exact K5.size
          clear hW7 hq7 k7 K5 C5
          rw [← HCS.out] at B7
          have HB7 := Lib.hid B7
          clear B7
          go_wp2_with fail
          go_loopg [16] 8 (fun gk s16 wr => ∃ (k : Nat) (us9 : List Value), k + gk = 8 ∧ s16 = .int .i64 k ∧ Blk wr q7 29 (scc c us9 (.slice EA en ec)).toArray ∧ PIn (fun _ => False) W0 us9 (cutP c lv ps k) ∧ Below W0.heap.size W0 wr)
          case atStart => exact ⟨0, us, by omega, rfl, HB7.out, by rw [cutP_0 HP.out.p8]; exact HP.out, K7⟩
          case round =>
            clear HB7 K7
            obtain ⟨k, us9, hk, rfl, B9, P9, K9⟩ := hrel
            have x1 := keep_below X1.out K9
            by_cases hlt : k < 8
            · have k0 : (0 : Int) ≤ (k : Int) := by omega
              have k8 : (k : Int) < 8 := by omega
              have x2 := keep_below (X2.out k hlt) K9
              have xz := block_lt_of_cell x1
              have hu9 := P9.u8
              have j2 : (k : Int).toNat = k := by omega
              by_cases hth : (k : Int) < c.th
              · by_cases hof : lv < c.of k
                · have hst : cutP c lv ps (k + 1) = (cutP c lv ps k).set k [] := cutP_yes HP.out.p8 hlt hth hof
                  have y9 : ∃ v, (scc c us9 (.slice EA en ec)).toArray[14 + k]? = some v := ⟨us9[k]'(by omega), by rw [List.getElem?_toArray]; exact scc_get (List.getElem?_eq_getElem _)⟩
                  obtain ⟨v9, hv9⟩ := y9
                  have y9 := (B9.cell (14 + k)).trans hv9
                  have f9 := B9.frozen (14 + k)
                  have z9 := B9.lt
                  go_wp2_with fail
                  go_roundg (gk - 1)
                  case measure => omega
                  case rel =>
                    have D9 := B9.set_ (14 + k) (.slice none 0 0)
                    rw [List.setIfInBounds_toArray, scc_set (by omega)] at D9
                    exact ⟨k + 1, _, by omega, by go_num, D9, by rw [hst]; exact P9.setP (xs := []) ⟨rfl, Nat.le_refl _, Rd.nil _ _, fun _ => ⟨rfl, rfl⟩⟩ (fun ad e => by cases e), bset K9 (by show _ ≤ q7; omega) _⟩
                · have tof : decide (lv < c.of k) = false := decide_eq_false hof
                  have hst : cutP c lv ps (k + 1) = cutP c lv ps k := cutP_no hlt (by omega)
                  go_wp2_with fail
                  go_roundg (gk - 1)
                  case measure => omega
                  case rel => exact ⟨k + 1, us9, by omega, by go_num, B9, by rw [hst]; exact P9, K9⟩
              · have tth : decide ((k : Int) < c.th) = false := decide_eq_false hth
                have hst : cutP c lv ps (k + 1) = cutP c lv ps k := cutP_no hlt (by omega)
                go_wp2_with fail
                go_roundg (gk - 1)
                case measure => omega
                case rel => exact ⟨k + 1, us9, by omega, by go_num, B9, by rw [hst]; exact P9, K9⟩
            · obtain rfl : k = 8 := by omega
              have hu9 := P9.u8
              have hi9 := info_scc (c := c) (us := us9) (ev := .slice EA en ec) hu9
              have HR1 := Lib.hid (fun W (hW : Below W0.heap.size W0 W) => right_any (w := W) (c := c) (P9.below hW) (HE.out.below hW) hn1 (cutP_lens hl1) lv)
              obtain ⟨cs9, hcs9⟩ : ∃ cs, scc c us9 (.slice EA en ec) = cs := ⟨_, rfl⟩
              rw [hcs9] at HR1 B9 hi9
              rw [right_cut] at HR1
              clear hcs9 P9 x1 hu9
              go_upto_region 21 with (fail)
              have B0' := HB0.out.below_ K9
              have hX := @Ext.cell wr
              refine wp_region_noPanic ?_
              refine wp_region_plan (fun w' => ∃ x : Ext wr, w' = x.w) [([0, 1, 4, 5], 2), ([], 3), ([], 6), ([], 7)] [8] (by kernel_rfl) (by kernel_rfl) (by kernel_rfl) (fun _ _ _ _ _ h => h) ⟨⟨_, (brefl wr).drew⟩, rfl⟩ ?_
              refine wpPlan_cons ?_
              simp only [pickOps, List.getElem?_cons_succ, List.getElem?_cons_zero, Option.elim_some]
              refine wpQuiet_load_row rfl 29 (.tmp 15) rfl q7 rfl 29 _ _ (blk_ext B9) Tryd.underlying29 rfl hi9 ?_; simp only [Act.put, List.setIfInBounds_toArray, List.set_cons_succ, List.set_cons_zero]
              go_big_quiet_step (fail)
              refine wpQuiet_load_row rfl 29 (.tmp 3) rfl a rfl 29 _ _ (blk_ext B0') Tryd.underlying29 rfl hi ?_; simp only [Act.put, List.setIfInBounds_toArray, List.set_cons_succ, List.set_cons_zero]
              go_big_quiet_step (fail)
              refine wpQuiet_nil ?_
              refine planAct_some (fun K hK => ?_)
              go_simp
              refine (HR1.out _ (bnext K9 (brefl wr).drew)).mono ?_
              rintro e y1 ⟨va, rfl, hea, q1⟩; have m1 := bnext ((brefl wr).drew) q1
              go_wp2_with fail
              refine hK.out _ _ ⟨⟨_, m1⟩, rfl⟩ ?_
              clear hK K
              refine wpPlan_cons ?_
              simp only [pickOps, List.getElem?_cons_succ, List.getElem?_cons_zero, Option.elim_some]
              repeat (go_big_quiet_step (fail))
              refine wpQuiet_nil ?_
              refine planAct_some (fun K hK => ?_)
              go_simp
              refine (code_any hea (HG.out.below (bnext K9 m1))).mono ?_
              rintro e y2 ⟨rfl, q2⟩; have m2 := bnext m1 q2
              go_wp2_with fail
              refine hK.out _ _ ⟨⟨_, m2⟩, rfl⟩ ?_
              clear hK K
              refine wpPlan_cons ?_
              simp only [pickOps, List.getElem?_cons_succ, List.getElem?_cons_zero, Option.elim_some]
              repeat (go_big_quiet_step (fail))
              refine wpQuiet_nil ?_
              refine planAct_some (fun K hK => ?_)
              go_simp
              refine (HRS.out _ (bnext K9 m2) lv).mono ?_
              rintro e y3 ⟨vb, rfl, heb, q3⟩; have m3 := bnext m2 q3
              go_wp2_with fail
              refine hK.out _ _ ⟨⟨_, m3⟩, rfl⟩ ?_
              clear hK K
              refine wpPlan_cons ?_
              simp only [pickOps, List.getElem?_cons_succ, List.getElem?_cons_zero, Option.elim_some]
              repeat (go_big_quiet_step (fail))
              refine wpQuiet_nil ?_
              refine planAct_some (fun K hK => ?_)
              go_simp
              refine (code_any heb (HG.out.below (bnext K9 m3))).mono ?_
              rintro e y4 ⟨rfl, q4⟩; have m4 := bnext m3 q4
              go_wp2_with fail
              refine hK.out _ _ ⟨⟨_, m4⟩, rfl⟩ ?_
              clear hK K
              refine wpPlan_last ?_
              simp only [pickOps, List.getElem?_cons_succ, List.getElem?_cons_zero, Option.elim_some]
              repeat (go_big_quiet_step (fail))
              refine wpQuiet_nil ?_
              refine NoPanic.normal ?_
              clear hX
              have K10 := bnext K9 m4
              clear hea heb m1 m2 m3 m4 q1 q2 q3 q4 HR1 B9 K9 B0'
              have B0' := HB0.out.below_ K10
              by_cases hn0 : rightN c ps es lv = 0
              · have hn9 : rightN c ps es (lv - 1) = 0 := right_down hn0 (by omega)
                have HR5 := Lib.hid (fun W (hW : Below y4.heap.size y4 W) => HRS.out W (bnext K10 hW) lv)
                rw [hn0] at HR5
                have HR6 := Lib.hid (fun W (hW : Below y4.heap.size y4 W) => HRS.out W (bnext K10 hW) (lv - 1))
                rw [hn9] at HR6
                clear hn0 hn9
                have tok1 : True := trivial
                have tok2 : True := trivial
                have tok3 : True := trivial
                go_wp2_with (first | (have _t := tok1; refine wpList_load_row (o := ⟨some 122, _, _, _, _, _⟩) rfl 29 (.tmp 3) rfl a rfl 29 _ _ _ B0' Tryd.underlying29 rfl hi ?_; clear tok1 _t) | (have _t := tok3; go_at_call 9; refine (HR5.out _ (brefl y4)).mono ?_; rintro e y5 ⟨v5, rfl, he5, hb5⟩; obtain rfl : v5 = .nilIface := he5.elim (fun q => q.2) (fun q => absurd rfl q.1); have B5' := B0'.below_ hb5; clear tok3 _t) | (have _t := tok2; refine wpList_load_row_g (o := ⟨some 127, _, _, _, _, _⟩) rfl 29 (.tmp 3) rfl a rfl 29 _ _ _ B5' Tryd.underlying29 rfl hi ?_; clear tok2 _t) | (go_at_call 9; refine (HR6.out _ hb5).mono ?_; rintro e y6 ⟨v6, rfl, he6, hb6⟩; obtain rfl : v6 = .nilIface := he6.elim (fun q => q.2) (fun q => absurd rfl q.1)) | (go_at_call 8; refine (lives18 _).mono ?_; rintro e y7 ⟨rfl, hb7⟩))
                go_ret
                exact ⟨rfl, bnext kb (bnext K10 (bnext hb5 (bnext hb6 hb7)))⟩
              · have HR5 := Lib.hid (fun W (hW : Below y4.heap.size y4 W) => HRS.out W (bnext K10 hW) lv)
                generalize rightN c ps es lv = n9 at HR5 hn0
                skip
                have tok1 : True := trivial
                have tok2 : True := trivial
                have tok3 : True := trivial
                go_wp2_with (first | (have _t := tok1; refine wpList_load_row (o := ⟨some 122, _, _, _, _, _⟩) rfl 29 (.tmp 3) rfl a rfl 29 _ _ _ B0' Tryd.underlying29 rfl hi ?_; clear tok1 _t) | (go_at_call 9; refine (HR5.out _ (brefl y4)).mono ?_; rintro e y5 ⟨v5, rfl, he5, hb5⟩; obtain ⟨pp5, rfl⟩ : ∃ pp : Nat, v5 = .iface 89 (.pointer (some ⟨pp, 0, none⟩)) := he5.elim (fun q => absurd q.1 hn0) (fun q => q.2.imp fun _ h => h.1)) | (go_at_call 8; refine (lives18 _).mono ?_; rintro e y7 ⟨rfl, hb7⟩))
                go_ret
                exact ⟨rfl, bnext kb (bnext K10 (bnext hb5 hb7))⟩
end Go.Proofs.YtknngjdcbldmgaaDoor
