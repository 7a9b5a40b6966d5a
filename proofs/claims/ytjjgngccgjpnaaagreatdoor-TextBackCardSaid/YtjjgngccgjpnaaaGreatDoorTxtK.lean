/- A line of picks is taken. -/
import Derived.Test.YtjjgngccgjpnaaaGreatDoorTxtJ
namespace Go.Proofs.YtjjgngccgjpnaaaGreatDoor
set_option linter.unusedVariables false
set_option linter.unusedSimpArgs false
open Go.RowKit

def pickN (n : Int) (len : Nat) : Nat := min n.toNat (60001 - len)
def pPicks (s : St) (ws : Wd) : Option St := (thrAt s.c.th ws 1).bind fun t => (numAt ws 2).bind fun n => if 0 < n ∧ s.was ≠ ⟨t, 0⟩ ∧ ws.length = 3 then some { s with was := ⟨t, 0⟩, es := s.es ++ List.replicate (pickN n s.es.length) ⟨t, 0⟩ } else none
theorem keepsF_below {w w' : World} (h : Keeps (fun _ => False) w.drew w') : Below w.heap.size w w' := keeps_bel (KP_of_drew h) (Nat.le_refl _) (fun _ q => q.elim)
theorem tkc_was {s : St} {vs : List Value} {ev : Value} (h : vs.length = 8) {a b : Int} : ((tkc s vs ev).set 25 (.int .i64 a)).set 26 (.int .i64 b) = tkc { s with was := ⟨a, b⟩ } vs ev := by
  unfold tkc
  rw [List.set_append_right _ _ (by rw [scc_len h]; omega), List.set_append_right _ _ (by rw [scc_len h]; omega), scc_len h]
  rfl
theorem tkc_ent {s : St} {vs : List Value} {ev : Value} (h : vs.length = 8) : (tkc s vs ev)[22]? = some ev := by
  unfold tkc
  rw [List.getElem?_append_left (by rw [scc_len h]; omega)]
  exact scc_last h
theorem tkc_sete {s : St} {vs : List Value} {ev v : Value} (h : vs.length = 8) : (tkc s vs ev).set 22 v = tkc s vs v := by
  unfold tkc
  rw [List.set_append_left _ _ (by rw [scc_len h]; omega), scc_setl h]
set_option maxHeartbeats 4000000 in
set_option maxRecDepth 100000 in
theorem picks_any {w : World} {B rb gw tb N : Nat} {ws : Wd} {s : St} (h : RBd w rb gw ws 1) (hT : TK w B tb s N) (hv : LVB B w) (hB : B ≤ rb) (hN : N + 1 ≤ 1000000) : Calls Tryz.prog 59 #[.pointer (some ⟨tb, 0, none⟩), .pointer (some ⟨rb, 0, none⟩)] w (LineR w B tb (N + 1) (pPicks s ws)) := by
  obtain ⟨vs, EA, ec, hTb, hO, hEn⟩ := hT.e
  have h8 := hO.u8
  have hne : tb ≠ rb := Blk.ne_ hTb h.b (by decide)
  have hng : tb ≠ gw := Blk.ne_ hTb h.g (by decide)
  have HKP : Hid (∀ w', Keeps (fun b => b = rb) w w' → KT B w w') := fun w' hk => KT.of hv.le hk (fun b e => by rw [e]; exact hB) (fun b e _ => ⟨_, _, e ▸ h.b, .inr (.inl rfl)⟩)
  have ht : w.cell? ⟨tb, 1, none⟩ = some (.int .i64 s.c.th) := (hTb.cell 1).trans rfl
  have hrw := h.b.lt
  have htw := hTb.lt
  have HTB := Lib.hid hTb
  have HV := Lib.hid hv
  have HTK := Lib.hid hT
  have HO := Lib.hid hO
  have HEN := Lib.hid hEn
  have HH := Lib.hid h
  have hBw := hv.le
  clear hTb hO hEn hT hv
  cases e1 : thrAt s.c.th ws 1 with
  | none =>
    have E1 := Lib.hid e1
    have hc := thr_none HH.out HV.out hB ht hne e1
    have HE : Hid (pPicks s ws = none) := by simp only [Hid, pPicks, E1.out, Option.bind_some, Option.bind_none]
    rw [HE.out]
    go_enter Tryz.func59, Tryz.ntmps59
    go_wp2_with (go_at_call 60; refine hc.mono ?_; rintro e wz ⟨rfl, hkz⟩)
    exact ⟨rfl, HKP.out _ hkz, rfl⟩
  | some t =>
    have E1 := Lib.hid e1
    have hc1 := Lib.hid (thr_some HH.out HV.out hB ht hne e1)
    have htb : 0 ≤ t ∧ t < s.c.th := thrAt_in E1.out
    clear e1
    cases e2 : numAt ws 2 with
    | none =>
      have E2 := Lib.hid e2
      have HE : Hid (pPicks s ws = none) := by simp only [Hid, pPicks, E1.out, E2.out, Option.bind_some, Option.bind_none]
      rw [HE.out]
      go_enter Tryz.func59, Tryz.ntmps59
      have tok1 : True := trivial
      go_wp2_with (first | (have _t := tok1; go_at_call 60; refine hc1.out.mono ?_; rintro e w1 ⟨rfl, hr1, hk1⟩; clear tok1 _t) | (go_at_call 62; refine (rnum_none hr1 (HV.out.keeps hk1 (fun b e => by rw [e]; exact hB)) hB E2.out).mono ?_; rintro e wz ⟨rfl, hkz⟩))
      exact ⟨rfl, HKP.out _ (hk1.trans_ hkz), rfl⟩
    | some n =>
      have E2 := Lib.hid e2
      clear e2
      go_enter Tryz.func59, Tryz.ntmps59
      have tok1 : True := trivial
      go_upto_region 2 with (first | (have _t := tok1; go_at_call 60; refine hc1.out.mono ?_; rintro e w1 ⟨rfl, hr1, hk1⟩; clear tok1 _t) | (go_at_call 62; refine (rnum_some hr1 (HV.out.keeps hk1 (fun b e => by rw [e]; exact hB)) hB E2.out).mono ?_; rintro e w2 ⟨rfl, hr2, hk2⟩))
      obtain ⟨eb, hcb⟩ : ∃ eb, w2.heap.size = eb := ⟨_, rfl⟩
      obtain ⟨W3, hW3, C3, R3, K3⟩ : ∃ W3, w2.alloc (.cells #[.int .i64 t, .int .i64 0] 61) = W3 ∧ Blk W3 eb 61 #[.int .i64 t, .int .i64 0] ∧ RBd W3 rb gw ws 3 ∧ Keeps (fun b => b = rb) w W3 := ⟨_, rfl, hcb ▸ Blk.new w2 _ _, hr2.keeps ((Keeps.refl (fun _ => False) w2).alloc _) (fun q => q) (fun q => q), (hk1.trans_ hk2).alloc _⟩
      have hcw : w.heap.size ≤ eb := by have := (hk1.trans_ hk2).size; omega
      rw [hW3, hcb]
      clear hW3 hcb hr1 hr2 hk1 hk2 hc1
      have HP : Hid (pPicks s ws = if 0 < n ∧ s.was ≠ ⟨t, 0⟩ ∧ ws.length = 3 then some { s with was := ⟨t, 0⟩, es := s.es ++ List.replicate (pickN n s.es.length) ⟨t, 0⟩ } else none) := by simp only [Hid, pPicks, E1.out, E2.out, Option.bind_some]
      have T3 := K3.blk HTB.out hne
      have y25 : W3.cell? ⟨tb, 25, none⟩ = some (.int .i64 s.was.th) := T3.cell_ (by rw [List.getElem?_toArray]; exact tkc_get h8 2)
      have y26 : W3.cell? ⟨tb, 26, none⟩ = some (.int .i64 s.was.wh) := T3.cell_ (by rw [List.getElem?_toArray]; exact tkc_get h8 3)
      have x0 : W3.cell? ⟨eb, 0, none⟩ = some (.int .i64 t) := C3.cell 0
      have x1 : W3.cell? ⟨eb, 1, none⟩ = some (.int .i64 0) := C3.cell 1
      have HT3 := Lib.hid T3
      have HC3 := Lib.hid C3
      have HR3 := Lib.hid R3
      have HK3 := Lib.hid K3
      have hne2 := neE s.was ⟨t, 0⟩
      clear T3 C3 R3 K3
      obtain ⟨wt, hwt⟩ : ∃ wt, s.was = wt := ⟨_, rfl⟩
      rw [hwt] at y25 y26 hne2 HP
      have HWT := Lib.hid hwt
      clear hwt
      by_cases h0 : 0 < n
      case neg =>
        have t0 : decide (0 < n) = false := decide_eq_false h0
        have hc := Lib.hid (rend_no HR3.out.drew (ok := false) (.inl rfl))
        have HE : Hid (pPicks s ws = none) := by rw [Hid, HP.out, if_neg (fun q => h0 q.1)]
        rw [HE.out]
        have hX := @Ext.cell W3
        have hzz0 := block_lt_of_cell y25
        have hzz1 := block_lt_of_cell x0
        refine wp_region_panic (fun ch a w' => a.defers = [] ∧ LineR w B tb (N + 1) none (.panicked ch) w') (fun c a w h => h) ?_
        refine NC.wp_region_plan (fun w' => ∃ x : Ext W3, w' = x.w) [([0, 1, 2, 3, 4, 5, 6, 7, 8, 9, 10], 11)] [] (by kernel_rfl) (by kernel_rfl) (by kernel_rfl) (fun _ a d v _ h => ⟨(put_defers a d v).symm.trans h.1, h.2⟩) ⟨⟨_, (brefl W3).drew⟩, rfl⟩ ?_
        refine NC.wpPlan_cons ?_
        simp only [NC.pickOps, List.getElem?_cons_succ, List.getElem?_cons_zero, Option.elim_some]
        repeat (go_big_quiet_step (fail))
        refine wpQuiet_nil ?_
        refine NC.planAct_some (fun K hK => ?_)
        go_simp
        refine (hc.out).mono ?_
        rintro e w2 ⟨rfl, hk2⟩
        exact ⟨rfl, HKP.out _ (HK3.out.trans_ ((KP_of_drew hk2).mono (fun b e _ => e.elim))), rfl⟩
      by_cases hw : wt = ⟨t, 0⟩
      case pos =>
        have hne3 : ∀ W : World, (binOp .neq 61 (.agg #[.int .i64 wt.th, .int .i64 wt.wh]) (.agg #[.int .i64 t, .int .i64 0])).run Tryz.prog W = .ok (.bool false) W := fun W => by have := hne2 W; rw [decide_eq_true hw] at this; exact this
        have hc := Lib.hid (rend_no HR3.out.drew (ok := false) (.inl rfl))
        have HE : Hid (pPicks s ws = none) := by rw [Hid, HP.out, if_neg (fun q => q.2.1 hw)]
        rw [HE.out]
        clear hne2 hw
        have hX := @Ext.cell W3
        have hzz0 := block_lt_of_cell y25
        have hzz1 := block_lt_of_cell x0
        refine wp_region_panic (fun ch a w' => a.defers = [] ∧ LineR w B tb (N + 1) none (.panicked ch) w') (fun c a w h => h) ?_
        refine NC.wp_region_plan (fun w' => ∃ x : Ext W3, w' = x.w) [([0, 1, 2, 3, 4, 5, 6, 7, 8, 9, 10], 11)] [] (by kernel_rfl) (by kernel_rfl) (by kernel_rfl) (fun _ a d v _ h => ⟨(put_defers a d v).symm.trans h.1, h.2⟩) ⟨⟨_, (brefl W3).drew⟩, rfl⟩ ?_
        refine NC.wpPlan_cons ?_
        simp only [NC.pickOps, List.getElem?_cons_succ, List.getElem?_cons_zero, Option.elim_some]
        repeat (go_big_quiet_step (fail))
        refine wpQuiet_nil ?_
        refine NC.planAct_some (fun K hK => ?_)
        go_simp
        refine (hc.out).mono ?_
        rintro e w2 ⟨rfl, hk2⟩
        exact ⟨rfl, HKP.out _ (HK3.out.trans_ ((KP_of_drew hk2).mono (fun b e _ => e.elim))), rfl⟩
      have hne3 : ∀ W : World, (binOp .neq 61 (.agg #[.int .i64 wt.th, .int .i64 wt.wh]) (.agg #[.int .i64 t, .int .i64 0])).run Tryz.prog W = .ok (.bool true) W := fun W => by have := hne2 W; rw [decide_eq_false hw] at this; exact this
      by_cases hl3 : ws.length = 3
      case neg =>
        have hc := Lib.hid (rend_no HR3.out.drew (ok := true) (.inr (by have := HR3.out.k; omega)))
        have HE : Hid (pPicks s ws = none) := by rw [Hid, HP.out, if_neg (fun q => hl3 q.2.2)]
        rw [HE.out]
        clear hne2 hw
        have hX := @Ext.cell W3
        have hzz0 := block_lt_of_cell y25
        have hzz1 := block_lt_of_cell x0
        refine wp_region_panic (fun ch a w' => a.defers = [] ∧ LineR w B tb (N + 1) none (.panicked ch) w') (fun c a w h => h) ?_
        refine NC.wp_region_plan (fun w' => ∃ x : Ext W3, w' = x.w) [([0, 1, 2, 3, 4, 5, 6, 7, 8, 9, 10], 11)] [] (by kernel_rfl) (by kernel_rfl) (by kernel_rfl) (fun _ a d v _ h => ⟨(put_defers a d v).symm.trans h.1, h.2⟩) ⟨⟨_, (brefl W3).drew⟩, rfl⟩ ?_
        refine NC.wpPlan_cons ?_
        simp only [NC.pickOps, List.getElem?_cons_succ, List.getElem?_cons_zero, Option.elim_some]
        repeat (go_big_quiet_step (fail))
        refine wpQuiet_nil ?_
        refine NC.planAct_some (fun K hK => ?_)
        go_simp
        refine (hc.out).mono ?_
        rintro e w2 ⟨rfl, hk2⟩
        exact ⟨rfl, HKP.out _ (HK3.out.trans_ ((KP_of_drew hk2).mono (fun b e _ => e.elim))), rfl⟩
      obtain ⟨s', hs'⟩ : ∃ s', ({ s with was := ⟨t, 0⟩, es := s.es ++ List.replicate (pickN n s.es.length) ⟨t, 0⟩ } : St) = s' := ⟨_, rfl⟩
      have HE : Hid (pPicks s ws = some s') := by rw [Hid, HP.out, if_pos ⟨h0, hw, hl3⟩, hs']
      have HS' := Lib.hid hs'
      rw [HE.out]
      have hc := Lib.hid (rend_yes HR3.out.drew hl3.symm)
      clear HP hl3 hs' hne2 hw
      have hX := @Ext.cell W3
      have hzz0 := block_lt_of_cell y25
      have hzz1 := block_lt_of_cell x0
      refine wp_region_noPanic ?_
      refine NC.wp_region_plan (fun w' => ∃ x : Ext W3, w' = x.w) [([0, 1, 2, 3, 4, 5, 6, 7, 8, 9, 10], 11)] [] (by kernel_rfl) (by kernel_rfl) (by kernel_rfl) (fun _ _ _ _ _ h => h) ⟨⟨_, (brefl W3).drew⟩, rfl⟩ ?_
      refine NC.wpPlan_cons ?_
      simp only [NC.pickOps, List.getElem?_cons_succ, List.getElem?_cons_zero, Option.elim_some]
      repeat (go_big_quiet_step (fail))
      refine wpQuiet_nil ?_
      refine NC.planAct_some (fun K hK => ?_)
      go_simp
      refine (hc.out).mono ?_
      rintro e w4 ⟨rfl, hk4⟩
      go_wp2_with fail
      refine hK.out _ _ ⟨⟨_, (keepsF_below hk4)⟩, rfl⟩ ?_
      clear hK K
      refine NC.wpPlan_last ?_
      simp only [NC.pickOps, List.getElem?_cons_succ, List.getElem?_cons_zero, Option.elim_some]
      repeat (go_big_quiet_step (fail))
      refine wpQuiet_nil ?_
      refine NoPanic.normal ?_
      clear hX hzz0 hzz1
      have hb4 := keepsF_below hk4
      have T4 := HT3.out.below_ hb4
      have C4 := HC3.out.below_ hb4
      have y25' := keep_below y25 hb4
      have y26' := keep_below y26 hb4
      have x0' := keep_below x0 hb4
      have x1' := keep_below x1 hb4
      have f25 := T4.frozen 25
      have f26 := T4.frozen 26
      have z4 := T4.lt
      have z5 := C4.lt
      go_upto_region 4 with fail
      obtain ⟨ln, hln⟩ : ∃ ln, s.es.length = ln := ⟨_, rfl⟩
      obtain ⟨M, hM⟩ : ∃ M, pickN n ln = M := ⟨_, rfl⟩
      obtain ⟨V, hV, T5, C5, O5, EN5, K5⟩ : ∃ V, (w4.setCell ⟨tb, 25, none⟩ (.int .i64 t)).setCell ⟨tb, 26, none⟩ (.int .i64 0) = V ∧ Blk V tb 63 (tkc { s with was := ⟨t, 0⟩ } vs (.slice EA ln ec)).toArray ∧ Blk V eb 61 #[.int .i64 t, .int .i64 0] ∧ OW V B vs s.ps ∧ V.ownsRow B 61 2 (.slice EA ln ec) ln (s.es.flatMap enc_) ∧ KT B w V := by
        have ka : Keeps (fun b => b = rb) w w4 := HK3.out.trans_ ((KP_of_drew hk4).mono (fun b e _ => e.elim))
        have kt := ((Keeps.refl (fun b => b = tb) w4).setCell (p := ⟨tb, 25, none⟩) (fun _ => rfl) (.int .i64 t)).setCell (p := ⟨tb, 26, none⟩) (fun _ => rfl) (.int .i64 0)
        have kw : Keeps (K2 rb tb) w ((w4.setCell ⟨tb, 25, none⟩ (.int .i64 t)).setCell ⟨tb, 26, none⟩ (.int .i64 0)) := (ka.mono (S' := K2 rb tb) (fun b e _ => .inl e)).trans kt (fun b e _ => .inr e)
        have hty : ∀ b, K2 rb tb b → b < w.heap.size → ∃ t cs, Blk w b t cs ∧ (t = 70 ∨ t = 63) := fun b e _ => by
          rcases e with rfl | rfl
          · exact ⟨_, _, HH.out.b, .inl rfl⟩
          · exact ⟨_, _, HTB.out, .inr rfl⟩
        refine ⟨_, rfl, ?_, kt.blk C4 (fun e => by have e' : eb = tb := e; omega), HO.out.keepsT kw (fun b e hb => ?_), kw.own (hln ▸ HEN.out) (fun q hq e => ?_), KT.of hBw kw (fun b e => ?_) (fun b e hb => ?_)⟩
        · have := (T4.set_ 25 (.int .i64 t)).set_ 26 (.int .i64 0)
          rw [List.setIfInBounds_toArray, List.setIfInBounds_toArray, tkc_was h8, hln] at this
          exact this
        · obtain ⟨t, cs, q1, q2⟩ := hty b e hb
          exact ⟨t, cs, q1, by rcases q2 with q2 | q2 <;> rw [q2] <;> decide⟩
        · rcases e with rfl | rfl
          · exact own_ne_blk (hln ▸ HEN.out) HH.out.b (by decide) hq
          · exact own_ne_blk (hln ▸ HEN.out) HTB.out (by decide) hq
        · rcases e with rfl | rfl
          · exact hB
          · exact HTK.out.tb
        · obtain ⟨t, cs, q1, q2⟩ := hty b e hb
          exact ⟨t, cs, q1, by rcases q2 with q2 | q2; exact .inr (.inl q2); exact .inl q2⟩
      rw [hV]
      have HLN := Lib.hid hln
      have HM := Lib.hid hM
      have hM1 : M ≤ n.toNat ∧ ln + M ≤ max ln 60001 ∧ (M = n.toNat ∨ 60001 ≤ ln + M) := by rw [← hM, pickN]; omega
      have hl6 : ln ≤ 60001 + N := by rw [← hln]; exact HTK.out.es
      have hrow : ∀ q, (Value.slice EA ln ec).ownBlock = some q → q ≠ eb := fun q hq => by
        have := own_lt (hln ▸ HEN.out) q hq
        omega
      have HRow := Lib.hid hrow
      have HT5 := Lib.hid T5
      have HC5 := Lib.hid C5
      have HO5 := Lib.hid O5
      have HE5 := Lib.hid EN5
      have HK5 := Lib.hid K5
      have hebV := C5.lt
      obtain ⟨i1, E3⟩ := elem_en
      have hi2 : (Tryz.prog.info? 61).map (·.size) = some (#[.int .i64 t, .int .i64 0] : Array Value).size := by kernel_rfl
      clear hV hln hM T4 C4 y25 y26 x0 x1 y25' y26' x0' x1' f25 f26 z4 z5 hb4 hk4 T5 C5 O5 EN5 K5 hrow hc hne3
      go_wp2_with fail
      go_loopg [7] M (fun gk s7 wr => ∃ (k cu : Nat) (EA' : Option Addr) (ec' : Nat), k + gk = M ∧ s7 = .int .i64 k ∧ Hid (cu = ln + k) ∧ Hid (Blk wr tb 63 (tkc { s with was := ⟨t, 0⟩ } vs (.slice EA' cu ec')).toArray) ∧ Hid (Blk wr eb 61 #[.int .i64 t, .int .i64 0]) ∧ Hid (OW wr B vs s.ps) ∧ Hid (wr.ownsRow B 61 2 (.slice EA' cu ec') cu (s.es.flatMap enc_ ++ (List.replicate k (⟨t, 0⟩ : En)).flatMap enc_)) ∧ Hid (∀ q, (Value.slice EA' cu ec').ownBlock = some q → q ≠ eb) ∧ Hid (KT B w wr))
      case atStart => exact ⟨0, ln, EA, ec, by omega, rfl, rfl, HT5, HC5, HO5, by simpa [Hid] using HE5.out, HRow, HK5⟩
      case round =>
        obtain ⟨k, cu, EA', ec', hk, rfl, hcu, HT6, HC6, HO6, HE6, HR6, HK6⟩ := hrel
        have hcu' := hcu.out
        have y22 : wr.cell? ⟨tb, 22, none⟩ = some (.slice EA' cu ec') := HT6.out.cell_ (by rw [List.getElem?_toArray]; exact tkc_ent h8)
        have zr := HT6.out.lt
        by_cases hlt : k < M
        · obtain ⟨g, rfl⟩ : ∃ g, gk = g + 1 := ⟨gk - 1, by omega⟩
          have t1 : (k : Int) < n := by omega
          have t2 : cu ≤ 60000 := by omega
          have t2' : (cu : Int) ≤ 60000 := by omega
          have ck : IntKind.i64.wrap ((k : Int) + 1) = (k : Int) + 1 := IntWalk.i64_in _ (by omega)
          obtain ⟨cs, hcs⟩ : ∃ cs, (tkc { s with was := ⟨t, 0⟩ } vs (.slice EA' cu ec')).toArray = cs := ⟨_, rfl⟩
          have T6 := HT6.out
          rw [hcs] at T6
          have hck : cs[22]? = some (.slice EA' cu ec') := by rw [← hcs, List.getElem?_toArray]; exact tkc_ent h8
          have HCS := Lib.hid hcs
          have C6 := HC6.out
          have own5 := HE6.out
          have hebw := C6.lt
          have hBW : B ≤ wr.heap.size := Nat.le_trans hBw HK6.out.s
          clear hcs hcu'
          go_upto_region 7 with fail
          have nE : Nonempty (ExtB2 tb 63 cs eb 61 #[.int .i64 t, .int .i64 0]) := ⟨⟨wr, T6, C6⟩⟩
          have hX : ∀ y : ExtB2 tb 63 cs eb 61 #[.int .i64 t, .int .i64 0], y.w.cell? ⟨tb, 22, none⟩ = some (.slice EA' cu ec') := fun y => (y.k.cell 22).trans hck
          refine wp_region_noPanic ?_
          refine NC.wp_region_lastU (fun w' => ∃ x : ExtB2 tb 63 cs eb 61 #[.int .i64 t, .int .i64 0], w' = x.w) 12 (NC.PG.one [0, 1, 2, 3, 4, 5, 6] 7 (NC.PG.one [] 8 (NC.PG.fin [9, 10, 11]))) (by kernel_rfl) (by kernel_rfl) (by kernel_rfl) (fun _ _ _ _ _ h => h) (ext2_mem T6.drew C6.drew) ?_
          refine NC.wpG_one ?_
          simp only [NC.pickOps, List.getElem?_cons_succ, List.getElem?_cons_zero, Option.elim_some]
          go_big_quiet_step (fail)
          go_big_quiet_step (fail)
          go_big_quiet_step (fail)
          go_big_quiet_step (fail)
          go_big_quiet_step (fail)
          go_big_quiet_step (fail)
          refine wpQuiet_load_row rfl 61 (.tmp 6) rfl eb rfl 61 _ _ (fun w ⟨x, e⟩ => e ▸ x.k') Tryz.underlying61 rfl hi2 ?_; simp only [Act.put, List.setIfInBounds_toArray, List.set_cons_succ, List.set_cons_zero]
          refine wpQuiet_nil ?_
          refine NC.planAct_some (fun K hK => ?_)
          go_simp
          refine hK.out _ _ (ext2_mem (T6.alloc _) (C6.alloc _)) ?_
          clear hK K
          refine NC.wpG_one ?_
          simp only [NC.pickOps, List.getElem?_cons_succ, List.getElem?_cons_zero, Option.elim_some]
          repeat (go_big_quiet_step (fail))
          refine wpQuiet_nil ?_
          refine NC.planAct_some (fun K hK => ?_)
          refine step_app (ys := [.int .i64 t, .int .i64 0]) (m := 1) E3 rfl (.tmp 50) (.tmp 52) rfl B rfl (own5.alloc _ :) rfl rfl (Rd.new _ _ _ rfl) (by simp [Value.oneCell']) (by unfold maxLen; omega) (by omega) (by simp; omega) ?_
          intro A8 c8 w8 own8 hg8 h38
          have G8 := (T6.alloc (.cells #[.int .i64 t, .int .i64 0] 61)).drew.grown hg8 (fun q1 => own_ne_blk own5 T6 (by decide) q1.symm)
          have D8 := (C6.alloc (.cells #[.int .i64 t, .int .i64 0] 61)).drew.grown hg8 (fun q1 => HR6.out eb q1.symm rfl)
          go_simp
          refine hK.out _ _ (ext2_mem G8 D8) ?_
          clear hK K
          have f8 := G8.frozen 22
          have v8 := (G8.cell 22).trans hck
          have z8 := G8.lt
          refine NC.wpG_fin ?_
          simp only [NC.pickOps, List.getElem?_cons_succ, List.getElem?_cons_zero, Option.elim_some]
          repeat (go_big_quiet_step (fail))
          refine wpQuiet_nil ?_
          refine NC.lastG_some (fun K hK => ?_)
          go_simp
          refine hK.out _ _ ?_
          clear hK K
          refine NoPanic.normal ?_
          clear hX
          obtain ⟨U, hU, H1, H2, H3, H4, H5, H6⟩ : ∃ U, w8.setCell ⟨tb, 22, none⟩ (.slice A8 (cu + 1) c8) = U ∧ Hid (Blk U tb 63 (tkc { s with was := ⟨t, 0⟩ } vs (.slice A8 (cu + 1) c8)).toArray) ∧ Hid (Blk U eb 61 #[.int .i64 t, .int .i64 0]) ∧ Hid (OW U B vs s.ps) ∧ Hid (U.ownsRow B 61 2 (.slice A8 (cu + 1) c8) (cu + 1) (s.es.flatMap enc_ ++ (List.replicate (k + 1) (⟨t, 0⟩ : En)).flatMap enc_)) ∧ Hid (∀ q, (Value.slice A8 (cu + 1) c8).ownBlock = some q → q ≠ eb) ∧ Hid (KT B w U) := by
            have kg : Keeps (fun b => (Value.slice EA' cu ec').ownBlock = some b) wr w8 := (((Keeps.refl (fun b => (Value.slice EA' cu ec').ownBlock = some b) wr).alloc (.cells #[.int .i64 t, .int .i64 0] 61)).drew).grown hg8 (fun k h _ => h)
            have k4 := (Keeps.refl (fun b => b = tb) w8).setCell (p := ⟨tb, 22, none⟩) (fun _ => rfl) (.slice A8 (cu + 1) c8)
            have hgt : ∀ b, (Value.slice EA' cu ec').ownBlock = some b → b < wr.heap.size → ∃ cs, Blk wr b 61 cs := fun b e _ => own_blk own5 e
            have O8 := (HO6.out.keepsT kg (fun b e hb => by obtain ⟨cs, q⟩ := hgt b e hb; exact ⟨_, cs, q, by decide⟩)).keepsT k4 (fun b e _ => ⟨_, _, e ▸ G8, by decide⟩)
            have T9 := G8.set_ 22 (.slice A8 (cu + 1) c8)
            rw [← HCS.out, List.setIfInBounds_toArray, tkc_sete h8] at T9
            refine ⟨_, rfl, T9, k4.blk D8 (fun e => by have e' : eb = tb := e; omega), O8, ?_, ?_, ?_⟩
            · have := k4.own own8 (fun q hq e => by rw [e] at hq; exact own_ne_blk own8 G8 (by decide) hq)
              rw [List.append_assoc] at this
              have e1 : (List.replicate (k + 1) (⟨t, 0⟩ : En)).flatMap enc_ = (List.replicate k (⟨t, 0⟩ : En)).flatMap enc_ ++ [.int .i64 t, .int .i64 0] := by
                rw [List.replicate_succ', List.flatMap_append]
                rfl
              rw [Hid, e1]
              exact this
            · intro q hq
              rcases h38 with e | e
              · exact HR6.out q (e ▸ hq)
              · rw [e] at hq
                injection hq with hq
                have : (wr.alloc (.cells #[.int .i64 t, .int .i64 0] 61)).drew.heap.size = wr.heap.size + 1 := by simp
                omega
            · have k1 := KT.of hBW kg (fun b e => own_ge own5 b e) (fun b e hb => by obtain ⟨cs, q⟩ := hgt b e hb; exact ⟨_, cs, q, .inr (.inr (.inr rfl))⟩)
              have k2 := KT.of (B := B) (Nat.le_trans hBW kg.size) k4 (fun b e => by rw [e]; exact HTK.out.tb) (fun b e _ => ⟨_, _, e ▸ G8, .inl rfl⟩)
              exact (HK6.out.trans k1).trans k2
          rw [hU]
          clear hU own8 hg8 h38 G8 D8 f8 v8 z8 T6 C6 own5 hck
          go_wp2_with fail
          go_roundg g
          case measure => omega
          case rel => exact ⟨k + 1, cu + 1, A8, c8, by omega, by go_num, by have := hcu.out; show _ = _; omega, H1, H2, H3, H4, H5, H6⟩
        · obtain rfl : k = M := by omega
          obtain rfl : gk = 0 := by omega
          have HF : LineR w B tb (N + 1) (some s') (.returned (.tuple #[])) wr := by
            have hsp : s' = { s with was := ⟨t, 0⟩, es := s.es ++ List.replicate k ⟨t, 0⟩ } := by rw [← HS'.out, HLN.out, HM.out]
            have hel : s'.es.length = cu := by rw [hsp, List.length_append, List.length_replicate, HLN.out]; exact hcu'.symm
            refine ⟨HK6.out, rfl, ⟨vs, EA', ec', ?_, ?_, ?_⟩, ?_, ?_, ?_, hN, HTK.out.tb⟩
            · rw [hel, hsp]; exact HT6.out
            · rw [hsp]; exact HO6.out
            · rw [hel, hsp]
              have := HE6.out
              rw [← List.flatMap_append] at this
              exact this
            · rw [hsp]; intro l hl; exact Nat.le_trans (HTK.out.ps l hl) (by omega)
            · rw [hel]; omega
            · rw [hsp]; exact HTK.out.th
          by_cases hn : (k : Int) < n
          · have t2 : decide (cu ≤ 60000) = false := decide_eq_false (by omega)
            have t2' : decide ((cu : Int) ≤ 60000) = false := decide_eq_false (by omega)
            have HF := Lib.hid HF
            clear hcu'
            go_wp2_with fail
            try rw [HE.out]
            exact bodyPost_end (results_none rfl _ _ _) rfl HF.out
          · have t1 : decide ((k : Int) < n) = false := decide_eq_false hn
            have HF := Lib.hid HF
            clear hcu'
            go_wp2_with fail
            try rw [HE.out]
            exact bodyPost_end (results_none rfl _ _ _) rfl HF.out
end Go.Proofs.YtjjgngccgjpnaaaGreatDoor
