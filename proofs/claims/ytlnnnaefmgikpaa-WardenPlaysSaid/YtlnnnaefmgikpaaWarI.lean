/- A warden: the law WardenParts. -/
import Derived.Test.YtlnnnaefmgikpaaWarH
namespace Go.Proofs.Ytlnnnaefmgikpaa
set_option linter.unusedVariables false
set_option linter.unusedSimpArgs false
open Go.RowKit

structure OpV where
  tk : Bool
  (a b : Int)
instance instInhabitedOpV : Inhabited OpV := ⟨⟨false, 0, 0⟩⟩
def opc (x : OpV) : List Value := [.bool x.tk, .int .i64 x.a, .int .i64 x.b]
theorem opc_len (x : OpV) : (opc x).length = 3 := rfl
def doW (s : St) (tk : Bool) (a b : Int) : St := if tk = true then s.take a b else s.drop a b
theorem after_drop {s : St} {a b : Int} (h60 : s.sl ≤ 60) (hi : inR s a b = true) (hH : s.H a b = true) : dropB s a b = true ∧ inR (s.drop a b) a b = true ∧ (s.drop a b).H a b = false ∧ (s.drop a b).G a b = s.G a b + 1 ∧ heldN (s.drop a b) a + 1 = heldN s a ∧ (s.drop a b).sl = s.sl := by
  have hd : dropB s a b = true := by unfold dropB; rw [hi, hH]; rfl
  have e : s.drop a b = { s with H := upd s.H a b false, G := upd s.G a b (s.G a b + 1) } := if_pos hd
  rw [e]
  exact ⟨hd, hi, upd_same _ _ _ _, upd_same _ _ _ _, held_less hi h60 hH (upd_same _ _ _ _) (fun y hy => upd_other _ _ (fun q => hy q.2)), rfl⟩
theorem after_take {s : St} {a b : Int} (hi : inR s a b = true) (hH : s.H a b = false) : takeB s a b = true ∧ inR (s.take a b) a b = true ∧ (s.take a b).H a b = true ∧ (s.take a b).G a b = s.G a b ∧ (s.take a b).sl = s.sl := by
  have hd : takeB s a b = true := by unfold takeB; rw [hi, hH]; rfl
  have e : s.take a b = { s with H := upd s.H a b true } := if_pos hd
  rw [e]
  exact ⟨hd, hi, upd_same _ _ _ _, rfl, rfl⟩
/-- What is done elsewhere, or is a Take, leaves what is held. -/
theorem keep_take {s : St} {a b x y : Int} (hi : inR s a b = true) (hH : s.H a b = true) : inR (s.take x y) a b = true ∧ (s.take x y).H a b = true ∧ (s.take x y).G a b = s.G a b := by
  have hd := take_dim s x y
  refine ⟨by unfold inR; rw [hd.1, hd.2]; exact hi, ?_, ?_⟩
  · unfold St.take
    split
    · show upd s.H x y true a b = true
      by_cases hq : a = x ∧ b = y
      · rw [hq.1, hq.2, upd_same]
      · rw [upd_other _ _ hq]
        exact hH
    · exact hH
  · unfold St.take
    split <;> rfl
theorem keep_drop {s : St} {a b x y : Int} (hi : inR s a b = true) (hH : s.H a b = true) (hne : ¬ (a = x ∧ b = y)) : inR (s.drop x y) a b = true ∧ (s.drop x y).H a b = true ∧ (s.drop x y).G a b = s.G a b := by
  have hd := drop_dim s x y
  refine ⟨by unfold inR; rw [hd.1, hd.2]; exact hi, ?_, ?_⟩
  · unfold St.drop
    split
    · show upd s.H x y false a b = true
      rw [upd_other _ _ hne]
      exact hH
    · exact hH
  · unfold St.drop
    split
    · show upd s.G x y _ a b = _
      rw [upd_other _ _ hne]
    · rfl
set_option maxHeartbeats 4000000 in
set_option maxRecDepth 100000 in
theorem parts_long {w : World} {A : Option Addr} {n c : Nat} (tk : Bool) (oa ob a b : Int) (hn : 60 < n) :
    Calls Try.prog 3 #[.slice A n c, .agg #[.bool tk, .int .i64 oa, .int .i64 ob], .agg #[.int .i64 a, .int .i64 b]] w fun e w' => e = .returned (.bool true) ∧ Below w.heap.size w w' := by
  go_enter Try.func3, Try.ntmps3
  go_wp2_with (go_at_call 6; refine (lives07 _).mono ?_; rintro e w1 ⟨rfl, hb1⟩)
  go_ret
  exact ⟨rfl, bnext (bnew (bnew (brefl w) _) _) hb1⟩
set_option maxHeartbeats 16000000 in
set_option maxRecDepth 100000 in
theorem parts_any {w : World} {A : Option Addr} {n c : Nat} {l : List OpV} (hl : Sl opc w A n c l) (tk : Bool) (oa ob a b : Int) (ha : wfI a) :
    Calls Try.prog 3 #[.slice A n c, .agg #[.bool tk, .int .i64 oa, .int .i64 ob], .agg #[.int .i64 a, .int .i64 b]] w fun e w' => e = .returned (.bool true) ∧ Below w.heap.size w w' := by
  by_cases hn0 : 60 < n
  · exact parts_long tk oa ob a b hn0
  have hn : n ≤ 60 := by omega
  have hge : ¬ ((60 : Int) < (n : Int)) := by omega
  have hlen := Lib.hid hl.len
  clear hn0
  go_enter Try.func3, Try.ntmps3
  go_upto_region 3 with (fail)
  obtain ⟨qo, hqo⟩ : ∃ q, q = w.heap.size := ⟨_, rfl⟩
  obtain ⟨qa, hqa⟩ : ∃ q, q = w.heap.size + 1 := ⟨_, rfl⟩
  obtain ⟨W2, hW2, B1, B2, hl2, kb0⟩ : ∃ W2, (w.alloc (.cells #[.bool tk, .int .i64 oa, .int .i64 ob] 24)).alloc (.cells #[.int .i64 a, .int .i64 b] 25) = W2 ∧ Blk W2 qo 24 #[.bool tk, .int .i64 oa, .int .i64 ob] ∧ Blk W2 qa 25 #[.int .i64 a, .int .i64 b] ∧ Sl opc W2 A n c l ∧ Below w.heap.size w W2 := ⟨_, rfl, by rw [hqo]; exact (Blk.new _ _ _).alloc _, by rw [hqa]; have := Blk.new (w.alloc (.cells #[.bool tk, .int .i64 oa, .int .i64 ob] 24)) 25 #[.int .i64 a, .int .i64 b]; rwa [World.size_alloc] at this, (hl.alloc _).alloc _, bnew (bnew (brefl w) _) _⟩
  rw [hW2]
  rw [← hqa, ← hqo]
  have a0 : W2.cell? ⟨qa, 0, none⟩ = some (.int .i64 a) := B2.cell 0
  have a1 : W2.cell? ⟨qa, 1, none⟩ = some (.int .i64 b) := B2.cell 1
  have o0 : W2.cell? ⟨qo, 0, none⟩ = some (.bool tk) := B1.cell 0
  have o1 : W2.cell? ⟨qo, 1, none⟩ = some (.int .i64 oa) := B1.cell 1
  have o2 : W2.cell? ⟨qo, 2, none⟩ = some (.int .i64 ob) := B1.cell 2
  clear hW2 B1 B2 hl hqo hqa
  have hnew := new_any 3 20 W2 (by omega) (by omega) (by omega) (by omega)
  have tok1 : True := trivial
  go_wp2_with (have _t := tok1; go_at_call 7; refine hnew.mono ?_; rintro e w1 ⟨p, bh, bg, rfl, p1, p2, p3, h0, hb1⟩; clear tok1 _t)
  clear hnew
  go_loopg [8] n (fun gk i wr => ∃ (k : Nat) (s : St), k + gk = n ∧ i = .int .i64 k ∧ WB wr p bh bg k s ∧ s.lv = 3 ∧ s.sl = 20 ∧ Below W2.heap.size W2 wr)
  case atStart => exact ⟨0, _, by omega, rfl, h0, rfl, rfl, hb1⟩
  case round =>
    clear h0 hb1
    obtain ⟨k, s, hk, rfl, h, hlv, hsl, kb⟩ := hrel
    by_cases hlt : k < n
    · obtain ⟨bl, ol, rfl, _, hc⟩ := hl2.base opc_len (by decide) (by omega)
      obtain ⟨e, he⟩ : ∃ e, l[k]? = some e := ⟨l[k]'(by have := hlen.out; omega), List.getElem?_eq_getElem (i := k) _⟩
      have c0 : W2.cell? ⟨bl, ol + k * 3, none⟩ = some (.bool e.tk) := by have h0 := hc k e 0 _ he rfl; simpa using h0
      have c1 : W2.cell? ⟨bl, ol + k * 3 + 1, none⟩ = some (.int .i64 e.a) := by have h0 := hc k e 1 _ he rfl; simpa [Nat.add_assoc] using h0
      have c2 : W2.cell? ⟨bl, ol + k * 3 + 2, none⟩ = some (.int .i64 e.b) := by have h0 := hc k e 2 _ he rfl; simpa [Nat.add_assoc] using h0
      have x0 := keep_below c0 kb
      have x1 := keep_below c1 kb
      have b0 : (0 : Int) ≤ (k : Int) := by omega
      have b1 : (k : Int) < (n : Int) := by omega
      have HLV := Lib.hid hlv
      have HSL := Lib.hid hsl
      clear hc he hlv hsl
      cases htk : e.tk with
      | true =>
        rw [htk] at x0 c0
        clear htk
        go_upto_region 8 with (fail)
        have hX := @Ext.cell W2
        have hzz0 := block_lt_of_cell c0
        refine wp_region_noPanic ?_
        refine wp_region_plan (fun w' => ∃ x : Ext W2, w' = x.w) [([0, 1, 2, 3, 4, 5, 6, 7, 8, 9, 10], 11)] [] (by kernel_rfl) (by kernel_rfl) (by kernel_rfl) (fun _ _ _ _ _ h => h) ⟨⟨_, kb.drew⟩, rfl⟩ ?_
        refine wpPlan_cons ?_
        simp only [pickOps, List.getElem?_cons_succ, List.getElem?_cons_zero, Option.elim_some]
        repeat (go_big_quiet_step (fail))
        refine wpQuiet_nil ?_
        refine planAct_some (fun K hK => ?_)
        go_simp
        refine (take_any (h.below (brefl wr).drew) (by omega) e.a e.b).mono ?_
        rintro e1 w3 ⟨rfl, h3, k3⟩
        go_wp2_with fail
        refine hK.out _ _ ⟨⟨_, (keeps_fp k3 kb.drew p1 p2 p3)⟩, rfl⟩ ?_
        clear hK K
        refine wpPlan_last ?_
        simp only [pickOps, List.getElem?_cons_succ, List.getElem?_cons_zero, Option.elim_some]
        repeat (go_big_quiet_step (fail))
        refine wpQuiet_nil ?_
        refine NoPanic.normal ?_
        clear hX hzz0
        go_wp2_with fail
        go_roundg (gk - 1)
        case measure => omega
        case rel => exact ⟨k + 1, _, by omega, by go_num, h3, (take_dim s e.a e.b).1.trans HLV.out, (take_dim s e.a e.b).2.trans HSL.out, keeps_fp k3 kb.drew p1 p2 p3⟩
      | false =>
        rw [htk] at x0 c0
        clear htk
        go_upto_region 9 with (fail)
        have hX := @Ext.cell W2
        have hzz0 := block_lt_of_cell c0
        refine wp_region_noPanic ?_
        refine wp_region_plan (fun w' => ∃ x : Ext W2, w' = x.w) [([0, 1, 2, 3, 4, 5, 6, 7, 8, 9, 10], 11)] [] (by kernel_rfl) (by kernel_rfl) (by kernel_rfl) (fun _ _ _ _ _ h => h) ⟨⟨_, kb.drew⟩, rfl⟩ ?_
        refine wpPlan_cons ?_
        simp only [pickOps, List.getElem?_cons_succ, List.getElem?_cons_zero, Option.elim_some]
        repeat (go_big_quiet_step (fail))
        refine wpQuiet_nil ?_
        refine planAct_some (fun K hK => ?_)
        go_simp
        refine (drop_any (h.below (brefl wr).drew) (by omega) e.a e.b).mono ?_
        rintro e1 w3 ⟨rfl, h3, k3⟩
        go_wp2_with fail
        refine hK.out _ _ ⟨⟨_, (keeps_fp k3 kb.drew p1 p2 p3)⟩, rfl⟩ ?_
        clear hK K
        refine wpPlan_last ?_
        simp only [pickOps, List.getElem?_cons_succ, List.getElem?_cons_zero, Option.elim_some]
        repeat (go_big_quiet_step (fail))
        refine wpQuiet_nil ?_
        refine NoPanic.normal ?_
        clear hX hzz0
        go_wp2_with fail
        go_roundg (gk - 1)
        case measure => omega
        case rel => exact ⟨k + 1, _, by omega, by go_num, h3, (drop_dim s e.a e.b).1.trans HLV.out, (drop_dim s e.a e.b).2.trans HSL.out, keeps_fp k3 kb.drew p1 p2 p3⟩
    · have hge2 : ¬ ((k : Int) < (n : Int)) := by omega
      obtain ⟨W3, hW3⟩ : ∃ W3, W3 = wr := ⟨_, rfl⟩
      subst hW3
      have kb3 := kb
      obtain ⟨WAS, hWL⟩ : ∃ x, linkV s a b = x := ⟨_, rfl⟩
      obtain ⟨HN, hHN⟩ : ∃ x, heldN s a = x := ⟨_, rfl⟩
      obtain ⟨LED, hLEDe⟩ : ∃ x, (inR s a b && s.H a b) = x := ⟨_, rfl⟩
      have hWU : U64 (WAS : Int) := by rw [← hWL]; exact U64.nat (linkV_lt s a b)
      have hLV : leadsB s a (WAS : Nat) = LED := by rw [← hWL, led_eq (by omega)]; exact hLEDe
      obtain ⟨g, hgg⟩ : ∃ g, s.G a b = g := ⟨_, rfl⟩
      have hg0 : 0 ≤ g := by rw [← hgg]; exact (h.gb a b).1
      have hg1 : g ≤ 60 := by have := (h.gb a b).2; rw [← hgg]; omega
      have hLED := Lib.hid hLEDe
      have hWAS : inR s a b = true → Hid (WAS = lmk b g) := fun hi => by rw [Hid, ← hWL, linkV, hi, ← hgg]; rfl
      have hkn : k ≤ 60 := by omega
      clear hLEDe hlt hk hl2 kb
      go_upto_region 10 with (fail)
      have hX := @Ext.cell W2
      have hzz0 := block_lt_of_cell a0
      refine wp_region_noPanic ?_
      refine wp_region_plan (fun w' => ∃ x : Ext W2, w' = x.w) [([0, 1, 2, 3, 4, 6, 7, 8], 5), ([], 9)] [10, 11] (by kernel_rfl) (by kernel_rfl) (by kernel_rfl) (fun _ _ _ _ _ h => h) ⟨⟨_, kb3.drew⟩, rfl⟩ ?_
      refine wpPlan_cons ?_
      simp only [pickOps, List.getElem?_cons_succ, List.getElem?_cons_zero, Option.elim_some]
      repeat (go_big_quiet_step (fail))
      refine wpQuiet_nil ?_
      refine planAct_some (fun K hK => ?_)
      go_simp
      refine (link_any (h.below (brefl W3).drew) a b).mono ?_
      rintro e4 w4 ⟨rfl, hb4⟩; have m4 := bnext kb3.drew hb4; have h4 := h.below (of_drew hb4); have hhe := held_any h4 a ha; rw [hHN] at hhe; rw [hWL]
      go_wp2_with fail
      refine hK.out _ _ ⟨⟨_, m4⟩, rfl⟩ ?_
      clear hK K
      refine wpPlan_cons ?_
      simp only [pickOps, List.getElem?_cons_succ, List.getElem?_cons_zero, Option.elim_some]
      repeat (go_big_quiet_step (fail))
      refine wpQuiet_nil ?_
      refine planAct_some (fun K hK => ?_)
      go_simp
      refine (hhe).mono ?_
      rintro e5 w5 ⟨rfl, hb5⟩; have m5 := bnext m4 hb5
      go_wp2_with fail
      refine hK.out _ _ ⟨⟨_, m5⟩, rfl⟩ ?_
      clear hK K
      refine wpPlan_last ?_
      simp only [pickOps, List.getElem?_cons_succ, List.getElem?_cons_zero, Option.elim_some]
      repeat (go_big_quiet_step (fail))
      refine wpQuiet_nil ?_
      refine NoPanic.normal ?_
      clear hX hzz0
      have h5 := h4.below hb5
      have hle := leads_any h5 a WAS hWU
      rw [hLV] at hle
      have a05 := keep_below a0 m5; have a15 := keep_below a1 m5; have o05 := keep_below o0 m5; have o15 := keep_below o1 m5; have o25 := keep_below o2 m5; have za5 := block_lt_of_cell a05; have zo5 := block_lt_of_cell o05; 
      have tok1 : True := trivial
      go_upto_region 12 with (have _t := tok1; go_at_call 12; refine hle.mono ?_; rintro e6 w6 ⟨rfl, hb6⟩; have kb6 := bnext m5 hb6; have a06 := keep_below a0 kb6; have a16 := keep_below a1 kb6; have o06 := keep_below o0 kb6; have o16 := keep_below o1 kb6; have o26 := keep_below o2 kb6; have za6 := block_lt_of_cell a06; have zo6 := block_lt_of_cell o06; clear tok1 _t)
      have h6 := h5.below hb6
      clear hle h4 h5 h m4 m5 hb4 hb5 hb6 hhe kb3 a05 a15 o05 o15 o25 za5 zo5
      cases tk with
      | true =>
        obtain ⟨sp, hsp'⟩ : ∃ sp, s.take oa ob = sp := ⟨_, rfl⟩
        have hsp : Hid (sp = s.take oa ob) := hsp'.symm
        have hdim := take_dim s oa ob
        have hdo := take_any h6 (by omega) oa ob
        rw [hsp'] at hdo hdim
        clear hsp'
        have hspl : sp.sl = 20 := by rw [hdim.2]; exact hsl
        have tok7 : True := trivial
        go_upto_region 15 with (have _t := tok7; go_at_call 8; refine hdo.mono ?_; rintro e7 w7 ⟨rfl, h7, k7⟩; have kb7 := keeps_fp k7 kb6 p1 p2 p3; have a07 := keep_below a0 kb7; have a17 := keep_below a1 kb7; have o07 := keep_below o0 kb7; have o17 := keep_below o1 kb7; have o27 := keep_below o2 kb7; have za7 := block_lt_of_cell a07; have zo7 := block_lt_of_cell o07; clear tok7 _t)
        obtain ⟨W7, hW7⟩ : ∃ W7, W7 = w7 := ⟨_, rfl⟩
        subst hW7
        clear hdo hdim k7 a06 a16 o06 o16 o26 za6 zo6
        by_cases hoa : oa = a
        · cases LED with
          | false =>
            have t1 : (oa != a) = false := by rw [hoa]; exact bne_self_eq_false _
            have t2 : (oa == a) = true := by rw [hoa]; exact beq_self_eq_true _
            have HOA := Lib.hid hoa
            clear hoa
            have tok9 : True := trivial
            go_wp2_with (have _t := tok9; go_at_call 6; refine (lives07 _).mono ?_; rintro e9 wz ⟨rfl, hbz⟩; clear tok9 _t)
            go_ret
            exact ⟨rfl, bnext kb0 (bnext (kb7) hbz)⟩
          | true =>
            obtain ⟨hiT, hHT⟩ : inR s a b = true ∧ s.H a b = true := by simpa using hLED.out
            have hWAS := hWAS hiT
            have t1 : (oa != a) = false := by rw [hoa]; exact bne_self_eq_false _
            have t2 : (oa == a) = true := by rw [hoa]; exact beq_self_eq_true _
            have HOA := Lib.hid hoa
            clear hoa
            by_cases hob : ob = b
            · have t3 : (ob == b) = true := by rw [hob]; exact beq_self_eq_true _
              have hsp2 : Hid (sp = s.take a b) := by rw [Hid, hsp.out, HOA.out, hob]
              clear hob
              obtain ⟨hi8, hH8, hG8⟩ := keep_take hiT hHT (x := a) (y := b)
              rw [← hsp2.out] at hi8 hH8 hG8
              rw [hgg] at hG8
              obtain ⟨M1, hM1⟩ : ∃ M1, heldN sp a = M1 := ⟨_, rfl⟩
              have hhe := held_any h7 a ha
              rw [hM1] at hhe
              have tok8 : True := trivial
              go_upto_region 22 with (have _t := tok8; go_at_call 11; refine hhe.mono ?_; rintro e8 w8 ⟨rfl, hb8⟩; have kk8 := bnext kb7 hb8; have a08 := keep_below a0 kk8; have a18 := keep_below a1 kk8; have o08 := keep_below o0 kk8; have o18 := keep_below o1 kk8; have o28 := keep_below o2 kk8; have za8 := block_lt_of_cell a08; have zo8 := block_lt_of_cell o08; clear tok8 _t)
              obtain ⟨W8, hW8⟩ : ∃ W8, W8 = w8 := ⟨_, rfl⟩
              subst hW8
              have h8 := h7.below hb8
              have kb8 := kk8
              clear hhe a08 a18 o08 o18 o28 za8 zo8
              clear a07 a17 o07 o17 o27 za7 zo7
              have hd := after_drop (by omega) hi8 hH8
              have hT := after_take hd.2.1 hd.2.2.1
              have hE1 : leadsB (sp.drop a b) a (WAS : Nat) = false := by
                rw [hWAS.out, led_old (by rw [hd.2.2.2.2.2]; omega) hd.2.1 (by omega) (by omega) (by rw [hd.2.2.2.1, hG8]; omega) (by rw [hd.2.2.2.1, hG8]; omega), hd.2.2.1]
                rfl
              have hE2 : leadsB ((sp.drop a b).take a b) a (WAS : Nat) = false := by
                rw [hWAS.out, led_old (by rw [hT.2.2.2.2, hd.2.2.2.2.2]; omega) hT.2.1 (by omega) (by omega) (by rw [hT.2.2.2.1, hd.2.2.2.1, hG8]; omega) (by rw [hT.2.2.2.1, hd.2.2.2.1, hG8]; omega), hT.2.2.2.1, hd.2.2.2.1, hG8, decide_eq_false (by omega), Bool.and_false]
              have hE3 : leadsB ((sp.drop a b).take a b) a (linkV ((sp.drop a b).take a b) a b : Nat) = true := by
                rw [led_eq (by rw [hT.2.2.2.2, hd.2.2.2.2.2]; omega), hT.2.1, hT.2.2.1]
                rfl
              obtain ⟨M2, hM2⟩ : ∃ M2, heldN (sp.drop a b) a = M2 := ⟨_, rfl⟩
              have hMs : M2 + 1 = M1 := by have := hd.2.2.2.2.1; omega
              have hM60 : M1 ≤ 60 := by have := heldN_le sp a; omega
              have hw2 : IntKind.i64.wrap ((M1 : Int) - 1) = (M2 : Int) := by rw [IntKind.wrap_i64]; omega
              have hD := drop_any (h8.below (brefl W8).drew) (by omega) a b
              rw [hd.1] at hD
              clear hMs hM60 hM1
              have hX := @Ext.cell W2
              have hzz0 := block_lt_of_cell a0
              refine wp_region_noPanic ?_
              refine wp_region_plan (fun w' => ∃ x : Ext W2, w' = x.w) [([0, 1, 2, 3, 4], 5), ([6, 7, 8, 9, 10], 11), ([12, 13, 14, 15, 16, 17, 19, 20], 18), ([21, 22, 23, 24, 25, 26, 27, 28], 29), ([30, 31, 32, 33, 34, 35], 36), ([37, 38, 39, 40, 41, 42, 43, 44, 45, 46, 47], 48), ([], 49), ([50, 51], 52)] [53, 54] (by kernel_rfl) (by kernel_rfl) (by kernel_rfl) (fun _ _ _ _ _ h => h) ⟨⟨_, kb8.drew⟩, rfl⟩ ?_
              refine wpPlan_cons ?_
              simp only [pickOps, List.getElem?_cons_succ, List.getElem?_cons_zero, Option.elim_some]
              repeat (go_big_quiet_step (fail))
              refine wpQuiet_nil ?_
              refine planAct_some (fun K hK => ?_)
              go_simp
              refine (hD).mono ?_
              rintro e1 x1 ⟨rfl, g1, q1⟩; have m1 := keeps_fp q1 kb8.drew p1 p2 p3; have hE := leads_any g1 a WAS hWU; rw [hE1] at hE
              go_wp2_with fail
              refine hK.out _ _ ⟨⟨_, m1⟩, rfl⟩ ?_
              clear hK K
              refine wpPlan_cons ?_
              simp only [pickOps, List.getElem?_cons_succ, List.getElem?_cons_zero, Option.elim_some]
              repeat (go_big_quiet_step (fail))
              refine wpQuiet_nil ?_
              refine planAct_some (fun K hK => ?_)
              go_simp
              refine (hE).mono ?_
              rintro e2 x2 ⟨rfl, q2⟩; have m2 := bnext m1 q2; have g2 := g1.below q2; have hF := held_any g2 a ha; rw [hM2] at hF
              go_wp2_with fail
              refine hK.out _ _ ⟨⟨_, m2⟩, rfl⟩ ?_
              clear hK K
              refine wpPlan_cons ?_
              simp only [pickOps, List.getElem?_cons_succ, List.getElem?_cons_zero, Option.elim_some]
              repeat (go_big_quiet_step (fail))
              refine wpQuiet_nil ?_
              refine planAct_some (fun K hK => ?_)
              go_simp
              refine (hF).mono ?_
              rintro e3 x3 ⟨rfl, q3⟩; have m3 := bnext m2 q3; have g3 := g2.below q3; have hI := take_any g3 (by omega) a b; rw [hT.1] at hI
              go_wp2_with fail
              refine hK.out _ _ ⟨⟨_, m3⟩, rfl⟩ ?_
              clear hK K
              refine wpPlan_cons ?_
              simp only [pickOps, List.getElem?_cons_succ, List.getElem?_cons_zero, Option.elim_some]
              repeat (go_big_quiet_step (fail))
              refine wpQuiet_nil ?_
              refine planAct_some (fun K hK => ?_)
              go_simp
              refine (hI).mono ?_
              rintro e4 x4 ⟨rfl, g4, q4⟩; have m4 := keeps_fp q4 m3 p1 p2 p3; have hJ := leads_any g4 a WAS hWU; rw [hE2] at hJ
              go_wp2_with fail
              refine hK.out _ _ ⟨⟨_, m4⟩, rfl⟩ ?_
              clear hK K
              refine wpPlan_cons ?_
              simp only [pickOps, List.getElem?_cons_succ, List.getElem?_cons_zero, Option.elim_some]
              repeat (go_big_quiet_step (fail))
              refine wpQuiet_nil ?_
              refine planAct_some (fun K hK => ?_)
              go_simp
              refine (hJ).mono ?_
              rintro e5 x5 ⟨rfl, q5⟩; have m5 := bnext m4 q5; have g5 := g4.below q5; have hL := link_any g5 a b
              go_wp2_with fail
              refine hK.out _ _ ⟨⟨_, m5⟩, rfl⟩ ?_
              clear hK K
              refine wpPlan_cons ?_
              simp only [pickOps, List.getElem?_cons_succ, List.getElem?_cons_zero, Option.elim_some]
              repeat (go_big_quiet_step (fail))
              refine wpQuiet_nil ?_
              refine planAct_some (fun K hK => ?_)
              go_simp
              refine (hL).mono ?_
              rintro e6 x6 ⟨rfl, q6⟩; have m6 := bnext m5 q6; have g6 := g5.below q6; have hO := leads_any g6 a (linkV ((sp.drop a b).take a b) a b : Nat) (U64.nat (linkV_lt _ _ _)); rw [hE3] at hO
              go_wp2_with fail
              refine hK.out _ _ ⟨⟨_, m6⟩, rfl⟩ ?_
              clear hK K
              refine wpPlan_cons ?_
              simp only [pickOps, List.getElem?_cons_succ, List.getElem?_cons_zero, Option.elim_some]
              repeat (go_big_quiet_step (fail))
              refine wpQuiet_nil ?_
              refine planAct_some (fun K hK => ?_)
              go_simp
              refine (hO).mono ?_
              rintro e7 x7 ⟨rfl, q7⟩; have m7 := bnext m6 q7
              go_wp2_with fail
              refine hK.out _ _ ⟨⟨_, m7⟩, rfl⟩ ?_
              clear hK K
              refine wpPlan_cons ?_
              simp only [pickOps, List.getElem?_cons_succ, List.getElem?_cons_zero, Option.elim_some]
              repeat (go_big_quiet_step (fail))
              refine wpQuiet_nil ?_
              refine planAct_some (fun K hK => ?_)
              go_simp
              refine (lives07 _).mono ?_
              rintro e8 x8 ⟨rfl, q8⟩
              go_wp2_with fail
              refine hK.out _ _ ⟨⟨_, (bnext m7 q8)⟩, rfl⟩ ?_
              clear hK K
              refine wpPlan_last ?_
              simp only [pickOps, List.getElem?_cons_succ, List.getElem?_cons_zero, Option.elim_some]
              repeat (go_big_quiet_step (fail))
              refine wpQuiet_nil ?_
              refine NoPanic.normal ?_
              clear hX hzz0
              go_wp2_with fail
              go_ret
              exact ⟨rfl, bnext kb0 (bnext m7 q8)⟩
            · have hne : ¬ (a = oa ∧ b = ob) := fun q => hob q.2.symm
              have t3 : (ob == b) = false := beq_eq_false_iff_ne.2 hob
              obtain ⟨hi8, hH8, hG8⟩ := keep_take hiT hHT (x := oa) (y := ob)
              rw [← hsp.out] at hi8 hH8 hG8
              rw [hgg] at hG8
              obtain ⟨M1, hM1⟩ : ∃ M1, heldN sp a = M1 := ⟨_, rfl⟩
              have hhe := held_any h7 a ha
              rw [hM1] at hhe
              have tok8 : True := trivial
              go_upto_region 22 with (have _t := tok8; go_at_call 11; refine hhe.mono ?_; rintro e8 w8 ⟨rfl, hb8⟩; have kk8 := bnext kb7 hb8; have a08 := keep_below a0 kk8; have a18 := keep_below a1 kk8; have o08 := keep_below o0 kk8; have o18 := keep_below o1 kk8; have o28 := keep_below o2 kk8; have za8 := block_lt_of_cell a08; have zo8 := block_lt_of_cell o08; clear tok8 _t)
              obtain ⟨W8, hW8⟩ : ∃ W8, W8 = w8 := ⟨_, rfl⟩
              subst hW8
              have h8 := h7.below hb8
              have kb8 := kk8
              clear hhe a08 a18 o08 o18 o28 za8 zo8
              clear a07 a17 o07 o17 o27 za7 zo7
              have hd := after_drop (by omega) hi8 hH8
              have hT := after_take hd.2.1 hd.2.2.1
              have hE1 : leadsB (sp.drop a b) a (WAS : Nat) = false := by
                rw [hWAS.out, led_old (by rw [hd.2.2.2.2.2]; omega) hd.2.1 (by omega) (by omega) (by rw [hd.2.2.2.1, hG8]; omega) (by rw [hd.2.2.2.1, hG8]; omega), hd.2.2.1]
                rfl
              have hE2 : leadsB ((sp.drop a b).take a b) a (WAS : Nat) = false := by
                rw [hWAS.out, led_old (by rw [hT.2.2.2.2, hd.2.2.2.2.2]; omega) hT.2.1 (by omega) (by omega) (by rw [hT.2.2.2.1, hd.2.2.2.1, hG8]; omega) (by rw [hT.2.2.2.1, hd.2.2.2.1, hG8]; omega), hT.2.2.2.1, hd.2.2.2.1, hG8, decide_eq_false (by omega), Bool.and_false]
              have hE3 : leadsB ((sp.drop a b).take a b) a (linkV ((sp.drop a b).take a b) a b : Nat) = true := by
                rw [led_eq (by rw [hT.2.2.2.2, hd.2.2.2.2.2]; omega), hT.2.1, hT.2.2.1]
                rfl
              obtain ⟨M2, hM2⟩ : ∃ M2, heldN (sp.drop a b) a = M2 := ⟨_, rfl⟩
              have hMs : M2 + 1 = M1 := by have := hd.2.2.2.2.1; omega
              have hM60 : M1 ≤ 60 := by have := heldN_le sp a; omega
              have hw2 : IntKind.i64.wrap ((M1 : Int) - 1) = (M2 : Int) := by rw [IntKind.wrap_i64]; omega
              have hD := drop_any (h8.below (brefl W8).drew) (by omega) a b
              rw [hd.1] at hD
              clear hMs hM60 hM1
              have hX := @Ext.cell W2
              have hzz0 := block_lt_of_cell a0
              refine wp_region_noPanic ?_
              refine wp_region_plan (fun w' => ∃ x : Ext W2, w' = x.w) [([0, 1, 2, 3, 4], 5), ([6, 7, 8, 9, 10], 11), ([12, 13, 14, 15, 16, 17, 19, 20], 18), ([21, 22, 23, 24, 25, 26, 27, 28], 29), ([30, 31, 32, 33, 34, 35], 36), ([37, 38, 39, 40, 41, 42, 43, 44, 45, 46, 47], 48), ([], 49), ([50, 51], 52)] [53, 54] (by kernel_rfl) (by kernel_rfl) (by kernel_rfl) (fun _ _ _ _ _ h => h) ⟨⟨_, kb8.drew⟩, rfl⟩ ?_
              refine wpPlan_cons ?_
              simp only [pickOps, List.getElem?_cons_succ, List.getElem?_cons_zero, Option.elim_some]
              repeat (go_big_quiet_step (fail))
              refine wpQuiet_nil ?_
              refine planAct_some (fun K hK => ?_)
              go_simp
              refine (hD).mono ?_
              rintro e1 x1 ⟨rfl, g1, q1⟩; have m1 := keeps_fp q1 kb8.drew p1 p2 p3; have hE := leads_any g1 a WAS hWU; rw [hE1] at hE
              go_wp2_with fail
              refine hK.out _ _ ⟨⟨_, m1⟩, rfl⟩ ?_
              clear hK K
              refine wpPlan_cons ?_
              simp only [pickOps, List.getElem?_cons_succ, List.getElem?_cons_zero, Option.elim_some]
              repeat (go_big_quiet_step (fail))
              refine wpQuiet_nil ?_
              refine planAct_some (fun K hK => ?_)
              go_simp
              refine (hE).mono ?_
              rintro e2 x2 ⟨rfl, q2⟩; have m2 := bnext m1 q2; have g2 := g1.below q2; have hF := held_any g2 a ha; rw [hM2] at hF
              go_wp2_with fail
              refine hK.out _ _ ⟨⟨_, m2⟩, rfl⟩ ?_
              clear hK K
              refine wpPlan_cons ?_
              simp only [pickOps, List.getElem?_cons_succ, List.getElem?_cons_zero, Option.elim_some]
              repeat (go_big_quiet_step (fail))
              refine wpQuiet_nil ?_
              refine planAct_some (fun K hK => ?_)
              go_simp
              refine (hF).mono ?_
              rintro e3 x3 ⟨rfl, q3⟩; have m3 := bnext m2 q3; have g3 := g2.below q3; have hI := take_any g3 (by omega) a b; rw [hT.1] at hI
              go_wp2_with fail
              refine hK.out _ _ ⟨⟨_, m3⟩, rfl⟩ ?_
              clear hK K
              refine wpPlan_cons ?_
              simp only [pickOps, List.getElem?_cons_succ, List.getElem?_cons_zero, Option.elim_some]
              repeat (go_big_quiet_step (fail))
              refine wpQuiet_nil ?_
              refine planAct_some (fun K hK => ?_)
              go_simp
              refine (hI).mono ?_
              rintro e4 x4 ⟨rfl, g4, q4⟩; have m4 := keeps_fp q4 m3 p1 p2 p3; have hJ := leads_any g4 a WAS hWU; rw [hE2] at hJ
              go_wp2_with fail
              refine hK.out _ _ ⟨⟨_, m4⟩, rfl⟩ ?_
              clear hK K
              refine wpPlan_cons ?_
              simp only [pickOps, List.getElem?_cons_succ, List.getElem?_cons_zero, Option.elim_some]
              repeat (go_big_quiet_step (fail))
              refine wpQuiet_nil ?_
              refine planAct_some (fun K hK => ?_)
              go_simp
              refine (hJ).mono ?_
              rintro e5 x5 ⟨rfl, q5⟩; have m5 := bnext m4 q5; have g5 := g4.below q5; have hL := link_any g5 a b
              go_wp2_with fail
              refine hK.out _ _ ⟨⟨_, m5⟩, rfl⟩ ?_
              clear hK K
              refine wpPlan_cons ?_
              simp only [pickOps, List.getElem?_cons_succ, List.getElem?_cons_zero, Option.elim_some]
              repeat (go_big_quiet_step (fail))
              refine wpQuiet_nil ?_
              refine planAct_some (fun K hK => ?_)
              go_simp
              refine (hL).mono ?_
              rintro e6 x6 ⟨rfl, q6⟩; have m6 := bnext m5 q6; have g6 := g5.below q6; have hO := leads_any g6 a (linkV ((sp.drop a b).take a b) a b : Nat) (U64.nat (linkV_lt _ _ _)); rw [hE3] at hO
              go_wp2_with fail
              refine hK.out _ _ ⟨⟨_, m6⟩, rfl⟩ ?_
              clear hK K
              refine wpPlan_cons ?_
              simp only [pickOps, List.getElem?_cons_succ, List.getElem?_cons_zero, Option.elim_some]
              repeat (go_big_quiet_step (fail))
              refine wpQuiet_nil ?_
              refine planAct_some (fun K hK => ?_)
              go_simp
              refine (hO).mono ?_
              rintro e7 x7 ⟨rfl, q7⟩; have m7 := bnext m6 q7
              go_wp2_with fail
              refine hK.out _ _ ⟨⟨_, m7⟩, rfl⟩ ?_
              clear hK K
              refine wpPlan_cons ?_
              simp only [pickOps, List.getElem?_cons_succ, List.getElem?_cons_zero, Option.elim_some]
              repeat (go_big_quiet_step (fail))
              refine wpQuiet_nil ?_
              refine planAct_some (fun K hK => ?_)
              go_simp
              refine (lives07 _).mono ?_
              rintro e8 x8 ⟨rfl, q8⟩
              go_wp2_with fail
              refine hK.out _ _ ⟨⟨_, (bnext m7 q8)⟩, rfl⟩ ?_
              clear hK K
              refine wpPlan_last ?_
              simp only [pickOps, List.getElem?_cons_succ, List.getElem?_cons_zero, Option.elim_some]
              repeat (go_big_quiet_step (fail))
              refine wpQuiet_nil ?_
              refine NoPanic.normal ?_
              clear hX hzz0
              go_wp2_with fail
              go_ret
              exact ⟨rfl, bnext kb0 (bnext m7 q8)⟩
        · cases LED with
          | false =>
            have hS := take_other (s := s) hoa ob
            have hl7 := link_any h7 a b
            rw [hsp.out, hS.link, hWL] at hl7
            have t1 : (oa != a) = true := bne_iff_ne.2 hoa
            have t2 : (oa == a) = false := beq_eq_false_iff_ne.2 hoa
            have hh8 := fun (W : World) (hW : Below W7.heap.size W7 W) => held_any (h7.below hW) a ha
            simp only [hsp.out, hS.held, hHN] at hh8
            have hd8 := fun (W : World) (hW : Below W7.heap.size W7 W) => leads_any (h7.below hW) a WAS hWU
            simp only [hsp.out, hS.leads, hLV] at hd8
            have tok1 : True := trivial; have tok2 : True := trivial; have tok3 : True := trivial
            go_upto_region 18 with (first
              | (have _t := tok1; go_at_call 10; refine hl7.mono ?_; rintro e1 u1 ⟨rfl, r1⟩; have kr1 := bnext kb7 r1; have a0r := keep_below a0 kr1; have a1r := keep_below a1 kr1; have o0r := keep_below o0 kr1; have o1r := keep_below o1 kr1; have o2r := keep_below o2 kr1; have zar := block_lt_of_cell a0r; have zor := block_lt_of_cell o0r; clear tok1 _t)
              | (have _t := tok2; go_at_call 11; refine (hh8 _ r1).mono ?_; rintro e2 u2 ⟨rfl, r2⟩; have kr2 := bnext kr1 r2; have rr2 := bnext r1 r2; have a0s := keep_below a0 kr2; have a1s := keep_below a1 kr2; have o0s := keep_below o0 kr2; have o1s := keep_below o1 kr2; have o2s := keep_below o2 kr2; have zas := block_lt_of_cell a0s; have zos := block_lt_of_cell o0s; clear tok2 _t)
              | (have _t := tok3; go_at_call 12; refine (hd8 _ rr2).mono ?_; rintro e3 u3 ⟨rfl, r3⟩; have kr3 := bnext kr2 r3; have rr3 := bnext rr2 r3; have a0t := keep_below a0 kr3; have a1t := keep_below a1 kr3; have o0t := keep_below o0 kr3; have o1t := keep_below o1 kr3; have o2t := keep_below o2 kr3; have zat := block_lt_of_cell a0t; have zot := block_lt_of_cell o0t; clear tok3 _t))
            clear hl7 hh8 hd8 a0r a1r o0r o1r o2r zar zor a0s a1s o0s o1s o2s zas zos a07 a17 o07 o17 o27 za7 zo7
            have tok9 : True := trivial
            go_wp2_with (have _t := tok9; go_at_call 6; refine (lives07 _).mono ?_; rintro e9 wz ⟨rfl, hbz⟩; clear tok9 _t)
            go_ret
            exact ⟨rfl, bnext kb0 (bnext (kr3) hbz)⟩
          | true =>
            obtain ⟨hiT, hHT⟩ : inR s a b = true ∧ s.H a b = true := by simpa using hLED.out
            have hWAS := hWAS hiT
            have hS := take_other (s := s) hoa ob
            have hl7 := link_any h7 a b
            rw [hsp.out, hS.link, hWL] at hl7
            have t1 : (oa != a) = true := bne_iff_ne.2 hoa
            have t2 : (oa == a) = false := beq_eq_false_iff_ne.2 hoa
            have hh8 := fun (W : World) (hW : Below W7.heap.size W7 W) => held_any (h7.below hW) a ha
            simp only [hsp.out, hS.held, hHN] at hh8
            have hd8 := fun (W : World) (hW : Below W7.heap.size W7 W) => leads_any (h7.below hW) a WAS hWU
            simp only [hsp.out, hS.leads, hLV] at hd8
            have tok1 : True := trivial; have tok2 : True := trivial; have tok3 : True := trivial
            go_upto_region 19 with (first
              | (have _t := tok1; go_at_call 10; refine hl7.mono ?_; rintro e1 u1 ⟨rfl, r1⟩; have kr1 := bnext kb7 r1; have a0r := keep_below a0 kr1; have a1r := keep_below a1 kr1; have o0r := keep_below o0 kr1; have o1r := keep_below o1 kr1; have o2r := keep_below o2 kr1; have zar := block_lt_of_cell a0r; have zor := block_lt_of_cell o0r; clear tok1 _t)
              | (have _t := tok2; go_at_call 11; refine (hh8 _ r1).mono ?_; rintro e2 u2 ⟨rfl, r2⟩; have kr2 := bnext kr1 r2; have rr2 := bnext r1 r2; have a0s := keep_below a0 kr2; have a1s := keep_below a1 kr2; have o0s := keep_below o0 kr2; have o1s := keep_below o1 kr2; have o2s := keep_below o2 kr2; have zas := block_lt_of_cell a0s; have zos := block_lt_of_cell o0s; clear tok2 _t)
              | (have _t := tok3; go_at_call 12; refine (hd8 _ rr2).mono ?_; rintro e3 u3 ⟨rfl, r3⟩; have kr3 := bnext kr2 r3; have rr3 := bnext rr2 r3; have a0t := keep_below a0 kr3; have a1t := keep_below a1 kr3; have o0t := keep_below o0 kr3; have o1t := keep_below o1 kr3; have o2t := keep_below o2 kr3; have zat := block_lt_of_cell a0t; have zot := block_lt_of_cell o0t; clear tok3 _t))
            clear hl7 hh8 hd8 a0r a1r o0r o1r o2r zar zor a0s a1s o0s o1s o2s zas zos a07 a17 o07 o17 o27 za7 zo7
            have hne : ¬ (a = oa ∧ b = ob) := fun q => hoa q.1.symm
            obtain ⟨hi8, hH8, hG8⟩ := keep_take hiT hHT (x := oa) (y := ob)
            rw [← hsp.out] at hi8 hH8 hG8
            rw [hgg] at hG8
            obtain ⟨M1, hM1⟩ : ∃ M1, heldN sp a = M1 := ⟨_, rfl⟩
            have hhe := held_any (h7.below rr3) a ha
            rw [hM1] at hhe
            have tok8 : True := trivial
            go_upto_region 22 with (have _t := tok8; go_at_call 11; refine hhe.mono ?_; rintro e8 w8 ⟨rfl, hb8⟩; have kk8 := bnext kr3 hb8; have a08 := keep_below a0 kk8; have a18 := keep_below a1 kk8; have o08 := keep_below o0 kk8; have o18 := keep_below o1 kk8; have o28 := keep_below o2 kk8; have za8 := block_lt_of_cell a08; have zo8 := block_lt_of_cell o08; clear tok8 _t)
            obtain ⟨W8, hW8⟩ : ∃ W8, W8 = w8 := ⟨_, rfl⟩
            subst hW8
            have h8 := (h7.below rr3).below hb8
            have kb8 := kk8
            clear hhe a08 a18 o08 o18 o28 za8 zo8
            clear a0t a1t o0t o1t o2t zat zot
            have hd := after_drop (by omega) hi8 hH8
            have hT := after_take hd.2.1 hd.2.2.1
            have hE1 : leadsB (sp.drop a b) a (WAS : Nat) = false := by
              rw [hWAS.out, led_old (by rw [hd.2.2.2.2.2]; omega) hd.2.1 (by omega) (by omega) (by rw [hd.2.2.2.1, hG8]; omega) (by rw [hd.2.2.2.1, hG8]; omega), hd.2.2.1]
              rfl
            have hE2 : leadsB ((sp.drop a b).take a b) a (WAS : Nat) = false := by
              rw [hWAS.out, led_old (by rw [hT.2.2.2.2, hd.2.2.2.2.2]; omega) hT.2.1 (by omega) (by omega) (by rw [hT.2.2.2.1, hd.2.2.2.1, hG8]; omega) (by rw [hT.2.2.2.1, hd.2.2.2.1, hG8]; omega), hT.2.2.2.1, hd.2.2.2.1, hG8, decide_eq_false (by omega), Bool.and_false]
            have hE3 : leadsB ((sp.drop a b).take a b) a (linkV ((sp.drop a b).take a b) a b : Nat) = true := by
              rw [led_eq (by rw [hT.2.2.2.2, hd.2.2.2.2.2]; omega), hT.2.1, hT.2.2.1]
              rfl
            obtain ⟨M2, hM2⟩ : ∃ M2, heldN (sp.drop a b) a = M2 := ⟨_, rfl⟩
            have hMs : M2 + 1 = M1 := by have := hd.2.2.2.2.1; omega
            have hM60 : M1 ≤ 60 := by have := heldN_le sp a; omega
            have hw2 : IntKind.i64.wrap ((M1 : Int) - 1) = (M2 : Int) := by rw [IntKind.wrap_i64]; omega
            have hD := drop_any (h8.below (brefl W8).drew) (by omega) a b
            rw [hd.1] at hD
            clear hMs hM60 hM1
            have hX := @Ext.cell W2
            have hzz0 := block_lt_of_cell a0
            refine wp_region_noPanic ?_
            refine wp_region_plan (fun w' => ∃ x : Ext W2, w' = x.w) [([0, 1, 2, 3, 4], 5), ([6, 7, 8, 9, 10], 11), ([12, 13, 14, 15, 16, 17, 19, 20], 18), ([21, 22, 23, 24, 25, 26, 27, 28], 29), ([30, 31, 32, 33, 34, 35], 36), ([37, 38, 39, 40, 41, 42, 43, 44, 45, 46, 47], 48), ([], 49), ([50, 51], 52)] [53, 54] (by kernel_rfl) (by kernel_rfl) (by kernel_rfl) (fun _ _ _ _ _ h => h) ⟨⟨_, kb8.drew⟩, rfl⟩ ?_
            refine wpPlan_cons ?_
            simp only [pickOps, List.getElem?_cons_succ, List.getElem?_cons_zero, Option.elim_some]
            repeat (go_big_quiet_step (fail))
            refine wpQuiet_nil ?_
            refine planAct_some (fun K hK => ?_)
            go_simp
            refine (hD).mono ?_
            rintro e1 x1 ⟨rfl, g1, q1⟩; have m1 := keeps_fp q1 kb8.drew p1 p2 p3; have hE := leads_any g1 a WAS hWU; rw [hE1] at hE
            go_wp2_with fail
            refine hK.out _ _ ⟨⟨_, m1⟩, rfl⟩ ?_
            clear hK K
            refine wpPlan_cons ?_
            simp only [pickOps, List.getElem?_cons_succ, List.getElem?_cons_zero, Option.elim_some]
            repeat (go_big_quiet_step (fail))
            refine wpQuiet_nil ?_
            refine planAct_some (fun K hK => ?_)
            go_simp
            refine (hE).mono ?_
            rintro e2 x2 ⟨rfl, q2⟩; have m2 := bnext m1 q2; have g2 := g1.below q2; have hF := held_any g2 a ha; rw [hM2] at hF
            go_wp2_with fail
            refine hK.out _ _ ⟨⟨_, m2⟩, rfl⟩ ?_
            clear hK K
            refine wpPlan_cons ?_
            simp only [pickOps, List.getElem?_cons_succ, List.getElem?_cons_zero, Option.elim_some]
            repeat (go_big_quiet_step (fail))
            refine wpQuiet_nil ?_
            refine planAct_some (fun K hK => ?_)
            go_simp
            refine (hF).mono ?_
            rintro e3 x3 ⟨rfl, q3⟩; have m3 := bnext m2 q3; have g3 := g2.below q3; have hI := take_any g3 (by omega) a b; rw [hT.1] at hI
            go_wp2_with fail
            refine hK.out _ _ ⟨⟨_, m3⟩, rfl⟩ ?_
            clear hK K
            refine wpPlan_cons ?_
            simp only [pickOps, List.getElem?_cons_succ, List.getElem?_cons_zero, Option.elim_some]
            repeat (go_big_quiet_step (fail))
            refine wpQuiet_nil ?_
            refine planAct_some (fun K hK => ?_)
            go_simp
            refine (hI).mono ?_
            rintro e4 x4 ⟨rfl, g4, q4⟩; have m4 := keeps_fp q4 m3 p1 p2 p3; have hJ := leads_any g4 a WAS hWU; rw [hE2] at hJ
            go_wp2_with fail
            refine hK.out _ _ ⟨⟨_, m4⟩, rfl⟩ ?_
            clear hK K
            refine wpPlan_cons ?_
            simp only [pickOps, List.getElem?_cons_succ, List.getElem?_cons_zero, Option.elim_some]
            repeat (go_big_quiet_step (fail))
            refine wpQuiet_nil ?_
            refine planAct_some (fun K hK => ?_)
            go_simp
            refine (hJ).mono ?_
            rintro e5 x5 ⟨rfl, q5⟩; have m5 := bnext m4 q5; have g5 := g4.below q5; have hL := link_any g5 a b
            go_wp2_with fail
            refine hK.out _ _ ⟨⟨_, m5⟩, rfl⟩ ?_
            clear hK K
            refine wpPlan_cons ?_
            simp only [pickOps, List.getElem?_cons_succ, List.getElem?_cons_zero, Option.elim_some]
            repeat (go_big_quiet_step (fail))
            refine wpQuiet_nil ?_
            refine planAct_some (fun K hK => ?_)
            go_simp
            refine (hL).mono ?_
            rintro e6 x6 ⟨rfl, q6⟩; have m6 := bnext m5 q6; have g6 := g5.below q6; have hO := leads_any g6 a (linkV ((sp.drop a b).take a b) a b : Nat) (U64.nat (linkV_lt _ _ _)); rw [hE3] at hO
            go_wp2_with fail
            refine hK.out _ _ ⟨⟨_, m6⟩, rfl⟩ ?_
            clear hK K
            refine wpPlan_cons ?_
            simp only [pickOps, List.getElem?_cons_succ, List.getElem?_cons_zero, Option.elim_some]
            repeat (go_big_quiet_step (fail))
            refine wpQuiet_nil ?_
            refine planAct_some (fun K hK => ?_)
            go_simp
            refine (hO).mono ?_
            rintro e7 x7 ⟨rfl, q7⟩; have m7 := bnext m6 q7
            go_wp2_with fail
            refine hK.out _ _ ⟨⟨_, m7⟩, rfl⟩ ?_
            clear hK K
            refine wpPlan_cons ?_
            simp only [pickOps, List.getElem?_cons_succ, List.getElem?_cons_zero, Option.elim_some]
            repeat (go_big_quiet_step (fail))
            refine wpQuiet_nil ?_
            refine planAct_some (fun K hK => ?_)
            go_simp
            refine (lives07 _).mono ?_
            rintro e8 x8 ⟨rfl, q8⟩
            go_wp2_with fail
            refine hK.out _ _ ⟨⟨_, (bnext m7 q8)⟩, rfl⟩ ?_
            clear hK K
            refine wpPlan_last ?_
            simp only [pickOps, List.getElem?_cons_succ, List.getElem?_cons_zero, Option.elim_some]
            repeat (go_big_quiet_step (fail))
            refine wpQuiet_nil ?_
            refine NoPanic.normal ?_
            clear hX hzz0
            go_wp2_with fail
            go_ret
            exact ⟨rfl, bnext kb0 (bnext m7 q8)⟩
      | false =>
        obtain ⟨sp, hsp'⟩ : ∃ sp, s.drop oa ob = sp := ⟨_, rfl⟩
        have hsp : Hid (sp = s.drop oa ob) := hsp'.symm
        have hdim := drop_dim s oa ob
        have hdo := drop_any h6 (by omega) oa ob
        rw [hsp'] at hdo hdim
        clear hsp'
        have hspl : sp.sl = 20 := by rw [hdim.2]; exact hsl
        have tok7 : True := trivial
        go_upto_region 15 with (have _t := tok7; go_at_call 9; refine hdo.mono ?_; rintro e7 w7 ⟨rfl, h7, k7⟩; have kb7 := keeps_fp k7 kb6 p1 p2 p3; have a07 := keep_below a0 kb7; have a17 := keep_below a1 kb7; have o07 := keep_below o0 kb7; have o17 := keep_below o1 kb7; have o27 := keep_below o2 kb7; have za7 := block_lt_of_cell a07; have zo7 := block_lt_of_cell o07; clear tok7 _t)
        obtain ⟨W7, hW7⟩ : ∃ W7, W7 = w7 := ⟨_, rfl⟩
        subst hW7
        clear hdo hdim k7 a06 a16 o06 o16 o26 za6 zo6
        by_cases hoa : oa = a
        · cases LED with
          | false =>
            have t1 : (oa != a) = false := by rw [hoa]; exact bne_self_eq_false _
            have t2 : (oa == a) = true := by rw [hoa]; exact beq_self_eq_true _
            have HOA := Lib.hid hoa
            clear hoa
            have tok9 : True := trivial
            go_wp2_with (have _t := tok9; go_at_call 6; refine (lives07 _).mono ?_; rintro e9 wz ⟨rfl, hbz⟩; clear tok9 _t)
            go_ret
            exact ⟨rfl, bnext kb0 (bnext (kb7) hbz)⟩
          | true =>
            obtain ⟨hiT, hHT⟩ : inR s a b = true ∧ s.H a b = true := by simpa using hLED.out
            have hWAS := hWAS hiT
            have t1 : (oa != a) = false := by rw [hoa]; exact bne_self_eq_false _
            have t2 : (oa == a) = true := by rw [hoa]; exact beq_self_eq_true _
            have HOA := Lib.hid hoa
            clear hoa
            by_cases hob : ob = b
            · have t3 : (ob == b) = true := by rw [hob]; exact beq_self_eq_true _
              have hsp2 : Hid (sp = s.drop a b) := by rw [Hid, hsp.out, HOA.out, hob]
              clear hob
              have hdd := after_drop (s := s) (by omega) hiT hHT
              rw [← hsp2.out] at hdd
              have hi8 := hdd.2.1
              have hH8 := hdd.2.2.1
              have hG8 := hdd.2.2.2.1
              rw [hgg] at hG8
              have hML := hdd.2.2.2.2.1
              rw [hHN] at hML
              have hM60 := heldN_le s a
              rw [hHN] at hM60
              clear hdd
              obtain ⟨M1, hM1⟩ : ∃ M1, heldN sp a = M1 := ⟨_, rfl⟩
              have hhe := held_any h7 a ha
              rw [hM1] at hhe
              have tok8 : True := trivial
              go_upto_region 21 with (have _t := tok8; go_at_call 11; refine hhe.mono ?_; rintro e8 w8 ⟨rfl, hb8⟩; have kk8 := bnext kb7 hb8; have a08 := keep_below a0 kk8; have a18 := keep_below a1 kk8; have o08 := keep_below o0 kk8; have o18 := keep_below o1 kk8; have o28 := keep_below o2 kk8; have za8 := block_lt_of_cell a08; have zo8 := block_lt_of_cell o08; clear tok8 _t)
              obtain ⟨W8, hW8⟩ : ∃ W8, W8 = w8 := ⟨_, rfl⟩
              subst hW8
              have h8 := h7.below hb8
              have kb8 := kk8
              clear hhe a08 a18 o08 o18 o28 za8 zo8
              clear a07 a17 o07 o17 o27 za7 zo7
              have hE1 : leadsB sp a (WAS : Nat) = false := by
                rw [hWAS.out, led_old (by omega) hi8 (by omega) (by omega) (by rw [hG8]; omega) (by rw [hG8]; omega), hH8]
                rfl
              have hE3 : leadsB sp a (linkV sp a b : Nat) = false := by
                rw [led_eq (by omega), hH8, Bool.and_false]
              have hw2 : IntKind.i64.wrap ((HN : Int) - 1) = (M1 : Int) := by rw [IntKind.wrap_i64]; omega
              have hD := leads_any (h8.below (brefl W8).drew) a WAS hWU
              rw [hE1] at hD
              clear hM1 hML
              have hX := @Ext.cell W2
              have hzz0 := block_lt_of_cell a0
              refine wp_region_noPanic ?_
              refine wp_region_plan (fun w' => ∃ x : Ext W2, w' = x.w) [([0, 1, 2, 3], 4), ([5, 6, 7, 8, 9, 10, 11, 12, 13, 14], 15), ([], 16), ([17, 18, 19, 20, 21, 22, 23, 24, 25], 26)] [27, 28] (by kernel_rfl) (by kernel_rfl) (by kernel_rfl) (fun _ _ _ _ _ h => h) ⟨⟨_, kb8.drew⟩, rfl⟩ ?_
              refine wpPlan_cons ?_
              simp only [pickOps, List.getElem?_cons_succ, List.getElem?_cons_zero, Option.elim_some]
              repeat (go_big_quiet_step (fail))
              refine wpQuiet_nil ?_
              refine planAct_some (fun K hK => ?_)
              go_simp
              refine (hD).mono ?_
              rintro e1 x1 ⟨rfl, q1⟩; have m1 := bnext kb8.drew q1; have g1 := h8.below (of_drew q1); have hL := link_any g1 a b
              go_wp2_with fail
              refine hK.out _ _ ⟨⟨_, m1⟩, rfl⟩ ?_
              clear hK K
              refine wpPlan_cons ?_
              simp only [pickOps, List.getElem?_cons_succ, List.getElem?_cons_zero, Option.elim_some]
              repeat (go_big_quiet_step (fail))
              refine wpQuiet_nil ?_
              refine planAct_some (fun K hK => ?_)
              go_simp
              refine (hL).mono ?_
              rintro e2 x2 ⟨rfl, q2⟩; have m2 := bnext m1 q2; have g2 := g1.below q2; have hO := leads_any g2 a (linkV sp a b : Nat) (U64.nat (linkV_lt _ _ _)); rw [hE3] at hO
              go_wp2_with fail
              refine hK.out _ _ ⟨⟨_, m2⟩, rfl⟩ ?_
              clear hK K
              refine wpPlan_cons ?_
              simp only [pickOps, List.getElem?_cons_succ, List.getElem?_cons_zero, Option.elim_some]
              repeat (go_big_quiet_step (fail))
              refine wpQuiet_nil ?_
              refine planAct_some (fun K hK => ?_)
              go_simp
              refine (hO).mono ?_
              rintro e3 x3 ⟨rfl, q3⟩; have m3 := bnext m2 q3
              go_wp2_with fail
              refine hK.out _ _ ⟨⟨_, m3⟩, rfl⟩ ?_
              clear hK K
              refine wpPlan_cons ?_
              simp only [pickOps, List.getElem?_cons_succ, List.getElem?_cons_zero, Option.elim_some]
              repeat (go_big_quiet_step (fail))
              refine wpQuiet_nil ?_
              refine planAct_some (fun K hK => ?_)
              go_simp
              refine (lives07 _).mono ?_
              rintro e4 x4 ⟨rfl, q4⟩
              go_wp2_with fail
              refine hK.out _ _ ⟨⟨_, (bnext m3 q4)⟩, rfl⟩ ?_
              clear hK K
              refine wpPlan_last ?_
              simp only [pickOps, List.getElem?_cons_succ, List.getElem?_cons_zero, Option.elim_some]
              repeat (go_big_quiet_step (fail))
              refine wpQuiet_nil ?_
              refine NoPanic.normal ?_
              clear hX hzz0
              go_wp2_with fail
              go_ret
              exact ⟨rfl, bnext kb0 (bnext m3 q4)⟩
            · have hne : ¬ (a = oa ∧ b = ob) := fun q => hob q.2.symm
              have t3 : (ob == b) = false := beq_eq_false_iff_ne.2 hob
              obtain ⟨hi8, hH8, hG8⟩ := keep_drop hiT hHT hne (x := oa) (y := ob)
              rw [← hsp.out] at hi8 hH8 hG8
              rw [hgg] at hG8
              obtain ⟨M1, hM1⟩ : ∃ M1, heldN sp a = M1 := ⟨_, rfl⟩
              have hhe := held_any h7 a ha
              rw [hM1] at hhe
              have tok8 : True := trivial
              go_upto_region 22 with (have _t := tok8; go_at_call 11; refine hhe.mono ?_; rintro e8 w8 ⟨rfl, hb8⟩; have kk8 := bnext kb7 hb8; have a08 := keep_below a0 kk8; have a18 := keep_below a1 kk8; have o08 := keep_below o0 kk8; have o18 := keep_below o1 kk8; have o28 := keep_below o2 kk8; have za8 := block_lt_of_cell a08; have zo8 := block_lt_of_cell o08; clear tok8 _t)
              obtain ⟨W8, hW8⟩ : ∃ W8, W8 = w8 := ⟨_, rfl⟩
              subst hW8
              have h8 := h7.below hb8
              have kb8 := kk8
              clear hhe a08 a18 o08 o18 o28 za8 zo8
              clear a07 a17 o07 o17 o27 za7 zo7
              have hd := after_drop (by omega) hi8 hH8
              have hT := after_take hd.2.1 hd.2.2.1
              have hE1 : leadsB (sp.drop a b) a (WAS : Nat) = false := by
                rw [hWAS.out, led_old (by rw [hd.2.2.2.2.2]; omega) hd.2.1 (by omega) (by omega) (by rw [hd.2.2.2.1, hG8]; omega) (by rw [hd.2.2.2.1, hG8]; omega), hd.2.2.1]
                rfl
              have hE2 : leadsB ((sp.drop a b).take a b) a (WAS : Nat) = false := by
                rw [hWAS.out, led_old (by rw [hT.2.2.2.2, hd.2.2.2.2.2]; omega) hT.2.1 (by omega) (by omega) (by rw [hT.2.2.2.1, hd.2.2.2.1, hG8]; omega) (by rw [hT.2.2.2.1, hd.2.2.2.1, hG8]; omega), hT.2.2.2.1, hd.2.2.2.1, hG8, decide_eq_false (by omega), Bool.and_false]
              have hE3 : leadsB ((sp.drop a b).take a b) a (linkV ((sp.drop a b).take a b) a b : Nat) = true := by
                rw [led_eq (by rw [hT.2.2.2.2, hd.2.2.2.2.2]; omega), hT.2.1, hT.2.2.1]
                rfl
              obtain ⟨M2, hM2⟩ : ∃ M2, heldN (sp.drop a b) a = M2 := ⟨_, rfl⟩
              have hMs : M2 + 1 = M1 := by have := hd.2.2.2.2.1; omega
              have hM60 : M1 ≤ 60 := by have := heldN_le sp a; omega
              have hw2 : IntKind.i64.wrap ((M1 : Int) - 1) = (M2 : Int) := by rw [IntKind.wrap_i64]; omega
              have hD := drop_any (h8.below (brefl W8).drew) (by omega) a b
              rw [hd.1] at hD
              clear hMs hM60 hM1
              have hX := @Ext.cell W2
              have hzz0 := block_lt_of_cell a0
              refine wp_region_noPanic ?_
              refine wp_region_plan (fun w' => ∃ x : Ext W2, w' = x.w) [([0, 1, 2, 3, 4], 5), ([6, 7, 8, 9, 10], 11), ([12, 13, 14, 15, 16, 17, 19, 20], 18), ([21, 22, 23, 24, 25, 26, 27, 28], 29), ([30, 31, 32, 33, 34, 35], 36), ([37, 38, 39, 40, 41, 42, 43, 44, 45, 46, 47], 48), ([], 49), ([50, 51], 52)] [53, 54] (by kernel_rfl) (by kernel_rfl) (by kernel_rfl) (fun _ _ _ _ _ h => h) ⟨⟨_, kb8.drew⟩, rfl⟩ ?_
              refine wpPlan_cons ?_
              simp only [pickOps, List.getElem?_cons_succ, List.getElem?_cons_zero, Option.elim_some]
              repeat (go_big_quiet_step (fail))
              refine wpQuiet_nil ?_
              refine planAct_some (fun K hK => ?_)
              go_simp
              refine (hD).mono ?_
              rintro e1 x1 ⟨rfl, g1, q1⟩; have m1 := keeps_fp q1 kb8.drew p1 p2 p3; have hE := leads_any g1 a WAS hWU; rw [hE1] at hE
              go_wp2_with fail
              refine hK.out _ _ ⟨⟨_, m1⟩, rfl⟩ ?_
              clear hK K
              refine wpPlan_cons ?_
              simp only [pickOps, List.getElem?_cons_succ, List.getElem?_cons_zero, Option.elim_some]
              repeat (go_big_quiet_step (fail))
              refine wpQuiet_nil ?_
              refine planAct_some (fun K hK => ?_)
              go_simp
              refine (hE).mono ?_
              rintro e2 x2 ⟨rfl, q2⟩; have m2 := bnext m1 q2; have g2 := g1.below q2; have hF := held_any g2 a ha; rw [hM2] at hF
              go_wp2_with fail
              refine hK.out _ _ ⟨⟨_, m2⟩, rfl⟩ ?_
              clear hK K
              refine wpPlan_cons ?_
              simp only [pickOps, List.getElem?_cons_succ, List.getElem?_cons_zero, Option.elim_some]
              repeat (go_big_quiet_step (fail))
              refine wpQuiet_nil ?_
              refine planAct_some (fun K hK => ?_)
              go_simp
              refine (hF).mono ?_
              rintro e3 x3 ⟨rfl, q3⟩; have m3 := bnext m2 q3; have g3 := g2.below q3; have hI := take_any g3 (by omega) a b; rw [hT.1] at hI
              go_wp2_with fail
              refine hK.out _ _ ⟨⟨_, m3⟩, rfl⟩ ?_
              clear hK K
              refine wpPlan_cons ?_
              simp only [pickOps, List.getElem?_cons_succ, List.getElem?_cons_zero, Option.elim_some]
              repeat (go_big_quiet_step (fail))
              refine wpQuiet_nil ?_
              refine planAct_some (fun K hK => ?_)
              go_simp
              refine (hI).mono ?_
              rintro e4 x4 ⟨rfl, g4, q4⟩; have m4 := keeps_fp q4 m3 p1 p2 p3; have hJ := leads_any g4 a WAS hWU; rw [hE2] at hJ
              go_wp2_with fail
              refine hK.out _ _ ⟨⟨_, m4⟩, rfl⟩ ?_
              clear hK K
              refine wpPlan_cons ?_
              simp only [pickOps, List.getElem?_cons_succ, List.getElem?_cons_zero, Option.elim_some]
              repeat (go_big_quiet_step (fail))
              refine wpQuiet_nil ?_
              refine planAct_some (fun K hK => ?_)
              go_simp
              refine (hJ).mono ?_
              rintro e5 x5 ⟨rfl, q5⟩; have m5 := bnext m4 q5; have g5 := g4.below q5; have hL := link_any g5 a b
              go_wp2_with fail
              refine hK.out _ _ ⟨⟨_, m5⟩, rfl⟩ ?_
              clear hK K
              refine wpPlan_cons ?_
              simp only [pickOps, List.getElem?_cons_succ, List.getElem?_cons_zero, Option.elim_some]
              repeat (go_big_quiet_step (fail))
              refine wpQuiet_nil ?_
              refine planAct_some (fun K hK => ?_)
              go_simp
              refine (hL).mono ?_
              rintro e6 x6 ⟨rfl, q6⟩; have m6 := bnext m5 q6; have g6 := g5.below q6; have hO := leads_any g6 a (linkV ((sp.drop a b).take a b) a b : Nat) (U64.nat (linkV_lt _ _ _)); rw [hE3] at hO
              go_wp2_with fail
              refine hK.out _ _ ⟨⟨_, m6⟩, rfl⟩ ?_
              clear hK K
              refine wpPlan_cons ?_
              simp only [pickOps, List.getElem?_cons_succ, List.getElem?_cons_zero, Option.elim_some]
              repeat (go_big_quiet_step (fail))
              refine wpQuiet_nil ?_
              refine planAct_some (fun K hK => ?_)
              go_simp
              refine (hO).mono ?_
              rintro e7 x7 ⟨rfl, q7⟩; have m7 := bnext m6 q7
              go_wp2_with fail
              refine hK.out _ _ ⟨⟨_, m7⟩, rfl⟩ ?_
              clear hK K
              refine wpPlan_cons ?_
              simp only [pickOps, List.getElem?_cons_succ, List.getElem?_cons_zero, Option.elim_some]
              repeat (go_big_quiet_step (fail))
              refine wpQuiet_nil ?_
              refine planAct_some (fun K hK => ?_)
              go_simp
              refine (lives07 _).mono ?_
              rintro e8 x8 ⟨rfl, q8⟩
              go_wp2_with fail
              refine hK.out _ _ ⟨⟨_, (bnext m7 q8)⟩, rfl⟩ ?_
              clear hK K
              refine wpPlan_last ?_
              simp only [pickOps, List.getElem?_cons_succ, List.getElem?_cons_zero, Option.elim_some]
              repeat (go_big_quiet_step (fail))
              refine wpQuiet_nil ?_
              refine NoPanic.normal ?_
              clear hX hzz0
              go_wp2_with fail
              go_ret
              exact ⟨rfl, bnext kb0 (bnext m7 q8)⟩
        · cases LED with
          | false =>
            have hS := drop_other (s := s) hoa ob
            have hl7 := link_any h7 a b
            rw [hsp.out, hS.link, hWL] at hl7
            have t1 : (oa != a) = true := bne_iff_ne.2 hoa
            have t2 : (oa == a) = false := beq_eq_false_iff_ne.2 hoa
            have hh8 := fun (W : World) (hW : Below W7.heap.size W7 W) => held_any (h7.below hW) a ha
            simp only [hsp.out, hS.held, hHN] at hh8
            have hd8 := fun (W : World) (hW : Below W7.heap.size W7 W) => leads_any (h7.below hW) a WAS hWU
            simp only [hsp.out, hS.leads, hLV] at hd8
            have tok1 : True := trivial; have tok2 : True := trivial; have tok3 : True := trivial
            go_upto_region 18 with (first
              | (have _t := tok1; go_at_call 10; refine hl7.mono ?_; rintro e1 u1 ⟨rfl, r1⟩; have kr1 := bnext kb7 r1; have a0r := keep_below a0 kr1; have a1r := keep_below a1 kr1; have o0r := keep_below o0 kr1; have o1r := keep_below o1 kr1; have o2r := keep_below o2 kr1; have zar := block_lt_of_cell a0r; have zor := block_lt_of_cell o0r; clear tok1 _t)
              | (have _t := tok2; go_at_call 11; refine (hh8 _ r1).mono ?_; rintro e2 u2 ⟨rfl, r2⟩; have kr2 := bnext kr1 r2; have rr2 := bnext r1 r2; have a0s := keep_below a0 kr2; have a1s := keep_below a1 kr2; have o0s := keep_below o0 kr2; have o1s := keep_below o1 kr2; have o2s := keep_below o2 kr2; have zas := block_lt_of_cell a0s; have zos := block_lt_of_cell o0s; clear tok2 _t)
              | (have _t := tok3; go_at_call 12; refine (hd8 _ rr2).mono ?_; rintro e3 u3 ⟨rfl, r3⟩; have kr3 := bnext kr2 r3; have rr3 := bnext rr2 r3; have a0t := keep_below a0 kr3; have a1t := keep_below a1 kr3; have o0t := keep_below o0 kr3; have o1t := keep_below o1 kr3; have o2t := keep_below o2 kr3; have zat := block_lt_of_cell a0t; have zot := block_lt_of_cell o0t; clear tok3 _t))
            clear hl7 hh8 hd8 a0r a1r o0r o1r o2r zar zor a0s a1s o0s o1s o2s zas zos a07 a17 o07 o17 o27 za7 zo7
            have tok9 : True := trivial
            go_wp2_with (have _t := tok9; go_at_call 6; refine (lives07 _).mono ?_; rintro e9 wz ⟨rfl, hbz⟩; clear tok9 _t)
            go_ret
            exact ⟨rfl, bnext kb0 (bnext (kr3) hbz)⟩
          | true =>
            obtain ⟨hiT, hHT⟩ : inR s a b = true ∧ s.H a b = true := by simpa using hLED.out
            have hWAS := hWAS hiT
            have hS := drop_other (s := s) hoa ob
            have hl7 := link_any h7 a b
            rw [hsp.out, hS.link, hWL] at hl7
            have t1 : (oa != a) = true := bne_iff_ne.2 hoa
            have t2 : (oa == a) = false := beq_eq_false_iff_ne.2 hoa
            have hh8 := fun (W : World) (hW : Below W7.heap.size W7 W) => held_any (h7.below hW) a ha
            simp only [hsp.out, hS.held, hHN] at hh8
            have hd8 := fun (W : World) (hW : Below W7.heap.size W7 W) => leads_any (h7.below hW) a WAS hWU
            simp only [hsp.out, hS.leads, hLV] at hd8
            have tok1 : True := trivial; have tok2 : True := trivial; have tok3 : True := trivial
            go_upto_region 19 with (first
              | (have _t := tok1; go_at_call 10; refine hl7.mono ?_; rintro e1 u1 ⟨rfl, r1⟩; have kr1 := bnext kb7 r1; have a0r := keep_below a0 kr1; have a1r := keep_below a1 kr1; have o0r := keep_below o0 kr1; have o1r := keep_below o1 kr1; have o2r := keep_below o2 kr1; have zar := block_lt_of_cell a0r; have zor := block_lt_of_cell o0r; clear tok1 _t)
              | (have _t := tok2; go_at_call 11; refine (hh8 _ r1).mono ?_; rintro e2 u2 ⟨rfl, r2⟩; have kr2 := bnext kr1 r2; have rr2 := bnext r1 r2; have a0s := keep_below a0 kr2; have a1s := keep_below a1 kr2; have o0s := keep_below o0 kr2; have o1s := keep_below o1 kr2; have o2s := keep_below o2 kr2; have zas := block_lt_of_cell a0s; have zos := block_lt_of_cell o0s; clear tok2 _t)
              | (have _t := tok3; go_at_call 12; refine (hd8 _ rr2).mono ?_; rintro e3 u3 ⟨rfl, r3⟩; have kr3 := bnext kr2 r3; have rr3 := bnext rr2 r3; have a0t := keep_below a0 kr3; have a1t := keep_below a1 kr3; have o0t := keep_below o0 kr3; have o1t := keep_below o1 kr3; have o2t := keep_below o2 kr3; have zat := block_lt_of_cell a0t; have zot := block_lt_of_cell o0t; clear tok3 _t))
            clear hl7 hh8 hd8 a0r a1r o0r o1r o2r zar zor a0s a1s o0s o1s o2s zas zos a07 a17 o07 o17 o27 za7 zo7
            have hne : ¬ (a = oa ∧ b = ob) := fun q => hoa q.1.symm
            obtain ⟨hi8, hH8, hG8⟩ := keep_drop hiT hHT hne (x := oa) (y := ob)
            rw [← hsp.out] at hi8 hH8 hG8
            rw [hgg] at hG8
            obtain ⟨M1, hM1⟩ : ∃ M1, heldN sp a = M1 := ⟨_, rfl⟩
            have hhe := held_any (h7.below rr3) a ha
            rw [hM1] at hhe
            have tok8 : True := trivial
            go_upto_region 22 with (have _t := tok8; go_at_call 11; refine hhe.mono ?_; rintro e8 w8 ⟨rfl, hb8⟩; have kk8 := bnext kr3 hb8; have a08 := keep_below a0 kk8; have a18 := keep_below a1 kk8; have o08 := keep_below o0 kk8; have o18 := keep_below o1 kk8; have o28 := keep_below o2 kk8; have za8 := block_lt_of_cell a08; have zo8 := block_lt_of_cell o08; clear tok8 _t)
            obtain ⟨W8, hW8⟩ : ∃ W8, W8 = w8 := ⟨_, rfl⟩
            subst hW8
            have h8 := (h7.below rr3).below hb8
            have kb8 := kk8
            clear hhe a08 a18 o08 o18 o28 za8 zo8
            clear a0t a1t o0t o1t o2t zat zot
            have hd := after_drop (by omega) hi8 hH8
            have hT := after_take hd.2.1 hd.2.2.1
            have hE1 : leadsB (sp.drop a b) a (WAS : Nat) = false := by
              rw [hWAS.out, led_old (by rw [hd.2.2.2.2.2]; omega) hd.2.1 (by omega) (by omega) (by rw [hd.2.2.2.1, hG8]; omega) (by rw [hd.2.2.2.1, hG8]; omega), hd.2.2.1]
              rfl
            have hE2 : leadsB ((sp.drop a b).take a b) a (WAS : Nat) = false := by
              rw [hWAS.out, led_old (by rw [hT.2.2.2.2, hd.2.2.2.2.2]; omega) hT.2.1 (by omega) (by omega) (by rw [hT.2.2.2.1, hd.2.2.2.1, hG8]; omega) (by rw [hT.2.2.2.1, hd.2.2.2.1, hG8]; omega), hT.2.2.2.1, hd.2.2.2.1, hG8, decide_eq_false (by omega), Bool.and_false]
            have hE3 : leadsB ((sp.drop a b).take a b) a (linkV ((sp.drop a b).take a b) a b : Nat) = true := by
              rw [led_eq (by rw [hT.2.2.2.2, hd.2.2.2.2.2]; omega), hT.2.1, hT.2.2.1]
              rfl
            obtain ⟨M2, hM2⟩ : ∃ M2, heldN (sp.drop a b) a = M2 := ⟨_, rfl⟩
            have hMs : M2 + 1 = M1 := by have := hd.2.2.2.2.1; omega
            have hM60 : M1 ≤ 60 := by have := heldN_le sp a; omega
            have hw2 : IntKind.i64.wrap ((M1 : Int) - 1) = (M2 : Int) := by rw [IntKind.wrap_i64]; omega
            have hD := drop_any (h8.below (brefl W8).drew) (by omega) a b
            rw [hd.1] at hD
            clear hMs hM60 hM1
            have hX := @Ext.cell W2
            have hzz0 := block_lt_of_cell a0
            refine wp_region_noPanic ?_
            refine wp_region_plan (fun w' => ∃ x : Ext W2, w' = x.w) [([0, 1, 2, 3, 4], 5), ([6, 7, 8, 9, 10], 11), ([12, 13, 14, 15, 16, 17, 19, 20], 18), ([21, 22, 23, 24, 25, 26, 27, 28], 29), ([30, 31, 32, 33, 34, 35], 36), ([37, 38, 39, 40, 41, 42, 43, 44, 45, 46, 47], 48), ([], 49), ([50, 51], 52)] [53, 54] (by kernel_rfl) (by kernel_rfl) (by kernel_rfl) (fun _ _ _ _ _ h => h) ⟨⟨_, kb8.drew⟩, rfl⟩ ?_
            refine wpPlan_cons ?_
            simp only [pickOps, List.getElem?_cons_succ, List.getElem?_cons_zero, Option.elim_some]
            repeat (go_big_quiet_step (fail))
            refine wpQuiet_nil ?_
            refine planAct_some (fun K hK => ?_)
            go_simp
            refine (hD).mono ?_
            rintro e1 x1 ⟨rfl, g1, q1⟩; have m1 := keeps_fp q1 kb8.drew p1 p2 p3; have hE := leads_any g1 a WAS hWU; rw [hE1] at hE
            go_wp2_with fail
            refine hK.out _ _ ⟨⟨_, m1⟩, rfl⟩ ?_
            clear hK K
            refine wpPlan_cons ?_
            simp only [pickOps, List.getElem?_cons_succ, List.getElem?_cons_zero, Option.elim_some]
            repeat (go_big_quiet_step (fail))
            refine wpQuiet_nil ?_
            refine planAct_some (fun K hK => ?_)
            go_simp
            refine (hE).mono ?_
            rintro e2 x2 ⟨rfl, q2⟩; have m2 := bnext m1 q2; have g2 := g1.below q2; have hF := held_any g2 a ha; rw [hM2] at hF
            go_wp2_with fail
            refine hK.out _ _ ⟨⟨_, m2⟩, rfl⟩ ?_
            clear hK K
            refine wpPlan_cons ?_
            simp only [pickOps, List.getElem?_cons_succ, List.getElem?_cons_zero, Option.elim_some]
            repeat (go_big_quiet_step (fail))
            refine wpQuiet_nil ?_
            refine planAct_some (fun K hK => ?_)
            go_simp
            refine (hF).mono ?_
            rintro e3 x3 ⟨rfl, q3⟩; have m3 := bnext m2 q3; have g3 := g2.below q3; have hI := take_any g3 (by omega) a b; rw [hT.1] at hI
            go_wp2_with fail
            refine hK.out _ _ ⟨⟨_, m3⟩, rfl⟩ ?_
            clear hK K
            refine wpPlan_cons ?_
            simp only [pickOps, List.getElem?_cons_succ, List.getElem?_cons_zero, Option.elim_some]
            repeat (go_big_quiet_step (fail))
            refine wpQuiet_nil ?_
            refine planAct_some (fun K hK => ?_)
            go_simp
            refine (hI).mono ?_
            rintro e4 x4 ⟨rfl, g4, q4⟩; have m4 := keeps_fp q4 m3 p1 p2 p3; have hJ := leads_any g4 a WAS hWU; rw [hE2] at hJ
            go_wp2_with fail
            refine hK.out _ _ ⟨⟨_, m4⟩, rfl⟩ ?_
            clear hK K
            refine wpPlan_cons ?_
            simp only [pickOps, List.getElem?_cons_succ, List.getElem?_cons_zero, Option.elim_some]
            repeat (go_big_quiet_step (fail))
            refine wpQuiet_nil ?_
            refine planAct_some (fun K hK => ?_)
            go_simp
            refine (hJ).mono ?_
            rintro e5 x5 ⟨rfl, q5⟩; have m5 := bnext m4 q5; have g5 := g4.below q5; have hL := link_any g5 a b
            go_wp2_with fail
            refine hK.out _ _ ⟨⟨_, m5⟩, rfl⟩ ?_
            clear hK K
            refine wpPlan_cons ?_
            simp only [pickOps, List.getElem?_cons_succ, List.getElem?_cons_zero, Option.elim_some]
            repeat (go_big_quiet_step (fail))
            refine wpQuiet_nil ?_
            refine planAct_some (fun K hK => ?_)
            go_simp
            refine (hL).mono ?_
            rintro e6 x6 ⟨rfl, q6⟩; have m6 := bnext m5 q6; have g6 := g5.below q6; have hO := leads_any g6 a (linkV ((sp.drop a b).take a b) a b : Nat) (U64.nat (linkV_lt _ _ _)); rw [hE3] at hO
            go_wp2_with fail
            refine hK.out _ _ ⟨⟨_, m6⟩, rfl⟩ ?_
            clear hK K
            refine wpPlan_cons ?_
            simp only [pickOps, List.getElem?_cons_succ, List.getElem?_cons_zero, Option.elim_some]
            repeat (go_big_quiet_step (fail))
            refine wpQuiet_nil ?_
            refine planAct_some (fun K hK => ?_)
            go_simp
            refine (hO).mono ?_
            rintro e7 x7 ⟨rfl, q7⟩; have m7 := bnext m6 q7
            go_wp2_with fail
            refine hK.out _ _ ⟨⟨_, m7⟩, rfl⟩ ?_
            clear hK K
            refine wpPlan_cons ?_
            simp only [pickOps, List.getElem?_cons_succ, List.getElem?_cons_zero, Option.elim_some]
            repeat (go_big_quiet_step (fail))
            refine wpQuiet_nil ?_
            refine planAct_some (fun K hK => ?_)
            go_simp
            refine (lives07 _).mono ?_
            rintro e8 x8 ⟨rfl, q8⟩
            go_wp2_with fail
            refine hK.out _ _ ⟨⟨_, (bnext m7 q8)⟩, rfl⟩ ?_
            clear hK K
            refine wpPlan_last ?_
            simp only [pickOps, List.getElem?_cons_succ, List.getElem?_cons_zero, Option.elim_some]
            repeat (go_big_quiet_step (fail))
            refine wpQuiet_nil ?_
            refine NoPanic.normal ?_
            clear hX hzz0
            go_wp2_with fail
            go_ret
            exact ⟨rfl, bnext kb0 (bnext m7 q8)⟩
end Go.Proofs.Ytlnnnaefmgikpaa
