/- A configuration of a line's words. -/
import Derived.Test.YtjjgngccgjpnaaaGreatDoorTxtG
import Derived.Test.YtjjgngccgjpnaaaGreatDoorPlanN
namespace Go.Proofs.YtjjgngccgjpnaaaGreatDoor
set_option linter.unusedVariables false
set_option linter.unusedSimpArgs false
open Go.RowKit

def K2 (a b : Nat) : Nat → Prop := fun x => x = a ∨ x = b
def Cf.setO (c : Cf) : Nat → Int → Cf
  | 0, v => { c with o0 := v }
  | 1, v => { c with o1 := v }
  | 2, v => { c with o2 := v }
  | 3, v => { c with o3 := v }
  | 4, v => { c with o4 := v }
  | 5, v => { c with o5 := v }
  | 6, v => { c with o6 := v }
  | 7, v => { c with o7 := v }
  | _, _ => c
def pOf : Nat → Nat → Cf → Wd → Option Cf
  | 0, _, c, _ => some c
  | m + 1, k, c, ws => if 8 ≤ k then none else (numAt ws (3 + k)).bind fun v => pOf m (k + 1) (c.setO k v) ws
def confB : List UInt8 := [99, 111, 110, 102]
def pConf4 (f : List UInt8) (n : Nat) (c : Cf) (ws : Wd) : Option Cf := (numAt ws (3 + n)).bind fun sl => (numAt ws (3 + n + 1)).bind fun li => (numAt ws (3 + n + 2)).bind fun ge => (numAt ws (3 + n + 3)).bind fun qu => if f = confB ∧ ws.length = 3 + n + 4 then some { c with sl := sl, li := li, ge := ge, qu := qu } else none
/-- The configuration that a line's words are. -/
def pConf (ws : Wd) : Option Cf := (ws[0]?).bind fun f => (numAt ws 1).bind fun lv => (numAt ws 2).bind fun th => (pOf th.toNat 0 { cf0 with lv := lv, th := th } ws).bind fun c => pConf4 f th.toNat c ws
def ConfR (w : World) (rb tb : Nat) (R : List Value) (x : Option Cf) (e : Ending) (w' : World) : Prop := Keeps (K2 rb tb) w w' ∧ match x with
  | none => PanW e
  | some c => e = .returned (.tuple #[]) ∧ Blk w' tb 63 (cfc c ++ R).toArray
theorem RBd.drew {w : World} {rb gw : Nat} {ws : Wd} {k : Nat} (h : RBd w rb gw ws k) : RBd w.drew rb gw ws k := ⟨h.b, h.g, h.k, h.n, h.l⟩
theorem LVB.drew {B : Nat} {w : World} (h : LVB B w) : LVB B w.drew := h.bel (Below.refl B w).drew
theorem set_of {c : Cf} {k : Nat} {v : Int} {R : List Value} (hk : k < 8) : (cfc c ++ R).set (2 + k) (.int .i64 v) = cfc (c.setO k v) ++ R := by
  rcases (by omega : k = 0 ∨ k = 1 ∨ k = 2 ∨ k = 3 ∨ k = 4 ∨ k = 5 ∨ k = 6 ∨ k = 7) with rfl | rfl | rfl | rfl | rfl | rfl | rfl | rfl <;> rfl
theorem get_of {c : Cf} {k : Nat} {R : List Value} (hk : k < 8) : (cfc c ++ R)[2 + k]? = some (.int .i64 (c.of k)) := by
  rcases (by omega : k = 0 ∨ k = 1 ∨ k = 2 ∨ k = 3 ∨ k = 4 ∨ k = 5 ∨ k = 6 ∨ k = 7) with rfl | rfl | rfl | rfl | rfl | rfl | rfl | rfl <;> rfl
theorem setO_th (c : Cf) (k : Nat) (v : Int) : (c.setO k v).th = c.th := by
  unfold Cf.setO
  split <;> rfl
theorem KP_of_drew {S : Nat → Prop} {w w' : World} (h : Keeps S w.drew w') : Keeps S w w' := ⟨h.os, h.tape, h.output, h.size, h.block⟩
set_option maxHeartbeats 4000000 in
set_option maxRecDepth 100000 in
theorem conf_any {w : World} {B rb gw tb : Nat} {ws : Wd} {R : List Value} (hR : R.length = 13) (h : RBd w rb gw ws 0) (hT : Blk w tb 63 (cfc cf0 ++ R).toArray) (hv : LVB B w) (hB : B ≤ rb) (hB2 : B ≤ tb) : Calls Tryz.prog 27 #[.pointer (some ⟨tb, 0, none⟩), .pointer (some ⟨rb, 0, none⟩)] w (ConfR w rb tb R (pConf ws)) := by
  have hne : tb ≠ rb := Blk.ne_ hT h.b (by decide)
  have hng : tb ≠ gw := Blk.ne_ hT h.g (by decide)
  have HNE := Lib.hid hne
  have HT := Lib.hid hT
  have HV := Lib.hid hv
  cases e0 : ws[0]? with
  | none =>
    have hw := word_none h e0
    have HE : Hid (pConf ws = none) := by rw [Hid, pConf, e0]; rfl
    rw [HE.out]
    clear h hT hv e0
    go_enter Tryz.func27, Tryz.ntmps27
    go_wp2_with (go_at_call 56; refine hw.mono ?_; rintro e w1 ⟨rfl, hk1⟩)
    exact ⟨rfl, hk1.mono (fun b e _ => .inl e), rfl⟩
  | some f =>
    have hw := word_some h e0
    have z0 := hT.lt
    obtain ⟨fb, hfb⟩ : ∃ fb, ((bstr f).toList == [99, 111, 110, 102]) = fb := ⟨_, rfl⟩
    have HFB := Lib.hid hfb
    have E0 := Lib.hid e0
    clear h hT hv e0
    go_enter Tryz.func27, Tryz.ntmps27
    go_upto_region 2 with (go_at_call 56; refine hw.mono ?_; rintro e w1 ⟨rfl, hr1, hk1⟩)
    
    cases e1 : numAt ws 1 with
    | none =>
      have E1 := Lib.hid e1
      have hc := rnum_none hr1 (HV.out.keeps hk1 (fun b e => by rw [e]; exact hB)) hB e1
      have HE : Hid (pConf ws = none) := by simp only [Hid, pConf, pConf4, E0.out, E1.out, Option.bind_some, Option.bind_none]
      rw [HE.out]
      go_wp2_with (go_at_call 62; refine hc.mono ?_; rintro e w2 ⟨rfl, hk2⟩)
      exact ⟨rfl, (hk1.trans_ hk2).mono (fun b e _ => .inl e), rfl⟩
    | some lv =>
      have E1 := Lib.hid e1
      have hc1 := rnum_some hr1 (HV.out.keeps hk1 (fun b e => by rw [e]; exact hB)) hB e1
      cases e2 : numAt ws 2 with
      | none =>
        have E2 := Lib.hid e2
        have tok1 : True := trivial
        have HE : Hid (pConf ws = none) := by simp only [Hid, pConf, pConf4, E0.out, E1.out, E2.out, Option.bind_some, Option.bind_none]
        rw [HE.out]
        go_wp2_with (first | (have _t := tok1; go_at_call 62; refine hc1.mono ?_; rintro e w2 ⟨rfl, hr2, hk2⟩; clear tok1 _t) | (go_at_call 62; refine (rnum_none hr2 (HV.out.keeps (hk1.trans_ hk2) (fun b e => by rw [e]; exact hB)) hB E2.out).mono ?_; rintro e w3 ⟨rfl, hk3⟩))
        exact ⟨rfl, ((hk1.trans_ hk2).trans_ hk3).mono (fun b e _ => .inl e), rfl⟩
      | some th =>
        have E2 := Lib.hid e2
        clear e1 e2
        have tok1 : True := trivial
        have tok2 : True := trivial
        go_upto_region 3 with (first | (have _t := tok1; go_at_call 62; refine hc1.mono ?_; rintro e w2 ⟨rfl, hr2, hk2⟩; clear tok1 _t) | (have _t := tok2; go_at_call 62; refine (rnum_some hr2 (HV.out.keeps (hk1.trans_ hk2) (fun b e => by rw [e]; exact hB)) hB E2.out).mono ?_; rintro e w3 ⟨rfl, hr3, hk3⟩; have T3 := (hk1.trans_ (hk2.trans_ hk3)).blk HT.out hne; have y0 := T3.cell 0; have y1 := T3.cell 1; have f0 := T3.frozen 0; have f1 := T3.frozen 1; have z3 := T3.lt; clear tok2 _t))
        obtain ⟨c0, hc0⟩ : ∃ c0, ({ cf0 with lv := lv, th := th } : Cf) = c0 := ⟨_, rfl⟩
        obtain ⟨W4, hW4, T4, hr4, hk4⟩ : ∃ W4, (w3.setCell ⟨tb, 0, none⟩ (.int .i64 lv)).setCell ⟨tb, 1, none⟩ (.int .i64 th) = W4 ∧ Blk W4 tb 63 (cfc c0 ++ R).toArray ∧ RBd W4 rb gw ws 3 ∧ Keeps (K2 rb tb) w W4 := by
          refine ⟨_, rfl, ?_, ?_, ?_⟩
          · have := (T3.set_ 0 (.int .i64 lv)).set_ 1 (.int .i64 th)
            rw [List.setIfInBounds_toArray, List.setIfInBounds_toArray] at this
            rw [← hc0]
            exact this
          · have kk := ((Keeps.refl (fun b => b = tb) w3).setCell (p := ⟨tb, 0, none⟩) (fun _ => rfl) (.int .i64 lv)).setCell (p := ⟨tb, 1, none⟩) (fun _ => rfl) (.int .i64 th)
            exact hr3.keeps kk (fun e => hne e.symm) (fun e => hng e.symm)
          · exact ((((hk1.trans_ (hk2.trans_ hk3)).mono (S' := K2 rb tb) (fun b e _ => .inl e)).setCell (p := ⟨tb, 0, none⟩) (fun _ => .inr rfl) _).setCell (p := ⟨tb, 1, none⟩) (fun _ => .inr rfl) _)
        rw [hW4]
        have hth : c0.th = th := by rw [← hc0]
        have HC0 := Lib.hid hc0
        clear hW4 T3 y0 y1 f0 f1 z3 hr1 hr2 hr3 hk1 hk2 hk3 hc1 hc0
        have HB1 := Lib.hid hB
        have HB2 := Lib.hid hB2
        go_wp2_with fail
        go_loopg [6] th.toNat (fun gk s6 wr => ∃ (k : Nat) (c : Cf), k + gk = th.toNat ∧ s6 = .int .i64 k ∧ Blk wr tb 63 (cfc c ++ R).toArray ∧ RBd wr rb gw ws (3 + k) ∧ Keeps (K2 rb tb) w wr ∧ Hid (c.th = th) ∧ Hid (k ≤ 8) ∧ Hid (pOf th.toNat 0 c0 ws = pOf gk k c ws))
        case atStart => exact ⟨0, c0, by omega, rfl, T4, hr4, hk4, hth, by show 0 ≤ 8; omega, rfl⟩
        case round =>
          clear T4 hr4 hk4 hth
          obtain ⟨k, c, hk, rfl, Tr, hr, kk, hct, hk8, hpo⟩ := hrel
          have y1 : wr.cell? ⟨tb, 1, none⟩ = some (.int .i64 th) := (Tr.cell 1).trans (by rw [← hct.out]; rfl)
          have zr := Tr.lt
          by_cases hlt : (k : Int) < th
          · by_cases h8 : 8 ≤ k
            · have t8 : (8 : Int) ≤ (k : Int) := by omega
              obtain ⟨g, rfl⟩ : ∃ g, gk = g + 1 := ⟨gk - 1, by omega⟩
              have HO : Hid (pOf th.toNat 0 c0 ws = none) := by rw [Hid, hpo.out, pOf, if_pos h8]
              have HE : Hid (pConf ws = none) := by
                rw [Hid, pConf, E0.out, Option.bind_some, E1.out, Option.bind_some, E2.out, Option.bind_some, HC0.out, HO.out]
                rfl
              rw [HE.out]
              clear hpo h8 hk8
              go_wp2_with fail
              exact ⟨rfl, kk, rfl⟩
            · have t8 : decide ((8 : Int) ≤ (k : Int)) = false := decide_eq_false (by omega)
              obtain ⟨g, rfl⟩ : ∃ g, gk = g + 1 := ⟨gk - 1, by omega⟩
              have hvr := HV.out.keeps kk (fun b e => by rcases e with e | e <;> rw [e]; exact HB1.out; exact HB2.out)
              cases en : numAt ws (3 + k) with
              | none =>
                have hc := Lib.hid (rnum_none hr.drew hvr.drew HB1.out en)
                have HO : Hid (pOf th.toNat 0 c0 ws = none) := by rw [Hid, hpo.out, pOf, if_neg h8, en]; rfl
                have HE : Hid (pConf ws = none) := by
                  rw [Hid, pConf, E0.out, Option.bind_some, E1.out, Option.bind_some, E2.out, Option.bind_some, HC0.out, HO.out]
                  rfl
                rw [HE.out]
                clear hpo h8 hk8 hvr en
                go_upto_region 8 with fail
                have hX := @Ext.cell wr
                refine wp_region_panic (fun ch a w' => a.defers = [] ∧ ConfR w rb tb R none (.panicked ch) w') (fun c a w h => h) ?_
                refine NC.wp_region_plan (fun w' => ∃ x : Ext wr, w' = x.w) [([0, 1, 2, 4, 5], 3), ([6], 7)] [] (by kernel_rfl) (by kernel_rfl) (by kernel_rfl) (fun _ a d v _ h => ⟨(put_defers a d v).symm.trans h.1, h.2⟩) ⟨⟨_, (brefl wr).drew⟩, rfl⟩ ?_
                refine NC.wpPlan_cons ?_
                simp only [NC.pickOps, List.getElem?_cons_succ, List.getElem?_cons_zero, Option.elim_some]
                repeat (go_big_quiet_step (fail))
                refine wpQuiet_nil ?_
                refine NC.planAct_some (fun K hK => ?_)
                go_simp
                refine (hc.out).mono ?_
                rintro e w2 ⟨rfl, hk2⟩
                exact ⟨rfl, kk.trans_ ((KP_of_drew hk2).mono (fun b e _ => .inl e)), rfl⟩
              | some v =>
                have hc := Lib.hid (rnum_some hr.drew hvr.drew HB1.out en)
                have HO : Hid (pOf th.toNat 0 c0 ws = pOf g (k + 1) (c.setO k v) ws) := by rw [Hid, hpo.out, pOf, if_neg h8, en]; rfl
                have hk8' : k < 8 := by omega
                have HRR := Lib.hid hr
                have HKK := Lib.hid kk
                have HTR := Lib.hid Tr
                have i0 : (0 : Int) ≤ (k : Int) := by omega
                have i1 : (k : Int) < 8 := by omega
                have ck : IntKind.i64.wrap ((k : Int) + 1) = (k : Int) + 1 := IntWalk.i64_in _ (by omega)
                clear hpo h8 hk8 hvr en hr kk Tr
                go_upto_region 8 with fail
                have hX := @ExtK.cell (rb) wr
                refine wp_region_noPanic ?_
                refine NC.wp_region_lastU (fun w' => ∃ x : ExtK (rb) wr, w' = x.w) 7 (NC.PG.one [0, 1, 2, 4, 5] 3 (NC.PG.fin [6])) (by kernel_rfl) (by kernel_rfl) (by kernel_rfl) (fun _ _ _ _ _ h => h) ⟨⟨_, (Keeps.refl _ wr).drew⟩, rfl⟩ ?_
                refine NC.wpG_one ?_
                simp only [NC.pickOps, List.getElem?_cons_succ, List.getElem?_cons_zero, Option.elim_some]
                repeat (go_big_quiet_step (fail))
                refine wpQuiet_nil ?_
                refine NC.planAct_some (fun K hK => ?_)
                go_simp
                refine (hc.out).mono ?_
                rintro e w2 ⟨rfl, hr2, hk2⟩
                have T2 := (KP_of_drew hk2).blk HTR.out HNE.out
                have yk : w2.cell? ⟨tb, 2 + k, none⟩ = some (.int .i64 (c.of k)) := T2.cell_ (by rw [List.getElem?_toArray]; exact get_of hk8')
                have fk := T2.frozen (2 + k)
                have z2 := T2.lt
                go_wp2_with fail
                refine hK.out _ _ ⟨⟨_, KP_of_drew hk2⟩, rfl⟩ ?_
                clear hK K
                refine NC.wpG_fin ?_
                simp only [NC.pickOps, List.getElem?_cons_succ, List.getElem?_cons_zero, Option.elim_some]
                repeat (go_big_quiet_step (fail))
                refine wpQuiet_nil ?_
                refine NC.lastG_some (fun K hK => ?_)
                go_simp
                refine hK.out _ _ ?_
                clear hK K
                refine NoPanic.normal ?_
                clear hX
                obtain ⟨W5, hW5, T5, hr5, hk5⟩ : ∃ W5, w2.setCell ⟨tb, 2 + k, none⟩ (.int .i64 v) = W5 ∧ Blk W5 tb 63 (cfc (c.setO k v) ++ R).toArray ∧ RBd W5 rb gw ws (3 + (k + 1)) ∧ Keeps (K2 rb tb) w W5 := by
                  refine ⟨_, rfl, ?_, ?_, ?_⟩
                  · have := T2.set_ (2 + k) (.int .i64 v)
                    rw [List.setIfInBounds_toArray, set_of hk8'] at this
                    exact this
                  · have kt := (Keeps.refl (fun b => b = tb) w2).setCell (p := ⟨tb, 2 + k, none⟩) (fun _ => rfl) (.int .i64 v)
                    exact hr2.keeps kt (fun e => HNE.out e.symm) (fun e => hng e.symm)
                  · exact (HKK.out.trans_ ((KP_of_drew hk2).mono (S' := K2 rb tb) (fun b e _ => .inl e))).setCell (p := ⟨tb, 2 + k, none⟩) (fun _ => .inr rfl) _
                rw [hW5]
                clear hW5 T2 yk fk z2 hr2 hk2 y1
                go_wp2_with fail
                go_roundg g
                case measure => omega
                case rel => exact ⟨k + 1, c.setO k v, by omega, by go_num, T5, hr5, hk5, by rw [Hid, setO_th]; exact hct.out, by show k + 1 ≤ 8; omega, HO⟩
          · obtain ⟨n, hn⟩ : ∃ n, th.toNat = n := ⟨_, rfl⟩
            rw [hn] at hk
            obtain rfl : gk = 0 := by omega
            obtain rfl : k = n := by omega
            have HO : Hid (pOf th.toNat 0 c0 ws = some c) := by rw [Hid, hpo.out]; rfl
            have t9 : decide ((k : Int) < th) = false := decide_eq_false hlt
            have HN := Lib.hid hn
            have E3 : Hid (pConf ws = pConf4 f k c ws) := by
              rw [Hid, pConf, E0.out, Option.bind_some, E1.out, Option.bind_some, E2.out, Option.bind_some, HC0.out, HO.out, Option.bind_some, HN.out]
            clear hpo hk8 hlt hn HO
            have HR0 := Lib.hid hr
            have HTR := Lib.hid Tr
            have HK0 := Lib.hid kk
            clear hr Tr kk
            go_upto_region 9 with fail
            have hva := Lib.hid (HV.out.keeps HK0.out (fun b e => by rcases e with e | e <;> rw [e]; exact HB1.out; exact HB2.out))
            cases e1 : numAt ws (3 + k) with
            | none =>
              have F0 := Lib.hid e1
              have hc := rnum_none HR0.out hva.out HB1.out e1
              have HE : Hid (pConf ws = none) := by simp only [Hid, E3.out, pConf4, F0.out, Option.bind_some, Option.bind_none]
              rw [HE.out]
              go_wp2_with (go_at_call 62; refine hc.mono ?_; rintro e w2 ⟨rfl, hk2⟩)
              exact ⟨rfl, HK0.out.trans_ (hk2.mono (fun b e _ => .inl e)), rfl⟩
            | some sl =>
              have F0 := Lib.hid e1
              have hc1 := Lib.hid (rnum_some HR0.out hva.out HB1.out e1)
              cases e2 : numAt ws (3 + k + 1) with
              | none =>
                have F1 := Lib.hid e2
                have tok1 : True := trivial
                have HE : Hid (pConf ws = none) := by simp only [Hid, E3.out, pConf4, F0.out, F1.out, Option.bind_some, Option.bind_none]
                rw [HE.out]
                go_wp2_with (first | (have _t := tok1; go_at_call 62; refine hc1.out.mono ?_; rintro e w2 ⟨rfl, hr2, hk2⟩; clear tok1 _t) | (go_at_call 62; refine (rnum_none hr2 (LVB.keeps hva.out hk2 (fun b e => by rw [e]; exact HB1.out)) HB1.out F1.out).mono ?_; rintro e w3 ⟨rfl, hk3⟩))
                exact ⟨rfl, HK0.out.trans_ ((hk2.trans_ hk3).mono (fun b e _ => .inl e)), rfl⟩
              | some li =>
                have F1 := Lib.hid e2
                clear e1 e2
                have tok1 : True := trivial
                have tok2 : True := trivial
                go_upto_region 10 with (first | (have _t := tok1; go_at_call 62; refine hc1.out.mono ?_; rintro e w2 ⟨rfl, hr2, hk2⟩; clear tok1 _t) | (have _t := tok2; go_at_call 62; refine (rnum_some hr2 (LVB.keeps hva.out hk2 (fun b e => by rw [e]; exact HB1.out)) HB1.out F1.out).mono ?_; rintro e w3 ⟨rfl, hr3, hk3⟩; have T3 := (hk2.trans_ hk3).blk HTR.out HNE.out; have y0 := T3.cell 10; have y1 := T3.cell 11; have f0 := T3.frozen 10; have f1 := T3.frozen 11; have z3 := T3.lt; clear tok2 _t))
                obtain ⟨V9, hV, hT9, hr9, hk9⟩ : ∃ V9, (w3.setCell ⟨tb, 10, none⟩ (.int .i64 sl)).setCell ⟨tb, 11, none⟩ (.int .i64 li) = V9 ∧ Blk V9 tb 63 (cfc { c with sl := sl, li := li } ++ R).toArray ∧ RBd V9 rb gw ws (3 + k + 2) ∧ Keeps (K2 rb tb) w V9 := by
                  refine ⟨_, rfl, ?_, ?_, ?_⟩
                  · have := (T3.set_ 10 (.int .i64 sl)).set_ 11 (.int .i64 li)
                    rw [List.setIfInBounds_toArray, List.setIfInBounds_toArray] at this
                    exact this
                  · have kt := ((Keeps.refl (fun b => b = tb) w3).setCell (p := ⟨tb, 10, none⟩) (fun _ => rfl) (.int .i64 sl)).setCell (p := ⟨tb, 11, none⟩) (fun _ => rfl) (.int .i64 li)
                    exact hr3.keeps kt (fun e => HNE.out e.symm) (fun e => hng e.symm)
                  · exact ((HK0.out.trans_ ((hk2.trans_ hk3).mono (S' := K2 rb tb) (fun b e _ => .inl e))).setCell (p := ⟨tb, 10, none⟩) (fun _ => .inr rfl) _).setCell (p := ⟨tb, 11, none⟩) (fun _ => .inr rfl) _
                rw [hV]
                have HTR := Lib.hid hT9
                have HR9 := Lib.hid hr9
                have HK9 := Lib.hid hk9
                clear hV T3 y0 y1 f0 f1 z3 hr2 hk2 hr3 hk3 hc1 hT9 hr9 hk9 hva
                have hva := Lib.hid (HV.out.keeps HK9.out (fun b e => by rcases e with e | e <;> rw [e]; exact HB1.out; exact HB2.out))
                cases e1 : numAt ws (3 + k + 2) with
                | none =>
                  have F2 := Lib.hid e1
                  have hc := rnum_none HR9.out hva.out HB1.out e1
                  have HE : Hid (pConf ws = none) := by simp only [Hid, E3.out, pConf4, F0.out, F1.out, F2.out, Option.bind_some, Option.bind_none]
                  rw [HE.out]
                  go_wp2_with (go_at_call 62; refine hc.mono ?_; rintro e w2 ⟨rfl, hk2⟩)
                  exact ⟨rfl, HK9.out.trans_ (hk2.mono (fun b e _ => .inl e)), rfl⟩
                | some ge =>
                  have F2 := Lib.hid e1
                  have hc1 := Lib.hid (rnum_some HR9.out hva.out HB1.out e1)
                  cases e2 : numAt ws (3 + k + 3) with
                  | none =>
                    have F3 := Lib.hid e2
                    have tok1 : True := trivial
                    have HE : Hid (pConf ws = none) := by simp only [Hid, E3.out, pConf4, F0.out, F1.out, F2.out, F3.out, Option.bind_some, Option.bind_none]
                    rw [HE.out]
                    go_wp2_with (first | (have _t := tok1; go_at_call 62; refine hc1.out.mono ?_; rintro e w2 ⟨rfl, hr2, hk2⟩; clear tok1 _t) | (go_at_call 62; refine (rnum_none hr2 (LVB.keeps hva.out hk2 (fun b e => by rw [e]; exact HB1.out)) HB1.out F3.out).mono ?_; rintro e w3 ⟨rfl, hk3⟩))
                    exact ⟨rfl, HK9.out.trans_ ((hk2.trans_ hk3).mono (fun b e _ => .inl e)), rfl⟩
                  | some qu =>
                    have F3 := Lib.hid e2
                    clear e1 e2
                    have tok1 : True := trivial
                    have tok2 : True := trivial
                    go_upto_region 11 with (first | (have _t := tok1; go_at_call 62; refine hc1.out.mono ?_; rintro e w2 ⟨rfl, hr2, hk2⟩; clear tok1 _t) | (have _t := tok2; go_at_call 62; refine (rnum_some hr2 (LVB.keeps hva.out hk2 (fun b e => by rw [e]; exact HB1.out)) HB1.out F3.out).mono ?_; rintro e w3 ⟨rfl, hr3, hk3⟩; have T3 := (hk2.trans_ hk3).blk HTR.out HNE.out; have y0 := T3.cell 12; have y1 := T3.cell 13; have f0 := T3.frozen 12; have f1 := T3.frozen 13; have z3 := T3.lt; clear tok2 _t))
                    obtain ⟨V10, hV, hT9, hr9, hk9⟩ : ∃ V10, (w3.setCell ⟨tb, 12, none⟩ (.int .i64 ge)).setCell ⟨tb, 13, none⟩ (.int .i64 qu) = V10 ∧ Blk V10 tb 63 (cfc { c with sl := sl, li := li, ge := ge, qu := qu } ++ R).toArray ∧ RBd V10 rb gw ws (3 + k + 4) ∧ Keeps (K2 rb tb) w V10 := by
                      refine ⟨_, rfl, ?_, ?_, ?_⟩
                      · have := (T3.set_ 12 (.int .i64 ge)).set_ 13 (.int .i64 qu)
                        rw [List.setIfInBounds_toArray, List.setIfInBounds_toArray] at this
                        exact this
                      · have kt := ((Keeps.refl (fun b => b = tb) w3).setCell (p := ⟨tb, 12, none⟩) (fun _ => rfl) (.int .i64 ge)).setCell (p := ⟨tb, 13, none⟩) (fun _ => rfl) (.int .i64 qu)
                        exact hr3.keeps kt (fun e => HNE.out e.symm) (fun e => hng e.symm)
                      · exact ((HK9.out.trans_ ((hk2.trans_ hk3).mono (S' := K2 rb tb) (fun b e _ => .inl e))).setCell (p := ⟨tb, 12, none⟩) (fun _ => .inr rfl) _).setCell (p := ⟨tb, 13, none⟩) (fun _ => .inr rfl) _
                    rw [hV]
                    have HTR := Lib.hid hT9
                    have HR10 := Lib.hid hr9
                    have HK10 := Lib.hid hk9
                    clear hV T3 y0 y1 f0 f1 z3 hr2 hk2 hr3 hk3 hc1 hT9 hr9 hk9 hva
                    by_cases hl : f = confB ∧ ws.length = 3 + k + 4
                    · have HE : Hid (pConf ws = some { c with sl := sl, li := li, ge := ge, qu := qu }) := by
                        simp only [Hid, E3.out, pConf4, F0.out, F1.out, F2.out, F3.out, Option.bind_some]
                        rw [if_pos hl]
                      have hfb1 : fb = true := by
                        have e : (bstr f).toList = f := ByteArray.toList_eq _
                        rw [← HFB.out, e, hl.1]; rfl
                      subst hfb1
                      have hc := rend_yes HR10.out hl.2.symm
                      rw [HE.out]
                      clear hl y1
                      go_wp2_with (go_at_call 61; refine hc.mono ?_; rintro e w2 ⟨rfl, hk2⟩)
                      exact bodyPost_end (results_none rfl _ _ _) rfl ⟨HK10.out.trans_ (hk2.mono (fun b e _ => e.elim)), rfl, hk2.blk HTR.out (fun e => e)⟩
                    · have HE : Hid (pConf ws = none) := by
                        simp only [Hid, E3.out, pConf4, F0.out, F1.out, F2.out, F3.out, Option.bind_some]
                        rw [if_neg hl]
                      have hq : fb = false ∨ 3 + k + 4 < ws.length := by
                        by_cases hf : f = confB
                        · have := HR10.out.k
                          exact .inr (by
                            rcases Nat.lt_or_ge (3 + k + 4) ws.length with q | q
                            · exact q
                            · exact absurd ⟨hf, by omega⟩ hl)
                        · refine .inl ?_
                          rw [← HFB.out, beq_eq_false_iff_ne]
                          intro q
                          exact hf (by have e : (bstr f).toList = f := ByteArray.toList_eq _; rw [e] at q; exact q)
                      have hc := rend_no HR10.out hq
                      rw [HE.out]
                      clear hl y1 hq
                      go_wp2_with (go_at_call 61; refine hc.mono ?_; rintro e w2 ⟨rfl, hk2⟩)
                      exact ⟨rfl, HK10.out.trans_ (hk2.mono (fun b e _ => e.elim)), rfl⟩
end Go.Proofs.YtjjgngccgjpnaaaGreatDoor
