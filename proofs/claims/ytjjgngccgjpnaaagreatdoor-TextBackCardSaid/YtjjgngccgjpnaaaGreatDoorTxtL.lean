/- A line is taken. -/
import Derived.Test.YtjjgngccgjpnaaaGreatDoorTxtK
namespace Go.Proofs.YtjjgngccgjpnaaaGreatDoor
set_option linter.unusedVariables false
set_option linter.unusedSimpArgs false
open Go.RowKit

def callB : List UInt8 := [99, 97, 108, 108]
def wd4 : Nat → List UInt8
  | 0 => [112, 105, 99, 107]
  | 1 => [115, 116, 97, 108, 108]
  | 2 => [119, 97, 107, 101]
  | 3 => [107, 105, 108, 108]
  | _ => []
def pOther (s : St) (k : Nat) (ws : Wd) : Option St := (thrAt s.c.th ws 1).bind fun t => if ws.length = 2 then some { s with was := ⟨t, (k : Int)⟩, es := s.es ++ [⟨t, (k : Int)⟩] } else none
def othG : Nat → Nat → List UInt8 → St → Wd → Option St
  | 0, _, _, _, _ => none
  | g + 1, k, f, s, ws => if wd4 k = f then pOther s k ws else othG g (k + 1) f s ws
/-- What a line's words make of a script. -/
def pLine (s : St) (ws : Wd) : Option St := match ws[0]? with
  | none => none
  | some f => if f = callB then pCall s ws else if f = wd4 0 then pPicks { s with done := true } ws else othG 4 0 f { s with done := true } ws
theorem TK.keepsR {w w' : World} {B tb rb N : Nat} {s : St} {cs : Array Value} (h : TK w B tb s N) (hk : Keeps (fun b => b = rb) w w') (hb : Blk w rb 70 cs) : TK w' B tb s N := by
  obtain ⟨vs, EA, ec, h1, h2, h3⟩ := h.e
  exact ⟨⟨vs, EA, ec, hk.blk h1 (fun e => by have := Blk.ne_ h1 hb (by decide); exact this e), h2.keepsT hk (fun b e _ => ⟨_, _, e ▸ hb, by decide⟩), hk.own h3 (fun q hq e => by rw [e] at hq; exact own_ne_blk h3 hb (by decide) hq)⟩, h.ps, h.es, h.th, h.n, h.tb⟩
theorem TK.setDone {w : World} {B tb N : Nat} {s : St} (h : TK w B tb s N) : TK (w.setCell ⟨tb, 24, none⟩ (.bool true)) B tb { s with done := true } N := by
  obtain ⟨vs, EA, ec, h1, h2, h3⟩ := h.e
  have kt := (Keeps.refl (fun b => b = tb) w).setCell (p := ⟨tb, 24, none⟩) (fun _ => rfl) (.bool true)
  refine ⟨⟨vs, EA, ec, ?_, h2.keepsT kt (fun b e _ => ⟨_, _, e ▸ h1, by decide⟩), kt.own h3 (fun q hq e => by rw [e] at hq; exact own_ne_blk h3 h1 (by decide) hq)⟩, h.ps, h.es, h.th, h.n, h.tb⟩
  have := h1.set_ 24 (.bool true)
  rw [List.setIfInBounds_toArray] at this
  have e : (tkc s vs (.slice EA s.es.length ec)).set 24 (.bool true) = tkc { s with done := true } vs (.slice EA s.es.length ec) := by
    unfold tkc
    rw [List.set_append_right _ _ (by rw [scc_len h2.u8]; omega), scc_len h2.u8]
    rfl
  rw [e] at this
  exact this
theorem TK.below {w w' : World} {B tb N : Nat} {s : St} (h : TK w B tb s N) (hb : Below w.heap.size w w') : TK w' B tb s N := by
  obtain ⟨vs, EA, ec, h1, h2, h3⟩ := h.e
  have kb : Keeps (fun _ => False) w w' := Keeps.of_below hb
  exact ⟨⟨vs, EA, ec, h1.below_ hb, h2.keeps kb (fun _ _ _ _ _ q => q), kb.own h3 (fun _ _ q => q)⟩, h.ps, h.es, h.th, h.n, h.tb⟩
set_option maxHeartbeats 4000000 in
set_option maxRecDepth 100000 in
theorem line_any {w : World} {B rb gw tb N : Nat} {ws : Wd} {s : St} (h : RBd w rb gw ws 0) (hT : TK w B tb s N) (hv : LVB B w) (hB : B ≤ rb) (hN : N + 1 ≤ 1000000) : Calls Tryz.prog 25 #[.pointer (some ⟨tb, 0, none⟩), .pointer (some ⟨rb, 0, none⟩)] w (LineR w B tb (N + 1) (pLine s ws)) := by
  obtain ⟨vs, EA, ec, hTb, hO, hEn⟩ := hT.e
  have h8 := hO.u8
  have hne : tb ≠ rb := Blk.ne_ hTb h.b (by decide)
  have hng : tb ≠ gw := Blk.ne_ hTb h.g (by decide)
  have HKP : Hid (∀ w', Keeps (fun b => b = rb) w w' → KT B w w') := fun w' hk => KT.of hv.le hk (fun b e => by rw [e]; exact hB) (fun b e _ => ⟨_, _, e ▸ h.b, .inr (.inl rfl)⟩)
  have hrw := h.b.lt
  have htw := hTb.lt
  have HTB := Lib.hid hTb
  have HV := Lib.hid hv
  have HTK := Lib.hid hT
  have HO := Lib.hid hO
  have HEN := Lib.hid hEn
  have HH := Lib.hid h
  have hBw := hv.le
  clear hTb hO hEn hT hv
  cases e0 : ws[0]? with
  | none =>
    have hw := word_none h e0
    have HE : Hid (pLine s ws = none) := by rw [Hid, pLine, e0]
    rw [HE.out]
    clear h e0
    go_enter Tryz.func25, Tryz.ntmps25
    go_wp2_with (go_at_call 56; refine hw.mono ?_; rintro e w1 ⟨rfl, hk1⟩)
    exact ⟨rfl, HKP.out _ hk1, rfl⟩
  | some f =>
    have hw := word_some h e0
    have HP : Hid (pLine s ws = if f = callB then pCall s ws else if f = wd4 0 then pPicks { s with done := true } ws else othG 4 0 f { s with done := true } ws) := by rw [Hid, pLine, e0]
    clear h e0
    have ef : ∀ l : List UInt8, (bstr f).toList = f := fun _ => ByteArray.toList_eq _
    by_cases hc : f = callB
    · have hfb : ((bstr f).toList == [99, 97, 108, 108]) = true := by rw [ef [], hc]; rfl
      have HE : Hid (pLine s ws = pCall s ws) := by rw [Hid, HP.out, if_pos hc]
      clear hc HP ef
      have HCC : Hid (∀ w1, RBd w1 rb gw ws 1 → Keeps (fun b => b = rb) w w1 → Calls Tryz.prog 57 #[.pointer (some ⟨tb, 0, none⟩), .pointer (some ⟨rb, 0, none⟩)] w1 (LineR w1 B tb (N + 1) (pCall s ws))) := fun w1 hr1 hk1 => tcallline_any hr1 (HTK.out.keepsR hk1 HH.out.b) (HV.out.keeps hk1 (fun b e => by rw [e]; exact hB)) hB hN
      cases hx : pCall s ws with
      | none =>
        have HX : Hid (pLine s ws = none) := by rw [Hid, HE.out]; exact hx
        rw [hx] at HCC
        have HC' : Hid (∀ w1, RBd w1 rb gw ws 1 → Keeps (fun b => b = rb) w w1 → Calls Tryz.prog 57 #[.pointer (some ⟨tb, 0, none⟩), .pointer (some ⟨rb, 0, none⟩)] w1 fun e w' => KT B w1 w' ∧ PanW e) := HCC
        rw [HX.out]
        clear HCC hx
        go_enter Tryz.func25, Tryz.ntmps25
        go_wp2_with (first | (go_at_call 56; refine hw.mono ?_; rintro e w1 ⟨rfl, hr1, hk1⟩) | (go_at_call 57; refine (HC'.out _ hr1 hk1).mono ?_; rintro e w2 ⟨kt, rfl⟩))
        exact ⟨rfl, (HKP.out _ hk1).trans kt, rfl⟩
      | some s' =>
        have HX : Hid (pLine s ws = some s') := by rw [Hid, HE.out]; exact hx
        rw [hx] at HCC
        have HC' : Hid (∀ w1, RBd w1 rb gw ws 1 → Keeps (fun b => b = rb) w w1 → Calls Tryz.prog 57 #[.pointer (some ⟨tb, 0, none⟩), .pointer (some ⟨rb, 0, none⟩)] w1 fun e w' => KT B w1 w' ∧ e = .returned (.tuple #[]) ∧ TK w' B tb s' (N + 1)) := HCC
        rw [HX.out]
        clear HCC hx
        go_enter Tryz.func25, Tryz.ntmps25
        go_wp2_with (first | (go_at_call 56; refine hw.mono ?_; rintro e w1 ⟨rfl, hr1, hk1⟩) | (go_at_call 57; refine (HC'.out _ hr1 hk1).mono ?_; rintro e w2 ⟨kt, rfl, ht⟩))
        exact bodyPost_ret (R := LineR w B tb (N + 1) (some s')) (results_none rfl _ _ _) rfl ⟨(HKP.out _ hk1).trans kt, rfl, ht⟩
    · have hfb : ((bstr f).toList == [99, 97, 108, 108]) = false := by
        rw [beq_eq_false_iff_ne, ef []]; exact hc
      have HP2 : Hid (pLine s ws = if f = wd4 0 then pPicks { s with done := true } ws else othG 4 0 f { s with done := true } ws) := by rw [Hid, HP.out, if_neg hc]
      clear hc HP
      have HV2 : Hid (∀ w1 w2, RBd w1 rb gw ws 1 → Keeps (fun b => b = rb) w w1 → Below (w1.setCell ⟨tb, 24, none⟩ (.bool true)).heap.size (w1.setCell ⟨tb, 24, none⟩ (.bool true)) w2 → RBd w2 rb gw ws 1 ∧ TK w2 B tb { s with done := true } N ∧ LVB B w2 ∧ KT B w w2) := fun w1 w2 hr1 hk1 hb2 => by
        have ht1 := HTK.out.keepsR hk1 HH.out.b
        have kt := (Keeps.refl (fun b => b = tb) w1).setCell (p := ⟨tb, 24, none⟩) (fun _ => rfl) (.bool true)
        have hv1 : LVB B w1 := HV.out.keeps hk1 (fun b e => by rw [e]; exact hB)
        have hv2 := hv1.keeps kt (fun b e => by rw [e]; exact HTK.out.tb)
        refine ⟨(hr1.keeps kt (fun e => hne e.symm) (fun e => hng e.symm)).below hb2, ht1.setDone.below hb2, hv2.keeps (Keeps.of_below (S := fun _ => False) hb2) (fun b e => e.elim), ((HKP.out _ hk1).trans (KT.of hv1.le kt (fun b e => by rw [e]; exact HTK.out.tb) (fun b e _ => ⟨_, _, e ▸ (hk1.blk HTB.out hne), .inl rfl⟩))).trans (KT.of hv2.le (Keeps.of_below (S := fun _ => False) hb2) (fun b e => e.elim) (fun b e => e.elim))⟩
      have hq0 : ∀ W : World, (Instr.index 109 (.agg W4) (.int .i64 0)).run Tryz.prog W = .ok (.string (bstr (wd4 0))) W := fun W => by kernel_rfl
      obtain ⟨V4, hV4⟩ : ∃ V4, W4 = V4 := ⟨_, rfl⟩
      have htw4 : ∀ W : World, Calls Tryz.prog 58 #[] W fun e w' => e = .returned (.agg V4) ∧ Below W.heap.size W w' := fun W => by rw [← hV4]; exact twords_any
      have HTW4 := Lib.hid htw4
      rw [hV4] at hq0
      by_cases hp : f = wd4 0
      · have HX : Hid (pLine s ws = pPicks { s with done := true } ws) := by rw [Hid, HP2.out, if_pos hp]
        have hpe : (bstr f).toList == (bstr (wd4 0)).toList := by rw [hp]; exact beq_self_eq_true _
        have hS : bstr (wd4 0) = bstr f := by rw [hp]
        rw [hS] at hq0
        clear hp htw4 hS hpe ef hV4
        cases hx : pPicks { s with done := true } ws with
        | none =>
          have HC : Hid (∀ w2, RBd w2 rb gw ws 1 → TK w2 B tb { s with done := true } N → LVB B w2 → Calls Tryz.prog 59 #[.pointer (some ⟨tb, 0, none⟩), .pointer (some ⟨rb, 0, none⟩)] w2 fun e w' => KT B w2 w' ∧ PanW e) := fun w2 h1 h2 h3 => by
            have := picks_any h1 h2 h3 hB hN
            rw [hx] at this
            exact this
          rw [HX.out, hx]
          clear hx
          go_enter Tryz.func25, Tryz.ntmps25
          go_wp2_with (first | (go_at_call 56; refine hw.mono ?_; rintro e w1 ⟨rfl, hr1, hk1⟩; have T1 := hk1.blk HTB.out hne; have y24 : w1.cell? ⟨tb, 24, none⟩ = some (.bool s.done) := T1.cell_ (by rw [List.getElem?_toArray]; exact tkc_get h8 1); have f24 := T1.frozen 24; have z1 := T1.lt) | (go_at_call 58; refine (HTW4.out _).mono ?_; rintro e w2 ⟨rfl, hb2⟩) | (go_at_call 59; refine (HC.out _ (HV2.out _ _ hr1 hk1 hb2).1 (HV2.out _ _ hr1 hk1 hb2).2.1 (HV2.out _ _ hr1 hk1 hb2).2.2.1).mono ?_; rintro e w3 ⟨kt, rfl⟩))
          exact ⟨rfl, (HV2.out _ _ hr1 hk1 hb2).2.2.2.trans kt, rfl⟩
        | some s' =>
          have HC : Hid (∀ w2, RBd w2 rb gw ws 1 → TK w2 B tb { s with done := true } N → LVB B w2 → Calls Tryz.prog 59 #[.pointer (some ⟨tb, 0, none⟩), .pointer (some ⟨rb, 0, none⟩)] w2 fun e w' => KT B w2 w' ∧ e = .returned (.tuple #[]) ∧ TK w' B tb s' (N + 1)) := fun w2 h1 h2 h3 => by
            have := picks_any h1 h2 h3 hB hN
            rw [hx] at this
            exact this
          rw [HX.out, hx]
          clear hx
          go_enter Tryz.func25, Tryz.ntmps25
          go_wp2_with (first | (go_at_call 56; refine hw.mono ?_; rintro e w1 ⟨rfl, hr1, hk1⟩; have T1 := hk1.blk HTB.out hne; have y24 : w1.cell? ⟨tb, 24, none⟩ = some (.bool s.done) := T1.cell_ (by rw [List.getElem?_toArray]; exact tkc_get h8 1); have f24 := T1.frozen 24; have z1 := T1.lt) | (go_at_call 58; refine (HTW4.out _).mono ?_; rintro e w2 ⟨rfl, hb2⟩) | (go_at_call 59; refine (HC.out _ (HV2.out _ _ hr1 hk1 hb2).1 (HV2.out _ _ hr1 hk1 hb2).2.1 (HV2.out _ _ hr1 hk1 hb2).2.2.1).mono ?_; rintro e w3 ⟨kt, rfl, ht⟩))
          exact bodyPost_ret (R := LineR w B tb (N + 1) (some s')) (results_none rfl _ _ _) rfl ⟨(HV2.out _ _ hr1 hk1 hb2).2.2.2.trans kt, rfl, ht⟩
      · have HO2 : Hid (pLine s ws = othG 4 0 f { s with done := true } ws) := by rw [Hid, HP2.out, if_neg hp]
        have hpe : ((bstr f).toList == (bstr (wd4 0)).toList) = false := by
          rw [beq_eq_false_iff_ne, ef [], ByteArray.toList_eq]; exact hp
        have hix : Hid (∀ (k : Nat), k < 4 → ∀ w : World, (Instr.index 109 (.agg V4) (.int .i64 (k : Int))).run Tryz.prog w = .ok (.string (bstr (wd4 k))) w) := fun k hk w => by
          rw [← hV4]
          rcases (by omega : k = 0 ∨ k = 1 ∨ k = 2 ∨ k = 3) with rfl | rfl | rfl | rfl <;> kernel_rfl
        obtain ⟨S0, hS0⟩ : ∃ S0, bstr (wd4 0) = S0 := ⟨_, rfl⟩
        rw [hS0] at hq0 hpe
        clear hp htw4 ef hV4 hS0 HP2
        go_enter Tryz.func25, Tryz.ntmps25
        have tok1 : True := trivial
        go_wp2_with (first | (go_at_call 56; refine hw.mono ?_; rintro e w1 ⟨rfl, hr1, hk1⟩; have T1 := hk1.blk HTB.out hne; have y24 : w1.cell? ⟨tb, 24, none⟩ = some (.bool s.done) := T1.cell_ (by rw [List.getElem?_toArray]; exact tkc_get h8 1); have f24 := T1.frozen 24; have z1 := T1.lt) | (have _t := tok1; go_at_call 58; refine (HTW4.out _).mono ?_; rintro e w2 ⟨rfl, hb2⟩; clear tok1 _t) | (go_at_call 58; refine (HTW4.out _).mono ?_; rintro e w3 ⟨rfl, hb3⟩))
        obtain ⟨R3, T3, L3, K3⟩ := HV2.out _ _ hr1 hk1 (bnext hb2 hb3)
        clear hr1 hk1 hb2 hb3 T1 y24 f24 z1 hw hq0 hpe HV2
        obtain ⟨s1, hs1⟩ : ∃ s1, ({ s with done := true } : St) = s1 := ⟨_, rfl⟩
        rw [hs1] at T3 HO2
        clear hs1
        have HR3 := Lib.hid R3
        have HT3 := Lib.hid T3
        have HL3 := Lib.hid L3
        have HK3 := Lib.hid K3
        clear R3 T3 L3 K3
        go_loopg [25] 4 (fun gk s25 wr => ∃ (k : Nat), k + gk = 4 ∧ s25 = .int .i64 k ∧ wr = w3 ∧ Hid (pLine s ws = othG gk k f s1 ws))
        case atStart => exact ⟨0, rfl, rfl, rfl, HO2⟩
        case round =>
          obtain ⟨k, hk, rfl, rfl, ho⟩ := hrel
          by_cases hlt : k < 4
          · obtain ⟨g, rfl⟩ : ∃ g, gk = g + 1 := ⟨gk - 1, by omega⟩
            have hx := hix.out k hlt
            have i0 : (0 : Int) ≤ (k : Int) := by omega
            have i1 : (k : Int) < 4 := by omega
            by_cases hq : wd4 k = f
            · have HX : Hid (pLine s ws = pOther s1 k ws) := by rw [Hid, ho.out, othG, if_pos hq]
              rw [hq] at hx
              clear ho hq
              obtain ⟨vs', EA', ec', hT3, hO3, hE3⟩ := HT3.out.e
              have h8' := hO3.u8
              have ht3 : wr.cell? ⟨tb, 1, none⟩ = some (.int .i64 s1.c.th) := (hT3.cell 1).trans rfl
              have HTB3 := Lib.hid hT3
              have HO3 := Lib.hid hO3
              have HE3 := Lib.hid hE3
              clear hT3 hO3 hE3
              cases e1 : thrAt s1.c.th ws 1 with
              | none =>
                have hc := Lib.hid (thr_none HR3.out HL3.out hB ht3 hne e1)
                have HY : Hid (pLine s ws = none) := by rw [Hid, HX.out, pOther, e1]; rfl
                clear e1 HX
                go_wp2_with (go_at_call 60; refine hc.out.mono ?_; rintro e w4 ⟨rfl, hk4⟩)
                exact ⟨rfl, HK3.out.trans (KT.of HL3.out.le hk4 (fun b e => by rw [e]; exact hB) (fun b e _ => ⟨_, _, e ▸ HR3.out.b, .inr (.inl rfl)⟩)), by rw [HY.out]; rfl⟩
              | some t =>
                have hc := Lib.hid (thr_some HR3.out HL3.out hB ht3 hne e1)
                have HY : Hid (pLine s ws = if ws.length = 2 then some { s1 with was := ⟨t, (k : Int)⟩, es := s1.es ++ [⟨t, (k : Int)⟩] } else none) := by rw [Hid, HX.out, pOther, e1]; rfl
                clear e1 HX
                have y25 : wr.cell? ⟨tb, 25, none⟩ = some (.int .i64 s1.was.th) := HTB3.out.cell_ (by rw [List.getElem?_toArray]; exact tkc_get h8' 2)
                have y26 : wr.cell? ⟨tb, 26, none⟩ = some (.int .i64 s1.was.wh) := HTB3.out.cell_ (by rw [List.getElem?_toArray]; exact tkc_get h8' 3)
                go_upto_region 11 with (go_at_call 60; refine hc.out.mono ?_; rintro e w4 ⟨rfl, hr4, hk4⟩; have T4 := hk4.blk HTB3.out hne; have y25' := hk4.cell y25 hne; have y26' := hk4.cell y26 hne; have f25 := T4.frozen 25; have f26 := T4.frozen 26; have z4 := T4.lt)
  
                obtain ⟨ln, hln⟩ : ∃ ln, s1.es.length = ln := ⟨_, rfl⟩
                obtain ⟨V, hV, T5, O5, EN5, K5, R5⟩ : ∃ V, (w4.setCell ⟨tb, 25, none⟩ (.int .i64 t)).setCell ⟨tb, 26, none⟩ (.int .i64 (k : Int)) = V ∧ Blk V tb 63 (tkc { s1 with was := ⟨t, (k : Int)⟩ } vs' (.slice EA' ln ec')).toArray ∧ OW V B vs' s1.ps ∧ V.ownsRow B 61 2 (.slice EA' ln ec') ln (s1.es.flatMap enc_) ∧ KT B w V ∧ RBd V rb gw ws 2 := by
                  have kt := ((Keeps.refl (fun b => b = tb) w4).setCell (p := ⟨tb, 25, none⟩) (fun _ => rfl) (.int .i64 t)).setCell (p := ⟨tb, 26, none⟩) (fun _ => rfl) (.int .i64 (k : Int))
                  have kw : Keeps (K2 rb tb) wr ((w4.setCell ⟨tb, 25, none⟩ (.int .i64 t)).setCell ⟨tb, 26, none⟩ (.int .i64 (k : Int))) := (hk4.mono (S' := K2 rb tb) (fun b e _ => .inl e)).trans kt (fun b e _ => .inr e)
                  have hty : ∀ b, K2 rb tb b → b < wr.heap.size → ∃ t cs, Blk wr b t cs ∧ (t = 70 ∨ t = 63) := fun b e _ => by
                    rcases e with rfl | rfl
                    · exact ⟨_, _, HR3.out.b, .inl rfl⟩
                    · exact ⟨_, _, HTB3.out, .inr rfl⟩
                  refine ⟨_, rfl, ?_, HO3.out.keepsT kw (fun b e hb => ?_), kw.own (hln ▸ HE3.out) (fun q hq e => ?_), HK3.out.trans (KT.of HL3.out.le kw (fun b e => ?_) (fun b e hb => ?_)), hr4.keeps kt (fun e => hne e.symm) (fun e => hng e.symm)⟩
                  · have := (T4.set_ 25 (.int .i64 t)).set_ 26 (.int .i64 (k : Int))
                    rw [List.setIfInBounds_toArray, List.setIfInBounds_toArray, tkc_was h8', hln] at this
                    exact this
                  · obtain ⟨t, cs, q1, q2⟩ := hty b e hb
                    exact ⟨t, cs, q1, by rcases q2 with q2 | q2 <;> rw [q2] <;> decide⟩
                  · rcases e with rfl | rfl
                    · exact own_ne_blk (hln ▸ HE3.out) HR3.out.b (by decide) hq
                    · exact own_ne_blk (hln ▸ HE3.out) HTB3.out (by decide) hq
                  · rcases e with rfl | rfl
                    · exact hB
                    · exact HTK.out.tb
                  · obtain ⟨t, cs, q1, q2⟩ := hty b e hb
                    exact ⟨t, cs, q1, by rcases q2 with q2 | q2; exact .inr (.inl q2); exact .inl q2⟩
                rw [hV]
                have HLN := Lib.hid hln
                have hl6 : ln ≤ 60001 + N := by rw [← hln]; exact HT3.out.es
                have HT5 := Lib.hid T5
                have HO5 := Lib.hid O5
                have HE5 := Lib.hid EN5
                have HK5 := Lib.hid K5
                have HR5 := Lib.hid R5
                have hBW : B ≤ V.heap.size := Nat.le_trans hBw K5.s
                obtain ⟨i1, E3⟩ := elem_en
                obtain ⟨cs, hcs⟩ : ∃ cs, (tkc { s1 with was := ⟨t, (k : Int)⟩ } vs' (.slice EA' ln ec')).toArray = cs := ⟨_, rfl⟩
                rw [hcs] at T5
                have hck : cs[22]? = some (.slice EA' ln ec') := by rw [← hcs, List.getElem?_toArray]; exact tkc_ent h8'
                have hc25 : cs[25]? = some (.int .i64 t) := by rw [← hcs, List.getElem?_toArray]; exact tkc_get h8' 2
                have hc26 : cs[26]? = some (.int .i64 (k : Int)) := by rw [← hcs, List.getElem?_toArray]; exact tkc_get h8' 3
                have HCS := Lib.hid hcs
                clear hV hln hcs T4 y25 y26 y25' y26' f25 f26 z4 O5 K5 R5 hr4 hk4 hc
                have nE : Nonempty (ExtB tb 63 cs) := ⟨⟨V, T5⟩⟩
                have hX25 : ∀ y : ExtB tb 63 cs, y.w.cell? ⟨tb, 25, none⟩ = some (.int .i64 t) := fun y => (y.k.cell 25).trans hc25
                have hX26 : ∀ y : ExtB tb 63 cs, y.w.cell? ⟨tb, 26, none⟩ = some (.int .i64 (k : Int)) := fun y => (y.k.cell 26).trans hc26
                have hX : ∀ y : ExtB tb 63 cs, y.w.cell? ⟨tb, 22, none⟩ = some (.slice EA' ln ec') := fun y => (y.k.cell 22).trans hck
                refine wp_region_noPanic ?_
                refine NC.wp_region_lastU (fun w' => ∃ x : ExtB tb 63 cs, w' = x.w) 15 (NC.PG.one [0, 1, 2, 3, 4, 5, 6, 7, 8, 9] 10 (NC.PG.one [] 11 (NC.PG.fin [12, 13, 14]))) (by kernel_rfl) (by kernel_rfl) (by kernel_rfl) (fun _ _ _ _ _ h => h) (extb_mem T5.drew) ?_
                refine NC.wpG_one ?_
                simp only [NC.pickOps, List.getElem?_cons_succ, List.getElem?_cons_zero, Option.elim_some]
                repeat (go_big_quiet_step (fail))
                refine wpQuiet_nil ?_
                refine NC.planAct_some (fun K hK => ?_)
                go_simp
                refine hK.out _ _ (extb_mem (T5.alloc _)) ?_
                clear hK K
                refine NC.wpG_one ?_
                simp only [NC.pickOps, List.getElem?_cons_succ, List.getElem?_cons_zero, Option.elim_some]
                repeat (go_big_quiet_step (fail))
                refine wpQuiet_nil ?_
                refine NC.planAct_some (fun K hK => ?_)
                refine step_app (ys := [.int .i64 t, .int .i64 (k : Int)]) (m := 1) E3 rfl (.tmp 45) (.tmp 50) rfl B rfl (EN5.alloc _ :) rfl rfl (Rd.new _ _ _ rfl) (by simp [Value.oneCell']) (by unfold maxLen; omega) (by omega) (by simp; omega) ?_
                intro A8 c8 w8 own8 hg8 h38
                have G8 := (T5.alloc (.cells #[.int .i64 t, .int .i64 (k : Int)] 61)).drew.grown hg8 (fun q1 => own_ne_blk EN5 T5 (by decide) q1.symm)
                go_simp
                refine hK.out _ _ (extb_mem G8) ?_
                clear hK K
                have f8 := G8.frozen 22
                have v8 := (G8.cell 22).trans hck
                have z8 := G8.lt
                refine NC.wpG_fin ?_
                simp only [NC.pickOps, List.getElem?_cons_succ, List.getElem?_cons_zero, Option.elim_some]
                repeat (go_big_quiet_step (fail))
                refine wpQuiet_nil ?_
                refine NC.lastG_some (fun K hK => ?_)
                go_simp
                refine hK.out _ _ ?_
                clear hK K
                refine NoPanic.normal ?_
                clear hX
                obtain ⟨U, hU, H1, H2, H3, H5, H6⟩ : ∃ U, w8.setCell ⟨tb, 22, none⟩ (.slice A8 (ln + 1) c8) = U ∧ Hid (Blk U tb 63 (tkc { s1 with was := ⟨t, (k : Int)⟩ } vs' (.slice A8 (ln + 1) c8)).toArray) ∧ Hid (OW U B vs' s1.ps) ∧ Hid (U.ownsRow B 61 2 (.slice A8 (ln + 1) c8) (ln + 1) (s1.es.flatMap enc_ ++ [.int .i64 t, .int .i64 (k : Int)])) ∧ Hid (KT B w U) ∧ Hid (RBd U rb gw ws 2) := by
                  have kg : Keeps (fun b => (Value.slice EA' ln ec').ownBlock = some b) V w8 := (((Keeps.refl (fun b => (Value.slice EA' ln ec').ownBlock = some b) V).alloc (.cells #[.int .i64 t, .int .i64 (k : Int)] 61)).drew).grown hg8 (fun k h _ => h)
                  have k4 := (Keeps.refl (fun b => b = tb) w8).setCell (p := ⟨tb, 22, none⟩) (fun _ => rfl) (.slice A8 (ln + 1) c8)
                  have hgt : ∀ b, (Value.slice EA' ln ec').ownBlock = some b → b < V.heap.size → ∃ cs, Blk V b 61 cs := fun b e _ => own_blk EN5 e
                  have O8 := (HO5.out.keepsT kg (fun b e hb => by obtain ⟨cs, q⟩ := hgt b e hb; exact ⟨_, cs, q, by decide⟩)).keepsT k4 (fun b e _ => ⟨_, _, e ▸ G8, by decide⟩)
                  have T9 := G8.set_ 22 (.slice A8 (ln + 1) c8)
                  rw [← HCS.out, List.setIfInBounds_toArray, tkc_sete h8'] at T9
                  refine ⟨_, rfl, T9, O8, k4.own own8 (fun q hq e => by rw [e] at hq; exact own_ne_blk own8 G8 (by decide) hq), ?_, (HR5.out.keeps kg (own_ne_blk EN5 HR5.out.b (by decide)) (own_ne_blk EN5 HR5.out.g (by decide))).keeps k4 (fun e => hne e.symm) (fun e => hng e.symm)⟩
                  have k1 := KT.of hBW kg (fun b e => own_ge EN5 b e) (fun b e hb => by obtain ⟨cs, q⟩ := hgt b e hb; exact ⟨_, cs, q, .inr (.inr (.inr rfl))⟩)
                  have k2 := KT.of (B := B) (Nat.le_trans hBW kg.size) k4 (fun b e => by rw [e]; exact HTK.out.tb) (fun b e _ => ⟨_, _, e ▸ G8, .inl rfl⟩)
                  exact (HK5.out.trans k1).trans k2
                rw [hU]
                clear hU own8 hg8 h38 G8 f8 v8 z8 T5 EN5 hck hc25 hc26 hX25 hX26 nE
                by_cases hl : ws.length = 2
                · have hc := Lib.hid (rend_yes H6.out hl.symm)
                  have HZ : Hid (pLine s ws = some { s1 with was := ⟨t, (k : Int)⟩, es := s1.es ++ [⟨t, (k : Int)⟩] }) := by rw [Hid, HY.out, if_pos hl]
                  clear hl HY
                  go_wp2_with (go_at_call 61; refine hc.out.mono ?_; rintro e w9 ⟨rfl, hk9⟩)
                  refine bodyPost_ret (R := LineR w B tb (N + 1) (pLine s ws)) (results_none rfl _ _ _) rfl ?_
                  rw [HZ.out]
                  have hel : (s1.es ++ [(⟨t, (k : Int)⟩ : En)]).length = ln + 1 := by rw [List.length_append, HLN.out]; rfl
                  refine ⟨H5.out.trans (KT.of (Nat.le_trans hBw H5.out.s) hk9 (fun b e => e.elim) (fun b e => e.elim)), rfl, ⟨vs', A8, c8, ?_, H2.out.keeps hk9 (fun _ _ _ _ _ q => q), ?_⟩, fun l hl => Nat.le_trans (HT3.out.ps l hl) (by omega), ?_, HT3.out.th, hN, HTK.out.tb⟩
                  · show Blk w9 tb 63 (tkc _ vs' (.slice A8 (s1.es ++ [(⟨t, (k : Int)⟩ : En)]).length c8)).toArray
                    rw [hel]; exact hk9.blk H1.out (fun q => q)
                  · show w9.ownsRow B 61 2 (.slice A8 (s1.es ++ [(⟨t, (k : Int)⟩ : En)]).length c8) (s1.es ++ [(⟨t, (k : Int)⟩ : En)]).length ((s1.es ++ [(⟨t, (k : Int)⟩ : En)]).flatMap enc_)
                    rw [hel, List.flatMap_append]; exact hk9.own H3.out (fun _ _ q => q)
                  · show (s1.es ++ [(⟨t, (k : Int)⟩ : En)]).length ≤ _
                    rw [hel]; omega
                · have hc := Lib.hid (rend_no H6.out (ok := true) (.inr (by have := H6.out.k; omega)))
                  have HZ : Hid (pLine s ws = none) := by rw [Hid, HY.out, if_neg hl]
                  clear hl HY
                  go_wp2_with (go_at_call 61; refine hc.out.mono ?_; rintro e w9 ⟨rfl, hk9⟩)
                  exact ⟨rfl, H5.out.trans (KT.of (Nat.le_trans hBw H5.out.s) hk9 (fun b e => e.elim) (fun b e => e.elim)), by rw [HZ.out]; rfl⟩
            · have HO : Hid (pLine s ws = othG g (k + 1) f s1 ws) := by rw [Hid, ho.out, othG, if_neg hq]
              have t1 : ((bstr (wd4 k)).toList == (bstr f).toList) = false := by
                rw [beq_eq_false_iff_ne, ByteArray.toList_eq, ByteArray.toList_eq]; exact hq
              have ck : IntKind.i64.wrap ((k : Int) + 1) = (k : Int) + 1 := IntWalk.i64_in _ (by omega)
              obtain ⟨S, hS⟩ : ∃ S, bstr (wd4 k) = S := ⟨_, rfl⟩
              rw [hS] at hx t1
              clear ho hS hq
              go_wp2_with fail
              go_roundg g
              case measure => omega
              case rel => exact ⟨k + 1, by omega, by go_num, rfl, HO⟩
          · obtain rfl : k = 4 := by omega
            obtain rfl : gk = 0 := by omega
            have HX : Hid (pLine s ws = none) := ho
            clear ho
            go_wp2_with fail
            exact ⟨rfl, HK3.out, by rw [HX.out]; rfl⟩
end Go.Proofs.YtjjgngccgjpnaaaGreatDoor
