/- A call's line is taken. -/
import Derived.Test.YtjjgngccgjpnaaaGreatDoorTxtI
namespace Go.Proofs.YtjjgngccgjpnaaaGreatDoor
set_option linter.unusedVariables false
set_option linter.unusedSimpArgs false
open Go.RowKit

theorem tkc_get {s : St} {vs : List Value} {ev : Value} (h : vs.length = 8) (j : Nat) : (tkc s vs ev)[23 + j]? = ([.int .i64 s.last, .bool s.done, .int .i64 s.was.th, .int .i64 s.was.wh] : List Value)[j]? := by
  unfold tkc
  rw [List.getElem?_append_right (by rw [scc_len h]; omega), scc_len h, Nat.add_sub_cancel_left]
theorem tkc_row {s : St} {vs : List Value} {ev v : Value} (h : vs.length = 8) {j : Nat} (hv : vs[j]? = some v) : (tkc s vs ev)[14 + j]? = some v := by
  have hj := (List.getElem?_eq_some_iff.1 hv).1
  unfold tkc
  rw [List.getElem?_append_left (by rw [scc_len h]; omega)]
  exact scc_get hv
theorem tkc_last {s : St} {vs : List Value} {ev : Value} (h : vs.length = 8) (v : Int) : (tkc s vs ev).set 23 (.int .i64 v) = tkc { s with last := v } vs ev := by
  unfold tkc
  rw [List.set_append_right _ _ (by rw [scc_len h]; omega), scc_len h]
  rfl
theorem tkc_setp {s : St} {vs : List Value} {ev : Value} (h : vs.length = 8) {j : Nat} (hj : j < 8) (v : Value) : (tkc s vs ev).set (14 + j) v = tkc s (vs.set j v) ev := by
  unfold tkc
  rw [List.set_append_left _ _ (by rw [scc_len h]; omega), scc_set (by omega)]
theorem thrAt_in {th t : Int} {ws : Wd} {k : Nat} (h : thrAt th ws k = some t) : 0 ≤ t ∧ t < th := by
  obtain ⟨x, _, hi⟩ := Option.bind_eq_some_iff.1 h
  by_cases q : 0 ≤ x ∧ x < th
  · rw [if_pos q] at hi
    cases hi
    exact q
  · rw [if_neg q] at hi
    cases hi
theorem own_blk {w : World} {B e size n : Nat} {v : Value} {xs : List Value} (h : w.ownsRow B e size v n xs) {k : Nat} (hk : v.ownBlock = some k) : ∃ cs, Blk w k e cs := by
  rcases h.2 with ⟨rfl, _⟩ | ⟨g, cap, cur, rfl, _, hh, _⟩
  · simp [Value.ownBlock] at hk
  · have : g = k := by simpa [Value.ownBlock] using hk
    subst this
    exact ⟨_, hh⟩
theorem own_ne_own {w : World} {B B' e e' size size' n n' : Nat} {v v' : Value} {xs xs' : List Value} (h : w.ownsRow B e size v n xs) (h' : w.ownsRow B' e' size' v' n' xs') (hne : e ≠ e') {k : Nat} (hk : v.ownBlock = some k) : v'.ownBlock ≠ some k := fun hk' => by
  obtain ⟨cs, h1⟩ := own_blk h hk
  obtain ⟨cs', h2⟩ := own_blk h' hk'
  exact Blk.ne_ h1 h2 hne rfl
set_option maxHeartbeats 4000000 in
set_option maxRecDepth 100000 in
theorem tcallline_any {w : World} {B rb gw tb N : Nat} {ws : Wd} {s : St} (h : RBd w rb gw ws 1) (hT : TK w B tb s N) (hv : LVB B w) (hB : B ≤ rb) (hN : N + 1 ≤ 1000000) : Calls Tryz.prog 57 #[.pointer (some ⟨tb, 0, none⟩), .pointer (some ⟨rb, 0, none⟩)] w (LineR w B tb (N + 1) (pCall s ws)) := by
  obtain ⟨vs, EA, ec, hTb, hO, hEn⟩ := hT.e
  have h8 := hO.u8
  have hne : tb ≠ rb := Blk.ne_ hTb h.b (by decide)
  have hng : tb ≠ gw := Blk.ne_ hTb h.g (by decide)
  have HKP : Hid (∀ w', Keeps (fun b => b = rb) w w' → KT B w w') := fun w' hk => KT.of hv.le hk (fun b e => by rw [e]; exact hB) (fun b e _ => ⟨_, _, e ▸ h.b, .inr (.inl rfl)⟩)
  have ht : w.cell? ⟨tb, 1, none⟩ = some (.int .i64 s.c.th) := (hTb.cell 1).trans rfl
  have hrw := h.b.lt
  have htw := hTb.lt
  have HTB := Lib.hid hTb
  have HV := Lib.hid hv
  have HTK := Lib.hid hT
  have HO := Lib.hid hO
  have HEN := Lib.hid hEn
  have HH := Lib.hid h
  have hBw := hv.le
  clear hTb hO hEn hT hv
  cases e1 : thrAt s.c.th ws 1 with
  | none =>
    have E1 := Lib.hid e1
    have hc := thr_none HH.out HV.out hB ht hne e1
    have HE : Hid (pCall s ws = none) := by simp only [Hid, pCall, E1.out, Option.bind_some, Option.bind_none]
    rw [HE.out]
    go_enter Tryz.func57, Tryz.ntmps57
    go_wp2_with (go_at_call 60; refine hc.mono ?_; rintro e wz ⟨rfl, hkz⟩)
    exact ⟨rfl, HKP.out _ hkz, rfl⟩
  | some t =>
    have E1 := Lib.hid e1
    have hc := Lib.hid (thr_some HH.out HV.out hB ht hne e1)
    clear e1
    have h2 : s.c.th ≤ 8 := HTK.out.th
    have htb : 0 ≤ t ∧ t < s.c.th := thrAt_in E1.out
    obtain ⟨m, hm⟩ : ∃ m : Nat, t = (m : Int) := ⟨t.toNat, by omega⟩
    subst hm
    have hm8 : m < 8 := by omega
    go_enter Tryz.func57, Tryz.ntmps57
    go_upto_region 1 with (go_at_call 60; refine hc.out.mono ?_; rintro e w1 ⟨rfl, hr1, hk1⟩)
    cases e2 : ws[2]? with
    | none =>
      have E2 := Lib.hid e2
      have hc := word_none hr1 e2
      have HE : Hid (pCall s ws = none) := by simp only [Hid, pCall, E1.out, E2.out, Option.bind_some, Option.bind_none]
      rw [HE.out]
      go_wp2_with (go_at_call 56; refine hc.mono ?_; rintro e wz ⟨rfl, hkz⟩)
      exact ⟨rfl, HKP.out _ (hk1.trans_ hkz), rfl⟩
    | some o =>
      have E2 := Lib.hid e2
      have hc := Lib.hid (word_some hr1 e2)
      clear e2
      go_upto_region 2 with (first | (go_at_call 56; refine hc.out.mono ?_; rintro e w2 ⟨rfl, hr2, hk2⟩) | (go_at_call 90; refine (op_any _).mono ?_; rintro e w3 ⟨rfl, hb3⟩))
      obtain ⟨ov, hov⟩ : ∃ ov, (opOf (bstr o)).getD 0 = ov := ⟨_, rfl⟩
      obtain ⟨ob, hob⟩ : ∃ ob, (opOf (bstr o)).isSome = ob := ⟨_, rfl⟩
      rw [hov, hob]
      have HOV := Lib.hid hov
      have HOB := Lib.hid hob
      have hr3 := hr2.below hb3
      have hk3 := (hk1.trans_ hk2).trans_ (Keeps.of_below (S := fun b => b = rb) hb3)
      clear hov hob hr1 hr2 hk1 hk2 hb3
      cases e3 : numAt ws 3 with
      | none =>
        have E3 := Lib.hid e3
        have hc := rnum_none hr3 (HV.out.keeps hk3 (fun b e => by rw [e]; exact hB)) hB e3
        have HE : Hid (pCall s ws = none) := by simp only [Hid, pCall, E1.out, E2.out, E3.out, Option.bind_some, Option.bind_none]
        rw [HE.out]
        go_wp2_with (go_at_call 62; refine hc.mono ?_; rintro e wz ⟨rfl, hkz⟩)
        exact ⟨rfl, HKP.out _ (hk3.trans_ hkz), rfl⟩
      | some lv =>
        have E3 := Lib.hid e3
        have hc := Lib.hid (rnum_some hr3 (HV.out.keeps hk3 (fun b e => by rw [e]; exact hB)) hB e3)
        clear e3
        go_upto_region 3 with (go_at_call 62; refine hc.out.mono ?_; rintro e w4 ⟨rfl, hr4, hk4⟩)
        obtain ⟨cb, hcb⟩ : ∃ cb, w4.heap.size = cb := ⟨_, rfl⟩
        obtain ⟨W4, hW4, C4, R4, K4⟩ : ∃ W4, w4.alloc (.cells #[.int .i64 (ov : Int), .int .i64 lv, .int .i64 0, .int .u64 0, .int .u64 0, .int .u64 0, .int .i64 0] 51) = W4 ∧ Blk W4 cb 51 #[.int .i64 (ov : Int), .int .i64 lv, .int .i64 0, .int .u64 0, .int .u64 0, .int .u64 0, .int .i64 0] ∧ RBd W4 rb gw ws 4 ∧ Keeps (fun b => b = rb) w W4 := ⟨_, rfl, hcb ▸ Blk.new w4 _ _, hr4.keeps ((Keeps.refl (fun _ => False) w4).alloc _) (fun q => q) (fun q => q), (hk3.trans_ hk4).alloc _⟩
        have hcw : w.heap.size ≤ cb := by have := (hk3.trans_ hk4).size; omega
        rw [hW4, hcb]
        clear hW4 hcb hr3 hk3 hr4 hk4 hc
        cases e4 : numAt ws 4 with
        | none =>
          have E4 := Lib.hid e4
          have hc := rnum_none R4 (HV.out.keeps K4 (fun b e => by rw [e]; exact hB)) hB e4
          have HE : Hid (pCall s ws = none) := by simp only [Hid, pCall, E1.out, E2.out, E3.out, E4.out, Option.bind_some, Option.bind_none]
          rw [HE.out]
          go_wp2_with (go_at_call 62; refine hc.mono ?_; rintro e wz ⟨rfl, hkz⟩)
          exact ⟨rfl, HKP.out _ (K4.trans_ hkz), rfl⟩
        | some key =>
          have E4 := Lib.hid e4
          have hc := Lib.hid (rnum_some R4 (HV.out.keeps K4 (fun b e => by rw [e]; exact hB)) hB e4)
          clear e4
          go_upto_region 4 with (go_at_call 62; refine hc.out.mono ?_; rintro e w5 ⟨rfl, hr5, hk5⟩; have D := hk5.blk C4 (by omega); have y := D.cell 2; have f := D.frozen 2; have z := D.lt)
          obtain ⟨W5, hU, C5, R5, K5⟩ : ∃ W5, w5.setCell ⟨cb, 2, none⟩ (.int .i64 key) = W5 ∧ Blk W5 cb 51 #[.int .i64 (ov : Int), .int .i64 lv, .int .i64 key, .int .u64 0, .int .u64 0, .int .u64 0, .int .i64 0] ∧ RBd W5 rb gw ws 5 ∧ Keeps (fun b => b = rb) w W5 := by
            have kt := (Keeps.refl (fun b => b = cb) w5).setCell (p := ⟨cb, 2, none⟩) (fun _ => rfl) (.int .i64 key)
            refine ⟨_, rfl, D.set_ 2 (.int .i64 key), hr5.keeps kt (fun e => by have e' : rb = cb := e; omega) (fun e => by have e' : gw = cb := e; have := HH.out.g.lt; omega), (K4.trans_ hk5).setCell (p := ⟨cb, 2, none⟩) (fun q => by have q' : cb < w.heap.size := q; omega) _⟩
          rw [hU]
          clear hU D y f z hr5 hk5 hc C4 R4 K4
          cases e5 : bitAt ws 5 with
          | none =>
            have E5 := Lib.hid e5
            have hc := rbit_none R5 (HV.out.keeps K5 (fun b e => by rw [e]; exact hB)) hB e5
            have HE : Hid (pCall s ws = none) := by simp only [Hid, pCall, E1.out, E2.out, E3.out, E4.out, E5.out, Option.bind_some, Option.bind_none]
            rw [HE.out]
            go_wp2_with (go_at_call 91; refine hc.mono ?_; rintro e wz ⟨rfl, hkz⟩)
            exact ⟨rfl, HKP.out _ (K5.trans_ hkz), rfl⟩
          | some a =>
            have E5 := Lib.hid e5
            have hc := Lib.hid (rbit_some R5 (HV.out.keeps K5 (fun b e => by rw [e]; exact hB)) hB e5)
            clear e5
            go_upto_region 5 with (go_at_call 91; refine hc.out.mono ?_; rintro e w6 ⟨rfl, hr6, hk6⟩; have D := hk6.blk C5 (by omega); have y := D.cell 3; have f := D.frozen 3; have z := D.lt)
            obtain ⟨W6, hU, C6, R6, K6⟩ : ∃ W6, w6.setCell ⟨cb, 3, none⟩ (.int .u64 (a : Int)) = W6 ∧ Blk W6 cb 51 #[.int .i64 (ov : Int), .int .i64 lv, .int .i64 key, .int .u64 (a : Int), .int .u64 0, .int .u64 0, .int .i64 0] ∧ RBd W6 rb gw ws 6 ∧ Keeps (fun b => b = rb) w W6 := by
              have kt := (Keeps.refl (fun b => b = cb) w6).setCell (p := ⟨cb, 3, none⟩) (fun _ => rfl) (.int .u64 (a : Int))
              refine ⟨_, rfl, D.set_ 3 (.int .u64 (a : Int)), hr6.keeps kt (fun e => by have e' : rb = cb := e; omega) (fun e => by have e' : gw = cb := e; have := HH.out.g.lt; omega), (K5.trans_ hk6).setCell (p := ⟨cb, 3, none⟩) (fun q => by have q' : cb < w.heap.size := q; omega) _⟩
            rw [hU]
            clear hU D y f z hr6 hk6 hc C5 R5 K5
            cases e6 : bitAt ws 6 with
            | none =>
              have E6 := Lib.hid e6
              have hc := rbit_none R6 (HV.out.keeps K6 (fun b e => by rw [e]; exact hB)) hB e6
              have HE : Hid (pCall s ws = none) := by simp only [Hid, pCall, E1.out, E2.out, E3.out, E4.out, E5.out, E6.out, Option.bind_some, Option.bind_none]
              rw [HE.out]
              go_wp2_with (go_at_call 91; refine hc.mono ?_; rintro e wz ⟨rfl, hkz⟩)
              exact ⟨rfl, HKP.out _ (K6.trans_ hkz), rfl⟩
            | some b =>
              have E6 := Lib.hid e6
              have hc := Lib.hid (rbit_some R6 (HV.out.keeps K6 (fun b e => by rw [e]; exact hB)) hB e6)
              clear e6
              go_upto_region 6 with (go_at_call 91; refine hc.out.mono ?_; rintro e w7 ⟨rfl, hr7, hk7⟩; have D := hk7.blk C6 (by omega); have y := D.cell 4; have f := D.frozen 4; have z := D.lt)
              obtain ⟨W7, hU, C7, R7, K7⟩ : ∃ W7, w7.setCell ⟨cb, 4, none⟩ (.int .u64 (b : Int)) = W7 ∧ Blk W7 cb 51 #[.int .i64 (ov : Int), .int .i64 lv, .int .i64 key, .int .u64 (a : Int), .int .u64 (b : Int), .int .u64 0, .int .i64 0] ∧ RBd W7 rb gw ws 7 ∧ Keeps (fun b => b = rb) w W7 := by
                have kt := (Keeps.refl (fun b => b = cb) w7).setCell (p := ⟨cb, 4, none⟩) (fun _ => rfl) (.int .u64 (b : Int))
                refine ⟨_, rfl, D.set_ 4 (.int .u64 (b : Int)), hr7.keeps kt (fun e => by have e' : rb = cb := e; omega) (fun e => by have e' : gw = cb := e; have := HH.out.g.lt; omega), (K6.trans_ hk7).setCell (p := ⟨cb, 4, none⟩) (fun q => by have q' : cb < w.heap.size := q; omega) _⟩
              rw [hU]
              clear hU D y f z hr7 hk7 hc C6 R6 K6
              cases e7 : bitAt ws 7 with
              | none =>
                have E7 := Lib.hid e7
                have hc := rbit_none R7 (HV.out.keeps K7 (fun b e => by rw [e]; exact hB)) hB e7
                have HE : Hid (pCall s ws = none) := by simp only [Hid, pCall, E1.out, E2.out, E3.out, E4.out, E5.out, E6.out, E7.out, Option.bind_some, Option.bind_none]
                rw [HE.out]
                go_wp2_with (go_at_call 91; refine hc.mono ?_; rintro e wz ⟨rfl, hkz⟩)
                exact ⟨rfl, HKP.out _ (K7.trans_ hkz), rfl⟩
              | some hd =>
                have E7 := Lib.hid e7
                have hc := Lib.hid (rbit_some R7 (HV.out.keeps K7 (fun b e => by rw [e]; exact hB)) hB e7)
                clear e7
                go_upto_region 7 with (go_at_call 91; refine hc.out.mono ?_; rintro e w8 ⟨rfl, hr8, hk8⟩; have D := hk8.blk C7 (by omega); have y := D.cell 5; have f := D.frozen 5; have z := D.lt)
                obtain ⟨W8, hU, C8, R8, K8⟩ : ∃ W8, w8.setCell ⟨cb, 5, none⟩ (.int .u64 (hd : Int)) = W8 ∧ Blk W8 cb 51 #[.int .i64 (ov : Int), .int .i64 lv, .int .i64 key, .int .u64 (a : Int), .int .u64 (b : Int), .int .u64 (hd : Int), .int .i64 0] ∧ RBd W8 rb gw ws 8 ∧ Keeps (fun b => b = rb) w W8 := by
                  have kt := (Keeps.refl (fun b => b = cb) w8).setCell (p := ⟨cb, 5, none⟩) (fun _ => rfl) (.int .u64 (hd : Int))
                  refine ⟨_, rfl, D.set_ 5 (.int .u64 (hd : Int)), hr8.keeps kt (fun e => by have e' : rb = cb := e; omega) (fun e => by have e' : gw = cb := e; have := HH.out.g.lt; omega), (K7.trans_ hk8).setCell (p := ⟨cb, 5, none⟩) (fun q => by have q' : cb < w.heap.size := q; omega) _⟩
                rw [hU]
                clear hU D y f z hr8 hk8 hc C7 R7 K7
                cases e8 : numAt ws 8 with
                | none =>
                  have E8 := Lib.hid e8
                  have hc := rnum_none R8 (HV.out.keeps K8 (fun b e => by rw [e]; exact hB)) hB e8
                  have HE : Hid (pCall s ws = none) := by simp only [Hid, pCall, E1.out, E2.out, E3.out, E4.out, E5.out, E6.out, E7.out, E8.out, Option.bind_some, Option.bind_none]
                  rw [HE.out]
                  go_wp2_with (go_at_call 62; refine hc.mono ?_; rintro e wz ⟨rfl, hkz⟩)
                  exact ⟨rfl, HKP.out _ (K8.trans_ hkz), rfl⟩
                | some rg =>
                  have E8 := Lib.hid e8
                  have hc := Lib.hid (rnum_some R8 (HV.out.keeps K8 (fun b e => by rw [e]; exact hB)) hB e8)
                  clear e8
                  go_upto_region 8 with (go_at_call 62; refine hc.out.mono ?_; rintro e w9 ⟨rfl, hr9, hk9⟩; have D := hk9.blk C8 (by omega); have y := D.cell 6; have f := D.frozen 6; have z := D.lt)
                  obtain ⟨W9, hU, C9, R9, K9⟩ : ∃ W9, w9.setCell ⟨cb, 6, none⟩ (.int .i64 rg) = W9 ∧ Blk W9 cb 51 #[.int .i64 (ov : Int), .int .i64 lv, .int .i64 key, .int .u64 (a : Int), .int .u64 (b : Int), .int .u64 (hd : Int), .int .i64 rg] ∧ RBd W9 rb gw ws 9 ∧ Keeps (fun b => b = rb) w W9 := by
                    have kt := (Keeps.refl (fun b => b = cb) w9).setCell (p := ⟨cb, 6, none⟩) (fun _ => rfl) (.int .i64 rg)
                    refine ⟨_, rfl, D.set_ 6 (.int .i64 rg), hr9.keeps kt (fun e => by have e' : rb = cb := e; omega) (fun e => by have e' : gw = cb := e; have := HH.out.g.lt; omega), (K8.trans_ hk9).setCell (p := ⟨cb, 6, none⟩) (fun q => by have q' : cb < w.heap.size := q; omega) _⟩
                  rw [hU]
                  clear hU D y f z hr9 hk9 hc C8 R8 K8
                  have T9 := K9.blk HTB.out hne
                  have y23 : W9.cell? ⟨tb, 23, none⟩ = some (.int .i64 s.last) := T9.cell_ (by rw [List.getElem?_toArray]; exact tkc_get h8 0)
                  have y24 : W9.cell? ⟨tb, 24, none⟩ = some (.bool s.done) := T9.cell_ (by rw [List.getElem?_toArray]; exact tkc_get h8 1)
                  have f23 := T9.frozen 23
                  have z9 := T9.lt
                  have HP9 : Hid (pCall s ws = (opOf (bstr o)).bind fun op => if s.last ≤ (m : Int) ∧ s.done = false ∧ ws.length = 9 then some { s with last := (m : Int), ps := s.ps.set (m : Int).toNat (s.ps.getD (m : Int).toNat [] ++ [⟨(op : Int), lv, key, (a : Int), (b : Int), (hd : Int), rg⟩]) } else none) := by
                    simp only [Hid, pCall, E1.out, E2.out, E3.out, E4.out, E5.out, E6.out, E7.out, E8.out, Option.bind_some]
                  obtain ⟨la, hla⟩ : ∃ la, s.last = la := ⟨_, rfl⟩
                  obtain ⟨dn, hdn⟩ : ∃ dn, s.done = dn := ⟨_, rfl⟩
                  have HT9 := Lib.hid T9
                  clear T9
                  rw [hla] at y23
                  rw [hdn] at y24
                  have HDN := Lib.hid hdn
                  have HLA := Lib.hid hla
                  clear hdn hla
                  cases ob with
                  | false =>
                    have hc := rend_no R9 (ok := false) (.inl rfl)
                    have HE : Hid (pCall s ws = none) := by have hnn : opOf (bstr o) = none := (by cases h : opOf (bstr o) with | none => rfl | some x => have := HOB.out; rw [h] at this; cases this); rw [Hid, HP9.out, hnn]; rfl
                    rw [HE.out]
                    go_wp2_with (go_at_call 61; refine hc.mono ?_; rintro e wz ⟨rfl, hkz⟩)
                    exact ⟨rfl, HKP.out _ (K9.trans_ (hkz.mono (fun b e _ => e.elim))), rfl⟩
                  | true =>
                    obtain ⟨op, hop⟩ : ∃ op, opOf (bstr o) = some op := Option.isSome_iff_exists.1 HOB.out
                    have hov : ov = op := by rw [← HOV.out, hop]; rfl
                    subst hov
                    have HP : Hid (pCall s ws = if s.last ≤ (m : Int) ∧ s.done = false ∧ ws.length = 9 then some { s with last := (m : Int), ps := s.ps.set (m : Int).toNat (s.ps.getD (m : Int).toNat [] ++ [⟨(ov : Int), lv, key, (a : Int), (b : Int), (hd : Int), rg⟩]) } else none) := by rw [Hid, HP9.out, hop]; rfl
                    clear hop HP9 HOB HOV
                    by_cases hla : la ≤ (m : Int)
                    case neg =>
                      have t1 : decide (la ≤ (m : Int)) = false := decide_eq_false hla
                      have hc := rend_no R9 (ok := false) (.inl rfl)
                      have HE : Hid (pCall s ws = none) := by rw [Hid, HP.out, if_neg (fun q => hla (HLA.out ▸ q.1))]
                      rw [HE.out]
                      go_wp2_with (go_at_call 61; refine hc.mono ?_; rintro e wz ⟨rfl, hkz⟩)
                      exact ⟨rfl, HKP.out _ (K9.trans_ (hkz.mono (fun b e _ => e.elim))), rfl⟩
                    cases dn with
                    | true =>
                      have hc := rend_no R9 (ok := false) (.inl rfl)
                      have HE : Hid (pCall s ws = none) := by rw [Hid, HP.out, if_neg (fun q => by rw [HDN.out] at q; cases q.2.1)]
                      rw [HE.out]
                      go_wp2_with (go_at_call 61; refine hc.mono ?_; rintro e wz ⟨rfl, hkz⟩)
                      exact ⟨rfl, HKP.out _ (K9.trans_ (hkz.mono (fun b e _ => e.elim))), rfl⟩
                    | false =>
                      by_cases hl9 : ws.length = 9
                      case neg =>
                        have hc := rend_no R9 (ok := true) (.inr (by have := R9.k; omega))
                        have HE : Hid (pCall s ws = none) := by rw [Hid, HP.out, if_neg (fun q => hl9 q.2.2)]
                        rw [HE.out]
                        go_wp2_with (go_at_call 61; refine hc.mono ?_; rintro e wz ⟨rfl, hkz⟩)
                        exact ⟨rfl, HKP.out _ (K9.trans_ (hkz.mono (fun b e _ => e.elim))), rfl⟩
                      obtain ⟨s', hs'⟩ : ∃ s', ({ s with last := (m : Int), ps := s.ps.set (m : Int).toNat (s.ps.getD (m : Int).toNat [] ++ [⟨(ov : Int), lv, key, (a : Int), (b : Int), (hd : Int), rg⟩]) } : St) = s' := ⟨_, rfl⟩
                      have HE : Hid (pCall s ws = some s') := by rw [Hid, HP.out, if_pos ⟨by rw [HLA.out]; exact hla, HDN.out, hl9⟩, hs']
                      have HS' := Lib.hid hs'
                      rw [HE.out]
                      have hc := rend_yes R9 hl9.symm
                      clear HP hl9 hs'
                      go_upto_region 10 with (go_at_call 61; refine hc.mono ?_; rintro e w10 ⟨rfl, hk10⟩; have T10 := hk10.blk HT9.out (fun e => e); have y23' := hk10.cell y23 (fun e => e); have f23' := T10.frozen 23; have z10 := T10.lt)
                      obtain ⟨l, A, c, hlp, hvA⟩ : ∃ l A c, s.ps[m]? = some l ∧ vs[m]? = some (.slice A l.length c) := by
                        have hm : m < s.ps.length := by rw [HO.out.p8]; exact hm8
                        obtain ⟨A, c, q, _⟩ := HO.out.at_ m _ (List.getElem?_eq_getElem hm)
                        exact ⟨_, A, c, List.getElem?_eq_getElem hm, q⟩
                      obtain ⟨W, hW, T11, C11, R11, K11, O11, EN11⟩ : ∃ W, w10.setCell ⟨tb, 23, none⟩ (.int .i64 (m : Int)) = W ∧ Blk W tb 63 (tkc { s with last := (m : Int) } vs (.slice EA s.es.length ec)).toArray ∧ Blk W cb 51 #[.int .i64 (ov : Int), .int .i64 lv, .int .i64 key, .int .u64 (a : Int), .int .u64 (b : Int), .int .u64 (hd : Int), .int .i64 rg] ∧ RBd W rb gw ws 9 ∧ Keeps (K2 rb tb) w W ∧ OW W B vs s.ps ∧ W.ownsRow B 61 2 (.slice EA s.es.length ec) s.es.length (s.es.flatMap enc_) := by
                        have ka : Keeps (fun b => b = rb) w w10 := K9.trans_ (hk10.mono (fun b e _ => e.elim))
                        have kt := (Keeps.refl (fun b => b = tb) w10).setCell (p := ⟨tb, 23, none⟩) (fun _ => rfl) (.int .i64 (m : Int))
                        have kw : Keeps (K2 rb tb) w (w10.setCell ⟨tb, 23, none⟩ (.int .i64 (m : Int))) := (ka.mono (S' := K2 rb tb) (fun b e _ => .inl e)).trans kt (fun b e _ => .inr e)
                        refine ⟨_, rfl, ?_, kt.blk (hk10.blk C9 (fun e => e)) (fun e => by have e' : cb = tb := e; omega), (R9.keeps hk10 (fun e => e) (fun e => e)).keeps kt (fun e => hne e.symm) (fun e => hng e.symm), kw, HO.out.keepsT kw (fun b e _ => ?_), kw.own HEN.out (fun q hq e => ?_)⟩
                        · have := T10.set_ 23 (.int .i64 (m : Int))
                          rw [List.setIfInBounds_toArray, tkc_last h8] at this
                          exact this
                        · rcases e with rfl | rfl
                          · exact ⟨_, _, HH.out.b, by decide⟩
                          · exact ⟨_, _, HTB.out, by decide⟩
                        · rcases e with rfl | rfl
                          · exact own_ne_blk HEN.out HH.out.b (by decide) hq
                          · exact own_ne_blk HEN.out HTB.out (by decide) hq
                      rw [hW]
                      have HOLT : Hid (∀ q, (Value.slice A l.length c).ownBlock = some q → q < w.heap.size) := HO.out.lt hvA
                      obtain ⟨own, hown⟩ : ∃ ow, ow = W.ownsRow B 51 7 (.slice A l.length c) l.length (l.flatMap cvc) := ⟨_, rfl⟩
                      have own5 : W.ownsRow B 51 7 (.slice A l.length c) l.length (l.flatMap cvc) := by
                        obtain ⟨A', c', q, h⟩ := O11.at_ m l hlp
                        rw [hvA] at q
                        injection q with q
                        injection q with q1 q2 q3
                        subst q1 q3
                        exact h
                      clear hown own
                      obtain ⟨cs, hcs⟩ : ∃ cs, (tkc { s with last := (m : Int) } vs (.slice EA s.es.length ec)).toArray = cs := ⟨_, rfl⟩
                      have hck : cs[14 + m]? = some (.slice A l.length c) := by rw [← hcs, List.getElem?_toArray]; exact tkc_row h8 hvA
                      rw [hcs] at T11
                      have HCS := Lib.hid hcs
                      have hln : l.length ≤ N := HTK.out.ps l (List.mem_of_getElem? hlp)
                      obtain ⟨ln, hln'⟩ : ∃ ln, l.length = ln := ⟨_, rfl⟩
                      rw [hln'] at hck own5 hln HOLT hvA
                      have HLN := Lib.hid hln'
                      have HLP := Lib.hid hlp
                      have HVA := Lib.hid hvA
                      have HO11 := Lib.hid O11
                      have HK11 := Lib.hid K11
                      have HE11 := Lib.hid EN11
                      have HR11 := Lib.hid R11
                      have hBW : B ≤ W.heap.size := Nat.le_trans hBw K11.size
                      have hcbW := C11.lt
                      have m0 : (0 : Int) ≤ (m : Int) := by omega
                      have m1 : (m : Int) < 8 := by omega
                      have hi7 : (Tryz.prog.info? 51).map (·.size) = some (#[.int .i64 (ov : Int), .int .i64 lv, .int .i64 key, .int .u64 (a : Int), .int .u64 (b : Int), .int .u64 (hd : Int), .int .i64 rg] : Array Value).size := by kernel_rfl
                      obtain ⟨i1, E2⟩ := elem_cv
                      clear hW T10 y23' f23' z10 hk10 C9 R9 K9 hc hcs hln' hlp hvA O11 K11 EN11 R11 hla HT9 y23 y24 f23 z9 h h2 htb
                      have nE : Nonempty (ExtB2 tb 63 cs cb 51 #[.int .i64 (ov : Int), .int .i64 lv, .int .i64 key, .int .u64 (a : Int), .int .u64 (b : Int), .int .u64 (hd : Int), .int .i64 rg]) := ⟨⟨W, T11, C11⟩⟩
                      have hX : ∀ y : ExtB2 tb 63 cs cb 51 #[.int .i64 (ov : Int), .int .i64 lv, .int .i64 key, .int .u64 (a : Int), .int .u64 (b : Int), .int .u64 (hd : Int), .int .i64 rg], y.w.cell? ⟨tb, 14 + m, none⟩ = some (.slice A ln c) := fun y => (y.k.cell (14 + m)).trans hck
                      refine wp_region_noPanic ?_
                      refine NC.wp_region_lastU (fun w' => ∃ x : ExtB2 tb 63 cs cb 51 #[.int .i64 (ov : Int), .int .i64 lv, .int .i64 key, .int .u64 (a : Int), .int .u64 (b : Int), .int .u64 (hd : Int), .int .i64 rg], w' = x.w) 16 (NC.PG.one [0, 1, 2, 3, 4, 5, 6, 7, 8, 9, 12, 13, 14] 10 (NC.PG.one [] 11 (NC.PG.fin [15]))) (by kernel_rfl) (by kernel_rfl) (by kernel_rfl) (fun _ _ _ _ _ h => h) (ext2_mem T11.drew C11.drew) ?_
                      refine NC.wpG_one ?_
                      simp only [NC.pickOps, List.getElem?_cons_succ, List.getElem?_cons_zero, Option.elim_some]
                      go_big_quiet_step (fail)
                      go_big_quiet_step (fail)
                      go_big_quiet_step (fail)
                      go_big_quiet_step (fail)
                      go_big_quiet_step (fail)
                      go_big_quiet_step (fail)
                      go_big_quiet_step (fail)
                      go_big_quiet_step (fail)
                      go_big_quiet_step (fail)
                      refine wpQuiet_load_row rfl 51 (.tmp 7) rfl cb rfl 51 _ _ (fun w ⟨x, e⟩ => e ▸ x.k') Tryz.underlying51 rfl hi7 ?_; simp only [Act.put, List.setIfInBounds_toArray, List.set_cons_succ, List.set_cons_zero]
                      go_big_quiet_step (fail)
                      go_big_quiet_step (fail)
                      go_big_quiet_step (fail)
                      refine wpQuiet_nil ?_
                      refine NC.planAct_some (fun K hK => ?_)
                      go_simp
                      refine hK.out _ _ (ext2_mem (T11.alloc _) (C11.alloc _)) ?_
                      clear hK K
                      refine NC.wpG_one ?_
                      simp only [NC.pickOps, List.getElem?_cons_succ, List.getElem?_cons_zero, Option.elim_some]
                      repeat (go_big_quiet_step (fail))
                      refine wpQuiet_nil ?_
                      refine NC.planAct_some (fun K hK => ?_)
                      refine step_app (ys := [.int .i64 (ov : Int), .int .i64 lv, .int .i64 key, .int .u64 (a : Int), .int .u64 (b : Int), .int .u64 (hd : Int), .int .i64 rg]) (m := 1) E2 rfl (.tmp 68) (.tmp 70) rfl B rfl (own5.alloc _ :) rfl rfl (Rd.new _ _ _ rfl) (by simp [Value.oneCell']) (by unfold maxLen; omega) (by omega) (by simp; omega) ?_
                      intro A8 c8 w8 own8 hg8 h38
                      have G8 := (T11.alloc (.cells #[.int .i64 (ov : Int), .int .i64 lv, .int .i64 key, .int .u64 (a : Int), .int .u64 (b : Int), .int .u64 (hd : Int), .int .i64 rg] 51)).drew.grown hg8 (fun q1 => own_ne_blk own5 T11 (by decide) q1.symm)
                      go_simp
                      refine hK.out _ _ (ext2_mem G8 ?G2) ?_
                      case G2 => exact (C11.alloc (.cells #[.int .i64 (ov : Int), .int .i64 lv, .int .i64 key, .int .u64 (a : Int), .int .u64 (b : Int), .int .u64 (hd : Int), .int .i64 rg] 51)).drew.grown hg8 (fun q1 => by have := HOLT.out cb q1.symm; omega)
                      clear hK K
                      have f8 := G8.frozen (14 + m)
                      have v8 := (G8.cell (14 + m)).trans hck
                      have z8 := G8.lt
                      refine NC.wpG_fin ?_
                      simp only [NC.pickOps, List.getElem?_cons_succ, List.getElem?_cons_zero, Option.elim_some]
                      repeat (go_big_quiet_step (fail))
                      refine wpQuiet_nil ?_
                      refine NC.lastG_some (fun K hK => ?_)
                      go_simp
                      refine hK.out _ _ ?_
                      clear hK K
                      refine NoPanic.normal ?_
                      clear hX
                      have e := HLN.out
                      subst e
                      obtain ⟨x, hx⟩ : ∃ x : CV, (⟨(ov : Int), lv, key, (a : Int), (b : Int), (hd : Int), rg⟩ : CV) = x := ⟨_, rfl⟩
                      have hcx : cvc x = [.int .i64 (ov : Int), .int .i64 lv, .int .i64 key, .int .u64 (a : Int), .int .u64 (b : Int), .int .u64 (hd : Int), .int .i64 rg] := by rw [← hx]; rfl
                      have kg : Keeps (fun b => (Value.slice A l.length c).ownBlock = some b) W w8 := (((Keeps.refl (fun b => (Value.slice A l.length c).ownBlock = some b) W).alloc (.cells #[.int .i64 (ov : Int), .int .i64 lv, .int .i64 key, .int .u64 (a : Int), .int .u64 (b : Int), .int .u64 (hd : Int), .int .i64 rg] 51)).drew).grown hg8 (fun k h _ => h)
                      have k4 := (Keeps.refl (fun b => b = tb) w8).setCell (p := ⟨tb, 14 + m, none⟩) (fun _ => rfl) (.slice A8 (l.length + 1) c8)
                      have O8 := HO11.out.app (x := x) HVA.out HLP.out (by rw [hcx]; exact own8) kg (h38.imp id (fun q => ⟨_, q, by simp⟩))
                      have O9 := O8.keepsT k4 (fun b e _ => ⟨_, _, e ▸ G8, by decide⟩)
                      have E8 := kg.own HE11.out (fun q hq h => own_ne_own HE11.out own5 (by decide) hq h)
                      have E9 := k4.own E8 (fun q hq e => by rw [e] at hq; exact own_ne_blk E8 G8 (by decide) hq)
                      have T9 := G8.set_ (14 + m) (.slice A8 (l.length + 1) c8)
                      rw [← HCS.out, List.setIfInBounds_toArray, tkc_setp h8 hm8] at T9
                      have hsp : s' = { s with last := (m : Int), ps := s.ps.set m (l ++ [x]) } := by
                        rw [← HS'.out, Int.toNat_natCast, List.getD_eq_getElem?_getD, HLP.out, hx]
                        rfl
                      have kw : Keeps (fun b => b = rb ∨ b = tb ∨ (Value.slice A l.length c).ownBlock = some b) w (w8.setCell ⟨tb, 14 + m, none⟩ (.slice A8 (l.length + 1) c8)) := ((HK11.out.mono (fun b e _ => e.elim .inl (fun e => .inr (.inl e)))).trans kg (fun b e _ => .inr (.inr e))).trans k4 (fun b e _ => .inr (.inl e))
                      have HKT : KT B w (w8.setCell ⟨tb, 14 + m, none⟩ (.slice A8 (l.length + 1) c8)) := KT.of hBw kw (fun b e => by
                        rcases e with e | e | e
                        · rw [e]; exact hB
                        · rw [e]; exact HTK.out.tb
                        · exact own_ge own5 b e) (fun b e hb => by
                        rcases e with e | e | e
                        · exact ⟨_, _, e ▸ HH.out.b, .inr (.inl rfl)⟩
                        · exact ⟨_, _, e ▸ HTB.out, .inl rfl⟩
                        · obtain ⟨l', A', c', _, q2, q3⟩ := HO.out.row HVA.out
                          obtain ⟨cs', q4⟩ := own_blk q3 e
                          exact ⟨_, _, q4, .inr (.inr (.inl rfl))⟩)
                      try rw [HE.out]
                      refine bodyPost_end (results_none rfl _ _ _) rfl ⟨HKT, rfl, ⟨vs.set m (.slice A8 (l.length + 1) c8), EA, ec, ?_, ?_, ?_⟩, ?_, ?_, ?_, hN, HTK.out.tb⟩
                      · rw [hsp]; exact T9
                      · rw [hsp]; exact O9
                      · rw [hsp]; exact E9
                      · rw [hsp]
                        intro l' hl'
                        rcases List.mem_or_eq_of_mem_set hl' with q | q
                        · exact Nat.le_trans (HTK.out.ps l' q) (by omega)
                        · rw [q, List.length_append]; simp; exact hln
                      · rw [hsp]; exact Nat.le_trans HTK.out.es (by omega)
                      · rw [hsp]; exact HTK.out.th
end Go.Proofs.YtjjgngccgjpnaaaGreatDoor
