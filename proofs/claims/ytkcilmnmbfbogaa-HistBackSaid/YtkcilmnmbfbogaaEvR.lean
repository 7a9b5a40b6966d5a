/- The law HistBack. -/
import Derived.Test.YtkcilmnmbfbogaaEvD
import Derived.Test.YtkcilmnmbfbogaaEvQ
namespace Go.Proofs.Ytkcilmnmbfbogaa
set_option linter.unusedVariables false
set_option linter.unusedSimpArgs false
open Go.RowKit

set_option maxHeartbeats 4000000 in
set_option maxRecDepth 100000 in
theorem histback_long {w : World} {A : Option Addr} {n c : Nat} (hn : 100 < n) : Calls Try.prog 5 #[.slice A n c] w fun e w' => e = .returned (.bool true) ∧ Below w.heap.size w w' := by
  go_enter Try.func5, Try.ntmps5
  go_wp2_with (go_at_call 6; refine (lives14 _).mono ?_; rintro e w1 ⟨rfl, hb1⟩)
  go_ret
  exact ⟨rfl, hb1⟩
set_option maxHeartbeats 4000000 in
set_option maxRecDepth 100000 in
theorem histback_no {w : World} {A : Option Addr} {n c : Nat} {l : List Ev} (h : Sl evc w A n c l) (hn : n ≤ 100) (hm : mayB l = false) : Calls Try.prog 5 #[.slice A n c] w fun e w' => e = .returned (.bool true) ∧ Below w.heap.size w w' := by
  have hn1 : ¬ ((100 : Int) < (n : Int)) := by omega
  have hM := may_any h (by omega)
  rw [hm] at hM
  have hO := fun W (hW : Below w.heap.size w W) => opers_no (h.below hW) (by omega) hm
  have HO := Lib.hid hO
  clear hm hO h
  go_enter Try.func5, Try.ntmps5
  go_wp2_with (first
    | (go_at_call 9; refine hM.mono ?_; rintro e w1 ⟨rfl, hb1⟩; have hO := HO.out w1 hb1)
    | (go_at_call 7; refine hO.mono ?_; rintro e w2 ⟨rfl, hb2⟩)
    | (go_at_call 6; refine (lives14 _).mono ?_; rintro e w3 ⟨rfl, hb3⟩))
  go_ret
  exact ⟨rfl, bnext hb1 (bnext hb2 hb3)⟩

/-- What is known of the opers. -/
def AllA (O : List Opp) : Prop := ∀ (i j : Nat) (x y : Opp), O[i]? = some x → O[j]? = some y → (i < j → x.th = y.th → 0 ≤ x.fin ∧ x.fin < y.fr) ∧ (0 ≤ x.fin ∧ x.fin < y.fr → i < j) ∧ (0 ≤ x.fin → x.fr < x.fin)
set_option maxHeartbeats 16000000 in
set_option maxRecDepth 100000 in
theorem histback_yes {w : World} {A : Option Addr} {n c : Nat} {l : List Ev} (h : Sl evc w A n c l) (hn : n ≤ 100) (hm : mayB l = true) : Calls Try.prog 5 #[.slice A n c] w fun e w' => e = .returned (.bool true) ∧ Below w.heap.size w w' := by
  have hn1 : ¬ ((100 : Int) < (n : Int)) := by omega
  have hlen := h.len
  have HUP : okUp l n := by have := okB_up (l := l) (by unfold mayB at hm; rw [Bool.and_eq_true] at hm; exact hm.1); rwa [hlen] at this
  have hM := may_any h (by omega)
  rw [hm] at hM
  have hO := fun W (hW : Below w.heap.size w W) => opers_yes (h.below hW) (by omega) hm
  have hle := opers_le l
  have HO := Lib.hid hO
  have HB : Hid (AllA (opersR l 0)) := fun i j x y hx hy => back_ahead HUP hlen hx hy
  have HE : Hid (∀ S : List Mk, S.Perm (mks (opersR l 0) (opersR l 0).length) → S.Pairwise mlt → S.map Mk.e = l) := fun S h1 h2 => back_events HUP hlen h1 h2
  clear hm hO HUP
  generalize opersR l 0 = O at *
  obtain ⟨M, hMO⟩ : ∃ M, O.length = M := ⟨_, rfl⟩
  rw [hMO] at HO HE hle
  have HLEN := Lib.hid hMO
  have hM100 : M ≤ 100 := by omega
  clear hMO hlen hle
  go_enter Try.func5, Try.ntmps5
  have tok1 : True := trivial
  have tok2 : True := trivial
  have tok3 : True := trivial
  have tok4 : True := trivial
  go_upto_region 6 with (first
    | (have _t := tok1; go_at_call 9; refine hM.mono ?_; rintro e w1 ⟨rfl, hb1⟩; have hO := HO.out w1 hb1; clear tok1 _t hM)
    | (have _t := tok2; go_at_call 7; refine hO.mono ?_; rintro e w2 ⟨A2, c2, rfl, own2, hb2⟩; have kb2 := bnext hb1 hb2; have sO := Sl.of_own opc_len (by decide) own2; have hl2 := h.below kb2; have hof := of_any sO (by omega); clear tok2 _t hO own2)
    | (have _t := tok3; go_at_call 14; refine hof.mono ?_; rintro e w3 ⟨S, A3, c3, hp, hs, rfl, own3, hb3⟩; have hSl := HE.out S hp hs; have hs3 := Sl.of_own evc_len (by decide) own3; rw [hSl] at hs3; have hln := (h.below (bnext kb2 hb3)).len; have hSn : S.length = n := (by rw [← hln, ← hSl, List.length_map]); rw [hSn] at hs3 ⊢; have hsame := evsame_eq hs3 (h.below (bnext kb2 hb3)) (by omega); clear tok3 _t hof hp hs own3 hSl hs3 hSn hln)
    | (have _t := tok4; go_at_call 13; refine hsame.mono ?_; rintro e w4 ⟨rfl, hb4⟩; clear tok4 _t hsame))
  obtain ⟨W3, rfl⟩ : ∃ W3, W3 = w4 := ⟨_, rfl⟩
  have sO := sO.below (bnext hb3 hb4)
  have kb3 := bnext kb2 (bnext hb3 hb4)
  clear h hl2 HO HE hb1 hb2 hb3 hb4 kb2
  go_wp2_with fail
  go_loopg [4] M (fun gk s4 wr => ∃ i, i + gk = M ∧ s4 = .int .i64 (i : Nat) ∧ Below W3.heap.size W3 wr)
  case atStart => exact ⟨0, by omega, rfl, brefl _⟩
  case round =>
    obtain ⟨i, hi, rfl, kb⟩ := hrel
    by_cases hlt : i < M
    · obtain ⟨b, o', rfl, _, _⟩ := sO.base opc_len (by decide) (by omega)
      obtain ⟨x, hx⟩ : ∃ x, O[i]? = some x := ⟨O[i]'(by have := HLEN.out; omega), List.getElem?_eq_getElem (i := i) _⟩
      have HX := Lib.hid hx
      have b0 : (0 : Int) ≤ (i : Int) := by omega
      have b1 : (i : Int) < (M : Int) := by omega
      clear hx
      obtain ⟨g1, hg1⟩ : ∃ g, g = gk := ⟨_, rfl⟩
      subst hg1
      go_wp2_with fail
      go_loopg [5] M (fun gk s5 wr => ∃ k, k + gk = M ∧ s5 = .int .i64 (k : Nat) ∧ Below W3.heap.size W3 wr)
      case atStart => exact ⟨0, by omega, rfl, kb⟩
      case round =>
        clear kb
        obtain ⟨k, hk, rfl, kb⟩ := hrel
        by_cases hlt2 : k < M
        · obtain ⟨y, hy⟩ : ∃ y, O[k]? = some y := ⟨O[k]'(by have := HLEN.out; omega), List.getElem?_eq_getElem (i := k) _⟩
          have HY := Lib.hid hy
          have b2 : (0 : Int) ≤ (k : Int) := by omega
          have b3 : (k : Int) < (M : Int) := by omega
          have rox : W3.rangeAt b (o' + i * 16) (opc x) := range_sl opc_len sO HX.out
          have roy : W3.rangeAt b (o' + k * 16) (opc y) := range_sl opc_len sO hy
          have c0x : W3.cell? ⟨b, o' + i * 16, none⟩ = some (.int .i64 x.th) := (op_at sO HX.out).th
          have c0y : W3.cell? ⟨b, o' + k * 16, none⟩ = some (.int .i64 y.th) := (op_at sO hy).th
          have HA1 := Lib.hid (HB.out i k x y HX.out hy)
          have HA2 := Lib.hid (HB.out k i y x hy HX.out)
          have hik := fun W => ahead_any x y W
          have hki := fun W => ahead_any y x W
          have iox := info_O x
          have ioy := info_O y
          clear hy
          by_cases h1 : i < k
          · have u1 : (i : Int) < (k : Int) := by omega
            have u2 : decide (k ≤ i) = false := decide_eq_false (by omega)
            have hk1 : aheadB y x = false := decide_eq_false (fun q => by have := HA2.out.2.1 q; omega)
            rw [hk1] at hki
            by_cases h2 : x.th = y.th
            · have u3 : (x.th == y.th) = true := by simp [h2]
              have hk2 : aheadB x y = true := decide_eq_true (HA1.out.1 h1 h2)
              rw [hk2] at hik
              clear hk1 hk2 h2
              generalize hox : opc x = ox at *
              generalize hoy : opc y = oy at *
              have HOX := Lib.hid hox
              have HOY := Lib.hid hoy
              clear hox hoy
              go_upto_region 12 with (fail)
              simp only [List.append]
              have hX := @Ext.cell W3
              have hzz0 := block_lt_of_cell c0x
              have hzz1 := block_lt_of_cell c0y
              refine wp_region_noPanic ?_
              refine wp_region_plan (fun w' => ∃ x : Ext W3, w' = x.w) [([0, 1, 2, 3, 4, 5, 6, 7, 8, 9, 10, 11, 12, 13, 14, 15, 16, 17, 18, 19, 20, 21, 22, 23, 24], 25), ([26, 27, 28, 29, 30, 31, 32, 33, 34, 35, 36], 37), ([38, 39, 40, 41, 42, 43, 44, 45, 46], 47), ([48, 49, 50, 51, 52, 53, 54, 55, 56, 57, 58], 59)] [60, 61, 62, 63, 64, 65] (by kernel_rfl) (by kernel_rfl) (by kernel_rfl) (fun _ _ _ _ _ h => h) ⟨⟨_, kb.drew⟩, rfl⟩ ?_
              refine wpPlan_cons ?_
              simp only [pickOps, List.getElem?_cons_succ, List.getElem?_cons_zero, Option.elim_some]
              go_big_quiet_step (fail)
              go_big_quiet_step (fail)
              go_big_quiet_step (fail)
              go_big_quiet_step (fail)
              go_big_quiet_step (fail)
              go_big_quiet_step (fail)
              go_big_quiet_step (fail)
              go_big_quiet_step (fail)
              go_big_quiet_step (fail)
              go_big_quiet_step (fail)
              go_big_quiet_step (fail)
              go_big_quiet_step (fail)
              go_big_quiet_step (fail)
              go_big_quiet_step (fail)
              go_big_quiet_step (fail)
              go_big_quiet_step (fail)
              go_big_quiet_step (fail)
              go_big_quiet_step (fail)
              go_big_quiet_step (fail)
              go_big_quiet_step (fail)
              refine wpQuiet_load_mid rfl 39 (.tmp 65) rfl b (o' + i * 16) rfl ox _ (range_ext rox) Try.underlying39 rfl iox ?_; simp only [Act.put, List.setIfInBounds_toArray, List.set_cons_succ, List.set_cons_zero]
              go_big_quiet_step (fail)
              go_big_quiet_step (fail)
              go_big_quiet_step (fail)
              refine wpQuiet_load_mid rfl 39 (.tmp 69) rfl b (o' + k * 16) rfl oy _ (range_ext roy) Try.underlying39 rfl ioy ?_; simp only [Act.put, List.setIfInBounds_toArray, List.set_cons_succ, List.set_cons_zero]
              refine wpQuiet_nil ?_
              refine planAct_some (fun K hK => ?_)
              go_simp
              refine (hik _).mono ?_
              rintro e1 x1 ⟨rfl, q1⟩; have m1 := bnext kb.drew q1
              go_wp2_with fail
              refine hK.out _ _ ⟨⟨_, m1⟩, rfl⟩ ?_
              clear hK K
              refine wpPlan_cons ?_
              simp only [pickOps, List.getElem?_cons_succ, List.getElem?_cons_zero, Option.elim_some]
              go_big_quiet_step (fail)
              go_big_quiet_step (fail)
              go_big_quiet_step (fail)
              go_big_quiet_step (fail)
              go_big_quiet_step (fail)
              go_big_quiet_step (fail)
              refine wpQuiet_load_mid rfl 39 (.tmp 77) rfl b (o' + i * 16) rfl ox _ (range_ext rox) Try.underlying39 rfl iox ?_; simp only [Act.put, List.setIfInBounds_toArray, List.set_cons_succ, List.set_cons_zero]
              go_big_quiet_step (fail)
              go_big_quiet_step (fail)
              go_big_quiet_step (fail)
              refine wpQuiet_load_mid rfl 39 (.tmp 81) rfl b (o' + k * 16) rfl oy _ (range_ext roy) Try.underlying39 rfl ioy ?_; simp only [Act.put, List.setIfInBounds_toArray, List.set_cons_succ, List.set_cons_zero]
              refine wpQuiet_nil ?_
              refine planAct_some (fun K hK => ?_)
              go_simp
              refine (hik _).mono ?_
              rintro e2 x2 ⟨rfl, q2⟩; have m2 := bnext m1 q2
              go_wp2_with fail
              refine hK.out _ _ ⟨⟨_, m2⟩, rfl⟩ ?_
              clear hK K
              refine wpPlan_cons ?_
              simp only [pickOps, List.getElem?_cons_succ, List.getElem?_cons_zero, Option.elim_some]
              go_big_quiet_step (fail)
              go_big_quiet_step (fail)
              go_big_quiet_step (fail)
              go_big_quiet_step (fail)
              refine wpQuiet_load_mid rfl 39 (.tmp 87) rfl b (o' + k * 16) rfl oy _ (range_ext roy) Try.underlying39 rfl ioy ?_; simp only [Act.put, List.setIfInBounds_toArray, List.set_cons_succ, List.set_cons_zero]
              go_big_quiet_step (fail)
              go_big_quiet_step (fail)
              go_big_quiet_step (fail)
              refine wpQuiet_load_mid rfl 39 (.tmp 91) rfl b (o' + i * 16) rfl ox _ (range_ext rox) Try.underlying39 rfl iox ?_; simp only [Act.put, List.setIfInBounds_toArray, List.set_cons_succ, List.set_cons_zero]
              refine wpQuiet_nil ?_
              refine planAct_some (fun K hK => ?_)
              go_simp
              refine (hki _).mono ?_
              rintro e3 x3 ⟨rfl, q3⟩; have m3 := bnext m2 q3
              go_wp2_with fail
              refine hK.out _ _ ⟨⟨_, m3⟩, rfl⟩ ?_
              clear hK K
              refine wpPlan_cons ?_
              simp only [pickOps, List.getElem?_cons_succ, List.getElem?_cons_zero, Option.elim_some]
              go_big_quiet_step (fail)
              go_big_quiet_step (fail)
              go_big_quiet_step (fail)
              go_big_quiet_step (fail)
              go_big_quiet_step (fail)
              go_big_quiet_step (fail)
              refine wpQuiet_load_mid rfl 39 (.tmp 99) rfl b (o' + i * 16) rfl ox _ (range_ext rox) Try.underlying39 rfl iox ?_; simp only [Act.put, List.setIfInBounds_toArray, List.set_cons_succ, List.set_cons_zero]
              go_big_quiet_step (fail)
              go_big_quiet_step (fail)
              go_big_quiet_step (fail)
              refine wpQuiet_load_mid rfl 39 (.tmp 103) rfl b (o' + k * 16) rfl oy _ (range_ext roy) Try.underlying39 rfl ioy ?_; simp only [Act.put, List.setIfInBounds_toArray, List.set_cons_succ, List.set_cons_zero]
              refine wpQuiet_nil ?_
              refine planAct_some (fun K hK => ?_)
              go_simp
              refine (hik _).mono ?_
              rintro e4 x4 ⟨rfl, q4⟩; have m4 := bnext m3 q4
              go_wp2_with fail
              refine hK.out _ _ ⟨⟨_, m4⟩, rfl⟩ ?_
              clear hK K
              refine wpPlan_last ?_
              simp only [pickOps, List.getElem?_cons_succ, List.getElem?_cons_zero, Option.elim_some]
              repeat (go_big_quiet_step (fail))
              refine wpQuiet_nil ?_
              refine NoPanic.normal ?_
              clear hX hzz0 hzz1
              have kb12 : Below W3.heap.size W3 _ := m4
              clear c0x c0y rox roy hik hki
              obtain ⟨W4, hW4⟩ : ∃ W4, W4 = W3 := ⟨_, rfl⟩
              clear hW4 W4
              go_wp2_with fail
              obtain ⟨g2, hg2⟩ : ∃ g, g = gk := ⟨_, rfl⟩
              subst hg2
              go_loopg [6] M (fun gk s6 wr => ∃ j, j + gk = M ∧ s6 = .int .i64 (j : Nat) ∧ Below W3.heap.size W3 wr)
              case atStart => exact ⟨0, by omega, rfl, kb12⟩
              case round =>
                clear kb kb12
                obtain ⟨j, hj, rfl, kb⟩ := hrel
                by_cases hlt3 : j < M
                · obtain ⟨z, hz⟩ : ∃ z, O[j]? = some z := ⟨O[j]'(by have := HLEN.out; omega), List.getElem?_eq_getElem (i := j) _⟩
                  have rox : W3.rangeAt b (o' + i * 16) (opc x) := range_sl opc_len sO HX.out
                  have roy : W3.rangeAt b (o' + k * 16) (opc y) := range_sl opc_len sO HY.out
                  have roz : W3.rangeAt b (o' + j * 16) (opc z) := range_sl opc_len sO hz
                  have c0x : W3.cell? ⟨b, o' + i * 16, none⟩ = some (.int .i64 x.th) := (op_at sO HX.out).th
                  have c0y : W3.cell? ⟨b, o' + k * 16, none⟩ = some (.int .i64 y.th) := (op_at sO HY.out).th
                  have b4 : (0 : Int) ≤ (j : Int) := by omega
                  have b5 : (j : Int) < (M : Int) := by omega
                  have iox := info_O x
                  have ioy := info_O y
                  have ioz := info_O z
                  have hij := fun W => ahead_any x z W
                  have hik := fun W => ahead_any x y W
                  have hkj := fun W => ahead_any y z W
                  have hTR : aheadB x y = true → aheadB y z = true → aheadB x z = true := fun p1 p2 => by
                    have p1 := of_decide_eq_true p1
                    have p2 := of_decide_eq_true p2
                    have := (HB.out k j y z HY.out hz).2.2 p2.1
                    exact decide_eq_true (by omega)
                  clear hz
                  generalize opc x = ox at *
                  generalize opc y = oy at *
                  generalize opc z = oz at *
                  generalize aheadB x y = axy at *
                  generalize aheadB y z = ayz at *
                  cases axy with
                  | false =>
                    clear hTR
                    go_upto_region 17 with (fail)
                    have hX := @Ext.cell W3
                    have hzz0 := block_lt_of_cell c0x
                    have hzz1 := block_lt_of_cell c0y
                    refine wp_region_noPanic ?_
                    refine wp_region_plan (fun w' => ∃ x : Ext W3, w' = x.w) [([0, 1, 2, 3, 4, 5, 6, 7], 8), ([9, 10, 11, 12, 13, 14, 15, 16, 17], 18), ([19, 20, 21, 22, 23, 24, 25, 26, 27, 28], 29)] [30, 31] (by kernel_rfl) (by kernel_rfl) (by kernel_rfl) (fun _ _ _ _ _ h => h) ⟨⟨_, kb.drew⟩, rfl⟩ ?_
                    refine wpPlan_cons ?_
                    simp only [pickOps, List.getElem?_cons_succ, List.getElem?_cons_zero, Option.elim_some]
                    go_big_quiet_step (fail)
                    go_big_quiet_step (fail)
                    go_big_quiet_step (fail)
                    refine wpQuiet_load_mid rfl 39 (.tmp 120) rfl b (o' + i * 16) rfl ox _ (range_ext rox) Try.underlying39 rfl iox ?_; simp only [Act.put, List.setIfInBounds_toArray, List.set_cons_succ, List.set_cons_zero]
                    go_big_quiet_step (fail)
                    go_big_quiet_step (fail)
                    go_big_quiet_step (fail)
                    refine wpQuiet_load_mid rfl 39 (.tmp 124) rfl b (o' + k * 16) rfl oy _ (range_ext roy) Try.underlying39 rfl ioy ?_; simp only [Act.put, List.setIfInBounds_toArray, List.set_cons_succ, List.set_cons_zero]
                    refine wpQuiet_nil ?_
                    refine planAct_some (fun K hK => ?_)
                    go_simp
                    refine (hik _).mono ?_
                    rintro e1 x1 ⟨rfl, q1⟩; have m1 := bnext kb.drew q1
                    go_wp2_with fail
                    refine hK.out _ _ ⟨⟨_, m1⟩, rfl⟩ ?_
                    clear hK K
                    refine wpPlan_cons ?_
                    simp only [pickOps, List.getElem?_cons_succ, List.getElem?_cons_zero, Option.elim_some]
                    repeat (go_big_quiet_step (fail))
                    refine wpQuiet_nil ?_
                    refine planAct_some (fun K hK => ?_)
                    go_simp
                    refine hK.out _ _ ⟨⟨_, m1⟩, rfl⟩ ?_
                    clear hK K
                    refine wpPlan_cons ?_
                    simp only [pickOps, List.getElem?_cons_succ, List.getElem?_cons_zero, Option.elim_some]
                    repeat (go_big_quiet_step (fail))
                    refine wpQuiet_nil ?_
                    refine planAct_some (fun K hK => ?_)
                    go_simp
                    refine hK.out _ _ ⟨⟨_, m1⟩, rfl⟩ ?_
                    clear hK K
                    refine wpPlan_last ?_
                    simp only [pickOps, List.getElem?_cons_succ, List.getElem?_cons_zero, Option.elim_some]
                    repeat (go_big_quiet_step (fail))
                    refine wpQuiet_nil ?_
                    refine NoPanic.normal ?_
                    clear hX hzz0 hzz1
                    go_wp2_with fail
                    go_roundg (gk - 1)
                    case measure => omega
                    case rel => exact ⟨j + 1, by omega, by go_num, m1⟩
                  | true =>
                    cases ayz with
                    | false =>
                      clear hTR
                      go_upto_region 17 with (fail)
                      have hX := @Ext.cell W3
                      have hzz0 := block_lt_of_cell c0x
                      have hzz1 := block_lt_of_cell c0y
                      refine wp_region_noPanic ?_
                      refine wp_region_plan (fun w' => ∃ x : Ext W3, w' = x.w) [([0, 1, 2, 3, 4, 5, 6, 7], 8), ([9, 10, 11, 12, 13, 14, 15, 16, 17], 18), ([19, 20, 21, 22, 23, 24, 25, 26, 27, 28], 29)] [30, 31] (by kernel_rfl) (by kernel_rfl) (by kernel_rfl) (fun _ _ _ _ _ h => h) ⟨⟨_, kb.drew⟩, rfl⟩ ?_
                      refine wpPlan_cons ?_
                      simp only [pickOps, List.getElem?_cons_succ, List.getElem?_cons_zero, Option.elim_some]
                      go_big_quiet_step (fail)
                      go_big_quiet_step (fail)
                      go_big_quiet_step (fail)
                      refine wpQuiet_load_mid rfl 39 (.tmp 120) rfl b (o' + i * 16) rfl ox _ (range_ext rox) Try.underlying39 rfl iox ?_; simp only [Act.put, List.setIfInBounds_toArray, List.set_cons_succ, List.set_cons_zero]
                      go_big_quiet_step (fail)
                      go_big_quiet_step (fail)
                      go_big_quiet_step (fail)
                      refine wpQuiet_load_mid rfl 39 (.tmp 124) rfl b (o' + k * 16) rfl oy _ (range_ext roy) Try.underlying39 rfl ioy ?_; simp only [Act.put, List.setIfInBounds_toArray, List.set_cons_succ, List.set_cons_zero]
                      refine wpQuiet_nil ?_
                      refine planAct_some (fun K hK => ?_)
                      go_simp
                      refine (hik _).mono ?_
                      rintro e1 x1 ⟨rfl, q1⟩; have m1 := bnext kb.drew q1
                      go_wp2_with fail
                      refine hK.out _ _ ⟨⟨_, m1⟩, rfl⟩ ?_
                      clear hK K
                      refine wpPlan_cons ?_
                      simp only [pickOps, List.getElem?_cons_succ, List.getElem?_cons_zero, Option.elim_some]
                      go_big_quiet_step (fail)
                      go_big_quiet_step (fail)
                      go_big_quiet_step (fail)
                      go_big_quiet_step (fail)
                      refine wpQuiet_load_mid rfl 39 (.tmp 130) rfl b (o' + k * 16) rfl oy _ (range_ext roy) Try.underlying39 rfl ioy ?_; simp only [Act.put, List.setIfInBounds_toArray, List.set_cons_succ, List.set_cons_zero]
                      go_big_quiet_step (fail)
                      go_big_quiet_step (fail)
                      go_big_quiet_step (fail)
                      refine wpQuiet_load_mid rfl 39 (.tmp 134) rfl b (o' + j * 16) rfl oz _ (range_ext roz) Try.underlying39 rfl ioz ?_; simp only [Act.put, List.setIfInBounds_toArray, List.set_cons_succ, List.set_cons_zero]
                      refine wpQuiet_nil ?_
                      refine planAct_some (fun K hK => ?_)
                      go_simp
                      refine (hkj _).mono ?_
                      rintro e2 x2 ⟨rfl, q2⟩; have m2 := bnext m1 q2
                      go_wp2_with fail
                      refine hK.out _ _ ⟨⟨_, m2⟩, rfl⟩ ?_
                      clear hK K
                      refine wpPlan_cons ?_
                      simp only [pickOps, List.getElem?_cons_succ, List.getElem?_cons_zero, Option.elim_some]
                      repeat (go_big_quiet_step (fail))
                      refine wpQuiet_nil ?_
                      refine planAct_some (fun K hK => ?_)
                      go_simp
                      refine hK.out _ _ ⟨⟨_, m2⟩, rfl⟩ ?_
                      clear hK K
                      refine wpPlan_last ?_
                      simp only [pickOps, List.getElem?_cons_succ, List.getElem?_cons_zero, Option.elim_some]
                      repeat (go_big_quiet_step (fail))
                      refine wpQuiet_nil ?_
                      refine NoPanic.normal ?_
                      clear hX hzz0 hzz1
                      go_wp2_with fail
                      go_roundg (gk - 1)
                      case measure => omega
                      case rel => exact ⟨j + 1, by omega, by go_num, m2⟩
                    | true =>
                      rw [hTR rfl rfl] at hij
                      clear hTR
                      go_upto_region 17 with (fail)
                      have hX := @Ext.cell W3
                      have hzz0 := block_lt_of_cell c0x
                      have hzz1 := block_lt_of_cell c0y
                      refine wp_region_noPanic ?_
                      refine wp_region_plan (fun w' => ∃ x : Ext W3, w' = x.w) [([0, 1, 2, 3, 4, 5, 6, 7], 8), ([9, 10, 11, 12, 13, 14, 15, 16, 17], 18), ([19, 20, 21, 22, 23, 24, 25, 26, 27, 28], 29)] [30, 31] (by kernel_rfl) (by kernel_rfl) (by kernel_rfl) (fun _ _ _ _ _ h => h) ⟨⟨_, kb.drew⟩, rfl⟩ ?_
                      refine wpPlan_cons ?_
                      simp only [pickOps, List.getElem?_cons_succ, List.getElem?_cons_zero, Option.elim_some]
                      go_big_quiet_step (fail)
                      go_big_quiet_step (fail)
                      go_big_quiet_step (fail)
                      refine wpQuiet_load_mid rfl 39 (.tmp 120) rfl b (o' + i * 16) rfl ox _ (range_ext rox) Try.underlying39 rfl iox ?_; simp only [Act.put, List.setIfInBounds_toArray, List.set_cons_succ, List.set_cons_zero]
                      go_big_quiet_step (fail)
                      go_big_quiet_step (fail)
                      go_big_quiet_step (fail)
                      refine wpQuiet_load_mid rfl 39 (.tmp 124) rfl b (o' + k * 16) rfl oy _ (range_ext roy) Try.underlying39 rfl ioy ?_; simp only [Act.put, List.setIfInBounds_toArray, List.set_cons_succ, List.set_cons_zero]
                      refine wpQuiet_nil ?_
                      refine planAct_some (fun K hK => ?_)
                      go_simp
                      refine (hik _).mono ?_
                      rintro e1 x1 ⟨rfl, q1⟩; have m1 := bnext kb.drew q1
                      go_wp2_with fail
                      refine hK.out _ _ ⟨⟨_, m1⟩, rfl⟩ ?_
                      clear hK K
                      refine wpPlan_cons ?_
                      simp only [pickOps, List.getElem?_cons_succ, List.getElem?_cons_zero, Option.elim_some]
                      go_big_quiet_step (fail)
                      go_big_quiet_step (fail)
                      go_big_quiet_step (fail)
                      go_big_quiet_step (fail)
                      refine wpQuiet_load_mid rfl 39 (.tmp 130) rfl b (o' + k * 16) rfl oy _ (range_ext roy) Try.underlying39 rfl ioy ?_; simp only [Act.put, List.setIfInBounds_toArray, List.set_cons_succ, List.set_cons_zero]
                      go_big_quiet_step (fail)
                      go_big_quiet_step (fail)
                      go_big_quiet_step (fail)
                      refine wpQuiet_load_mid rfl 39 (.tmp 134) rfl b (o' + j * 16) rfl oz _ (range_ext roz) Try.underlying39 rfl ioz ?_; simp only [Act.put, List.setIfInBounds_toArray, List.set_cons_succ, List.set_cons_zero]
                      refine wpQuiet_nil ?_
                      refine planAct_some (fun K hK => ?_)
                      go_simp
                      refine (hkj _).mono ?_
                      rintro e2 x2 ⟨rfl, q2⟩; have m2 := bnext m1 q2
                      go_wp2_with fail
                      refine hK.out _ _ ⟨⟨_, m2⟩, rfl⟩ ?_
                      clear hK K
                      refine wpPlan_cons ?_
                      simp only [pickOps, List.getElem?_cons_succ, List.getElem?_cons_zero, Option.elim_some]
                      go_big_quiet_step (fail)
                      go_big_quiet_step (fail)
                      go_big_quiet_step (fail)
                      go_big_quiet_step (fail)
                      go_big_quiet_step (fail)
                      refine wpQuiet_load_mid rfl 39 (.tmp 141) rfl b (o' + i * 16) rfl ox _ (range_ext rox) Try.underlying39 rfl iox ?_; simp only [Act.put, List.setIfInBounds_toArray, List.set_cons_succ, List.set_cons_zero]
                      go_big_quiet_step (fail)
                      go_big_quiet_step (fail)
                      go_big_quiet_step (fail)
                      refine wpQuiet_load_mid rfl 39 (.tmp 145) rfl b (o' + j * 16) rfl oz _ (range_ext roz) Try.underlying39 rfl ioz ?_; simp only [Act.put, List.setIfInBounds_toArray, List.set_cons_succ, List.set_cons_zero]
                      refine wpQuiet_nil ?_
                      refine planAct_some (fun K hK => ?_)
                      go_simp
                      refine (hij _).mono ?_
                      rintro e3 x3 ⟨rfl, q3⟩; have m3 := bnext m2 q3
                      go_wp2_with fail
                      refine hK.out _ _ ⟨⟨_, m3⟩, rfl⟩ ?_
                      clear hK K
                      refine wpPlan_last ?_
                      simp only [pickOps, List.getElem?_cons_succ, List.getElem?_cons_zero, Option.elim_some]
                      repeat (go_big_quiet_step (fail))
                      refine wpQuiet_nil ?_
                      refine NoPanic.normal ?_
                      clear hX hzz0 hzz1
                      go_wp2_with fail
                      go_roundg (gk - 1)
                      case measure => omega
                      case rel => exact ⟨j + 1, by omega, by go_num, m3⟩
                · have t8 : decide (j < M) = false := decide_eq_false (by omega)
                  go_wp2_with fail
                  go_roundg (g2 - 1)
                  case measure => omega
                  case rel => exact ⟨k + 1, by omega, by go_num, kb⟩
            · have u3 : (x.th == y.th) = false := by simp [h2]
              generalize hk2 : aheadB x y = axy at *
              generalize hox : opc x = ox at *
              generalize hoy : opc y = oy at *
              have HOX := Lib.hid hox
              have HOY := Lib.hid hoy
              have HK2 := Lib.hid hk2
              clear hox hoy hk1 h2 hk2
              cases axy with
              | true =>
                go_upto_region 12 with (fail)
                simp only [List.append]
                have hX := @Ext.cell W3
                have hzz0 := block_lt_of_cell c0x
                have hzz1 := block_lt_of_cell c0y
                refine wp_region_noPanic ?_
                refine wp_region_plan (fun w' => ∃ x : Ext W3, w' = x.w) [([0, 1, 2, 3, 4, 5, 6, 7, 8, 9, 10, 11, 12, 13, 14, 15, 16, 17, 18, 19, 20, 21, 22, 23, 24], 25), ([26, 27, 28, 29, 30, 31, 32, 33, 34, 35, 36], 37), ([38, 39, 40, 41, 42, 43, 44, 45, 46], 47), ([48, 49, 50, 51, 52, 53, 54, 55, 56, 57, 58], 59)] [60, 61, 62, 63, 64, 65] (by kernel_rfl) (by kernel_rfl) (by kernel_rfl) (fun _ _ _ _ _ h => h) ⟨⟨_, kb.drew⟩, rfl⟩ ?_
                refine wpPlan_cons ?_
                simp only [pickOps, List.getElem?_cons_succ, List.getElem?_cons_zero, Option.elim_some]
                repeat (go_big_quiet_step (fail))
                refine wpQuiet_nil ?_
                refine planAct_some (fun K hK => ?_)
                go_simp
                refine hK.out _ _ ⟨⟨_, kb.drew⟩, rfl⟩ ?_
                clear hK K
                refine wpPlan_cons ?_
                simp only [pickOps, List.getElem?_cons_succ, List.getElem?_cons_zero, Option.elim_some]
                go_big_quiet_step (fail)
                go_big_quiet_step (fail)
                go_big_quiet_step (fail)
                go_big_quiet_step (fail)
                go_big_quiet_step (fail)
                go_big_quiet_step (fail)
                refine wpQuiet_load_mid rfl 39 (.tmp 77) rfl b (o' + i * 16) rfl ox _ (range_ext rox) Try.underlying39 rfl iox ?_; simp only [Act.put, List.setIfInBounds_toArray, List.set_cons_succ, List.set_cons_zero]
                go_big_quiet_step (fail)
                go_big_quiet_step (fail)
                go_big_quiet_step (fail)
                refine wpQuiet_load_mid rfl 39 (.tmp 81) rfl b (o' + k * 16) rfl oy _ (range_ext roy) Try.underlying39 rfl ioy ?_; simp only [Act.put, List.setIfInBounds_toArray, List.set_cons_succ, List.set_cons_zero]
                refine wpQuiet_nil ?_
                refine planAct_some (fun K hK => ?_)
                go_simp
                refine (hik _).mono ?_
                rintro e1 x1 ⟨rfl, q1⟩; have m1 := bnext kb.drew q1
                go_wp2_with fail
                refine hK.out _ _ ⟨⟨_, m1⟩, rfl⟩ ?_
                clear hK K
                refine wpPlan_cons ?_
                simp only [pickOps, List.getElem?_cons_succ, List.getElem?_cons_zero, Option.elim_some]
                go_big_quiet_step (fail)
                go_big_quiet_step (fail)
                go_big_quiet_step (fail)
                go_big_quiet_step (fail)
                refine wpQuiet_load_mid rfl 39 (.tmp 87) rfl b (o' + k * 16) rfl oy _ (range_ext roy) Try.underlying39 rfl ioy ?_; simp only [Act.put, List.setIfInBounds_toArray, List.set_cons_succ, List.set_cons_zero]
                go_big_quiet_step (fail)
                go_big_quiet_step (fail)
                go_big_quiet_step (fail)
                refine wpQuiet_load_mid rfl 39 (.tmp 91) rfl b (o' + i * 16) rfl ox _ (range_ext rox) Try.underlying39 rfl iox ?_; simp only [Act.put, List.setIfInBounds_toArray, List.set_cons_succ, List.set_cons_zero]
                refine wpQuiet_nil ?_
                refine planAct_some (fun K hK => ?_)
                go_simp
                refine (hki _).mono ?_
                rintro e2 x2 ⟨rfl, q2⟩; have m2 := bnext m1 q2
                go_wp2_with fail
                refine hK.out _ _ ⟨⟨_, m2⟩, rfl⟩ ?_
                clear hK K
                refine wpPlan_cons ?_
                simp only [pickOps, List.getElem?_cons_succ, List.getElem?_cons_zero, Option.elim_some]
                go_big_quiet_step (fail)
                go_big_quiet_step (fail)
                go_big_quiet_step (fail)
                go_big_quiet_step (fail)
                go_big_quiet_step (fail)
                go_big_quiet_step (fail)
                refine wpQuiet_load_mid rfl 39 (.tmp 99) rfl b (o' + i * 16) rfl ox _ (range_ext rox) Try.underlying39 rfl iox ?_; simp only [Act.put, List.setIfInBounds_toArray, List.set_cons_succ, List.set_cons_zero]
                go_big_quiet_step (fail)
                go_big_quiet_step (fail)
                go_big_quiet_step (fail)
                refine wpQuiet_load_mid rfl 39 (.tmp 103) rfl b (o' + k * 16) rfl oy _ (range_ext roy) Try.underlying39 rfl ioy ?_; simp only [Act.put, List.setIfInBounds_toArray, List.set_cons_succ, List.set_cons_zero]
                refine wpQuiet_nil ?_
                refine planAct_some (fun K hK => ?_)
                go_simp
                refine (hik _).mono ?_
                rintro e3 x3 ⟨rfl, q3⟩; have m3 := bnext m2 q3
                go_wp2_with fail
                refine hK.out _ _ ⟨⟨_, m3⟩, rfl⟩ ?_
                clear hK K
                refine wpPlan_last ?_
                simp only [pickOps, List.getElem?_cons_succ, List.getElem?_cons_zero, Option.elim_some]
                repeat (go_big_quiet_step (fail))
                refine wpQuiet_nil ?_
                refine NoPanic.normal ?_
                clear hX hzz0 hzz1
                have kb12 : Below W3.heap.size W3 _ := m3
                clear c0x c0y rox roy hik hki
                obtain ⟨W4, hW4⟩ : ∃ W4, W4 = W3 := ⟨_, rfl⟩
                clear hW4 W4
                go_wp2_with fail
                obtain ⟨g2, hg2⟩ : ∃ g, g = gk := ⟨_, rfl⟩
                subst hg2
                go_loopg [6] M (fun gk s6 wr => ∃ j, j + gk = M ∧ s6 = .int .i64 (j : Nat) ∧ Below W3.heap.size W3 wr)
                case atStart => exact ⟨0, by omega, rfl, kb12⟩
                case round =>
                  clear kb kb12
                  obtain ⟨j, hj, rfl, kb⟩ := hrel
                  by_cases hlt3 : j < M
                  · obtain ⟨z, hz⟩ : ∃ z, O[j]? = some z := ⟨O[j]'(by have := HLEN.out; omega), List.getElem?_eq_getElem (i := j) _⟩
                    have rox : W3.rangeAt b (o' + i * 16) (opc x) := range_sl opc_len sO HX.out
                    have roy : W3.rangeAt b (o' + k * 16) (opc y) := range_sl opc_len sO HY.out
                    have roz : W3.rangeAt b (o' + j * 16) (opc z) := range_sl opc_len sO hz
                    have c0x : W3.cell? ⟨b, o' + i * 16, none⟩ = some (.int .i64 x.th) := (op_at sO HX.out).th
                    have c0y : W3.cell? ⟨b, o' + k * 16, none⟩ = some (.int .i64 y.th) := (op_at sO HY.out).th
                    have b4 : (0 : Int) ≤ (j : Int) := by omega
                    have b5 : (j : Int) < (M : Int) := by omega
                    have iox := info_O x
                    have ioy := info_O y
                    have ioz := info_O z
                    have hij := fun W => ahead_any x z W
                    have hik := fun W => ahead_any x y W
                    have hkj := fun W => ahead_any y z W
                    have hTR : aheadB x y = true → aheadB y z = true → aheadB x z = true := fun p1 p2 => by
                      have p1 := of_decide_eq_true p1
                      have p2 := of_decide_eq_true p2
                      have := (HB.out k j y z HY.out hz).2.2 p2.1
                      exact decide_eq_true (by omega)
                    clear hz
                    generalize opc x = ox at *
                    generalize opc y = oy at *
                    generalize opc z = oz at *
                    generalize aheadB x y = axy at *
                    generalize aheadB y z = ayz at *
                    cases axy with
                    | false =>
                      clear hTR
                      go_upto_region 17 with (fail)
                      have hX := @Ext.cell W3
                      have hzz0 := block_lt_of_cell c0x
                      have hzz1 := block_lt_of_cell c0y
                      refine wp_region_noPanic ?_
                      refine wp_region_plan (fun w' => ∃ x : Ext W3, w' = x.w) [([0, 1, 2, 3, 4, 5, 6, 7], 8), ([9, 10, 11, 12, 13, 14, 15, 16, 17], 18), ([19, 20, 21, 22, 23, 24, 25, 26, 27, 28], 29)] [30, 31] (by kernel_rfl) (by kernel_rfl) (by kernel_rfl) (fun _ _ _ _ _ h => h) ⟨⟨_, kb.drew⟩, rfl⟩ ?_
                      refine wpPlan_cons ?_
                      simp only [pickOps, List.getElem?_cons_succ, List.getElem?_cons_zero, Option.elim_some]
                      go_big_quiet_step (fail)
                      go_big_quiet_step (fail)
                      go_big_quiet_step (fail)
                      refine wpQuiet_load_mid rfl 39 (.tmp 120) rfl b (o' + i * 16) rfl ox _ (range_ext rox) Try.underlying39 rfl iox ?_; simp only [Act.put, List.setIfInBounds_toArray, List.set_cons_succ, List.set_cons_zero]
                      go_big_quiet_step (fail)
                      go_big_quiet_step (fail)
                      go_big_quiet_step (fail)
                      refine wpQuiet_load_mid rfl 39 (.tmp 124) rfl b (o' + k * 16) rfl oy _ (range_ext roy) Try.underlying39 rfl ioy ?_; simp only [Act.put, List.setIfInBounds_toArray, List.set_cons_succ, List.set_cons_zero]
                      refine wpQuiet_nil ?_
                      refine planAct_some (fun K hK => ?_)
                      go_simp
                      refine (hik _).mono ?_
                      rintro e1 x1 ⟨rfl, q1⟩; have m1 := bnext kb.drew q1
                      go_wp2_with fail
                      refine hK.out _ _ ⟨⟨_, m1⟩, rfl⟩ ?_
                      clear hK K
                      refine wpPlan_cons ?_
                      simp only [pickOps, List.getElem?_cons_succ, List.getElem?_cons_zero, Option.elim_some]
                      repeat (go_big_quiet_step (fail))
                      refine wpQuiet_nil ?_
                      refine planAct_some (fun K hK => ?_)
                      go_simp
                      refine hK.out _ _ ⟨⟨_, m1⟩, rfl⟩ ?_
                      clear hK K
                      refine wpPlan_cons ?_
                      simp only [pickOps, List.getElem?_cons_succ, List.getElem?_cons_zero, Option.elim_some]
                      repeat (go_big_quiet_step (fail))
                      refine wpQuiet_nil ?_
                      refine planAct_some (fun K hK => ?_)
                      go_simp
                      refine hK.out _ _ ⟨⟨_, m1⟩, rfl⟩ ?_
                      clear hK K
                      refine wpPlan_last ?_
                      simp only [pickOps, List.getElem?_cons_succ, List.getElem?_cons_zero, Option.elim_some]
                      repeat (go_big_quiet_step (fail))
                      refine wpQuiet_nil ?_
                      refine NoPanic.normal ?_
                      clear hX hzz0 hzz1
                      go_wp2_with fail
                      go_roundg (gk - 1)
                      case measure => omega
                      case rel => exact ⟨j + 1, by omega, by go_num, m1⟩
                    | true =>
                      cases ayz with
                      | false =>
                        clear hTR
                        go_upto_region 17 with (fail)
                        have hX := @Ext.cell W3
                        have hzz0 := block_lt_of_cell c0x
                        have hzz1 := block_lt_of_cell c0y
                        refine wp_region_noPanic ?_
                        refine wp_region_plan (fun w' => ∃ x : Ext W3, w' = x.w) [([0, 1, 2, 3, 4, 5, 6, 7], 8), ([9, 10, 11, 12, 13, 14, 15, 16, 17], 18), ([19, 20, 21, 22, 23, 24, 25, 26, 27, 28], 29)] [30, 31] (by kernel_rfl) (by kernel_rfl) (by kernel_rfl) (fun _ _ _ _ _ h => h) ⟨⟨_, kb.drew⟩, rfl⟩ ?_
                        refine wpPlan_cons ?_
                        simp only [pickOps, List.getElem?_cons_succ, List.getElem?_cons_zero, Option.elim_some]
                        go_big_quiet_step (fail)
                        go_big_quiet_step (fail)
                        go_big_quiet_step (fail)
                        refine wpQuiet_load_mid rfl 39 (.tmp 120) rfl b (o' + i * 16) rfl ox _ (range_ext rox) Try.underlying39 rfl iox ?_; simp only [Act.put, List.setIfInBounds_toArray, List.set_cons_succ, List.set_cons_zero]
                        go_big_quiet_step (fail)
                        go_big_quiet_step (fail)
                        go_big_quiet_step (fail)
                        refine wpQuiet_load_mid rfl 39 (.tmp 124) rfl b (o' + k * 16) rfl oy _ (range_ext roy) Try.underlying39 rfl ioy ?_; simp only [Act.put, List.setIfInBounds_toArray, List.set_cons_succ, List.set_cons_zero]
                        refine wpQuiet_nil ?_
                        refine planAct_some (fun K hK => ?_)
                        go_simp
                        refine (hik _).mono ?_
                        rintro e1 x1 ⟨rfl, q1⟩; have m1 := bnext kb.drew q1
                        go_wp2_with fail
                        refine hK.out _ _ ⟨⟨_, m1⟩, rfl⟩ ?_
                        clear hK K
                        refine wpPlan_cons ?_
                        simp only [pickOps, List.getElem?_cons_succ, List.getElem?_cons_zero, Option.elim_some]
                        go_big_quiet_step (fail)
                        go_big_quiet_step (fail)
                        go_big_quiet_step (fail)
                        go_big_quiet_step (fail)
                        refine wpQuiet_load_mid rfl 39 (.tmp 130) rfl b (o' + k * 16) rfl oy _ (range_ext roy) Try.underlying39 rfl ioy ?_; simp only [Act.put, List.setIfInBounds_toArray, List.set_cons_succ, List.set_cons_zero]
                        go_big_quiet_step (fail)
                        go_big_quiet_step (fail)
                        go_big_quiet_step (fail)
                        refine wpQuiet_load_mid rfl 39 (.tmp 134) rfl b (o' + j * 16) rfl oz _ (range_ext roz) Try.underlying39 rfl ioz ?_; simp only [Act.put, List.setIfInBounds_toArray, List.set_cons_succ, List.set_cons_zero]
                        refine wpQuiet_nil ?_
                        refine planAct_some (fun K hK => ?_)
                        go_simp
                        refine (hkj _).mono ?_
                        rintro e2 x2 ⟨rfl, q2⟩; have m2 := bnext m1 q2
                        go_wp2_with fail
                        refine hK.out _ _ ⟨⟨_, m2⟩, rfl⟩ ?_
                        clear hK K
                        refine wpPlan_cons ?_
                        simp only [pickOps, List.getElem?_cons_succ, List.getElem?_cons_zero, Option.elim_some]
                        repeat (go_big_quiet_step (fail))
                        refine wpQuiet_nil ?_
                        refine planAct_some (fun K hK => ?_)
                        go_simp
                        refine hK.out _ _ ⟨⟨_, m2⟩, rfl⟩ ?_
                        clear hK K
                        refine wpPlan_last ?_
                        simp only [pickOps, List.getElem?_cons_succ, List.getElem?_cons_zero, Option.elim_some]
                        repeat (go_big_quiet_step (fail))
                        refine wpQuiet_nil ?_
                        refine NoPanic.normal ?_
                        clear hX hzz0 hzz1
                        go_wp2_with fail
                        go_roundg (gk - 1)
                        case measure => omega
                        case rel => exact ⟨j + 1, by omega, by go_num, m2⟩
                      | true =>
                        rw [hTR rfl rfl] at hij
                        clear hTR
                        go_upto_region 17 with (fail)
                        have hX := @Ext.cell W3
                        have hzz0 := block_lt_of_cell c0x
                        have hzz1 := block_lt_of_cell c0y
                        refine wp_region_noPanic ?_
                        refine wp_region_plan (fun w' => ∃ x : Ext W3, w' = x.w) [([0, 1, 2, 3, 4, 5, 6, 7], 8), ([9, 10, 11, 12, 13, 14, 15, 16, 17], 18), ([19, 20, 21, 22, 23, 24, 25, 26, 27, 28], 29)] [30, 31] (by kernel_rfl) (by kernel_rfl) (by kernel_rfl) (fun _ _ _ _ _ h => h) ⟨⟨_, kb.drew⟩, rfl⟩ ?_
                        refine wpPlan_cons ?_
                        simp only [pickOps, List.getElem?_cons_succ, List.getElem?_cons_zero, Option.elim_some]
                        go_big_quiet_step (fail)
                        go_big_quiet_step (fail)
                        go_big_quiet_step (fail)
                        refine wpQuiet_load_mid rfl 39 (.tmp 120) rfl b (o' + i * 16) rfl ox _ (range_ext rox) Try.underlying39 rfl iox ?_; simp only [Act.put, List.setIfInBounds_toArray, List.set_cons_succ, List.set_cons_zero]
                        go_big_quiet_step (fail)
                        go_big_quiet_step (fail)
                        go_big_quiet_step (fail)
                        refine wpQuiet_load_mid rfl 39 (.tmp 124) rfl b (o' + k * 16) rfl oy _ (range_ext roy) Try.underlying39 rfl ioy ?_; simp only [Act.put, List.setIfInBounds_toArray, List.set_cons_succ, List.set_cons_zero]
                        refine wpQuiet_nil ?_
                        refine planAct_some (fun K hK => ?_)
                        go_simp
                        refine (hik _).mono ?_
                        rintro e1 x1 ⟨rfl, q1⟩; have m1 := bnext kb.drew q1
                        go_wp2_with fail
                        refine hK.out _ _ ⟨⟨_, m1⟩, rfl⟩ ?_
                        clear hK K
                        refine wpPlan_cons ?_
                        simp only [pickOps, List.getElem?_cons_succ, List.getElem?_cons_zero, Option.elim_some]
                        go_big_quiet_step (fail)
                        go_big_quiet_step (fail)
                        go_big_quiet_step (fail)
                        go_big_quiet_step (fail)
                        refine wpQuiet_load_mid rfl 39 (.tmp 130) rfl b (o' + k * 16) rfl oy _ (range_ext roy) Try.underlying39 rfl ioy ?_; simp only [Act.put, List.setIfInBounds_toArray, List.set_cons_succ, List.set_cons_zero]
                        go_big_quiet_step (fail)
                        go_big_quiet_step (fail)
                        go_big_quiet_step (fail)
                        refine wpQuiet_load_mid rfl 39 (.tmp 134) rfl b (o' + j * 16) rfl oz _ (range_ext roz) Try.underlying39 rfl ioz ?_; simp only [Act.put, List.setIfInBounds_toArray, List.set_cons_succ, List.set_cons_zero]
                        refine wpQuiet_nil ?_
                        refine planAct_some (fun K hK => ?_)
                        go_simp
                        refine (hkj _).mono ?_
                        rintro e2 x2 ⟨rfl, q2⟩; have m2 := bnext m1 q2
                        go_wp2_with fail
                        refine hK.out _ _ ⟨⟨_, m2⟩, rfl⟩ ?_
                        clear hK K
                        refine wpPlan_cons ?_
                        simp only [pickOps, List.getElem?_cons_succ, List.getElem?_cons_zero, Option.elim_some]
                        go_big_quiet_step (fail)
                        go_big_quiet_step (fail)
                        go_big_quiet_step (fail)
                        go_big_quiet_step (fail)
                        go_big_quiet_step (fail)
                        refine wpQuiet_load_mid rfl 39 (.tmp 141) rfl b (o' + i * 16) rfl ox _ (range_ext rox) Try.underlying39 rfl iox ?_; simp only [Act.put, List.setIfInBounds_toArray, List.set_cons_succ, List.set_cons_zero]
                        go_big_quiet_step (fail)
                        go_big_quiet_step (fail)
                        go_big_quiet_step (fail)
                        refine wpQuiet_load_mid rfl 39 (.tmp 145) rfl b (o' + j * 16) rfl oz _ (range_ext roz) Try.underlying39 rfl ioz ?_; simp only [Act.put, List.setIfInBounds_toArray, List.set_cons_succ, List.set_cons_zero]
                        refine wpQuiet_nil ?_
                        refine planAct_some (fun K hK => ?_)
                        go_simp
                        refine (hij _).mono ?_
                        rintro e3 x3 ⟨rfl, q3⟩; have m3 := bnext m2 q3
                        go_wp2_with fail
                        refine hK.out _ _ ⟨⟨_, m3⟩, rfl⟩ ?_
                        clear hK K
                        refine wpPlan_last ?_
                        simp only [pickOps, List.getElem?_cons_succ, List.getElem?_cons_zero, Option.elim_some]
                        repeat (go_big_quiet_step (fail))
                        refine wpQuiet_nil ?_
                        refine NoPanic.normal ?_
                        clear hX hzz0 hzz1
                        go_wp2_with fail
                        go_roundg (gk - 1)
                        case measure => omega
                        case rel => exact ⟨j + 1, by omega, by go_num, m3⟩
                  · have t8 : decide (j < M) = false := decide_eq_false (by omega)
                    go_wp2_with fail
                    go_roundg (g2 - 1)
                    case measure => omega
                    case rel => exact ⟨k + 1, by omega, by go_num, kb⟩
              | false =>
                go_upto_region 12 with (fail)
                simp only [List.append]
                have hX := @Ext.cell W3
                have hzz0 := block_lt_of_cell c0x
                have hzz1 := block_lt_of_cell c0y
                refine wp_region_noPanic ?_
                refine wp_region_plan (fun w' => ∃ x : Ext W3, w' = x.w) [([0, 1, 2, 3, 4, 5, 6, 7, 8, 9, 10, 11, 12, 13, 14, 15, 16, 17, 18, 19, 20, 21, 22, 23, 24], 25), ([26, 27, 28, 29, 30, 31, 32, 33, 34, 35, 36], 37), ([38, 39, 40, 41, 42, 43, 44, 45, 46], 47), ([48, 49, 50, 51, 52, 53, 54, 55, 56, 57, 58], 59)] [60, 61, 62, 63, 64, 65] (by kernel_rfl) (by kernel_rfl) (by kernel_rfl) (fun _ _ _ _ _ h => h) ⟨⟨_, kb.drew⟩, rfl⟩ ?_
                refine wpPlan_cons ?_
                simp only [pickOps, List.getElem?_cons_succ, List.getElem?_cons_zero, Option.elim_some]
                repeat (go_big_quiet_step (fail))
                refine wpQuiet_nil ?_
                refine planAct_some (fun K hK => ?_)
                go_simp
                refine hK.out _ _ ⟨⟨_, kb.drew⟩, rfl⟩ ?_
                clear hK K
                refine wpPlan_cons ?_
                simp only [pickOps, List.getElem?_cons_succ, List.getElem?_cons_zero, Option.elim_some]
                go_big_quiet_step (fail)
                go_big_quiet_step (fail)
                go_big_quiet_step (fail)
                go_big_quiet_step (fail)
                go_big_quiet_step (fail)
                go_big_quiet_step (fail)
                refine wpQuiet_load_mid rfl 39 (.tmp 77) rfl b (o' + i * 16) rfl ox _ (range_ext rox) Try.underlying39 rfl iox ?_; simp only [Act.put, List.setIfInBounds_toArray, List.set_cons_succ, List.set_cons_zero]
                go_big_quiet_step (fail)
                go_big_quiet_step (fail)
                go_big_quiet_step (fail)
                refine wpQuiet_load_mid rfl 39 (.tmp 81) rfl b (o' + k * 16) rfl oy _ (range_ext roy) Try.underlying39 rfl ioy ?_; simp only [Act.put, List.setIfInBounds_toArray, List.set_cons_succ, List.set_cons_zero]
                refine wpQuiet_nil ?_
                refine planAct_some (fun K hK => ?_)
                go_simp
                refine (hik _).mono ?_
                rintro e1 x1 ⟨rfl, q1⟩; have m1 := bnext kb.drew q1
                go_wp2_with fail
                refine hK.out _ _ ⟨⟨_, m1⟩, rfl⟩ ?_
                clear hK K
                refine wpPlan_cons ?_
                simp only [pickOps, List.getElem?_cons_succ, List.getElem?_cons_zero, Option.elim_some]
                repeat (go_big_quiet_step (fail))
                refine wpQuiet_nil ?_
                refine planAct_some (fun K hK => ?_)
                go_simp
                refine hK.out _ _ ⟨⟨_, m1⟩, rfl⟩ ?_
                clear hK K
                refine wpPlan_cons ?_
                simp only [pickOps, List.getElem?_cons_succ, List.getElem?_cons_zero, Option.elim_some]
                go_big_quiet_step (fail)
                go_big_quiet_step (fail)
                go_big_quiet_step (fail)
                go_big_quiet_step (fail)
                go_big_quiet_step (fail)
                go_big_quiet_step (fail)
                refine wpQuiet_load_mid rfl 39 (.tmp 99) rfl b (o' + i * 16) rfl ox _ (range_ext rox) Try.underlying39 rfl iox ?_; simp only [Act.put, List.setIfInBounds_toArray, List.set_cons_succ, List.set_cons_zero]
                go_big_quiet_step (fail)
                go_big_quiet_step (fail)
                go_big_quiet_step (fail)
                refine wpQuiet_load_mid rfl 39 (.tmp 103) rfl b (o' + k * 16) rfl oy _ (range_ext roy) Try.underlying39 rfl ioy ?_; simp only [Act.put, List.setIfInBounds_toArray, List.set_cons_succ, List.set_cons_zero]
                refine wpQuiet_nil ?_
                refine planAct_some (fun K hK => ?_)
                go_simp
                refine (hik _).mono ?_
                rintro e2 x2 ⟨rfl, q2⟩; have m2 := bnext m1 q2
                go_wp2_with fail
                refine hK.out _ _ ⟨⟨_, m2⟩, rfl⟩ ?_
                clear hK K
                refine wpPlan_last ?_
                simp only [pickOps, List.getElem?_cons_succ, List.getElem?_cons_zero, Option.elim_some]
                repeat (go_big_quiet_step (fail))
                refine wpQuiet_nil ?_
                refine NoPanic.normal ?_
                clear hX hzz0 hzz1
                have kb12 : Below W3.heap.size W3 _ := m2
                clear c0x c0y rox roy hik hki
                obtain ⟨W4, hW4⟩ : ∃ W4, W4 = W3 := ⟨_, rfl⟩
                clear hW4 W4
                go_wp2_with fail
                obtain ⟨g2, hg2⟩ : ∃ g, g = gk := ⟨_, rfl⟩
                subst hg2
                go_loopg [6] M (fun gk s6 wr => ∃ j, j + gk = M ∧ s6 = .int .i64 (j : Nat) ∧ Below W3.heap.size W3 wr)
                case atStart => exact ⟨0, by omega, rfl, kb12⟩
                case round =>
                  clear kb kb12
                  obtain ⟨j, hj, rfl, kb⟩ := hrel
                  by_cases hlt3 : j < M
                  · obtain ⟨z, hz⟩ : ∃ z, O[j]? = some z := ⟨O[j]'(by have := HLEN.out; omega), List.getElem?_eq_getElem (i := j) _⟩
                    have rox : W3.rangeAt b (o' + i * 16) (opc x) := range_sl opc_len sO HX.out
                    have roy : W3.rangeAt b (o' + k * 16) (opc y) := range_sl opc_len sO HY.out
                    have roz : W3.rangeAt b (o' + j * 16) (opc z) := range_sl opc_len sO hz
                    have c0x : W3.cell? ⟨b, o' + i * 16, none⟩ = some (.int .i64 x.th) := (op_at sO HX.out).th
                    have c0y : W3.cell? ⟨b, o' + k * 16, none⟩ = some (.int .i64 y.th) := (op_at sO HY.out).th
                    have b4 : (0 : Int) ≤ (j : Int) := by omega
                    have b5 : (j : Int) < (M : Int) := by omega
                    have iox := info_O x
                    have ioy := info_O y
                    have ioz := info_O z
                    have hij := fun W => ahead_any x z W
                    have hik := fun W => ahead_any x y W
                    have hkj := fun W => ahead_any y z W
                    have hTR : aheadB x y = true → aheadB y z = true → aheadB x z = true := fun p1 p2 => by
                      have p1 := of_decide_eq_true p1
                      have p2 := of_decide_eq_true p2
                      have := (HB.out k j y z HY.out hz).2.2 p2.1
                      exact decide_eq_true (by omega)
                    clear hz
                    generalize opc x = ox at *
                    generalize opc y = oy at *
                    generalize opc z = oz at *
                    generalize aheadB x y = axy at *
                    generalize aheadB y z = ayz at *
                    cases axy with
                    | false =>
                      clear hTR
                      go_upto_region 17 with (fail)
                      have hX := @Ext.cell W3
                      have hzz0 := block_lt_of_cell c0x
                      have hzz1 := block_lt_of_cell c0y
                      refine wp_region_noPanic ?_
                      refine wp_region_plan (fun w' => ∃ x : Ext W3, w' = x.w) [([0, 1, 2, 3, 4, 5, 6, 7], 8), ([9, 10, 11, 12, 13, 14, 15, 16, 17], 18), ([19, 20, 21, 22, 23, 24, 25, 26, 27, 28], 29)] [30, 31] (by kernel_rfl) (by kernel_rfl) (by kernel_rfl) (fun _ _ _ _ _ h => h) ⟨⟨_, kb.drew⟩, rfl⟩ ?_
                      refine wpPlan_cons ?_
                      simp only [pickOps, List.getElem?_cons_succ, List.getElem?_cons_zero, Option.elim_some]
                      go_big_quiet_step (fail)
                      go_big_quiet_step (fail)
                      go_big_quiet_step (fail)
                      refine wpQuiet_load_mid rfl 39 (.tmp 120) rfl b (o' + i * 16) rfl ox _ (range_ext rox) Try.underlying39 rfl iox ?_; simp only [Act.put, List.setIfInBounds_toArray, List.set_cons_succ, List.set_cons_zero]
                      go_big_quiet_step (fail)
                      go_big_quiet_step (fail)
                      go_big_quiet_step (fail)
                      refine wpQuiet_load_mid rfl 39 (.tmp 124) rfl b (o' + k * 16) rfl oy _ (range_ext roy) Try.underlying39 rfl ioy ?_; simp only [Act.put, List.setIfInBounds_toArray, List.set_cons_succ, List.set_cons_zero]
                      refine wpQuiet_nil ?_
                      refine planAct_some (fun K hK => ?_)
                      go_simp
                      refine (hik _).mono ?_
                      rintro e1 x1 ⟨rfl, q1⟩; have m1 := bnext kb.drew q1
                      go_wp2_with fail
                      refine hK.out _ _ ⟨⟨_, m1⟩, rfl⟩ ?_
                      clear hK K
                      refine wpPlan_cons ?_
                      simp only [pickOps, List.getElem?_cons_succ, List.getElem?_cons_zero, Option.elim_some]
                      repeat (go_big_quiet_step (fail))
                      refine wpQuiet_nil ?_
                      refine planAct_some (fun K hK => ?_)
                      go_simp
                      refine hK.out _ _ ⟨⟨_, m1⟩, rfl⟩ ?_
                      clear hK K
                      refine wpPlan_cons ?_
                      simp only [pickOps, List.getElem?_cons_succ, List.getElem?_cons_zero, Option.elim_some]
                      repeat (go_big_quiet_step (fail))
                      refine wpQuiet_nil ?_
                      refine planAct_some (fun K hK => ?_)
                      go_simp
                      refine hK.out _ _ ⟨⟨_, m1⟩, rfl⟩ ?_
                      clear hK K
                      refine wpPlan_last ?_
                      simp only [pickOps, List.getElem?_cons_succ, List.getElem?_cons_zero, Option.elim_some]
                      repeat (go_big_quiet_step (fail))
                      refine wpQuiet_nil ?_
                      refine NoPanic.normal ?_
                      clear hX hzz0 hzz1
                      go_wp2_with fail
                      go_roundg (gk - 1)
                      case measure => omega
                      case rel => exact ⟨j + 1, by omega, by go_num, m1⟩
                    | true =>
                      cases ayz with
                      | false =>
                        clear hTR
                        go_upto_region 17 with (fail)
                        have hX := @Ext.cell W3
                        have hzz0 := block_lt_of_cell c0x
                        have hzz1 := block_lt_of_cell c0y
                        refine wp_region_noPanic ?_
                        refine wp_region_plan (fun w' => ∃ x : Ext W3, w' = x.w) [([0, 1, 2, 3, 4, 5, 6, 7], 8), ([9, 10, 11, 12, 13, 14, 15, 16, 17], 18), ([19, 20, 21, 22, 23, 24, 25, 26, 27, 28], 29)] [30, 31] (by kernel_rfl) (by kernel_rfl) (by kernel_rfl) (fun _ _ _ _ _ h => h) ⟨⟨_, kb.drew⟩, rfl⟩ ?_
                        refine wpPlan_cons ?_
                        simp only [pickOps, List.getElem?_cons_succ, List.getElem?_cons_zero, Option.elim_some]
                        go_big_quiet_step (fail)
                        go_big_quiet_step (fail)
                        go_big_quiet_step (fail)
                        refine wpQuiet_load_mid rfl 39 (.tmp 120) rfl b (o' + i * 16) rfl ox _ (range_ext rox) Try.underlying39 rfl iox ?_; simp only [Act.put, List.setIfInBounds_toArray, List.set_cons_succ, List.set_cons_zero]
                        go_big_quiet_step (fail)
                        go_big_quiet_step (fail)
                        go_big_quiet_step (fail)
                        refine wpQuiet_load_mid rfl 39 (.tmp 124) rfl b (o' + k * 16) rfl oy _ (range_ext roy) Try.underlying39 rfl ioy ?_; simp only [Act.put, List.setIfInBounds_toArray, List.set_cons_succ, List.set_cons_zero]
                        refine wpQuiet_nil ?_
                        refine planAct_some (fun K hK => ?_)
                        go_simp
                        refine (hik _).mono ?_
                        rintro e1 x1 ⟨rfl, q1⟩; have m1 := bnext kb.drew q1
                        go_wp2_with fail
                        refine hK.out _ _ ⟨⟨_, m1⟩, rfl⟩ ?_
                        clear hK K
                        refine wpPlan_cons ?_
                        simp only [pickOps, List.getElem?_cons_succ, List.getElem?_cons_zero, Option.elim_some]
                        go_big_quiet_step (fail)
                        go_big_quiet_step (fail)
                        go_big_quiet_step (fail)
                        go_big_quiet_step (fail)
                        refine wpQuiet_load_mid rfl 39 (.tmp 130) rfl b (o' + k * 16) rfl oy _ (range_ext roy) Try.underlying39 rfl ioy ?_; simp only [Act.put, List.setIfInBounds_toArray, List.set_cons_succ, List.set_cons_zero]
                        go_big_quiet_step (fail)
                        go_big_quiet_step (fail)
                        go_big_quiet_step (fail)
                        refine wpQuiet_load_mid rfl 39 (.tmp 134) rfl b (o' + j * 16) rfl oz _ (range_ext roz) Try.underlying39 rfl ioz ?_; simp only [Act.put, List.setIfInBounds_toArray, List.set_cons_succ, List.set_cons_zero]
                        refine wpQuiet_nil ?_
                        refine planAct_some (fun K hK => ?_)
                        go_simp
                        refine (hkj _).mono ?_
                        rintro e2 x2 ⟨rfl, q2⟩; have m2 := bnext m1 q2
                        go_wp2_with fail
                        refine hK.out _ _ ⟨⟨_, m2⟩, rfl⟩ ?_
                        clear hK K
                        refine wpPlan_cons ?_
                        simp only [pickOps, List.getElem?_cons_succ, List.getElem?_cons_zero, Option.elim_some]
                        repeat (go_big_quiet_step (fail))
                        refine wpQuiet_nil ?_
                        refine planAct_some (fun K hK => ?_)
                        go_simp
                        refine hK.out _ _ ⟨⟨_, m2⟩, rfl⟩ ?_
                        clear hK K
                        refine wpPlan_last ?_
                        simp only [pickOps, List.getElem?_cons_succ, List.getElem?_cons_zero, Option.elim_some]
                        repeat (go_big_quiet_step (fail))
                        refine wpQuiet_nil ?_
                        refine NoPanic.normal ?_
                        clear hX hzz0 hzz1
                        go_wp2_with fail
                        go_roundg (gk - 1)
                        case measure => omega
                        case rel => exact ⟨j + 1, by omega, by go_num, m2⟩
                      | true =>
                        rw [hTR rfl rfl] at hij
                        clear hTR
                        go_upto_region 17 with (fail)
                        have hX := @Ext.cell W3
                        have hzz0 := block_lt_of_cell c0x
                        have hzz1 := block_lt_of_cell c0y
                        refine wp_region_noPanic ?_
                        refine wp_region_plan (fun w' => ∃ x : Ext W3, w' = x.w) [([0, 1, 2, 3, 4, 5, 6, 7], 8), ([9, 10, 11, 12, 13, 14, 15, 16, 17], 18), ([19, 20, 21, 22, 23, 24, 25, 26, 27, 28], 29)] [30, 31] (by kernel_rfl) (by kernel_rfl) (by kernel_rfl) (fun _ _ _ _ _ h => h) ⟨⟨_, kb.drew⟩, rfl⟩ ?_
                        refine wpPlan_cons ?_
                        simp only [pickOps, List.getElem?_cons_succ, List.getElem?_cons_zero, Option.elim_some]
                        go_big_quiet_step (fail)
                        go_big_quiet_step (fail)
                        go_big_quiet_step (fail)
                        refine wpQuiet_load_mid rfl 39 (.tmp 120) rfl b (o' + i * 16) rfl ox _ (range_ext rox) Try.underlying39 rfl iox ?_; simp only [Act.put, List.setIfInBounds_toArray, List.set_cons_succ, List.set_cons_zero]
                        go_big_quiet_step (fail)
                        go_big_quiet_step (fail)
                        go_big_quiet_step (fail)
                        refine wpQuiet_load_mid rfl 39 (.tmp 124) rfl b (o' + k * 16) rfl oy _ (range_ext roy) Try.underlying39 rfl ioy ?_; simp only [Act.put, List.setIfInBounds_toArray, List.set_cons_succ, List.set_cons_zero]
                        refine wpQuiet_nil ?_
                        refine planAct_some (fun K hK => ?_)
                        go_simp
                        refine (hik _).mono ?_
                        rintro e1 x1 ⟨rfl, q1⟩; have m1 := bnext kb.drew q1
                        go_wp2_with fail
                        refine hK.out _ _ ⟨⟨_, m1⟩, rfl⟩ ?_
                        clear hK K
                        refine wpPlan_cons ?_
                        simp only [pickOps, List.getElem?_cons_succ, List.getElem?_cons_zero, Option.elim_some]
                        go_big_quiet_step (fail)
                        go_big_quiet_step (fail)
                        go_big_quiet_step (fail)
                        go_big_quiet_step (fail)
                        refine wpQuiet_load_mid rfl 39 (.tmp 130) rfl b (o' + k * 16) rfl oy _ (range_ext roy) Try.underlying39 rfl ioy ?_; simp only [Act.put, List.setIfInBounds_toArray, List.set_cons_succ, List.set_cons_zero]
                        go_big_quiet_step (fail)
                        go_big_quiet_step (fail)
                        go_big_quiet_step (fail)
                        refine wpQuiet_load_mid rfl 39 (.tmp 134) rfl b (o' + j * 16) rfl oz _ (range_ext roz) Try.underlying39 rfl ioz ?_; simp only [Act.put, List.setIfInBounds_toArray, List.set_cons_succ, List.set_cons_zero]
                        refine wpQuiet_nil ?_
                        refine planAct_some (fun K hK => ?_)
                        go_simp
                        refine (hkj _).mono ?_
                        rintro e2 x2 ⟨rfl, q2⟩; have m2 := bnext m1 q2
                        go_wp2_with fail
                        refine hK.out _ _ ⟨⟨_, m2⟩, rfl⟩ ?_
                        clear hK K
                        refine wpPlan_cons ?_
                        simp only [pickOps, List.getElem?_cons_succ, List.getElem?_cons_zero, Option.elim_some]
                        go_big_quiet_step (fail)
                        go_big_quiet_step (fail)
                        go_big_quiet_step (fail)
                        go_big_quiet_step (fail)
                        go_big_quiet_step (fail)
                        refine wpQuiet_load_mid rfl 39 (.tmp 141) rfl b (o' + i * 16) rfl ox _ (range_ext rox) Try.underlying39 rfl iox ?_; simp only [Act.put, List.setIfInBounds_toArray, List.set_cons_succ, List.set_cons_zero]
                        go_big_quiet_step (fail)
                        go_big_quiet_step (fail)
                        go_big_quiet_step (fail)
                        refine wpQuiet_load_mid rfl 39 (.tmp 145) rfl b (o' + j * 16) rfl oz _ (range_ext roz) Try.underlying39 rfl ioz ?_; simp only [Act.put, List.setIfInBounds_toArray, List.set_cons_succ, List.set_cons_zero]
                        refine wpQuiet_nil ?_
                        refine planAct_some (fun K hK => ?_)
                        go_simp
                        refine (hij _).mono ?_
                        rintro e3 x3 ⟨rfl, q3⟩; have m3 := bnext m2 q3
                        go_wp2_with fail
                        refine hK.out _ _ ⟨⟨_, m3⟩, rfl⟩ ?_
                        clear hK K
                        refine wpPlan_last ?_
                        simp only [pickOps, List.getElem?_cons_succ, List.getElem?_cons_zero, Option.elim_some]
                        repeat (go_big_quiet_step (fail))
                        refine wpQuiet_nil ?_
                        refine NoPanic.normal ?_
                        clear hX hzz0 hzz1
                        go_wp2_with fail
                        go_roundg (gk - 1)
                        case measure => omega
                        case rel => exact ⟨j + 1, by omega, by go_num, m3⟩
                  · have t8 : decide (j < M) = false := decide_eq_false (by omega)
                    go_wp2_with fail
                    go_roundg (g2 - 1)
                    case measure => omega
                    case rel => exact ⟨k + 1, by omega, by go_num, kb⟩
          · have u1 : decide (i < k) = false := decide_eq_false h1
            have hk2 : aheadB x y = false := decide_eq_false (fun q => by have := HA1.out.2.1 q; omega)
            rw [hk2] at hik
            generalize hox : opc x = ox at *
            generalize hoy : opc y = oy at *
            have HOX := Lib.hid hox
            have HOY := Lib.hid hoy
            clear hox hoy hk2 h1
            go_upto_region 12 with (fail)
            simp only [List.append]
            have hX := @Ext.cell W3
            have hzz0 := block_lt_of_cell c0x
            have hzz1 := block_lt_of_cell c0y
            refine wp_region_noPanic ?_
            refine wp_region_plan (fun w' => ∃ x : Ext W3, w' = x.w) [([0, 1, 2, 3, 4, 5, 6, 7, 8, 9, 10, 11, 12, 13, 14, 15, 16, 17, 18, 19, 20, 21, 22, 23, 24], 25), ([26, 27, 28, 29, 30, 31, 32, 33, 34, 35, 36], 37), ([38, 39, 40, 41, 42, 43, 44, 45, 46], 47), ([48, 49, 50, 51, 52, 53, 54, 55, 56, 57, 58], 59)] [60, 61, 62, 63, 64, 65] (by kernel_rfl) (by kernel_rfl) (by kernel_rfl) (fun _ _ _ _ _ h => h) ⟨⟨_, kb.drew⟩, rfl⟩ ?_
            refine wpPlan_cons ?_
            simp only [pickOps, List.getElem?_cons_succ, List.getElem?_cons_zero, Option.elim_some]
            repeat (go_big_quiet_step (fail))
            refine wpQuiet_nil ?_
            refine planAct_some (fun K hK => ?_)
            go_simp
            refine hK.out _ _ ⟨⟨_, kb.drew⟩, rfl⟩ ?_
            clear hK K
            refine wpPlan_cons ?_
            simp only [pickOps, List.getElem?_cons_succ, List.getElem?_cons_zero, Option.elim_some]
            go_big_quiet_step (fail)
            go_big_quiet_step (fail)
            go_big_quiet_step (fail)
            go_big_quiet_step (fail)
            go_big_quiet_step (fail)
            go_big_quiet_step (fail)
            refine wpQuiet_load_mid rfl 39 (.tmp 77) rfl b (o' + i * 16) rfl ox _ (range_ext rox) Try.underlying39 rfl iox ?_; simp only [Act.put, List.setIfInBounds_toArray, List.set_cons_succ, List.set_cons_zero]
            go_big_quiet_step (fail)
            go_big_quiet_step (fail)
            go_big_quiet_step (fail)
            refine wpQuiet_load_mid rfl 39 (.tmp 81) rfl b (o' + k * 16) rfl oy _ (range_ext roy) Try.underlying39 rfl ioy ?_; simp only [Act.put, List.setIfInBounds_toArray, List.set_cons_succ, List.set_cons_zero]
            refine wpQuiet_nil ?_
            refine planAct_some (fun K hK => ?_)
            go_simp
            refine (hik _).mono ?_
            rintro e1 x1 ⟨rfl, q1⟩; have m1 := bnext kb.drew q1
            go_wp2_with fail
            refine hK.out _ _ ⟨⟨_, m1⟩, rfl⟩ ?_
            clear hK K
            refine wpPlan_cons ?_
            simp only [pickOps, List.getElem?_cons_succ, List.getElem?_cons_zero, Option.elim_some]
            repeat (go_big_quiet_step (fail))
            refine wpQuiet_nil ?_
            refine planAct_some (fun K hK => ?_)
            go_simp
            refine hK.out _ _ ⟨⟨_, m1⟩, rfl⟩ ?_
            clear hK K
            refine wpPlan_cons ?_
            simp only [pickOps, List.getElem?_cons_succ, List.getElem?_cons_zero, Option.elim_some]
            go_big_quiet_step (fail)
            go_big_quiet_step (fail)
            go_big_quiet_step (fail)
            go_big_quiet_step (fail)
            go_big_quiet_step (fail)
            go_big_quiet_step (fail)
            refine wpQuiet_load_mid rfl 39 (.tmp 99) rfl b (o' + i * 16) rfl ox _ (range_ext rox) Try.underlying39 rfl iox ?_; simp only [Act.put, List.setIfInBounds_toArray, List.set_cons_succ, List.set_cons_zero]
            go_big_quiet_step (fail)
            go_big_quiet_step (fail)
            go_big_quiet_step (fail)
            refine wpQuiet_load_mid rfl 39 (.tmp 103) rfl b (o' + k * 16) rfl oy _ (range_ext roy) Try.underlying39 rfl ioy ?_; simp only [Act.put, List.setIfInBounds_toArray, List.set_cons_succ, List.set_cons_zero]
            refine wpQuiet_nil ?_
            refine planAct_some (fun K hK => ?_)
            go_simp
            refine (hik _).mono ?_
            rintro e2 x2 ⟨rfl, q2⟩; have m2 := bnext m1 q2
            go_wp2_with fail
            refine hK.out _ _ ⟨⟨_, m2⟩, rfl⟩ ?_
            clear hK K
            refine wpPlan_last ?_
            simp only [pickOps, List.getElem?_cons_succ, List.getElem?_cons_zero, Option.elim_some]
            repeat (go_big_quiet_step (fail))
            refine wpQuiet_nil ?_
            refine NoPanic.normal ?_
            clear hX hzz0 hzz1
            have kb12 : Below W3.heap.size W3 _ := m2
            clear c0x c0y rox roy hik hki
            obtain ⟨W4, hW4⟩ : ∃ W4, W4 = W3 := ⟨_, rfl⟩
            clear hW4 W4
            go_wp2_with fail
            obtain ⟨g2, hg2⟩ : ∃ g, g = gk := ⟨_, rfl⟩
            subst hg2
            go_loopg [6] M (fun gk s6 wr => ∃ j, j + gk = M ∧ s6 = .int .i64 (j : Nat) ∧ Below W3.heap.size W3 wr)
            case atStart => exact ⟨0, by omega, rfl, kb12⟩
            case round =>
              clear kb kb12
              obtain ⟨j, hj, rfl, kb⟩ := hrel
              by_cases hlt3 : j < M
              · obtain ⟨z, hz⟩ : ∃ z, O[j]? = some z := ⟨O[j]'(by have := HLEN.out; omega), List.getElem?_eq_getElem (i := j) _⟩
                have rox : W3.rangeAt b (o' + i * 16) (opc x) := range_sl opc_len sO HX.out
                have roy : W3.rangeAt b (o' + k * 16) (opc y) := range_sl opc_len sO HY.out
                have roz : W3.rangeAt b (o' + j * 16) (opc z) := range_sl opc_len sO hz
                have c0x : W3.cell? ⟨b, o' + i * 16, none⟩ = some (.int .i64 x.th) := (op_at sO HX.out).th
                have c0y : W3.cell? ⟨b, o' + k * 16, none⟩ = some (.int .i64 y.th) := (op_at sO HY.out).th
                have b4 : (0 : Int) ≤ (j : Int) := by omega
                have b5 : (j : Int) < (M : Int) := by omega
                have iox := info_O x
                have ioy := info_O y
                have ioz := info_O z
                have hij := fun W => ahead_any x z W
                have hik := fun W => ahead_any x y W
                have hkj := fun W => ahead_any y z W
                have hTR : aheadB x y = true → aheadB y z = true → aheadB x z = true := fun p1 p2 => by
                  have p1 := of_decide_eq_true p1
                  have p2 := of_decide_eq_true p2
                  have := (HB.out k j y z HY.out hz).2.2 p2.1
                  exact decide_eq_true (by omega)
                clear hz
                generalize opc x = ox at *
                generalize opc y = oy at *
                generalize opc z = oz at *
                generalize aheadB x y = axy at *
                generalize aheadB y z = ayz at *
                cases axy with
                | false =>
                  clear hTR
                  go_upto_region 17 with (fail)
                  have hX := @Ext.cell W3
                  have hzz0 := block_lt_of_cell c0x
                  have hzz1 := block_lt_of_cell c0y
                  refine wp_region_noPanic ?_
                  refine wp_region_plan (fun w' => ∃ x : Ext W3, w' = x.w) [([0, 1, 2, 3, 4, 5, 6, 7], 8), ([9, 10, 11, 12, 13, 14, 15, 16, 17], 18), ([19, 20, 21, 22, 23, 24, 25, 26, 27, 28], 29)] [30, 31] (by kernel_rfl) (by kernel_rfl) (by kernel_rfl) (fun _ _ _ _ _ h => h) ⟨⟨_, kb.drew⟩, rfl⟩ ?_
                  refine wpPlan_cons ?_
                  simp only [pickOps, List.getElem?_cons_succ, List.getElem?_cons_zero, Option.elim_some]
                  go_big_quiet_step (fail)
                  go_big_quiet_step (fail)
                  go_big_quiet_step (fail)
                  refine wpQuiet_load_mid rfl 39 (.tmp 120) rfl b (o' + i * 16) rfl ox _ (range_ext rox) Try.underlying39 rfl iox ?_; simp only [Act.put, List.setIfInBounds_toArray, List.set_cons_succ, List.set_cons_zero]
                  go_big_quiet_step (fail)
                  go_big_quiet_step (fail)
                  go_big_quiet_step (fail)
                  refine wpQuiet_load_mid rfl 39 (.tmp 124) rfl b (o' + k * 16) rfl oy _ (range_ext roy) Try.underlying39 rfl ioy ?_; simp only [Act.put, List.setIfInBounds_toArray, List.set_cons_succ, List.set_cons_zero]
                  refine wpQuiet_nil ?_
                  refine planAct_some (fun K hK => ?_)
                  go_simp
                  refine (hik _).mono ?_
                  rintro e1 x1 ⟨rfl, q1⟩; have m1 := bnext kb.drew q1
                  go_wp2_with fail
                  refine hK.out _ _ ⟨⟨_, m1⟩, rfl⟩ ?_
                  clear hK K
                  refine wpPlan_cons ?_
                  simp only [pickOps, List.getElem?_cons_succ, List.getElem?_cons_zero, Option.elim_some]
                  repeat (go_big_quiet_step (fail))
                  refine wpQuiet_nil ?_
                  refine planAct_some (fun K hK => ?_)
                  go_simp
                  refine hK.out _ _ ⟨⟨_, m1⟩, rfl⟩ ?_
                  clear hK K
                  refine wpPlan_cons ?_
                  simp only [pickOps, List.getElem?_cons_succ, List.getElem?_cons_zero, Option.elim_some]
                  repeat (go_big_quiet_step (fail))
                  refine wpQuiet_nil ?_
                  refine planAct_some (fun K hK => ?_)
                  go_simp
                  refine hK.out _ _ ⟨⟨_, m1⟩, rfl⟩ ?_
                  clear hK K
                  refine wpPlan_last ?_
                  simp only [pickOps, List.getElem?_cons_succ, List.getElem?_cons_zero, Option.elim_some]
                  repeat (go_big_quiet_step (fail))
                  refine wpQuiet_nil ?_
                  refine NoPanic.normal ?_
                  clear hX hzz0 hzz1
                  go_wp2_with fail
                  go_roundg (gk - 1)
                  case measure => omega
                  case rel => exact ⟨j + 1, by omega, by go_num, m1⟩
                | true =>
                  cases ayz with
                  | false =>
                    clear hTR
                    go_upto_region 17 with (fail)
                    have hX := @Ext.cell W3
                    have hzz0 := block_lt_of_cell c0x
                    have hzz1 := block_lt_of_cell c0y
                    refine wp_region_noPanic ?_
                    refine wp_region_plan (fun w' => ∃ x : Ext W3, w' = x.w) [([0, 1, 2, 3, 4, 5, 6, 7], 8), ([9, 10, 11, 12, 13, 14, 15, 16, 17], 18), ([19, 20, 21, 22, 23, 24, 25, 26, 27, 28], 29)] [30, 31] (by kernel_rfl) (by kernel_rfl) (by kernel_rfl) (fun _ _ _ _ _ h => h) ⟨⟨_, kb.drew⟩, rfl⟩ ?_
                    refine wpPlan_cons ?_
                    simp only [pickOps, List.getElem?_cons_succ, List.getElem?_cons_zero, Option.elim_some]
                    go_big_quiet_step (fail)
                    go_big_quiet_step (fail)
                    go_big_quiet_step (fail)
                    refine wpQuiet_load_mid rfl 39 (.tmp 120) rfl b (o' + i * 16) rfl ox _ (range_ext rox) Try.underlying39 rfl iox ?_; simp only [Act.put, List.setIfInBounds_toArray, List.set_cons_succ, List.set_cons_zero]
                    go_big_quiet_step (fail)
                    go_big_quiet_step (fail)
                    go_big_quiet_step (fail)
                    refine wpQuiet_load_mid rfl 39 (.tmp 124) rfl b (o' + k * 16) rfl oy _ (range_ext roy) Try.underlying39 rfl ioy ?_; simp only [Act.put, List.setIfInBounds_toArray, List.set_cons_succ, List.set_cons_zero]
                    refine wpQuiet_nil ?_
                    refine planAct_some (fun K hK => ?_)
                    go_simp
                    refine (hik _).mono ?_
                    rintro e1 x1 ⟨rfl, q1⟩; have m1 := bnext kb.drew q1
                    go_wp2_with fail
                    refine hK.out _ _ ⟨⟨_, m1⟩, rfl⟩ ?_
                    clear hK K
                    refine wpPlan_cons ?_
                    simp only [pickOps, List.getElem?_cons_succ, List.getElem?_cons_zero, Option.elim_some]
                    go_big_quiet_step (fail)
                    go_big_quiet_step (fail)
                    go_big_quiet_step (fail)
                    go_big_quiet_step (fail)
                    refine wpQuiet_load_mid rfl 39 (.tmp 130) rfl b (o' + k * 16) rfl oy _ (range_ext roy) Try.underlying39 rfl ioy ?_; simp only [Act.put, List.setIfInBounds_toArray, List.set_cons_succ, List.set_cons_zero]
                    go_big_quiet_step (fail)
                    go_big_quiet_step (fail)
                    go_big_quiet_step (fail)
                    refine wpQuiet_load_mid rfl 39 (.tmp 134) rfl b (o' + j * 16) rfl oz _ (range_ext roz) Try.underlying39 rfl ioz ?_; simp only [Act.put, List.setIfInBounds_toArray, List.set_cons_succ, List.set_cons_zero]
                    refine wpQuiet_nil ?_
                    refine planAct_some (fun K hK => ?_)
                    go_simp
                    refine (hkj _).mono ?_
                    rintro e2 x2 ⟨rfl, q2⟩; have m2 := bnext m1 q2
                    go_wp2_with fail
                    refine hK.out _ _ ⟨⟨_, m2⟩, rfl⟩ ?_
                    clear hK K
                    refine wpPlan_cons ?_
                    simp only [pickOps, List.getElem?_cons_succ, List.getElem?_cons_zero, Option.elim_some]
                    repeat (go_big_quiet_step (fail))
                    refine wpQuiet_nil ?_
                    refine planAct_some (fun K hK => ?_)
                    go_simp
                    refine hK.out _ _ ⟨⟨_, m2⟩, rfl⟩ ?_
                    clear hK K
                    refine wpPlan_last ?_
                    simp only [pickOps, List.getElem?_cons_succ, List.getElem?_cons_zero, Option.elim_some]
                    repeat (go_big_quiet_step (fail))
                    refine wpQuiet_nil ?_
                    refine NoPanic.normal ?_
                    clear hX hzz0 hzz1
                    go_wp2_with fail
                    go_roundg (gk - 1)
                    case measure => omega
                    case rel => exact ⟨j + 1, by omega, by go_num, m2⟩
                  | true =>
                    rw [hTR rfl rfl] at hij
                    clear hTR
                    go_upto_region 17 with (fail)
                    have hX := @Ext.cell W3
                    have hzz0 := block_lt_of_cell c0x
                    have hzz1 := block_lt_of_cell c0y
                    refine wp_region_noPanic ?_
                    refine wp_region_plan (fun w' => ∃ x : Ext W3, w' = x.w) [([0, 1, 2, 3, 4, 5, 6, 7], 8), ([9, 10, 11, 12, 13, 14, 15, 16, 17], 18), ([19, 20, 21, 22, 23, 24, 25, 26, 27, 28], 29)] [30, 31] (by kernel_rfl) (by kernel_rfl) (by kernel_rfl) (fun _ _ _ _ _ h => h) ⟨⟨_, kb.drew⟩, rfl⟩ ?_
                    refine wpPlan_cons ?_
                    simp only [pickOps, List.getElem?_cons_succ, List.getElem?_cons_zero, Option.elim_some]
                    go_big_quiet_step (fail)
                    go_big_quiet_step (fail)
                    go_big_quiet_step (fail)
                    refine wpQuiet_load_mid rfl 39 (.tmp 120) rfl b (o' + i * 16) rfl ox _ (range_ext rox) Try.underlying39 rfl iox ?_; simp only [Act.put, List.setIfInBounds_toArray, List.set_cons_succ, List.set_cons_zero]
                    go_big_quiet_step (fail)
                    go_big_quiet_step (fail)
                    go_big_quiet_step (fail)
                    refine wpQuiet_load_mid rfl 39 (.tmp 124) rfl b (o' + k * 16) rfl oy _ (range_ext roy) Try.underlying39 rfl ioy ?_; simp only [Act.put, List.setIfInBounds_toArray, List.set_cons_succ, List.set_cons_zero]
                    refine wpQuiet_nil ?_
                    refine planAct_some (fun K hK => ?_)
                    go_simp
                    refine (hik _).mono ?_
                    rintro e1 x1 ⟨rfl, q1⟩; have m1 := bnext kb.drew q1
                    go_wp2_with fail
                    refine hK.out _ _ ⟨⟨_, m1⟩, rfl⟩ ?_
                    clear hK K
                    refine wpPlan_cons ?_
                    simp only [pickOps, List.getElem?_cons_succ, List.getElem?_cons_zero, Option.elim_some]
                    go_big_quiet_step (fail)
                    go_big_quiet_step (fail)
                    go_big_quiet_step (fail)
                    go_big_quiet_step (fail)
                    refine wpQuiet_load_mid rfl 39 (.tmp 130) rfl b (o' + k * 16) rfl oy _ (range_ext roy) Try.underlying39 rfl ioy ?_; simp only [Act.put, List.setIfInBounds_toArray, List.set_cons_succ, List.set_cons_zero]
                    go_big_quiet_step (fail)
                    go_big_quiet_step (fail)
                    go_big_quiet_step (fail)
                    refine wpQuiet_load_mid rfl 39 (.tmp 134) rfl b (o' + j * 16) rfl oz _ (range_ext roz) Try.underlying39 rfl ioz ?_; simp only [Act.put, List.setIfInBounds_toArray, List.set_cons_succ, List.set_cons_zero]
                    refine wpQuiet_nil ?_
                    refine planAct_some (fun K hK => ?_)
                    go_simp
                    refine (hkj _).mono ?_
                    rintro e2 x2 ⟨rfl, q2⟩; have m2 := bnext m1 q2
                    go_wp2_with fail
                    refine hK.out _ _ ⟨⟨_, m2⟩, rfl⟩ ?_
                    clear hK K
                    refine wpPlan_cons ?_
                    simp only [pickOps, List.getElem?_cons_succ, List.getElem?_cons_zero, Option.elim_some]
                    go_big_quiet_step (fail)
                    go_big_quiet_step (fail)
                    go_big_quiet_step (fail)
                    go_big_quiet_step (fail)
                    go_big_quiet_step (fail)
                    refine wpQuiet_load_mid rfl 39 (.tmp 141) rfl b (o' + i * 16) rfl ox _ (range_ext rox) Try.underlying39 rfl iox ?_; simp only [Act.put, List.setIfInBounds_toArray, List.set_cons_succ, List.set_cons_zero]
                    go_big_quiet_step (fail)
                    go_big_quiet_step (fail)
                    go_big_quiet_step (fail)
                    refine wpQuiet_load_mid rfl 39 (.tmp 145) rfl b (o' + j * 16) rfl oz _ (range_ext roz) Try.underlying39 rfl ioz ?_; simp only [Act.put, List.setIfInBounds_toArray, List.set_cons_succ, List.set_cons_zero]
                    refine wpQuiet_nil ?_
                    refine planAct_some (fun K hK => ?_)
                    go_simp
                    refine (hij _).mono ?_
                    rintro e3 x3 ⟨rfl, q3⟩; have m3 := bnext m2 q3
                    go_wp2_with fail
                    refine hK.out _ _ ⟨⟨_, m3⟩, rfl⟩ ?_
                    clear hK K
                    refine wpPlan_last ?_
                    simp only [pickOps, List.getElem?_cons_succ, List.getElem?_cons_zero, Option.elim_some]
                    repeat (go_big_quiet_step (fail))
                    refine wpQuiet_nil ?_
                    refine NoPanic.normal ?_
                    clear hX hzz0 hzz1
                    go_wp2_with fail
                    go_roundg (gk - 1)
                    case measure => omega
                    case rel => exact ⟨j + 1, by omega, by go_num, m3⟩
              · have t8 : decide (j < M) = false := decide_eq_false (by omega)
                go_wp2_with fail
                go_roundg (g2 - 1)
                case measure => omega
                case rel => exact ⟨k + 1, by omega, by go_num, kb⟩
        · have t8 : decide (k < M) = false := decide_eq_false (by omega)
          go_wp2_with fail
          go_roundg (g1 - 1)
          case measure => omega
          case rel => exact ⟨i + 1, by omega, by go_num, kb⟩
    · have t8 : decide (i < M) = false := decide_eq_false (by omega)
      go_wp2_with (go_at_call 6; refine (lives14 _).mono ?_; rintro e w9 ⟨rfl, hb9⟩)
      go_ret
      exact ⟨rfl, bnext kb3 (bnext kb hb9)⟩
theorem histback_any {w : World} {A : Option Addr} {n c : Nat} {l : List Ev} (h : Sl evc w A n c l) : Calls Try.prog 5 #[.slice A n c] w fun e w' => e = .returned (.bool true) ∧ Below w.heap.size w w' := by
  by_cases hn : 100 < n
  · exact histback_long hn
  · cases hm : mayB l with
    | true => exact histback_yes h (by omega) hm
    | false => exact histback_no h (by omega) hm
end Go.Proofs.Ytkcilmnmbfbogaa
