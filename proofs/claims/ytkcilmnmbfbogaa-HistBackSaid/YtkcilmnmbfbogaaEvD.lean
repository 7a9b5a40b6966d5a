/- The law HistEvents. -/
import Derived.Test.YtkcilmnmbfbogaaEvC
namespace Go.Proofs.Ytkcilmnmbfbogaa
set_option linter.unusedVariables false
set_option linter.unusedSimpArgs false
open Go.RowKit
set_option maxHeartbeats 4000000 in
set_option maxRecDepth 100000 in
theorem neEv (x : Ev) (w : World) : (binOp .neq 45 (.agg (evc x).toArray) (.agg (evc x).toArray)).run Try.prog w = .ok (.bool false) w := by
  simp [go_sem, evc]
theorem info_Ev (x : Ev) : (Try.prog.info? 45).map (·.size) = some (evc x).length := by rw [evc_len]; kernel_rfl
set_option maxHeartbeats 4000000 in
set_option maxRecDepth 100000 in
theorem evsame_eq {w : World} {A B : Option Addr} {n c d : Nat} {l : List Ev} (h : Sl evc w A n c l) (h' : Sl evc w B n d l) (hn : n ≤ 1000000) : Calls Try.prog 13 #[.slice A n c, .slice B n d] w fun r w' => r = .returned (.bool true) ∧ Below w.heap.size w w' := by
  go_enter Try.func13, Try.ntmps13
  go_wp2
  go_loopg [5] n (fun gk i wr => ∃ k : Nat, k + gk = n ∧ i = .int .i64 k ∧ Below w.heap.size w wr)
  case atStart => exact ⟨0, by omega, rfl, brefl w⟩
  case round =>
    obtain ⟨k, hk, rfl, kb⟩ := hrel
    by_cases hlt : k < n
    · have hlen := h.len
      obtain ⟨b, o', rfl, _, _⟩ := h.base evc_len (by decide) (by omega)
      obtain ⟨b', o'', rfl, _, _⟩ := h'.base evc_len (by decide) (by omega)
      obtain ⟨x, hx⟩ : ∃ x, l[k]? = some x := ⟨l[k]'(by omega), List.getElem?_eq_getElem (i := k) _⟩
      have r1 := range_sl evc_len (h.below kb) hx
      have r2 := range_sl evc_len (h'.below kb) hx
      have hne := neEv x
      have hi := info_Ev x
      have b0 : (0 : Int) ≤ (k : Int) := by omega
      have b1 : (k : Int) < (n : Int) := by omega
      clear h h' hx hlen
      generalize evc x = cs at *
      go_wp2_with fail
      obtain ⟨W3, hW3⟩ : ∃ W3, W3 = wr := ⟨_, rfl⟩
      subst hW3
      have hX := @Ext.cell W3
      refine wp_region_noPanic ?_
      refine wp_region_plan (fun w' => ∃ x : Ext W3, w' = x.w) [] [0, 1, 2, 3, 4, 5, 6, 7, 8] (by kernel_rfl) (by kernel_rfl) (by kernel_rfl) (fun _ _ _ _ _ h => h) ⟨⟨_, (brefl W3).drew⟩, rfl⟩ ?_
      refine wpPlan_last ?_
      simp only [pickOps, List.getElem?_cons_succ, List.getElem?_cons_zero, Option.elim_some]
      go_big_quiet_step (fail)
      go_big_quiet_step (fail)
      go_big_quiet_step (fail)
      refine wpQuiet_load_mid rfl 45 (.tmp 19) rfl b (o' + k * 15) rfl cs _ (range_ext r1) Try.underlying45 rfl hi ?_; simp only [Act.put, List.setIfInBounds_toArray, List.set_cons_succ, List.set_cons_zero]
      go_big_quiet_step (fail)
      go_big_quiet_step (fail)
      go_big_quiet_step (fail)
      refine wpQuiet_load_mid rfl 45 (.tmp 23) rfl b' (o'' + k * 15) rfl cs _ (range_ext r2) Try.underlying45 rfl hi ?_; simp only [Act.put, List.setIfInBounds_toArray, List.set_cons_succ, List.set_cons_zero]
      go_big_quiet_step (fail)
      refine wpQuiet_nil ?_
      refine NoPanic.normal ?_
      clear hX
      go_wp2_with fail
      go_roundg (gk - 1)
      case measure => omega
      case rel => exact ⟨k + 1, by omega, by go_num, kb.drew⟩
    · have hge : ¬ ((k : Int) < (n : Int)) := by omega
      clear h h'
      go_wp2
      go_ret
      exact ⟨rfl, kb⟩

def aheadB (x y : Opp) : Bool := decide (0 ≤ x.fin ∧ x.fin < y.fr)
set_option maxHeartbeats 4000000 in
set_option maxRecDepth 100000 in
theorem ahead_any (x y : Opp) (w : World) : Calls Try.prog 16 #[.agg (opc x).toArray, .agg (opc y).toArray] w fun e w' => e = .returned (.bool (aheadB x y)) ∧ Below w.heap.size w w' := by
  obtain ⟨W2, hW2, B1, B2, kb⟩ : ∃ W2, (w.alloc (.cells (opc x).toArray 39)).alloc (.cells (opc y).toArray 39) = W2 ∧ Blk W2 w.heap.size 39 (opc x).toArray ∧ Blk W2 (w.heap.size + 1) 39 (opc y).toArray ∧ Below w.heap.size w W2 := ⟨_, rfl, (Blk.new _ _ _).alloc _, by have := Blk.new (w.alloc (.cells (opc x).toArray 39)) 39 (opc y).toArray; rwa [World.size_alloc] at this, bnew (bnew (brefl w) _) _⟩
  have c15 : W2.cell? ⟨w.heap.size, 15, none⟩ = some (.int .i64 x.fin) := B1.cell 15
  have d14 : W2.cell? ⟨w.heap.size + 1, 14, none⟩ = some (.int .i64 y.fr) := B2.cell 14
  have z1 := B1.lt
  have z2 := B2.lt
  clear B1 B2
  generalize opc x = ox at *
  generalize opc y = oy at *
  by_cases h1 : 0 ≤ x.fin
  · have t1 : decide (0 ≤ x.fin) = true := decide_eq_true h1
    by_cases h2 : x.fin < y.fr
    · have HR : Hid (aheadB x y = true) := decide_eq_true ⟨h1, h2⟩
      go_enter Try.func16, Try.ntmps16
      go_upto_region 1 with (fail)
      go_wp2_with fail
      go_ret
      exact ⟨by rw [HR.out]; rfl, kb⟩
    · have HR : Hid (aheadB x y = false) := decide_eq_false (by omega)
      have t2 : decide (x.fin < y.fr) = false := decide_eq_false h2
      clear h2
      go_enter Try.func16, Try.ntmps16
      go_upto_region 1 with (fail)
      go_wp2_with fail
      go_ret
      exact ⟨by rw [HR.out]; rfl, kb⟩
  · have HR : Hid (aheadB x y = false) := decide_eq_false (by omega)
    have t1 : decide (0 ≤ x.fin) = false := decide_eq_false h1
    clear h1
    go_enter Try.func16, Try.ntmps16
    go_upto_region 1 with (fail)
    go_wp2_with fail
    go_ret
    exact ⟨by rw [HR.out]; rfl, kb⟩
set_option maxHeartbeats 4000000 in
set_option maxRecDepth 100000 in
theorem rahead_any (x y : Opp) (w : World) : Calls Try.prog 17 #[.agg (opc x).toArray, .agg (opc y).toArray] w fun e w' => e = .returned (.bool (aheadB x y)) ∧ Below w.heap.size w w' := by
  obtain ⟨W2, hW2, B1, B2, kb⟩ : ∃ W2, (w.alloc (.cells (opc x).toArray 39)).alloc (.cells (opc y).toArray 39) = W2 ∧ Blk W2 w.heap.size 39 (opc x).toArray ∧ Blk W2 (w.heap.size + 1) 39 (opc y).toArray ∧ Below w.heap.size w W2 := ⟨_, rfl, (Blk.new _ _ _).alloc _, by have := Blk.new (w.alloc (.cells (opc x).toArray 39)) 39 (opc y).toArray; rwa [World.size_alloc] at this, bnew (bnew (brefl w) _) _⟩
  have c15 : W2.cell? ⟨w.heap.size, 15, none⟩ = some (.int .i64 x.fin) := B1.cell 15
  have d14 : W2.cell? ⟨w.heap.size + 1, 14, none⟩ = some (.int .i64 y.fr) := B2.cell 14
  have z1 := B1.lt
  have z2 := B2.lt
  clear B1 B2
  generalize opc x = ox at *
  generalize opc y = oy at *
  by_cases h1 : 0 ≤ x.fin
  · have t1 : decide (0 ≤ x.fin) = true := decide_eq_true h1
    by_cases h2 : x.fin < y.fr
    · have HR : Hid (aheadB x y = true) := decide_eq_true ⟨h1, h2⟩
      go_enter Try.func17, Try.ntmps17
      go_upto_region 1 with (fail)
      go_wp2_with fail
      go_ret
      exact ⟨by rw [HR.out]; rfl, kb⟩
    · have HR : Hid (aheadB x y = false) := decide_eq_false (by omega)
      have t2 : decide (x.fin < y.fr) = false := decide_eq_false h2
      clear h2
      go_enter Try.func17, Try.ntmps17
      go_upto_region 1 with (fail)
      go_wp2_with fail
      go_ret
      exact ⟨by rw [HR.out]; rfl, kb⟩
  · have HR : Hid (aheadB x y = false) := decide_eq_false (by omega)
    have t1 : decide (0 ≤ x.fin) = false := decide_eq_false h1
    clear h1
    go_enter Try.func17, Try.ntmps17
    go_upto_region 1 with (fail)
    go_wp2_with fail
    go_ret
    exact ⟨by rw [HR.out]; rfl, kb⟩

set_option maxHeartbeats 4000000 in
set_option maxRecDepth 100000 in
theorem histevents_long {w : World} {A : Option Addr} {n c : Nat} (x y : Opp) (hn : 60 < n) : Calls Try.prog 4 #[.slice A n c, .agg (opc x).toArray, .agg (opc y).toArray] w fun e w' => e = .returned (.bool true) ∧ Below w.heap.size w w' := by
  generalize opc x = ox
  generalize opc y = oy
  go_enter Try.func4, Try.ntmps4
  go_wp2_with (go_at_call 6; refine (lives14 _).mono ?_; rintro e w1 ⟨rfl, hb1⟩)
  go_ret
  exact ⟨rfl, bnext (bnew (bnew (brefl w) _) _) hb1⟩
set_option maxHeartbeats 4000000 in
set_option maxRecDepth 100000 in
theorem histevents_any {w : World} {A : Option Addr} {n c : Nat} {l : List Opp} (h : Sl opc w A n c l) (x y : Opp) : Calls Try.prog 4 #[.slice A n c, .agg (opc x).toArray, .agg (opc y).toArray] w fun e w' => e = .returned (.bool true) ∧ Below w.heap.size w w' := by
  by_cases hn0 : 60 < n
  · exact histevents_long x y hn0
  have hn : n ≤ 60 := by omega
  have hn1 : ¬ ((60 : Int) < (n : Int)) := by omega
  clear hn0
  obtain ⟨W2, hW2, B1, B2, hl, kb⟩ : ∃ W2, (w.alloc (.cells (opc x).toArray 39)).alloc (.cells (opc y).toArray 39) = W2 ∧ Blk W2 w.heap.size 39 (opc x).toArray ∧ Blk W2 (w.heap.size + 1) 39 (opc y).toArray ∧ Sl opc W2 A n c l ∧ Below w.heap.size w W2 := ⟨_, rfl, (Blk.new _ _ _).alloc _, by have := Blk.new (w.alloc (.cells (opc x).toArray 39)) 39 (opc y).toArray; rwa [World.size_alloc] at this, (h.alloc _).alloc _, bnew (bnew (brefl w) _) _⟩
  have r1 : W2.rangeAt w.heap.size 0 (opc x) := range_blk B1 0 rfl
  have r2 : W2.rangeAt (w.heap.size + 1) 0 (opc y) := range_blk B2 0 rfl
  have c15 : W2.cell? ⟨w.heap.size, 15, none⟩ = some (.int .i64 x.fin) := B1.cell 15
  have d14 : W2.cell? ⟨w.heap.size + 1, 14, none⟩ = some (.int .i64 y.fr) := B2.cell 14
  have hA1 := fun W => ahead_any x y W
  have hA2 := fun W => rahead_any x y W
  have i1 := info_O x
  have i2 := info_O y
  clear B1 B2 h
  generalize opc x = ox at *
  generalize opc y = oy at *
  generalize aheadB x y = ab at *
  go_enter Try.func4, Try.ntmps4
  go_upto_region 3 with (fail)
  clear hW2
  have hX := @Ext.cell W2
  have hzz0 := block_lt_of_cell c15
  have hzz1 := block_lt_of_cell d14
  refine wp_region_noPanic ?_
  refine wp_region_plan (fun w' => ∃ x : Ext W2, w' = x.w) [([0, 2], 1), ([], 3), ([], 4), ([5, 6, 7, 9, 10], 8), ([], 11), ([12, 13, 14], 15)] [16, 17] (by kernel_rfl) (by kernel_rfl) (by kernel_rfl) (fun _ _ _ _ _ h => h) ⟨⟨_, (brefl W2).drew⟩, rfl⟩ ?_
  refine wpPlan_cons ?_
  simp only [pickOps, List.getElem?_cons_succ, List.getElem?_cons_zero, Option.elim_some]
  repeat (go_big_quiet_step (fail))
  refine wpQuiet_nil ?_
  refine planAct_some (fun K hK => ?_)
  go_simp
  refine (of_any (hl.below (brefl W2).drew) (by omega)).mono ?_
  rintro e1 x1 ⟨S, A1, c1, hp, hs, rfl, own1, q1⟩; have m1 := bnext (brefl W2).drew q1; have s1 := Sl.of_own evc_len (by decide) own1; have HPS := Lib.hid (And.intro hp hs); clear hp hs own1
  go_wp2_with fail
  refine hK.out _ _ ⟨⟨_, m1⟩, rfl⟩ ?_
  clear hK K
  refine wpPlan_cons ?_
  simp only [pickOps, List.getElem?_cons_succ, List.getElem?_cons_zero, Option.elim_some]
  repeat (go_big_quiet_step (fail))
  refine wpQuiet_nil ?_
  refine planAct_some (fun K hK => ?_)
  go_simp
  refine (rof_any (hl.below m1) (by omega) HPS.out.1 HPS.out.2).mono ?_
  rintro e2 x2 ⟨A2, c2, rfl, own2, q2⟩; have m2 := bnext m1 q2; have s2 := Sl.of_own evc_len (by decide) own2; have s1 := s1.below q2; have hSn : S.length ≤ 1000 := (by rw [HPS.out.1.length_eq]; have := mks_len l n; omega); clear own2
  go_wp2_with fail
  refine hK.out _ _ ⟨⟨_, m2⟩, rfl⟩ ?_
  clear hK K
  refine wpPlan_cons ?_
  simp only [pickOps, List.getElem?_cons_succ, List.getElem?_cons_zero, Option.elim_some]
  repeat (go_big_quiet_step (fail))
  refine wpQuiet_nil ?_
  refine planAct_some (fun K hK => ?_)
  go_simp
  refine (evsame_eq s1 s2 (by omega)).mono ?_
  rintro e3 x3 ⟨rfl, q3⟩; have m3 := bnext m2 q3; clear s1 s2
  go_wp2_with fail
  refine hK.out _ _ ⟨⟨_, m3⟩, rfl⟩ ?_
  clear hK K
  refine wpPlan_cons ?_
  simp only [pickOps, List.getElem?_cons_succ, List.getElem?_cons_zero, Option.elim_some]
  go_big_quiet_step (fail)
  refine wpQuiet_load_mid rfl 39 (.tmp 4) rfl (w.heap.size) 0 rfl ox _ (range_ext r1) Try.underlying39 rfl i1 ?_; simp only [Act.put, List.setIfInBounds_toArray, List.set_cons_succ, List.set_cons_zero]
  refine wpQuiet_load_mid rfl 39 (.tmp 5) rfl (w.heap.size + 1) 0 rfl oy _ (range_ext r2) Try.underlying39 rfl i2 ?_; simp only [Act.put, List.setIfInBounds_toArray, List.set_cons_succ, List.set_cons_zero]
  refine wpQuiet_load_mid rfl 39 (.tmp 4) rfl (w.heap.size) 0 rfl ox _ (range_ext r1) Try.underlying39 rfl i1 ?_; simp only [Act.put, List.setIfInBounds_toArray, List.set_cons_succ, List.set_cons_zero]
  refine wpQuiet_load_mid rfl 39 (.tmp 5) rfl (w.heap.size + 1) 0 rfl oy _ (range_ext r2) Try.underlying39 rfl i2 ?_; simp only [Act.put, List.setIfInBounds_toArray, List.set_cons_succ, List.set_cons_zero]
  refine wpQuiet_nil ?_
  refine planAct_some (fun K hK => ?_)
  go_simp
  refine (hA1 _).mono ?_
  rintro e4 x4 ⟨rfl, q4⟩; have m4 := bnext m3 q4
  go_wp2_with fail
  refine hK.out _ _ ⟨⟨_, m4⟩, rfl⟩ ?_
  clear hK K
  refine wpPlan_cons ?_
  simp only [pickOps, List.getElem?_cons_succ, List.getElem?_cons_zero, Option.elim_some]
  repeat (go_big_quiet_step (fail))
  refine wpQuiet_nil ?_
  refine planAct_some (fun K hK => ?_)
  go_simp
  refine (hA2 _).mono ?_
  rintro e5 x5 ⟨rfl, q5⟩; have m5 := bnext m4 q5
  go_wp2_with fail
  refine hK.out _ _ ⟨⟨_, m5⟩, rfl⟩ ?_
  clear hK K
  refine wpPlan_cons ?_
  simp only [pickOps, List.getElem?_cons_succ, List.getElem?_cons_zero, Option.elim_some]
  repeat (go_big_quiet_step (fail))
  refine wpQuiet_nil ?_
  refine planAct_some (fun K hK => ?_)
  go_simp
  refine (lives14 _).mono ?_
  rintro e6 x6 ⟨rfl, q6⟩; have m6 := bnext m5 q6
  go_wp2_with fail
  refine hK.out _ _ ⟨⟨_, m6⟩, rfl⟩ ?_
  clear hK K
  refine wpPlan_last ?_
  simp only [pickOps, List.getElem?_cons_succ, List.getElem?_cons_zero, Option.elim_some]
  repeat (go_big_quiet_step (fail))
  refine wpQuiet_nil ?_
  refine NoPanic.normal ?_
  clear hX hzz0 hzz1
  go_wp2_with fail
  go_ret
  exact ⟨rfl, bnext kb m6⟩
end Go.Proofs.Ytkcilmnmbfbogaa
