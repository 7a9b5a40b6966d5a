/- Scripts: the law PurgeWeaves. -/
import Derived.Test.YtijffncgokcidaaPurgeO
import Derived.Test.YtijffncgokcidaaPurgeRB
namespace Go.Proofs.Ytijffncgokcidaa
set_option linter.unusedVariables false
set_option linter.unusedSimpArgs false
open Go.RowKit

theorem wE_le (c c2 : Cf) (es es2 : List En) (lv : Int) (al : List Int) : (wE c c2 es es2 lv al).length ≤ 2 * es.length + es2.length := by
  unfold wE
  split
  · unfold wvE
    have h1 := mg_le al (es.filter fun e => stTo c lv e.th) (es2.filter fun e => stAb c lv e.th)
    have h2 := List.length_filter_le (fun e : En => stTo c lv e.th) es
    have h3 := List.length_filter_le (fun e : En => stAb c lv e.th) es2
    omega
  · have h2 := List.length_filter_le (fun e : En => stTo c lv e.th) es
    omega
theorem rweave_any {w : World} {c c2 : Cf} {us us2 : List Value} {ps ps2 : List (List CV)} {EA EA2 AA : Option Addr} {en ec en2 ec2 an ad : Nat} {es es2 : List En} {al : List Int} (hP : PIn (fun _ => False) w us ps) (hE : Sl enc_ w EA en ec es) (hP2 : PIn (fun _ => False) w us2 ps2) (hE2 : Sl enc_ w EA2 en2 ec2 es2) (hAl : Sl itc w AA an ad al) (hen : en ≤ 1000000) (hen2 : en2 ≤ 1000000) (han : an ≤ 1000000) (lv : Int) :
    Calls Try.prog 15 #[.agg (scc c us (.slice EA en ec)).toArray, .agg (scc c2 us2 (.slice EA2 en2 ec2)).toArray, .int .i64 lv, .slice AA an ad] w fun e w' => ∃ us' A m d, e = .returned (.agg (scc c us' (.slice A m d)).toArray) ∧ PIn (fun _ => False) w' us' (wP c c2 ps ps2 lv) ∧ Sl enc_ w' A m d (wE c c2 es es2 lv al) ∧ Below w.heap.size w w' := by
  unfold wP wE
  by_cases hc : c = c2
  · rw [if_pos hc, if_pos hc]
    subst hc
    exact rweave_b hP hE hP2 hE2 hAl hen hen2 han lv
  · rw [if_neg hc, if_neg hc]
    exact rweave_a hP hE hP2 hE2 hAl hen hen2 han lv hc
set_option maxHeartbeats 4000000 in
set_option maxRecDepth 100000 in
theorem weaves_x {w : World} {c c2 : Cf} {us us2 : List Value} {ps ps2 : List (List CV)} {EA EA2 AA : Option Addr} {en ec en2 ec2 an ad : Nat} (hP : PIn (fun _ => False) w us ps) (hP2 : PIn (fun _ => False) w us2 ps2) (lv : Int) (hg : 2000 < en) :
    Calls Try.prog 4 #[.agg (scc c us (.slice EA en ec)).toArray, .agg (hic c2 us2 (.slice EA2 en2 ec2) lv (.slice AA an ad)).toArray] w fun e w' => e = .returned (.bool true) ∧ Below w.heap.size w w' := by
  have h8 := hP.u8
  have h82 := hP2.u8
  have hi0 := info_scc (c := c) (us := us) (ev := .slice EA en ec) h8
  have hi1 : (Try.prog.info? 29).map (·.size) = some (scc c2 us2 (.slice EA2 en2 ec2)).length := by rw [scc_len h82]; kernel_rfl
  go_enter Try.func4, Try.ntmps4
  go_upto_region 1 with (fail)
  obtain ⟨W0, hW0, B0, B1, kb⟩ : ∃ W0, (w.alloc (.cells (scc c us (.slice EA en ec)).toArray 29)).alloc (.cells (hic c2 us2 (.slice EA2 en2 ec2) lv (.slice AA an ad)).toArray 38) = W0 ∧ Blk W0 w.heap.size 29 (scc c us (.slice EA en ec)).toArray ∧ Blk W0 (w.heap.size + 1) 38 (hic c2 us2 (.slice EA2 en2 ec2) lv (.slice AA an ad)).toArray ∧ Below w.heap.size w W0 := ⟨_, rfl, (Blk.new _ _ _).alloc _, by have := Blk.new (w.alloc (.cells (scc c us (.slice EA en ec)).toArray 29)) 38 (hic c2 us2 (.slice EA2 en2 ec2) lv (.slice AA an ad)).toArray; rwa [World.size_alloc] at this, bnew (bnew (brefl w) _) _⟩
  rw [hW0]
  clear hW0
  generalize Value.agg (scc c us (.slice EA en ec)).toArray = V0
  generalize Value.agg (hic c2 us2 (.slice EA2 en2 ec2) lv (.slice AA an ad)).toArray = V1
  have hgr := great_any (c := c) (A := EA) (n := en) (d := ec) (w := W0) h8
  rw [decide_eq_true (by omega)] at hgr
  clear h8 h82 hg
  have tok1 : True := trivial; have tok2 : True := trivial; have tok3 : True := trivial; have tok4 : True := trivial
  go_wp2_with (first | (have _t := tok1; refine wpList_load_row (o := ⟨some 5, _, _, _, _, _⟩) rfl 29 (.tmp 2) rfl w.heap.size rfl 29 _ _ _ B0 Try.underlying29 rfl hi0 ?_; clear tok1 _t) | (have _t := tok2; go_at_call 6; refine hgr.mono ?_; rintro e wa ⟨rfl, hba⟩; clear tok2 _t) | (have _t := tok3; go_at_call 7; refine (lives19 _).mono ?_; rintro e wl ⟨rfl, hbl⟩; clear tok3 _t))
  go_ret
  exact ⟨rfl, bnext (bnext kb hba) hbl⟩
set_option maxHeartbeats 4000000 in
set_option maxRecDepth 100000 in
theorem weaves_y {w : World} {c c2 : Cf} {us us2 : List Value} {ps ps2 : List (List CV)} {EA EA2 AA : Option Addr} {en ec en2 ec2 an ad : Nat} (hP : PIn (fun _ => False) w us ps) (hP2 : PIn (fun _ => False) w us2 ps2) (lv : Int) (hg0 : en ≤ 2000) (hg : 2000 < en2) :
    Calls Try.prog 4 #[.agg (scc c us (.slice EA en ec)).toArray, .agg (hic c2 us2 (.slice EA2 en2 ec2) lv (.slice AA an ad)).toArray] w fun e w' => e = .returned (.bool true) ∧ Below w.heap.size w w' := by
  have h8 := hP.u8
  have h82 := hP2.u8
  have hi0 := info_scc (c := c) (us := us) (ev := .slice EA en ec) h8
  have hi1 : (Try.prog.info? 29).map (·.size) = some (scc c2 us2 (.slice EA2 en2 ec2)).length := by rw [scc_len h82]; kernel_rfl
  go_enter Try.func4, Try.ntmps4
  go_upto_region 1 with (fail)
  obtain ⟨W0, hW0, B0, B1, kb⟩ : ∃ W0, (w.alloc (.cells (scc c us (.slice EA en ec)).toArray 29)).alloc (.cells (hic c2 us2 (.slice EA2 en2 ec2) lv (.slice AA an ad)).toArray 38) = W0 ∧ Blk W0 w.heap.size 29 (scc c us (.slice EA en ec)).toArray ∧ Blk W0 (w.heap.size + 1) 38 (hic c2 us2 (.slice EA2 en2 ec2) lv (.slice AA an ad)).toArray ∧ Below w.heap.size w W0 := ⟨_, rfl, (Blk.new _ _ _).alloc _, by have := Blk.new (w.alloc (.cells (scc c us (.slice EA en ec)).toArray 29)) 38 (hic c2 us2 (.slice EA2 en2 ec2) lv (.slice AA an ad)).toArray; rwa [World.size_alloc] at this, bnew (bnew (brefl w) _) _⟩
  rw [hW0]
  clear hW0
  generalize Value.agg (scc c us (.slice EA en ec)).toArray = V0
  generalize Value.agg (hic c2 us2 (.slice EA2 en2 ec2) lv (.slice AA an ad)).toArray = V1
  have hgr := great_any (c := c) (A := EA) (n := en) (d := ec) (w := W0) h8
  rw [decide_eq_false (by omega)] at hgr
  have hgr2 := fun W => great_any (c := c2) (A := EA2) (n := en2) (d := ec2) (w := W) h82
  simp only [decide_eq_true (show (2000 : Int) < (en2 : Int) by omega)] at hgr2
  clear h8 h82 hg hg0
  have tok1 : True := trivial; have tok2 : True := trivial; have tok3 : True := trivial; have tok4 : True := trivial
  have tok5 : True := trivial
  go_wp2_with (first | (have _t := tok1; refine wpList_load_row (o := ⟨some 5, _, _, _, _, _⟩) rfl 29 (.tmp 2) rfl w.heap.size rfl 29 _ _ _ B0 Try.underlying29 rfl hi0 ?_; clear tok1 _t) | (have _t := tok2; go_at_call 6; refine hgr.mono ?_; rintro e wa ⟨rfl, hba⟩; have r1 := hic_rg (B1.below_ hba); clear tok2 _t) | (have _t := tok3; refine wpList_load_mid_g (op := ⟨some 9, _, _, _, _, _⟩) rfl 29 (.tmp 8) rfl (w.heap.size + 1) 0 rfl (scc c2 us2 (.slice EA2 en2 ec2)) _ r1 Try.underlying29 rfl hi1 ?_; clear tok3 _t) | (have _t := tok4; go_at_call 6; refine (hgr2 _).mono ?_; rintro e wc ⟨rfl, hbc⟩; clear tok4 _t) | (have _t := tok5; go_at_call 7; refine (lives19 _).mono ?_; rintro e wl ⟨rfl, hbl⟩; clear tok5 _t))
  go_ret
  exact ⟨rfl, bnext (bnext (bnext kb hba) hbc) hbl⟩
set_option maxHeartbeats 4000000 in
set_option maxRecDepth 100000 in
theorem weaves_z {w : World} {c c2 : Cf} {us us2 : List Value} {ps ps2 : List (List CV)} {EA EA2 AA : Option Addr} {en ec en2 ec2 an ad : Nat} (hP : PIn (fun _ => False) w us ps) (hP2 : PIn (fun _ => False) w us2 ps2) (lv : Int) (hg0 : en ≤ 2000) (hg1 : en2 ≤ 2000) (hg : 2000 < an) :
    Calls Try.prog 4 #[.agg (scc c us (.slice EA en ec)).toArray, .agg (hic c2 us2 (.slice EA2 en2 ec2) lv (.slice AA an ad)).toArray] w fun e w' => e = .returned (.bool true) ∧ Below w.heap.size w w' := by
  have h8 := hP.u8
  have h82 := hP2.u8
  have hi0 := info_scc (c := c) (us := us) (ev := .slice EA en ec) h8
  have hi1 : (Try.prog.info? 29).map (·.size) = some (scc c2 us2 (.slice EA2 en2 ec2)).length := by rw [scc_len h82]; kernel_rfl
  go_enter Try.func4, Try.ntmps4
  go_upto_region 1 with (fail)
  obtain ⟨W0, hW0, B0, B1, kb⟩ : ∃ W0, (w.alloc (.cells (scc c us (.slice EA en ec)).toArray 29)).alloc (.cells (hic c2 us2 (.slice EA2 en2 ec2) lv (.slice AA an ad)).toArray 38) = W0 ∧ Blk W0 w.heap.size 29 (scc c us (.slice EA en ec)).toArray ∧ Blk W0 (w.heap.size + 1) 38 (hic c2 us2 (.slice EA2 en2 ec2) lv (.slice AA an ad)).toArray ∧ Below w.heap.size w W0 := ⟨_, rfl, (Blk.new _ _ _).alloc _, by have := Blk.new (w.alloc (.cells (scc c us (.slice EA en ec)).toArray 29)) 38 (hic c2 us2 (.slice EA2 en2 ec2) lv (.slice AA an ad)).toArray; rwa [World.size_alloc] at this, bnew (bnew (brefl w) _) _⟩
  rw [hW0]
  clear hW0
  generalize Value.agg (scc c us (.slice EA en ec)).toArray = V0
  generalize Value.agg (hic c2 us2 (.slice EA2 en2 ec2) lv (.slice AA an ad)).toArray = V1
  have hgr := great_any (c := c) (A := EA) (n := en) (d := ec) (w := W0) h8
  rw [decide_eq_false (by omega)] at hgr
  have hgr2 := fun W => great_any (c := c2) (A := EA2) (n := en2) (d := ec2) (w := W) h82
  simp only [decide_eq_false (show ¬ (2000 : Int) < (en2 : Int) by omega)] at hgr2
  have h24 := fun W h => hic_at (W := W) (q := w.heap.size + 1) (c := c2) (us := us2) (ev := .slice EA2 en2 ec2) (lv := lv) (av := .slice AA an ad) h82 h
  clear h8 h82 hg0 hg1
  have tok1 : True := trivial; have tok2 : True := trivial; have tok3 : True := trivial; have tok4 : True := trivial
  have tok5 : True := trivial
  go_wp2_with (first | (have _t := tok1; refine wpList_load_row (o := ⟨some 5, _, _, _, _, _⟩) rfl 29 (.tmp 2) rfl w.heap.size rfl 29 _ _ _ B0 Try.underlying29 rfl hi0 ?_; clear tok1 _t) | (have _t := tok2; go_at_call 6; refine hgr.mono ?_; rintro e wa ⟨rfl, hba⟩; have B1a := B1.below_ hba; have r1 := hic_rg B1a; clear tok2 _t) | (have _t := tok3; refine wpList_load_mid_g (op := ⟨some 9, _, _, _, _, _⟩) rfl 29 (.tmp 8) rfl (w.heap.size + 1) 0 rfl (scc c2 us2 (.slice EA2 en2 ec2)) _ r1 Try.underlying29 rfl hi1 ?_; clear tok3 _t) | (have _t := tok4; go_at_call 6; refine (hgr2 _).mono ?_; rintro e wc ⟨rfl, hbc⟩; have c24 := h24 _ (B1a.below_ hbc); have z24 := (B1a.below_ hbc).lt; clear h24; clear tok4 _t) | (have _t := tok5; go_at_call 7; refine (lives19 _).mono ?_; rintro e wl ⟨rfl, hbl⟩; clear tok5 _t))
  go_ret
  exact ⟨rfl, bnext (bnext (bnext kb hba) hbc) hbl⟩
set_option maxHeartbeats 4000000 in
set_option maxRecDepth 100000 in
theorem weaves_m {w : World} {c c2 : Cf} {us us2 : List Value} {ps ps2 : List (List CV)} {EA EA2 AA : Option Addr} {en ec en2 ec2 an ad : Nat} {es es2 : List En} {al : List Int} (hP : PIn (fun _ => False) w us ps) (hE : Sl enc_ w EA en ec es) (hP2 : PIn (fun _ => False) w us2 ps2) (hE2 : Sl enc_ w EA2 en2 ec2 es2) (hAl : Sl itc w AA an ad al) (hre : ∀ l, l ∈ ps → l.length * 56 ≤ 140737488351232) (hre2 : ∀ l, l ∈ ps2 → l.length * 56 ≤ 140737488351232) (lv : Int) (hg0 : en ≤ 2000) (hg1 : en2 ≤ 2000) (hg : an ≤ 2000) :
    Calls Try.prog 4 #[.agg (scc c us (.slice EA en ec)).toArray, .agg (hic c2 us2 (.slice EA2 en2 ec2) lv (.slice AA an ad)).toArray] w fun e w' => e = .returned (.bool true) ∧ Below w.heap.size w w' := by
  have h8 := hP.u8
  have h82 := hP2.u8
  have hi0 := info_scc (c := c) (us := us) (ev := .slice EA en ec) h8
  have hi1 : (Try.prog.info? 29).map (·.size) = some (scc c2 us2 (.slice EA2 en2 ec2)).length := by rw [scc_len h82]; kernel_rfl
  go_enter Try.func4, Try.ntmps4
  go_upto_region 1 with (fail)
  obtain ⟨W0, hW0, B0, B1, kb⟩ : ∃ W0, (w.alloc (.cells (scc c us (.slice EA en ec)).toArray 29)).alloc (.cells (hic c2 us2 (.slice EA2 en2 ec2) lv (.slice AA an ad)).toArray 38) = W0 ∧ Blk W0 w.heap.size 29 (scc c us (.slice EA en ec)).toArray ∧ Blk W0 (w.heap.size + 1) 38 (hic c2 us2 (.slice EA2 en2 ec2) lv (.slice AA an ad)).toArray ∧ Below w.heap.size w W0 := ⟨_, rfl, (Blk.new _ _ _).alloc _, by have := Blk.new (w.alloc (.cells (scc c us (.slice EA en ec)).toArray 29)) 38 (hic c2 us2 (.slice EA2 en2 ec2) lv (.slice AA an ad)).toArray; rwa [World.size_alloc] at this, bnew (bnew (brefl w) _) _⟩
  rw [hW0]
  clear hW0
  generalize Value.agg (scc c us (.slice EA en ec)).toArray = V0
  generalize Value.agg (hic c2 us2 (.slice EA2 en2 ec2) lv (.slice AA an ad)).toArray = V1
  have hgr := great_any (c := c) (A := EA) (n := en) (d := ec) (w := W0) h8
  rw [decide_eq_false (by omega)] at hgr
  have hgr2 := fun W => great_any (c := c2) (A := EA2) (n := en2) (d := ec2) (w := W) h82
  simp only [decide_eq_false (show ¬ (2000 : Int) < (en2 : Int) by omega)] at hgr2
  have h24 := fun W h => hic_at (W := W) (q := w.heap.size + 1) (c := c2) (us := us2) (ev := .slice EA2 en2 ec2) (lv := lv) (av := .slice AA an ad) h82 h
  have han0 : ¬ ((2000 : Int) < (an : Int)) := by omega
  have han1 : ¬ (2000 < an) := by omega
  have tok1 : True := trivial; have tok2 : True := trivial; have tok3 : True := trivial; have tok4 : True := trivial
  go_upto_region 3 with (first | (have _t := tok1; refine wpList_load_row (o := ⟨some 5, _, _, _, _, _⟩) rfl 29 (.tmp 2) rfl w.heap.size rfl 29 _ _ _ B0 Try.underlying29 rfl hi0 ?_; clear tok1 _t) | (have _t := tok2; go_at_call 6; refine hgr.mono ?_; rintro e wa ⟨rfl, hba⟩; have B1a := B1.below_ hba; have r1 := hic_rg B1a; clear tok2 _t) | (have _t := tok3; refine wpList_load_mid_g (op := ⟨some 9, _, _, _, _, _⟩) rfl 29 (.tmp 8) rfl (w.heap.size + 1) 0 rfl (scc c2 us2 (.slice EA2 en2 ec2)) _ r1 Try.underlying29 rfl hi1 ?_; clear tok3 _t) | (have _t := tok4; go_at_call 6; refine (hgr2 _).mono ?_; rintro e wc ⟨rfl, hbc⟩; have c24 := h24 _ (B1a.below_ hbc); have z24 := (B1a.below_ hbc).lt; clear h24; clear tok4 _t))
  have hb := bnext hba hbc
  have C0 := B0.below_ hb
  have C1 := B1.below_ hb
  have kb1 := bnext kb hb
  have clv := hic_lv h82 C1
  have c24' := hic_at h82 C1
  clear B0 B1 B1a hba hbc hgr hgr2 kb hb r1 han0 han1 c24 z24
  have hen1 : en ≤ 1000000 := by omega
  have hen3 : en2 ≤ 1000000 := by omega
  have han3 : an ≤ 1000000 := by omega
  have r1 := hic_rg C1
  obtain ⟨W1, hW1⟩ : ∃ W1, W1 = wc := ⟨_, rfl⟩
  subst hW1
  have hX := @Ext.cell W1
  have hzz0 := block_lt_of_cell clv
  have hzz1 := block_lt_of_cell c24'
  refine wp_region_noPanic ?_
  refine wp_region_plan (fun w' => ∃ x : Ext W1, w' = x.w) [([0, 1, 2, 3, 4, 5, 6, 8, 9, 10, 11, 12, 13, 14], 7), ([], 15), ([], 16), ([17], 18)] [19, 20] (by kernel_rfl) (by kernel_rfl) (by kernel_rfl) (fun _ _ _ _ _ h => h) ⟨⟨_, (brefl W1).drew⟩, rfl⟩ ?_
  refine wpPlan_cons ?_
  simp only [pickOps, List.getElem?_cons_succ, List.getElem?_cons_zero, Option.elim_some]
  refine wpQuiet_load_row_g rfl 29 (.tmp 2) rfl w.heap.size rfl 29 _ _ (blk_ext C0) Try.underlying29 rfl hi0 ?_; simp only [Act.put, List.setIfInBounds_toArray, List.set_cons_succ, List.set_cons_zero]
  go_big_quiet_step (fail)
  refine wpQuiet_load_mid rfl 29 (.tmp 20) rfl (w.heap.size + 1) 0 rfl (scc c2 us2 (.slice EA2 en2 ec2)) _ (range_ext r1) Try.underlying29 rfl hi1 ?_; simp only [Act.put, List.setIfInBounds_toArray, List.set_cons_succ, List.set_cons_zero]
  go_big_quiet_step (fail)
  go_big_quiet_step (fail)
  go_big_quiet_step (fail)
  go_big_quiet_step (fail)
  refine wpQuiet_load_row_g rfl 29 (.tmp 2) rfl w.heap.size rfl 29 _ _ (blk_ext C0) Try.underlying29 rfl hi0 ?_; simp only [Act.put, List.setIfInBounds_toArray, List.set_cons_succ, List.set_cons_zero]
  go_big_quiet_step (fail)
  refine wpQuiet_load_mid rfl 29 (.tmp 28) rfl (w.heap.size + 1) 0 rfl (scc c2 us2 (.slice EA2 en2 ec2)) _ (range_ext r1) Try.underlying29 rfl hi1 ?_; simp only [Act.put, List.setIfInBounds_toArray, List.set_cons_succ, List.set_cons_zero]
  go_big_quiet_step (fail)
  go_big_quiet_step (fail)
  go_big_quiet_step (fail)
  go_big_quiet_step (fail)
  refine wpQuiet_nil ?_
  refine planAct_some (fun K hK => ?_)
  go_simp
  refine (weave_any (c := c) (c2 := c2) (hP.below kb1.drew) (hE.below kb1.drew) (hP2.below kb1.drew) (hE2.below kb1.drew) (hAl.below kb1.drew) hen1 hen3 han3 hre hre2 lv).mono ?_
  rintro e x1 ⟨u1, A1, m1, d1, rfl, PA, SA, q1⟩
  go_wp2_with fail
  refine hK.out _ _ ⟨⟨_, (bnext (brefl W1).drew q1)⟩, rfl⟩ ?_
  clear hK K
  refine wpPlan_cons ?_
  simp only [pickOps, List.getElem?_cons_succ, List.getElem?_cons_zero, Option.elim_some]
  repeat (go_big_quiet_step (fail))
  refine wpQuiet_nil ?_
  refine planAct_some (fun K hK => ?_)
  go_simp
  refine (rweave_any (c := c) (c2 := c2) (hP.below (bnext kb1.drew q1)) (hE.below (bnext kb1.drew q1)) (hP2.below (bnext kb1.drew q1)) (hE2.below (bnext kb1.drew q1)) (hAl.below (bnext kb1.drew q1)) hen1 hen3 han3 lv).mono ?_
  rintro e x2 ⟨u2, A2, m2, d2, rfl, PB, SB, q2⟩; have hmw : m1 ≤ 1000000 := (by have h1 := SA.len; have h2 := wE_le c c2 es es2 lv al; have h3 := hE.len; have h4 := hE2.len; omega)
  go_wp2_with fail
  refine hK.out _ _ ⟨⟨_, (bnext (bnext (brefl W1).drew q1) q2)⟩, rfl⟩ ?_
  clear hK K
  refine wpPlan_cons ?_
  simp only [pickOps, List.getElem?_cons_succ, List.getElem?_cons_zero, Option.elim_some]
  repeat (go_big_quiet_step (fail))
  refine wpQuiet_nil ?_
  refine planAct_some (fun K hK => ?_)
  go_simp
  refine (same_self (PA.below q2) (SA.below q2) PB SB hmw (wP_re hre hre2)).mono ?_
  rintro e x3 ⟨rfl, q3⟩
  go_wp2_with fail
  refine hK.out _ _ ⟨⟨_, (bnext (bnext (bnext (brefl W1).drew q1) q2) q3)⟩, rfl⟩ ?_
  clear hK K
  refine wpPlan_cons ?_
  simp only [pickOps, List.getElem?_cons_succ, List.getElem?_cons_zero, Option.elim_some]
  repeat (go_big_quiet_step (fail))
  refine wpQuiet_nil ?_
  refine planAct_some (fun K hK => ?_)
  go_simp
  refine (lives19 _).mono ?_
  rintro e x4 ⟨rfl, q4⟩
  go_wp2_with fail
  refine hK.out _ _ ⟨⟨_, (bnext (bnext (bnext (bnext (brefl W1).drew q1) q2) q3) q4)⟩, rfl⟩ ?_
  clear hK K
  refine wpPlan_last ?_
  simp only [pickOps, List.getElem?_cons_succ, List.getElem?_cons_zero, Option.elim_some]
  repeat (go_big_quiet_step (fail))
  refine wpQuiet_nil ?_
  refine NoPanic.normal ?_
  clear hX hzz0 hzz1
  go_wp2_with fail
  go_ret
  exact ⟨rfl, (bnext (bnext (bnext (bnext kb1.drew q1) q2) q3) q4)⟩
theorem weaves_any {w : World} {c c2 : Cf} {us us2 : List Value} {ps ps2 : List (List CV)} {EA EA2 AA : Option Addr} {en ec en2 ec2 an ad : Nat} {es es2 : List En} {al : List Int} (hP : PIn (fun _ => False) w us ps) (hE : Sl enc_ w EA en ec es) (hP2 : PIn (fun _ => False) w us2 ps2) (hE2 : Sl enc_ w EA2 en2 ec2 es2) (hAl : Sl itc w AA an ad al) (hre : ∀ l, l ∈ ps → l.length * 56 ≤ 140737488351232) (hre2 : ∀ l, l ∈ ps2 → l.length * 56 ≤ 140737488351232) (lv : Int) :
    Calls Try.prog 4 #[.agg (scc c us (.slice EA en ec)).toArray, .agg (hic c2 us2 (.slice EA2 en2 ec2) lv (.slice AA an ad)).toArray] w fun e w' => e = .returned (.bool true) ∧ Below w.heap.size w w' := by
  by_cases h1 : 2000 < en
  · exact weaves_x hP hP2 lv h1
  · by_cases h2 : 2000 < en2
    · exact weaves_y hP hP2 lv (by omega) h2
    · by_cases h3 : 2000 < an
      · exact weaves_z hP hP2 lv (by omega) (by omega) h3
      · exact weaves_m hP hE hP2 hE2 hAl hre hre2 lv (by omega) (by omega) (by omega)
end Go.Proofs.Ytijffncgokcidaa
