/- Scripts: the law PurgeKeeps. -/
import Derived.Test.YtijffncgokcidaaPurgeO
namespace Go.Proofs.Ytijffncgokcidaa
set_option linter.unusedVariables false
set_option linter.unusedSimpArgs false
open Go.RowKit

theorem field_scc {w : World} (c : Cf) {us : List Value} (ev : Value) (h1 : ev.oneCell' = true) (h : us.length = 8) : (Instr.field 29 (.agg (scc c us ev).toArray) 2).run Try.prog w = .ok ev w := by
  obtain ⟨a0, a1, a2, a3, a4, a5, a6, a7, rfl⟩ := vals8 h
  exact field_sc _ _ _ _ _ _ _ _ _ _ _ _ _ _ _ _ _ _ _ _ _ _ ev h1 w
theorem wE_le (c c2 : Cf) (es es2 : List En) (lv : Int) (al : List Int) : (wE c c2 es es2 lv al).length ≤ 2 * es.length + es2.length := by
  unfold wE
  split
  · unfold wvE
    have h1 := mg_le al (es.filter fun e => stTo c lv e.th) (es2.filter fun e => stAb c lv e.th)
    have h2 := List.length_filter_le (fun e : En => stTo c lv e.th) es
    have h3 := List.length_filter_le (fun e : En => stAb c lv e.th) es2
    omega
  · have h2 := List.length_filter_le (fun e : En => stTo c lv e.th) es
    omega
theorem sum_en {w w' w2 : World} {c : Cf} {lv : Int} {A A' B : Option Addr} {ma da mf df en ec : Nat} {es : List En} (h : Sl enc_ w A ma da (es.filter fun e => stTo c lv e.th)) (h' : Sl enc_ w' A' mf df (es.filter fun e => stAb c lv e.th)) (hE : Sl enc_ w2 B en ec es) : ma + mf = en := by
  have h1 := h.len
  have h2 := h'.len
  have h3 := hE.len
  have h4 := filt_both c lv es
  omega
theorem filt_all {st : Int → Bool} (h : ∀ t, st t = true) (es : List En) : (es.filter fun e => st e.th) = es := by
  rw [List.filter_eq_self]
  intro e _
  exact h _
set_option maxHeartbeats 4000000 in
set_option maxRecDepth 100000 in
theorem keeps_m {w : World} {c c2 : Cf} {us us2 : List Value} {ps ps2 : List (List CV)} {EA EA2 AA : Option Addr} {en ec en2 ec2 an ad : Nat} {es es2 : List En} {al : List Int} (hP : PIn (fun _ => False) w us ps) (hE : Sl enc_ w EA en ec es) (hP2 : PIn (fun _ => False) w us2 ps2) (hE2 : Sl enc_ w EA2 en2 ec2 es2) (hAl : Sl itc w AA an ad al) (hre : ∀ l, l ∈ ps → l.length * 56 ≤ 140737488351232) (hre2 : ∀ l, l ∈ ps2 → l.length * 56 ≤ 140737488351232) (lv : Int) (hg0 : en ≤ 2000) (hg1 : en2 ≤ 2000) (hg : an ≤ 2000) (hlv : -9223372036854775808 ≤ lv) :
    Calls Try.prog 5 #[.agg (scc c us (.slice EA en ec)).toArray, .agg (hic c2 us2 (.slice EA2 en2 ec2) lv (.slice AA an ad)).toArray] w fun e w' => e = .returned (.bool true) ∧ Below w.heap.size w w' := by
  have h8 := hP.u8
  have h82 := hP2.u8
  have hi0 := info_scc (c := c) (us := us) (ev := .slice EA en ec) h8
  have hi1 : (Try.prog.info? 29).map (·.size) = some (scc c2 us2 (.slice EA2 en2 ec2)).length := by rw [scc_len h82]; kernel_rfl
  go_enter Try.func5, Try.ntmps5
  go_upto_region 1 with (fail)
  obtain ⟨W0, hW0, B0, B1, kb⟩ : ∃ W0, (w.alloc (.cells (scc c us (.slice EA en ec)).toArray 29)).alloc (.cells (hic c2 us2 (.slice EA2 en2 ec2) lv (.slice AA an ad)).toArray 38) = W0 ∧ Blk W0 w.heap.size 29 (scc c us (.slice EA en ec)).toArray ∧ Blk W0 (w.heap.size + 1) 38 (hic c2 us2 (.slice EA2 en2 ec2) lv (.slice AA an ad)).toArray ∧ Below w.heap.size w W0 := ⟨_, rfl, (Blk.new _ _ _).alloc _, by have := Blk.new (w.alloc (.cells (scc c us (.slice EA en ec)).toArray 29)) 38 (hic c2 us2 (.slice EA2 en2 ec2) lv (.slice AA an ad)).toArray; rwa [World.size_alloc] at this, bnew (bnew (brefl w) _) _⟩
  rw [hW0]
  clear hW0
  generalize Value.agg (scc c us (.slice EA en ec)).toArray = V0
  generalize Value.agg (hic c2 us2 (.slice EA2 en2 ec2) lv (.slice AA an ad)).toArray = V1
  have hgr := great_any (c := c) (A := EA) (n := en) (d := ec) (w := W0) h8
  rw [decide_eq_false (by omega)] at hgr
  have hgr2 := fun W => great_any (c := c2) (A := EA2) (n := en2) (d := ec2) (w := W) h82
  simp only [decide_eq_false (show ¬ (2000 : Int) < (en2 : Int) by omega)] at hgr2
  have h24 := fun W h => hic_at (W := W) (q := w.heap.size + 1) (c := c2) (us := us2) (ev := .slice EA2 en2 ec2) (lv := lv) (av := .slice AA an ad) h82 h
  have han0 : ¬ ((2000 : Int) < (an : Int)) := by omega
  have han1 : ¬ (2000 < an) := by omega
  have tok1 : True := trivial; have tok2 : True := trivial; have tok3 : True := trivial; have tok4 : True := trivial
  go_upto_region 3 with (first | (have _t := tok1; refine wpList_load_row (o := ⟨some 7, _, _, _, _, _⟩) rfl 29 (.tmp 2) rfl w.heap.size rfl 29 _ _ _ B0 Try.underlying29 rfl hi0 ?_; clear tok1 _t) | (have _t := tok2; go_at_call 6; refine hgr.mono ?_; rintro e wa ⟨rfl, hba⟩; have B1a := B1.below_ hba; have r1 := hic_rg B1a; clear tok2 _t) | (have _t := tok3; refine wpList_load_mid_g (op := ⟨some 11, _, _, _, _, _⟩) rfl 29 (.tmp 10) rfl (w.heap.size + 1) 0 rfl (scc c2 us2 (.slice EA2 en2 ec2)) _ r1 Try.underlying29 rfl hi1 ?_; clear tok3 _t) | (have _t := tok4; go_at_call 6; refine (hgr2 _).mono ?_; rintro e wc ⟨rfl, hbc⟩; have c24 := h24 _ (B1a.below_ hbc); have z24 := (B1a.below_ hbc).lt; clear h24; clear tok4 _t))
  have hb := bnext hba hbc
  have C0 := B0.below_ hb
  have C1 := B1.below_ hb
  have kb1 := bnext kb hb
  have clv := hic_lv h82 C1
  have c24' := hic_at h82 C1
  clear B0 B1 B1a hba hbc hgr hgr2 kb hb r1 han0 han1 c24 z24
  have hen1 : en ≤ 1000000 := by omega
  have hen3 : en2 ≤ 1000000 := by omega
  have han3 : an ≤ 1000000 := by omega
  have hz1 := C1.lt
  have hc1 := to_any (w := wc) (c := c) lv (hP.below kb1) (hE.below kb1) hen1 hre
  have tok1 : True := trivial; have tok2 : True := trivial; have tok3 : True := trivial
  go_upto_region 4 with (first | (have _t := tok1; refine wpList_load_row (o := ⟨some 21, _, _, _, _, _⟩) rfl 29 (.tmp 2) rfl w.heap.size rfl 29 _ _ _ C0 Try.underlying29 rfl hi0 ?_; clear tok1 _t) | (have _t := tok2; go_at_call 9; refine hc1.mono ?_; rintro e wa ⟨ua, Aa, ma, da, rfl, PA, SA, hba⟩; have hva := PA.u8; have hia := info_scc (c := c) (us := ua) (ev := .slice Aa ma da) hva; have holda : (scc cf0 nil8 (.slice none 0 0)).toArray.size = (scc c ua (.slice Aa ma da)).toArray.size := (by rw [List.size_toArray, List.size_toArray, scc_len hva, scc_len rfl]); have honea := scc_one (c := c) PA Aa ma da; clear hva tok2 _t) | (have _t := tok3; refine wpList_store_row (o := ⟨none, .store 29 (.tmp 5) (.tmp 24), _, _, _, _⟩) rfl 29 (.tmp 5) (.tmp 24) rfl wa.heap.size _ rfl rfl 29 _ (Blk.new wa _ _) hia holda honea ?_; clear tok3 _t))
  have kwa := bnext kb1 hba
  obtain ⟨W1, hW1, G0, G1, G3, kk1⟩ : ∃ W1, (wa.alloc (.cells #[.int .i64 0, .int .i64 0, .int .i64 0, .int .i64 0, .int .i64 0, .int .i64 0, .int .i64 0, .int .i64 0, .int .i64 0, .int .i64 0, .int .i64 0, .int .i64 0, .int .i64 0, .int .i64 0, .slice none 0 0, .slice none 0 0, .slice none 0 0, .slice none 0 0, .slice none 0 0, .slice none 0 0, .slice none 0 0, .slice none 0 0, .slice none 0 0] 29)).setRow wa.heap.size (scc c ua (.slice Aa ma da)).toArray = W1 ∧ Blk W1 w.heap.size 29 (scc c us (.slice EA en ec)).toArray ∧ Blk W1 (w.heap.size + 1) 38 (hic c2 us2 (.slice EA2 en2 ec2) lv (.slice AA an ad)).toArray ∧ Blk W1 wa.heap.size 29 (scc c ua (.slice Aa ma da)).toArray ∧ Keeps (fun b => wa.heap.size ≤ b) wa W1 := by
    have kr := keeps_row (wa.alloc (.cells #[.int .i64 0, .int .i64 0, .int .i64 0, .int .i64 0, .int .i64 0, .int .i64 0, .int .i64 0, .int .i64 0, .int .i64 0, .int .i64 0, .int .i64 0, .int .i64 0, .int .i64 0, .int .i64 0, .slice none 0 0, .slice none 0 0, .slice none 0 0, .slice none 0 0, .slice none 0 0, .slice none 0 0, .slice none 0 0, .slice none 0 0, .slice none 0 0] 29)) wa.heap.size (scc c ua (.slice Aa ma da)).toArray
    have l0 := (C0.below_ hba).lt
    have l1 := (C1.below_ hba).lt
    exact ⟨_, rfl, kr.blk ((C0.below_ hba).alloc _) (by omega), kr.blk ((C1.below_ hba).alloc _) (by omega), (Blk.new wa 29 #[.int .i64 0, .int .i64 0, .int .i64 0, .int .i64 0, .int .i64 0, .int .i64 0, .int .i64 0, .int .i64 0, .int .i64 0, .int .i64 0, .int .i64 0, .int .i64 0, .int .i64 0, .int .i64 0, .slice none 0 0, .slice none 0 0, .slice none 0 0, .slice none 0 0, .slice none 0 0, .slice none 0 0, .slice none 0 0, .slice none 0 0, .slice none 0 0]).row _, ((Keeps.refl (fun b => wa.heap.size ≤ b) wa).alloc _).trans_ (kr.mono fun b h _ => by show _ ≤ _; omega)⟩
  rw [hW1]
  have PA := (PA.old.keeps kk1).weak (S' := fun _ => False) (fun b h => h.elim)
  have SA := SA.keepS enc__len kk1 (fun _ ad _ hlt q => by omega) (by decide)
  have kw1 := kk1.below kwa kwa.size (fun x hx _ => by have := hba.size; have := kb1.size; omega)
  have clv1 := hic_lv h82 G1
  have hma := filt_le SA hE hen1
  have hreA := psK_re (st := stTo c lv) hre
  clear hW1 C0 C1 hc1 kk1 hba kwa clv c24' holda honea
  have PAw := fun (W : World) (hW : Below W1.heap.size W1 W) => PA.below hW
  have SAw := fun (W : World) (hW : Below W1.heap.size W1 W) => SA.below hW
  have twP := fun {W : World} {u : List Value} (h : PIn (fun _ => False) W u (psK (stTo c lv) (psK (stTo c lv) ps 8) 8)) => (by rwa [psK_twice (fun t h => h)] at h : PIn (fun _ => False) W u (psK (stTo c lv) ps 8))
  have twS := fun {W : World} {A : Option Addr} {m d : Nat} (h : Sl enc_ W A m d ((es.filter fun e => stTo c lv e.th).filter fun e => stTo c lv e.th)) => (by rwa [filt_twice (fun t h => h)] at h : Sl enc_ W A m d (es.filter fun e => stTo c lv e.th))
  have upP := fun {W : World} {u : List Value} (h : PIn (fun _ => False) W u (psK (stTo c (lv + 1)) (psK (stTo c lv) ps 8) 8)) => (by rwa [psK_twice (fun t h => to_up t h)] at h : PIn (fun _ => False) W u (psK (stTo c lv) ps 8))
  have upS := fun {W : World} {A : Option Addr} {m d : Nat} (h : Sl enc_ W A m d ((es.filter fun e => stTo c lv e.th).filter fun e => stTo c (lv + 1) e.th)) => (by rwa [filt_twice (fun t h => to_up t h)] at h : Sl enc_ W A m d (es.filter fun e => stTo c lv e.th))
  have heq := fun (W : World) (hW : Below W1.heap.size W1 W) => equal_any (c := c) (c2 := c) ((hP.below kw1).below hW) ((hE.below kw1).below hW) (PA.below hW) (SA.below hW) hen1 hma hre hreA lv
  rw [show eqTo c c ps (psK (stTo c lv) ps 8) es (es.filter fun e => stTo c lv e.th) lv = true from same_yes rfl (psK_twice (fun t h => h) ps).symm (filt_twice (fun t h => h) es).symm] at heq
  simp only [Act.put]
  by_cases hl : lv < 1000
  · have hw1 : IntKind.i64.wrap (lv + 1) = lv + 1 := IntWalk.i64_in _ (by omega)
    have hX := @Ext.cell W1
    have hzz0 := block_lt_of_cell clv1
    refine wp_region_noPanic ?_
    refine wp_region_plan (fun w' => ∃ x : Ext W1, w' = x.w) [([0, 1, 2, 4], 3), ([], 5), ([6, 7, 8, 9, 10, 11, 12, 13, 14, 15, 17], 16), ([], 18), ([19, 20, 21, 22, 23, 24, 25, 26], 27)] [28, 29] (by kernel_rfl) (by kernel_rfl) (by kernel_rfl) (fun _ _ _ _ _ h => h) ⟨⟨_, (brefl W1).drew⟩, rfl⟩ ?_
    refine wpPlan_cons ?_
    simp only [pickOps, List.getElem?_cons_succ, List.getElem?_cons_zero, Option.elim_some]
    refine wpQuiet_load_row_g rfl 29 (.tmp 5) rfl wa.heap.size rfl 29 _ _ (blk_ext G3) Try.underlying29 rfl hia ?_; simp only [Act.put, List.setIfInBounds_toArray, List.set_cons_succ, List.set_cons_zero]
    go_big_quiet_step (fail)
    go_big_quiet_step (fail)
    refine wpQuiet_load_row_g rfl 29 (.tmp 5) rfl wa.heap.size rfl 29 _ _ (blk_ext G3) Try.underlying29 rfl hia ?_; simp only [Act.put, List.setIfInBounds_toArray, List.set_cons_succ, List.set_cons_zero]
    refine wpQuiet_nil ?_
    refine planAct_some (fun K hK => ?_)
    go_simp
    refine (to_any lv (PAw _ (brefl W1).drew) (SAw _ (brefl W1).drew) hma hreA).mono ?_
    rintro e x1 ⟨ub, Ab, mb, db, rfl, PB, SB, q1⟩
    go_wp2_with fail
    refine hK.out _ _ ⟨⟨_, (bnext (brefl W1).drew q1)⟩, rfl⟩ ?_
    clear hK K
    refine wpPlan_cons ?_
    simp only [pickOps, List.getElem?_cons_succ, List.getElem?_cons_zero, Option.elim_some]
    repeat (go_big_quiet_step (fail))
    refine wpQuiet_nil ?_
    refine planAct_some (fun K hK => ?_)
    go_simp
    refine (same_self (twP PB) (twS SB) (PAw _ (bnext (brefl W1).drew q1)) (SAw _ (bnext (brefl W1).drew q1)) (filt_le SB SA hma) hreA).mono ?_
    rintro e x2 ⟨rfl, q2⟩
    go_wp2_with fail
    refine hK.out _ _ ⟨⟨_, (bnext (bnext (brefl W1).drew q1) q2)⟩, rfl⟩ ?_
    clear hK K
    refine wpPlan_cons ?_
    simp only [pickOps, List.getElem?_cons_succ, List.getElem?_cons_zero, Option.elim_some]
    go_big_quiet_step (fail)
    go_big_quiet_step (fail)
    go_big_quiet_step (fail)
    go_big_quiet_step (fail)
    go_big_quiet_step (fail)
    go_big_quiet_step (fail)
    refine wpQuiet_load_row_g rfl 29 (.tmp 5) rfl wa.heap.size rfl 29 _ _ (blk_ext G3) Try.underlying29 rfl hia ?_; simp only [Act.put, List.setIfInBounds_toArray, List.set_cons_succ, List.set_cons_zero]
    go_big_quiet_step (fail)
    go_big_quiet_step (fail)
    go_big_quiet_step (fail)
    refine wpQuiet_load_row_g rfl 29 (.tmp 5) rfl wa.heap.size rfl 29 _ _ (blk_ext G3) Try.underlying29 rfl hia ?_; simp only [Act.put, List.setIfInBounds_toArray, List.set_cons_succ, List.set_cons_zero]
    refine wpQuiet_nil ?_
    refine planAct_some (fun K hK => ?_)
    go_simp
    refine (to_any (lv + 1) (PAw _ (bnext (bnext (brefl W1).drew q1) q2)) (SAw _ (bnext (bnext (brefl W1).drew q1) q2)) hma hreA).mono ?_
    rintro e x3 ⟨uc, Ac, mc, dc, rfl, PC, SC, q3⟩
    go_wp2_with fail
    refine hK.out _ _ ⟨⟨_, (bnext (bnext (bnext (brefl W1).drew q1) q2) q3)⟩, rfl⟩ ?_
    clear hK K
    refine wpPlan_cons ?_
    simp only [pickOps, List.getElem?_cons_succ, List.getElem?_cons_zero, Option.elim_some]
    repeat (go_big_quiet_step (fail))
    refine wpQuiet_nil ?_
    refine planAct_some (fun K hK => ?_)
    go_simp
    refine (same_self (upP PC) (upS SC) (PAw _ (bnext (bnext (bnext (brefl W1).drew q1) q2) q3)) (SAw _ (bnext (bnext (bnext (brefl W1).drew q1) q2) q3)) (filt_le SC SA hma) hreA).mono ?_
    rintro e x4 ⟨rfl, q4⟩
    go_wp2_with fail
    refine hK.out _ _ ⟨⟨_, (bnext (bnext (bnext (bnext (brefl W1).drew q1) q2) q3) q4)⟩, rfl⟩ ?_
    clear hK K
    refine wpPlan_cons ?_
    simp only [pickOps, List.getElem?_cons_succ, List.getElem?_cons_zero, Option.elim_some]
    go_big_quiet_step (fail)
    go_big_quiet_step (fail)
    go_big_quiet_step (fail)
    go_big_quiet_step (fail)
    refine wpQuiet_load_row_g rfl 29 (.tmp 2) rfl w.heap.size rfl 29 _ _ (blk_ext G0) Try.underlying29 rfl hi0 ?_; simp only [Act.put, List.setIfInBounds_toArray, List.set_cons_succ, List.set_cons_zero]
    refine wpQuiet_load_row_g rfl 29 (.tmp 5) rfl wa.heap.size rfl 29 _ _ (blk_ext G3) Try.underlying29 rfl hia ?_; simp only [Act.put, List.setIfInBounds_toArray, List.set_cons_succ, List.set_cons_zero]
    go_big_quiet_step (fail)
    go_big_quiet_step (fail)
    refine wpQuiet_nil ?_
    refine planAct_some (fun K hK => ?_)
    go_simp
    refine (heq _ (bnext (bnext (bnext (bnext (brefl W1).drew q1) q2) q3) q4)).mono ?_
    rintro e x5 ⟨rfl, q5⟩
    go_wp2_with fail
    refine hK.out _ _ ⟨⟨_, (bnext (bnext (bnext (bnext (bnext (brefl W1).drew q1) q2) q3) q4) q5)⟩, rfl⟩ ?_
    clear hK K
    refine wpPlan_last ?_
    simp only [pickOps, List.getElem?_cons_succ, List.getElem?_cons_zero, Option.elim_some]
    repeat (go_big_quiet_step (fail))
    refine wpQuiet_nil ?_
    refine NoPanic.normal ?_
    clear hX hzz0
    clear PB SB PC SC hw1 heq twP twS upP upS hl
    go_wp2_with fail
    obtain ⟨W2, hW2⟩ : ∃ W2, W2 = x5 := ⟨_, rfl⟩
    subst hW2
    have bel := (bnext (bnext (bnext (bnext (bnext (brefl W1).drew q1) q2) q3) q4) q5)
    have kw2 := bnext kw1 bel
    have H0 := G0.below_ bel
    have H1 := G1.below_ bel
    have H3 := G3.below_ bel
    have hPw := fun (W : World) (hW : Below W2.heap.size W2 W) => (hP.below kw2).below hW
    have hEw := fun (W : World) (hW : Below W2.heap.size W2 W) => (hE.below kw2).below hW
    have c322 : W2.cell? ⟨wa.heap.size, 22, none⟩ = some (.slice Aa ma da) := (H3.cell 22).trans (by rw [List.getElem?_toArray]; exact scc_last PA.u8)
    have c022 : W2.cell? ⟨w.heap.size, 22, none⟩ = some (.slice EA en ec) := (H0.cell 22).trans (by rw [List.getElem?_toArray]; exact scc_last h8)
    have clv2 := hic_lv h82 H1
    have allP := fun {W : World} {u : List Value} (h : PIn (fun _ => False) W u (psK (stTo c 3) ps 8)) => (by rwa [psK_all (to_three c) hP.p8] at h : PIn (fun _ => False) W u ps)
    have allS := fun {W : World} {A : Option Addr} {m d : Nat} (h : Sl enc_ W A m d (es.filter fun e => stTo c 3 e.th)) => (by rwa [filt_all (to_three c)] at h : Sl enc_ W A m d es)
    clear bel
    go_upto_region 6 with (fail)
    have hX := @Ext.cell W2
    have hzz0 := block_lt_of_cell c322
    have hzz1 := block_lt_of_cell c022
    have hzz2 := block_lt_of_cell clv2
    refine wp_region_noPanic ?_
    refine wp_region_plan (fun w' => ∃ x : Ext W2, w' = x.w) [([0, 2], 1), ([], 3), ([4, 5, 6, 7, 8, 9, 10, 11, 16, 17, 18], 12)] [13, 14, 15, 19, 20] (by kernel_rfl) (by kernel_rfl) (by kernel_rfl) (fun _ _ _ _ _ h => h) ⟨⟨_, (brefl W2).drew⟩, rfl⟩ ?_
    refine wpPlan_cons ?_
    simp only [pickOps, List.getElem?_cons_succ, List.getElem?_cons_zero, Option.elim_some]
    refine wpQuiet_load_row_g rfl 29 (.tmp 2) rfl w.heap.size rfl 29 _ _ (blk_ext H0) Try.underlying29 rfl hi0 ?_; simp only [Act.put, List.setIfInBounds_toArray, List.set_cons_succ, List.set_cons_zero]
    refine wpQuiet_load_row_g rfl 29 (.tmp 2) rfl w.heap.size rfl 29 _ _ (blk_ext H0) Try.underlying29 rfl hi0 ?_; simp only [Act.put, List.setIfInBounds_toArray, List.set_cons_succ, List.set_cons_zero]
    refine wpQuiet_nil ?_
    refine planAct_some (fun K hK => ?_)
    go_simp
    refine (to_any 3 (hPw _ (brefl W2).drew) (hEw _ (brefl W2).drew) hen1 hre).mono ?_
    rintro e y1 ⟨ud, Ad, md, dd, rfl, PD, SD, r1⟩
    go_wp2_with fail
    refine hK.out _ _ ⟨⟨_, (bnext (brefl W2).drew r1)⟩, rfl⟩ ?_
    clear hK K
    refine wpPlan_cons ?_
    simp only [pickOps, List.getElem?_cons_succ, List.getElem?_cons_zero, Option.elim_some]
    repeat (go_big_quiet_step (fail))
    refine wpQuiet_nil ?_
    refine planAct_some (fun K hK => ?_)
    go_simp
    refine (same_self (allP PD) (allS SD) (hPw _ (bnext (brefl W2).drew r1)) (hEw _ (bnext (brefl W2).drew r1)) (filt_le SD hE hen1) hre).mono ?_
    rintro e y2 ⟨rfl, r2⟩
    go_wp2_with fail
    refine hK.out _ _ ⟨⟨_, (bnext (bnext (brefl W2).drew r1) r2)⟩, rfl⟩ ?_
    clear hK K
    refine wpPlan_cons ?_
    simp only [pickOps, List.getElem?_cons_succ, List.getElem?_cons_zero, Option.elim_some]
    go_big_quiet_step (fail)
    go_big_quiet_step (fail)
    go_big_quiet_step (fail)
    go_big_quiet_step (fail)
    go_big_quiet_step (fail)
    refine wpQuiet_load_row_g rfl 29 (.tmp 2) rfl w.heap.size rfl 29 _ _ (blk_ext H0) Try.underlying29 rfl hi0 ?_; simp only [Act.put, List.setIfInBounds_toArray, List.set_cons_succ, List.set_cons_zero]
    go_big_quiet_step (fail)
    go_big_quiet_step (fail)
    go_big_quiet_step (fail)
    go_big_quiet_step (fail)
    go_big_quiet_step (fail)
    refine wpQuiet_nil ?_
    refine planAct_some (fun K hK => ?_)
    go_simp
    refine (abv_any lv (hPw _ (bnext (bnext (brefl W2).drew r1) r2)) (hEw _ (bnext (bnext (brefl W2).drew r1) r2)) hen1 hre).mono ?_
    rintro e y3 ⟨uf, Af, mf, df, rfl, PF, SF, r3⟩; have hfs := fun w => field_scc (w := w) c (.slice Af mf df) rfl PF.u8; have hmf := filt_le SF hE hen1; have hsum := sum_en SA SF hE; have hwr : IntKind.i64.wrap ((ma : Int) + (mf : Int)) = (ma : Int) + (mf : Int) := IntWalk.i64_in _ (by omega); have tne : ((ma : Int) + (mf : Int) != (en : Int)) = false := (by rw [bne_eq_false_iff_eq]; omega); clear hsum
    go_wp2_with fail
    refine hK.out _ _ ⟨⟨_, (bnext (bnext (bnext (brefl W2).drew r1) r2) r3)⟩, rfl⟩ ?_
    clear hK K
    refine wpPlan_last ?_
    simp only [pickOps, List.getElem?_cons_succ, List.getElem?_cons_zero, Option.elim_some]
    repeat (go_big_quiet_step (fail))
    refine wpQuiet_nil ?_
    refine NoPanic.normal ?_
    clear hX hzz0 hzz1 hzz2
    have kw3 := bnext kw2 ((bnext (bnext (bnext (brefl W2).drew r1) r2) r3))
    have H0 := H0.below_ ((bnext (bnext (bnext (brefl W2).drew r1) r2) r3))
    have H1 := H1.below_ ((bnext (bnext (bnext (brefl W2).drew r1) r2) r3))
    have r1 := hic_rg H1
    have clv3 := hic_lv h82 H1
    have c24 := hic_at h82 H1
    have z1 := H1.lt
    clear hfs hwr tne c322 c022 clv2 PF SF PD SD allP allS
    have hwv := weave_any (w := y3) (c := c) (c2 := c2) (hP.below kw3) (hE.below kw3) (hP2.below kw3) (hE2.below kw3) (hAl.below kw3) hen1 hen3 han3 hre hre2 lv
    have tok1 : True := trivial; have tok2 : True := trivial; have tok3 : True := trivial; have tok4 : True := trivial
    go_upto_region 9 with (first | (have _t := tok1; refine wpList_load_row (o := ⟨some 76, _, _, _, _, _⟩) rfl 29 (.tmp 2) rfl w.heap.size rfl 29 _ _ _ H0 Try.underlying29 rfl hi0 ?_; clear tok1 _t) | (have _t := tok2; refine wpList_load_mid_g (op := ⟨some 78, _, _, _, _, _⟩) rfl 29 (.tmp 77) rfl (w.heap.size + 1) 0 rfl (scc c2 us2 (.slice EA2 en2 ec2)) _ r1 Try.underlying29 rfl hi1 ?_; clear tok2 _t) | (have _t := tok3; go_at_call 14; refine hwv.mono ?_; rintro e wb ⟨uw, Aw, mw, dw, rfl, PW, SW, hbw⟩; have hvw := PW.u8; have hiw := info_scc (c := c) (us := uw) (ev := .slice Aw mw dw) hvw; have holdw : (scc cf0 nil8 (.slice none 0 0)).toArray.size = (scc c uw (.slice Aw mw dw)).toArray.size := (by rw [List.size_toArray, List.size_toArray, scc_len hvw, scc_len rfl]); have honew := scc_one (c := c) PW Aw mw dw; clear hvw tok3 _t) | (have _t := tok4; refine wpList_store_row (o := ⟨none, .store 29 (.tmp 6) (.tmp 83), _, _, _, _⟩) rfl 29 (.tmp 6) (.tmp 83) rfl wb.heap.size _ rfl rfl 29 _ (Blk.new wb _ _) hiw holdw honew ?_; clear tok4 _t))
    have kwb := bnext kw3 hbw
    obtain ⟨W3, hW3, I0, I1, I6, kk3⟩ : ∃ W3, (wb.alloc (.cells #[.int .i64 0, .int .i64 0, .int .i64 0, .int .i64 0, .int .i64 0, .int .i64 0, .int .i64 0, .int .i64 0, .int .i64 0, .int .i64 0, .int .i64 0, .int .i64 0, .int .i64 0, .int .i64 0, .slice none 0 0, .slice none 0 0, .slice none 0 0, .slice none 0 0, .slice none 0 0, .slice none 0 0, .slice none 0 0, .slice none 0 0, .slice none 0 0] 29)).setRow wb.heap.size (scc c uw (.slice Aw mw dw)).toArray = W3 ∧ Blk W3 w.heap.size 29 (scc c us (.slice EA en ec)).toArray ∧ Blk W3 (w.heap.size + 1) 38 (hic c2 us2 (.slice EA2 en2 ec2) lv (.slice AA an ad)).toArray ∧ Blk W3 wb.heap.size 29 (scc c uw (.slice Aw mw dw)).toArray ∧ Keeps (fun b => wb.heap.size ≤ b) wb W3 := by
      have kr := keeps_row (wb.alloc (.cells #[.int .i64 0, .int .i64 0, .int .i64 0, .int .i64 0, .int .i64 0, .int .i64 0, .int .i64 0, .int .i64 0, .int .i64 0, .int .i64 0, .int .i64 0, .int .i64 0, .int .i64 0, .int .i64 0, .slice none 0 0, .slice none 0 0, .slice none 0 0, .slice none 0 0, .slice none 0 0, .slice none 0 0, .slice none 0 0, .slice none 0 0, .slice none 0 0] 29)) wb.heap.size (scc c uw (.slice Aw mw dw)).toArray
      have l0 := (H0.below_ hbw).lt
      have l1 := (H1.below_ hbw).lt
      exact ⟨_, rfl, kr.blk ((H0.below_ hbw).alloc _) (by omega), kr.blk ((H1.below_ hbw).alloc _) (by omega), (Blk.new wb 29 #[.int .i64 0, .int .i64 0, .int .i64 0, .int .i64 0, .int .i64 0, .int .i64 0, .int .i64 0, .int .i64 0, .int .i64 0, .int .i64 0, .int .i64 0, .int .i64 0, .int .i64 0, .int .i64 0, .slice none 0 0, .slice none 0 0, .slice none 0 0, .slice none 0 0, .slice none 0 0, .slice none 0 0, .slice none 0 0, .slice none 0 0, .slice none 0 0]).row _, ((Keeps.refl (fun b => wb.heap.size ≤ b) wb).alloc _).trans_ (kr.mono fun b h _ => by show _ ≤ _; omega)⟩
    simp only [Act.put]
    rw [hW3]
    have PW3 := (PW.old.keeps kk3).weak (S' := fun _ => False) (fun b h => h.elim)
    have SW3 := SW.keepS enc__len kk3 (fun _ ad _ hlt q => by omega) (by decide)
    have kw4 := kk3.below kwb kwb.size (fun x hx _ => by have := hbw.size; have := kw3.size; omega)
    have clv4 := hic_lv h82 I1
    have hmw : mw ≤ 1000000 := by have h1 := SW.len; have h2 := wE_le c c2 es es2 lv al; have h3 := hE.len; have h4 := hE2.len; omega
    have heq2 := equal_any (c := c) (c2 := c) PW3 SW3 (hP.below kw4) (hE.below kw4) hmw hen1 (wP_re hre hre2) hre lv
    rw [show eqTo c c (wP c c2 ps ps2 lv) ps (wE c c2 es es2 lv al) es lv = true from same_yes rfl (wP_to c c2 ps ps2 lv) (wE_to c c2 es es2 lv al)] at heq2
    have z1 := I1.lt
    have tok5 : True := trivial; have tok6 : True := trivial; have tok7 : True := trivial; have tok8 : True := trivial
    clear hW3 H0 H1 hwv kk3 hbw kwb clv3 c24 r1 holdw honew PW SW PW3 SW3
    go_wp2_with (first | (have _t := tok5; refine wpList_load_row (o := ⟨some 84, _, _, _, _, _⟩) rfl 29 (.tmp 6) rfl wb.heap.size rfl 29 _ _ _ I6 Try.underlying29 rfl hiw ?_; clear tok5 _t) | (have _t := tok6; refine wpList_load_row (o := ⟨some 85, _, _, _, _, _⟩) rfl 29 (.tmp 2) rfl w.heap.size rfl 29 _ _ _ I0 Try.underlying29 rfl hi0 ?_; clear tok6 _t) | (have _t := tok7; go_at_call 12; refine heq2.mono ?_; rintro e wy ⟨rfl, hby⟩; clear tok7 _t) | (have _t := tok8; go_at_call 7; refine (lives19 _).mono ?_; rintro e wl ⟨rfl, hbl⟩; clear tok8 _t))
    go_ret
    exact ⟨rfl, bnext (bnext kw4 hby) hbl⟩
  · have hl' : decide (lv < 1000) = false := decide_eq_false hl
    have hX := @Ext.cell W1
    have hzz0 := block_lt_of_cell clv1
    refine wp_region_noPanic ?_
    refine wp_region_plan (fun w' => ∃ x : Ext W1, w' = x.w) [([0, 1, 2, 4], 3), ([], 5), ([6, 7, 8, 9, 10, 11, 12, 13, 14, 15, 17], 16), ([], 18), ([19, 20, 21, 22, 23, 24, 25, 26], 27)] [28, 29] (by kernel_rfl) (by kernel_rfl) (by kernel_rfl) (fun _ _ _ _ _ h => h) ⟨⟨_, (brefl W1).drew⟩, rfl⟩ ?_
    refine wpPlan_cons ?_
    simp only [pickOps, List.getElem?_cons_succ, List.getElem?_cons_zero, Option.elim_some]
    refine wpQuiet_load_row_g rfl 29 (.tmp 5) rfl wa.heap.size rfl 29 _ _ (blk_ext G3) Try.underlying29 rfl hia ?_; simp only [Act.put, List.setIfInBounds_toArray, List.set_cons_succ, List.set_cons_zero]
    go_big_quiet_step (fail)
    go_big_quiet_step (fail)
    refine wpQuiet_load_row_g rfl 29 (.tmp 5) rfl wa.heap.size rfl 29 _ _ (blk_ext G3) Try.underlying29 rfl hia ?_; simp only [Act.put, List.setIfInBounds_toArray, List.set_cons_succ, List.set_cons_zero]
    refine wpQuiet_nil ?_
    refine planAct_some (fun K hK => ?_)
    go_simp
    refine (to_any lv (PAw _ (brefl W1).drew) (SAw _ (brefl W1).drew) hma hreA).mono ?_
    rintro e x1 ⟨ub, Ab, mb, db, rfl, PB, SB, q1⟩
    go_wp2_with fail
    refine hK.out _ _ ⟨⟨_, (bnext (brefl W1).drew q1)⟩, rfl⟩ ?_
    clear hK K
    refine wpPlan_cons ?_
    simp only [pickOps, List.getElem?_cons_succ, List.getElem?_cons_zero, Option.elim_some]
    repeat (go_big_quiet_step (fail))
    refine wpQuiet_nil ?_
    refine planAct_some (fun K hK => ?_)
    go_simp
    refine (same_self (twP PB) (twS SB) (PAw _ (bnext (brefl W1).drew q1)) (SAw _ (bnext (brefl W1).drew q1)) (filt_le SB SA hma) hreA).mono ?_
    rintro e x2 ⟨rfl, q2⟩
    go_wp2_with fail
    refine hK.out _ _ ⟨⟨_, (bnext (bnext (brefl W1).drew q1) q2)⟩, rfl⟩ ?_
    clear hK K
    refine wpPlan_cons ?_
    simp only [pickOps, List.getElem?_cons_succ, List.getElem?_cons_zero, Option.elim_some]
    repeat (go_big_quiet_step (fail))
    refine wpQuiet_nil ?_
    refine planAct_some (fun K hK => ?_)
    go_simp
    refine hK.out _ _ ⟨⟨_, (bnext (bnext (brefl W1).drew q1) q2)⟩, rfl⟩ ?_
    clear hK K
    refine wpPlan_cons ?_
    simp only [pickOps, List.getElem?_cons_succ, List.getElem?_cons_zero, Option.elim_some]
    repeat (go_big_quiet_step (fail))
    refine wpQuiet_nil ?_
    refine planAct_some (fun K hK => ?_)
    go_simp
    refine hK.out _ _ ⟨⟨_, (bnext (bnext (brefl W1).drew q1) q2)⟩, rfl⟩ ?_
    clear hK K
    refine wpPlan_cons ?_
    simp only [pickOps, List.getElem?_cons_succ, List.getElem?_cons_zero, Option.elim_some]
    go_big_quiet_step (fail)
    go_big_quiet_step (fail)
    go_big_quiet_step (fail)
    go_big_quiet_step (fail)
    refine wpQuiet_load_row_g rfl 29 (.tmp 2) rfl w.heap.size rfl 29 _ _ (blk_ext G0) Try.underlying29 rfl hi0 ?_; simp only [Act.put, List.setIfInBounds_toArray, List.set_cons_succ, List.set_cons_zero]
    refine wpQuiet_load_row_g rfl 29 (.tmp 5) rfl wa.heap.size rfl 29 _ _ (blk_ext G3) Try.underlying29 rfl hia ?_; simp only [Act.put, List.setIfInBounds_toArray, List.set_cons_succ, List.set_cons_zero]
    go_big_quiet_step (fail)
    go_big_quiet_step (fail)
    refine wpQuiet_nil ?_
    refine planAct_some (fun K hK => ?_)
    go_simp
    refine (heq _ (bnext (bnext (brefl W1).drew q1) q2)).mono ?_
    rintro e x5 ⟨rfl, q3⟩
    go_wp2_with fail
    refine hK.out _ _ ⟨⟨_, (bnext (bnext (bnext (brefl W1).drew q1) q2) q3)⟩, rfl⟩ ?_
    clear hK K
    refine wpPlan_last ?_
    simp only [pickOps, List.getElem?_cons_succ, List.getElem?_cons_zero, Option.elim_some]
    repeat (go_big_quiet_step (fail))
    refine wpQuiet_nil ?_
    refine NoPanic.normal ?_
    clear hX hzz0
    clear PB SB heq twP twS upP upS hl hl'
    go_wp2_with fail
    obtain ⟨W2, hW2⟩ : ∃ W2, W2 = x5 := ⟨_, rfl⟩
    subst hW2
    have bel := (bnext (bnext (bnext (brefl W1).drew q1) q2) q3)
    have kw2 := bnext kw1 bel
    have H0 := G0.below_ bel
    have H1 := G1.below_ bel
    have H3 := G3.below_ bel
    have hPw := fun (W : World) (hW : Below W2.heap.size W2 W) => (hP.below kw2).below hW
    have hEw := fun (W : World) (hW : Below W2.heap.size W2 W) => (hE.below kw2).below hW
    have c322 : W2.cell? ⟨wa.heap.size, 22, none⟩ = some (.slice Aa ma da) := (H3.cell 22).trans (by rw [List.getElem?_toArray]; exact scc_last PA.u8)
    have c022 : W2.cell? ⟨w.heap.size, 22, none⟩ = some (.slice EA en ec) := (H0.cell 22).trans (by rw [List.getElem?_toArray]; exact scc_last h8)
    have clv2 := hic_lv h82 H1
    have allP := fun {W : World} {u : List Value} (h : PIn (fun _ => False) W u (psK (stTo c 3) ps 8)) => (by rwa [psK_all (to_three c) hP.p8] at h : PIn (fun _ => False) W u ps)
    have allS := fun {W : World} {A : Option Addr} {m d : Nat} (h : Sl enc_ W A m d (es.filter fun e => stTo c 3 e.th)) => (by rwa [filt_all (to_three c)] at h : Sl enc_ W A m d es)
    clear bel
    go_upto_region 6 with (fail)
    have hX := @Ext.cell W2
    have hzz0 := block_lt_of_cell c322
    have hzz1 := block_lt_of_cell c022
    have hzz2 := block_lt_of_cell clv2
    refine wp_region_noPanic ?_
    refine wp_region_plan (fun w' => ∃ x : Ext W2, w' = x.w) [([0, 2], 1), ([], 3), ([4, 5, 6, 7, 8, 9, 10, 11, 16, 17, 18], 12)] [13, 14, 15, 19, 20] (by kernel_rfl) (by kernel_rfl) (by kernel_rfl) (fun _ _ _ _ _ h => h) ⟨⟨_, (brefl W2).drew⟩, rfl⟩ ?_
    refine wpPlan_cons ?_
    simp only [pickOps, List.getElem?_cons_succ, List.getElem?_cons_zero, Option.elim_some]
    refine wpQuiet_load_row_g rfl 29 (.tmp 2) rfl w.heap.size rfl 29 _ _ (blk_ext H0) Try.underlying29 rfl hi0 ?_; simp only [Act.put, List.setIfInBounds_toArray, List.set_cons_succ, List.set_cons_zero]
    refine wpQuiet_load_row_g rfl 29 (.tmp 2) rfl w.heap.size rfl 29 _ _ (blk_ext H0) Try.underlying29 rfl hi0 ?_; simp only [Act.put, List.setIfInBounds_toArray, List.set_cons_succ, List.set_cons_zero]
    refine wpQuiet_nil ?_
    refine planAct_some (fun K hK => ?_)
    go_simp
    refine (to_any 3 (hPw _ (brefl W2).drew) (hEw _ (brefl W2).drew) hen1 hre).mono ?_
    rintro e y1 ⟨ud, Ad, md, dd, rfl, PD, SD, r1⟩
    go_wp2_with fail
    refine hK.out _ _ ⟨⟨_, (bnext (brefl W2).drew r1)⟩, rfl⟩ ?_
    clear hK K
    refine wpPlan_cons ?_
    simp only [pickOps, List.getElem?_cons_succ, List.getElem?_cons_zero, Option.elim_some]
    repeat (go_big_quiet_step (fail))
    refine wpQuiet_nil ?_
    refine planAct_some (fun K hK => ?_)
    go_simp
    refine (same_self (allP PD) (allS SD) (hPw _ (bnext (brefl W2).drew r1)) (hEw _ (bnext (brefl W2).drew r1)) (filt_le SD hE hen1) hre).mono ?_
    rintro e y2 ⟨rfl, r2⟩
    go_wp2_with fail
    refine hK.out _ _ ⟨⟨_, (bnext (bnext (brefl W2).drew r1) r2)⟩, rfl⟩ ?_
    clear hK K
    refine wpPlan_cons ?_
    simp only [pickOps, List.getElem?_cons_succ, List.getElem?_cons_zero, Option.elim_some]
    go_big_quiet_step (fail)
    go_big_quiet_step (fail)
    go_big_quiet_step (fail)
    go_big_quiet_step (fail)
    go_big_quiet_step (fail)
    refine wpQuiet_load_row_g rfl 29 (.tmp 2) rfl w.heap.size rfl 29 _ _ (blk_ext H0) Try.underlying29 rfl hi0 ?_; simp only [Act.put, List.setIfInBounds_toArray, List.set_cons_succ, List.set_cons_zero]
    go_big_quiet_step (fail)
    go_big_quiet_step (fail)
    go_big_quiet_step (fail)
    go_big_quiet_step (fail)
    go_big_quiet_step (fail)
    refine wpQuiet_nil ?_
    refine planAct_some (fun K hK => ?_)
    go_simp
    refine (abv_any lv (hPw _ (bnext (bnext (brefl W2).drew r1) r2)) (hEw _ (bnext (bnext (brefl W2).drew r1) r2)) hen1 hre).mono ?_
    rintro e y3 ⟨uf, Af, mf, df, rfl, PF, SF, r3⟩; have hfs := fun w => field_scc (w := w) c (.slice Af mf df) rfl PF.u8; have hmf := filt_le SF hE hen1; have hsum := sum_en SA SF hE; have hwr : IntKind.i64.wrap ((ma : Int) + (mf : Int)) = (ma : Int) + (mf : Int) := IntWalk.i64_in _ (by omega); have tne : ((ma : Int) + (mf : Int) != (en : Int)) = false := (by rw [bne_eq_false_iff_eq]; omega); clear hsum
    go_wp2_with fail
    refine hK.out _ _ ⟨⟨_, (bnext (bnext (bnext (brefl W2).drew r1) r2) r3)⟩, rfl⟩ ?_
    clear hK K
    refine wpPlan_last ?_
    simp only [pickOps, List.getElem?_cons_succ, List.getElem?_cons_zero, Option.elim_some]
    repeat (go_big_quiet_step (fail))
    refine wpQuiet_nil ?_
    refine NoPanic.normal ?_
    clear hX hzz0 hzz1 hzz2
    have kw3 := bnext kw2 ((bnext (bnext (bnext (brefl W2).drew r1) r2) r3))
    have H0 := H0.below_ ((bnext (bnext (bnext (brefl W2).drew r1) r2) r3))
    have H1 := H1.below_ ((bnext (bnext (bnext (brefl W2).drew r1) r2) r3))
    have r1 := hic_rg H1
    have clv3 := hic_lv h82 H1
    have c24 := hic_at h82 H1
    have z1 := H1.lt
    clear hfs hwr tne c322 c022 clv2 PF SF PD SD allP allS
    have hwv := weave_any (w := y3) (c := c) (c2 := c2) (hP.below kw3) (hE.below kw3) (hP2.below kw3) (hE2.below kw3) (hAl.below kw3) hen1 hen3 han3 hre hre2 lv
    have tok1 : True := trivial; have tok2 : True := trivial; have tok3 : True := trivial; have tok4 : True := trivial
    go_upto_region 9 with (first | (have _t := tok1; refine wpList_load_row (o := ⟨some 76, _, _, _, _, _⟩) rfl 29 (.tmp 2) rfl w.heap.size rfl 29 _ _ _ H0 Try.underlying29 rfl hi0 ?_; clear tok1 _t) | (have _t := tok2; refine wpList_load_mid_g (op := ⟨some 78, _, _, _, _, _⟩) rfl 29 (.tmp 77) rfl (w.heap.size + 1) 0 rfl (scc c2 us2 (.slice EA2 en2 ec2)) _ r1 Try.underlying29 rfl hi1 ?_; clear tok2 _t) | (have _t := tok3; go_at_call 14; refine hwv.mono ?_; rintro e wb ⟨uw, Aw, mw, dw, rfl, PW, SW, hbw⟩; have hvw := PW.u8; have hiw := info_scc (c := c) (us := uw) (ev := .slice Aw mw dw) hvw; have holdw : (scc cf0 nil8 (.slice none 0 0)).toArray.size = (scc c uw (.slice Aw mw dw)).toArray.size := (by rw [List.size_toArray, List.size_toArray, scc_len hvw, scc_len rfl]); have honew := scc_one (c := c) PW Aw mw dw; clear hvw tok3 _t) | (have _t := tok4; refine wpList_store_row (o := ⟨none, .store 29 (.tmp 6) (.tmp 83), _, _, _, _⟩) rfl 29 (.tmp 6) (.tmp 83) rfl wb.heap.size _ rfl rfl 29 _ (Blk.new wb _ _) hiw holdw honew ?_; clear tok4 _t))
    have kwb := bnext kw3 hbw
    obtain ⟨W3, hW3, I0, I1, I6, kk3⟩ : ∃ W3, (wb.alloc (.cells #[.int .i64 0, .int .i64 0, .int .i64 0, .int .i64 0, .int .i64 0, .int .i64 0, .int .i64 0, .int .i64 0, .int .i64 0, .int .i64 0, .int .i64 0, .int .i64 0, .int .i64 0, .int .i64 0, .slice none 0 0, .slice none 0 0, .slice none 0 0, .slice none 0 0, .slice none 0 0, .slice none 0 0, .slice none 0 0, .slice none 0 0, .slice none 0 0] 29)).setRow wb.heap.size (scc c uw (.slice Aw mw dw)).toArray = W3 ∧ Blk W3 w.heap.size 29 (scc c us (.slice EA en ec)).toArray ∧ Blk W3 (w.heap.size + 1) 38 (hic c2 us2 (.slice EA2 en2 ec2) lv (.slice AA an ad)).toArray ∧ Blk W3 wb.heap.size 29 (scc c uw (.slice Aw mw dw)).toArray ∧ Keeps (fun b => wb.heap.size ≤ b) wb W3 := by
      have kr := keeps_row (wb.alloc (.cells #[.int .i64 0, .int .i64 0, .int .i64 0, .int .i64 0, .int .i64 0, .int .i64 0, .int .i64 0, .int .i64 0, .int .i64 0, .int .i64 0, .int .i64 0, .int .i64 0, .int .i64 0, .int .i64 0, .slice none 0 0, .slice none 0 0, .slice none 0 0, .slice none 0 0, .slice none 0 0, .slice none 0 0, .slice none 0 0, .slice none 0 0, .slice none 0 0] 29)) wb.heap.size (scc c uw (.slice Aw mw dw)).toArray
      have l0 := (H0.below_ hbw).lt
      have l1 := (H1.below_ hbw).lt
      exact ⟨_, rfl, kr.blk ((H0.below_ hbw).alloc _) (by omega), kr.blk ((H1.below_ hbw).alloc _) (by omega), (Blk.new wb 29 #[.int .i64 0, .int .i64 0, .int .i64 0, .int .i64 0, .int .i64 0, .int .i64 0, .int .i64 0, .int .i64 0, .int .i64 0, .int .i64 0, .int .i64 0, .int .i64 0, .int .i64 0, .int .i64 0, .slice none 0 0, .slice none 0 0, .slice none 0 0, .slice none 0 0, .slice none 0 0, .slice none 0 0, .slice none 0 0, .slice none 0 0, .slice none 0 0]).row _, ((Keeps.refl (fun b => wb.heap.size ≤ b) wb).alloc _).trans_ (kr.mono fun b h _ => by show _ ≤ _; omega)⟩
    simp only [Act.put]
    rw [hW3]
    have PW3 := (PW.old.keeps kk3).weak (S' := fun _ => False) (fun b h => h.elim)
    have SW3 := SW.keepS enc__len kk3 (fun _ ad _ hlt q => by omega) (by decide)
    have kw4 := kk3.below kwb kwb.size (fun x hx _ => by have := hbw.size; have := kw3.size; omega)
    have clv4 := hic_lv h82 I1
    have hmw : mw ≤ 1000000 := by have h1 := SW.len; have h2 := wE_le c c2 es es2 lv al; have h3 := hE.len; have h4 := hE2.len; omega
    have heq2 := equal_any (c := c) (c2 := c) PW3 SW3 (hP.below kw4) (hE.below kw4) hmw hen1 (wP_re hre hre2) hre lv
    rw [show eqTo c c (wP c c2 ps ps2 lv) ps (wE c c2 es es2 lv al) es lv = true from same_yes rfl (wP_to c c2 ps ps2 lv) (wE_to c c2 es es2 lv al)] at heq2
    have z1 := I1.lt
    have tok5 : True := trivial; have tok6 : True := trivial; have tok7 : True := trivial; have tok8 : True := trivial
    clear hW3 H0 H1 hwv kk3 hbw kwb clv3 c24 r1 holdw honew PW SW PW3 SW3
    go_wp2_with (first | (have _t := tok5; refine wpList_load_row (o := ⟨some 84, _, _, _, _, _⟩) rfl 29 (.tmp 6) rfl wb.heap.size rfl 29 _ _ _ I6 Try.underlying29 rfl hiw ?_; clear tok5 _t) | (have _t := tok6; refine wpList_load_row (o := ⟨some 85, _, _, _, _, _⟩) rfl 29 (.tmp 2) rfl w.heap.size rfl 29 _ _ _ I0 Try.underlying29 rfl hi0 ?_; clear tok6 _t) | (have _t := tok7; go_at_call 12; refine heq2.mono ?_; rintro e wy ⟨rfl, hby⟩; clear tok7 _t) | (have _t := tok8; go_at_call 7; refine (lives19 _).mono ?_; rintro e wl ⟨rfl, hbl⟩; clear tok8 _t))
    go_ret
    exact ⟨rfl, bnext (bnext kw4 hby) hbl⟩
theorem keeps_any {w : World} {c c2 : Cf} {us us2 : List Value} {ps ps2 : List (List CV)} {EA EA2 AA : Option Addr} {en ec en2 ec2 an ad : Nat} {es es2 : List En} {al : List Int} (hP : PIn (fun _ => False) w us ps) (hE : Sl enc_ w EA en ec es) (hP2 : PIn (fun _ => False) w us2 ps2) (hE2 : Sl enc_ w EA2 en2 ec2 es2) (hAl : Sl itc w AA an ad al) (hre : ∀ l, l ∈ ps → l.length * 56 ≤ 140737488351232) (hre2 : ∀ l, l ∈ ps2 → l.length * 56 ≤ 140737488351232) (lv : Int) (hlv : -9223372036854775808 ≤ lv) :
    Calls Try.prog 5 #[.agg (scc c us (.slice EA en ec)).toArray, .agg (hic c2 us2 (.slice EA2 en2 ec2) lv (.slice AA an ad)).toArray] w fun e w' => e = .returned (.bool true) ∧ Below w.heap.size w w' := by
  by_cases h1 : 2000 < en
  · exact keeps_x hP hP2 lv h1
  · by_cases h2 : 2000 < en2
    · exact keeps_y hP hP2 lv (by omega) h2
    · by_cases h3 : 2000 < an
      · exact keeps_z hP hP2 lv (by omega) (by omega) h3
      · exact keeps_m hP hE hP2 hE2 hAl hre hre2 lv (by omega) (by omega) (by omega) hlv
end Go.Proofs.Ytijffncgokcidaa
