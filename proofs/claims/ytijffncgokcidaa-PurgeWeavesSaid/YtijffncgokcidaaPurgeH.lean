/- Scripts: whether two, purged, are the same; the chapter's example. -/
import Derived.Test.YtijffncgokcidaaPurgeEE
import Derived.Test.YtijffncgokcidaaPurgeG
namespace Go.Proofs.Ytijffncgokcidaa
set_option linter.unusedVariables false
set_option linter.unusedSimpArgs false
open Go.RowKit

/-- A load of a whole block, its guard met. -/
theorem wpList_load_row_g {P : Program} {ops : Array Oper} {rest : List Oper} {o : Oper} {a : Act} {w : World} {Q : Exit → Act → World → Prop} (hgd : Region.wanted o (yielded ops a.tmps) = true) (ty : TypeId) (x : Operand) (ho : o.op = .load ty x)
    (g : Nat) (hx : a.eval x = .pointer (some ⟨g, 0, none⟩)) (t : TypeId) (cs : Array Value) (fr : Nat × Nat) (d : TypeDesc) (hg : w.heap[g]? = some (.cells cs t fr))
    (hu : P.underlying ty = some d) (hd : (match d with | .struct _ | .array _ _ => true | _ => false) = true) (hi : (P.info? ty).map (·.size) = some cs.size)
    (h : wpList P ops Q rest (a.put o.dst (.agg cs)) w) : wpList P ops Q (o :: rest) a w :=
  wpList_step fun K hK => by
    rw [if_pos hgd]
    exact wp_load_row ty x ho g hx t cs fr d hg hu hd hi (hK _ _ h)
/-- Are two scripts, purged, the same? -/
def eqTo (c c2 : Cf) (ps ps2 : List (List CV)) (es es2 : List En) (lv : Int) : Bool := sameB c c2 (psK (stTo c lv) ps 8) (psK (stTo c2 lv) ps2 8) (es.filter fun e => stTo c lv e.th) (es2.filter fun e => stTo c2 lv e.th)
theorem filt_le {w w' : World} {A B : Option Addr} {m d n c : Nat} {p : En → Bool} {es : List En} (h : Sl enc_ w A m d (es.filter p)) (h' : Sl enc_ w' B n c es) (hn : n ≤ 1000000) : m ≤ 1000000 := by
  have h1 := h.len
  have h2 := h'.len
  have h3 := List.length_filter_le p es
  omega
theorem psK_re {st : Int → Bool} {ps : List (List CV)} (h : ∀ l, l ∈ ps → l.length * 56 ≤ 140737488351232) : ∀ l, l ∈ psK st ps 8 → l.length * 56 ≤ 140737488351232 := by
  intro l hl
  unfold psK at hl
  obtain ⟨j, hj, rfl⟩ := List.mem_map.1 hl
  split
  · rw [List.getD_eq_getElem?_getD]
    cases hp : ps[j]? with
    | none => simp
    | some x => exact h x (List.mem_of_getElem? hp)
  · simp
set_option maxHeartbeats 4000000 in
set_option maxRecDepth 100000 in
theorem equal_any {w : World} {c c2 : Cf} {us us2 : List Value} {ps ps2 : List (List CV)} {EA EA2 : Option Addr} {en ec en2 ec2 : Nat} {es es2 : List En} (hP : PIn (fun _ => False) w us ps) (hE : Sl enc_ w EA en ec es) (hP2 : PIn (fun _ => False) w us2 ps2) (hE2 : Sl enc_ w EA2 en2 ec2 es2) (hen : en ≤ 1000000) (hen2 : en2 ≤ 1000000) (hre : ∀ l, l ∈ ps → l.length * 56 ≤ 140737488351232) (hre2 : ∀ l, l ∈ ps2 → l.length * 56 ≤ 140737488351232) (lv : Int) :
    Calls Try.prog 12 #[.agg (scc c us (.slice EA en ec)).toArray, .agg (scc c2 us2 (.slice EA2 en2 ec2)).toArray, .int .i64 lv] w fun e w' => e = .returned (.bool (eqTo c c2 ps ps2 es es2 lv)) ∧ Below w.heap.size w w' := by
  have hi0 := info_scc (c := c) (us := us) (ev := .slice EA en ec) hP.u8
  have hi1 := info_scc (c := c2) (us := us2) (ev := .slice EA2 en2 ec2) hP2.u8
  go_enter Try.func12, Try.ntmps12
  go_upto_region 1 with (fail)
  obtain ⟨W0, hW0, B0, B1, kb⟩ : ∃ W0, (w.alloc (.cells (scc c us (.slice EA en ec)).toArray 29)).alloc (.cells (scc c2 us2 (.slice EA2 en2 ec2)).toArray 29) = W0 ∧ Blk W0 w.heap.size 29 (scc c us (.slice EA en ec)).toArray ∧ Blk W0 (w.heap.size + 1) 29 (scc c2 us2 (.slice EA2 en2 ec2)).toArray ∧ Below w.heap.size w W0 := ⟨_, rfl, (Blk.new _ _ _).alloc _, by have := Blk.new (w.alloc (.cells (scc c us (.slice EA en ec)).toArray 29)) 29 (scc c2 us2 (.slice EA2 en2 ec2)).toArray; rwa [World.size_alloc] at this, bnew (bnew (brefl w) _) _⟩
  rw [hW0]
  clear hW0
  have hX := @Ext.cell W0
  refine wp_region_noPanic ?_
  refine wp_region_plan (fun w' => ∃ x : Ext W0, w' = x.w) [([0, 1, 3, 4], 2), ([], 5), ([], 6)] [7] (by kernel_rfl) (by kernel_rfl) (by kernel_rfl) (fun _ _ _ _ _ h => h) ⟨⟨_, (brefl W0).drew⟩, rfl⟩ ?_
  refine wpPlan_cons ?_
  simp only [pickOps, List.getElem?_cons_succ, List.getElem?_cons_zero, Option.elim_some]
  refine wpQuiet_load_row rfl 29 (.tmp 3) rfl w.heap.size rfl 29 _ _ (blk_ext B0) Try.underlying29 rfl hi0 ?_; simp only [Act.put, List.setIfInBounds_toArray, List.set_cons_succ, List.set_cons_zero]
  go_big_quiet_step (fail)
  refine wpQuiet_load_row rfl 29 (.tmp 4) rfl (w.heap.size + 1) rfl 29 _ _ (blk_ext B1) Try.underlying29 rfl hi1 ?_; simp only [Act.put, List.setIfInBounds_toArray, List.set_cons_succ, List.set_cons_zero]
  go_big_quiet_step (fail)
  refine wpQuiet_nil ?_
  refine planAct_some (fun K hK => ?_)
  go_simp
  refine (to_any lv (hP.below kb.drew) (hE.below kb.drew) hen hre).mono ?_
  rintro e wa ⟨ua, Aa, ma, da, rfl, PA, SA, hba⟩
  go_wp2_with fail
  refine hK.out _ _ ⟨⟨_, (bnext (brefl W0).drew hba)⟩, rfl⟩ ?_
  clear hK K
  refine wpPlan_cons ?_
  simp only [pickOps, List.getElem?_cons_succ, List.getElem?_cons_zero, Option.elim_some]
  repeat (go_big_quiet_step (fail))
  refine wpQuiet_nil ?_
  refine planAct_some (fun K hK => ?_)
  go_simp
  refine (to_any lv (hP2.below (bnext kb.drew hba)) (hE2.below (bnext kb.drew hba)) hen2 hre2).mono ?_
  rintro e wb ⟨ub, Ab, mb, db, rfl, PB, SB, hbb⟩
  go_wp2_with fail
  refine hK.out _ _ ⟨⟨_, (bnext (bnext (brefl W0).drew hba) hbb)⟩, rfl⟩ ?_
  clear hK K
  refine wpPlan_cons ?_
  simp only [pickOps, List.getElem?_cons_succ, List.getElem?_cons_zero, Option.elim_some]
  repeat (go_big_quiet_step (fail))
  refine wpQuiet_nil ?_
  refine planAct_some (fun K hK => ?_)
  go_simp
  refine (ssame_any (PA.below hbb) (SA.below hbb) PB SB (filt_le SA hE hen) (filt_le SB hE2 hen2) (psK_re hre) (psK_re hre2)).mono ?_
  rintro e wd ⟨rfl, hbd⟩
  go_wp2_with fail
  refine hK.out _ _ ⟨⟨_, (bnext (bnext (bnext (brefl W0).drew hba) hbb) hbd)⟩, rfl⟩ ?_
  clear hK K
  refine wpPlan_last ?_
  simp only [pickOps, List.getElem?_cons_succ, List.getElem?_cons_zero, Option.elim_some]
  repeat (go_big_quiet_step (fail))
  refine wpQuiet_nil ?_
  refine NoPanic.normal ?_
  clear hX
  go_wp2_with fail
  go_ret
  exact ⟨rfl, bnext (bnext (bnext kb.drew hba) hbb) hbd⟩
set_option maxHeartbeats 4000000 in
set_option maxRecDepth 100000 in
theorem requal_any {w : World} {c c2 : Cf} {us us2 : List Value} {ps ps2 : List (List CV)} {EA EA2 : Option Addr} {en ec en2 ec2 : Nat} {es es2 : List En} (hP : PIn (fun _ => False) w us ps) (hE : Sl enc_ w EA en ec es) (hP2 : PIn (fun _ => False) w us2 ps2) (hE2 : Sl enc_ w EA2 en2 ec2 es2) (hen : en ≤ 1000000) (hen2 : en2 ≤ 1000000) (hre : ∀ l, l ∈ ps → l.length * 56 ≤ 140737488351232) (hre2 : ∀ l, l ∈ ps2 → l.length * 56 ≤ 140737488351232) (lv : Int) :
    Calls Try.prog 13 #[.agg (scc c us (.slice EA en ec)).toArray, .agg (scc c2 us2 (.slice EA2 en2 ec2)).toArray, .int .i64 lv] w fun e w' => e = .returned (.bool (eqTo c c2 ps ps2 es es2 lv)) ∧ Below w.heap.size w w' := by
  have hi0 := info_scc (c := c) (us := us) (ev := .slice EA en ec) hP.u8
  have hi1 := info_scc (c := c2) (us := us2) (ev := .slice EA2 en2 ec2) hP2.u8
  go_enter Try.func13, Try.ntmps13
  go_upto_region 1 with (fail)
  obtain ⟨W0, hW0, B0, B1, kb⟩ : ∃ W0, (w.alloc (.cells (scc c us (.slice EA en ec)).toArray 29)).alloc (.cells (scc c2 us2 (.slice EA2 en2 ec2)).toArray 29) = W0 ∧ Blk W0 w.heap.size 29 (scc c us (.slice EA en ec)).toArray ∧ Blk W0 (w.heap.size + 1) 29 (scc c2 us2 (.slice EA2 en2 ec2)).toArray ∧ Below w.heap.size w W0 := ⟨_, rfl, (Blk.new _ _ _).alloc _, by have := Blk.new (w.alloc (.cells (scc c us (.slice EA en ec)).toArray 29)) 29 (scc c2 us2 (.slice EA2 en2 ec2)).toArray; rwa [World.size_alloc] at this, bnew (bnew (brefl w) _) _⟩
  rw [hW0]
  clear hW0
  have hX := @Ext.cell W0
  refine wp_region_noPanic ?_
  refine wp_region_plan (fun w' => ∃ x : Ext W0, w' = x.w) [([0, 1, 3, 4], 2), ([], 5), ([], 6)] [7] (by kernel_rfl) (by kernel_rfl) (by kernel_rfl) (fun _ _ _ _ _ h => h) ⟨⟨_, (brefl W0).drew⟩, rfl⟩ ?_
  refine wpPlan_cons ?_
  simp only [pickOps, List.getElem?_cons_succ, List.getElem?_cons_zero, Option.elim_some]
  refine wpQuiet_load_row rfl 29 (.tmp 3) rfl w.heap.size rfl 29 _ _ (blk_ext B0) Try.underlying29 rfl hi0 ?_; simp only [Act.put, List.setIfInBounds_toArray, List.set_cons_succ, List.set_cons_zero]
  go_big_quiet_step (fail)
  refine wpQuiet_load_row rfl 29 (.tmp 4) rfl (w.heap.size + 1) rfl 29 _ _ (blk_ext B1) Try.underlying29 rfl hi1 ?_; simp only [Act.put, List.setIfInBounds_toArray, List.set_cons_succ, List.set_cons_zero]
  go_big_quiet_step (fail)
  refine wpQuiet_nil ?_
  refine planAct_some (fun K hK => ?_)
  go_simp
  refine (rkeep_to lv (hP.below kb.drew) (hE.below kb.drew) hen).mono ?_
  rintro e wa ⟨ua, Aa, ma, da, rfl, PA, SA, hba⟩
  go_wp2_with fail
  refine hK.out _ _ ⟨⟨_, (bnext (brefl W0).drew hba)⟩, rfl⟩ ?_
  clear hK K
  refine wpPlan_cons ?_
  simp only [pickOps, List.getElem?_cons_succ, List.getElem?_cons_zero, Option.elim_some]
  repeat (go_big_quiet_step (fail))
  refine wpQuiet_nil ?_
  refine planAct_some (fun K hK => ?_)
  go_simp
  refine (rkeep_to lv (hP2.below (bnext kb.drew hba)) (hE2.below (bnext kb.drew hba)) hen2).mono ?_
  rintro e wb ⟨ub, Ab, mb, db, rfl, PB, SB, hbb⟩
  go_wp2_with fail
  refine hK.out _ _ ⟨⟨_, (bnext (bnext (brefl W0).drew hba) hbb)⟩, rfl⟩ ?_
  clear hK K
  refine wpPlan_cons ?_
  simp only [pickOps, List.getElem?_cons_succ, List.getElem?_cons_zero, Option.elim_some]
  repeat (go_big_quiet_step (fail))
  refine wpQuiet_nil ?_
  refine planAct_some (fun K hK => ?_)
  go_simp
  refine (same_any (PA.below hbb) (SA.below hbb) PB SB (filt_le SA hE hen) (filt_le SB hE2 hen2) (psK_re hre) (psK_re hre2)).mono ?_
  rintro e wd ⟨rfl, hbd⟩
  go_wp2_with fail
  refine hK.out _ _ ⟨⟨_, (bnext (bnext (bnext (brefl W0).drew hba) hbb) hbd)⟩, rfl⟩ ?_
  clear hK K
  refine wpPlan_last ?_
  simp only [pickOps, List.getElem?_cons_succ, List.getElem?_cons_zero, Option.elim_some]
  repeat (go_big_quiet_step (fail))
  refine wpQuiet_nil ?_
  refine NoPanic.normal ?_
  clear hX
  go_wp2_with fail
  go_ret
  exact ⟨rfl, bnext (bnext (bnext kb.drew hba) hbb) hbd⟩

/-- The chapter's example. -/
def cE : Cf := ⟨2, 2, 0, 1, 0, 0, 0, 0, 0, 0, 2, 1, 1, 0⟩
def esE : List En := [⟨0, 0⟩, ⟨1, 0⟩, ⟨1, 0⟩]
theorem pE (w : World) : PIn (fun _ => False) w nil8 ((List.range 8).map fun _ => []) := (PIn.nil _ w (fun _ => true) []).weak (fun b h => h)
theorem fE0 : (esE.filter fun e => stTo cE 0 e.th).length = 1 := by decide
theorem fE1 : (esE.filter fun e => stTo cE 1 e.th).length = 3 := by decide
set_option maxHeartbeats 4000000 in
set_option maxRecDepth 100000 in
theorem field_sc (x0 x1 x2 x3 x4 x5 x6 x7 x8 x9 x10 x11 x12 x13 x14 x15 x16 x17 x18 x19 x20 x21 x22 : Value) (h : x22.oneCell' = true) (w : World) : (Instr.field 29 (.agg #[x0, x1, x2, x3, x4, x5, x6, x7, x8, x9, x10, x11, x12, x13, x14, x15, x16, x17, x18, x19, x20, x21, x22]) 2).run Try.prog w = .ok x22 w := by
  simp [Instr.field, go_sem, asAgg]
set_option maxHeartbeats 4000000 in
set_option maxRecDepth 100000 in
theorem lives19 (w : World) : Calls Try.prog 7 #[] w fun e w' => e = .returned (.bool true) ∧ Below w.heap.size w w' := by
  go_enter Try.func7, Try.ntmps7
  have tok2 : True := trivial
  go_upto_region 2 with (have _t := tok2; refine wpList_store_row (o := ⟨none, .store 29 (.tmp 1) (.tmp 8), _, _, _, _⟩) rfl 29 (.tmp 1) (.tmp 8) rfl (w.heap.size + 1) _ rfl rfl 29 _ (by have := Blk.new (w.alloc (.cells #[.int .i64 0, .int .i64 0, .int .i64 1, .int .i64 0, .int .i64 1, .int .i64 0] 42)) 29 #[.int .i64 0, .int .i64 0, .int .i64 0, .int .i64 0, .int .i64 0, .int .i64 0, .int .i64 0, .int .i64 0, .int .i64 0, .int .i64 0, .int .i64 0, .int .i64 0, .int .i64 0, .int .i64 0, .slice none 0 0, .slice none 0 0, .slice none 0 0, .slice none 0 0, .slice none 0 0, .slice none 0 0, .slice none 0 0, .slice none 0 0, .slice none 0 0]; rwa [World.size_alloc] at this) (by kernel_rfl) (by simp) (by simp [Value.oneCell']) ?_; clear tok2 _t)
  obtain ⟨W1, hW1, B1, S1, kb⟩ : ∃ W1, ((w.alloc (.cells #[.int .i64 0, .int .i64 0, .int .i64 1, .int .i64 0, .int .i64 1, .int .i64 0] 42)).alloc (.cells #[.int .i64 0, .int .i64 0, .int .i64 0, .int .i64 0, .int .i64 0, .int .i64 0, .int .i64 0, .int .i64 0, .int .i64 0, .int .i64 0, .int .i64 0, .int .i64 0, .int .i64 0, .int .i64 0, .slice none 0 0, .slice none 0 0, .slice none 0 0, .slice none 0 0, .slice none 0 0, .slice none 0 0, .slice none 0 0, .slice none 0 0, .slice none 0 0] 29)).setRow (w.heap.size + 1) #[.int .i64 2, .int .i64 2, .int .i64 0, .int .i64 1, .int .i64 0, .int .i64 0, .int .i64 0, .int .i64 0, .int .i64 0, .int .i64 0, .int .i64 2, .int .i64 1, .int .i64 1, .int .i64 0, .slice none 0 0, .slice none 0 0, .slice none 0 0, .slice none 0 0, .slice none 0 0, .slice none 0 0, .slice none 0 0, .slice none 0 0, .slice (some ⟨w.heap.size, 0, none⟩) 3 3] = W1 ∧ Blk W1 (w.heap.size + 1) 29 (scc cE nil8 (.slice (some ⟨w.heap.size, 0, none⟩) 3 3)).toArray ∧ Sl enc_ W1 (some ⟨w.heap.size, 0, none⟩) 3 3 esE ∧ Below w.heap.size w W1 := by
    have kr := keeps_row ((w.alloc (.cells #[.int .i64 0, .int .i64 0, .int .i64 1, .int .i64 0, .int .i64 1, .int .i64 0] 42)).alloc (.cells #[.int .i64 0, .int .i64 0, .int .i64 0, .int .i64 0, .int .i64 0, .int .i64 0, .int .i64 0, .int .i64 0, .int .i64 0, .int .i64 0, .int .i64 0, .int .i64 0, .int .i64 0, .int .i64 0, .slice none 0 0, .slice none 0 0, .slice none 0 0, .slice none 0 0, .slice none 0 0, .slice none 0 0, .slice none 0 0, .slice none 0 0, .slice none 0 0] 29)) (w.heap.size + 1) #[.int .i64 2, .int .i64 2, .int .i64 0, .int .i64 1, .int .i64 0, .int .i64 0, .int .i64 0, .int .i64 0, .int .i64 0, .int .i64 0, .int .i64 2, .int .i64 1, .int .i64 1, .int .i64 0, .slice none 0 0, .slice none 0 0, .slice none 0 0, .slice none 0 0, .slice none 0 0, .slice none 0 0, .slice none 0 0, .slice none 0 0, .slice (some ⟨w.heap.size, 0, none⟩) 3 3]
    have h1 := Blk.new (w.alloc (.cells #[.int .i64 0, .int .i64 0, .int .i64 1, .int .i64 0, .int .i64 1, .int .i64 0] 42)) 29 #[.int .i64 0, .int .i64 0, .int .i64 0, .int .i64 0, .int .i64 0, .int .i64 0, .int .i64 0, .int .i64 0, .int .i64 0, .int .i64 0, .int .i64 0, .int .i64 0, .int .i64 0, .int .i64 0, .slice none 0 0, .slice none 0 0, .slice none 0 0, .slice none 0 0, .slice none 0 0, .slice none 0 0, .slice none 0 0, .slice none 0 0, .slice none 0 0]
    rw [World.size_alloc] at h1
    refine ⟨_, rfl, h1.row _, ?_, kr.below (bnew (bnew (brefl w) _) _) (by simp; omega) (fun x hx _ => by omega)⟩
    exact ⟨rfl, Nat.le_refl _, (kr.blk ((Blk.new w 42 #[.int .i64 0, .int .i64 0, .int .i64 1, .int .i64 0, .int .i64 1, .int .i64 0]).alloc _) (by omega)).rd, fun q => by cases q⟩
  simp only [Act.put]
  rw [hW1]
  clear hW1
  have hi := info_scc (c := cE) (us := nil8) (ev := .slice (some ⟨w.heap.size, 0, none⟩) 3 3) rfl
  have hre : ∀ l, l ∈ ((List.range 8).map fun _ => ([] : List CV)) → l.length * 56 ≤ 140737488351232 := fun l hl => by
    obtain ⟨_, _, rfl⟩ := List.mem_map.1 hl
    simp
  have hc0 := fun (W : World) (hW : Below W1.heap.size W1 W) => to_any (c := cE) 0 (pE W) (S1.below hW) (by decide) hre
  have hc1 := fun (W : World) (hW : Below W1.heap.size W1 W) => to_any (c := cE) 1 (pE W) (S1.below hW) (by decide) hre
  have hfs := fun (x0 : Value) (x1 : Value) (x2 : Value) (x3 : Value) (x4 : Value) (x5 : Value) (x6 : Value) (x7 : Value) (x8 : Value) (x9 : Value) (x10 : Value) (x11 : Value) (x12 : Value) (x13 : Value) (x14 : Value) (x15 : Value) (x16 : Value) (x17 : Value) (x18 : Value) (x19 : Value) (x20 : Value) (x21 : Value) (A : Option Addr) (n d : Nat) => field_sc x0 x1 x2 x3 x4 x5 x6 x7 x8 x9 x10 x11 x12 x13 x14 x15 x16 x17 x18 x19 x20 x21 (.slice A n d) rfl
  have tok1 : True := trivial
  have tok2 : True := trivial
  have tok3 : True := trivial
  have tok4 : True := trivial
  go_wp2_with (first | (have _t := tok1; refine wpList_load_row (o := ⟨some 9, _, _, _, _, _⟩) rfl 29 (.tmp 1) rfl (w.heap.size + 1) rfl 29 _ _ _ B1 Try.underlying29 rfl hi ?_; clear tok1 _t) | (have _t := tok2; go_at_call 9; refine (hc0 _ (brefl W1)).mono ?_; rintro e wa ⟨us', A, m, d, rfl, P1, S3, hb1⟩; obtain ⟨a0, a1, a2, a3, a4, a5, a6, a7, rfl⟩ := vals8 P1.u8; obtain rfl : m = 1 := (by have := S3.len; rw [fE0] at this; omega); have B2 := B1.below_ hb1; clear tok2 _t; simp only [scc, cfc, List.cons_append, List.nil_append]) | (have _t := tok3; refine wpList_load_row_g (o := ⟨some 15, _, _, _, _, _⟩) rfl 29 (.tmp 1) rfl (w.heap.size + 1) rfl 29 _ _ _ B2 Try.underlying29 rfl hi ?_; clear tok3 _t) | (have _t := tok4; go_at_call 9; refine (hc1 _ hb1).mono ?_; rintro e wb ⟨us'', A2, m2, d2, rfl, P4, S4, hb2⟩; obtain ⟨b0, b1, b2, b3, b4, b5, b6, b7, rfl⟩ := vals8 P4.u8; obtain rfl : m2 = 3 := (by have := S4.len; rw [fE1] at this; omega); clear tok4 _t; simp only [scc, cfc, List.cons_append, List.nil_append]))
  go_ret
  exact ⟨rfl, bnext (bnext kb hb1) hb2⟩
end Go.Proofs.Ytijffncgokcidaa
