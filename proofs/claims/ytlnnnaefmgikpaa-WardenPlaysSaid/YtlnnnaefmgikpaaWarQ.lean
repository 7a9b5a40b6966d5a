/- The law's do. -/
import Derived.Test.YtlnnnaefmgikpaaWarP
import Derived.Test.YtlnnnaefmgikpaaWarI
namespace Go.Proofs.Ytlnnnaefmgikpaa
set_option linter.unusedVariables false
set_option linter.unusedSimpArgs false
open Go.RowKit

theorem WB.lts {w : World} {p bh bg N : Nat} {s : St} (h : WB w p bh bg N s) : p < w.heap.size ∧ bh < w.heap.size ∧ bg < w.heap.size := ⟨h.box.lt, h.mh.lt, h.mg.elim fun _ hm => hm.lt⟩
def FD (p bh bg q : Nat) : Nat → Prop := fun x => x = p ∨ x = bh ∨ x = bg ∨ x = q
structure ExtD (p bh bg q : Nat) (W : World) where
  w : World
  k : Keeps (FD p bh bg q) W w
theorem ExtD.cell {p bh bg q : Nat} {W : World} (x : ExtD p bh bg q W) (b o : Nat) (h : b < W.heap.size) (h1 : b ≠ p) (h2 : b ≠ bh) (h3 : b ≠ bg) (h4 : b ≠ q) : x.w.cell? ⟨b, o, none⟩ = W.cell? ⟨b, o, none⟩ := World.cell?_of_block (w := W) (x.k.block b h (by unfold FD; omega))
instance instNonemptyExtD (p bh bg q : Nat) (W : World) : Nonempty (ExtD p bh bg q W) := ⟨⟨W, Keeps.refl _ W⟩⟩
theorem fd_set {p bh bg q o : Nat} {v : Value} {a w : World} (h : Keeps (FD p bh bg q) a w) : Keeps (FD p bh bg q) a (w.setCell ⟨q, o, none⟩ v) := h.setCell (fun _ => .inr (.inr (.inr rfl))) v
theorem keeps_fd {w w' : World} {p bh bg q : Nat} (h : Keeps (fun x => x = p ∨ x = bh ∨ x = bg) w w') : Keeps (FD p bh bg q) w w' := h.mono fun x hx _ => by
  unfold FD
  omega
set_option maxHeartbeats 4000000 in
set_option maxRecDepth 100000 in
theorem do_take {w : World} {p bh bg N : Nat} {A : Option Addr} {c L M : Nat} {s : St} {P : Nat → Prop} (h : WB w p bh bg N s) (hp : RP w A c L M s P) (hP : ∀ b, P b → b ≠ p ∧ b ≠ bh ∧ b ≠ bg) (hN : N ≤ 900000) (hS : 0 ≤ s.slips ∧ s.slips ≤ 1000000) (hG : ∀ a b, 0 ≤ s.G a b ∧ s.G a b ≤ 1000000) (a b : Int) : Calls Try.prog 14 #[.pointer (some ⟨p, 0, none⟩), (.agg #[.slice A L c, .int .i64 s.slips]), .agg #[.bool true, .int .i64 a, .int .i64 b]] w fun e w' => ∃ A' c', e = .returned (.tuple #[.agg #[.slice A' L c', .int .i64 (s.take a b).slips], .bool true]) ∧ RP w' A' c' L M (s.take a b) (fun b => P b ∨ w.heap.size ≤ b) ∧ WB w' p bh bg (N + 1) (s.take a b) ∧ Keeps (fun x => x = p ∨ x = bh ∨ x = bg) w w' := by
  obtain ⟨l1, l2, l3⟩ := h.lts
  have n1 : w.heap.size + 1 ≠ p := by omega
  have n2 : w.heap.size + 1 ≠ bh := by omega
  have n3 : w.heap.size + 1 ≠ bg := by omega
  have n4 : w.heap.size + 1 ≠ w.heap.size + 1 + 1 := by omega
  obtain ⟨W1, hW1, B4, B5, B6, h1, r1, kb1⟩ : ∃ W1, ((w.alloc (.cells #[.slice A L c, .int .i64 s.slips] 38)).alloc (.cells #[.bool true, .int .i64 a, .int .i64 b] 24)).alloc (.cells #[.slice none 0 0, .int .i64 0] 38) = W1 ∧ Blk W1 w.heap.size 38 #[.slice A L c, .int .i64 s.slips] ∧ Blk W1 (w.heap.size + 1) 24 #[.bool true, .int .i64 a, .int .i64 b] ∧ Blk W1 (w.heap.size + 1 + 1) 38 #[.slice none 0 0, .int .i64 0] ∧ WB W1 p bh bg N s ∧ RP W1 A c L M s (fun b => P b ∧ b < w.heap.size) ∧ Below w.heap.size w W1 := by
    have k := bnew (bnew (bnew (brefl w) (.cells #[.slice A L c, .int .i64 s.slips] 38)) (.cells #[.bool true, .int .i64 a, .int .i64 b] 24)) (.cells #[.slice none 0 0, .int .i64 0] 38)
    refine ⟨_, rfl, ((Blk.new _ _ _).alloc _).alloc _, ?_, ?_, h.below k, hp.lt.below k, k⟩
    · have := (Blk.new (w.alloc (.cells #[.slice A L c, .int .i64 s.slips] 38)) 24 #[.bool true, .int .i64 a, .int .i64 b]).alloc (.cells #[.slice none 0 0, .int .i64 0] 38)
      rwa [World.size_alloc] at this
    · have := Blk.new ((w.alloc (.cells #[.slice A L c, .int .i64 s.slips] 38)).alloc (.cells #[.bool true, .int .i64 a, .int .i64 b] 24)) 38 #[.slice none 0 0, .int .i64 0]
      rwa [World.size_alloc, World.size_alloc] at this
  go_enter Try.func14, Try.ntmps14
  go_upto_region 1 with (fail)
  clear hW1 h hp
  have d0 : W1.cell? ⟨w.heap.size, 0, none⟩ = some (.slice A L c) := B4.cell 0
  have d1 : W1.cell? ⟨w.heap.size, 1, none⟩ = some (.int .i64 s.slips) := B4.cell 1
  have c5 : W1.cell? ⟨w.heap.size + 1, 0, none⟩ = some (.bool true) := B5.cell 0
  have c6 : W1.cell? ⟨w.heap.size + 1, 1, none⟩ = some (.int .i64 a) := B5.cell 1
  have c7 : W1.cell? ⟨w.heap.size + 1, 2, none⟩ = some (.int .i64 b) := B5.cell 2
  have zz := B4.lt
  have zz1 := B5.lt
  have zz2 := B6.lt
  have hst := rtake_any r1 hS hG a b
  go_upto_region 3 with (go_at_call 24; refine hst.mono ?_; rintro e W2 ⟨A2, a2, rfl, r2, hb2⟩; clear hst)
  have m1 : w.heap.size + 1 ≠ W2.heap.size := by have := hb2.size; omega
  have m2 : w.heap.size + 1 + 1 ≠ W2.heap.size := by have := hb2.size; omega
  have nq := hb2.size
  obtain ⟨W3, hW3, B8, B5, B6, h3, r3, kb3⟩ : ∃ W3, W2.alloc (.cells #[.slice A2 L a2, .int .i64 (s.take a b).slips] 38) = W3 ∧ Blk W3 W2.heap.size 38 #[.slice A2 L a2, .int .i64 (s.take a b).slips] ∧ Blk W3 (w.heap.size + 1) 24 #[.bool true, .int .i64 a, .int .i64 b] ∧ Blk W3 (w.heap.size + 1 + 1) 38 #[.slice none 0 0, .int .i64 0] ∧ WB W3 p bh bg N s ∧ RP W3 A2 a2 L M (s.take a b) (fun b => (P b ∧ b < w.heap.size) ∨ W1.heap.size ≤ b) ∧ Below w.heap.size w W3 := ⟨_, rfl, Blk.new _ _ _, (B5.below_ hb2).alloc _, (B6.below_ hb2).alloc _, (h1.below hb2).below (bnew (brefl W2) _), r2.below (bnew (brefl W2) _), bnew (bnext kb1 hb2) _⟩
  rw [hW3]
  have p1 : W2.heap.size ≠ p := by omega
  have p2 : W2.heap.size ≠ bh := by omega
  have p3 : W2.heap.size ≠ bg := by omega
  have p4 : W2.heap.size ≠ w.heap.size + 1 + 1 := by omega
  clear hW3 d0 d1 c5 c6 c7 h1 r1 r2 hb2 B4
  have c8 : W3.cell? ⟨W2.heap.size, 0, none⟩ = some (.slice A2 L a2) := B8.cell 0
  have c9 : W3.cell? ⟨W2.heap.size, 1, none⟩ = some (.int .i64 (s.take a b).slips) := B8.cell 1
  have c5 : W3.cell? ⟨w.heap.size + 1, 0, none⟩ = some (.bool true) := B5.cell 0
  have c6 : W3.cell? ⟨w.heap.size + 1, 1, none⟩ = some (.int .i64 a) := B5.cell 1
  have c7 : W3.cell? ⟨w.heap.size + 1, 2, none⟩ = some (.int .i64 b) := B5.cell 2
  have hno : ¬ (w.heap.size + 1 + 1 = p ∨ w.heap.size + 1 + 1 = bh ∨ w.heap.size + 1 + 1 = bg) := by omega
  have hX := @ExtD.cell p bh bg (w.heap.size + 1 + 1) W3
  have hzz0 := block_lt_of_cell c8
  have hzz1 := block_lt_of_cell c5
  refine wp_region_noPanic ?_
  refine wp_region_plan (fun w' => ∃ x : ExtD p bh bg (w.heap.size + 1 + 1) W3, w' = x.w) [([0, 1, 2, 3, 4, 5, 7], 6), ([8], 9)] [10] (by kernel_rfl) (by kernel_rfl) (by kernel_rfl) (fun _ _ _ _ _ h => h) ⟨⟨_, (Keeps.refl _ W3).drew⟩, rfl⟩ ?_
  refine wpPlan_cons ?_
  simp only [pickOps, List.getElem?_cons_succ, List.getElem?_cons_zero, Option.elim_some]
  repeat (go_big_quiet_step (fail))
  refine wpQuiet_nil ?_
  refine planAct_some (fun K hK => ?_)
  go_simp
  refine (take_any (h3.below (brefl W3).drew) hN a b).mono ?_
  rintro e1 x1 ⟨rfl, g1, q1⟩; have m1 : Keeps (FD p bh bg (w.heap.size + 1 + 1)) W3 x1 := (Keeps.refl _ W3).drew.trans_ (keeps_fd q1); have B7 := q1.blk B6.drew hno; have y0 := B7.cell_ (i := 0) rfl; have y1 := B7.cell_ (i := 1) rfl; have y2 := B7.frozen 0; have y3 := B7.frozen 1; have y4 := B7.lt
  go_wp2_with fail
  refine hK.out _ _ ⟨⟨_, m1⟩, rfl⟩ ?_
  clear hK K
  refine wpPlan_cons ?_
  simp only [pickOps, List.getElem?_cons_succ, List.getElem?_cons_zero, Option.elim_some]
  repeat (go_big_quiet_step (fail))
  refine wpQuiet_nil ?_
  refine planAct_some (fun K hK => ?_)
  go_simp
  refine hK.out _ _ ⟨⟨_, (fd_set (fd_set m1))⟩, rfl⟩ ?_
  clear hK K
  refine wpPlan_last ?_
  simp only [pickOps, List.getElem?_cons_succ, List.getElem?_cons_zero, Option.elim_some]
  repeat (go_big_quiet_step (fail))
  refine wpQuiet_nil ?_
  refine NoPanic.normal ?_
  clear hX hzz0 hzz1
  have HK : Keeps (FD p bh bg (w.heap.size + 1 + 1)) W3 ((x1.setCell ⟨w.heap.size + 1 + 1, 0, none⟩ (.slice A2 L a2)).setCell ⟨w.heap.size + 1 + 1, 1, none⟩ (.int .i64 (s.take a b).slips)) := fd_set (fd_set m1)
  have o1 : p ≠ w.heap.size + 1 + 1 := by omega
  have o2 : bh ≠ w.heap.size + 1 + 1 := by omega
  have o3 : bg ≠ w.heap.size + 1 + 1 := by omega
  have B6x := (B7.set_ 0 (.slice A2 L a2)).set_ 1 (.int .i64 (s.take a b).slips)
  have g2 := g1.keeps (((Keeps.refl (fun x => x = w.heap.size + 1 + 1) x1).setCell (p := ⟨w.heap.size + 1 + 1, 0, none⟩) (fun _ => rfl) (.slice A2 L a2)).setCell (p := ⟨w.heap.size + 1 + 1, 1, none⟩) (fun _ => rfl) (.int .i64 (s.take a b).slips)) o1 o2 o3
  have r4 := r3.keeps HK (fun b hb hf => by
    have hs := kb1.size
    have := hP b
    unfold FD at hf
    rcases hb with ⟨hb, hb2⟩ | hb
    · have := hP b hb
      omega
    · omega)
  have KE : Keeps (fun x => x = p ∨ x = bh ∨ x = bg) w ((x1.setCell ⟨w.heap.size + 1 + 1, 0, none⟩ (.slice A2 L a2)).setCell ⟨w.heap.size + 1 + 1, 1, none⟩ (.int .i64 (s.take a b).slips)) := (Keeps.of_below (S := (fun x => x = p ∨ x = bh ∨ x = bg)) kb3).trans HK (fun x hx hl => by
    unfold FD at hx
    show x = p ∨ x = bh ∨ x = bg
    omega)
  obtain ⟨WE, hWE⟩ : ∃ WE, ((x1.setCell ⟨w.heap.size + 1 + 1, 0, none⟩ (.slice A2 L a2)).setCell ⟨w.heap.size + 1 + 1, 1, none⟩ (.int .i64 (s.take a b).slips)) = WE := ⟨_, rfl⟩
  rw [hWE] at B6x g2 r4 KE
  go_wp2_with fail
  rw [hWE]
  clear hWE HK
  have z8 := B6x.cell 0
  have z9 := B6x.cell 1
  have hzE := B6x.lt
  simp at z8 z9
  refine bodyPost_ret (v := .tuple #[.agg #[.slice A2 L a2, .int .i64 (s.take a b).slips], .bool true]) (by simp [results, Try.results14, go_sem, z8, z9, hzE]) rfl ⟨_, _, rfl, r4.mono (fun b q => q.elim (fun a => .inl a.1) (fun a => .inr (Nat.le_trans kb1.size a))), g2, KE⟩
set_option maxHeartbeats 4000000 in
set_option maxRecDepth 100000 in
theorem do_drop {w : World} {p bh bg N : Nat} {A : Option Addr} {c L M : Nat} {s : St} {P : Nat → Prop} (h : WB w p bh bg N s) (hp : RP w A c L M s P) (hP : ∀ b, P b → b ≠ p ∧ b ≠ bh ∧ b ≠ bg) (hN : N ≤ 900000) (hS : 0 ≤ s.slips ∧ s.slips ≤ 1000000) (hG : ∀ a b, 0 ≤ s.G a b ∧ s.G a b ≤ 1000000) (a b : Int) : Calls Try.prog 14 #[.pointer (some ⟨p, 0, none⟩), (.agg #[.slice A L c, .int .i64 s.slips]), .agg #[.bool false, .int .i64 a, .int .i64 b]] w fun e w' => ∃ A' c', e = .returned (.tuple #[.agg #[.slice A' L c', .int .i64 (s.drop a b).slips], .bool true]) ∧ RP w' A' c' L M (s.drop a b) (fun b => P b ∨ w.heap.size ≤ b) ∧ WB w' p bh bg (N + 1) (s.drop a b) ∧ Keeps (fun x => x = p ∨ x = bh ∨ x = bg) w w' := by
  obtain ⟨l1, l2, l3⟩ := h.lts
  have n1 : w.heap.size + 1 ≠ p := by omega
  have n2 : w.heap.size + 1 ≠ bh := by omega
  have n3 : w.heap.size + 1 ≠ bg := by omega
  have n4 : w.heap.size + 1 ≠ w.heap.size + 1 + 1 := by omega
  obtain ⟨W1, hW1, B4, B5, B6, h1, r1, kb1⟩ : ∃ W1, ((w.alloc (.cells #[.slice A L c, .int .i64 s.slips] 38)).alloc (.cells #[.bool false, .int .i64 a, .int .i64 b] 24)).alloc (.cells #[.slice none 0 0, .int .i64 0] 38) = W1 ∧ Blk W1 w.heap.size 38 #[.slice A L c, .int .i64 s.slips] ∧ Blk W1 (w.heap.size + 1) 24 #[.bool false, .int .i64 a, .int .i64 b] ∧ Blk W1 (w.heap.size + 1 + 1) 38 #[.slice none 0 0, .int .i64 0] ∧ WB W1 p bh bg N s ∧ RP W1 A c L M s (fun b => P b ∧ b < w.heap.size) ∧ Below w.heap.size w W1 := by
    have k := bnew (bnew (bnew (brefl w) (.cells #[.slice A L c, .int .i64 s.slips] 38)) (.cells #[.bool false, .int .i64 a, .int .i64 b] 24)) (.cells #[.slice none 0 0, .int .i64 0] 38)
    refine ⟨_, rfl, ((Blk.new _ _ _).alloc _).alloc _, ?_, ?_, h.below k, hp.lt.below k, k⟩
    · have := (Blk.new (w.alloc (.cells #[.slice A L c, .int .i64 s.slips] 38)) 24 #[.bool false, .int .i64 a, .int .i64 b]).alloc (.cells #[.slice none 0 0, .int .i64 0] 38)
      rwa [World.size_alloc] at this
    · have := Blk.new ((w.alloc (.cells #[.slice A L c, .int .i64 s.slips] 38)).alloc (.cells #[.bool false, .int .i64 a, .int .i64 b] 24)) 38 #[.slice none 0 0, .int .i64 0]
      rwa [World.size_alloc, World.size_alloc] at this
  go_enter Try.func14, Try.ntmps14
  go_upto_region 1 with (fail)
  clear hW1 h hp
  have d0 : W1.cell? ⟨w.heap.size, 0, none⟩ = some (.slice A L c) := B4.cell 0
  have d1 : W1.cell? ⟨w.heap.size, 1, none⟩ = some (.int .i64 s.slips) := B4.cell 1
  have c5 : W1.cell? ⟨w.heap.size + 1, 0, none⟩ = some (.bool false) := B5.cell 0
  have c6 : W1.cell? ⟨w.heap.size + 1, 1, none⟩ = some (.int .i64 a) := B5.cell 1
  have c7 : W1.cell? ⟨w.heap.size + 1, 2, none⟩ = some (.int .i64 b) := B5.cell 2
  have zz := B4.lt
  have zz1 := B5.lt
  have zz2 := B6.lt
  have hst := rdrop_any r1 hS hG a b
  go_upto_region 5 with (go_at_call 25; refine hst.mono ?_; rintro e W2 ⟨A2, a2, rfl, r2, hb2⟩; clear hst)
  have m1 : w.heap.size + 1 ≠ W2.heap.size := by have := hb2.size; omega
  have m2 : w.heap.size + 1 + 1 ≠ W2.heap.size := by have := hb2.size; omega
  have nq := hb2.size
  obtain ⟨W3, hW3, B8, B5, B6, h3, r3, kb3⟩ : ∃ W3, W2.alloc (.cells #[.slice A2 L a2, .int .i64 (s.drop a b).slips] 38) = W3 ∧ Blk W3 W2.heap.size 38 #[.slice A2 L a2, .int .i64 (s.drop a b).slips] ∧ Blk W3 (w.heap.size + 1) 24 #[.bool false, .int .i64 a, .int .i64 b] ∧ Blk W3 (w.heap.size + 1 + 1) 38 #[.slice none 0 0, .int .i64 0] ∧ WB W3 p bh bg N s ∧ RP W3 A2 a2 L M (s.drop a b) (fun b => (P b ∧ b < w.heap.size) ∨ W1.heap.size ≤ b) ∧ Below w.heap.size w W3 := ⟨_, rfl, Blk.new _ _ _, (B5.below_ hb2).alloc _, (B6.below_ hb2).alloc _, (h1.below hb2).below (bnew (brefl W2) _), r2.below (bnew (brefl W2) _), bnew (bnext kb1 hb2) _⟩
  rw [hW3]
  have p1 : W2.heap.size ≠ p := by omega
  have p2 : W2.heap.size ≠ bh := by omega
  have p3 : W2.heap.size ≠ bg := by omega
  have p4 : W2.heap.size ≠ w.heap.size + 1 + 1 := by omega
  clear hW3 d0 d1 c5 c6 c7 h1 r1 r2 hb2 B4
  have c8 : W3.cell? ⟨W2.heap.size, 0, none⟩ = some (.slice A2 L a2) := B8.cell 0
  have c9 : W3.cell? ⟨W2.heap.size, 1, none⟩ = some (.int .i64 (s.drop a b).slips) := B8.cell 1
  have c5 : W3.cell? ⟨w.heap.size + 1, 0, none⟩ = some (.bool false) := B5.cell 0
  have c6 : W3.cell? ⟨w.heap.size + 1, 1, none⟩ = some (.int .i64 a) := B5.cell 1
  have c7 : W3.cell? ⟨w.heap.size + 1, 2, none⟩ = some (.int .i64 b) := B5.cell 2
  have hno : ¬ (w.heap.size + 1 + 1 = p ∨ w.heap.size + 1 + 1 = bh ∨ w.heap.size + 1 + 1 = bg) := by omega
  have hX := @ExtD.cell p bh bg (w.heap.size + 1 + 1) W3
  have hzz0 := block_lt_of_cell c8
  have hzz1 := block_lt_of_cell c5
  refine wp_region_noPanic ?_
  refine wp_region_plan (fun w' => ∃ x : ExtD p bh bg (w.heap.size + 1 + 1) W3, w' = x.w) [([0, 1, 2, 3, 4, 5, 7], 6), ([8], 9)] [10] (by kernel_rfl) (by kernel_rfl) (by kernel_rfl) (fun _ _ _ _ _ h => h) ⟨⟨_, (Keeps.refl _ W3).drew⟩, rfl⟩ ?_
  refine wpPlan_cons ?_
  simp only [pickOps, List.getElem?_cons_succ, List.getElem?_cons_zero, Option.elim_some]
  repeat (go_big_quiet_step (fail))
  refine wpQuiet_nil ?_
  refine planAct_some (fun K hK => ?_)
  go_simp
  refine (drop_any (h3.below (brefl W3).drew) hN a b).mono ?_
  rintro e1 x1 ⟨rfl, g1, q1⟩; have m1 : Keeps (FD p bh bg (w.heap.size + 1 + 1)) W3 x1 := (Keeps.refl _ W3).drew.trans_ (keeps_fd q1); have B7 := q1.blk B6.drew hno; have y0 := B7.cell_ (i := 0) rfl; have y1 := B7.cell_ (i := 1) rfl; have y2 := B7.frozen 0; have y3 := B7.frozen 1; have y4 := B7.lt
  go_wp2_with fail
  refine hK.out _ _ ⟨⟨_, m1⟩, rfl⟩ ?_
  clear hK K
  refine wpPlan_cons ?_
  simp only [pickOps, List.getElem?_cons_succ, List.getElem?_cons_zero, Option.elim_some]
  repeat (go_big_quiet_step (fail))
  refine wpQuiet_nil ?_
  refine planAct_some (fun K hK => ?_)
  go_simp
  refine hK.out _ _ ⟨⟨_, (fd_set (fd_set m1))⟩, rfl⟩ ?_
  clear hK K
  refine wpPlan_last ?_
  simp only [pickOps, List.getElem?_cons_succ, List.getElem?_cons_zero, Option.elim_some]
  repeat (go_big_quiet_step (fail))
  refine wpQuiet_nil ?_
  refine NoPanic.normal ?_
  clear hX hzz0 hzz1
  have HK : Keeps (FD p bh bg (w.heap.size + 1 + 1)) W3 ((x1.setCell ⟨w.heap.size + 1 + 1, 0, none⟩ (.slice A2 L a2)).setCell ⟨w.heap.size + 1 + 1, 1, none⟩ (.int .i64 (s.drop a b).slips)) := fd_set (fd_set m1)
  have o1 : p ≠ w.heap.size + 1 + 1 := by omega
  have o2 : bh ≠ w.heap.size + 1 + 1 := by omega
  have o3 : bg ≠ w.heap.size + 1 + 1 := by omega
  have B6x := (B7.set_ 0 (.slice A2 L a2)).set_ 1 (.int .i64 (s.drop a b).slips)
  have g2 := g1.keeps (((Keeps.refl (fun x => x = w.heap.size + 1 + 1) x1).setCell (p := ⟨w.heap.size + 1 + 1, 0, none⟩) (fun _ => rfl) (.slice A2 L a2)).setCell (p := ⟨w.heap.size + 1 + 1, 1, none⟩) (fun _ => rfl) (.int .i64 (s.drop a b).slips)) o1 o2 o3
  have r4 := r3.keeps HK (fun b hb hf => by
    have hs := kb1.size
    have := hP b
    unfold FD at hf
    rcases hb with ⟨hb, hb2⟩ | hb
    · have := hP b hb
      omega
    · omega)
  have KE : Keeps (fun x => x = p ∨ x = bh ∨ x = bg) w ((x1.setCell ⟨w.heap.size + 1 + 1, 0, none⟩ (.slice A2 L a2)).setCell ⟨w.heap.size + 1 + 1, 1, none⟩ (.int .i64 (s.drop a b).slips)) := (Keeps.of_below (S := (fun x => x = p ∨ x = bh ∨ x = bg)) kb3).trans HK (fun x hx hl => by
    unfold FD at hx
    show x = p ∨ x = bh ∨ x = bg
    omega)
  obtain ⟨WE, hWE⟩ : ∃ WE, ((x1.setCell ⟨w.heap.size + 1 + 1, 0, none⟩ (.slice A2 L a2)).setCell ⟨w.heap.size + 1 + 1, 1, none⟩ (.int .i64 (s.drop a b).slips)) = WE := ⟨_, rfl⟩
  rw [hWE] at B6x g2 r4 KE
  go_wp2_with fail
  rw [hWE]
  clear hWE HK
  have z8 := B6x.cell 0
  have z9 := B6x.cell 1
  have hzE := B6x.lt
  simp at z8 z9
  refine bodyPost_ret (v := .tuple #[.agg #[.slice A2 L a2, .int .i64 (s.drop a b).slips], .bool true]) (by simp [results, Try.results14, go_sem, z8, z9, hzE]) rfl ⟨_, _, rfl, r4.mono (fun b q => q.elim (fun a => .inl a.1) (fun a => .inr (Nat.le_trans kb1.size a))), g2, KE⟩

def St.go (s : St) (e : OpV) : St := bif e.tk then s.take e.a e.b else s.drop e.a e.b
theorem do_any {w : World} {p bh bg N : Nat} {A : Option Addr} {c L M : Nat} {s : St} {P : Nat → Prop} (h : WB w p bh bg N s) (hp : RP w A c L M s P) (hP : ∀ b, P b → b ≠ p ∧ b ≠ bh ∧ b ≠ bg) (hN : N ≤ 900000) (hS : 0 ≤ s.slips ∧ s.slips ≤ 1000000) (hG : ∀ a b, 0 ≤ s.G a b ∧ s.G a b ≤ 1000000) (x : OpV) : Calls Try.prog 14 #[.pointer (some ⟨p, 0, none⟩), (.agg #[.slice A L c, .int .i64 s.slips]), .agg #[.bool x.tk, .int .i64 x.a, .int .i64 x.b]] w fun e w' => ∃ A' c', e = .returned (.tuple #[.agg #[.slice A' L c', .int .i64 (s.go x).slips], .bool true]) ∧ RP w' A' c' L M (s.go x) (fun b => P b ∨ w.heap.size ≤ b) ∧ WB w' p bh bg (N + 1) (s.go x) ∧ Keeps (fun x => x = p ∨ x = bh ∨ x = bg) w w' := by
  obtain ⟨tk, a, b⟩ := x
  unfold St.go
  cases tk
  · exact do_drop h hp hP hN hS hG a b
  · exact do_take h hp hP hN hS hG a b
end Go.Proofs.Ytlnnnaefmgikpaa
