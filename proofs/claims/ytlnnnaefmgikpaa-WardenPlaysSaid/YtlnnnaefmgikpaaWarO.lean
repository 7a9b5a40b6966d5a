/- The document's warden: Take and Drop. -/
import Derived.Test.YtlnnnaefmgikpaaWarN
namespace Go.Proofs.Ytlnnnaefmgikpaa
set_option linter.unusedVariables false
set_option linter.unusedSimpArgs false
open Go.RowKit
set_option maxHeartbeats 4000000 in
set_option maxRecDepth 100000 in
theorem rtake_free {w : World} {A : Option Addr} {c L M : Nat} {s : St} {P : Nat → Prop} (hp : RP w A c L M s P) {i j : Nat} (hi : i < L) (hj : j < M) (hH : s.H (i : Int) ((j : Int) + 1) = false) (hG : 0 ≤ s.G (i : Int) ((j : Int) + 1) ∧ s.G (i : Int) ((j : Int) + 1) ≤ 1000000) : Calls Try.prog 24 #[(.agg #[.slice A L c, .int .i64 s.slips]), .int .i64 i, .int .i64 ((j : Int) + 1)] w fun e w' => ∃ A' c', e = .returned (.tuple #[.agg #[.slice A' L c', .int .i64 (setS s (i : Int) ((j : Int) + 1) true (s.G (i : Int) ((j : Int) + 1))).slips], .bool true]) ∧ RP w' A' c' L M (setS s (i : Int) ((j : Int) + 1) true (s.G (i : Int) ((j : Int) + 1))) (fun b => P b ∨ w.heap.size ≤ b) ∧ Below w.heap.size w w' := by
  have h := hp.1
  have hir : inR s (i : Int) ((j : Int) + 1) = true := decide_eq_true (by rw [h.lv, h.sl]; omega)
  have hm60 := h.m60
  have hl4 := h.l4
  have h := hp.1
  obtain ⟨W1, hW1, B4, B6, kb1⟩ : ∃ W1, ((w.alloc (.cells #[.slice A L c, .int .i64 s.slips] 38)).alloc (.cells #[.slice none 0 0, .int .i64 0] 38)) = W1 ∧ Blk W1 w.heap.size 38 #[.slice A L c, .int .i64 s.slips] ∧ Blk W1 (w.heap.size + 1) 38 #[.slice none 0 0, .int .i64 0] ∧ Below w.heap.size w W1 := by
    refine ⟨_, rfl, (Blk.new _ _ _).alloc _, ?_, bnew (bnew (brefl w) _) _⟩
    have := Blk.new (w.alloc (.cells #[.slice A L c, .int .i64 s.slips] 38)) 38 #[.slice none 0 0, .int .i64 0]
    rwa [World.size_alloc] at this
  go_enter Try.func24, Try.ntmps24
  go_upto_region 1 with (fail)
  clear hW1
  have h1 := h.below kb1
  have d0 : W1.cell? ⟨w.heap.size, 0, none⟩ = some (.slice A L c) := B4.cell 0
  have d1 : W1.cell? ⟨w.heap.size, 1, none⟩ = some (.int .i64 s.slips) := B4.cell 1
  have zz := B4.lt
  have zz1 := B6.lt
  have hth := rthere_any h1 (i : Int) ((j : Int) + 1)
  rw [hir] at hth
  obtain ⟨bo, oo, br, or_, c', hA, x1, x2, x3⟩ := h1.spot hi hj
  subst hA
  rw [hH] at x2
  have k0 : (0 : Int) ≤ (i : Int) := by omega
  have k1 : (i : Int) < (L : Int) := by omega
  have k3 : (0 : Int) ≤ (j : Int) := by omega
  have k5 : (j : Int) < (M : Int) := by omega
  have hw : IntKind.i64.wrap ((j : Int) + 1 - 1) = (j : Int) := by rw [IntKind.wrap_i64]; omega
  have hw' : (j : Int) + 1 - 1 = (j : Int) := by omega
  obtain ⟨g, hg⟩ : ∃ g, s.G (i : Int) ((j : Int) + 1) = g := ⟨_, rfl⟩
  rw [hg] at x3 hG
  have HG := Lib.hid hg
  clear hg
  go_upto_region 4 with (go_at_call 28; refine hth.mono ?_; rintro e W2 ⟨rfl, hb2⟩; have d0 := keep_below d0 hb2; have v0 := block_lt_of_cell d0; have x1 := keep_below x1 hb2; have x2 := keep_below x2 hb2; have v1 := block_lt_of_cell x1; have v2 := block_lt_of_cell x2)
  have x3 := keep_below x3 hb2
  have d1 := keep_below d1 hb2
  have B4 := B4.below_ hb2
  have B6 := B6.below_ hb2
  have h2 := (hp.lt.below kb1).below hb2
  have kb2 := bnext kb1 hb2
  clear h1 hth hb2 kb1
  go_upto_region 5 with (fail)
  have n1 : w.heap.size ≠ W2.heap.size := by have := B4.lt; omega
  have n2 : w.heap.size + 1 ≠ W2.heap.size := by have := B6.lt; omega
  have B8 := Blk.new W2 63 #[.bool false, .int .i64 g]
  have B4 := B4.alloc (.cells #[.bool false, .int .i64 g] 63)
  have B6 := B6.alloc (.cells #[.bool false, .int .i64 g] 63)
  have h3 := h2.below (bnew (brefl W2) (.cells #[.bool false, .int .i64 g] 63))
  have kb3 := bnew kb2 (.cells #[.bool false, .int .i64 g] 63)
  obtain ⟨W3, hW3⟩ : ∃ W3, W2.alloc (.cells #[.bool false, .int .i64 g] 63) = W3 := ⟨_, rfl⟩
  rw [hW3] at B8 B4 B6 h3 kb3 ⊢
  have hq8 : w.heap.size ≤ W2.heap.size := kb2.size
  have hq8' : Below W2.heap.size W2 W3 := by rw [← hW3]; exact bnew (brefl W2) _
  have e0 := B8.cell 0
  have e1 := B8.cell 1
  have f0 := B8.frozen 0
  simp at e0 e1
  clear hW3 d0 d1 x1 x2 x3 v0 v1 v2 kb2
  have zz8 := B8.lt
  go_upto_region 6 with (fail)
  have B8 := B8.set_ 0 (.bool true)
  have B4 := B4.far (p := ⟨W2.heap.size, 0, none⟩) n1 (.bool true)
  have B6 := B6.far (p := ⟨W2.heap.size, 0, none⟩) n2 (.bool true)
  have kb4 := bset kb3 (p := ⟨W2.heap.size, 0, none⟩) hq8 (.bool true)
  have h4 : RP (W3.setCell ⟨W2.heap.size, 0, none⟩ (.bool true)) _ _ _ _ _ _ := h2.below (bset hq8' (p := ⟨W2.heap.size, 0, none⟩) (Nat.le_refl _) (.bool true))
  obtain ⟨W4, hW4⟩ : ∃ W4, W3.setCell ⟨W2.heap.size, 0, none⟩ (.bool true) = W4 := ⟨_, rfl⟩
  rw [hW4] at B8 B4 B6 h4 kb4 ⊢
  clear hW4 e0 e1 f0
  have e0 := B8.cell 0
  have e1 := B8.cell 1
  simp at e0 e1
  have zz8 := B8.lt
  have d0 : W4.cell? ⟨w.heap.size, 0, none⟩ = some (.slice (some ⟨bo, oo, none⟩) L c) := B4.cell 0
  have d1 : W4.cell? ⟨w.heap.size, 1, none⟩ = some (.int .i64 s.slips) := B4.cell 1
  have zz := B4.lt
  have zz1 := B6.lt
  have hst := rset_any h4 hi hj true g
  go_wp2_with (go_at_call 34; refine hst.mono ?_; rintro e W5 ⟨A5, c5, rfl, h5, hb5⟩; have B6 := B6.below_ hb5; have zz1 := B6.lt; have y6 := B6.frozen 0; have y7 := B6.frozen 1; have z6 := B6.cell 0; have z7 := B6.cell 1; simp at z6 z7; clear hst)
  have kb5 := bnext kb4 hb5
  have hs4 := kb4.size
  have HK : Keeps (fun y => y = w.heap.size + 1) W5 ((W5.setCell ⟨w.heap.size + 1, 0, none⟩ (.slice A5 L c5)).setCell ⟨w.heap.size + 1, 1, none⟩ (.int .i64 s.slips)) := ((Keeps.refl (fun y => y = w.heap.size + 1) W5).setCell (p := ⟨w.heap.size + 1, 0, none⟩) (fun _ => rfl) _).setCell (p := ⟨w.heap.size + 1, 1, none⟩) (fun _ => rfl) _
  have B6e := (B6.set_ 0 (.slice A5 L c5)).set_ 1 (.int .i64 s.slips)
  have h5 : RP W5 A5 c5 L M _ (fun b => (P b ∧ b < w.heap.size) ∨ W4.heap.size ≤ b) := h5
  have h6 := h5.keeps HK (fun b q => by omega)
  have kbE := bset (bset kb5 (p := ⟨w.heap.size + 1, 0, none⟩) (by show w.heap.size ≤ w.heap.size + 1; omega) (.slice A5 L c5)) (p := ⟨w.heap.size + 1, 1, none⟩) (by show w.heap.size ≤ w.heap.size + 1; omega) (.int .i64 s.slips)
  obtain ⟨WE, hWE⟩ : ∃ WE, ((W5.setCell ⟨w.heap.size + 1, 0, none⟩ (.slice A5 L c5)).setCell ⟨w.heap.size + 1, 1, none⟩ (.int .i64 s.slips)) = WE := ⟨_, rfl⟩
  rw [hWE] at B6e h6 kbE ⊢
  clear hWE
  have z8 := B6e.cell 0
  have z9 := B6e.cell 1
  have hzE := B6e.lt
  simp at z8 z9
  refine bodyPost_ret (v := .tuple #[.agg #[.slice A5 L c5, .int .i64 s.slips], .bool true]) (by simp [results, Try.results24, go_sem, z8, z9, hzE]) rfl ⟨_, _, rfl, ?_, kbE⟩
  rw [HG.out]
  exact h6.mono (fun b q => q.elim (fun a => .inl a.1) (fun a => .inr (Nat.le_trans hs4 a)))
set_option maxHeartbeats 4000000 in
set_option maxRecDepth 100000 in
theorem rdrop_held {w : World} {A : Option Addr} {c L M : Nat} {s : St} {P : Nat → Prop} (hp : RP w A c L M s P) {i j : Nat} (hi : i < L) (hj : j < M) (hH : s.H (i : Int) ((j : Int) + 1) = true) (hG : 0 ≤ s.G (i : Int) ((j : Int) + 1) ∧ s.G (i : Int) ((j : Int) + 1) ≤ 1000000) : Calls Try.prog 25 #[(.agg #[.slice A L c, .int .i64 s.slips]), .int .i64 i, .int .i64 ((j : Int) + 1)] w fun e w' => ∃ A' c', e = .returned (.tuple #[.agg #[.slice A' L c', .int .i64 (setS s (i : Int) ((j : Int) + 1) false (s.G (i : Int) ((j : Int) + 1) + 1)).slips], .bool true]) ∧ RP w' A' c' L M (setS s (i : Int) ((j : Int) + 1) false (s.G (i : Int) ((j : Int) + 1) + 1)) (fun b => P b ∨ w.heap.size ≤ b) ∧ Below w.heap.size w w' := by
  have h := hp.1
  have hir : inR s (i : Int) ((j : Int) + 1) = true := decide_eq_true (by rw [h.lv, h.sl]; omega)
  have hm60 := h.m60
  have hl4 := h.l4
  have h := hp.1
  obtain ⟨W1, hW1, B4, B6, kb1⟩ : ∃ W1, ((w.alloc (.cells #[.slice A L c, .int .i64 s.slips] 38)).alloc (.cells #[.slice none 0 0, .int .i64 0] 38)) = W1 ∧ Blk W1 w.heap.size 38 #[.slice A L c, .int .i64 s.slips] ∧ Blk W1 (w.heap.size + 1) 38 #[.slice none 0 0, .int .i64 0] ∧ Below w.heap.size w W1 := by
    refine ⟨_, rfl, (Blk.new _ _ _).alloc _, ?_, bnew (bnew (brefl w) _) _⟩
    have := Blk.new (w.alloc (.cells #[.slice A L c, .int .i64 s.slips] 38)) 38 #[.slice none 0 0, .int .i64 0]
    rwa [World.size_alloc] at this
  go_enter Try.func25, Try.ntmps25
  go_upto_region 1 with (fail)
  clear hW1
  have h1 := h.below kb1
  have d0 : W1.cell? ⟨w.heap.size, 0, none⟩ = some (.slice A L c) := B4.cell 0
  have d1 : W1.cell? ⟨w.heap.size, 1, none⟩ = some (.int .i64 s.slips) := B4.cell 1
  have zz := B4.lt
  have zz1 := B6.lt
  have hth := rthere_any h1 (i : Int) ((j : Int) + 1)
  rw [hir] at hth
  obtain ⟨bo, oo, br, or_, c', hA, x1, x2, x3⟩ := h1.spot hi hj
  subst hA
  rw [hH] at x2
  have k0 : (0 : Int) ≤ (i : Int) := by omega
  have k1 : (i : Int) < (L : Int) := by omega
  have k3 : (0 : Int) ≤ (j : Int) := by omega
  have k5 : (j : Int) < (M : Int) := by omega
  have hw : IntKind.i64.wrap ((j : Int) + 1 - 1) = (j : Int) := by rw [IntKind.wrap_i64]; omega
  have hw' : (j : Int) + 1 - 1 = (j : Int) := by omega
  obtain ⟨g, hg⟩ : ∃ g, s.G (i : Int) ((j : Int) + 1) = g := ⟨_, rfl⟩
  rw [hg] at x3 hG
  have HG := Lib.hid hg
  clear hg
  go_upto_region 4 with (go_at_call 28; refine hth.mono ?_; rintro e W2 ⟨rfl, hb2⟩; have d0 := keep_below d0 hb2; have v0 := block_lt_of_cell d0; have x1 := keep_below x1 hb2; have x2 := keep_below x2 hb2; have v1 := block_lt_of_cell x1; have v2 := block_lt_of_cell x2)
  have x3 := keep_below x3 hb2
  have d1 := keep_below d1 hb2
  have B4 := B4.below_ hb2
  have B6 := B6.below_ hb2
  have h2 := (hp.lt.below kb1).below hb2
  have kb2 := bnext kb1 hb2
  clear h1 hth hb2 kb1
  go_upto_region 5 with (fail)
  have n1 : w.heap.size ≠ W2.heap.size := by have := B4.lt; omega
  have n2 : w.heap.size + 1 ≠ W2.heap.size := by have := B6.lt; omega
  have B8 := Blk.new W2 63 #[.bool true, .int .i64 g]
  have B4 := B4.alloc (.cells #[.bool true, .int .i64 g] 63)
  have B6 := B6.alloc (.cells #[.bool true, .int .i64 g] 63)
  have h3 := h2.below (bnew (brefl W2) (.cells #[.bool true, .int .i64 g] 63))
  have kb3 := bnew kb2 (.cells #[.bool true, .int .i64 g] 63)
  obtain ⟨W3, hW3⟩ : ∃ W3, W2.alloc (.cells #[.bool true, .int .i64 g] 63) = W3 := ⟨_, rfl⟩
  rw [hW3] at B8 B4 B6 h3 kb3 ⊢
  have hq8 : w.heap.size ≤ W2.heap.size := kb2.size
  have hq8' : Below W2.heap.size W2 W3 := by rw [← hW3]; exact bnew (brefl W2) _
  have e0 := B8.cell 0
  have e1 := B8.cell 1
  have f0 := B8.frozen 0
  simp at e0 e1
  clear hW3 d0 d1 x1 x2 x3 v0 v1 v2 kb2
  have zz8 := B8.lt
  obtain ⟨W4, hW4⟩ : ∃ W4, W4 = W3 := ⟨_, rfl⟩
  subst hW4
  have h4 := h3
  have kb4 := kb3
  have hwg : IntKind.i64.wrap (g + 1) = g + 1 := by rw [IntKind.wrap_i64]; omega
  have d0 : W4.cell? ⟨w.heap.size, 0, none⟩ = some (.slice (some ⟨bo, oo, none⟩) L c) := B4.cell 0
  have d1 : W4.cell? ⟨w.heap.size, 1, none⟩ = some (.int .i64 s.slips) := B4.cell 1
  have zz := B4.lt
  have zz1 := B6.lt
  have hst := rset_any h4 hi hj false (g + 1)
  go_wp2_with (go_at_call 34; refine hst.mono ?_; rintro e W5 ⟨A5, c5, rfl, h5, hb5⟩; have B6 := B6.below_ hb5; have zz1 := B6.lt; have y6 := B6.frozen 0; have y7 := B6.frozen 1; have z6 := B6.cell 0; have z7 := B6.cell 1; simp at z6 z7; clear hst)
  have kb5 := bnext kb4 hb5
  have hs4 := kb4.size
  have HK : Keeps (fun y => y = w.heap.size + 1) W5 ((W5.setCell ⟨w.heap.size + 1, 0, none⟩ (.slice A5 L c5)).setCell ⟨w.heap.size + 1, 1, none⟩ (.int .i64 s.slips)) := ((Keeps.refl (fun y => y = w.heap.size + 1) W5).setCell (p := ⟨w.heap.size + 1, 0, none⟩) (fun _ => rfl) _).setCell (p := ⟨w.heap.size + 1, 1, none⟩) (fun _ => rfl) _
  have B6e := (B6.set_ 0 (.slice A5 L c5)).set_ 1 (.int .i64 s.slips)
  have h5 : RP W5 A5 c5 L M _ (fun b => (P b ∧ b < w.heap.size) ∨ W4.heap.size ≤ b) := h5
  have h6 := h5.keeps HK (fun b q => by omega)
  have kbE := bset (bset kb5 (p := ⟨w.heap.size + 1, 0, none⟩) (by show w.heap.size ≤ w.heap.size + 1; omega) (.slice A5 L c5)) (p := ⟨w.heap.size + 1, 1, none⟩) (by show w.heap.size ≤ w.heap.size + 1; omega) (.int .i64 s.slips)
  obtain ⟨WE, hWE⟩ : ∃ WE, ((W5.setCell ⟨w.heap.size + 1, 0, none⟩ (.slice A5 L c5)).setCell ⟨w.heap.size + 1, 1, none⟩ (.int .i64 s.slips)) = WE := ⟨_, rfl⟩
  rw [hWE] at B6e h6 kbE ⊢
  clear hWE
  have z8 := B6e.cell 0
  have z9 := B6e.cell 1
  have hzE := B6e.lt
  simp at z8 z9
  refine bodyPost_ret (v := .tuple #[.agg #[.slice A5 L c5, .int .i64 s.slips], .bool true]) (by simp [results, Try.results25, go_sem, z8, z9, hzE]) rfl ⟨_, _, rfl, ?_, kbE⟩
  rw [HG.out]
  exact h6.mono (fun b q => q.elim (fun a => .inl a.1) (fun a => .inr (Nat.le_trans hs4 a)))
/-- What Take and Drop of the document's warden give. -/
theorem setS_take (s : St) (a b : Int) : setS s a b true (s.G a b) = { s with H := upd s.H a b true } := by
  unfold setS
  congr 1
  funext x y
  by_cases q : x = a ∧ y = b
  · obtain ⟨rfl, rfl⟩ := q
    rw [upd_same]
  · rw [upd_other _ _ q]
theorem rtake_any {w : World} {A : Option Addr} {c L M : Nat} {s : St} {P : Nat → Prop} (hp : RP w A c L M s P) (hN : 0 ≤ s.slips ∧ s.slips ≤ 1000000) (hG : ∀ a b, 0 ≤ s.G a b ∧ s.G a b ≤ 1000000) (a b : Int) : Calls Try.prog 24 #[(.agg #[.slice A L c, .int .i64 s.slips]), .int .i64 a, .int .i64 b] w fun e w' => ∃ A' c', e = .returned (.tuple #[.agg #[.slice A' L c', .int .i64 (s.take a b).slips], .bool (takeB s a b)]) ∧ RP w' A' c' L M (s.take a b) (fun b => P b ∨ w.heap.size ≤ b) ∧ Below w.heap.size w w' := by
  unfold St.take takeB
  cases hir : inR s a b with
  | false => exact rtake_out hp hN a b hir
  | true =>
    obtain ⟨i, j, rfl, rfl, hi, hj⟩ := hp.1.nat hir
    cases hH : s.H (i : Int) ((j : Int) + 1) with
    | true => exact rtake_held hp hN hi hj hH
    | false =>
      have := rtake_free hp hi hj hH (hG _ _)
      rw [setS_take] at this
      exact this
theorem rdrop_any {w : World} {A : Option Addr} {c L M : Nat} {s : St} {P : Nat → Prop} (hp : RP w A c L M s P) (hN : 0 ≤ s.slips ∧ s.slips ≤ 1000000) (hG : ∀ a b, 0 ≤ s.G a b ∧ s.G a b ≤ 1000000) (a b : Int) : Calls Try.prog 25 #[(.agg #[.slice A L c, .int .i64 s.slips]), .int .i64 a, .int .i64 b] w fun e w' => ∃ A' c', e = .returned (.tuple #[.agg #[.slice A' L c', .int .i64 (s.drop a b).slips], .bool (dropB s a b)]) ∧ RP w' A' c' L M (s.drop a b) (fun b => P b ∨ w.heap.size ≤ b) ∧ Below w.heap.size w w' := by
  unfold St.drop dropB
  cases hir : inR s a b with
  | false => exact rdrop_out hp hN a b hir
  | true =>
    obtain ⟨i, j, rfl, rfl, hi, hj⟩ := hp.1.nat hir
    cases hH : s.H (i : Int) ((j : Int) + 1) with
    | false => exact rdrop_free hp hN hi hj hH
    | true => exact rdrop_held hp hi hj hH (hG _ _)
end Go.Proofs.Ytlnnnaefmgikpaa
