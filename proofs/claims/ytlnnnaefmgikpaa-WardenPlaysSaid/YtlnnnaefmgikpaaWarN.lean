/- The document's warden: Take and Drop where they refuse. -/
import Derived.Test.YtlnnnaefmgikpaaWarM
namespace Go.Proofs.Ytlnnnaefmgikpaa
set_option linter.unusedVariables false
set_option linter.unusedSimpArgs false
open Go.RowKit
set_option maxHeartbeats 4000000 in
set_option maxRecDepth 100000 in
theorem rtake_out {w : World} {A : Option Addr} {c L M : Nat} {s : St} {P : Nat → Prop} (hp : RP w A c L M s P) (hN : 0 ≤ s.slips ∧ s.slips ≤ 1000000) (a b : Int) (hir : inR s a b = false) : Calls Try.prog 24 #[(.agg #[.slice A L c, .int .i64 s.slips]), .int .i64 a, .int .i64 b] w fun e w' => ∃ A' c', e = .returned (.tuple #[.agg #[.slice A' L c', .int .i64 ({ s with slips := s.slips + 1 }).slips], .bool false]) ∧ RP w' A' c' L M ({ s with slips := s.slips + 1 }) (fun b => P b ∨ w.heap.size ≤ b) ∧ Below w.heap.size w w' := by
  have h := hp.1
  obtain ⟨W1, hW1, B4, B6, kb1⟩ : ∃ W1, ((w.alloc (.cells #[.slice A L c, .int .i64 s.slips] 38)).alloc (.cells #[.slice none 0 0, .int .i64 0] 38)) = W1 ∧ Blk W1 w.heap.size 38 #[.slice A L c, .int .i64 s.slips] ∧ Blk W1 (w.heap.size + 1) 38 #[.slice none 0 0, .int .i64 0] ∧ Below w.heap.size w W1 := by
    refine ⟨_, rfl, (Blk.new _ _ _).alloc _, ?_, bnew (bnew (brefl w) _) _⟩
    have := Blk.new (w.alloc (.cells #[.slice A L c, .int .i64 s.slips] 38)) 38 #[.slice none 0 0, .int .i64 0]
    rwa [World.size_alloc] at this
  go_enter Try.func24, Try.ntmps24
  go_upto_region 1 with (fail)
  clear hW1
  have h1 := h.below kb1
  have d0 : W1.cell? ⟨w.heap.size, 0, none⟩ = some (.slice A L c) := B4.cell 0
  have d1 : W1.cell? ⟨w.heap.size, 1, none⟩ = some (.int .i64 s.slips) := B4.cell 1
  have zz := B4.lt
  have zz1 := B6.lt
  have hth := rthere_any h1 a b
  rw [hir] at hth
  obtain ⟨n, hn⟩ : ∃ n, s.slips = n := ⟨_, rfl⟩
  rw [hn] at d1 hth hN B4
  have HN := Lib.hid hn
  go_upto_region 2 with (go_at_call 28; refine hth.mono ?_; rintro e W2 ⟨rfl, hb2⟩; have d0 := keep_below d0 hb2; have v0 := block_lt_of_cell d0)
  have d1 := keep_below d1 hb2
  have B4 := B4.below_ hb2
  have B6 := B6.below_ hb2
  have kb2 := bnext kb1 hb2
  have zz1 := B6.lt
  have y4 := B4.frozen 1
  have y6 := B6.frozen 0
  have y7 := B6.frozen 1
  have z6 := B6.cell 0
  have z7 := B6.cell 1
  simp at z6 z7
  clear h1 hth hn
  have hwn : IntKind.i64.wrap (n + 1) = n + 1 := by rw [IntKind.wrap_i64]; omega
  go_wp2_with fail
  obtain ⟨WE, hWE, z8, z9, hzE, kbE⟩ : ∃ WE, (((W2.setCell ⟨w.heap.size, 1, none⟩ (.int .i64 (n + 1))).setCell ⟨w.heap.size + 1, 0, none⟩ (.slice A L c)).setCell ⟨w.heap.size + 1, 1, none⟩ (.int .i64 (n + 1))) = WE ∧ WE.cell? ⟨w.heap.size + 1, 0, none⟩ = some (.slice A L c) ∧ WE.cell? ⟨w.heap.size + 1, 1, none⟩ = some (.int .i64 (n + 1)) ∧ w.heap.size + 1 < WE.heap.size ∧ Below w.heap.size w WE := by
    have B6e := ((B6.far (p := ⟨w.heap.size, 1, none⟩) (by show w.heap.size + 1 ≠ w.heap.size; omega) (.int .i64 (n + 1))).set_ 0 (.slice A L c)).set_ 1 (.int .i64 (n + 1))
    exact ⟨_, rfl, B6e.cell 0, B6e.cell 1, B6e.lt, bset (bset (bset kb2 (by show w.heap.size ≤ w.heap.size; omega) _) (by show w.heap.size ≤ w.heap.size + 1; omega) _) (by show w.heap.size ≤ w.heap.size + 1; omega) _⟩
  rw [hWE]
  clear hWE B4 B6
  refine bodyPost_ret (v := .tuple #[.agg #[.slice A L c, .int .i64 (n + 1)], .bool false]) (by simp [results, Try.results24, go_sem, z8, z9, hzE]) rfl ⟨_, _, by rw [HN.out], ((hp.below kbE).slip _).mono (fun _ q => .inl q), kbE⟩
set_option maxHeartbeats 4000000 in
set_option maxRecDepth 100000 in
theorem rtake_held {w : World} {A : Option Addr} {c L M : Nat} {s : St} {P : Nat → Prop} (hp : RP w A c L M s P) (hN : 0 ≤ s.slips ∧ s.slips ≤ 1000000) {i j : Nat} (hi : i < L) (hj : j < M) (hH : s.H (i : Int) ((j : Int) + 1) = true) : Calls Try.prog 24 #[(.agg #[.slice A L c, .int .i64 s.slips]), .int .i64 i, .int .i64 ((j : Int) + 1)] w fun e w' => ∃ A' c', e = .returned (.tuple #[.agg #[.slice A' L c', .int .i64 ({ s with slips := s.slips + 1 }).slips], .bool false]) ∧ RP w' A' c' L M ({ s with slips := s.slips + 1 }) (fun b => P b ∨ w.heap.size ≤ b) ∧ Below w.heap.size w w' := by
  have h := hp.1
  have hir : inR s (i : Int) ((j : Int) + 1) = true := decide_eq_true (by rw [h.lv, h.sl]; omega)
  have hm60 := h.m60
  have hl4 := h.l4
  have h := hp.1
  obtain ⟨W1, hW1, B4, B6, kb1⟩ : ∃ W1, ((w.alloc (.cells #[.slice A L c, .int .i64 s.slips] 38)).alloc (.cells #[.slice none 0 0, .int .i64 0] 38)) = W1 ∧ Blk W1 w.heap.size 38 #[.slice A L c, .int .i64 s.slips] ∧ Blk W1 (w.heap.size + 1) 38 #[.slice none 0 0, .int .i64 0] ∧ Below w.heap.size w W1 := by
    refine ⟨_, rfl, (Blk.new _ _ _).alloc _, ?_, bnew (bnew (brefl w) _) _⟩
    have := Blk.new (w.alloc (.cells #[.slice A L c, .int .i64 s.slips] 38)) 38 #[.slice none 0 0, .int .i64 0]
    rwa [World.size_alloc] at this
  go_enter Try.func24, Try.ntmps24
  go_upto_region 1 with (fail)
  clear hW1
  have h1 := h.below kb1
  have d0 : W1.cell? ⟨w.heap.size, 0, none⟩ = some (.slice A L c) := B4.cell 0
  have d1 : W1.cell? ⟨w.heap.size, 1, none⟩ = some (.int .i64 s.slips) := B4.cell 1
  have zz := B4.lt
  have zz1 := B6.lt
  have hth := rthere_any h1 (i : Int) ((j : Int) + 1)
  rw [hir] at hth
  obtain ⟨bo, oo, br, or_, c', hA, x1, x2, x3⟩ := h1.spot hi hj
  subst hA
  rw [hH] at x2
  have k0 : (0 : Int) ≤ (i : Int) := by omega
  have k1 : (i : Int) < (L : Int) := by omega
  have k3 : (0 : Int) ≤ (j : Int) := by omega
  have k5 : (j : Int) < (M : Int) := by omega
  have hw : IntKind.i64.wrap ((j : Int) + 1 - 1) = (j : Int) := by rw [IntKind.wrap_i64]; omega
  have hw' : (j : Int) + 1 - 1 = (j : Int) := by omega
  obtain ⟨n, hn⟩ : ∃ n, s.slips = n := ⟨_, rfl⟩
  rw [hn] at d1 hth hN B4
  have HN := Lib.hid hn
  go_upto_region 2 with (go_at_call 28; refine hth.mono ?_; rintro e W2 ⟨rfl, hb2⟩; have d0 := keep_below d0 hb2; have v0 := block_lt_of_cell d0; have x1 := keep_below x1 hb2; have x2 := keep_below x2 hb2; have v1 := block_lt_of_cell x1; have v2 := block_lt_of_cell x2)
  have d1 := keep_below d1 hb2
  have B4 := B4.below_ hb2
  have B6 := B6.below_ hb2
  have kb2 := bnext kb1 hb2
  have zz1 := B6.lt
  have y4 := B4.frozen 1
  have y6 := B6.frozen 0
  have y7 := B6.frozen 1
  have z6 := B6.cell 0
  have z7 := B6.cell 1
  simp at z6 z7
  clear h1 hth hn
  have hwn : IntKind.i64.wrap (n + 1) = n + 1 := by rw [IntKind.wrap_i64]; omega
  go_wp2_with fail
  obtain ⟨WE, hWE, z8, z9, hzE, kbE⟩ : ∃ WE, (((W2.setCell ⟨w.heap.size, 1, none⟩ (.int .i64 (n + 1))).setCell ⟨w.heap.size + 1, 0, none⟩ (.slice (some ⟨bo, oo, none⟩) L c)).setCell ⟨w.heap.size + 1, 1, none⟩ (.int .i64 (n + 1))) = WE ∧ WE.cell? ⟨w.heap.size + 1, 0, none⟩ = some (.slice (some ⟨bo, oo, none⟩) L c) ∧ WE.cell? ⟨w.heap.size + 1, 1, none⟩ = some (.int .i64 (n + 1)) ∧ w.heap.size + 1 < WE.heap.size ∧ Below w.heap.size w WE := by
    have B6e := ((B6.far (p := ⟨w.heap.size, 1, none⟩) (by show w.heap.size + 1 ≠ w.heap.size; omega) (.int .i64 (n + 1))).set_ 0 (.slice (some ⟨bo, oo, none⟩) L c)).set_ 1 (.int .i64 (n + 1))
    exact ⟨_, rfl, B6e.cell 0, B6e.cell 1, B6e.lt, bset (bset (bset kb2 (by show w.heap.size ≤ w.heap.size; omega) _) (by show w.heap.size ≤ w.heap.size + 1; omega) _) (by show w.heap.size ≤ w.heap.size + 1; omega) _⟩
  rw [hWE]
  clear hWE B4 B6
  refine bodyPost_ret (v := .tuple #[.agg #[.slice (some ⟨bo, oo, none⟩) L c, .int .i64 (n + 1)], .bool false]) (by simp [results, Try.results24, go_sem, z8, z9, hzE]) rfl ⟨_, _, by rw [HN.out], ((hp.below kbE).slip _).mono (fun _ q => .inl q), kbE⟩
set_option maxHeartbeats 4000000 in
set_option maxRecDepth 100000 in
theorem rdrop_out {w : World} {A : Option Addr} {c L M : Nat} {s : St} {P : Nat → Prop} (hp : RP w A c L M s P) (hN : 0 ≤ s.slips ∧ s.slips ≤ 1000000) (a b : Int) (hir : inR s a b = false) : Calls Try.prog 25 #[(.agg #[.slice A L c, .int .i64 s.slips]), .int .i64 a, .int .i64 b] w fun e w' => ∃ A' c', e = .returned (.tuple #[.agg #[.slice A' L c', .int .i64 ({ s with slips := s.slips + 1 }).slips], .bool false]) ∧ RP w' A' c' L M ({ s with slips := s.slips + 1 }) (fun b => P b ∨ w.heap.size ≤ b) ∧ Below w.heap.size w w' := by
  have h := hp.1
  obtain ⟨W1, hW1, B4, B6, kb1⟩ : ∃ W1, ((w.alloc (.cells #[.slice A L c, .int .i64 s.slips] 38)).alloc (.cells #[.slice none 0 0, .int .i64 0] 38)) = W1 ∧ Blk W1 w.heap.size 38 #[.slice A L c, .int .i64 s.slips] ∧ Blk W1 (w.heap.size + 1) 38 #[.slice none 0 0, .int .i64 0] ∧ Below w.heap.size w W1 := by
    refine ⟨_, rfl, (Blk.new _ _ _).alloc _, ?_, bnew (bnew (brefl w) _) _⟩
    have := Blk.new (w.alloc (.cells #[.slice A L c, .int .i64 s.slips] 38)) 38 #[.slice none 0 0, .int .i64 0]
    rwa [World.size_alloc] at this
  go_enter Try.func25, Try.ntmps25
  go_upto_region 1 with (fail)
  clear hW1
  have h1 := h.below kb1
  have d0 : W1.cell? ⟨w.heap.size, 0, none⟩ = some (.slice A L c) := B4.cell 0
  have d1 : W1.cell? ⟨w.heap.size, 1, none⟩ = some (.int .i64 s.slips) := B4.cell 1
  have zz := B4.lt
  have zz1 := B6.lt
  have hth := rthere_any h1 a b
  rw [hir] at hth
  obtain ⟨n, hn⟩ : ∃ n, s.slips = n := ⟨_, rfl⟩
  rw [hn] at d1 hth hN B4
  have HN := Lib.hid hn
  go_upto_region 2 with (go_at_call 28; refine hth.mono ?_; rintro e W2 ⟨rfl, hb2⟩; have d0 := keep_below d0 hb2; have v0 := block_lt_of_cell d0)
  have d1 := keep_below d1 hb2
  have B4 := B4.below_ hb2
  have B6 := B6.below_ hb2
  have kb2 := bnext kb1 hb2
  have zz1 := B6.lt
  have y4 := B4.frozen 1
  have y6 := B6.frozen 0
  have y7 := B6.frozen 1
  have z6 := B6.cell 0
  have z7 := B6.cell 1
  simp at z6 z7
  clear h1 hth hn
  have hwn : IntKind.i64.wrap (n + 1) = n + 1 := by rw [IntKind.wrap_i64]; omega
  go_wp2_with fail
  obtain ⟨WE, hWE, z8, z9, hzE, kbE⟩ : ∃ WE, (((W2.setCell ⟨w.heap.size, 1, none⟩ (.int .i64 (n + 1))).setCell ⟨w.heap.size + 1, 0, none⟩ (.slice A L c)).setCell ⟨w.heap.size + 1, 1, none⟩ (.int .i64 (n + 1))) = WE ∧ WE.cell? ⟨w.heap.size + 1, 0, none⟩ = some (.slice A L c) ∧ WE.cell? ⟨w.heap.size + 1, 1, none⟩ = some (.int .i64 (n + 1)) ∧ w.heap.size + 1 < WE.heap.size ∧ Below w.heap.size w WE := by
    have B6e := ((B6.far (p := ⟨w.heap.size, 1, none⟩) (by show w.heap.size + 1 ≠ w.heap.size; omega) (.int .i64 (n + 1))).set_ 0 (.slice A L c)).set_ 1 (.int .i64 (n + 1))
    exact ⟨_, rfl, B6e.cell 0, B6e.cell 1, B6e.lt, bset (bset (bset kb2 (by show w.heap.size ≤ w.heap.size; omega) _) (by show w.heap.size ≤ w.heap.size + 1; omega) _) (by show w.heap.size ≤ w.heap.size + 1; omega) _⟩
  rw [hWE]
  clear hWE B4 B6
  refine bodyPost_ret (v := .tuple #[.agg #[.slice A L c, .int .i64 (n + 1)], .bool false]) (by simp [results, Try.results25, go_sem, z8, z9, hzE]) rfl ⟨_, _, by rw [HN.out], ((hp.below kbE).slip _).mono (fun _ q => .inl q), kbE⟩
set_option maxHeartbeats 4000000 in
set_option maxRecDepth 100000 in
theorem rdrop_free {w : World} {A : Option Addr} {c L M : Nat} {s : St} {P : Nat → Prop} (hp : RP w A c L M s P) (hN : 0 ≤ s.slips ∧ s.slips ≤ 1000000) {i j : Nat} (hi : i < L) (hj : j < M) (hH : s.H (i : Int) ((j : Int) + 1) = false) : Calls Try.prog 25 #[(.agg #[.slice A L c, .int .i64 s.slips]), .int .i64 i, .int .i64 ((j : Int) + 1)] w fun e w' => ∃ A' c', e = .returned (.tuple #[.agg #[.slice A' L c', .int .i64 ({ s with slips := s.slips + 1 }).slips], .bool false]) ∧ RP w' A' c' L M ({ s with slips := s.slips + 1 }) (fun b => P b ∨ w.heap.size ≤ b) ∧ Below w.heap.size w w' := by
  have h := hp.1
  have hir : inR s (i : Int) ((j : Int) + 1) = true := decide_eq_true (by rw [h.lv, h.sl]; omega)
  have hm60 := h.m60
  have hl4 := h.l4
  have h := hp.1
  obtain ⟨W1, hW1, B4, B6, kb1⟩ : ∃ W1, ((w.alloc (.cells #[.slice A L c, .int .i64 s.slips] 38)).alloc (.cells #[.slice none 0 0, .int .i64 0] 38)) = W1 ∧ Blk W1 w.heap.size 38 #[.slice A L c, .int .i64 s.slips] ∧ Blk W1 (w.heap.size + 1) 38 #[.slice none 0 0, .int .i64 0] ∧ Below w.heap.size w W1 := by
    refine ⟨_, rfl, (Blk.new _ _ _).alloc _, ?_, bnew (bnew (brefl w) _) _⟩
    have := Blk.new (w.alloc (.cells #[.slice A L c, .int .i64 s.slips] 38)) 38 #[.slice none 0 0, .int .i64 0]
    rwa [World.size_alloc] at this
  go_enter Try.func25, Try.ntmps25
  go_upto_region 1 with (fail)
  clear hW1
  have h1 := h.below kb1
  have d0 : W1.cell? ⟨w.heap.size, 0, none⟩ = some (.slice A L c) := B4.cell 0
  have d1 : W1.cell? ⟨w.heap.size, 1, none⟩ = some (.int .i64 s.slips) := B4.cell 1
  have zz := B4.lt
  have zz1 := B6.lt
  have hth := rthere_any h1 (i : Int) ((j : Int) + 1)
  rw [hir] at hth
  obtain ⟨bo, oo, br, or_, c', hA, x1, x2, x3⟩ := h1.spot hi hj
  subst hA
  rw [hH] at x2
  have k0 : (0 : Int) ≤ (i : Int) := by omega
  have k1 : (i : Int) < (L : Int) := by omega
  have k3 : (0 : Int) ≤ (j : Int) := by omega
  have k5 : (j : Int) < (M : Int) := by omega
  have hw : IntKind.i64.wrap ((j : Int) + 1 - 1) = (j : Int) := by rw [IntKind.wrap_i64]; omega
  have hw' : (j : Int) + 1 - 1 = (j : Int) := by omega
  obtain ⟨n, hn⟩ : ∃ n, s.slips = n := ⟨_, rfl⟩
  rw [hn] at d1 hth hN B4
  have HN := Lib.hid hn
  go_upto_region 2 with (go_at_call 28; refine hth.mono ?_; rintro e W2 ⟨rfl, hb2⟩; have d0 := keep_below d0 hb2; have v0 := block_lt_of_cell d0; have x1 := keep_below x1 hb2; have x2 := keep_below x2 hb2; have v1 := block_lt_of_cell x1; have v2 := block_lt_of_cell x2)
  have d1 := keep_below d1 hb2
  have B4 := B4.below_ hb2
  have B6 := B6.below_ hb2
  have kb2 := bnext kb1 hb2
  have zz1 := B6.lt
  have y4 := B4.frozen 1
  have y6 := B6.frozen 0
  have y7 := B6.frozen 1
  have z6 := B6.cell 0
  have z7 := B6.cell 1
  simp at z6 z7
  clear h1 hth hn
  have hwn : IntKind.i64.wrap (n + 1) = n + 1 := by rw [IntKind.wrap_i64]; omega
  go_wp2_with fail
  obtain ⟨WE, hWE, z8, z9, hzE, kbE⟩ : ∃ WE, (((W2.setCell ⟨w.heap.size, 1, none⟩ (.int .i64 (n + 1))).setCell ⟨w.heap.size + 1, 0, none⟩ (.slice (some ⟨bo, oo, none⟩) L c)).setCell ⟨w.heap.size + 1, 1, none⟩ (.int .i64 (n + 1))) = WE ∧ WE.cell? ⟨w.heap.size + 1, 0, none⟩ = some (.slice (some ⟨bo, oo, none⟩) L c) ∧ WE.cell? ⟨w.heap.size + 1, 1, none⟩ = some (.int .i64 (n + 1)) ∧ w.heap.size + 1 < WE.heap.size ∧ Below w.heap.size w WE := by
    have B6e := ((B6.far (p := ⟨w.heap.size, 1, none⟩) (by show w.heap.size + 1 ≠ w.heap.size; omega) (.int .i64 (n + 1))).set_ 0 (.slice (some ⟨bo, oo, none⟩) L c)).set_ 1 (.int .i64 (n + 1))
    exact ⟨_, rfl, B6e.cell 0, B6e.cell 1, B6e.lt, bset (bset (bset kb2 (by show w.heap.size ≤ w.heap.size; omega) _) (by show w.heap.size ≤ w.heap.size + 1; omega) _) (by show w.heap.size ≤ w.heap.size + 1; omega) _⟩
  rw [hWE]
  clear hWE B4 B6
  refine bodyPost_ret (v := .tuple #[.agg #[.slice (some ⟨bo, oo, none⟩) L c, .int .i64 (n + 1)], .bool false]) (by simp [results, Try.results25, go_sem, z8, z9, hzE]) rfl ⟨_, _, by rw [HN.out], ((hp.below kbE).slip _).mono (fun _ q => .inl q), kbE⟩
end Go.Proofs.Ytlnnnaefmgikpaa
