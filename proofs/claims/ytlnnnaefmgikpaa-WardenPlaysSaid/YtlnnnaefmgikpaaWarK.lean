/- The document's warden: Leads, Held. -/
import Derived.Test.YtlnnnaefmgikpaaWarJ
namespace Go.Proofs.Ytlnnnaefmgikpaa
set_option linter.unusedVariables false
set_option linter.unusedSimpArgs false
open Go.RowKit

def rleadsB (s : St) (a n : Int) : Bool := inR s a (lSlot n.toNat : Nat) && s.H a (lSlot n.toNat : Nat) && (s.G a (lSlot n.toNat : Nat) == (lGen n.toNat : Nat))
set_option maxHeartbeats 4000000 in
set_option maxRecDepth 100000 in
theorem rleads_out {w : World} {A : Option Addr} {c L M : Nat} {s : St} (h : RW w A c L M s) (a n : Int) (hn : U64 n) {b : Int} (hb : ((lSlot n.toNat : Nat) : Int) = b) (hir : inR s a b = false) : Calls Try.prog 27 #[(.agg #[.slice A L c, .int .i64 s.slips]), .int .i64 a, .int .u64 n] w fun e w' => e = .returned (.bool false) ∧ Below w.heap.size w w' := by
  have hrd := read02_any n hn (w.alloc (.cells #[.slice A L c, .int .i64 s.slips] 38))
  rw [hb] at hrd
  have h' := h.below (bnew (brefl w) (.cells #[.slice A L c, .int .i64 s.slips] 38))
  have d0 : (w.alloc (.cells #[.slice A L c, .int .i64 s.slips] 38)).cell? ⟨w.heap.size, 0, none⟩ = some (.slice A L c) := (Blk.new w 38 #[.slice A L c, .int .i64 s.slips]).cell 0
  have d1 : (w.alloc (.cells #[.slice A L c, .int .i64 s.slips] 38)).cell? ⟨w.heap.size, 1, none⟩ = some (.int .i64 s.slips) := (Blk.new w 38 #[.slice A L c, .int .i64 s.slips]).cell 1
  clear hb
  go_enter Try.func27, Try.ntmps27
  go_upto_region 2 with (go_at_call 35; refine hrd.mono ?_; rintro e w1 ⟨rfl, hb1⟩)
  obtain ⟨W2, hW2, k2, e0⟩ : ∃ W2, w1.alloc (.cells #[.int .i64 b, .int .i64 (lGen n.toNat : Nat), .bool (lMarked n.toNat)] 70) = W2 ∧ Below (w.alloc (.cells #[.slice A L c, .int .i64 s.slips] 38)).heap.size (w.alloc (.cells #[.slice A L c, .int .i64 s.slips] 38)) W2 ∧ W2.cell? ⟨w1.heap.size, 0, none⟩ = some (.int .i64 b) := ⟨_, rfl, bnew hb1 _, (Blk.new w1 70 #[.int .i64 b, .int .i64 (lGen n.toNat : Nat), .bool (lMarked n.toNat)]).cell 0⟩
  rw [hW2]
  have x0 := keep_below d0 k2
  have x1 := keep_below d1 k2
  have z0 := block_lt_of_cell x0
  have z1 := block_lt_of_cell e0
  have hth := rthere_any (h'.below k2) a b
  rw [hir] at hth
  clear hW2 d0 d1 hb1 hrd h h'
  generalize w1.heap.size = q1 at *
  go_wp2_with (go_at_call 28; refine hth.mono ?_; rintro e w2 ⟨rfl, hb2⟩)
  go_ret
  exact ⟨rfl, bnext (bnext (bnew (brefl w) _) k2) hb2⟩
set_option maxHeartbeats 4000000 in
set_option maxRecDepth 100000 in
theorem rheld_out {w : World} {A : Option Addr} {c L M : Nat} {s : St} (h : RW w A c L M s) (a : Int) (ha : ¬ (0 ≤ a ∧ a < s.lv)) : Calls Try.prog 26 #[(.agg #[.slice A L c, .int .i64 s.slips]), .int .i64 a] w fun e w' => e = .returned (.int .i64 0) ∧ Below w.heap.size w w' := by
  have hl4 := h.l4
  rw [h.lv] at ha
  have d0 : (w.alloc (.cells #[.slice A L c, .int .i64 s.slips] 38)).cell? ⟨w.heap.size, 0, none⟩ = some (.slice A L c) := (Blk.new w 38 #[.slice A L c, .int .i64 s.slips]).cell 0
  have d1 : (w.alloc (.cells #[.slice A L c, .int .i64 s.slips] 38)).cell? ⟨w.heap.size, 1, none⟩ = some (.int .i64 s.slips) := (Blk.new w 38 #[.slice A L c, .int .i64 s.slips]).cell 1
  by_cases h0 : 0 ≤ a
  · have t1 : decide (a < (L : Int)) = false := decide_eq_false (by omega)
    clear h ha
    go_enter Try.func26, Try.ntmps26
    go_upto_region 3 with (fail)
    obtain ⟨W1, hW1, x0, kb⟩ : ∃ W1, w.alloc (.cells #[.slice A L c, .int .i64 s.slips] 38) = W1 ∧ W1.cell? ⟨w.heap.size, 0, none⟩ = some (.slice A L c) ∧ Below w.heap.size w W1 := ⟨_, rfl, d0, bnew (brefl w) _⟩
    rw [hW1]
    have z0 := block_lt_of_cell x0
    clear hW1 d0 d1
    refine wp_loop_rounds 1 ?_
    rw [rounds_succ]
    go_wp2
    go_ret
    exact ⟨rfl, kb⟩
  · have t1 : decide (0 ≤ a) = false := decide_eq_false h0
    clear h ha h0
    go_enter Try.func26, Try.ntmps26
    go_upto_region 3 with (fail)
    obtain ⟨W1, hW1, x0, kb⟩ : ∃ W1, w.alloc (.cells #[.slice A L c, .int .i64 s.slips] 38) = W1 ∧ W1.cell? ⟨w.heap.size, 0, none⟩ = some (.slice A L c) ∧ Below w.heap.size w W1 := ⟨_, rfl, d0, bnew (brefl w) _⟩
    rw [hW1]
    have z0 := block_lt_of_cell x0
    clear hW1 d0 d1
    refine wp_loop_rounds 1 ?_
    rw [rounds_succ]
    go_wp2
    go_ret
    exact ⟨rfl, kb⟩
set_option maxHeartbeats 4000000 in
set_option maxRecDepth 100000 in
theorem rheld_in {w : World} {A : Option Addr} {c L M : Nat} {s : St} (h : RW w A c L M s) (i : Nat) (hi : i < L) : Calls Try.prog 26 #[(.agg #[.slice A L c, .int .i64 s.slips]), .int .i64 i] w fun e w' => e = .returned (.int .i64 (cntM (gl s.H i) M : Nat)) ∧ Below w.heap.size w w' := by
  have hl4 := h.l4
  have hm60 := h.m60
  have hm1 := h.m1
  have d0 : (w.alloc (.cells #[.slice A L c, .int .i64 s.slips] 38)).cell? ⟨w.heap.size, 0, none⟩ = some (.slice A L c) := (Blk.new w 38 #[.slice A L c, .int .i64 s.slips]).cell 0
  have d1 : (w.alloc (.cells #[.slice A L c, .int .i64 s.slips] 38)).cell? ⟨w.heap.size, 1, none⟩ = some (.int .i64 s.slips) := (Blk.new w 38 #[.slice A L c, .int .i64 s.slips]).cell 1
  have h' := h.below (bnew (brefl w) (.cells #[.slice A L c, .int .i64 s.slips] 38))
  obtain ⟨bo, oo, A', c', hA, e0, hr⟩ := h'.row hi
  subst hA
  obtain ⟨br, or_, rfl, _, hc⟩ := hr.base scv_len (by decide) (by omega)
  have k0 : (0 : Int) ≤ (i : Int) := by omega
  have k1 : (i : Int) < (L : Int) := by omega
  go_enter Try.func26, Try.ntmps26
  go_upto_region 3 with (fail)
  obtain ⟨W1, hW1, x0, x1, hc1, kb⟩ : ∃ W1, w.alloc (.cells #[.slice (some ⟨bo, oo, none⟩) L c, .int .i64 s.slips] 38) = W1 ∧ W1.cell? ⟨w.heap.size, 0, none⟩ = some (.slice (some ⟨bo, oo, none⟩) L c) ∧ W1.cell? ⟨bo, oo + i, none⟩ = some (.slice (some ⟨br, or_, none⟩) M c') ∧ Hid (∀ j, j < M → W1.cell? ⟨br, or_ + j * 2, none⟩ = some (.bool (s.H (i : Int) ((j : Int) + 1)))) ∧ Below w.heap.size w W1 := ⟨_, rfl, d0, e0, fun j hj => by have h0 := hc j _ 0 _ (rowL_get s hj) rfl; simpa using h0, bnew (brefl w) _⟩
  rw [hW1]
  have z0 := block_lt_of_cell x0
  have z1 := block_lt_of_cell x1
  clear hW1 d0 d1 hc e0 hr h h'
  go_loopg [5, 6] (M + 1) (fun gk nv jv wr => ∃ j k : Nat, j + gk = M + 1 ∧ j ≤ M ∧ jv = .int .i64 j ∧ nv = .int .i64 k ∧ k ≤ j ∧ Hid (cntM (gl s.H i) j = k) ∧ wr = W1)
  case atStart => exact ⟨0, 0, by omega, by omega, rfl, rfl, Nat.le_refl _, rfl, rfl⟩
  case round =>
    obtain ⟨j, k, hj, hjm, rfl, rfl, hkj, hcnt, rfl⟩ := hrel
    by_cases hlt : j < M
    · have y0 := hc1.out j hlt
      have k2 : (0 : Int) ≤ (j : Int) := by omega
      have k3 : (j : Int) < (M : Int) := by omega
      have zr := block_lt_of_cell y0
      cases hH : s.H (i : Int) ((j : Int) + 1) with
      | true =>
        have HC : Hid (cntM (gl s.H i) (j + 1) = k + 1) := by
          rw [Hid, cntM, hcnt.out, show gl s.H i (j + 1) = true from hH]
          rfl
        rw [hH] at y0
        clear hH hcnt
        go_wp2
        go_roundg (gk - 1)
        case measure => omega
        case rel => exact ⟨j + 1, k + 1, by omega, by omega, by go_num, by go_num, by omega, HC, rfl⟩
      | false =>
        have HC : Hid (cntM (gl s.H i) (j + 1) = k) := by
          rw [Hid, cntM, hcnt.out, show gl s.H i (j + 1) = false from hH]
          rfl
        rw [hH] at y0
        clear hH hcnt
        go_wp2
        go_roundg (gk - 1)
        case measure => omega
        case rel => exact ⟨j + 1, k, by omega, by omega, by go_num, rfl, by omega, HC, rfl⟩
    · have t3 : decide (j < M) = false := decide_eq_false hlt
      obtain rfl : M = j := by omega
      go_wp2
      go_ret
      exact ⟨by rw [hcnt.out]; rfl, kb⟩
theorem cntM_more {g : Nat → Bool} {m : Nat} : ∀ k, (∀ j, m < j → g j = false) → cntM g (m + k) = cntM g m
  | 0, _ => rfl
  | k + 1, h => by
    rw [← Nat.add_assoc, cntM, cntM_more k h, h (m + k + 1) (by omega)]
    rfl
theorem rheld_any {w : World} {A : Option Addr} {c L M : Nat} {s : St} (h : RW w A c L M s) (hin : ∀ a b, s.H a b = true → inR s a b = true) (a : Int) : Calls Try.prog 26 #[(.agg #[.slice A L c, .int .i64 s.slips]), .int .i64 a] w fun e w' => e = .returned (.int .i64 (heldN s a : Nat)) ∧ Below w.heap.size w w' := by
  by_cases ha : 0 ≤ a ∧ a < s.lv
  · obtain ⟨i, rfl⟩ : ∃ i : Nat, a = (i : Int) := ⟨a.toNat, by omega⟩
    have hm := h.m60
    have e : heldN s (i : Int) = cntM (gl s.H i) M := by
      unfold heldN
      rw [show 60 = M + (60 - M) by omega]
      refine cntM_more _ (fun j hj => ?_)
      unfold gl
      cases hH : s.H (i : Int) (j : Int) with
      | false => rfl
      | true =>
        have := of_decide_eq_true (hin _ _ hH)
        rw [h.sl] at this
        omega
    rw [e]
    exact rheld_in h i (by have := h.lv; omega)
  · have e : heldN s a = 0 := cntM_none (g := gl s.H a) 60 (fun j _ _ => by
      unfold gl
      cases hH : s.H a (j : Int) with
      | false => rfl
      | true =>
        have := of_decide_eq_true (hin _ _ hH)
        omega)
    rw [e]
    exact rheld_out h a ha
end Go.Proofs.Ytlnnnaefmgikpaa
