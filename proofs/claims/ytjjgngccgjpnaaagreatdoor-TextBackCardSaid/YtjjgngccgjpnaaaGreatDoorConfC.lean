/- The reference's May; both Levels. -/
import Derived.Test.YtjjgngccgjpnaaaGreatDoorConfB
namespace Go.Proofs.YtjjgngccgjpnaaaGreatDoor
set_option linter.unusedVariables false
set_option linter.unusedSimpArgs false
open Go.RowKit

set_option maxHeartbeats 4000000 in
set_option maxRecDepth 100000 in
theorem rmay_any (c : Cf) (w : World) : Calls Tryz.prog 41 #[.agg #[.int .i64 c.lv, .int .i64 c.th, .int .i64 c.o0, .int .i64 c.o1, .int .i64 c.o2, .int .i64 c.o3, .int .i64 c.o4, .int .i64 c.o5, .int .i64 c.o6, .int .i64 c.o7, .int .i64 c.sl, .int .i64 c.li, .int .i64 c.ge, .int .i64 c.qu]] w fun e w' => e = .returned (.bool (mayB c)) ∧ Below w.heap.size w w' := by
  by_cases h0 : c.lv < 1
  · have hE : Hid (mayB c = false) := may_no fun m => by have := m.l1; omega
    go_enter Tryz.func41, Tryz.ntmps41
    go_wp2
    go_ret
    exact ⟨by rw [hE.out]; rfl, bnew (brefl w) _⟩
  by_cases h1 : 4 < c.lv
  · have hE : Hid (mayB c = false) := may_no fun m => by have := m.l2; omega
    go_enter Tryz.func41, Tryz.ntmps41
    go_wp2
    go_ret
    exact ⟨by rw [hE.out]; rfl, bnew (brefl w) _⟩
  by_cases h2 : c.th < 1
  · have hE : Hid (mayB c = false) := may_no fun m => by have := m.t1; omega
    go_enter Tryz.func41, Tryz.ntmps41
    go_wp2
    go_ret
    exact ⟨by rw [hE.out]; rfl, bnew (brefl w) _⟩
  by_cases h3 : 8 < c.th
  · have hE : Hid (mayB c = false) := may_no fun m => by have := m.t2; omega
    go_enter Tryz.func41, Tryz.ntmps41
    go_wp2
    go_ret
    exact ⟨by rw [hE.out]; rfl, bnew (brefl w) _⟩
  go_enter Tryz.func41, Tryz.ntmps41
  go_wp2_with fail
  obtain ⟨W0, hW0, k0, k1, k2, k3, k4, k5, k6, k7, k8, k9, k10, k11, k12, k13, kof, kb⟩ : ∃ W0, w.alloc (.cells #[.int .i64 c.lv, .int .i64 c.th, .int .i64 c.o0, .int .i64 c.o1, .int .i64 c.o2, .int .i64 c.o3, .int .i64 c.o4, .int .i64 c.o5, .int .i64 c.o6, .int .i64 c.o7, .int .i64 c.sl, .int .i64 c.li, .int .i64 c.ge, .int .i64 c.qu] 25) = W0 ∧ W0.cell? ⟨w.heap.size, 0, none⟩ = some (.int .i64 c.lv) ∧ W0.cell? ⟨w.heap.size, 1, none⟩ = some (.int .i64 c.th) ∧ W0.cell? ⟨w.heap.size, 2, none⟩ = some (.int .i64 c.o0) ∧ W0.cell? ⟨w.heap.size, 3, none⟩ = some (.int .i64 c.o1) ∧ W0.cell? ⟨w.heap.size, 4, none⟩ = some (.int .i64 c.o2) ∧ W0.cell? ⟨w.heap.size, 5, none⟩ = some (.int .i64 c.o3) ∧ W0.cell? ⟨w.heap.size, 6, none⟩ = some (.int .i64 c.o4) ∧ W0.cell? ⟨w.heap.size, 7, none⟩ = some (.int .i64 c.o5) ∧ W0.cell? ⟨w.heap.size, 8, none⟩ = some (.int .i64 c.o6) ∧ W0.cell? ⟨w.heap.size, 9, none⟩ = some (.int .i64 c.o7) ∧ W0.cell? ⟨w.heap.size, 10, none⟩ = some (.int .i64 c.sl) ∧ W0.cell? ⟨w.heap.size, 11, none⟩ = some (.int .i64 c.li) ∧ W0.cell? ⟨w.heap.size, 12, none⟩ = some (.int .i64 c.ge) ∧ W0.cell? ⟨w.heap.size, 13, none⟩ = some (.int .i64 c.qu) ∧ (∀ k : Nat, k < 8 → W0.cell? ⟨w.heap.size, 2 + k, none⟩ = some (.int .i64 (c.of k))) ∧ Below w.heap.size w W0 :=
    ⟨_, rfl, by go_simp, by go_simp, by go_simp, by go_simp, by go_simp, by go_simp, by go_simp, by go_simp, by go_simp, by go_simp, by go_simp, by go_simp, by go_simp, by go_simp, box_of c w, bnew (brefl w) _⟩
  rw [hW0]
  clear hW0
  go_loopg [3] 8 (fun gk i wr => ∃ k : Nat, k + gk = 8 ∧ i = .int .i64 k ∧ Hid (∀ j : Nat, j < k → (c.th ≤ (j : Int) → c.of j = 0) ∧ 0 ≤ c.of j ∧ c.of j < c.lv) ∧ ∃ d, wr = W0.drewN d)
  case atStart => exact ⟨0, by omega, rfl, fun j hj => by omega, 0, rfl⟩
  case round =>
    obtain ⟨k, hk, rfl, hR, d, rfl⟩ := hrel
    by_cases hlt : k < 8
    · have ck := kof k hlt
      have b0 : (0 : Int) ≤ (k : Int) := by omega
      have b1 : (k : Int) < 8 := by omega
      have hR2 : Hid ((c.th ≤ (k : Int) → c.of k = 0) → 0 ≤ c.of k → c.of k < c.lv → ∀ j : Nat, j < k + 1 → (c.th ≤ (j : Int) → c.of j = 0) ∧ 0 ≤ c.of j ∧ c.of j < c.lv) := fun p1 p2 p3 j hj => by
        rcases Nat.lt_succ_iff_lt_or_eq.1 hj with h3 | h3
        · exact hR.out j h3
        · rw [h3]; exact ⟨p1, p2, p3⟩
      have hE0 : Hid ((c.th ≤ (k : Int) ∧ ¬ c.of k = 0) ∨ c.of k < 0 ∨ c.lv ≤ c.of k → mayB c = false) := fun h => may_no fun m => by
        have p1 := m.z k hlt
        have p2 := m.r k hlt
        rcases h with h | h | h
        · exact h.2 (p1 h.1)
        · omega
        · omega
      clear hR
      clear kof
      generalize hv : c.of k = v at *
      clear hv
      by_cases g1 : c.th ≤ (k : Int)
      · have t1 : c.th ≤ (k : Int) := g1
        by_cases g2 : v = 0
        · have g3 : ¬ c.lv ≤ v := by omega
          have t2 : (v != 0) = false := by simp [g2]
          have t3 : decide (v < 0) = false := decide_eq_false (by omega)
          have t4 : decide (c.lv ≤ v) = false := decide_eq_false g3
          have hR3 : Hid _ := hR2.out (fun _ => g2) (by omega) (by omega)
          clear hE0 hR2 g1 g2 g3
          go_wp2_with fail
          go_quiet (fail)
          go_wp2
          go_roundg (gk - 1)
          case measure => omega
          case rel => exact ⟨k + 1, by omega, by go_num, hR3, _, by first | rfl | exact World.drewN_drewN _ _ _⟩
        · have t2 : (v != 0) = true := by simpa using g2
          have hE : Hid (mayB c = false) := hE0.out (.inl ⟨g1, g2⟩)
          clear hE0 hR2 g1 g2
          go_wp2_with fail
          go_quiet (fail)
          go_wp2
          go_ret
          exact ⟨by rw [hE.out]; rfl, below_drewN (below_drewN kb _) _⟩
      · have t1 : decide (c.th ≤ (k : Int)) = false := decide_eq_false g1
        by_cases g2 : v < 0
        · have t3 : v < 0 := g2
          have hE : Hid (mayB c = false) := hE0.out (.inr (.inl g2))
          clear hE0 hR2 g1 g2
          go_wp2_with fail
          go_quiet (fail)
          go_wp2
          go_ret
          exact ⟨by rw [hE.out]; rfl, below_drewN (below_drewN kb _) _⟩
        · have t3 : decide (v < 0) = false := decide_eq_false g2
          by_cases g3 : c.lv ≤ v
          · have t4 : c.lv ≤ v := g3
            have hE : Hid (mayB c = false) := hE0.out (.inr (.inr g3))
            clear hE0 hR2 g1 g2 g3
            go_wp2_with fail
            go_quiet (fail)
            go_wp2
            go_ret
            exact ⟨by rw [hE.out]; rfl, below_drewN (below_drewN kb _) _⟩
          · have t4 : decide (c.lv ≤ v) = false := decide_eq_false g3
            have hR3 : Hid _ := hR2.out (fun h => absurd h g1) (by omega) (by omega)
            clear hE0 hR2 g1 g2 g3
            go_wp2_with fail
            go_quiet (fail)
            go_wp2
            go_roundg (gk - 1)
            case measure => omega
            case rel => exact ⟨k + 1, by omega, by go_num, hR3, _, by first | rfl | exact World.drewN_drewN _ _ _⟩
    · obtain rfl : k = 8 := by omega
      have hm : Hid ((2 ≤ c.sl ∧ c.sl ≤ 60) → (1 ≤ c.li ∧ c.li ≤ 40) → (1 ≤ c.ge ∧ c.ge ≤ 1048576) → (0 ≤ c.qu ∧ c.qu ≤ 60) → mayB c = true) := fun a b d e => may_yes ⟨by omega, by omega, by omega, by omega, fun j hj => (hR.out j hj).1, fun j hj => (hR.out j hj).2, a.1, a.2, b.1, b.2, d.1, d.2, e.1, e.2⟩
      clear hR
      by_cases e0 : c.sl < 2
      · have hE : Hid (mayB c = false) := may_no fun m => by have := m.s1; omega
        clear hm
        go_wp2
        go_ret
        exact ⟨by rw [hE.out]; rfl, below_drewN kb _⟩
      by_cases e1 : 60 < c.sl
      · have hE : Hid (mayB c = false) := may_no fun m => by have := m.s2; omega
        clear hm
        go_wp2
        go_ret
        exact ⟨by rw [hE.out]; rfl, below_drewN kb _⟩
      by_cases e2 : c.li < 1
      · have hE : Hid (mayB c = false) := may_no fun m => by have := m.m1; omega
        clear hm
        go_wp2
        go_ret
        exact ⟨by rw [hE.out]; rfl, below_drewN kb _⟩
      by_cases e3 : 40 < c.li
      · have hE : Hid (mayB c = false) := may_no fun m => by have := m.m2; omega
        clear hm
        go_wp2
        go_ret
        exact ⟨by rw [hE.out]; rfl, below_drewN kb _⟩
      by_cases e4 : c.ge < 1
      · have hE : Hid (mayB c = false) := may_no fun m => by have := m.g1; omega
        clear hm
        have p4 : ¬ 1 ≤ c.ge := by omega
        go_wp2
        go_ret
        exact ⟨by rw [hE.out]; rfl, below_drewN kb _⟩
      have p4 : 1 ≤ c.ge := by omega
      by_cases e5 : 1048576 < c.ge
      · have hE : Hid (mayB c = false) := may_no fun m => by have := m.g2; omega
        clear hm
        have p5 : ¬ c.ge ≤ 1048576 := by omega
        go_wp2
        go_ret
        exact ⟨by rw [hE.out]; rfl, below_drewN kb _⟩
      have p5 : c.ge ≤ 1048576 := by omega
      by_cases e6 : c.qu < 0
      · have hE : Hid (mayB c = false) := may_no fun m => by have := m.q1; omega
        clear hm
        have p6 : ¬ 0 ≤ c.qu := by omega
        go_wp2
        go_ret
        exact ⟨by rw [hE.out]; rfl, below_drewN kb _⟩
      have p6 : 0 ≤ c.qu := by omega
      by_cases e7 : 60 < c.qu
      · have hE : Hid (mayB c = false) := may_no fun m => by have := m.q2; omega
        clear hm
        have p7 : ¬ c.qu ≤ 60 := by omega
        go_wp2
        go_ret
        exact ⟨by rw [hE.out]; rfl, below_drewN kb _⟩
      have p7 : c.qu ≤ 60 := by omega
      have hE : Hid (mayB c = true) := hm.out ⟨by omega, by omega⟩ ⟨by omega, by omega⟩ ⟨by omega, by omega⟩ ⟨by omega, by omega⟩
      clear hm
      go_wp2
      go_ret
      exact ⟨by rw [hE.out]; rfl, below_drewN kb _⟩

/-- A thread's level. -/
def levelOf (c : Cf) (t : Int) : Int := if mayB c = true ∧ 0 ≤ t ∧ t < c.th then c.of t.toNat else -1

set_option maxHeartbeats 4000000 in
set_option maxRecDepth 100000 in
theorem level_any (c : Cf) (t : Int) (w : World) : Calls Tryz.prog 96 #[.agg #[.int .i64 c.lv, .int .i64 c.th, .int .i64 c.o0, .int .i64 c.o1, .int .i64 c.o2, .int .i64 c.o3, .int .i64 c.o4, .int .i64 c.o5, .int .i64 c.o6, .int .i64 c.o7, .int .i64 c.sl, .int .i64 c.li, .int .i64 c.ge, .int .i64 c.qu], .int .i64 t] w fun e w' => e = .returned (.int .i64 (levelOf c t)) ∧ Below w.heap.size w w' := by
  have hmay := may_any c
  by_cases h : mayB c = true
  · have m : c.May := of_decide_eq_true h
    have l1 := m.t1
    have l2 := m.t2
    rw [h] at hmay
    by_cases h2 : 0 ≤ t ∧ t < c.th
    · have hE : Hid (levelOf c t = c.of t.toNat) := if_pos ⟨h, h2⟩
      have hin := in_any t 0 (c.th - 1)
      rw [in_yes h2.1 (by omega)] at hin
      obtain ⟨k, rfl⟩ : ∃ k : Nat, t = (k : Int) := ⟨t.toNat, by omega⟩
      have b0 : (0 : Int) ≤ (k : Int) := by omega
      have b1 : (k : Int) < c.th := by omega
      have b2 : (k : Int) < 8 := by omega
      have b3 : ¬ c.th ≤ (k : Int) := by omega
      have b4 : k < 8 := by omega
      clear h h2 m
      go_enter Tryz.func96, Tryz.ntmps96
      go_wp2_with fail
      obtain ⟨W0, hW0, k0, k1, k2, k3, k4, k5, k6, k7, k8, k9, k10, k11, k12, k13, kof, kb⟩ : ∃ W0, w.alloc (.cells #[.int .i64 c.lv, .int .i64 c.th, .int .i64 c.o0, .int .i64 c.o1, .int .i64 c.o2, .int .i64 c.o3, .int .i64 c.o4, .int .i64 c.o5, .int .i64 c.o6, .int .i64 c.o7, .int .i64 c.sl, .int .i64 c.li, .int .i64 c.ge, .int .i64 c.qu] 25) = W0 ∧ W0.cell? ⟨w.heap.size, 0, none⟩ = some (.int .i64 c.lv) ∧ W0.cell? ⟨w.heap.size, 1, none⟩ = some (.int .i64 c.th) ∧ W0.cell? ⟨w.heap.size, 2, none⟩ = some (.int .i64 c.o0) ∧ W0.cell? ⟨w.heap.size, 3, none⟩ = some (.int .i64 c.o1) ∧ W0.cell? ⟨w.heap.size, 4, none⟩ = some (.int .i64 c.o2) ∧ W0.cell? ⟨w.heap.size, 5, none⟩ = some (.int .i64 c.o3) ∧ W0.cell? ⟨w.heap.size, 6, none⟩ = some (.int .i64 c.o4) ∧ W0.cell? ⟨w.heap.size, 7, none⟩ = some (.int .i64 c.o5) ∧ W0.cell? ⟨w.heap.size, 8, none⟩ = some (.int .i64 c.o6) ∧ W0.cell? ⟨w.heap.size, 9, none⟩ = some (.int .i64 c.o7) ∧ W0.cell? ⟨w.heap.size, 10, none⟩ = some (.int .i64 c.sl) ∧ W0.cell? ⟨w.heap.size, 11, none⟩ = some (.int .i64 c.li) ∧ W0.cell? ⟨w.heap.size, 12, none⟩ = some (.int .i64 c.ge) ∧ W0.cell? ⟨w.heap.size, 13, none⟩ = some (.int .i64 c.qu) ∧ (∀ k : Nat, k < 8 → W0.cell? ⟨w.heap.size, 2 + k, none⟩ = some (.int .i64 (c.of k))) ∧ Below w.heap.size w W0 :=
        ⟨_, rfl, by go_simp, by go_simp, by go_simp, by go_simp, by go_simp, by go_simp, by go_simp, by go_simp, by go_simp, by go_simp, by go_simp, by go_simp, by go_simp, by go_simp, box_of c w, bnew (brefl w) _⟩
      rw [hW0]
      clear hW0
      have ck := kof k b4
      go_wp2_with (first | (go_at_call 66; refine (hmay _).mono ?_; rintro e w1 ⟨rfl, hb1⟩; have hb2 := bnext (brefl W0) hb1; have q1 := keep_below k1 hb1; have qf := keep_below ck hb1) | (go_at_call 97; refine (hin _).mono ?_; rintro e w' ⟨rfl, rfl⟩))
      go_ret
      exact ⟨by rw [hE.out]; rfl, bnext kb hb1⟩
    · have hE : Hid (levelOf c t = -1) := if_neg (fun q => h2 q.2)
      have hin := in_any t 0 (c.th - 1)
      rw [in_no (by omega)] at hin
      clear h m
      by_cases g1 : t < 0
      · go_enter Tryz.func96, Tryz.ntmps96
        go_wp2_with fail
        obtain ⟨W0, hW0, k0, k1, k2, k3, k4, k5, k6, k7, k8, k9, k10, k11, k12, k13, kof, kb⟩ : ∃ W0, w.alloc (.cells #[.int .i64 c.lv, .int .i64 c.th, .int .i64 c.o0, .int .i64 c.o1, .int .i64 c.o2, .int .i64 c.o3, .int .i64 c.o4, .int .i64 c.o5, .int .i64 c.o6, .int .i64 c.o7, .int .i64 c.sl, .int .i64 c.li, .int .i64 c.ge, .int .i64 c.qu] 25) = W0 ∧ W0.cell? ⟨w.heap.size, 0, none⟩ = some (.int .i64 c.lv) ∧ W0.cell? ⟨w.heap.size, 1, none⟩ = some (.int .i64 c.th) ∧ W0.cell? ⟨w.heap.size, 2, none⟩ = some (.int .i64 c.o0) ∧ W0.cell? ⟨w.heap.size, 3, none⟩ = some (.int .i64 c.o1) ∧ W0.cell? ⟨w.heap.size, 4, none⟩ = some (.int .i64 c.o2) ∧ W0.cell? ⟨w.heap.size, 5, none⟩ = some (.int .i64 c.o3) ∧ W0.cell? ⟨w.heap.size, 6, none⟩ = some (.int .i64 c.o4) ∧ W0.cell? ⟨w.heap.size, 7, none⟩ = some (.int .i64 c.o5) ∧ W0.cell? ⟨w.heap.size, 8, none⟩ = some (.int .i64 c.o6) ∧ W0.cell? ⟨w.heap.size, 9, none⟩ = some (.int .i64 c.o7) ∧ W0.cell? ⟨w.heap.size, 10, none⟩ = some (.int .i64 c.sl) ∧ W0.cell? ⟨w.heap.size, 11, none⟩ = some (.int .i64 c.li) ∧ W0.cell? ⟨w.heap.size, 12, none⟩ = some (.int .i64 c.ge) ∧ W0.cell? ⟨w.heap.size, 13, none⟩ = some (.int .i64 c.qu) ∧ (∀ k : Nat, k < 8 → W0.cell? ⟨w.heap.size, 2 + k, none⟩ = some (.int .i64 (c.of k))) ∧ Below w.heap.size w W0 :=
          ⟨_, rfl, by go_simp, by go_simp, by go_simp, by go_simp, by go_simp, by go_simp, by go_simp, by go_simp, by go_simp, by go_simp, by go_simp, by go_simp, by go_simp, by go_simp, box_of c w, bnew (brefl w) _⟩
        rw [hW0]
        clear hW0
        go_wp2_with (first | (go_at_call 66; refine (hmay _).mono ?_; rintro e w1 ⟨rfl, hb1⟩; have hb2 := bnext (brefl W0) hb1; have q1 := keep_below k1 hb1) | (go_at_call 97; refine (hin _).mono ?_; rintro e w' ⟨rfl, rfl⟩))
        go_ret
        exact ⟨by rw [hE.out]; rfl, bnext kb hb1⟩
      · have g2 : c.th ≤ t := by omega
        go_enter Tryz.func96, Tryz.ntmps96
        go_wp2_with fail
        obtain ⟨W0, hW0, k0, k1, k2, k3, k4, k5, k6, k7, k8, k9, k10, k11, k12, k13, kof, kb⟩ : ∃ W0, w.alloc (.cells #[.int .i64 c.lv, .int .i64 c.th, .int .i64 c.o0, .int .i64 c.o1, .int .i64 c.o2, .int .i64 c.o3, .int .i64 c.o4, .int .i64 c.o5, .int .i64 c.o6, .int .i64 c.o7, .int .i64 c.sl, .int .i64 c.li, .int .i64 c.ge, .int .i64 c.qu] 25) = W0 ∧ W0.cell? ⟨w.heap.size, 0, none⟩ = some (.int .i64 c.lv) ∧ W0.cell? ⟨w.heap.size, 1, none⟩ = some (.int .i64 c.th) ∧ W0.cell? ⟨w.heap.size, 2, none⟩ = some (.int .i64 c.o0) ∧ W0.cell? ⟨w.heap.size, 3, none⟩ = some (.int .i64 c.o1) ∧ W0.cell? ⟨w.heap.size, 4, none⟩ = some (.int .i64 c.o2) ∧ W0.cell? ⟨w.heap.size, 5, none⟩ = some (.int .i64 c.o3) ∧ W0.cell? ⟨w.heap.size, 6, none⟩ = some (.int .i64 c.o4) ∧ W0.cell? ⟨w.heap.size, 7, none⟩ = some (.int .i64 c.o5) ∧ W0.cell? ⟨w.heap.size, 8, none⟩ = some (.int .i64 c.o6) ∧ W0.cell? ⟨w.heap.size, 9, none⟩ = some (.int .i64 c.o7) ∧ W0.cell? ⟨w.heap.size, 10, none⟩ = some (.int .i64 c.sl) ∧ W0.cell? ⟨w.heap.size, 11, none⟩ = some (.int .i64 c.li) ∧ W0.cell? ⟨w.heap.size, 12, none⟩ = some (.int .i64 c.ge) ∧ W0.cell? ⟨w.heap.size, 13, none⟩ = some (.int .i64 c.qu) ∧ (∀ k : Nat, k < 8 → W0.cell? ⟨w.heap.size, 2 + k, none⟩ = some (.int .i64 (c.of k))) ∧ Below w.heap.size w W0 :=
          ⟨_, rfl, by go_simp, by go_simp, by go_simp, by go_simp, by go_simp, by go_simp, by go_simp, by go_simp, by go_simp, by go_simp, by go_simp, by go_simp, by go_simp, by go_simp, box_of c w, bnew (brefl w) _⟩
        rw [hW0]
        clear hW0
        go_wp2_with (first | (go_at_call 66; refine (hmay _).mono ?_; rintro e w1 ⟨rfl, hb1⟩; have hb2 := bnext (brefl W0) hb1; have q1 := keep_below k1 hb1) | (go_at_call 97; refine (hin _).mono ?_; rintro e w' ⟨rfl, rfl⟩))
        go_ret
        exact ⟨by rw [hE.out]; rfl, bnext kb hb1⟩
  · have hE : Hid (levelOf c t = -1) := if_neg (fun q => h q.1)
    have h' : mayB c = false := by simpa using h
    rw [h'] at hmay
    clear h h'
    go_enter Tryz.func96, Tryz.ntmps96
    go_wp2_with fail
    obtain ⟨W0, hW0, k0, k1, k2, k3, k4, k5, k6, k7, k8, k9, k10, k11, k12, k13, kof, kb⟩ : ∃ W0, w.alloc (.cells #[.int .i64 c.lv, .int .i64 c.th, .int .i64 c.o0, .int .i64 c.o1, .int .i64 c.o2, .int .i64 c.o3, .int .i64 c.o4, .int .i64 c.o5, .int .i64 c.o6, .int .i64 c.o7, .int .i64 c.sl, .int .i64 c.li, .int .i64 c.ge, .int .i64 c.qu] 25) = W0 ∧ W0.cell? ⟨w.heap.size, 0, none⟩ = some (.int .i64 c.lv) ∧ W0.cell? ⟨w.heap.size, 1, none⟩ = some (.int .i64 c.th) ∧ W0.cell? ⟨w.heap.size, 2, none⟩ = some (.int .i64 c.o0) ∧ W0.cell? ⟨w.heap.size, 3, none⟩ = some (.int .i64 c.o1) ∧ W0.cell? ⟨w.heap.size, 4, none⟩ = some (.int .i64 c.o2) ∧ W0.cell? ⟨w.heap.size, 5, none⟩ = some (.int .i64 c.o3) ∧ W0.cell? ⟨w.heap.size, 6, none⟩ = some (.int .i64 c.o4) ∧ W0.cell? ⟨w.heap.size, 7, none⟩ = some (.int .i64 c.o5) ∧ W0.cell? ⟨w.heap.size, 8, none⟩ = some (.int .i64 c.o6) ∧ W0.cell? ⟨w.heap.size, 9, none⟩ = some (.int .i64 c.o7) ∧ W0.cell? ⟨w.heap.size, 10, none⟩ = some (.int .i64 c.sl) ∧ W0.cell? ⟨w.heap.size, 11, none⟩ = some (.int .i64 c.li) ∧ W0.cell? ⟨w.heap.size, 12, none⟩ = some (.int .i64 c.ge) ∧ W0.cell? ⟨w.heap.size, 13, none⟩ = some (.int .i64 c.qu) ∧ (∀ k : Nat, k < 8 → W0.cell? ⟨w.heap.size, 2 + k, none⟩ = some (.int .i64 (c.of k))) ∧ Below w.heap.size w W0 :=
      ⟨_, rfl, by go_simp, by go_simp, by go_simp, by go_simp, by go_simp, by go_simp, by go_simp, by go_simp, by go_simp, by go_simp, by go_simp, by go_simp, by go_simp, by go_simp, box_of c w, bnew (brefl w) _⟩
    rw [hW0]
    clear hW0
    go_wp2_with (first | (go_at_call 66; refine (hmay _).mono ?_; rintro e w1 ⟨rfl, hb1⟩; have hb2 := bnext (brefl W0) hb1; have q1 := keep_below k1 hb1))
    go_ret
    exact ⟨by rw [hE.out]; rfl, bnext kb hb1⟩

set_option maxHeartbeats 4000000 in
set_option maxRecDepth 100000 in
theorem rlevel_any (c : Cf) (t : Int) (w : World) : Calls Tryz.prog 42 #[.agg #[.int .i64 c.lv, .int .i64 c.th, .int .i64 c.o0, .int .i64 c.o1, .int .i64 c.o2, .int .i64 c.o3, .int .i64 c.o4, .int .i64 c.o5, .int .i64 c.o6, .int .i64 c.o7, .int .i64 c.sl, .int .i64 c.li, .int .i64 c.ge, .int .i64 c.qu], .int .i64 t] w fun e w' => e = .returned (.int .i64 (levelOf c t)) ∧ Below w.heap.size w w' := by
  have hmay := rmay_any c
  by_cases h : mayB c = true
  · have m : c.May := of_decide_eq_true h
    have l1 := m.t1
    have l2 := m.t2
    rw [h] at hmay
    by_cases h2 : 0 ≤ t ∧ t < c.th
    · have hE : Hid (levelOf c t = c.of t.toNat) := if_pos ⟨h, h2⟩
      obtain ⟨k, rfl⟩ : ∃ k : Nat, t = (k : Int) := ⟨t.toNat, by omega⟩
      have b0 : (0 : Int) ≤ (k : Int) := by omega
      have b1 : (k : Int) < c.th := by omega
      have b2 : (k : Int) < 8 := by omega
      have b3 : ¬ c.th ≤ (k : Int) := by omega
      have b4 : k < 8 := by omega
      clear h h2 m
      go_enter Tryz.func42, Tryz.ntmps42
      go_wp2_with fail
      obtain ⟨W0, hW0, k0, k1, k2, k3, k4, k5, k6, k7, k8, k9, k10, k11, k12, k13, kof, kb⟩ : ∃ W0, w.alloc (.cells #[.int .i64 c.lv, .int .i64 c.th, .int .i64 c.o0, .int .i64 c.o1, .int .i64 c.o2, .int .i64 c.o3, .int .i64 c.o4, .int .i64 c.o5, .int .i64 c.o6, .int .i64 c.o7, .int .i64 c.sl, .int .i64 c.li, .int .i64 c.ge, .int .i64 c.qu] 25) = W0 ∧ W0.cell? ⟨w.heap.size, 0, none⟩ = some (.int .i64 c.lv) ∧ W0.cell? ⟨w.heap.size, 1, none⟩ = some (.int .i64 c.th) ∧ W0.cell? ⟨w.heap.size, 2, none⟩ = some (.int .i64 c.o0) ∧ W0.cell? ⟨w.heap.size, 3, none⟩ = some (.int .i64 c.o1) ∧ W0.cell? ⟨w.heap.size, 4, none⟩ = some (.int .i64 c.o2) ∧ W0.cell? ⟨w.heap.size, 5, none⟩ = some (.int .i64 c.o3) ∧ W0.cell? ⟨w.heap.size, 6, none⟩ = some (.int .i64 c.o4) ∧ W0.cell? ⟨w.heap.size, 7, none⟩ = some (.int .i64 c.o5) ∧ W0.cell? ⟨w.heap.size, 8, none⟩ = some (.int .i64 c.o6) ∧ W0.cell? ⟨w.heap.size, 9, none⟩ = some (.int .i64 c.o7) ∧ W0.cell? ⟨w.heap.size, 10, none⟩ = some (.int .i64 c.sl) ∧ W0.cell? ⟨w.heap.size, 11, none⟩ = some (.int .i64 c.li) ∧ W0.cell? ⟨w.heap.size, 12, none⟩ = some (.int .i64 c.ge) ∧ W0.cell? ⟨w.heap.size, 13, none⟩ = some (.int .i64 c.qu) ∧ (∀ k : Nat, k < 8 → W0.cell? ⟨w.heap.size, 2 + k, none⟩ = some (.int .i64 (c.of k))) ∧ Below w.heap.size w W0 :=
        ⟨_, rfl, by go_simp, by go_simp, by go_simp, by go_simp, by go_simp, by go_simp, by go_simp, by go_simp, by go_simp, by go_simp, by go_simp, by go_simp, by go_simp, by go_simp, box_of c w, bnew (brefl w) _⟩
      rw [hW0]
      clear hW0
      have ck := kof k b4
      go_wp2_with (first | (go_at_call 41; refine (hmay _).mono ?_; rintro e w1 ⟨rfl, hb1⟩; have hb2 := bnext (brefl W0) hb1; have q1 := keep_below k1 hb1; have qf := keep_below ck hb1))
      go_ret
      exact ⟨by rw [hE.out]; rfl, bnext kb hb1⟩
    · have hE : Hid (levelOf c t = -1) := if_neg (fun q => h2 q.2)
      clear h m
      by_cases g1 : t < 0
      · go_enter Tryz.func42, Tryz.ntmps42
        go_wp2_with fail
        obtain ⟨W0, hW0, k0, k1, k2, k3, k4, k5, k6, k7, k8, k9, k10, k11, k12, k13, kof, kb⟩ : ∃ W0, w.alloc (.cells #[.int .i64 c.lv, .int .i64 c.th, .int .i64 c.o0, .int .i64 c.o1, .int .i64 c.o2, .int .i64 c.o3, .int .i64 c.o4, .int .i64 c.o5, .int .i64 c.o6, .int .i64 c.o7, .int .i64 c.sl, .int .i64 c.li, .int .i64 c.ge, .int .i64 c.qu] 25) = W0 ∧ W0.cell? ⟨w.heap.size, 0, none⟩ = some (.int .i64 c.lv) ∧ W0.cell? ⟨w.heap.size, 1, none⟩ = some (.int .i64 c.th) ∧ W0.cell? ⟨w.heap.size, 2, none⟩ = some (.int .i64 c.o0) ∧ W0.cell? ⟨w.heap.size, 3, none⟩ = some (.int .i64 c.o1) ∧ W0.cell? ⟨w.heap.size, 4, none⟩ = some (.int .i64 c.o2) ∧ W0.cell? ⟨w.heap.size, 5, none⟩ = some (.int .i64 c.o3) ∧ W0.cell? ⟨w.heap.size, 6, none⟩ = some (.int .i64 c.o4) ∧ W0.cell? ⟨w.heap.size, 7, none⟩ = some (.int .i64 c.o5) ∧ W0.cell? ⟨w.heap.size, 8, none⟩ = some (.int .i64 c.o6) ∧ W0.cell? ⟨w.heap.size, 9, none⟩ = some (.int .i64 c.o7) ∧ W0.cell? ⟨w.heap.size, 10, none⟩ = some (.int .i64 c.sl) ∧ W0.cell? ⟨w.heap.size, 11, none⟩ = some (.int .i64 c.li) ∧ W0.cell? ⟨w.heap.size, 12, none⟩ = some (.int .i64 c.ge) ∧ W0.cell? ⟨w.heap.size, 13, none⟩ = some (.int .i64 c.qu) ∧ (∀ k : Nat, k < 8 → W0.cell? ⟨w.heap.size, 2 + k, none⟩ = some (.int .i64 (c.of k))) ∧ Below w.heap.size w W0 :=
          ⟨_, rfl, by go_simp, by go_simp, by go_simp, by go_simp, by go_simp, by go_simp, by go_simp, by go_simp, by go_simp, by go_simp, by go_simp, by go_simp, by go_simp, by go_simp, box_of c w, bnew (brefl w) _⟩
        rw [hW0]
        clear hW0
        go_wp2_with (first | (go_at_call 41; refine (hmay _).mono ?_; rintro e w1 ⟨rfl, hb1⟩; have hb2 := bnext (brefl W0) hb1; have q1 := keep_below k1 hb1))
        go_ret
        exact ⟨by rw [hE.out]; rfl, bnext kb hb1⟩
      · have g2 : c.th ≤ t := by omega
        go_enter Tryz.func42, Tryz.ntmps42
        go_wp2_with fail
        obtain ⟨W0, hW0, k0, k1, k2, k3, k4, k5, k6, k7, k8, k9, k10, k11, k12, k13, kof, kb⟩ : ∃ W0, w.alloc (.cells #[.int .i64 c.lv, .int .i64 c.th, .int .i64 c.o0, .int .i64 c.o1, .int .i64 c.o2, .int .i64 c.o3, .int .i64 c.o4, .int .i64 c.o5, .int .i64 c.o6, .int .i64 c.o7, .int .i64 c.sl, .int .i64 c.li, .int .i64 c.ge, .int .i64 c.qu] 25) = W0 ∧ W0.cell? ⟨w.heap.size, 0, none⟩ = some (.int .i64 c.lv) ∧ W0.cell? ⟨w.heap.size, 1, none⟩ = some (.int .i64 c.th) ∧ W0.cell? ⟨w.heap.size, 2, none⟩ = some (.int .i64 c.o0) ∧ W0.cell? ⟨w.heap.size, 3, none⟩ = some (.int .i64 c.o1) ∧ W0.cell? ⟨w.heap.size, 4, none⟩ = some (.int .i64 c.o2) ∧ W0.cell? ⟨w.heap.size, 5, none⟩ = some (.int .i64 c.o3) ∧ W0.cell? ⟨w.heap.size, 6, none⟩ = some (.int .i64 c.o4) ∧ W0.cell? ⟨w.heap.size, 7, none⟩ = some (.int .i64 c.o5) ∧ W0.cell? ⟨w.heap.size, 8, none⟩ = some (.int .i64 c.o6) ∧ W0.cell? ⟨w.heap.size, 9, none⟩ = some (.int .i64 c.o7) ∧ W0.cell? ⟨w.heap.size, 10, none⟩ = some (.int .i64 c.sl) ∧ W0.cell? ⟨w.heap.size, 11, none⟩ = some (.int .i64 c.li) ∧ W0.cell? ⟨w.heap.size, 12, none⟩ = some (.int .i64 c.ge) ∧ W0.cell? ⟨w.heap.size, 13, none⟩ = some (.int .i64 c.qu) ∧ (∀ k : Nat, k < 8 → W0.cell? ⟨w.heap.size, 2 + k, none⟩ = some (.int .i64 (c.of k))) ∧ Below w.heap.size w W0 :=
          ⟨_, rfl, by go_simp, by go_simp, by go_simp, by go_simp, by go_simp, by go_simp, by go_simp, by go_simp, by go_simp, by go_simp, by go_simp, by go_simp, by go_simp, by go_simp, box_of c w, bnew (brefl w) _⟩
        rw [hW0]
        clear hW0
        go_wp2_with (first | (go_at_call 41; refine (hmay _).mono ?_; rintro e w1 ⟨rfl, hb1⟩; have hb2 := bnext (brefl W0) hb1; have q1 := keep_below k1 hb1))
        go_ret
        exact ⟨by rw [hE.out]; rfl, bnext kb hb1⟩
  · have hE : Hid (levelOf c t = -1) := if_neg (fun q => h q.1)
    have h' : mayB c = false := by simpa using h
    rw [h'] at hmay
    clear h h'
    go_enter Tryz.func42, Tryz.ntmps42
    go_wp2_with fail
    obtain ⟨W0, hW0, k0, k1, k2, k3, k4, k5, k6, k7, k8, k9, k10, k11, k12, k13, kof, kb⟩ : ∃ W0, w.alloc (.cells #[.int .i64 c.lv, .int .i64 c.th, .int .i64 c.o0, .int .i64 c.o1, .int .i64 c.o2, .int .i64 c.o3, .int .i64 c.o4, .int .i64 c.o5, .int .i64 c.o6, .int .i64 c.o7, .int .i64 c.sl, .int .i64 c.li, .int .i64 c.ge, .int .i64 c.qu] 25) = W0 ∧ W0.cell? ⟨w.heap.size, 0, none⟩ = some (.int .i64 c.lv) ∧ W0.cell? ⟨w.heap.size, 1, none⟩ = some (.int .i64 c.th) ∧ W0.cell? ⟨w.heap.size, 2, none⟩ = some (.int .i64 c.o0) ∧ W0.cell? ⟨w.heap.size, 3, none⟩ = some (.int .i64 c.o1) ∧ W0.cell? ⟨w.heap.size, 4, none⟩ = some (.int .i64 c.o2) ∧ W0.cell? ⟨w.heap.size, 5, none⟩ = some (.int .i64 c.o3) ∧ W0.cell? ⟨w.heap.size, 6, none⟩ = some (.int .i64 c.o4) ∧ W0.cell? ⟨w.heap.size, 7, none⟩ = some (.int .i64 c.o5) ∧ W0.cell? ⟨w.heap.size, 8, none⟩ = some (.int .i64 c.o6) ∧ W0.cell? ⟨w.heap.size, 9, none⟩ = some (.int .i64 c.o7) ∧ W0.cell? ⟨w.heap.size, 10, none⟩ = some (.int .i64 c.sl) ∧ W0.cell? ⟨w.heap.size, 11, none⟩ = some (.int .i64 c.li) ∧ W0.cell? ⟨w.heap.size, 12, none⟩ = some (.int .i64 c.ge) ∧ W0.cell? ⟨w.heap.size, 13, none⟩ = some (.int .i64 c.qu) ∧ (∀ k : Nat, k < 8 → W0.cell? ⟨w.heap.size, 2 + k, none⟩ = some (.int .i64 (c.of k))) ∧ Below w.heap.size w W0 :=
      ⟨_, rfl, by go_simp, by go_simp, by go_simp, by go_simp, by go_simp, by go_simp, by go_simp, by go_simp, by go_simp, by go_simp, by go_simp, by go_simp, by go_simp, by go_simp, box_of c w, bnew (brefl w) _⟩
    rw [hW0]
    clear hW0
    go_wp2_with (first | (go_at_call 41; refine (hmay _).mono ?_; rintro e w1 ⟨rfl, hb1⟩; have hb2 := bnext (brefl W0) hb1; have q1 := keep_below k1 hb1))
    go_ret
    exact ⟨by rw [hE.out]; rfl, bnext kb hb1⟩
end Go.Proofs.YtjjgngccgjpnaaaGreatDoor
