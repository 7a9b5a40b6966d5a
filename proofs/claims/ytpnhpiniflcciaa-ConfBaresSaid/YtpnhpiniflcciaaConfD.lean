/- Threads of levels. -/
import Derived.Test.YtpnhpiniflcciaaConfC
namespace Go.Proofs.Ytpnhpiniflcciaa
set_option linter.unusedVariables false
set_option linter.unusedSimpArgs false
open Go.RowKit

def ic (n : Int) : List Value := [.int .i64 n]
theorem ic_len (n : Int) : (ic n).length = 1 := rfl
theorem info_i : (Try.prog.info? 3).map (fun i => (i.zero, i.size, i.bytes)) = some (some (.int .i64 0), 1, 8) := by kernel_rfl
theorem elem_i : ∃ i, Elem Try.prog 50 3 i (.int .i64 0) 1 8 := Elem.of Try.underlying50 info_i rfl (by decide)

/-- The threads below k whose level is as it is asked for. -/
def thr (c : Cf) (p : Int → Bool) : Nat → List Int
  | 0 => []
  | k + 1 => thr c p k ++ (if (decide ((k : Int) < c.th) && p (c.of k)) = true then [(k : Int)] else [])
theorem thr_len (c : Cf) (p : Int → Bool) : ∀ k, (thr c p k).length ≤ k
  | 0 => Nat.le_refl _
  | k + 1 => by
    have := thr_len c p k
    rw [thr, List.length_append]
    split <;> simp <;> omega
theorem thr_past (c : Cf) (p : Int → Bool) {k : Nat} (hk : c.th ≤ (k : Int)) : ∀ j, thr c p (k + j) = thr c p k
  | 0 => rfl
  | j + 1 => by
    rw [show k + (j + 1) = (k + j) + 1 by omega, thr, if_neg (by simp; intro h; omega), List.append_nil, thr_past c p hk j]
theorem thr_congr (c : Cf) {p q : Int → Bool} (h : ∀ k : Nat, k < 8 → p (c.of k) = q (c.of k)) : ∀ k, k ≤ 8 → thr c p k = thr c q k
  | 0, _ => rfl
  | k + 1, hk => by rw [thr, thr, thr_congr c h k (by omega), h k (by omega)]
def atL (c : Cf) (p : Int → Bool) : List Int := if mayB c = true then thr c p 8 else []

set_option maxHeartbeats 1000000 in
theorem at1_any (l v : Int) (p : Nat) (w : World) (hp : w.cell? ⟨p, 0, none⟩ = some (.int .i64 v)) : Calls Try.prog 50 #[.int .i64 l, .pointer (some ⟨p, 0, none⟩)] w fun e w' => e = .returned (.bool (l == v)) ∧ w = w' := by
  go_enter Try.func50, Try.ntmps50
  go_wp2
  go_ret
  exact ⟨rfl, rfl⟩
set_option maxHeartbeats 1000000 in
theorem upto1_any (l v : Int) (p : Nat) (w : World) (hp : w.cell? ⟨p, 0, none⟩ = some (.int .i64 v)) : Calls Try.prog 51 #[.int .i64 l, .pointer (some ⟨p, 0, none⟩)] w fun e w' => e = .returned (.bool (decide (l ≤ v))) ∧ w = w' := by
  go_enter Try.func51, Try.ntmps51
  go_wp2
  go_ret
  exact ⟨rfl, rfl⟩

set_option maxHeartbeats 4000000 in
set_option maxRecDepth 100000 in
theorem those_at (c : Cf) (q : Nat) (p : Int → Bool) (w : World)
    (cl : ∀ (x : Int) (w' : World), Below w.heap.size w w' → Calls Try.prog 50 #[.int .i64 x, .pointer (some ⟨q, 0, none⟩)] w' fun e w'' => e = .returned (.bool (p x)) ∧ w' = w'') :
    Calls Try.prog 49 #[.agg #[.int .i64 c.lv, .int .i64 c.th, .int .i64 c.o0, .int .i64 c.o1, .int .i64 c.o2, .int .i64 c.o3, .int .i64 c.o4, .int .i64 c.o5, .int .i64 c.o6, .int .i64 c.o7, .int .i64 c.sl, .int .i64 c.li, .int .i64 c.ge, .int .i64 c.qu], .func (.func 50) #[] #[.pointer (some ⟨q, 0, none⟩)]] w fun e w' => ∃ A' c', e = .returned (.slice A' (atL c p).length c') ∧ w'.ownsRow w.heap.size 3 1 (.slice A' (atL c p).length c') (atL c p).length ((atL c p).flatMap ic) ∧ Below w.heap.size w w' := by
  obtain ⟨i0, E⟩ := elem_i
  have hmay := may_any c
  by_cases h : mayB c = true
  · have m : c.May := of_decide_eq_true h
    have l1 := m.t1
    have l2 := m.t2
    have hE : Hid (atL c p = thr c p 8) := if_pos h
    rw [h] at hmay
    clear h m
    go_enter Try.func49, Try.ntmps49
    go_wp2_with fail
    obtain ⟨W0, hW0, k0, k1, k2, k3, k4, k5, k6, k7, k8, k9, k10, k11, k12, k13, kof, kb⟩ : ∃ W0, w.alloc (.cells #[.int .i64 c.lv, .int .i64 c.th, .int .i64 c.o0, .int .i64 c.o1, .int .i64 c.o2, .int .i64 c.o3, .int .i64 c.o4, .int .i64 c.o5, .int .i64 c.o6, .int .i64 c.o7, .int .i64 c.sl, .int .i64 c.li, .int .i64 c.ge, .int .i64 c.qu] 45) = W0 ∧ W0.cell? ⟨w.heap.size, 0, none⟩ = some (.int .i64 c.lv) ∧ W0.cell? ⟨w.heap.size, 1, none⟩ = some (.int .i64 c.th) ∧ W0.cell? ⟨w.heap.size, 2, none⟩ = some (.int .i64 c.o0) ∧ W0.cell? ⟨w.heap.size, 3, none⟩ = some (.int .i64 c.o1) ∧ W0.cell? ⟨w.heap.size, 4, none⟩ = some (.int .i64 c.o2) ∧ W0.cell? ⟨w.heap.size, 5, none⟩ = some (.int .i64 c.o3) ∧ W0.cell? ⟨w.heap.size, 6, none⟩ = some (.int .i64 c.o4) ∧ W0.cell? ⟨w.heap.size, 7, none⟩ = some (.int .i64 c.o5) ∧ W0.cell? ⟨w.heap.size, 8, none⟩ = some (.int .i64 c.o6) ∧ W0.cell? ⟨w.heap.size, 9, none⟩ = some (.int .i64 c.o7) ∧ W0.cell? ⟨w.heap.size, 10, none⟩ = some (.int .i64 c.sl) ∧ W0.cell? ⟨w.heap.size, 11, none⟩ = some (.int .i64 c.li) ∧ W0.cell? ⟨w.heap.size, 12, none⟩ = some (.int .i64 c.ge) ∧ W0.cell? ⟨w.heap.size, 13, none⟩ = some (.int .i64 c.qu) ∧ (∀ k : Nat, k < 8 → W0.cell? ⟨w.heap.size, 2 + k, none⟩ = some (.int .i64 (c.of k))) ∧ Below w.heap.size w W0 :=
      ⟨_, rfl, by go_simp, by go_simp, by go_simp, by go_simp, by go_simp, by go_simp, by go_simp, by go_simp, by go_simp, by go_simp, by go_simp, by go_simp, by go_simp, by go_simp, box_of c w, bnew (brefl w) _⟩
    rw [hW0]
    clear hW0
    go_wp2_with (go_at_call 20; refine (hmay _).mono ?_; rintro e w1 ⟨rfl, hb1⟩; have q1 := keep_below k1 hb1)
    have qof : ∀ k : Nat, k < 8 → w1.cell? ⟨w.heap.size, 2 + k, none⟩ = some (.int .i64 (c.of k)) := fun k hk => keep_below (kof k hk) hb1
    have hbw := bnext kb hb1
    clear k0 k1 k2 k3 k4 k5 k6 k7 k8 k9 k10 k11 k12 k13 kof hmay
    go_loopg [5, 12] c.th.toNat (fun gk out i wr => ∃ (k m : Nat) (A' : Option Addr) (c' : Nat), k + gk = c.th.toNat ∧ i = .int .i64 k ∧ out = .slice A' m c' ∧ Hid (m = (thr c p k).length) ∧ wr.ownsRow w1.heap.size 3 1 (.slice A' m c') m ((thr c p k).flatMap ic) ∧ Below w1.heap.size w1 wr)
    case atStart => exact ⟨0, 0, none, 0, by omega, rfl, rfl, rfl, World.ownsRow_nil _ _ _ _, brefl w1⟩
    case round =>
      obtain ⟨k, m, A', c', hk, rfl, rfl, hm, own, hbr⟩ := hrel
      by_cases hlt : k < c.th.toNat
      · have b0 : (0 : Int) ≤ (k : Int) := by omega
        have b1 : (k : Int) < c.th := by omega
        have b2 : (k : Int) < 8 := by omega
        have ck := keep_below (qof k (by omega)) hbr
        have hcl := fun w' (hb : Below w1.heap.size w1 w') => cl (c.of k) w' (bnext hbw hb)
        have hm1 : m ≤ k := by have := hm.out; have := thr_len c p k; omega
        have HS : Hid (thr c p (k + 1) = thr c p k ++ (if p (c.of k) = true then [(k : Int)] else [])) := by
          rw [Hid, thr, decide_eq_true b1, Bool.true_and]
        clear qof cl
        generalize c.of k = v at *
        cases hf : p v with
        | false =>
          rw [hf] at hcl
          go_wp2_with (go_at_call 50; refine (hcl _ hbr).mono ?_; rintro e w2 ⟨rfl, rfl⟩)
          go_roundg (gk - 1)
          case measure => omega
          case rel =>
            refine ⟨k + 1, m, A', c', by omega, by go_num, rfl, ?_, ?_, hbr⟩
            · rw [Hid, HS.out, hf, hm.out]; simp
            · rw [HS.out, hf]
              simp only [Bool.false_eq_true, if_false, List.append_nil]
              exact own
        | true =>
          rw [hf] at hcl
          go_wp2_with (first | (go_at_call 50; refine (hcl _ hbr).mono ?_; rintro e w2 ⟨rfl, rfl⟩) | (at_builtin; refine wpList_onto (W0 := w1) (ys := [.int .i64 (k : Int)]) (m := 1) E rfl (.tmp 21) (.tmp 23) rfl (bnew hbr _) rfl (own.alloc _) rfl rfl (Rd.new _ _ _ rfl) (by simp [Value.oneCell']) (by unfold maxLen; omega) (by omega) ?_; intro A8 c8 w8 own8 hb8 _))
          go_roundg (gk - 1)
          case measure => omega
          case rel =>
            refine ⟨k + 1, m + 1, A8, c8, by omega, by go_num, rfl, ?_, ?_, hb8⟩
            · rw [Hid, HS.out, hf, hm.out]; simp
            · rw [HS.out, hf, if_pos rfl, List.flatMap_append]
              exact own8
      · have hge : ¬ ((k : Int) < c.th) := by omega
        have hL : Hid (thr c p k = atL c p) := by
          rw [Hid, hE.out, show (8 : Nat) = k + (8 - k) by omega, thr_past c p (by omega)]
        rw [hL.out] at hm own
        have hm' := hm.out
        subst hm'
        clear qof cl
        go_wp2
        go_ret
        exact ⟨A', c', rfl, own_base own hbw.size, bnext hbw hbr⟩
  · have h' : mayB c = false := by simpa using h
    have hE : Hid (atL c p = []) := if_neg h
    rw [h'] at hmay
    clear h h'
    go_enter Try.func49, Try.ntmps49
    go_wp2_with fail
    obtain ⟨W0, hW0, k0, k1, k2, k3, k4, k5, k6, k7, k8, k9, k10, k11, k12, k13, kof, kb⟩ : ∃ W0, w.alloc (.cells #[.int .i64 c.lv, .int .i64 c.th, .int .i64 c.o0, .int .i64 c.o1, .int .i64 c.o2, .int .i64 c.o3, .int .i64 c.o4, .int .i64 c.o5, .int .i64 c.o6, .int .i64 c.o7, .int .i64 c.sl, .int .i64 c.li, .int .i64 c.ge, .int .i64 c.qu] 45) = W0 ∧ W0.cell? ⟨w.heap.size, 0, none⟩ = some (.int .i64 c.lv) ∧ W0.cell? ⟨w.heap.size, 1, none⟩ = some (.int .i64 c.th) ∧ W0.cell? ⟨w.heap.size, 2, none⟩ = some (.int .i64 c.o0) ∧ W0.cell? ⟨w.heap.size, 3, none⟩ = some (.int .i64 c.o1) ∧ W0.cell? ⟨w.heap.size, 4, none⟩ = some (.int .i64 c.o2) ∧ W0.cell? ⟨w.heap.size, 5, none⟩ = some (.int .i64 c.o3) ∧ W0.cell? ⟨w.heap.size, 6, none⟩ = some (.int .i64 c.o4) ∧ W0.cell? ⟨w.heap.size, 7, none⟩ = some (.int .i64 c.o5) ∧ W0.cell? ⟨w.heap.size, 8, none⟩ = some (.int .i64 c.o6) ∧ W0.cell? ⟨w.heap.size, 9, none⟩ = some (.int .i64 c.o7) ∧ W0.cell? ⟨w.heap.size, 10, none⟩ = some (.int .i64 c.sl) ∧ W0.cell? ⟨w.heap.size, 11, none⟩ = some (.int .i64 c.li) ∧ W0.cell? ⟨w.heap.size, 12, none⟩ = some (.int .i64 c.ge) ∧ W0.cell? ⟨w.heap.size, 13, none⟩ = some (.int .i64 c.qu) ∧ (∀ k : Nat, k < 8 → W0.cell? ⟨w.heap.size, 2 + k, none⟩ = some (.int .i64 (c.of k))) ∧ Below w.heap.size w W0 :=
      ⟨_, rfl, by go_simp, by go_simp, by go_simp, by go_simp, by go_simp, by go_simp, by go_simp, by go_simp, by go_simp, by go_simp, by go_simp, by go_simp, by go_simp, by go_simp, box_of c w, bnew (brefl w) _⟩
    rw [hW0]
    clear hW0
    go_wp2_with (go_at_call 20; refine (hmay _).mono ?_; rintro e w1 ⟨rfl, hb1⟩)
    go_ret
    rw [hE.out]
    exact ⟨none, 0, rfl, World.ownsRow_nil _ _ _ _, bnext kb hb1⟩

set_option maxHeartbeats 4000000 in
set_option maxRecDepth 100000 in
theorem those_upto (c : Cf) (q : Nat) (p : Int → Bool) (w : World)
    (cl : ∀ (x : Int) (w' : World), Below w.heap.size w w' → Calls Try.prog 51 #[.int .i64 x, .pointer (some ⟨q, 0, none⟩)] w' fun e w'' => e = .returned (.bool (p x)) ∧ w' = w'') :
    Calls Try.prog 49 #[.agg #[.int .i64 c.lv, .int .i64 c.th, .int .i64 c.o0, .int .i64 c.o1, .int .i64 c.o2, .int .i64 c.o3, .int .i64 c.o4, .int .i64 c.o5, .int .i64 c.o6, .int .i64 c.o7, .int .i64 c.sl, .int .i64 c.li, .int .i64 c.ge, .int .i64 c.qu], .func (.func 51) #[] #[.pointer (some ⟨q, 0, none⟩)]] w fun e w' => ∃ A' c', e = .returned (.slice A' (atL c p).length c') ∧ w'.ownsRow w.heap.size 3 1 (.slice A' (atL c p).length c') (atL c p).length ((atL c p).flatMap ic) ∧ Below w.heap.size w w' := by
  obtain ⟨i0, E⟩ := elem_i
  have hmay := may_any c
  by_cases h : mayB c = true
  · have m : c.May := of_decide_eq_true h
    have l1 := m.t1
    have l2 := m.t2
    have hE : Hid (atL c p = thr c p 8) := if_pos h
    rw [h] at hmay
    clear h m
    go_enter Try.func49, Try.ntmps49
    go_wp2_with fail
    obtain ⟨W0, hW0, k0, k1, k2, k3, k4, k5, k6, k7, k8, k9, k10, k11, k12, k13, kof, kb⟩ : ∃ W0, w.alloc (.cells #[.int .i64 c.lv, .int .i64 c.th, .int .i64 c.o0, .int .i64 c.o1, .int .i64 c.o2, .int .i64 c.o3, .int .i64 c.o4, .int .i64 c.o5, .int .i64 c.o6, .int .i64 c.o7, .int .i64 c.sl, .int .i64 c.li, .int .i64 c.ge, .int .i64 c.qu] 45) = W0 ∧ W0.cell? ⟨w.heap.size, 0, none⟩ = some (.int .i64 c.lv) ∧ W0.cell? ⟨w.heap.size, 1, none⟩ = some (.int .i64 c.th) ∧ W0.cell? ⟨w.heap.size, 2, none⟩ = some (.int .i64 c.o0) ∧ W0.cell? ⟨w.heap.size, 3, none⟩ = some (.int .i64 c.o1) ∧ W0.cell? ⟨w.heap.size, 4, none⟩ = some (.int .i64 c.o2) ∧ W0.cell? ⟨w.heap.size, 5, none⟩ = some (.int .i64 c.o3) ∧ W0.cell? ⟨w.heap.size, 6, none⟩ = some (.int .i64 c.o4) ∧ W0.cell? ⟨w.heap.size, 7, none⟩ = some (.int .i64 c.o5) ∧ W0.cell? ⟨w.heap.size, 8, none⟩ = some (.int .i64 c.o6) ∧ W0.cell? ⟨w.heap.size, 9, none⟩ = some (.int .i64 c.o7) ∧ W0.cell? ⟨w.heap.size, 10, none⟩ = some (.int .i64 c.sl) ∧ W0.cell? ⟨w.heap.size, 11, none⟩ = some (.int .i64 c.li) ∧ W0.cell? ⟨w.heap.size, 12, none⟩ = some (.int .i64 c.ge) ∧ W0.cell? ⟨w.heap.size, 13, none⟩ = some (.int .i64 c.qu) ∧ (∀ k : Nat, k < 8 → W0.cell? ⟨w.heap.size, 2 + k, none⟩ = some (.int .i64 (c.of k))) ∧ Below w.heap.size w W0 :=
      ⟨_, rfl, by go_simp, by go_simp, by go_simp, by go_simp, by go_simp, by go_simp, by go_simp, by go_simp, by go_simp, by go_simp, by go_simp, by go_simp, by go_simp, by go_simp, box_of c w, bnew (brefl w) _⟩
    rw [hW0]
    clear hW0
    go_wp2_with (go_at_call 20; refine (hmay _).mono ?_; rintro e w1 ⟨rfl, hb1⟩; have q1 := keep_below k1 hb1)
    have qof : ∀ k : Nat, k < 8 → w1.cell? ⟨w.heap.size, 2 + k, none⟩ = some (.int .i64 (c.of k)) := fun k hk => keep_below (kof k hk) hb1
    have hbw := bnext kb hb1
    clear k0 k1 k2 k3 k4 k5 k6 k7 k8 k9 k10 k11 k12 k13 kof hmay
    go_loopg [5, 12] c.th.toNat (fun gk out i wr => ∃ (k m : Nat) (A' : Option Addr) (c' : Nat), k + gk = c.th.toNat ∧ i = .int .i64 k ∧ out = .slice A' m c' ∧ Hid (m = (thr c p k).length) ∧ wr.ownsRow w1.heap.size 3 1 (.slice A' m c') m ((thr c p k).flatMap ic) ∧ Below w1.heap.size w1 wr)
    case atStart => exact ⟨0, 0, none, 0, by omega, rfl, rfl, rfl, World.ownsRow_nil _ _ _ _, brefl w1⟩
    case round =>
      obtain ⟨k, m, A', c', hk, rfl, rfl, hm, own, hbr⟩ := hrel
      by_cases hlt : k < c.th.toNat
      · have b0 : (0 : Int) ≤ (k : Int) := by omega
        have b1 : (k : Int) < c.th := by omega
        have b2 : (k : Int) < 8 := by omega
        have ck := keep_below (qof k (by omega)) hbr
        have hcl := fun w' (hb : Below w1.heap.size w1 w') => cl (c.of k) w' (bnext hbw hb)
        have hm1 : m ≤ k := by have := hm.out; have := thr_len c p k; omega
        have HS : Hid (thr c p (k + 1) = thr c p k ++ (if p (c.of k) = true then [(k : Int)] else [])) := by
          rw [Hid, thr, decide_eq_true b1, Bool.true_and]
        clear qof cl
        generalize c.of k = v at *
        cases hf : p v with
        | false =>
          rw [hf] at hcl
          go_wp2_with (go_at_call 51; refine (hcl _ hbr).mono ?_; rintro e w2 ⟨rfl, rfl⟩)
          go_roundg (gk - 1)
          case measure => omega
          case rel =>
            refine ⟨k + 1, m, A', c', by omega, by go_num, rfl, ?_, ?_, hbr⟩
            · rw [Hid, HS.out, hf, hm.out]; simp
            · rw [HS.out, hf]
              simp only [Bool.false_eq_true, if_false, List.append_nil]
              exact own
        | true =>
          rw [hf] at hcl
          go_wp2_with (first | (go_at_call 51; refine (hcl _ hbr).mono ?_; rintro e w2 ⟨rfl, rfl⟩) | (at_builtin; refine wpList_onto (W0 := w1) (ys := [.int .i64 (k : Int)]) (m := 1) E rfl (.tmp 21) (.tmp 23) rfl (bnew hbr _) rfl (own.alloc _) rfl rfl (Rd.new _ _ _ rfl) (by simp [Value.oneCell']) (by unfold maxLen; omega) (by omega) ?_; intro A8 c8 w8 own8 hb8 _))
          go_roundg (gk - 1)
          case measure => omega
          case rel =>
            refine ⟨k + 1, m + 1, A8, c8, by omega, by go_num, rfl, ?_, ?_, hb8⟩
            · rw [Hid, HS.out, hf, hm.out]; simp
            · rw [HS.out, hf, if_pos rfl, List.flatMap_append]
              exact own8
      · have hge : ¬ ((k : Int) < c.th) := by omega
        have hL : Hid (thr c p k = atL c p) := by
          rw [Hid, hE.out, show (8 : Nat) = k + (8 - k) by omega, thr_past c p (by omega)]
        rw [hL.out] at hm own
        have hm' := hm.out
        subst hm'
        clear qof cl
        go_wp2
        go_ret
        exact ⟨A', c', rfl, own_base own hbw.size, bnext hbw hbr⟩
  · have h' : mayB c = false := by simpa using h
    have hE : Hid (atL c p = []) := if_neg h
    rw [h'] at hmay
    clear h h'
    go_enter Try.func49, Try.ntmps49
    go_wp2_with fail
    obtain ⟨W0, hW0, k0, k1, k2, k3, k4, k5, k6, k7, k8, k9, k10, k11, k12, k13, kof, kb⟩ : ∃ W0, w.alloc (.cells #[.int .i64 c.lv, .int .i64 c.th, .int .i64 c.o0, .int .i64 c.o1, .int .i64 c.o2, .int .i64 c.o3, .int .i64 c.o4, .int .i64 c.o5, .int .i64 c.o6, .int .i64 c.o7, .int .i64 c.sl, .int .i64 c.li, .int .i64 c.ge, .int .i64 c.qu] 45) = W0 ∧ W0.cell? ⟨w.heap.size, 0, none⟩ = some (.int .i64 c.lv) ∧ W0.cell? ⟨w.heap.size, 1, none⟩ = some (.int .i64 c.th) ∧ W0.cell? ⟨w.heap.size, 2, none⟩ = some (.int .i64 c.o0) ∧ W0.cell? ⟨w.heap.size, 3, none⟩ = some (.int .i64 c.o1) ∧ W0.cell? ⟨w.heap.size, 4, none⟩ = some (.int .i64 c.o2) ∧ W0.cell? ⟨w.heap.size, 5, none⟩ = some (.int .i64 c.o3) ∧ W0.cell? ⟨w.heap.size, 6, none⟩ = some (.int .i64 c.o4) ∧ W0.cell? ⟨w.heap.size, 7, none⟩ = some (.int .i64 c.o5) ∧ W0.cell? ⟨w.heap.size, 8, none⟩ = some (.int .i64 c.o6) ∧ W0.cell? ⟨w.heap.size, 9, none⟩ = some (.int .i64 c.o7) ∧ W0.cell? ⟨w.heap.size, 10, none⟩ = some (.int .i64 c.sl) ∧ W0.cell? ⟨w.heap.size, 11, none⟩ = some (.int .i64 c.li) ∧ W0.cell? ⟨w.heap.size, 12, none⟩ = some (.int .i64 c.ge) ∧ W0.cell? ⟨w.heap.size, 13, none⟩ = some (.int .i64 c.qu) ∧ (∀ k : Nat, k < 8 → W0.cell? ⟨w.heap.size, 2 + k, none⟩ = some (.int .i64 (c.of k))) ∧ Below w.heap.size w W0 :=
      ⟨_, rfl, by go_simp, by go_simp, by go_simp, by go_simp, by go_simp, by go_simp, by go_simp, by go_simp, by go_simp, by go_simp, by go_simp, by go_simp, by go_simp, by go_simp, box_of c w, bnew (brefl w) _⟩
    rw [hW0]
    clear hW0
    go_wp2_with (go_at_call 20; refine (hmay _).mono ?_; rintro e w1 ⟨rfl, hb1⟩)
    go_ret
    rw [hE.out]
    exact ⟨none, 0, rfl, World.ownsRow_nil _ _ _ _, bnext kb hb1⟩

set_option maxHeartbeats 2000000 in
set_option maxRecDepth 100000 in
theorem at_any (c : Cf) (l : Int) (w : World) : Calls Try.prog 26 #[.agg #[.int .i64 c.lv, .int .i64 c.th, .int .i64 c.o0, .int .i64 c.o1, .int .i64 c.o2, .int .i64 c.o3, .int .i64 c.o4, .int .i64 c.o5, .int .i64 c.o6, .int .i64 c.o7, .int .i64 c.sl, .int .i64 c.li, .int .i64 c.ge, .int .i64 c.qu], .int .i64 l] w fun e w' => ∃ A' c', e = .returned (.slice A' (atL c (fun x => x == l)).length c') ∧ w'.ownsRow w.heap.size 3 1 (.slice A' (atL c (fun x => x == l)).length c') (atL c (fun x => x == l)).length ((atL c (fun x => x == l)).flatMap ic) ∧ Below w.heap.size w w' := by
  have hmf : ∀ (fn : Fn) (first cap : Array Value) (w : World), (Instr.makeFunc fn first cap).run Try.prog w = .ok (.func fn first cap) w := fun _ _ _ _ => rfl
  go_enter Try.func26, Try.ntmps26
  go_wp2_with fail
  obtain ⟨W1, hW1, kl, kb⟩ : ∃ W1, (w.alloc (.cells #[.int .i64 c.lv, .int .i64 c.th, .int .i64 c.o0, .int .i64 c.o1, .int .i64 c.o2, .int .i64 c.o3, .int .i64 c.o4, .int .i64 c.o5, .int .i64 c.o6, .int .i64 c.o7, .int .i64 c.sl, .int .i64 c.li, .int .i64 c.ge, .int .i64 c.qu] 45)).alloc (.cells #[.int .i64 l] 3) = W1 ∧ W1.cell? ⟨w.heap.size + 1, 0, none⟩ = some (.int .i64 l) ∧ Below w.heap.size w W1 :=
    ⟨_, rfl, by go_simp, bnew (bnew (brefl w) _) _⟩
  rw [hW1]
  clear hW1
  refine (those_at c (w.heap.size + 1) (fun x => x == l) W1 fun x w' hb => at1_any x l _ w' (keep_below kl hb)).mono ?_
  rintro e w1 ⟨A', c', rfl, own, hb⟩
  go_wp2
  go_ret
  exact ⟨A', c', rfl, own_base own kb.size, bnext kb hb⟩

set_option maxHeartbeats 2000000 in
set_option maxRecDepth 100000 in
theorem upto_any (c : Cf) (l : Int) (w : World) : Calls Try.prog 28 #[.agg #[.int .i64 c.lv, .int .i64 c.th, .int .i64 c.o0, .int .i64 c.o1, .int .i64 c.o2, .int .i64 c.o3, .int .i64 c.o4, .int .i64 c.o5, .int .i64 c.o6, .int .i64 c.o7, .int .i64 c.sl, .int .i64 c.li, .int .i64 c.ge, .int .i64 c.qu], .int .i64 l] w fun e w' => ∃ A' c', e = .returned (.slice A' (atL c (fun x => decide (x ≤ l))).length c') ∧ w'.ownsRow w.heap.size 3 1 (.slice A' (atL c (fun x => decide (x ≤ l))).length c') (atL c (fun x => decide (x ≤ l))).length ((atL c (fun x => decide (x ≤ l))).flatMap ic) ∧ Below w.heap.size w w' := by
  have hmf : ∀ (fn : Fn) (first cap : Array Value) (w : World), (Instr.makeFunc fn first cap).run Try.prog w = .ok (.func fn first cap) w := fun _ _ _ _ => rfl
  go_enter Try.func28, Try.ntmps28
  go_wp2_with fail
  obtain ⟨W1, hW1, kl, kb⟩ : ∃ W1, (w.alloc (.cells #[.int .i64 c.lv, .int .i64 c.th, .int .i64 c.o0, .int .i64 c.o1, .int .i64 c.o2, .int .i64 c.o3, .int .i64 c.o4, .int .i64 c.o5, .int .i64 c.o6, .int .i64 c.o7, .int .i64 c.sl, .int .i64 c.li, .int .i64 c.ge, .int .i64 c.qu] 45)).alloc (.cells #[.int .i64 l] 3) = W1 ∧ W1.cell? ⟨w.heap.size + 1, 0, none⟩ = some (.int .i64 l) ∧ Below w.heap.size w W1 :=
    ⟨_, rfl, by go_simp, bnew (bnew (brefl w) _) _⟩
  rw [hW1]
  clear hW1
  refine (those_upto c (w.heap.size + 1) (fun x => decide (x ≤ l)) W1 fun x w' hb => upto1_any x l _ w' (keep_below kl hb)).mono ?_
  rintro e w1 ⟨A', c', rfl, own, hb⟩
  go_wp2
  go_ret
  exact ⟨A', c', rfl, own_base own kb.size, bnext kb hb⟩
end Go.Proofs.Ytpnhpiniflcciaa
