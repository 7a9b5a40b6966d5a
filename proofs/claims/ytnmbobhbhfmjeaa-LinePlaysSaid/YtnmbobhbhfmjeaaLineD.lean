/- Pop at ints; Same; the reference's Without; the laws' lives. -/
import Derived.Test.YtnmbobhbhfmjeaaLineC
namespace Go.Proofs.Ytnmbobhbhfmjeaa
set_option linter.unusedVariables false
set_option linter.unusedSimpArgs false
open Go.RowKit

set_option maxHeartbeats 1000000 in
theorem pop_i_cons {A : Option Addr} {n c : Nat} {p : Int} {r : List Int} {w : World} (h : Sl ic w A (n + 1) c (p :: r)) (hn : n ≤ 1000000) :
    Calls Try.prog 21 #[.agg #[.slice A (n + 1) c]] w fun e w' => e = .returned (.tuple #[.agg #[.slice (if c = 1 then A else A.map (·.add 1)) n (c - 1)], .int .i64 p, .bool true]) ∧ Below w.heap.size w w' := by
  obtain ⟨A', hA'⟩ : ∃ A', (if c = 1 then A else A.map (·.add 1)) = A' := ⟨_, rfl⟩
  rw [hA']
  have hsl := fun (wx : World) => slice_from1 (P := Try.prog) 42 3 A n c wx h.cap (fun hx => by have := h.nil_ hx; omega) Try.underlying42 info_i
  rw [hA'] at hsl
  clear hA'
  go_enter Try.func21, Try.ntmps21
  go_wp2_with (go_at_call 26; refine (peek_i_cons ((h.alloc _).alloc _) hn).mono ?_; rintro e w1 ⟨rfl, hb⟩; have fc00 := hb.cell (p := ⟨w.heap.size, 0, none⟩) (by simp <;> omega); have ff00 := hb.frozen (p := ⟨w.heap.size, 0, none⟩) (by simp <;> omega); have hz0 : w.heap.size < w1.heap.size := (by have := hb.size; simp at this; omega); have fc10 := hb.cell (p := ⟨w.heap.size + 1, 0, none⟩) (by simp <;> omega); have ff10 := hb.frozen (p := ⟨w.heap.size + 1, 0, none⟩) (by simp <;> omega); have hz1 : w.heap.size + 1 < w1.heap.size := (by have := hb.size; simp at this; omega))
  refine bodyPost_ret (v := .tuple #[.agg #[.slice A' n (c - 1)], .int .i64 p, .bool true]) (by simp [results, Try.results21, go_sem, fc10]) rfl ⟨rfl, ?_⟩
  exact Below.setCell (((((Below.refl _ _).alloc (Nat.le_refl _) _).alloc (by simp) _).trans (hb.mono (by simp <;> omega)))) (by simp) _

theorem pop_i {A : Option Addr} {n c : Nat} {p : Int} {r : List Int} {w : World} (h : Sl ic w A (n + 1) c (p :: r)) (hn : n ≤ 1000000) :
    Calls Try.prog 21 #[.agg #[.slice A (n + 1) c]] w fun e w' => ∃ A' c', e = .returned (.tuple #[.agg #[.slice A' n c'], .int .i64 p, .bool true]) ∧
      Sl ic w' A' n c' r ∧ (∀ ad, A' = some ad → ∃ ad0, A = some ad0 ∧ ad.block = ad0.block) ∧ Below w.heap.size w w' :=
  (pop_i_cons h hn).mono fun e w' ⟨he, hb⟩ => ⟨_, _, he, (rest_p ic_len h hb).1, (rest_p ic_len h hb).2, hb⟩

set_option maxHeartbeats 1000000 in
theorem same_p {A B : Option Addr} {n n' c c' : Nat} {l m : List Pr} {w : World} (h : Sl pc w A n c l) (h' : Sl pc w B n' c' m) (hn : n ≤ 1000000) (hn' : n' ≤ 1000000) :
    Calls Try.prog 15 #[.agg #[.slice A n c], .agg #[.slice B n' c']] w fun e w' => e = .returned (.bool (decide (l = m))) ∧ Below w.heap.size w w' := by
  go_enter Try.func15, Try.ntmps15
  go_wp2_with (go_at_call 23; refine (equal_p ((h.alloc _).alloc _) ((h'.alloc _).alloc _) hn hn').mono ?_; rintro e w1 ⟨rfl, d, rfl⟩)
  go_ret
  exact ⟨rfl, below_drewN (((Below.refl _ _).alloc (Nat.le_refl _) _).alloc (by simp) _) _⟩

set_option maxHeartbeats 1000000 in
theorem same_i {A B : Option Addr} {n n' c c' : Nat} {l m : List Int} {w : World} (h : Sl ic w A n c l) (h' : Sl ic w B n' c' m) (hn : n ≤ 1000000) (hn' : n' ≤ 1000000) :
    Calls Try.prog 19 #[.agg #[.slice A n c], .agg #[.slice B n' c']] w fun e w' => e = .returned (.bool (decide (l = m))) ∧ Below w.heap.size w w' := by
  go_enter Try.func19, Try.ntmps19
  go_wp2_with (go_at_call 25; refine (equal_i ((h.alloc _).alloc _) ((h'.alloc _).alloc _) hn hn').mono ?_; rintro e w1 ⟨rfl, d, rfl⟩)
  go_ret
  exact ⟨rfl, below_drewN (((Below.refl _ _).alloc (Nat.le_refl _) _).alloc (by simp) _) _⟩

set_option maxHeartbeats 1000000 in
theorem without_nil (A : Option Addr) (c : Nat) (w : World) :
    Calls Try.prog 11 #[.slice A 0 c] w fun e w' => e = .returned (.tuple #[.slice A 0 c, .agg #[.int .u64 0, .int .u64 0], .bool false]) ∧ Below w.heap.size w w' := by
  go_enter Try.func11, Try.ntmps11
  go_wp2
  refine bodyPost_ret (v := .tuple #[.slice A 0 c, .agg #[.int .u64 0, .int .u64 0], .bool false]) (by simp [results, Try.results11, go_sem]) rfl ⟨rfl, ?_⟩
  repeat (first | assumption | exact Below.refl _ _ | refine Below.drew ?_ | refine below_drewN ?_ _ | refine Below.setCell ?_ (by simp <;> omega) _ | refine Below.alloc ?_ (by simp <;> omega) _)

set_option maxHeartbeats 1000000 in
theorem without_cons {A : Option Addr} {n c : Nat} {p : Pr} {r : List Pr} {w : World} (h : Sl pc w A (n + 1) c (p :: r)) (hn : n ≤ 1000000) :
    Calls Try.prog 11 #[.slice A (n + 1) c] w fun e w' => ∃ A' c', e = .returned (.tuple #[.slice A' n c', .agg #[.int .u64 p.1, .int .u64 p.2], .bool true]) ∧
      w'.ownsRow w.heap.size 29 2 (.slice A' n c') n (r.flatMap pc) ∧ Below w.heap.size w w' := by
  obtain ⟨i0, E⟩ := elem_p
  obtain ⟨hrest, _⟩ := rest_p pc_len h (Below.refl _ _)
  obtain ⟨A1, hA1⟩ : ∃ A', (if c = 1 then A else A.map (·.add 2)) = A' := ⟨_, rfl⟩
  rw [hA1] at hrest
  have hsl := fun (wx : World) => slice_from1 (P := Try.prog) 22 29 A n c wx h.cap (fun hx => by have := h.nil_ hx; omega) Try.underlying22 info_p
  rw [hA1] at hsl
  clear hA1
  obtain ⟨b, o, rfl, hb, hc⟩ := h.base pc_len (by decide) (by omega)
  have c0 : w.cell? ⟨b, o, none⟩ = some (.int .u64 p.1) := hc 0 p 0 _ rfl rfl
  have c1 : w.cell? ⟨b, o + 1, none⟩ = some (.int .u64 p.2) := hc 0 p 1 _ rfl rfl
  clear hc h
  have hr := hrest.rd
  have hx : (r.flatMap pc).length = n * 2 := by rw [flat_len pc_len, hrest.len]
  have h1 := pc_one r
  have t0 : (((n + 1 : Nat) : Int) == 0) = false := by rw [beq_eq_false_iff_ne]; omega
  have t1 : (0 : Int) < ((n + 1 : Nat) : Int) := by omega
  have hb1 : b < w.heap.size + 1 := by omega
  have hb2 : b < w.heap.size + 1 + 1 := by omega
  go_enter Try.func11, Try.ntmps11
  go_wp2_with fail
  obtain ⟨W0, hW0, k0, k1, k2, k3, k4, k5, kb⟩ : ∃ W0, w.alloc (.cells #[.int .u64 0, .int .u64 0] 29) = W0 ∧ W0.cell? ⟨b, o, none⟩ = some (.int .u64 p.1) ∧ W0.cell? ⟨b, o + 1, none⟩ = some (.int .u64 p.2) ∧ W0.cell? ⟨w.heap.size, 0, none⟩ = some (.int .u64 0) ∧ W0.cell? ⟨w.heap.size, 1, none⟩ = some (.int .u64 0) ∧ W0.frozen? ⟨w.heap.size, 0, none⟩ = false ∧ W0.frozen? ⟨w.heap.size, 1, none⟩ = false ∧ Below w.heap.size w W0 :=
    ⟨_, rfl, by simp [go_sem, *], by simp [go_sem, *], by simp [go_sem, *], by simp [go_sem, *], by simp [go_sem, *], by simp [go_sem, *], (Below.refl _ _).alloc (Nat.le_refl _) _⟩
  rw [hW0]
  clear hW0
  have hz : w.heap.size < W0.heap.size := block_lt_of_cell k2
  have hr0 : Rd W0 A1 (r.flatMap pc) := hr.below kb
  go_region_held3 (fun w' => w'.cell? ⟨b, o, none⟩ = some (.int .u64 p.1) ∧ w'.cell? ⟨b, o + 1, none⟩ = some (.int .u64 p.2))
    (((try dsimp only); go_split_ands; (refine ⟨?_, ?_⟩) <;> ((repeat (refine keep_set ?_ (by dsimp only; omega))); (first | assumption | go_keep | (refine hg.cell ?_ (by simp [Value.ownBlock]; omega); go_keep)))))
    ((refine step_app (v := .slice (some ⟨W0.heap.size, 0, none⟩) 0 0) E rfl (.tmp 10) (.tmp 12) rfl W0.heap.size rfl ((own_new _ (by simp) (by decide) (Nat.le_refl 0) rfl).drew) rfl hx (hr0.alloc _).drew h1 (by unfold maxLen; omega) (by omega) (by simp) ?_; intro A' c' w1 hown hg hat; have f1 : w1.cell? ⟨w.heap.size, 0, none⟩ = some (.int .u64 0) := hg.cell (by simp [go_sem, *]) (by simp [Value.ownBlock]; omega); have f2 : w1.cell? ⟨w.heap.size, 1, none⟩ = some (.int .u64 0) := hg.cell (by simp [go_sem, *]) (by simp [Value.ownBlock]; omega); have f3 : w1.frozen? ⟨w.heap.size, 0, none⟩ = false := grown_frozen_ne hg (by simp; omega) (by simp [Value.ownBlock]; omega) (by simp [go_sem, *]); have f4 : w1.frozen? ⟨w.heap.size, 1, none⟩ = false := grown_frozen_ne hg (by simp; omega) (by simp [Value.ownBlock]; omega) (by simp [go_sem, *])))
  go_wp2
  refine bodyPost_ret (v := .tuple #[.slice A' n c', .agg #[.int .u64 p.1, .int .u64 p.2], .bool true]) (by simp [results, Try.results11, go_sem, f1, f2]) rfl ⟨A', c', rfl, ?_, ?_⟩
  · have e1 : ([] : List Value) ++ r.flatMap pc = r.flatMap pc := rfl
    simp only [Nat.zero_mul, List.take_zero, Nat.zero_add] at hown
    exact own_set (own_set hown (Nat.le_refl _) hz _) (by omega) (by omega) _
  · have kb1 := Below.grown (((kb.drew).alloc (by simp <;> omega) _)) hg (by simp <;> omega) (by simp [Value.ownBlock]; omega)
    repeat (first | assumption | exact Below.refl _ _ | refine Below.drew ?_ | refine Below.setCell ?_ (by simp <;> omega) _)

set_option maxHeartbeats 1000000 in
theorem lives_any (w : World) : Calls Try.prog 6 #[] w fun e w' => e = .returned (.bool true) ∧ Below w.heap.size w w' := by
  go_enter Try.func6, Try.ntmps6
  go_wp2_with fail
  have s0 : Sl ic (w.alloc (.cells #[.int .i64 3, .int .i64 4] 3)) (some ⟨w.heap.size, 0, none⟩) 2 2 [3, 4] := ⟨rfl, Nat.le_refl _, Rd.new w _ _ rfl, fun h => by cases h⟩
  refine (of_i s0 (by omega)).mono ?_
  rintro e w1 ⟨A1, c1, rfl, hown1, hb1⟩
  go_wp2_with fail
  refine (push_i (Sl.of_own ic_len (by decide) hown1) 5 (by omega)).mono ?_
  rintro e w2 ⟨A2, c2, rfl, hown2, hb2⟩
  go_wp2_with fail
  refine (pop_i (p := 3) (r := [4, 5]) (Sl.of_own ic_len (by decide) hown2) (by omega)).mono ?_
  rintro e w3 ⟨A3, c3, rfl, _, _, hb3⟩
  go_wp2_with (go_at_call 20; refine (len_i _ _ _ _ (by omega)).mono ?_; rintro e w4 ⟨rfl, hb4⟩)
  go_ret
  exact ⟨rfl, bnext (bnew (bnext (bnext (bnext (bnew (brefl w) _) hb1) hb2) hb3) _) hb4⟩
end Go.Proofs.Ytnmbobhbhfmjeaa
