/- which, At. -/
import Derived.Test.YtpnhpiniflcciaaPlanC
namespace Go.Proofs.Ytpnhpiniflcciaa
set_option linter.unusedVariables false
set_option linter.unusedSimpArgs false
open Go.RowKit

def Cf.lim (c : Cf) (k : Int) : Int := if k = 9 then c.sl else c.many k.toNat
def limJ (k : Int) : Int := if k = 9 then 5 else 1
def WOk (c : Cf) (x : Pl) : Prop := 0 ≤ x.k ∧ x.k < 10 ∧ baseOf x.k ≤ x.i ∧ x.i - baseOf x.k < c.lim x.k ∧ 0 ≤ x.j ∧ x.j < limJ x.k
instance (c : Cf) (x : Pl) : Decidable (WOk c x) := by unfold WOk; infer_instance
def whB (c : Cf) (x : Pl) : Bool := decide (WOk c x)
def Cf.at_ (c : Cf) (x : Pl) : Int := if 0 ≤ x.m ∧ x.m < c.lv ∧ WOk c x then c.pos x else -1
theorem ok_iff (c : Cf) (x : Pl) : x.Ok c ↔ 0 ≤ x.m ∧ x.m < c.lv ∧ WOk c x := by
  unfold WOk Cf.lim limJ
  constructor
  · rintro ⟨a, b, d, e, f, g, h, i⟩
    refine ⟨a, b, d, e, f, g, h, ?_⟩
    split at i <;> rename_i q
    · rw [if_pos q]; exact i
    · rw [if_neg q]; omega
  · rintro ⟨a, b, d, e, f, g, h, i⟩
    refine ⟨a, b, d, e, f, g, h, ?_⟩
    split at i <;> rename_i q
    · rw [if_pos q]; exact i
    · rw [if_neg q]; omega
theorem at_ok {c : Cf} {x : Pl} (h : x.Ok c) : c.at_ x = c.pos x := if_pos ((ok_iff c x).1 h)
theorem at_no {c : Cf} {x : Pl} (h : ¬ x.Ok c) : c.at_ x = -1 := if_neg fun q => h ((ok_iff c x).2 q)
theorem base_bd (k : Int) : 0 ≤ baseOf k ∧ baseOf k ≤ 1 := by unfold baseOf; split <;> omega
theorem many_bd {c : Cf} (hm : c.May) : ∀ k : Nat, k < 10 → 1 ≤ c.many k ∧ c.many k ≤ 300 := fun k hk => by
  have := hm.s1; have := hm.s2; have := hm.m1; have := hm.m2
  rcases (by omega : k = 0 ∨ k = 1 ∨ k = 2 ∨ k = 3 ∨ k = 4 ∨ k = 5 ∨ k = 6 ∨ k = 7 ∨ k = 8 ∨ k = 9) with rfl | rfl | rfl | rfl | rfl | rfl | rfl | rfl | rfl | rfl <;> (simp only [Cf.many]; omega)


set_option maxHeartbeats 1000000 in
set_option maxRecDepth 100000 in
theorem which_no {c : Cf} {p : Nat} {w : World} (h : PBox w p c) (hm : c.May) (m k i j : Int) (hn : k < 0 ∨ 10 ≤ k ∨ i < baseOf k ∨ j < 0 ∨ 5 ≤ j ∨ (k ≠ 9 ∧ j ≠ 0)) : Calls Try.prog 55 #[.pointer (some ⟨p, 0, none⟩), .agg #[.int .i64 m, .int .i64 k, .int .i64 i, .int .i64 j]] w fun e w' => ∃ N, e = .returned (.tuple #[.int .i64 N, .bool false]) ∧ Below w.heap.size w w' := by
  have hba := base_any k
  have hbb := base_bd k
  obtain ⟨W0, hW, x1, x2, x3, kb, hp, hpd⟩ : ∃ W0, w.alloc (.cells #[.int .i64 m, .int .i64 k, .int .i64 i, .int .i64 j] 63) = W0 ∧ W0.cell? ⟨w.heap.size, 1, none⟩ = some (.int .i64 k) ∧ W0.cell? ⟨w.heap.size, 2, none⟩ = some (.int .i64 i) ∧ W0.cell? ⟨w.heap.size, 3, none⟩ = some (.int .i64 j) ∧ Below w.heap.size w W0 ∧ PBox W0 p c ∧ p < W0.heap.size :=
    ⟨_, rfl, by go_simp, by go_simp, by go_simp, bnew (brefl w) _, h.below (bnew (brefl w) _), block_lt_of_cell (h.below (bnew (brefl w) _)).c0⟩
  have hz := block_lt_of_cell x1
  have hmn := hp.mn
  have hmb := many_bd hm
  have hOk : True := trivial
  clear hp h
  by_cases g1 : k < 0
  · clear hmn hmb
    clear hn
    generalize baseOf k = B at *
    go_enter Try.func55, Try.ntmps55
    go_wp2_with fail
    clear hW
    go_quiet ((go_at_call 54; exact q_same (hba _)))
    go_wp2
    go_ret2
    exact ⟨0, rfl, by first | exact below_drewN kb _ | exact below_drewN (below_drewN kb _) _ | exact below_drewN (below_drewN (below_drewN kb _) _) _ | exact below_drewN (below_drewN (below_drewN (below_drewN kb _) _) _) _⟩
  have t1 : decide (k < 0) = false := decide_eq_false g1
  by_cases g2 : 10 ≤ k
  · clear hmn hmb
    clear hn g1
    generalize baseOf k = B at *
    go_enter Try.func55, Try.ntmps55
    go_wp2_with fail
    clear hW
    go_quiet ((go_at_call 54; exact q_same (hba _)))
    go_wp2
    go_ret2
    exact ⟨0, rfl, by first | exact below_drewN kb _ | exact below_drewN (below_drewN kb _) _ | exact below_drewN (below_drewN (below_drewN kb _) _) _ | exact below_drewN (below_drewN (below_drewN (below_drewN kb _) _) _) _⟩
  have t2 : decide (10 ≤ k) = false := decide_eq_false g2
  by_cases g3 : i < baseOf k
  · clear hmn hmb
    clear hn g1 g2
    generalize baseOf k = B at *
    go_enter Try.func55, Try.ntmps55
    go_wp2_with fail
    clear hW
    go_quiet ((go_at_call 54; exact q_same (hba _)))
    go_wp2
    go_ret2
    exact ⟨0, rfl, by first | exact below_drewN kb _ | exact below_drewN (below_drewN kb _) _ | exact below_drewN (below_drewN (below_drewN kb _) _) _ | exact below_drewN (below_drewN (below_drewN (below_drewN kb _) _) _) _⟩
  have t3 : decide (i < baseOf k) = false := decide_eq_false g3
  by_cases g4 : j < 0
  · clear hmn hmb
    clear hn g1 g2 g3
    generalize baseOf k = B at *
    go_enter Try.func55, Try.ntmps55
    go_wp2_with fail
    clear hW
    go_quiet ((go_at_call 54; exact q_same (hba _)))
    go_wp2
    go_ret2
    exact ⟨0, rfl, by first | exact below_drewN kb _ | exact below_drewN (below_drewN kb _) _ | exact below_drewN (below_drewN (below_drewN kb _) _) _ | exact below_drewN (below_drewN (below_drewN (below_drewN kb _) _) _) _⟩
  have t4 : decide (j < 0) = false := decide_eq_false g4
  by_cases g5 : 5 ≤ j
  · clear hmn hmb
    clear hn g1 g2 g3 g4
    generalize baseOf k = B at *
    go_enter Try.func55, Try.ntmps55
    go_wp2_with fail
    clear hW
    go_quiet ((go_at_call 54; exact q_same (hba _)))
    go_wp2
    go_ret2
    exact ⟨0, rfl, by first | exact below_drewN kb _ | exact below_drewN (below_drewN kb _) _ | exact below_drewN (below_drewN (below_drewN kb _) _) _ | exact below_drewN (below_drewN (below_drewN (below_drewN kb _) _) _) _⟩
  have t5 : decide (5 ≤ j) = false := decide_eq_false g5
  have hq : k ≠ 9 ∧ j ≠ 0 := by omega
  have t6 : (k != 9) = true := by simpa using hq.1
  have t7 : (j != 0) = true := by simpa using hq.2
  clear hq hn hmn hmb g1 g2 g3 g4 g5
  generalize baseOf k = B at *
  go_enter Try.func55, Try.ntmps55
  go_wp2_with fail
  clear hW
  go_quiet ((go_at_call 54; exact q_same (hba _)))
  go_wp2
  go_ret2
  exact ⟨0, rfl, by first | exact below_drewN kb _ | exact below_drewN (below_drewN kb _) _ | exact below_drewN (below_drewN (below_drewN kb _) _) _ | exact below_drewN (below_drewN (below_drewN (below_drewN kb _) _) _) _⟩

set_option maxHeartbeats 1000000 in
set_option maxRecDepth 100000 in
theorem which_9 {c : Cf} {p : Nat} {w : World} (h : PBox w p c) (hm : c.May) (m i j : Int) (hi : i ≤ 9223372036854775807) (h1 : 1 ≤ i) (h2 : 0 ≤ j) (h3 : j < 5) : Calls Try.prog 55 #[.pointer (some ⟨p, 0, none⟩), .agg #[.int .i64 m, .int .i64 9, .int .i64 i, .int .i64 j]] w fun e w' => ∃ N, e = .returned (.tuple #[.int .i64 N, .bool (decide (i - 1 < c.sl))]) ∧ (i - 1 < c.sl → N = (i - 1) * 5 + j) ∧ Below w.heap.size w w' := by
  have hba := fun w => base_any 9 w
  have eb : baseOf 9 = 1 := rfl
  rw [eb] at hba
  clear eb
  obtain ⟨W0, hW, x1, x2, x3, kb, hp, hpd⟩ : ∃ W0, w.alloc (.cells #[.int .i64 m, .int .i64 9, .int .i64 i, .int .i64 j] 63) = W0 ∧ W0.cell? ⟨w.heap.size, 1, none⟩ = some (.int .i64 9) ∧ W0.cell? ⟨w.heap.size, 2, none⟩ = some (.int .i64 i) ∧ W0.cell? ⟨w.heap.size, 3, none⟩ = some (.int .i64 j) ∧ Below w.heap.size w W0 ∧ PBox W0 p c ∧ p < W0.heap.size :=
    ⟨_, rfl, by go_simp, by go_simp, by go_simp, bnew (brefl w) _, h.below (bnew (brefl w) _), block_lt_of_cell (h.below (bnew (brefl w) _)).c0⟩
  have hz := block_lt_of_cell x1
  have hmn := hp.mn
  have hmb := many_bd hm
  have hOk : True := trivial
  clear hp h
  have mk := hmn 9 (by decide)
  have mb := hmb 9 (by decide)
  have hs9 : c.many 9 = c.sl * 5 := rfl
  rw [hs9] at mk mb
  simp only [Nat.reduceAdd] at mk
  clear hmn hmb hs9 hOk
  have hw1 : IntKind.i64.wrap (i - 1) = i - 1 := IntWalk.i64_in _ (by omega)
  have t3 : decide (i < 1) = false := decide_eq_false (by omega)
  have t4 : decide (j < 0) = false := decide_eq_false (by omega)
  have t5 : decide (5 ≤ j) = false := decide_eq_false (by omega)
  by_cases g7 : c.sl * 5 ≤ i - 1
  · have hE : Hid (decide (i - 1 < c.sl) = false) := decide_eq_false (by omega)
    have hF : ¬ i - 1 < c.sl := by omega
    go_enter Try.func55, Try.ntmps55
    go_wp2_with fail
    clear hW
    go_quiet ((go_at_call 54; exact q_same (hba _)))
    go_wp2_with fail
    have x1 := keep_below x1 (below_drewN (brefl W0) nq); have x2 := keep_below x2 (below_drewN (brefl W0) nq); have x3 := keep_below x3 (below_drewN (brefl W0) nq); have mk := keep_below mk (below_drewN (brefl W0) nq); have hz : w.heap.size < (W0.drewN nq).heap.size := hz; have hpd : p < (W0.drewN nq).heap.size := hpd; have kb := below_drewN kb nq
    generalize W0.drewN nq = W0 at *
    go_quiet ((go_at_call 54; exact q_same (hba _)))
    go_wp2_with fail
    have x1 := keep_below x1 (below_drewN (brefl W0) nq); have x2 := keep_below x2 (below_drewN (brefl W0) nq); have x3 := keep_below x3 (below_drewN (brefl W0) nq); have mk := keep_below mk (below_drewN (brefl W0) nq); have hz : w.heap.size < (W0.drewN nq).heap.size := hz; have hpd : p < (W0.drewN nq).heap.size := hpd; have kb := below_drewN kb nq
    generalize W0.drewN nq = W0 at *
    go_quiet (fail)
    go_wp2_with fail
    go_wp2
    go_ret2
    exact ⟨0, by rw [hE.out]; rfl, fun q => absurd q (by omega), by first | exact below_drewN kb _ | exact below_drewN (below_drewN kb _) _ | exact below_drewN (below_drewN (below_drewN kb _) _) _ | exact below_drewN (below_drewN (below_drewN (below_drewN kb _) _) _) _⟩
  · have t7 : decide (c.sl * 5 ≤ i - 1) = false := decide_eq_false g7
    have g7' : i - 1 < c.sl * 5 := by omega
    clear g7
    have hw2 : IntKind.i64.wrap ((i - 1) * 5) = (i - 1) * 5 := IntWalk.i64_in _ (by omega)
    have hw3 : IntKind.i64.wrap ((i - 1) * 5 + j) = (i - 1) * 5 + j := IntWalk.i64_in _ (by omega)
    by_cases g8 : i - 1 < c.sl
    · have t8 : (i - 1) * 5 + j < c.sl * 5 := by omega
      have hE : Hid (decide (i - 1 < c.sl) = true) := decide_eq_true g8
      go_enter Try.func55, Try.ntmps55
      go_wp2_with fail
      clear hW
      go_quiet ((go_at_call 54; exact q_same (hba _)))
      go_wp2_with fail
      have x1 := keep_below x1 (below_drewN (brefl W0) nq); have x2 := keep_below x2 (below_drewN (brefl W0) nq); have x3 := keep_below x3 (below_drewN (brefl W0) nq); have mk := keep_below mk (below_drewN (brefl W0) nq); have hz : w.heap.size < (W0.drewN nq).heap.size := hz; have hpd : p < (W0.drewN nq).heap.size := hpd; have kb := below_drewN kb nq
      generalize W0.drewN nq = W0 at *
      go_quiet ((go_at_call 54; exact q_same (hba _)))
      go_wp2_with fail
      have x1 := keep_below x1 (below_drewN (brefl W0) nq); have x2 := keep_below x2 (below_drewN (brefl W0) nq); have x3 := keep_below x3 (below_drewN (brefl W0) nq); have mk := keep_below mk (below_drewN (brefl W0) nq); have hz : w.heap.size < (W0.drewN nq).heap.size := hz; have hpd : p < (W0.drewN nq).heap.size := hpd; have kb := below_drewN kb nq
      generalize W0.drewN nq = W0 at *
      go_quiet (fail)
      go_wp2_with fail
      have x1 := keep_below x1 (below_drewN (brefl W0) nq); have x2 := keep_below x2 (below_drewN (brefl W0) nq); have x3 := keep_below x3 (below_drewN (brefl W0) nq); have mk := keep_below mk (below_drewN (brefl W0) nq); have hz : w.heap.size < (W0.drewN nq).heap.size := hz; have hpd : p < (W0.drewN nq).heap.size := hpd; have kb := below_drewN kb nq
      generalize W0.drewN nq = W0 at *
      go_quiet (fail)
      go_wp2
      go_ret2
      exact ⟨_, by rw [hE.out]; rfl, fun q => rfl, by first | exact below_drewN kb _ | exact below_drewN (below_drewN kb _) _ | exact below_drewN (below_drewN (below_drewN kb _) _) _ | exact below_drewN (below_drewN (below_drewN (below_drewN kb _) _) _) _⟩
    · have t8 : decide ((i - 1) * 5 + j < c.sl * 5) = false := decide_eq_false (by omega)
      have hE : Hid (decide (i - 1 < c.sl) = false) := decide_eq_false g8
      have hF : ¬ i - 1 < c.sl := g8
      go_enter Try.func55, Try.ntmps55
      go_wp2_with fail
      clear hW
      go_quiet ((go_at_call 54; exact q_same (hba _)))
      go_wp2_with fail
      have x1 := keep_below x1 (below_drewN (brefl W0) nq); have x2 := keep_below x2 (below_drewN (brefl W0) nq); have x3 := keep_below x3 (below_drewN (brefl W0) nq); have mk := keep_below mk (below_drewN (brefl W0) nq); have hz : w.heap.size < (W0.drewN nq).heap.size := hz; have hpd : p < (W0.drewN nq).heap.size := hpd; have kb := below_drewN kb nq
      generalize W0.drewN nq = W0 at *
      go_quiet ((go_at_call 54; exact q_same (hba _)))
      go_wp2_with fail
      have x1 := keep_below x1 (below_drewN (brefl W0) nq); have x2 := keep_below x2 (below_drewN (brefl W0) nq); have x3 := keep_below x3 (below_drewN (brefl W0) nq); have mk := keep_below mk (below_drewN (brefl W0) nq); have hz : w.heap.size < (W0.drewN nq).heap.size := hz; have hpd : p < (W0.drewN nq).heap.size := hpd; have kb := below_drewN kb nq
      generalize W0.drewN nq = W0 at *
      go_quiet (fail)
      go_wp2_with fail
      have x1 := keep_below x1 (below_drewN (brefl W0) nq); have x2 := keep_below x2 (below_drewN (brefl W0) nq); have x3 := keep_below x3 (below_drewN (brefl W0) nq); have mk := keep_below mk (below_drewN (brefl W0) nq); have hz : w.heap.size < (W0.drewN nq).heap.size := hz; have hpd : p < (W0.drewN nq).heap.size := hpd; have kb := below_drewN kb nq
      generalize W0.drewN nq = W0 at *
      go_quiet (fail)
      go_wp2
      go_ret2
      exact ⟨_, by rw [hE.out]; rfl, fun q => absurd q (by omega), by first | exact below_drewN kb _ | exact below_drewN (below_drewN kb _) _ | exact below_drewN (below_drewN (below_drewN kb _) _) _ | exact below_drewN (below_drewN (below_drewN (below_drewN kb _) _) _) _⟩

set_option maxHeartbeats 1000000 in
set_option maxRecDepth 100000 in
theorem which_k {c : Cf} {p : Nat} {w : World} (h : PBox w p c) (hm : c.May) (m : Int) (k : Nat) (i : Int) (hi : i ≤ 9223372036854775807) (hk10 : k < 10) (hk9 : k ≠ 9) (h1 : baseOf k ≤ i) : Calls Try.prog 55 #[.pointer (some ⟨p, 0, none⟩), .agg #[.int .i64 m, .int .i64 (k : Int), .int .i64 i, .int .i64 0]] w fun e w' => ∃ N, e = .returned (.tuple #[.int .i64 N, .bool (decide (i - baseOf k < c.many k))]) ∧ (i - baseOf k < c.many k → N = i - baseOf k) ∧ Below w.heap.size w w' := by
  have hba := base_any (k : Int)
  have hbb := base_bd (k : Int)
  obtain ⟨W0, hW, x1, x2, x3, kb, hp, hpd⟩ : ∃ W0, w.alloc (.cells #[.int .i64 m, .int .i64 (k : Int), .int .i64 i, .int .i64 0] 63) = W0 ∧ W0.cell? ⟨w.heap.size, 1, none⟩ = some (.int .i64 (k : Int)) ∧ W0.cell? ⟨w.heap.size, 2, none⟩ = some (.int .i64 i) ∧ W0.cell? ⟨w.heap.size, 3, none⟩ = some (.int .i64 0) ∧ Below w.heap.size w W0 ∧ PBox W0 p c ∧ p < W0.heap.size :=
    ⟨_, rfl, by go_simp, by go_simp, by go_simp, bnew (brefl w) _, h.below (bnew (brefl w) _), block_lt_of_cell (h.below (bnew (brefl w) _)).c0⟩
  have hz := block_lt_of_cell x1
  have hmn := hp.mn
  have hmb := many_bd hm
  have hOk : True := trivial
  clear hp h
  have mk := hmn k hk10
  have mb := hmb k hk10
  have i0 : (0 : Int) ≤ (k : Int) := by omega
  have i1 : (k : Int) < 10 := by omega
  have t1 : decide ((k : Int) < 0) = false := decide_eq_false (by omega)
  have t2 : decide (10 ≤ (k : Int)) = false := decide_eq_false (by omega)
  have t6 : ((k : Int) != 9) = true := by simp; omega
  have t6' : ((k : Int) == 9) = false := by simp; omega
  clear hmn hmb hOk
  generalize baseOf (k : Int) = B at *
  generalize c.many k = M at *
  have hw1 : IntKind.i64.wrap (i - B) = i - B := IntWalk.i64_in _ (by omega)
  have t3 : decide (i < B) = false := decide_eq_false (by omega)
  by_cases g7 : M ≤ i - B
  · have hE : Hid (decide (i - B < M) = false) := decide_eq_false (by omega)
    have hF : ¬ i - B < M := by omega
    go_enter Try.func55, Try.ntmps55
    go_wp2_with fail
    clear hW
    go_quiet ((go_at_call 54; exact q_same (hba _)))
    go_wp2_with fail
    have x1 := keep_below x1 (below_drewN (brefl W0) nq); have x2 := keep_below x2 (below_drewN (brefl W0) nq); have x3 := keep_below x3 (below_drewN (brefl W0) nq); have mk := keep_below mk (below_drewN (brefl W0) nq); have hz : w.heap.size < (W0.drewN nq).heap.size := hz; have hpd : p < (W0.drewN nq).heap.size := hpd; have kb := below_drewN kb nq
    generalize W0.drewN nq = W0 at *
    go_quiet ((go_at_call 54; exact q_same (hba _)))
    go_wp2_with fail
    have x1 := keep_below x1 (below_drewN (brefl W0) nq); have x2 := keep_below x2 (below_drewN (brefl W0) nq); have x3 := keep_below x3 (below_drewN (brefl W0) nq); have mk := keep_below mk (below_drewN (brefl W0) nq); have hz : w.heap.size < (W0.drewN nq).heap.size := hz; have hpd : p < (W0.drewN nq).heap.size := hpd; have kb := below_drewN kb nq
    generalize W0.drewN nq = W0 at *
    go_quiet (fail)
    go_wp2_with fail
    go_wp2
    go_ret2
    exact ⟨0, by rw [hE.out]; rfl, fun q => absurd q (by omega), by first | exact below_drewN kb _ | exact below_drewN (below_drewN kb _) _ | exact below_drewN (below_drewN (below_drewN kb _) _) _ | exact below_drewN (below_drewN (below_drewN (below_drewN kb _) _) _) _⟩
  · have t7 : decide (M ≤ i - B) = false := decide_eq_false g7
    have t8 : i - B < M := by omega
    have hE : Hid (decide (i - B < M) = true) := decide_eq_true t8
    clear g7
    go_enter Try.func55, Try.ntmps55
    go_wp2_with fail
    clear hW
    go_quiet ((go_at_call 54; exact q_same (hba _)))
    go_wp2_with fail
    have x1 := keep_below x1 (below_drewN (brefl W0) nq); have x2 := keep_below x2 (below_drewN (brefl W0) nq); have x3 := keep_below x3 (below_drewN (brefl W0) nq); have mk := keep_below mk (below_drewN (brefl W0) nq); have hz : w.heap.size < (W0.drewN nq).heap.size := hz; have hpd : p < (W0.drewN nq).heap.size := hpd; have kb := below_drewN kb nq
    generalize W0.drewN nq = W0 at *
    go_quiet ((go_at_call 54; exact q_same (hba _)))
    go_wp2_with fail
    have x1 := keep_below x1 (below_drewN (brefl W0) nq); have x2 := keep_below x2 (below_drewN (brefl W0) nq); have x3 := keep_below x3 (below_drewN (brefl W0) nq); have mk := keep_below mk (below_drewN (brefl W0) nq); have hz : w.heap.size < (W0.drewN nq).heap.size := hz; have hpd : p < (W0.drewN nq).heap.size := hpd; have kb := below_drewN kb nq
    generalize W0.drewN nq = W0 at *
    go_quiet (fail)
    go_wp2_with fail
    have x1 := keep_below x1 (below_drewN (brefl W0) nq); have x2 := keep_below x2 (below_drewN (brefl W0) nq); have x3 := keep_below x3 (below_drewN (brefl W0) nq); have mk := keep_below mk (below_drewN (brefl W0) nq); have hz : w.heap.size < (W0.drewN nq).heap.size := hz; have hpd : p < (W0.drewN nq).heap.size := hpd; have kb := below_drewN kb nq
    generalize W0.drewN nq = W0 at *
    go_quiet (fail)
    go_wp2
    go_ret2
    exact ⟨_, by rw [hE.out]; rfl, fun q => rfl, by first | exact below_drewN kb _ | exact below_drewN (below_drewN kb _) _ | exact below_drewN (below_drewN (below_drewN kb _) _) _ | exact below_drewN (below_drewN (below_drewN (below_drewN kb _) _) _) _⟩

theorem which_p {c : Cf} {p : Nat} {w : World} (h : PBox w p c) (hm : c.May) (x : Pl) (hi : x.i ≤ 9223372036854775807) : Calls Try.prog 55 #[.pointer (some ⟨p, 0, none⟩), .agg #[.int .i64 x.m, .int .i64 x.k, .int .i64 x.i, .int .i64 x.j]] w fun e w' => ∃ N, e = .returned (.tuple #[.int .i64 N, .bool (whB c x)]) ∧ (whB c x = true → N = x.nth) ∧ Below w.heap.size w w' := by
  obtain ⟨m, k, i, j⟩ := x
  by_cases hn : k < 0 ∨ 10 ≤ k ∨ i < baseOf k ∨ j < 0 ∨ 5 ≤ j ∨ (k ≠ 9 ∧ j ≠ 0)
  · have hE : whB c ⟨m, k, i, j⟩ = false := by
      refine decide_eq_false fun q => ?_
      obtain ⟨a, b, d, e, f, g⟩ := q
      dsimp only at *
      unfold limJ at g
      split at g <;> omega
    rw [hE]
    refine (which_no h hm m k i j hn).mono ?_
    rintro e w' ⟨N, rfl, hb⟩
    exact ⟨N, rfl, fun q => absurd q (by decide), hb⟩
  · by_cases h9 : k = 9
    · subst h9
      have eb : baseOf 9 = 1 := rfl
      rw [eb] at hn
      have hE : whB c ⟨m, 9, i, j⟩ = decide (i - 1 < c.sl) := by
        refine decide_eq_decide.2 ⟨fun q => ?_, fun q => ⟨by dsimp only; omega, by dsimp only; omega, by dsimp only; rw [eb]; omega, ?_, by dsimp only; omega, ?_⟩⟩
        · have := q.2.2.2.1
          dsimp only [Cf.lim] at this
          rw [if_pos rfl, eb] at this
          exact this
        · dsimp only [Cf.lim]
          rw [if_pos rfl, eb]
          exact q
        · dsimp only [limJ]
          rw [if_pos rfl]
          omega
      rw [hE]
      refine (which_9 h hm m i j hi (by omega) (by omega) (by omega)).mono ?_
      rintro e w' ⟨N, rfl, hN, hb⟩
      refine ⟨N, rfl, fun q => ?_, hb⟩
      rw [hN (of_decide_eq_true q)]
      unfold Pl.nth
      rw [if_pos rfl]
    · obtain ⟨kk, rfl⟩ : ∃ kk : Nat, k = (kk : Int) := ⟨k.toNat, by omega⟩
      obtain rfl : j = 0 := by omega
      have hE : whB c ⟨m, kk, i, 0⟩ = decide (i - baseOf kk < c.many kk) := by
        refine decide_eq_decide.2 ⟨fun q => ?_, fun q => ⟨by dsimp only; omega, by dsimp only; omega, by dsimp only; omega, ?_, by dsimp only; omega, ?_⟩⟩
        · have := q.2.2.2.1
          dsimp only [Cf.lim] at this
          rw [if_neg h9, Int.toNat_natCast] at this
          exact this
        · dsimp only [Cf.lim]
          rw [if_neg h9, Int.toNat_natCast]
          exact q
        · dsimp only [limJ]
          rw [if_neg h9]
          omega
      rw [hE]
      refine (which_k h hm m kk i hi (by omega) (by omega) (by omega)).mono ?_
      rintro e w' ⟨N, rfl, hN, hb⟩
      refine ⟨N, rfl, fun q => ?_, hb⟩
      rw [hN (of_decide_eq_true q)]
      unfold Pl.nth
      rw [if_neg h9]
end Go.Proofs.Ytpnhpiniflcciaa
