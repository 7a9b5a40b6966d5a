/- At. -/
import Derived.Test.YtpnhpiniflcciaaPlanD
namespace Go.Proofs.Ytpnhpiniflcciaa
set_option linter.unusedVariables false
set_option linter.unusedSimpArgs false
open Go.RowKit

theorem at_nil (m k i j : Int) (w : World) : Calls Try.prog 39 #[.pointer none, .agg #[.int .i64 m, .int .i64 k, .int .i64 i, .int .i64 j]] w fun e w' => e = .returned (.int .i64 (-1)) ∧ Below w.heap.size w w' := by
  go_enter Try.func39, Try.ntmps39
  go_wp2_with fail
  go_quiet (fail)
  go_wp2
  go_ret
  exact ⟨rfl, below_drewN (bnew (brefl w) _) _⟩

set_option maxHeartbeats 1000000 in
set_option maxRecDepth 100000 in
theorem at_p {c : Cf} {p : Nat} {w : World} (h : PBox w p c) (hm : c.May) (m k i j : Int) (hi : i ≤ 9223372036854775807) : Calls Try.prog 39 #[.pointer (some ⟨p, 0, none⟩), .agg #[.int .i64 m, .int .i64 k, .int .i64 i, .int .i64 j]] w fun e w' => e = .returned (.int .i64 (c.at_ ⟨m, k, i, j⟩)) ∧ Below w.heap.size w w' := by
  obtain ⟨W0, hW, x0, x1, x2, x3, kb, hp⟩ : ∃ W0, w.alloc (.cells #[.int .i64 m, .int .i64 k, .int .i64 i, .int .i64 j] 63) = W0 ∧ W0.cell? ⟨w.heap.size, 0, none⟩ = some (.int .i64 m) ∧ W0.cell? ⟨w.heap.size, 1, none⟩ = some (.int .i64 k) ∧ W0.cell? ⟨w.heap.size, 2, none⟩ = some (.int .i64 i) ∧ W0.cell? ⟨w.heap.size, 3, none⟩ = some (.int .i64 j) ∧ Below w.heap.size w W0 ∧ PBox W0 p c :=
    ⟨_, rfl, by go_simp, by go_simp, by go_simp, by go_simp, bnew (brefl w) _, h.below (bnew (brefl w) _)⟩
  have hz := block_lt_of_cell x0
  have z0 := hp.c0
  have hpd := block_lt_of_cell z0
  clear h
  by_cases g1 : m < 0
  · have hE : Hid (c.at_ ⟨m, k, i, j⟩ = -1) := if_neg (fun q => absurd q.1 (by dsimp only; omega))
    clear hp hm
    go_enter Try.func39, Try.ntmps39
    go_wp2_with fail
    clear hW
    go_quiet (fail)
    go_wp2
    go_ret
    exact ⟨by rw [hE.out]; rfl, by first | exact kb | exact below_drewN kb _ | exact below_drewN (below_drewN kb _) _⟩
  have t1 : decide (m < 0) = false := decide_eq_false g1
  by_cases g2 : c.lv ≤ m
  · have hE : Hid (c.at_ ⟨m, k, i, j⟩ = -1) := if_neg (fun q => absurd q.2.1 (by dsimp only; omega))
    clear hp hm
    go_enter Try.func39, Try.ntmps39
    go_wp2_with fail
    clear hW
    go_quiet (fail)
    go_wp2
    go_ret
    exact ⟨by rw [hE.out]; rfl, by first | exact kb | exact below_drewN kb _ | exact below_drewN (below_drewN kb _) _⟩
  have t2 : decide (c.lv ≤ m) = false := decide_eq_false g2
  have hsz := size_bd hm
  have l2 := hm.l2
  go_enter Try.func39, Try.ntmps39
  go_wp2_with fail
  clear hW
  go_quiet (fail)
  go_wp2_with fail
  have hwh := which_p (hp.drewN nq) hm ⟨m, k, i, j⟩ hi
  dsimp only at hwh
  have x0 := keep_below x0 (below_drewN (brefl W0) nq)
  have x1 := keep_below x1 (below_drewN (brefl W0) nq)
  have hp := hp.drewN nq
  have kb := below_drewN kb nq
  generalize W0.drewN nq = W1 at *
  refine hwh.mono ?_
  rintro e w1 ⟨N, rfl, hN, hb⟩
  have x0 := keep_below x0 hb
  have x1 := keep_below x1 hb
  have hp := hp.below hb
  have kb := bnext kb hb
  clear hwh z0 hpd hz hb
  have z0 := hp.c0
  have hpd := block_lt_of_cell z0
  have hz := block_lt_of_cell x0
  by_cases g3 : WOk c ⟨m, k, i, j⟩
  · have hwb : whB c ⟨m, k, i, j⟩ = true := decide_eq_true g3
    have hE : Hid (c.at_ ⟨m, k, i, j⟩ = m * c.size + c.fst k.toNat + N) := by
      rw [hN hwb]
      exact if_pos ⟨by dsimp only; omega, by dsimp only; omega, g3⟩
    have hk0 : 0 ≤ k := g3.1
    have hk1 : k < 10 := g3.2.1
    obtain ⟨kk, rfl⟩ : ∃ kk : Nat, k = (kk : Int) := ⟨k.toNat, by omega⟩
    have hok := (ok_iff c ⟨m, kk, i, j⟩).2 ⟨by dsimp only; omega, by dsimp only; omega, g3⟩
    have hnb := nth_bd hok
    rw [← hN hwb] at hnb
    dsimp only at hnb
    rw [Int.toNat_natCast] at hE hnb
    have hmb := many_bd hm kk (by omega)
    have hfb := fst_bd c hm.m1 hm.s1 kk (by omega)
    have hs : ∀ n, Calls Try.prog 53 #[.pointer (some ⟨p, 0, none⟩)] (w1.drewN n) fun e w' => e = .returned (.int .i64 c.size) ∧ w1.drewN n = w' := fun n => size_any (hp.drewN n)
    have z1 := hp.fs kk (by omega)
    have i2 : (kk : Int) < 11 := by omega
    clear hok hN g3 hp hm
    generalize whB c ⟨m, kk, i, j⟩ = b at *
    subst hwb
    generalize c.size = S at *
    generalize c.fst kk = F at *
    generalize c.many kk = M at *
    have hms : 0 ≤ m * S ∧ m * S ≤ 1672 := by
      rcases (by omega : m = 0 ∨ m = 1 ∨ m = 2 ∨ m = 3) with rfl | rfl | rfl | rfl <;> omega
    have hw1 : IntKind.i64.wrap (m * S) = m * S := IntWalk.i64_in _ (by omega)
    have hw2 : IntKind.i64.wrap (m * S + F) = m * S + F := IntWalk.i64_in _ (by omega)
    have hw3 : IntKind.i64.wrap (m * S + F + N) = m * S + F + N := IntWalk.i64_in _ (by omega)
    go_wp2_with fail
    go_quiet ((go_at_call 53; exact q_same (hs _)))
    go_wp2
    go_ret
    exact ⟨by rw [hE.out]; rfl, by first | exact kb | exact below_drewN kb _⟩
  · have hwb : whB c ⟨m, k, i, j⟩ = false := decide_eq_false g3
    have hE : Hid (c.at_ ⟨m, k, i, j⟩ = -1) := if_neg (fun q => g3 q.2.2)
    clear hN g3 hp hm
    generalize whB c ⟨m, k, i, j⟩ = b at *
    subst hwb
    go_wp2
    go_ret
    exact ⟨by rw [hE.out]; rfl, kb⟩
end Go.Proofs.Ytpnhpiniflcciaa
