/- New makes a plan. -/
import Derived.Test.YtpnhpiniflcciaaPlanB
import Derived.Test.YtpnhpiniflcciaaConfC
namespace Go.Proofs.Ytpnhpiniflcciaa
set_option linter.unusedVariables false
set_option linter.unusedSimpArgs false
open Go.RowKit

/-- Block p holds the plan of c as New makes it: the first numbers up to k. -/
structure NBox (w : World) (p : Nat) (c : Cf) (k : Nat) : Prop where
  c0 : w.cell? ⟨p, 0, none⟩ = some (.int .i64 c.lv)
  c1 : w.cell? ⟨p, 1, none⟩ = some (.int .i64 c.th)
  c2 : w.cell? ⟨p, 2, none⟩ = some (.int .i64 c.o0)
  c3 : w.cell? ⟨p, 3, none⟩ = some (.int .i64 c.o1)
  c4 : w.cell? ⟨p, 4, none⟩ = some (.int .i64 c.o2)
  c5 : w.cell? ⟨p, 5, none⟩ = some (.int .i64 c.o3)
  c6 : w.cell? ⟨p, 6, none⟩ = some (.int .i64 c.o4)
  c7 : w.cell? ⟨p, 7, none⟩ = some (.int .i64 c.o5)
  c8 : w.cell? ⟨p, 8, none⟩ = some (.int .i64 c.o6)
  c9 : w.cell? ⟨p, 9, none⟩ = some (.int .i64 c.o7)
  c10 : w.cell? ⟨p, 10, none⟩ = some (.int .i64 c.sl)
  c11 : w.cell? ⟨p, 11, none⟩ = some (.int .i64 c.li)
  c12 : w.cell? ⟨p, 12, none⟩ = some (.int .i64 c.ge)
  c13 : w.cell? ⟨p, 13, none⟩ = some (.int .i64 c.qu)
  mn : ∀ k : Nat, k < 10 → w.cell? ⟨p, 14 + k, none⟩ = some (.int .i64 (c.many k))
  fs : ∀ j : Nat, j < 11 → w.cell? ⟨p, 24 + j, none⟩ = some (.int .i64 (if j ≤ k then c.fst j else 0))
  fz : ∀ j : Nat, j < 11 → w.frozen? ⟨p, 24 + j, none⟩ = false
theorem NBox.below {w w' : World} {p : Nat} {c : Cf} {k : Nat} (h : NBox w p c k) (hb : Below w.heap.size w w') : NBox w' p c k :=
  ⟨keep_below h.c0 hb, keep_below h.c1 hb, keep_below h.c2 hb, keep_below h.c3 hb, keep_below h.c4 hb, keep_below h.c5 hb, keep_below h.c6 hb, keep_below h.c7 hb, keep_below h.c8 hb, keep_below h.c9 hb, keep_below h.c10 hb, keep_below h.c11 hb, keep_below h.c12 hb, keep_below h.c13 hb, fun k hk => keep_below (h.mn k hk) hb, fun k hk => keep_below (h.fs k hk) hb, fun k hk => keep_frozen (h.fz k hk) (block_lt_of_cell h.c0) hb⟩
theorem NBox.fin {w : World} {p : Nat} {c : Cf} (h : NBox w p c 10) : PBox w p c :=
  ⟨h.c0, h.c1, h.c2, h.c3, h.c4, h.c5, h.c6, h.c7, h.c8, h.c9, h.c10, h.c11, h.c12, h.c13, h.mn, fun k hk => by have := h.fs k hk; rwa [if_pos (by omega)] at this⟩
theorem keep_off {w : World} {b o1 o2 : Nat} {u v : Value} (h : w.cell? ⟨b, o2, none⟩ = some u) (hne : o1 ≠ o2) : (w.setCell ⟨b, o1, none⟩ v).cell? ⟨b, o2, none⟩ = some u := by
  rw [World.cell?_setCell_other _ _ _ _ (fun e => hne (congrArg Addr.off e))]
  exact h
theorem NBox.step {w : World} {p : Nat} {c : Cf} {k : Nat} (h : NBox w p c k) (hk : k < 10) : NBox (w.setCell ⟨p, 24 + (k + 1), none⟩ (.int .i64 (c.fst (k + 1)))) p c (k + 1) :=
  ⟨keep_off h.c0 (by omega), keep_off h.c1 (by omega), keep_off h.c2 (by omega), keep_off h.c3 (by omega), keep_off h.c4 (by omega), keep_off h.c5 (by omega), keep_off h.c6 (by omega), keep_off h.c7 (by omega), keep_off h.c8 (by omega), keep_off h.c9 (by omega), keep_off h.c10 (by omega), keep_off h.c11 (by omega), keep_off h.c12 (by omega), keep_off h.c13 (by omega), fun j hj => keep_off (h.mn j hj) (by omega), fun j hj => by
    by_cases e : j = k + 1
    · subst e
      rw [if_pos (Nat.le_refl _)]
      have hz := h.fs (k + 1) hj
      have hf := h.fz (k + 1) hj
      go_simp
    · refine keep_off ?_ (by omega)
      rw [h.fs j hj]
      by_cases g : j ≤ k
      · rw [if_pos g, if_pos (by omega)]
      · rw [if_neg g, if_neg (by omega)], fun j hj => by rw [World.frozen?_setCell]; exact h.fz j hj⟩

theorem idx10 (c : Cf) (k : Nat) (hk : k < 10) (w : World) : (Instr.index 79 (.agg #[.int .i64 1, .int .i64 1, .int .i64 1, .int .i64 1, .int .i64 4, .int .i64 2, .int .i64 8, .int .i64 c.li, .int .i64 c.sl, .int .i64 (c.sl * 5)]) (.int .i64 (k : Int))).run Try.prog w = .ok (.int .i64 (c.many k)) w := by
  rcases (by omega : k = 0 ∨ k = 1 ∨ k = 2 ∨ k = 3 ∨ k = 4 ∨ k = 5 ∨ k = 6 ∨ k = 7 ∨ k = 8 ∨ k = 9) with rfl | rfl | rfl | rfl | rfl | rfl | rfl | rfl | rfl | rfl <;> simp [Instr.index, go_sem, Cf.many]

theorem nbox_new (c : Cf) (w : World) : NBox (w.alloc (.cells #[.int .i64 c.lv, .int .i64 c.th, .int .i64 c.o0, .int .i64 c.o1, .int .i64 c.o2, .int .i64 c.o3, .int .i64 c.o4, .int .i64 c.o5, .int .i64 c.o6, .int .i64 c.o7, .int .i64 c.sl, .int .i64 c.li, .int .i64 c.ge, .int .i64 c.qu, .int .i64 1, .int .i64 1, .int .i64 1, .int .i64 1, .int .i64 4, .int .i64 2, .int .i64 8, .int .i64 c.li, .int .i64 c.sl, .int .i64 (c.sl * 5), .int .i64 0, .int .i64 0, .int .i64 0, .int .i64 0, .int .i64 0, .int .i64 0, .int .i64 0, .int .i64 0, .int .i64 0, .int .i64 0, .int .i64 0] 82)) w.heap.size c 0 := by
  refine ⟨by go_simp, by go_simp, by go_simp, by go_simp, by go_simp, by go_simp, by go_simp, by go_simp, by go_simp, by go_simp, by go_simp, by go_simp, by go_simp, by go_simp, fun k hk => ?_, fun k hk => ?_, fun k hk => ?_⟩
  · rcases (by omega : k = 0 ∨ k = 1 ∨ k = 2 ∨ k = 3 ∨ k = 4 ∨ k = 5 ∨ k = 6 ∨ k = 7 ∨ k = 8 ∨ k = 9) with rfl | rfl | rfl | rfl | rfl | rfl | rfl | rfl | rfl | rfl <;> (simp only [Cf.many]; go_simp)
  · rcases (by omega : k = 0 ∨ k = 1 ∨ k = 2 ∨ k = 3 ∨ k = 4 ∨ k = 5 ∨ k = 6 ∨ k = 7 ∨ k = 8 ∨ k = 9 ∨ k = 10) with rfl | rfl | rfl | rfl | rfl | rfl | rfl | rfl | rfl | rfl | rfl <;> (simp [Cf.fst] <;> go_simp)
  · rcases (by omega : k = 0 ∨ k = 1 ∨ k = 2 ∨ k = 3 ∨ k = 4 ∨ k = 5 ∨ k = 6 ∨ k = 7 ∨ k = 8 ∨ k = 9 ∨ k = 10) with rfl | rfl | rfl | rfl | rfl | rfl | rfl | rfl | rfl | rfl | rfl <;> go_simp

set_option maxHeartbeats 1000000 in
set_option maxRecDepth 100000 in
theorem new_no (c : Cf) (hm : mayB c = false) (w : World) : Calls Try.prog 35 #[.agg #[.int .i64 c.lv, .int .i64 c.th, .int .i64 c.o0, .int .i64 c.o1, .int .i64 c.o2, .int .i64 c.o3, .int .i64 c.o4, .int .i64 c.o5, .int .i64 c.o6, .int .i64 c.o7, .int .i64 c.sl, .int .i64 c.li, .int .i64 c.ge, .int .i64 c.qu]] w fun e w' => e = .returned (.tuple #[.pointer none, .int .i64 1]) ∧ Below w.heap.size w w' := by
  have hmay := may_any c
  rw [hm] at hmay
  go_enter Try.func35, Try.ntmps35
  go_wp2_with fail
  obtain ⟨W0, hW0, k0, k1, k2, k3, k4, k5, k6, k7, k8, k9, k10, k11, k12, k13, kb⟩ : ∃ W0, w.alloc (.cells #[.int .i64 c.lv, .int .i64 c.th, .int .i64 c.o0, .int .i64 c.o1, .int .i64 c.o2, .int .i64 c.o3, .int .i64 c.o4, .int .i64 c.o5, .int .i64 c.o6, .int .i64 c.o7, .int .i64 c.sl, .int .i64 c.li, .int .i64 c.ge, .int .i64 c.qu] 45) = W0 ∧ W0.cell? ⟨w.heap.size, 0, none⟩ = some (.int .i64 c.lv) ∧ W0.cell? ⟨w.heap.size, 1, none⟩ = some (.int .i64 c.th) ∧ W0.cell? ⟨w.heap.size, 2, none⟩ = some (.int .i64 c.o0) ∧ W0.cell? ⟨w.heap.size, 3, none⟩ = some (.int .i64 c.o1) ∧ W0.cell? ⟨w.heap.size, 4, none⟩ = some (.int .i64 c.o2) ∧ W0.cell? ⟨w.heap.size, 5, none⟩ = some (.int .i64 c.o3) ∧ W0.cell? ⟨w.heap.size, 6, none⟩ = some (.int .i64 c.o4) ∧ W0.cell? ⟨w.heap.size, 7, none⟩ = some (.int .i64 c.o5) ∧ W0.cell? ⟨w.heap.size, 8, none⟩ = some (.int .i64 c.o6) ∧ W0.cell? ⟨w.heap.size, 9, none⟩ = some (.int .i64 c.o7) ∧ W0.cell? ⟨w.heap.size, 10, none⟩ = some (.int .i64 c.sl) ∧ W0.cell? ⟨w.heap.size, 11, none⟩ = some (.int .i64 c.li) ∧ W0.cell? ⟨w.heap.size, 12, none⟩ = some (.int .i64 c.ge) ∧ W0.cell? ⟨w.heap.size, 13, none⟩ = some (.int .i64 c.qu) ∧ Below w.heap.size w W0 :=
    ⟨_, rfl, by go_simp, by go_simp, by go_simp, by go_simp, by go_simp, by go_simp, by go_simp, by go_simp, by go_simp, by go_simp, by go_simp, by go_simp, by go_simp, by go_simp, bnew (brefl w) _⟩
  rw [hW0]
  clear hW0
  refine (hmay _).mono ?_
  rintro e w1 ⟨rfl, hb1⟩
  go_wp2
  go_ret2
  exact ⟨rfl, bnext kb hb1⟩

set_option maxHeartbeats 2000000 in
set_option maxRecDepth 100000 in
theorem new_yes (c : Cf) (hm : c.May) (w : World) : Calls Try.prog 35 #[.agg #[.int .i64 c.lv, .int .i64 c.th, .int .i64 c.o0, .int .i64 c.o1, .int .i64 c.o2, .int .i64 c.o3, .int .i64 c.o4, .int .i64 c.o5, .int .i64 c.o6, .int .i64 c.o7, .int .i64 c.sl, .int .i64 c.li, .int .i64 c.ge, .int .i64 c.qu]] w fun e w' => ∃ p, e = .returned (.tuple #[.pointer (some ⟨p, 0, none⟩), .int .i64 0]) ∧ PBox w' p c ∧ Below w.heap.size w w' := by
  have hmay := may_any c
  rw [may_yes hm] at hmay
  have hfb := fst_bd c hm.m1 hm.s1
  have hsz := size_bd hm
  have hmf := many_fst c
  have s1 := hm.s1
  have s2 := hm.s2
  go_enter Try.func35, Try.ntmps35
  go_wp2_with fail
  obtain ⟨W0, hW0, k0, k1, k2, k3, k4, k5, k6, k7, k8, k9, k10, k11, k12, k13, kb⟩ : ∃ W0, w.alloc (.cells #[.int .i64 c.lv, .int .i64 c.th, .int .i64 c.o0, .int .i64 c.o1, .int .i64 c.o2, .int .i64 c.o3, .int .i64 c.o4, .int .i64 c.o5, .int .i64 c.o6, .int .i64 c.o7, .int .i64 c.sl, .int .i64 c.li, .int .i64 c.ge, .int .i64 c.qu] 45) = W0 ∧ W0.cell? ⟨w.heap.size, 0, none⟩ = some (.int .i64 c.lv) ∧ W0.cell? ⟨w.heap.size, 1, none⟩ = some (.int .i64 c.th) ∧ W0.cell? ⟨w.heap.size, 2, none⟩ = some (.int .i64 c.o0) ∧ W0.cell? ⟨w.heap.size, 3, none⟩ = some (.int .i64 c.o1) ∧ W0.cell? ⟨w.heap.size, 4, none⟩ = some (.int .i64 c.o2) ∧ W0.cell? ⟨w.heap.size, 5, none⟩ = some (.int .i64 c.o3) ∧ W0.cell? ⟨w.heap.size, 6, none⟩ = some (.int .i64 c.o4) ∧ W0.cell? ⟨w.heap.size, 7, none⟩ = some (.int .i64 c.o5) ∧ W0.cell? ⟨w.heap.size, 8, none⟩ = some (.int .i64 c.o6) ∧ W0.cell? ⟨w.heap.size, 9, none⟩ = some (.int .i64 c.o7) ∧ W0.cell? ⟨w.heap.size, 10, none⟩ = some (.int .i64 c.sl) ∧ W0.cell? ⟨w.heap.size, 11, none⟩ = some (.int .i64 c.li) ∧ W0.cell? ⟨w.heap.size, 12, none⟩ = some (.int .i64 c.ge) ∧ W0.cell? ⟨w.heap.size, 13, none⟩ = some (.int .i64 c.qu) ∧ Below w.heap.size w W0 :=
    ⟨_, rfl, by go_simp, by go_simp, by go_simp, by go_simp, by go_simp, by go_simp, by go_simp, by go_simp, by go_simp, by go_simp, by go_simp, by go_simp, by go_simp, by go_simp, bnew (brefl w) _⟩
  rw [hW0]
  clear hW0
  have hzw := block_lt_of_cell k0
  refine (hmay _).mono ?_
  rintro e w1 ⟨rfl, hb1⟩
  obtain ⟨hc1, _, hz1⟩ := bcell hb1
  go_wp2_with fail
  obtain ⟨W1, hW1, nb, kb1⟩ : ∃ W1, w1.alloc (.cells #[.int .i64 c.lv, .int .i64 c.th, .int .i64 c.o0, .int .i64 c.o1, .int .i64 c.o2, .int .i64 c.o3, .int .i64 c.o4, .int .i64 c.o5, .int .i64 c.o6, .int .i64 c.o7, .int .i64 c.sl, .int .i64 c.li, .int .i64 c.ge, .int .i64 c.qu, .int .i64 1, .int .i64 1, .int .i64 1, .int .i64 1, .int .i64 4, .int .i64 2, .int .i64 8, .int .i64 c.li, .int .i64 c.sl, .int .i64 (c.sl * 5), .int .i64 0, .int .i64 0, .int .i64 0, .int .i64 0, .int .i64 0, .int .i64 0, .int .i64 0, .int .i64 0, .int .i64 0, .int .i64 0, .int .i64 0] 82) = W1 ∧ NBox W1 w1.heap.size c 0 ∧ Below w.heap.size w W1 :=
    ⟨_, rfl, nbox_new c w1, bnew (bnext kb hb1) _⟩
  rw [hW1]
  clear hW1
  have hPw : w.heap.size ≤ w1.heap.size := by omega
  generalize w1.heap.size = P at *
  clear hc1 hb1 hz1 k0 k1 k2 k3 k4 k5 k6 k7 k8 k9 k10 k11 k12 k13
  go_loopg [25] 10 (fun gk i wr => ∃ k : Nat, k + gk = 10 ∧ i = .int .i64 k ∧ NBox wr P c k ∧ Below w.heap.size w wr)
  case atStart => exact ⟨0, by omega, rfl, nb, kb1⟩
  case round =>
    obtain ⟨k, hk, rfl, nbr, hbr⟩ := hrel
    by_cases hlt : k < 10
    · have hix := idx10 c k hlt
      have ck := nbr.fs k (by omega)
      rw [if_pos (Nat.le_refl k)] at ck
      have cm := nbr.fs (k + 1) (by omega)
      have fm := nbr.fz (k + 1) (by omega)
      have hz := block_lt_of_cell ck
      have hst := hmf k hlt
      have b1 := hfb k (by omega)
      have b2 := hfb (k + 1) (by omega)
      have HN : Hid (NBox (wr.setCell ⟨P, 24 + (k + 1), none⟩ (.int .i64 (c.fst k + c.many k))) P c (k + 1)) := by rw [← hst]; exact nbr.step hlt
      have i0 : (0 : Int) ≤ (k : Int) := by omega
      have i1 : (k : Int) < 10 := by omega
      have i2 : (k : Int) < 11 := by omega
      have i3 : (k : Int) + 1 < 11 := by omega
      have i4 : 0 ≤ (k : Int) + 1 := by omega
      have i5 : ((k : Int) + 1).toNat = k + 1 := by omega
      rw [hst] at b2
      clear hst hmf hfb nb hm nbr
      generalize c.size = S at *
      generalize c.fst k = F at *
      generalize c.many k = M at *
      have hw1 : IntKind.i64.wrap ((k : Int) + 1) = (k : Int) + 1 := IntWalk.i64_in _ (by omega)
      have hw2 : IntKind.i64.wrap (F + M) = F + M := IntWalk.i64_in _ (by omega)
      go_wp2_with fail
      refine wp_tail 14 (by kernel_rfl) (by kernel_rfl) ?_
      simp only [List.take_succ_cons, List.take_zero, List.drop_succ_cons, List.drop_zero]
      repeat still_step
      refine wpStill_nil ?_
      go_wp2
      go_roundg (gk - 1)
      case measure => omega
      case rel => exact ⟨k + 1, by omega, by go_num, HN.out.below (brefl _).drew, (bset (p := ⟨P, 24 + (k + 1), none⟩) hbr hPw _).drew⟩
    · obtain rfl : k = 10 := by omega
      clear nb
      go_wp2
      go_ret2
      exact ⟨P, rfl, nbr.fin, hbr⟩
end Go.Proofs.Ytpnhpiniflcciaa
