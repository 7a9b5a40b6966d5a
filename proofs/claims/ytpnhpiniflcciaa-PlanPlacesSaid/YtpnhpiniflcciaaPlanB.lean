/- Plans: the contracts of base, size, Words, Conf. -/
import Derived.Test.YtpnhpiniflcciaaPlanA
namespace Go.Proofs.Ytpnhpiniflcciaa
set_option linter.unusedVariables false
set_option linter.unusedSimpArgs false
open Go.RowKit

/-- Block p holds the plan of c. -/
structure PBox (w : World) (p : Nat) (c : Cf) : Prop where
  c0 : w.cell? ⟨p, 0, none⟩ = some (.int .i64 c.lv)
  c1 : w.cell? ⟨p, 1, none⟩ = some (.int .i64 c.th)
  c2 : w.cell? ⟨p, 2, none⟩ = some (.int .i64 c.o0)
  c3 : w.cell? ⟨p, 3, none⟩ = some (.int .i64 c.o1)
  c4 : w.cell? ⟨p, 4, none⟩ = some (.int .i64 c.o2)
  c5 : w.cell? ⟨p, 5, none⟩ = some (.int .i64 c.o3)
  c6 : w.cell? ⟨p, 6, none⟩ = some (.int .i64 c.o4)
  c7 : w.cell? ⟨p, 7, none⟩ = some (.int .i64 c.o5)
  c8 : w.cell? ⟨p, 8, none⟩ = some (.int .i64 c.o6)
  c9 : w.cell? ⟨p, 9, none⟩ = some (.int .i64 c.o7)
  c10 : w.cell? ⟨p, 10, none⟩ = some (.int .i64 c.sl)
  c11 : w.cell? ⟨p, 11, none⟩ = some (.int .i64 c.li)
  c12 : w.cell? ⟨p, 12, none⟩ = some (.int .i64 c.ge)
  c13 : w.cell? ⟨p, 13, none⟩ = some (.int .i64 c.qu)
  mn : ∀ k : Nat, k < 10 → w.cell? ⟨p, 14 + k, none⟩ = some (.int .i64 (c.many k))
  fs : ∀ k : Nat, k < 11 → w.cell? ⟨p, 24 + k, none⟩ = some (.int .i64 (c.fst k))
theorem PBox.below {w w' : World} {p : Nat} {c : Cf} (h : PBox w p c) (hb : Below w.heap.size w w') : PBox w' p c :=
  ⟨keep_below h.c0 hb, keep_below h.c1 hb, keep_below h.c2 hb, keep_below h.c3 hb, keep_below h.c4 hb, keep_below h.c5 hb, keep_below h.c6 hb, keep_below h.c7 hb, keep_below h.c8 hb, keep_below h.c9 hb, keep_below h.c10 hb, keep_below h.c11 hb, keep_below h.c12 hb, keep_below h.c13 hb, fun k hk => keep_below (h.mn k hk) hb, fun k hk => keep_below (h.fs k hk) hb⟩
theorem PBox.drewN {w : World} {p : Nat} {c : Cf} (h : PBox w p c) (n : Nat) : PBox (w.drewN n) p c := h.below (below_drewN (brefl w) n)

theorem size_bd {c : Cf} (hm : c.May) : 26 ≤ c.size ∧ c.size ≤ 418 := by
  have := hm.s1; have := hm.s2; have := hm.m1; have := hm.m2
  unfold Cf.size
  omega
theorem mul_bd {c : Cf} (hm : c.May) : 0 ≤ c.lv * c.size ∧ c.lv * c.size ≤ 1672 := by
  obtain ⟨h1, h2⟩ := size_bd hm
  have a := hm.l1
  have b := hm.l2
  generalize c.size = S at *
  generalize c.lv = L at *
  rcases (by omega : L = 1 ∨ L = 2 ∨ L = 3 ∨ L = 4) with rfl | rfl | rfl | rfl <;> omega
theorem base_any (n : Int) (w : World) : Calls Try.prog 54 #[.int .i64 n] w fun e w' => e = .returned (.int .i64 (baseOf n)) ∧ w = w' := by
  by_cases h8 : n = 8
  · subst h8
    have hE : Hid (baseOf 8 = 1) := by unfold Hid baseOf; exact if_pos (Or.inl rfl)
    go_enter Try.func54, Try.ntmps54
    go_wp2
    go_ret
    exact ⟨by rw [hE.out]; rfl, rfl⟩
  · have t8 : (n == 8) = false := by simpa using h8
    by_cases h9 : n = 9
    · subst h9
      have hE : Hid (baseOf 9 = 1) := by unfold Hid baseOf; exact if_pos (Or.inr rfl)
      go_enter Try.func54, Try.ntmps54
      go_wp2
      go_ret
      exact ⟨by rw [hE.out]; rfl, rfl⟩
    · have t9 : (n == 9) = false := by simpa using h9
      have hE : Hid (baseOf n = 0) := by unfold Hid baseOf; exact if_neg (by omega)
      go_enter Try.func54, Try.ntmps54
      go_wp2
      go_ret
      exact ⟨by rw [hE.out]; rfl, rfl⟩

theorem size_any {c : Cf} {p : Nat} {w : World} (h : PBox w p c) : Calls Try.prog 53 #[.pointer (some ⟨p, 0, none⟩)] w fun e w' => e = .returned (.int .i64 c.size) ∧ w = w' := by
  have k := h.fs 10 (by decide)
  clear h
  have hz := block_lt_of_cell k
  simp only [Nat.reduceAdd] at k
  go_enter Try.func53, Try.ntmps53
  go_wp2
  go_ret
  exact ⟨rfl, rfl⟩

theorem words_any {c : Cf} {p : Nat} {w : World} (h : PBox w p c) (hm : c.May) : Calls Try.prog 40 #[.pointer (some ⟨p, 0, none⟩)] w fun e w' => e = .returned (.int .i64 (c.lv * c.size)) ∧ Below w.heap.size w w' := by
  have hs : ∀ n, Calls Try.prog 53 #[.pointer (some ⟨p, 0, none⟩)] (w.drewN n) fun e w' => e = .returned (.int .i64 c.size) ∧ w.drewN n = w' := fun n => size_any (h.drewN n)
  have k := h.c0
  have hz := block_lt_of_cell k
  have ho := mul_bd hm
  clear h
  generalize c.size = S at *
  go_enter Try.func40, Try.ntmps40
  go_wp2_with fail
  go_quiet ((go_at_call 53; exact q_same (hs _)))
  go_wp2
  go_ret
  exact ⟨rfl, by first | exact below_drewN (brefl w) _ | exact (brefl w)⟩

theorem words_nil (w : World) : Calls Try.prog 40 #[.pointer none] w fun e w' => e = .returned (.int .i64 0) ∧ w = w' := by
  go_enter Try.func40, Try.ntmps40
  go_wp2
  go_ret
  exact ⟨rfl, rfl⟩

set_option maxRecDepth 100000 in
theorem conf_any {c : Cf} {p : Nat} {w : World} (h : PBox w p c) : Calls Try.prog 41 #[.pointer (some ⟨p, 0, none⟩)] w fun e w' => e = .returned (.agg #[.int .i64 c.lv, .int .i64 c.th, .int .i64 c.o0, .int .i64 c.o1, .int .i64 c.o2, .int .i64 c.o3, .int .i64 c.o4, .int .i64 c.o5, .int .i64 c.o6, .int .i64 c.o7, .int .i64 c.sl, .int .i64 c.li, .int .i64 c.ge, .int .i64 c.qu]) ∧ Below w.heap.size w w' := by
  obtain ⟨k0, k1, k2, k3, k4, k5, k6, k7, k8, k9, k10, k11, k12, k13, _, _⟩ := h
  have hz := block_lt_of_cell k0
  go_enter Try.func41, Try.ntmps41
  go_wp2
  refine bodyPost_ret (v := .agg #[.int .i64 c.lv, .int .i64 c.th, .int .i64 c.o0, .int .i64 c.o1, .int .i64 c.o2, .int .i64 c.o3, .int .i64 c.o4, .int .i64 c.o5, .int .i64 c.o6, .int .i64 c.o7, .int .i64 c.sl, .int .i64 c.li, .int .i64 c.ge, .int .i64 c.qu]) (by simp [results, Try.results41, go_sem]) rfl ⟨rfl, ?_⟩
  repeat (first | exact brefl w | refine bnew ?_ _ | refine bset ?_ (by simp <;> omega) _)

set_option maxRecDepth 100000 in
theorem conf_nil (w : World) : Calls Try.prog 41 #[.pointer none] w fun e w' => e = .returned (.agg #[.int .i64 0, .int .i64 0, .int .i64 0, .int .i64 0, .int .i64 0, .int .i64 0, .int .i64 0, .int .i64 0, .int .i64 0, .int .i64 0, .int .i64 0, .int .i64 0, .int .i64 0, .int .i64 0]) ∧ Below w.heap.size w w' := by
  go_enter Try.func41, Try.ntmps41
  go_wp2
  refine bodyPost_ret (v := .agg #[.int .i64 0, .int .i64 0, .int .i64 0, .int .i64 0, .int .i64 0, .int .i64 0, .int .i64 0, .int .i64 0, .int .i64 0, .int .i64 0, .int .i64 0, .int .i64 0, .int .i64 0, .int .i64 0]) (by simp [results, Try.results41, go_sem]) rfl ⟨rfl, ?_⟩
  repeat (first | exact brefl w | refine bnew ?_ _ | refine bset ?_ (by simp <;> omega) _)
end Go.Proofs.Ytpnhpiniflcciaa
