/- What. -/
import Derived.Test.YtpnhpiniflcciaaPlanE
namespace Go.Proofs.Ytpnhpiniflcciaa
set_option linter.unusedVariables false
set_option linter.unusedSimpArgs false
open Go.RowKit

structure XBox (w : World) (b : Nat) (m k i j : Int) : Prop where
  c0 : w.cell? ⟨b, 0, none⟩ = some (.int .i64 m)
  c1 : w.cell? ⟨b, 1, none⟩ = some (.int .i64 k)
  c2 : w.cell? ⟨b, 2, none⟩ = some (.int .i64 i)
  c3 : w.cell? ⟨b, 3, none⟩ = some (.int .i64 j)
  f0 : w.frozen? ⟨b, 0, none⟩ = false
  f1 : w.frozen? ⟨b, 1, none⟩ = false
  f2 : w.frozen? ⟨b, 2, none⟩ = false
  f3 : w.frozen? ⟨b, 3, none⟩ = false
theorem XBox.below {w w' : World} {b : Nat} {m k i j : Int} (h : XBox w b m k i j) (hb : Below w.heap.size w w') : XBox w' b m k i j :=
  have z := block_lt_of_cell h.c0
  ⟨keep_below h.c0 hb, keep_below h.c1 hb, keep_below h.c2 hb, keep_below h.c3 hb, keep_frozen h.f0 z hb, keep_frozen h.f1 z hb, keep_frozen h.f2 z hb, keep_frozen h.f3 z hb⟩
theorem XBox.new (w : World) (m k i j : Int) (T : TypeId) : XBox (w.alloc (.cells #[.int .i64 m, .int .i64 k, .int .i64 i, .int .i64 j] T)) w.heap.size m k i j :=
  ⟨by go_simp, by go_simp, by go_simp, by go_simp, by go_simp, by go_simp, by go_simp, by go_simp⟩
theorem XBox.other {w : World} {b : Nat} {m k i j : Int} (h : XBox w b m k i j) {q : Nat} (hne : q ≠ b) (o : Nat) (v : Value) : XBox (w.setCell ⟨q, o, none⟩ v) b m k i j :=
  ⟨keep_set h.c0 hne, keep_set h.c1 hne, keep_set h.c2 hne, keep_set h.c3 hne, by rw [World.frozen?_setCell]; exact h.f0, by rw [World.frozen?_setCell]; exact h.f1, by rw [World.frozen?_setCell]; exact h.f2, by rw [World.frozen?_setCell]; exact h.f3⟩
theorem XBox.set1 {w : World} {b : Nat} {m k i j : Int} (h : XBox w b m k i j) (x : Int) : XBox (w.setCell ⟨b, 1, none⟩ (.int .i64 x)) b m x i j := by
  obtain ⟨c0, c1, c2, c3, f0, f1, f2, f3⟩ := h
  exact ⟨by go_simp, by go_simp, by go_simp, by go_simp, by go_simp, by go_simp, by go_simp, by go_simp⟩
theorem XBox.set2 {w : World} {b : Nat} {m k i j : Int} (h : XBox w b m k i j) (x : Int) : XBox (w.setCell ⟨b, 2, none⟩ (.int .i64 x)) b m k x j := by
  obtain ⟨c0, c1, c2, c3, f0, f1, f2, f3⟩ := h
  exact ⟨by go_simp, by go_simp, by go_simp, by go_simp, by go_simp, by go_simp, by go_simp, by go_simp⟩
theorem XBox.set3 {w : World} {b : Nat} {m k i j : Int} (h : XBox w b m k i j) (x : Int) : XBox (w.setCell ⟨b, 3, none⟩ (.int .i64 x)) b m k i x := by
  obtain ⟨c0, c1, c2, c3, f0, f1, f2, f3⟩ := h
  exact ⟨by go_simp, by go_simp, by go_simp, by go_simp, by go_simp, by go_simp, by go_simp, by go_simp⟩
theorem PBox.set {w : World} {p : Nat} {c : Cf} (h : PBox w p c) {q : Nat} (hne : q ≠ p) (o : Nat) (v : Value) : PBox (w.setCell ⟨q, o, none⟩ v) p c :=
  ⟨keep_set h.c0 hne, keep_set h.c1 hne, keep_set h.c2 hne, keep_set h.c3 hne, keep_set h.c4 hne, keep_set h.c5 hne, keep_set h.c6 hne, keep_set h.c7 hne, keep_set h.c8 hne, keep_set h.c9 hne, keep_set h.c10 hne, keep_set h.c11 hne, keep_set h.c12 hne, keep_set h.c13 hne, fun k hk => keep_set (h.mn k hk) hne, fun k hk => keep_set (h.fs k hk) hne⟩

set_option maxHeartbeats 1000000 in
theorem what_nil (a : Int) (w : World) : Calls Try.prog 38 #[.pointer none, .int .i64 a] w fun e w' => e = .returned (.tuple #[.agg #[.int .i64 0, .int .i64 0, .int .i64 0, .int .i64 0], .bool false]) ∧ Below w.heap.size w w' := by
  by_cases h : a < 0
  · go_enter Try.func38, Try.ntmps38
    go_wp2
    refine bodyPost_ret (v := .tuple #[.agg #[.int .i64 0, .int .i64 0, .int .i64 0, .int .i64 0], .bool false]) (by simp [results, Try.results38, go_sem]) rfl ⟨rfl, ?_⟩
    repeat (first | exact brefl w | refine bnew ?_ _ | refine bset ?_ (by simp <;> omega) _)
  · have t : decide (a < 0) = false := decide_eq_false h
    have t2 : 0 ≤ a := by omega
    go_enter Try.func38, Try.ntmps38
    go_wp2_with (go_at_call 40; refine (words_nil _).mono ?_; rintro e w1 ⟨rfl, rfl⟩)
    refine bodyPost_ret (v := .tuple #[.agg #[.int .i64 0, .int .i64 0, .int .i64 0, .int .i64 0], .bool false]) (by simp [results, Try.results38, go_sem]) rfl ⟨rfl, ?_⟩
    repeat (first | exact brefl w | refine bnew ?_ _ | refine bset ?_ (by simp <;> omega) _)

set_option maxHeartbeats 1000000 in
theorem what_no {c : Cf} {p : Nat} {w : World} (h : PBox w p c) (hm : c.May) (a : Int) (ha : a < 0 ∨ c.lv * c.size ≤ a) : Calls Try.prog 38 #[.pointer (some ⟨p, 0, none⟩), .int .i64 a] w fun e w' => e = .returned (.tuple #[.agg #[.int .i64 0, .int .i64 0, .int .i64 0, .int .i64 0], .bool false]) ∧ Below w.heap.size w w' := by
  have hb0 := h.below (bnew (brefl w) (.cells #[.int .i64 0, .int .i64 0, .int .i64 0, .int .i64 0] 63))
  have hwd := words_any hb0 hm
  have hmb := mul_bd hm
  clear hb0
  generalize c.lv * c.size = M at *
  by_cases h1 : a < 0
  · go_enter Try.func38, Try.ntmps38
    go_wp2
    refine bodyPost_ret (v := .tuple #[.agg #[.int .i64 0, .int .i64 0, .int .i64 0, .int .i64 0], .bool false]) (by simp [results, Try.results38, go_sem]) rfl ⟨rfl, ?_⟩
    repeat (first | exact brefl w | refine bnew ?_ _ | refine bset ?_ (by simp <;> omega) _)
  · have t : decide (a < 0) = false := decide_eq_false h1
    have t2 : M ≤ a := by omega
    obtain ⟨W0, hW, xb, kb⟩ : ∃ W0, w.alloc (.cells #[.int .i64 0, .int .i64 0, .int .i64 0, .int .i64 0] 63) = W0 ∧ XBox W0 w.heap.size 0 0 0 0 ∧ Below w.heap.size w W0 := ⟨_, rfl, XBox.new w 0 0 0 0 _, bnew (brefl w) _⟩
    rw [hW] at hwd
    clear ha h
    go_enter Try.func38, Try.ntmps38
    go_wp2_with fail
    clear hW
    refine hwd.mono ?_
    rintro e w1 ⟨rfl, hb1⟩
    obtain ⟨c0, c1, c2, c3, f0, f1, f2, f3⟩ := xb.below hb1
    clear xb
    go_wp2
    refine bodyPost_ret (v := .tuple #[.agg #[.int .i64 0, .int .i64 0, .int .i64 0, .int .i64 0], .bool false]) (by simp [results, Try.results38, go_sem, c0, c1, c2, c3, f0, f1, f2, f3]) rfl ⟨rfl, ?_⟩
    repeat (first | exact bnext kb hb1 | refine bset ?_ (by simp <;> omega) _)
end Go.Proofs.Ytpnhpiniflcciaa
