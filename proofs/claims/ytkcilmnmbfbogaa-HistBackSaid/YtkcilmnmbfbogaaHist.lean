/- Histories: events in memory; whether one is right. -/
import Derived.Test.YtkcilmnmbfbogaaHistP
import Derived.Test.YtkcilmnmbfbogaaPlanR
import Derived.Test.YtkcilmnmbfbogaaProg
namespace Go.Proofs.Ytkcilmnmbfbogaa
set_option linter.unusedVariables false
set_option linter.unusedSimpArgs false
open Go.RowKit

def cvc (x : CV) : List Value := [.int .i64 x.op, .int .i64 x.lv, .int .i64 x.key, .int .u64 x.a, .int .u64 x.b, .int .u64 x.h, .int .i64 x.rg]
def avc (x : AV) : List Value := [.int .i64 x.er, .int .u64 x.ra, .int .u64 x.rb, .int .u64 x.rh, .int .i64 x.n, .int .i64 x.k]
def evc (e : Ev) : List Value := [.int .i64 e.th, .bool e.bk, .int .i64 e.c.op, .int .i64 e.c.lv, .int .i64 e.c.key, .int .u64 e.c.a, .int .u64 e.c.b, .int .u64 e.c.h, .int .i64 e.c.rg, .int .i64 e.a.er, .int .u64 e.a.ra, .int .u64 e.a.rb, .int .u64 e.a.rh, .int .i64 e.a.n, .int .i64 e.a.k]
theorem evc_len (e : Ev) : (evc e).length = 15 := rfl
set_option maxHeartbeats 4000000 in
set_option maxRecDepth 100000 in
theorem eqC (x : CV) (w : World) : (binOp .eql 34 (.agg (cvc x).toArray) (.agg #[.int .i64 0, .int .i64 0, .int .i64 0, .int .u64 0, .int .u64 0, .int .u64 0, .int .i64 0])).run Try.prog w = .ok (.bool (decide (x = cv0))) w := by
  obtain ⟨op, lv, key, a, b, h, rg⟩ := x
  by_cases h0 : op = 0
  · subst h0
    by_cases h1 : lv = 0
    · subst h1
      by_cases h2 : key = 0
      · subst h2
        by_cases h3 : a = 0
        · subst h3
          by_cases h4 : b = 0
          · subst h4
            by_cases h5 : h = 0
            · subst h5
              by_cases h6 : rg = 0
              · subst h6
                rw [show decide ((⟨0, 0, 0, 0, 0, 0, 0⟩ : CV) = cv0) = true from rfl]
                simp [go_sem, cvc]
              · rw [show decide ((⟨0, 0, 0, 0, 0, 0, rg⟩ : CV) = cv0) = false from decide_eq_false (by simp [cv0, h6])]
                simp [go_sem, cvc, h6]
            · rw [show decide ((⟨0, 0, 0, 0, 0, h, rg⟩ : CV) = cv0) = false from decide_eq_false (by simp [cv0, h5])]
              simp [go_sem, cvc, h5]
          · rw [show decide ((⟨0, 0, 0, 0, b, h, rg⟩ : CV) = cv0) = false from decide_eq_false (by simp [cv0, h4])]
            simp [go_sem, cvc, h4]
        · rw [show decide ((⟨0, 0, 0, a, b, h, rg⟩ : CV) = cv0) = false from decide_eq_false (by simp [cv0, h3])]
          simp [go_sem, cvc, h3]
      · rw [show decide ((⟨0, 0, key, a, b, h, rg⟩ : CV) = cv0) = false from decide_eq_false (by simp [cv0, h2])]
        simp [go_sem, cvc, h2]
    · rw [show decide ((⟨0, lv, key, a, b, h, rg⟩ : CV) = cv0) = false from decide_eq_false (by simp [cv0, h1])]
      simp [go_sem, cvc, h1]
  · rw [show decide ((⟨op, lv, key, a, b, h, rg⟩ : CV) = cv0) = false from decide_eq_false (by simp [cv0, h0])]
    simp [go_sem, cvc, h0]
set_option maxHeartbeats 4000000 in
set_option maxRecDepth 100000 in
theorem eqA (x : AV) (w : World) : (binOp .eql 37 (.agg (avc x).toArray) (.agg #[.int .i64 0, .int .u64 0, .int .u64 0, .int .u64 0, .int .i64 0, .int .i64 0])).run Try.prog w = .ok (.bool (decide (x = av0))) w := by
  obtain ⟨er, ra, rb, rh, n, k⟩ := x
  by_cases h0 : er = 0
  · subst h0
    by_cases h1 : ra = 0
    · subst h1
      by_cases h2 : rb = 0
      · subst h2
        by_cases h3 : rh = 0
        · subst h3
          by_cases h4 : n = 0
          · subst h4
            by_cases h5 : k = 0
            · subst h5
              rw [show decide ((⟨0, 0, 0, 0, 0, 0⟩ : AV) = av0) = true from rfl]
              simp [go_sem, avc]
            · rw [show decide ((⟨0, 0, 0, 0, 0, k⟩ : AV) = av0) = false from decide_eq_false (by simp [av0, h5])]
              simp [go_sem, avc, h5]
          · rw [show decide ((⟨0, 0, 0, 0, n, k⟩ : AV) = av0) = false from decide_eq_false (by simp [av0, h4])]
            simp [go_sem, avc, h4]
        · rw [show decide ((⟨0, 0, 0, rh, n, k⟩ : AV) = av0) = false from decide_eq_false (by simp [av0, h3])]
          simp [go_sem, avc, h3]
      · rw [show decide ((⟨0, 0, rb, rh, n, k⟩ : AV) = av0) = false from decide_eq_false (by simp [av0, h2])]
        simp [go_sem, avc, h2]
    · rw [show decide ((⟨0, ra, rb, rh, n, k⟩ : AV) = av0) = false from decide_eq_false (by simp [av0, h1])]
      simp [go_sem, avc, h1]
  · rw [show decide ((⟨er, ra, rb, rh, n, k⟩ : AV) = av0) = false from decide_eq_false (by simp [av0, h0])]
    simp [go_sem, avc, h0]
set_option maxHeartbeats 4000000 in
set_option maxRecDepth 100000 in
theorem neC (x : CV) (w : World) : (binOp .neq 34 (.agg (cvc x).toArray) (.agg #[.int .i64 0, .int .i64 0, .int .i64 0, .int .u64 0, .int .u64 0, .int .u64 0, .int .i64 0])).run Try.prog w = .ok (.bool (!decide (x = cv0))) w := by
  obtain ⟨op, lv, key, a, b, h, rg⟩ := x
  by_cases h0 : op = 0
  · subst h0
    by_cases h1 : lv = 0
    · subst h1
      by_cases h2 : key = 0
      · subst h2
        by_cases h3 : a = 0
        · subst h3
          by_cases h4 : b = 0
          · subst h4
            by_cases h5 : h = 0
            · subst h5
              by_cases h6 : rg = 0
              · subst h6
                rw [show decide ((⟨0, 0, 0, 0, 0, 0, 0⟩ : CV) = cv0) = true from rfl]
                simp [go_sem, cvc]
              · rw [show decide ((⟨0, 0, 0, 0, 0, 0, rg⟩ : CV) = cv0) = false from decide_eq_false (by simp [cv0, h6])]
                simp [go_sem, cvc, h6]
            · rw [show decide ((⟨0, 0, 0, 0, 0, h, rg⟩ : CV) = cv0) = false from decide_eq_false (by simp [cv0, h5])]
              simp [go_sem, cvc, h5]
          · rw [show decide ((⟨0, 0, 0, 0, b, h, rg⟩ : CV) = cv0) = false from decide_eq_false (by simp [cv0, h4])]
            simp [go_sem, cvc, h4]
        · rw [show decide ((⟨0, 0, 0, a, b, h, rg⟩ : CV) = cv0) = false from decide_eq_false (by simp [cv0, h3])]
          simp [go_sem, cvc, h3]
      · rw [show decide ((⟨0, 0, key, a, b, h, rg⟩ : CV) = cv0) = false from decide_eq_false (by simp [cv0, h2])]
        simp [go_sem, cvc, h2]
    · rw [show decide ((⟨0, lv, key, a, b, h, rg⟩ : CV) = cv0) = false from decide_eq_false (by simp [cv0, h1])]
      simp [go_sem, cvc, h1]
  · rw [show decide ((⟨op, lv, key, a, b, h, rg⟩ : CV) = cv0) = false from decide_eq_false (by simp [cv0, h0])]
    simp [go_sem, cvc, h0]
set_option maxHeartbeats 4000000 in
set_option maxRecDepth 100000 in
theorem neA (x : AV) (w : World) : (binOp .neq 37 (.agg (avc x).toArray) (.agg #[.int .i64 0, .int .u64 0, .int .u64 0, .int .u64 0, .int .i64 0, .int .i64 0])).run Try.prog w = .ok (.bool (!decide (x = av0))) w := by
  obtain ⟨er, ra, rb, rh, n, k⟩ := x
  by_cases h0 : er = 0
  · subst h0
    by_cases h1 : ra = 0
    · subst h1
      by_cases h2 : rb = 0
      · subst h2
        by_cases h3 : rh = 0
        · subst h3
          by_cases h4 : n = 0
          · subst h4
            by_cases h5 : k = 0
            · subst h5
              rw [show decide ((⟨0, 0, 0, 0, 0, 0⟩ : AV) = av0) = true from rfl]
              simp [go_sem, avc]
            · rw [show decide ((⟨0, 0, 0, 0, 0, k⟩ : AV) = av0) = false from decide_eq_false (by simp [av0, h5])]
              simp [go_sem, avc, h5]
          · rw [show decide ((⟨0, 0, 0, 0, n, k⟩ : AV) = av0) = false from decide_eq_false (by simp [av0, h4])]
            simp [go_sem, avc, h4]
        · rw [show decide ((⟨0, 0, 0, rh, n, k⟩ : AV) = av0) = false from decide_eq_false (by simp [av0, h3])]
          simp [go_sem, avc, h3]
      · rw [show decide ((⟨0, 0, rb, rh, n, k⟩ : AV) = av0) = false from decide_eq_false (by simp [av0, h2])]
        simp [go_sem, avc, h2]
    · rw [show decide ((⟨0, ra, rb, rh, n, k⟩ : AV) = av0) = false from decide_eq_false (by simp [av0, h1])]
      simp [go_sem, avc, h1]
  · rw [show decide ((⟨er, ra, rb, rh, n, k⟩ : AV) = av0) = false from decide_eq_false (by simp [av0, h0])]
    simp [go_sem, avc, h0]

theorem range_blk {w : World} {g : Nat} {t : TypeId} {l l' : List Value} (h : Blk w g t l.toArray) (off : Nat) (hl : (l.drop off).take l'.length = l') : w.rangeAt g off l' := fun j v hj => by
  rw [h.cell, List.getElem?_toArray]
  rw [← hl, List.getElem?_take] at hj
  split at hj
  · rwa [List.getElem?_drop] at hj
  · cases hj
set_option maxHeartbeats 4000000 in
set_option maxRecDepth 100000 in
theorem right_any (e : Ev) (w : World) : Calls Try.prog 23 #[.agg (evc e).toArray] w fun r w' => r = .returned (.bool (rightE e)) ∧ Below w.heap.size w w' := by
  have hC := eqC e.c
  have hA := eqA e.a
  have hc : ∀ w : World, Blk w w.heap.size 45 (evc e).toArray → True := fun _ _ => trivial
  obtain ⟨W0, hW0, hB, kb⟩ : ∃ W0, w.alloc (.cells (evc e).toArray 45) = W0 ∧ Blk W0 w.heap.size 45 (evc e).toArray ∧ Below w.heap.size w W0 := ⟨_, rfl, Blk.new _ _ _, bnew (brefl w) _⟩
  have c0 : W0.cell? ⟨w.heap.size, 0, none⟩ = some (.int .i64 e.th) := hB.cell 0
  have c1 : W0.cell? ⟨w.heap.size, 1, none⟩ = some (.bool e.bk) := hB.cell 1
  have r2 : W0.rangeAt w.heap.size 2 (cvc e.c) := range_blk hB 2 rfl
  have r9 : W0.rangeAt w.heap.size 9 (avc e.a) := range_blk hB 9 rfl
  have hzz := hB.lt
  by_cases h1 : e.th < 0
  · have HE : Hid (rightE e = false) := by rw [Hid, rightE, decide_eq_false (by omega)]; rfl
    go_enter Try.func23, Try.ntmps23
    go_upto_region 1 with (fail)
    go_wp2
    go_ret
    exact ⟨by rw [HE.out]; rfl, kb⟩
  · by_cases h2 : 8 ≤ e.th
    · have HE : Hid (rightE e = false) := by rw [Hid, rightE, decide_eq_false (by omega)]; rfl
      go_enter Try.func23, Try.ntmps23
      go_upto_region 1 with (fail)
      go_wp2
      go_ret
      exact ⟨by rw [HE.out]; rfl, kb⟩
    · cases hb : e.bk with
      | true =>
        have HE : Hid (rightE e = decide (e.c = cv0)) := by rw [Hid, rightE, decide_eq_true (by omega), hb]; rfl
        rw [hb] at c1
        go_enter Try.func23, Try.ntmps23
        go_upto_region 1 with (fail)
        go_wp2_with (refine wpList_load_mid (op := ⟨some 14, _, _, _, _, _⟩) rfl 34 (.tmp 13) rfl w.heap.size 2 rfl _ _ r2 Try.underlying34 rfl (by kernel_rfl) ?_)
        go_ret
        exact ⟨by rw [HE.out]; rfl, kb⟩
      | false =>
        have HE : Hid (rightE e = decide (e.a = av0)) := by rw [Hid, rightE, decide_eq_true (by omega), hb]; rfl
        rw [hb] at c1
        go_enter Try.func23, Try.ntmps23
        go_upto_region 1 with (fail)
        go_wp2_with (refine wpList_load_mid (op := ⟨some 18, _, _, _, _, _⟩) rfl 37 (.tmp 17) rfl w.heap.size 9 rfl _ _ r9 Try.underlying37 rfl (by kernel_rfl) ?_)
        go_ret
        exact ⟨by rw [HE.out]; rfl, kb⟩
end Go.Proofs.Ytkcilmnmbfbogaa
