/- The reference's At: where a place lies in a list. -/
import Derived.Test.YtpnhpiniflcciaaPlanG
namespace Go.Proofs.Ytpnhpiniflcciaa
set_option linter.unusedVariables false
set_option linter.unusedSimpArgs false
open Go.RowKit

def plc (x : Pl) : List Value := [.int .i64 x.m, .int .i64 x.k, .int .i64 x.i, .int .i64 x.j]
theorem plc_len (x : Pl) : (plc x).length = 4 := rfl
/-- r is where x first lies in l; -1: nowhere. -/
def IsAt (l : List Pl) (x : Pl) (r : Int) : Prop := (∃ q : Nat, l[q]? = some x ∧ (∀ j, j < q → l[j]? ≠ some x) ∧ r = q) ∨ ((∀ j : Nat, l[j]? ≠ some x) ∧ r = -1)
theorem eq_pl (x y : Pl) (w : World) : (binOp .eql 66 (.agg #[.int .i64 y.m, .int .i64 y.k, .int .i64 y.i, .int .i64 y.j]) (.agg #[.int .i64 x.m, .int .i64 x.k, .int .i64 x.i, .int .i64 x.j])).run Try.prog w = .ok (.bool (decide (y = x))) w := by
  obtain ⟨m, k, i, j⟩ := x
  obtain ⟨m', k', i', j'⟩ := y
  simp [go_sem, eqElems, Pl.mk.injEq]
  grind

set_option maxHeartbeats 2000000 in
set_option maxRecDepth 100000 in
theorem rat_any {A : Option Addr} {n c : Nat} {l : List Pl} {w : World} (h : Sl plc w A n c l) (hn : n ≤ 1000000) (x : Pl) (r : Int) (hr : IsAt l x r) :
    Calls Try.prog 42 #[.slice A n c, .agg #[.int .i64 x.m, .int .i64 x.k, .int .i64 x.i, .int .i64 x.j]] w fun e w' => e = .returned (.int .i64 r) ∧ Below w.heap.size w w' := by
  go_enter Try.func42, Try.ntmps42
  go_wp2_with fail
  obtain ⟨W0, hW0, x0, x1, x2, x3, kb⟩ : ∃ W0, w.alloc (.cells #[.int .i64 x.m, .int .i64 x.k, .int .i64 x.i, .int .i64 x.j] 66) = W0 ∧ W0.cell? ⟨w.heap.size, 0, none⟩ = some (.int .i64 x.m) ∧ W0.cell? ⟨w.heap.size, 1, none⟩ = some (.int .i64 x.k) ∧ W0.cell? ⟨w.heap.size, 2, none⟩ = some (.int .i64 x.i) ∧ W0.cell? ⟨w.heap.size, 3, none⟩ = some (.int .i64 x.j) ∧ Below w.heap.size w W0 :=
    ⟨_, rfl, by go_simp, by go_simp, by go_simp, by go_simp, bnew (brefl w) _⟩
  rw [hW0]
  clear hW0
  have h0 := h.below kb
  clear h
  go_loopg [5] n (fun gk i wr => ∃ q : Nat, q + gk = n ∧ i = .int .i64 q ∧ Hid (∀ j, j < q → l[j]? ≠ some x) ∧ ∃ d, wr = W0.drewN d)
  case atStart => exact ⟨0, by omega, rfl, fun j hj => absurd hj (by omega), 0, rfl⟩
  case round =>
    obtain ⟨q, hq, rfl, hR, d, rfl⟩ := hrel
    have HR : Hid (IsAt l x r) := hr
    clear hr
    by_cases hlt : q < n
    · obtain ⟨b, o, rfl, hbb, hc⟩ := h0.base plc_len (by decide) (by omega)
      obtain ⟨y, hy⟩ : ∃ y, l[q]? = some y := ⟨_, List.getElem?_eq_getElem (by rw [h0.len]; exact hlt)⟩
      have c0 : W0.cell? ⟨b, o + q * 4, none⟩ = some (.int .i64 y.m) := hc q y 0 _ hy rfl
      have c1 : W0.cell? ⟨b, o + q * 4 + 1, none⟩ = some (.int .i64 y.k) := by rw [Nat.add_assoc]; exact hc q y 1 _ hy rfl
      have c2 : W0.cell? ⟨b, o + q * 4 + 2, none⟩ = some (.int .i64 y.i) := by rw [Nat.add_assoc]; exact hc q y 2 _ hy rfl
      have c3 : W0.cell? ⟨b, o + q * 4 + 3, none⟩ = some (.int .i64 y.j) := by rw [Nat.add_assoc]; exact hc q y 3 _ hy rfl
      have b0 : (0 : Int) ≤ (q : Int) := by omega
      have b1 : (q : Int) < (n : Int) := by omega
      have hzb := block_lt_of_cell c0
      have hzx := block_lt_of_cell x0
      have heq := eq_pl x y
      clear hc
      by_cases g : y = x
      · have hE : Hid (r = q) := by
          rcases HR.out with ⟨q', e1, e2, e3⟩ | ⟨e1, _⟩
          · subst g
            rw [Hid, e3]
            rcases (by omega : q < q' ∨ q' < q ∨ q' = q) with u | u | u
            · exact absurd hy (e2 q u)
            · exact absurd e1 (hR.out q' u)
            · rw [u]
          · subst g
            exact absurd hy (e1 q)
        rw [decide_eq_true g] at heq
        clear g hy h0 HR
        go_wp2_with fail
        go_quiet (fail)
        go_wp2
        go_ret
        exact ⟨by rw [hE.out]; rfl, below_drewN (below_drewN kb _) _⟩
      · have hR2 : Hid (∀ j, j < q + 1 → l[j]? ≠ some x) := fun j hj => by
          by_cases u : j = q
          · subst u
            rw [hy]
            exact fun e => g (Option.some.inj e)
          · exact hR.out j (by omega)
        rw [decide_eq_false g] at heq
        clear g hy
        go_wp2_with fail
        go_quiet (fail)
        go_wp2
        go_roundg (gk - 1)
        case measure => omega
        case rel => exact ⟨q + 1, by omega, by go_num, hR2, _, by first | rfl | exact World.drewN_drewN _ _ _⟩
    · obtain rfl : q = n := by omega
      have hE : Hid (r = -1) := by
        rcases HR.out with ⟨q', e1, e2, e3⟩ | ⟨_, e2⟩
        · have hl := h0.len
          have : q' < l.length := (List.getElem?_eq_some_iff.1 e1).1
          exact absurd e1 (hR.out q' (by omega))
        · exact e2
      clear HR h0
      go_wp2
      go_ret
      exact ⟨by rw [hE.out]; rfl, below_drewN kb _⟩
end Go.Proofs.Ytpnhpiniflcciaa
