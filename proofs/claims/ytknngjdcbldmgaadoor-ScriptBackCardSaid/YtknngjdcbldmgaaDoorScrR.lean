/- Numbers, byte by byte, by the document. -/
import Derived.Test.YtknngjdcbldmgaaDoorScrQ
namespace Go.Proofs.YtknngjdcbldmgaaDoor
set_option linter.unusedVariables false
set_option linter.unusedSimpArgs false
open Go.RowKit

set_option maxHeartbeats 4000000 in
set_option maxRecDepth 100000 in
theorem num_any {x : Int} (hx : U64 x) {sz : Nat} (hs : sz ≤ 8) (w : World) : Calls Tryd.prog 35 #[.int .u64 x, .int .i64 sz] w fun e w' => ∃ A c, e = .returned (.slice A sz c) ∧ w'.ownsRow w.heap.size 5 1 (.slice A sz c) sz ((num sz x).map b8) ∧ Below w.heap.size w w' := by
  obtain ⟨i1, E2⟩ := elem_b
  go_enter Tryd.func35, Tryd.ntmps35
  go_wp2_with fail
  go_loopg [0, 5, 6] sz (fun gk s0 s5 i wr => ∃ (k : Nat) (A : Option Addr) (c' : Nat), k + gk = sz ∧ i = .int .i64 k ∧ s0 = .int .u64 (x / 256 ^ k) ∧ s5 = .slice A k c' ∧ wr.ownsRow w.heap.size 5 1 (.slice A k c') k ((num k x).map b8) ∧ Below w.heap.size w wr)
  case atStart => exact ⟨0, none, 0, by omega, rfl, by simp, rfl, World.ownsRow_nil _ _ _ _, brefl w⟩
  case round =>
    obtain ⟨k, A, c', hk, rfl, rfl, rfl, own, hb⟩ := hrel
    by_cases hlt : k < sz
    · have k0 : (0 : Int) ≤ (k : Int) := by omega
      have k1 : (k : Int) < (sz : Int) := by omega
      have HQ : Hid (x / 256 ^ (k + 1) = x / 256 ^ k / 256) := by rw [Hid, Int.pow_succ, ← Int.ediv_ediv_of_nonneg (Int.le_of_lt (Int.pow_pos (by decide)))]
      have HN : Hid ((num (k + 1) x).map b8 = (num k x).map b8 ++ [b8 (x / 256 ^ k % 256)]) := by rw [Hid, num_succ, List.map_append]; rfl
      have hy0 : 0 ≤ x / 256 ^ k := Int.ediv_nonneg hx.1 (Int.le_of_lt (Int.pow_pos (by decide)))
      have hy1 : x / 256 ^ k < 18446744073709551616 := by
        have h1 := Int.ediv_le_self (256 ^ k) hx.1
        have h2 := hx.2
        omega
      generalize x / 256 ^ k = y at *
      have hwb : IntKind.u8.wrap (y % 256) = y % 256 := IntWalk.u8_in _ (by omega)
      have tok1 : True := trivial
      go_wp2_with (have _t := tok1; at_builtin; refine wpList_onto (o := ⟨some 17, _, _, _, _, _⟩) (W0 := w) (ys := [b8 (y % 256)]) (m := 1) E2 rfl (.tmp 12) (.tmp 16) rfl (bnew hb _) rfl (own.alloc _) rfl (by simp) (Rd.new _ _ _ rfl) (by simp [Value.oneCell', b8]) (by unfold maxLen; omega) (by omega) ?_; intro A8 cA8 wA8 own8 hb8 hg8; clear tok1 _t)
      go_roundg (gk - 1)
      case measure => omega
      case rel => exact ⟨k + 1, A8, cA8, by omega, by go_num, by rw [HQ.out], rfl, by rw [HN.out]; exact own8, hb8⟩
    · have t9 : decide (k < sz) = false := decide_eq_false (by omega)
      obtain rfl : k = sz := by omega
      go_wp2_with fail
      go_ret
      exact ⟨A, c', rfl, own, hb⟩
set_option maxHeartbeats 4000000 in
set_option maxRecDepth 100000 in
theorem rbits_any {n : Int} (hn : I64 n) (w : World) : Calls Tryd.prog 36 #[.int .i64 n] w fun e w' => e = .returned (.int .u64 (IntKind.u64.wrap n)) ∧ w = w' := by
  have HN := Lib.hid hn
  have hn' := hn
  unfold I64 at hn'
  obtain ⟨h1, h2⟩ := hn'
  have HW : Hid (IntKind.u64.wrap n = n % 18446744073709551616) := by rw [Hid, IntKind.wrap_u64]
  clear hn
  by_cases h : 0 ≤ n
  · have HE : Hid (n % 18446744073709551616 = n) := by rw [Hid]; omega
    go_enter Tryd.func36, Tryd.ntmps36
    go_wp2
    go_ret
    exact ⟨ret_int (by rw [HW.out, HE.out]), rfl⟩
  · have h' : decide (0 ≤ n) = false := decide_eq_false h
    have HE : Hid (n % 18446744073709551616 = n + 18446744073709551616) := by rw [Hid]; omega
    go_enter Tryd.func36, Tryd.ntmps36
    go_wp2
    go_ret
    exact ⟨ret_int (by rw [HW.out, HE.out]; omega), rfl⟩
end Go.Proofs.YtknngjdcbldmgaaDoor
