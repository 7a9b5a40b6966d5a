/- A reader of numbers. -/
import Derived.Test.YtknngjdcbldmgaaDoorScrV
namespace Go.Proofs.YtknngjdcbldmgaaDoor
set_option linter.unusedVariables false
set_option linter.unusedSimpArgs false
open Go.RowKit

set_option maxHeartbeats 4000000 in
set_option maxRecDepth 100000 in
theorem number_end {w : World} {B p : Nat} (h : RB w B p []) : Calls Tryd.prog 70 #[.pointer (some ⟨p, 0, none⟩)] w fun e w' => Pan 4 e ∧ w = w' := by
  have ht := take_end (sz := 1) h (by simp) (by omega)
  go_enter Tryd.func70, Tryd.ntmps70
  go_wp2_with (go_at_call 71; refine ht.mono ?_; rintro e w1 ⟨rfl, rfl⟩)
  exact ⟨rfl, rfl, rfl⟩
set_option maxHeartbeats 4000000 in
set_option maxRecDepth 100000 in
theorem number_some {w : World} {B p : Nat} {x : Int} {t : List Int} (h : RB w B p (x :: t)) (hl : t.length < 1000000) : Calls Tryd.prog 70 #[.pointer (some ⟨p, 0, none⟩)] w fun e w' => e = .returned (.int .i64 x) ∧ RB w' B p t ∧ Keeps (fun b => b = p) w w' := by
  have ht := take_some (sz := 1) h (by simp) (by omega) (by omega) (by simp; omega)
  have hx : 0 ≤ x ∧ x < 256 := by
    obtain ⟨_, _, _, _, _, _, hb, _⟩ := h
    exact hb x (by simp)
  obtain ⟨hx1, hx2⟩ := hx
  have e1 : numR (List.take 1 (x :: t)) = x := by simp [numR]
  have e2 : List.drop 1 (x :: t) = t := rfl
  rw [e1, e2] at ht
  have HT := Lib.hid ht
  clear ht h e1 e2
  go_enter Tryd.func70, Tryd.ntmps70
  go_wp2_with (go_at_call 71; refine HT.out.mono ?_; rintro e w1 ⟨rfl, hr, hk⟩)
  go_ret
  exact ⟨rfl, hr, hk⟩
set_option maxHeartbeats 4000000 in
set_option maxRecDepth 100000 in
theorem fnum_any {n : Int} (hn : U64 n) (w : World) : Calls Tryd.prog 73 #[.int .u64 n] w fun e w' => e = .returned (.int .i64 (wrap64 n)) ∧ w = w' := by
  go_enter Tryd.func73, Tryd.ntmps73
  go_wp2
  go_ret
  exact ⟨rfl, rfl⟩
set_option maxHeartbeats 4000000 in
set_option maxRecDepth 100000 in
theorem rfnum_any {n : Int} (hn : U64 n) (w : World) : Calls Tryd.prog 40 #[.int .u64 n] w fun e w' => e = .returned (.int .i64 (wrap64 n)) ∧ w = w' := by
  obtain ⟨h1, h2⟩ := hn
  by_cases h : n < 9223372036854775808
  · have HW : Hid (wrap64 n = n) := by unfold Hid wrap64; omega
    go_enter Tryd.func40, Tryd.ntmps40
    go_wp2
    go_ret
    exact ⟨ret_int (by rw [HW.out]), rfl⟩
  · have h' : decide (n < 9223372036854775808) = false := decide_eq_false h
    have HW : Hid (wrap64 n = n - 18446744073709551616) := by unfold Hid wrap64; omega
    go_enter Tryd.func40, Tryd.ntmps40
    go_wp2
    go_ret
    exact ⟨ret_int (by rw [HW.out]; omega), rfl⟩
set_option maxHeartbeats 4000000 in
set_option maxRecDepth 100000 in
theorem at_any {w : World} {A : Option Addr} {n c : Nat} {l : List Int} {i sz : Nat} (hS : Sl b8l w A n c l) (hb : ∀ x, x ∈ l → 0 ≤ x ∧ x < 256) (hi : i + sz ≤ n) (h0 : 0 < sz) (hs : sz ≤ 8) (hn : n ≤ 1000000) : Calls Tryd.prog 39 #[.slice A n c, .int .i64 i, .int .i64 sz] w fun e w' => e = .returned (.int .u64 (numR ((l.drop i).take sz))) ∧ w = w' := by
  obtain ⟨b, o', rfl, _, hce⟩ := hS.base b8l_len (by decide) (by omega)
  have HL := Lib.hid hS.len
  have HC := Lib.hid hce
  have HB := Lib.hid hb
  clear hS hce hb
  go_enter Tryd.func39, Tryd.ntmps39
  go_wp2_with fail
  go_loopg [7, 8] sz (fun gk s7 i8 wr => ∃ (k : Nat) (nk : Int), k + gk = sz ∧ i8 = .int .i64 ((gk : Int) - 1) ∧ s7 = .int .u64 nk ∧ w = wr ∧ Hid (numR (((l.drop i).take sz).drop gk) = nk))
  case atStart => exact ⟨0, 0, by omega, rfl, rfl, rfl, by rw [Hid, List.drop_eq_nil_of_le (by simp; omega)]; rfl⟩
  case round =>
    obtain ⟨k, nk, hk, rfl, rfl, rfl, hnk⟩ := hrel
    by_cases hg : gk = 0
    · subst hg
      go_wp2_with fail
      go_ret
      exact ⟨by rw [← hnk.out]; rfl, rfl⟩
    · obtain ⟨g, rfl⟩ : ∃ g, gk = g + 1 := ⟨gk - 1, by omega⟩
      clear hg
      obtain ⟨y, hy⟩ : ∃ y, l[i + g]? = some y := ⟨l[i + g]'(by have := HL.out; omega), List.getElem?_eq_getElem (i := i + g) _⟩
      have cy : w.cell? ⟨b, o' + (i + g), none⟩ = some (.int .u8 y) := by have h0 := HC.out (i + g) y 0 _ hy rfl; simpa [b8] using h0
      obtain ⟨hy1, hy2⟩ := HB.out y (List.mem_of_getElem? hy)
      have hT : numR (((l.drop i).take sz).drop g) = y + 256 * nk := by
        have e : ((l.drop i).take sz).drop g = y :: ((l.drop i).take sz).drop (g + 1) := by
          rw [List.drop_eq_getElem_cons (by simp; have := HL.out; omega)]
          congr 1
          rw [List.getElem_take, List.getElem_drop]
          have := List.getElem?_eq_some_iff.1 hy
          exact this.2
        rw [e, ← hnk.out]
        rfl
      have HT := Lib.hid hT
      have hnb : 0 ≤ nk ∧ nk < 72057594037927936 := by
        have h1 := numR_lt (((l.drop i).take sz).drop (g + 1)) (fun x hx => HB.out x (List.mem_of_mem_drop (List.mem_of_mem_take (List.mem_of_mem_drop hx))))
        rw [hnk.out] at h1
        refine ⟨h1.1, Int.lt_of_lt_of_le h1.2 ?_⟩
        have h2 : (((l.drop i).take sz).drop (g + 1)).length ≤ 7 := by rw [List.length_drop, List.length_take]; omega
        generalize (((l.drop i).take sz).drop (g + 1)).length = q at h2
        rcases (by omega : q = 0 ∨ q = 1 ∨ q = 2 ∨ q = 3 ∨ q = 4 ∨ q = 5 ∨ q = 6 ∨ q = 7) with rfl | rfl | rfl | rfl | rfl | rfl | rfl | rfl <;> decide
      obtain ⟨hb1, hb2⟩ := hnb
      have g0 : (0 : Int) ≤ ((g + 1 : Nat) : Int) - 1 := by omega
      have e8 : ((g + 1 : Nat) : Int) - 1 = (g : Int) := by omega
      have a0 : (0 : Int) ≤ (i : Int) + (g : Int) := by omega
      have a1 : (i : Int) + (g : Int) < (n : Int) := by omega
      have a2 : ((i : Int) + (g : Int)).toNat = i + g := by omega
      clear hT hy hnk
      rw [e8]
      go_wp2_with fail
      go_roundg g
      case measure => omega
      case rel => exact ⟨k + 1, 256 * nk + y, by omega, by go_num, rfl, rfl, by rw [Hid, HT.out]; omega⟩
end Go.Proofs.YtknngjdcbldmgaaDoor
