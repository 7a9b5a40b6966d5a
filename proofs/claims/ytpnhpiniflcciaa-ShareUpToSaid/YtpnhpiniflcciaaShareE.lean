/- The law ShareOf, walked. -/
import Derived.Test.YtpnhpiniflcciaaShareD
namespace Go.Proofs.Ytpnhpiniflcciaa
set_option linter.unusedVariables false
set_option linter.unusedSimpArgs false
open Go.RowKit

set_option maxHeartbeats 2000000 in
set_option maxRecDepth 100000 in
theorem lives15 (w : World) : Calls Try.prog 13 #[] w fun e w' => e = .returned (.bool true) ∧ Below w.heap.size w w' := by
  obtain ⟨l, hl, e0, e1, e6⟩ : ∃ l : List Opr, l = [⟨0, 0, 0, 0, 0, 0, 0, 0, 0, 0, 0, 0, 0, 0, 0, 0⟩, ⟨0, 6, 1, 0, 0, 0, 0, 0, 0, 0, 0, 0, 0, 0, 0, 0⟩] ∧ (sh l 0).length = 1 ∧ (sh l 1).length = 0 ∧ (sh l 6).length = 1 := ⟨_, rfl, by decide +kernel, by decide +kernel, by decide +kernel⟩
  go_enter Try.func13, Try.ntmps13
  go_wp2_with fail
  have s0 : Sl oc (w.alloc (.cells #[.int .i64 0, .int .i64 0, .int .i64 0, .int .i64 0, .int .u64 0, .int .u64 0, .int .u64 0, .int .i64 0, .int .i64 0, .int .u64 0, .int .u64 0, .int .u64 0, .int .i64 0, .int .i64 0, .int .i64 0, .int .i64 0, .int .i64 0, .int .i64 6, .int .i64 1, .int .i64 0, .int .u64 0, .int .u64 0, .int .u64 0, .int .i64 0, .int .i64 0, .int .u64 0, .int .u64 0, .int .u64 0, .int .i64 0, .int .i64 0, .int .i64 0, .int .i64 0] 35)) (some ⟨w.heap.size, 0, none⟩) 2 2 l := by
    rw [hl]
    exact ⟨rfl, Nat.le_refl _, Rd.new w _ _ rfl, fun h => by cases h⟩
  refine (all_any s0 (by decide)).mono ?_
  rintro e w1 ⟨As, cs, rfl, hs, hb⟩
  clear hl s0
  rw [e0, e1, e6]
  go_wp2
  go_ret
  exact ⟨rfl, bnew (bnext (bnew (brefl w) _) hb) _⟩

set_option maxHeartbeats 2000000 in
set_option maxRecDepth 100000 in
theorem shareof_walk {A : Option Addr} {n c : Nat} {l : List Opr} {w : World} (h : Sl oc w A n c l) (hn : n ≤ 100) (lv pt : Int) :
    Calls Try.prog 3 #[.slice A n c, .int .i64 lv, .int .i64 pt] w fun e w' => e = .returned (.bool true) ∧ Below w.heap.size w w' := by
  go_enter Try.func3, Try.ntmps3
  go_wp2_with fail
  go_loopg [7] n (fun gk i wr => ∃ k : Nat, k + gk = n ∧ i = .int .i64 k ∧ Below w.heap.size w wr)
  case atStart => exact ⟨0, by omega, rfl, brefl w⟩
  case round =>
    obtain ⟨k, hk, rfl, hbr⟩ := hrel
    by_cases hlt : k < n
    · obtain ⟨b, o, rfl, _, hc⟩ := h.base oc_len (by decide) (by omega)
      obtain ⟨x, hx⟩ : ∃ x, l[k]? = some x := ⟨_, List.getElem?_eq_getElem (by rw [h.len]; exact hlt)⟩
      have c0 : wr.cell? ⟨b, o + k * 16, none⟩ = some (.int .i64 x.th) := keep_below (by have h0 := hc k x 0 _ hx rfl; simpa [Nat.add_assoc] using h0) hbr
      have c1 : wr.cell? ⟨b, o + k * 16 + 1, none⟩ = some (.int .i64 x.op) := keep_below (by have h0 := hc k x 1 _ hx rfl; simpa [Nat.add_assoc] using h0) hbr
      have c2 : wr.cell? ⟨b, o + k * 16 + 2, none⟩ = some (.int .i64 x.lv) := keep_below (by have h0 := hc k x 2 _ hx rfl; simpa [Nat.add_assoc] using h0) hbr
      have c3 : wr.cell? ⟨b, o + k * 16 + 3, none⟩ = some (.int .i64 x.key) := keep_below (by have h0 := hc k x 3 _ hx rfl; simpa [Nat.add_assoc] using h0) hbr
      have c4 : wr.cell? ⟨b, o + k * 16 + 4, none⟩ = some (.int .u64 x.a) := keep_below (by have h0 := hc k x 4 _ hx rfl; simpa [Nat.add_assoc] using h0) hbr
      have c5 : wr.cell? ⟨b, o + k * 16 + 5, none⟩ = some (.int .u64 x.b) := keep_below (by have h0 := hc k x 5 _ hx rfl; simpa [Nat.add_assoc] using h0) hbr
      have c6 : wr.cell? ⟨b, o + k * 16 + 6, none⟩ = some (.int .u64 x.h) := keep_below (by have h0 := hc k x 6 _ hx rfl; simpa [Nat.add_assoc] using h0) hbr
      have c7 : wr.cell? ⟨b, o + k * 16 + 7, none⟩ = some (.int .i64 x.rg) := keep_below (by have h0 := hc k x 7 _ hx rfl; simpa [Nat.add_assoc] using h0) hbr
      have c8 : wr.cell? ⟨b, o + k * 16 + 8, none⟩ = some (.int .i64 x.er) := keep_below (by have h0 := hc k x 8 _ hx rfl; simpa [Nat.add_assoc] using h0) hbr
      have c9 : wr.cell? ⟨b, o + k * 16 + 9, none⟩ = some (.int .u64 x.ra) := keep_below (by have h0 := hc k x 9 _ hx rfl; simpa [Nat.add_assoc] using h0) hbr
      have c10 : wr.cell? ⟨b, o + k * 16 + 10, none⟩ = some (.int .u64 x.rb) := keep_below (by have h0 := hc k x 10 _ hx rfl; simpa [Nat.add_assoc] using h0) hbr
      have c11 : wr.cell? ⟨b, o + k * 16 + 11, none⟩ = some (.int .u64 x.rh) := keep_below (by have h0 := hc k x 11 _ hx rfl; simpa [Nat.add_assoc] using h0) hbr
      have c12 : wr.cell? ⟨b, o + k * 16 + 12, none⟩ = some (.int .i64 x.n) := keep_below (by have h0 := hc k x 12 _ hx rfl; simpa [Nat.add_assoc] using h0) hbr
      have c13 : wr.cell? ⟨b, o + k * 16 + 13, none⟩ = some (.int .i64 x.k) := keep_below (by have h0 := hc k x 13 _ hx rfl; simpa [Nat.add_assoc] using h0) hbr
      have c14 : wr.cell? ⟨b, o + k * 16 + 14, none⟩ = some (.int .i64 x.fr) := keep_below (by have h0 := hc k x 14 _ hx rfl; simpa [Nat.add_assoc] using h0) hbr
      have c15 : wr.cell? ⟨b, o + k * 16 + 15, none⟩ = some (.int .i64 x.fin) := keep_below (by have h0 := hc k x 15 _ hx rfl; simpa [Nat.add_assoc] using h0) hbr
      have b0 : (0 : Int) ≤ (k : Int) := by omega
      have b1 : (k : Int) < (n : Int) := by omega
      have hcl := which_any x
      have hcr := rwhich_any x
      have hzb : b < wr.heap.size := block_lt_of_cell c0
      generalize whichN x = N at *
      generalize whichOk x = ok at *
      clear hc hx h
      cases ok <;>
      · go_wp2_with (first | (go_at_call 14; refine (hcl _).mono ?_; rintro e w1 ⟨rfl, hb1⟩; obtain ⟨hc1, hf1, hz1⟩ := bcell hb1) | (go_at_call 15; refine (hcr _).mono ?_; rintro e w2 ⟨rfl, hb2⟩))
        go_roundg (gk - 1)
        case measure => omega
        case rel => exact ⟨k + 1, by omega, by go_num, bnext (bnext hbr hb1) hb2⟩
    · obtain rfl : k = n := by omega
      have hge : ¬ ((k : Int) < (k : Int)) := by omega
      have hr := h.below hbr
      clear h
      go_wp2_with (first | (go_at_call 17; refine (of_any hr (by omega) lv pt).mono ?_; rintro e w1 ⟨A1, c1, rfl, own1, hb1⟩) | (go_at_call 18; refine (rof_any (hr.below hb1) (by omega) lv pt).mono ?_; rintro e w2 ⟨A2, c2, rfl, own2, hb2⟩) | (go_at_call 16; refine (opersame_any ((Sl.of_own oc_len (by decide) own1).below hb2) (Sl.of_own oc_len (by decide) own2) (by have := List.length_filter_le (inShare lv pt) l; have := hr.len; omega)).mono ?_; rintro e w3 ⟨rfl, d, rfl⟩) | (go_at_call 13; refine (lives15 _).mono ?_; rintro e w4 ⟨rfl, hb4⟩))
      go_ret
      exact ⟨rfl, bnext (below_drewN (bnext (bnext hbr hb1) hb2) d) hb4⟩

theorem shareof_any {A : Option Addr} {n c : Nat} {l : List Opr} {w : World} (h : Sl oc w A n c l) (h1 : c ≤ maxLen) (lv pt : Int) :
    Calls Try.prog 3 #[.slice A n c, .int .i64 lv, .int .i64 pt] w fun e w' => e = .returned (.bool true) ∧ Below w.heap.size w w' := by
  unfold maxLen at h1
  have e1 := h.cap
  by_cases hn : n ≤ 100
  · exact shareof_walk h hn lv pt
  · have t1 : (100 : Int) < (n : Int) := by omega
    have t2 : n ≤ 9223372036854775807 := by omega
    clear h h1
    go_enter Try.func3, Try.ntmps3
    go_wp2_with (go_at_call 13; refine (lives15 _).mono ?_; rintro e w5 ⟨rfl, hb5⟩)
    go_ret
    exact ⟨rfl, hb5⟩
end Go.Proofs.Ytpnhpiniflcciaa
