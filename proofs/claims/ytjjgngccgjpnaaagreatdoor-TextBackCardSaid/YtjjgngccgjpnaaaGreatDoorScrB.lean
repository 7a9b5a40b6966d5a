/- Calls, and what stands in a script: whether they may be. -/
import Derived.Test.YtjjgngccgjpnaaaGreatDoorScrA
namespace Go.Proofs.YtjjgngccgjpnaaaGreatDoor
set_option linter.unusedVariables false
set_option linter.unusedSimpArgs false
open Go.RowKit

def okC (x : CV) : Bool := decide (0 ≤ x.op ∧ x.op ≤ 12 ∧ 0 ≤ x.lv ∧ x.lv ≤ 3 ∧ 0 ≤ x.rg ∧ x.rg ≤ 40)
set_option maxHeartbeats 4000000 in
set_option maxRecDepth 100000 in
theorem cin_any (n lo hi : Int) (w : World) : Calls Tryz.prog 82 #[.int .i64 n, .int .i64 lo, .int .i64 hi] w fun e w' => e = .returned (.bool (inB n lo hi)) ∧ w = w' := by
  by_cases h1 : lo ≤ n
  · by_cases h2 : n ≤ hi
    · have HR : Hid (inB n lo hi = true) := in_yes h1 h2
      go_enter Tryz.func82, Tryz.ntmps82
      go_wp2
      go_ret
      exact ⟨by rw [HR.out]; rfl, rfl⟩
    · have HR : Hid (inB n lo hi = false) := in_no (fun q => h2 q.2)
      have t2 : decide (n ≤ hi) = false := decide_eq_false h2
      clear h2
      go_enter Tryz.func82, Tryz.ntmps82
      go_wp2
      go_ret
      exact ⟨by rw [HR.out]; rfl, rfl⟩
  · have HR : Hid (inB n lo hi = false) := in_no (fun q => h1 q.1)
    have t1 : decide (lo ≤ n) = false := decide_eq_false h1
    clear h1
    go_enter Tryz.func82, Tryz.ntmps82
    go_wp2
    go_ret
    exact ⟨by rw [HR.out]; rfl, rfl⟩
theorem okC_in (x : CV) : okC x = (inB x.op 0 12 && inB x.lv 0 3 && inB x.rg 0 40) := by
  unfold okC inB
  rw [← Bool.decide_and, ← Bool.decide_and]
  congr 1
  apply propext
  omega
set_option maxHeartbeats 4000000 in
set_option maxRecDepth 100000 in
theorem cmay_any (x : CV) (w : World) : Calls Tryz.prog 95 #[.agg (cvc x).toArray] w fun e w' => e = .returned (.bool (okC x)) ∧ Below w.heap.size w w' := by
  obtain ⟨W0, hW0, hB, kb⟩ : ∃ W0, w.alloc (.cells (cvc x).toArray 51) = W0 ∧ Blk W0 w.heap.size 51 (cvc x).toArray ∧ Below w.heap.size w W0 := ⟨_, rfl, Blk.new _ _ _, bnew (brefl w) _⟩
  have c0 : W0.cell? ⟨w.heap.size, 0, none⟩ = some (.int .i64 x.op) := hB.cell 0
  have c1 : W0.cell? ⟨w.heap.size, 1, none⟩ = some (.int .i64 x.lv) := hB.cell 1
  have c6 : W0.cell? ⟨w.heap.size, 6, none⟩ = some (.int .i64 x.rg) := hB.cell 6
  have hz := hB.lt
  have a1 := fun W => cin_any x.op 0 12 W
  have a2 := fun W => cin_any x.lv 0 3 W
  have a3 := fun W => cin_any x.rg 0 40 W
  rw [okC_in]
  clear hB
  generalize cvc x = cs at *
  generalize inB x.op 0 12 = b1 at *
  generalize inB x.lv 0 3 = b2 at *
  generalize inB x.rg 0 40 = b3 at *
  cases b1 with
  | false =>
    go_enter Tryz.func95, Tryz.ntmps95
    go_upto_region 1 with (fail)
    go_wp2_with (go_at_call 82; refine (a1 _).mono ?_; rintro e w1 ⟨rfl, rfl⟩)
    go_ret
    exact ⟨rfl, kb⟩
  | true =>
    cases b2 with
    | false =>
      go_enter Tryz.func95, Tryz.ntmps95
      have tok1 : True := trivial
      go_upto_region 1 with (fail)
      go_wp2_with (first | (have _t := tok1; go_at_call 82; refine (a1 _).mono ?_; rintro e w1 ⟨rfl, rfl⟩; clear tok1 _t) | (go_at_call 82; refine (a2 _).mono ?_; rintro e w1 ⟨rfl, rfl⟩))
      go_ret
      exact ⟨rfl, kb⟩
    | true =>
      go_enter Tryz.func95, Tryz.ntmps95
      have tok1 : True := trivial
      have tok2 : True := trivial
      go_upto_region 1 with (fail)
      go_wp2_with (first | (have _t := tok1; go_at_call 82; refine (a1 _).mono ?_; rintro e w1 ⟨rfl, rfl⟩; clear tok1 _t) | (have _t := tok2; go_at_call 82; refine (a2 _).mono ?_; rintro e w1 ⟨rfl, rfl⟩; clear tok2 _t) | (go_at_call 82; refine (a3 _).mono ?_; rintro e w1 ⟨rfl, rfl⟩))
      go_ret
      exact ⟨rfl, kb⟩
set_option maxHeartbeats 4000000 in
set_option maxRecDepth 100000 in
theorem rcmay_any (x : CV) (w : World) : Calls Tryz.prog 43 #[.agg (cvc x).toArray] w fun e w' => e = .returned (.bool (okC x)) ∧ Below w.heap.size w w' := by
  obtain ⟨W0, hW0, hB, kb⟩ : ∃ W0, w.alloc (.cells (cvc x).toArray 51) = W0 ∧ Blk W0 w.heap.size 51 (cvc x).toArray ∧ Below w.heap.size w W0 := ⟨_, rfl, Blk.new _ _ _, bnew (brefl w) _⟩
  have c0 : W0.cell? ⟨w.heap.size, 0, none⟩ = some (.int .i64 x.op) := hB.cell 0
  have c1 : W0.cell? ⟨w.heap.size, 1, none⟩ = some (.int .i64 x.lv) := hB.cell 1
  have c6 : W0.cell? ⟨w.heap.size, 6, none⟩ = some (.int .i64 x.rg) := hB.cell 6
  have hz := hB.lt
  clear hB
  generalize cvc x = cs at *
  by_cases h1 : 0 ≤ x.op
  · skip
    by_cases h2 : x.op ≤ 12
    · skip
      by_cases h3 : 0 ≤ x.lv
      · skip
        by_cases h4 : x.lv ≤ 3
        · skip
          by_cases h5 : 0 ≤ x.rg
          · skip
            by_cases h6 : x.rg ≤ 40
            · skip
              have HR : Hid (okC x = true) := decide_eq_true (by omega)
              go_enter Tryz.func43, Tryz.ntmps43
              go_upto_region 1 with (fail)
              go_wp2_with fail
              go_ret
              exact ⟨by rw [HR.out]; rfl, kb⟩
            · have t5 : decide (x.rg ≤ 40) = false := decide_eq_false h6
              have HR : Hid (okC x = false) := decide_eq_false (by omega)
              go_enter Tryz.func43, Tryz.ntmps43
              go_upto_region 1 with (fail)
              go_wp2_with fail
              go_ret
              exact ⟨by rw [HR.out]; rfl, kb⟩
          · have t4 : decide (0 ≤ x.rg) = false := decide_eq_false h5
            have HR : Hid (okC x = false) := decide_eq_false (by omega)
            go_enter Tryz.func43, Tryz.ntmps43
            go_upto_region 1 with (fail)
            go_wp2_with fail
            go_ret
            exact ⟨by rw [HR.out]; rfl, kb⟩
        · have t3 : decide (x.lv ≤ 3) = false := decide_eq_false h4
          have HR : Hid (okC x = false) := decide_eq_false (by omega)
          go_enter Tryz.func43, Tryz.ntmps43
          go_upto_region 1 with (fail)
          go_wp2_with fail
          go_ret
          exact ⟨by rw [HR.out]; rfl, kb⟩
      · have t2 : decide (0 ≤ x.lv) = false := decide_eq_false h3
        have HR : Hid (okC x = false) := decide_eq_false (by omega)
        go_enter Tryz.func43, Tryz.ntmps43
        go_upto_region 1 with (fail)
        go_wp2_with fail
        go_ret
        exact ⟨by rw [HR.out]; rfl, kb⟩
    · have t1 : decide (x.op ≤ 12) = false := decide_eq_false h2
      have HR : Hid (okC x = false) := decide_eq_false (by omega)
      go_enter Tryz.func43, Tryz.ntmps43
      go_upto_region 1 with (fail)
      go_wp2_with fail
      go_ret
      exact ⟨by rw [HR.out]; rfl, kb⟩
  · have t0 : decide (0 ≤ x.op) = false := decide_eq_false h1
    have HR : Hid (okC x = false) := decide_eq_false (by omega)
    go_enter Tryz.func43, Tryz.ntmps43
    go_upto_region 1 with (fail)
    go_wp2_with fail
    go_ret
    exact ⟨by rw [HR.out]; rfl, kb⟩

set_option maxHeartbeats 4000000 in
set_option maxRecDepth 100000 in
theorem wr1_any (x : CV) (w : World) : Calls Tryz.prog 94 #[.agg (cvc x).toArray] w fun e w' => e = .returned (.bool (!okC x)) ∧ Below w.heap.size w w' := by
  obtain ⟨W0, hW0, hB, kb⟩ : ∃ W0, w.alloc (.cells (cvc x).toArray 51) = W0 ∧ Blk W0 w.heap.size 51 (cvc x).toArray ∧ Below w.heap.size w W0 := ⟨_, rfl, Blk.new _ _ _, bnew (brefl w) _⟩
  have hm := fun W => cmay_any x W
  have hi := info_cvc x
  generalize cvc x = cs at *
  generalize okC x = ok at *
  go_enter Tryz.func94, Tryz.ntmps94
  go_upto_region 1 with (fail)
  go_wp2_with (first | (refine wpList_load_row (o := ⟨some 3, _, _, _, _, _⟩) rfl 51 (.tmp 1) rfl w.heap.size rfl 51 _ _ _ hB Tryz.underlying51 rfl hi ?_) | (go_at_call 95; refine (hm _).mono ?_; rintro e w1 ⟨rfl, hb1⟩))
  go_ret
  exact ⟨rfl, bnext kb hb1⟩

/-- An index, or none: whether any is as asked. -/
def anyCR {α : Type} (w : World) (l : List α) (p : α → Bool) (e : Ending) (w' : World) : Prop := ∃ r : Int, e = .returned (.int .i64 r) ∧ decide (0 ≤ r) = l.any p ∧ Below w.heap.size w w'
set_option maxHeartbeats 4000000 in
set_option maxRecDepth 100000 in
theorem anyC_idx {w : World} {A : Option Addr} {n c : Nat} {l : List CV} {p : CV → Bool}  (h : Sl cvc w A n c l) (hn : n ≤ 9223372036854775807)
    (hp : ∀ (x : CV) (W : World), Below w.heap.size w W → Calls Tryz.prog 94 #[.agg (cvc x).toArray] W fun e w' => e = .returned (.bool (p x)) ∧ Below W.heap.size W w') :
    Calls Tryz.prog 127 #[.slice A n c, .func (.func 94) #[] #[]] w (anyCR w l p) := by
  have HP := Lib.hid hp
  have hlen := h.len
  clear hp
  go_enter Tryz.func127, Tryz.ntmps127
  go_wp2_with fail
  go_loopg [8] n (fun gk i wr => ∃ k : Nat, k + gk = n ∧ i = .int .i64 k ∧ Hid ((l.take k).any p = false) ∧ Below w.heap.size w wr)
  case atStart => exact ⟨0, by omega, rfl, rfl, brefl w⟩
  case round =>
    obtain ⟨k, hk, rfl, hall, kb⟩ := hrel
    by_cases hlt : k < n
    · obtain ⟨b, o', rfl, _, _⟩ := h.base cvc_len (by decide) (by omega)
      obtain ⟨x, hx⟩ : ∃ x, l[k]? = some x := ⟨l[k]'(by omega), List.getElem?_eq_getElem (i := k) _⟩
      have r1 : wr.rangeAt b (o' + k * 7) (cvc x) := range_sl cvc_len (h.below kb) hx
      have b0 : (0 : Int) ≤ (k : Int) := by omega
      have b1 : (k : Int) < (n : Int) := by omega
      have hcall := HP.out x wr kb
      have HS : Hid ((l.take (k + 1)).any p = ((l.take k).any p || p x)) := by rw [Hid, List.take_add_one, hx]; simp
      have HM : Hid (p x = true → l.any p = true) := fun q => List.any_eq_true.2 ⟨x, List.mem_of_getElem? hx, q⟩
      have hi := info_cvc x
      clear hx h hlen HP
      generalize cvc x = cs at *
      generalize p x = px at *
      cases px with
      | false =>
        go_wp2_with (first | (refine wpList_load_mid (op := ⟨some 15, _, _, _, _, _⟩) rfl 51 (.tmp 14) rfl b (o' + k * 7) rfl cs _ r1 Tryz.underlying51 rfl hi ?_) | (go_at_call 94; refine hcall.mono ?_; rintro e w1 ⟨rfl, hb1⟩))
        go_roundg (gk - 1)
        case measure => omega
        case rel => exact ⟨k + 1, by omega, by go_num, by rw [Hid, HS.out, hall.out]; rfl, bnext kb hb1⟩
      | true =>
        go_wp2_with (first | (refine wpList_load_mid (op := ⟨some 15, _, _, _, _, _⟩) rfl 51 (.tmp 14) rfl b (o' + k * 7) rfl cs _ r1 Tryz.underlying51 rfl hi ?_) | (go_at_call 94; refine hcall.mono ?_; rintro e w1 ⟨rfl, hb1⟩))
        go_ret
        exact ⟨(k : Int), rfl, by rw [HM.out trivial]; simp, bnext kb hb1⟩
    · have t1 : decide (k < n) = false := decide_eq_false (by omega)
      have HA : Hid (l.any p = false) := by have := hall.out; rwa [List.take_of_length_le (by omega)] at this
      clear h hlen
      go_wp2_with fail
      go_ret
      exact ⟨-1, rfl, by rw [HA.out]; rfl, kb⟩
set_option maxHeartbeats 4000000 in
set_option maxRecDepth 100000 in
theorem anyC_any {w : World} {A : Option Addr} {n c : Nat} {l : List CV} {p : CV → Bool}  (h : Sl cvc w A n c l) (hn : n ≤ 9223372036854775807)
    (hp : ∀ (x : CV) (W : World), Below w.heap.size w W → Calls Tryz.prog 94 #[.agg (cvc x).toArray] W fun e w' => e = .returned (.bool (p x)) ∧ Below W.heap.size W w') :
    Calls Tryz.prog 93 #[.slice A n c, .func (.func 94) #[] #[]] w fun e w' => e = .returned (.bool (l.any p)) ∧ Below w.heap.size w w' := by
  have hix := anyC_idx h hn hp
  clear hp h
  go_enter Tryz.func93, Tryz.ntmps93
  go_wp2_with (go_at_call 127; refine hix.mono ?_; rintro e w1 ⟨r, rfl, hr, hb1⟩)
  go_ret
  exact ⟨by rw [← hr]; rfl, hb1⟩

/-- An index, or none: whether any is as asked. -/
def anyER {α : Type} (w : World) (l : List α) (p : α → Bool) (e : Ending) (w' : World) : Prop := ∃ r : Int, e = .returned (.int .i64 r) ∧ decide (0 ≤ r) = l.any p ∧ Below w.heap.size w w'
set_option maxHeartbeats 4000000 in
set_option maxRecDepth 100000 in
theorem anyE_idx {w : World} {A : Option Addr} {n c : Nat} {l : List En} {p : En → Bool} {q : Nat} (h : Sl enc_ w A n c l) (hn : n ≤ 9223372036854775807)
    (hp : ∀ (x : En) (W : World), Below w.heap.size w W → Calls Tryz.prog 101 #[.agg (enc_ x).toArray, .pointer (some ⟨q, 0, none⟩)] W fun e w' => e = .returned (.bool (p x)) ∧ Below W.heap.size W w') :
    Calls Tryz.prog 128 #[.slice A n c, .func (.func 101) #[] #[.pointer (some ⟨q, 0, none⟩)]] w (anyER w l p) := by
  have HP := Lib.hid hp
  have hlen := h.len
  clear hp
  go_enter Tryz.func128, Tryz.ntmps128
  go_wp2_with fail
  go_loopg [8] n (fun gk i wr => ∃ k : Nat, k + gk = n ∧ i = .int .i64 k ∧ Hid ((l.take k).any p = false) ∧ Below w.heap.size w wr)
  case atStart => exact ⟨0, by omega, rfl, rfl, brefl w⟩
  case round =>
    obtain ⟨k, hk, rfl, hall, kb⟩ := hrel
    by_cases hlt : k < n
    · obtain ⟨b, o', rfl, _, _⟩ := h.base enc__len (by decide) (by omega)
      obtain ⟨x, hx⟩ : ∃ x, l[k]? = some x := ⟨l[k]'(by omega), List.getElem?_eq_getElem (i := k) _⟩
      have r1 : wr.rangeAt b (o' + k * 2) (enc_ x) := range_sl enc__len (h.below kb) hx
      have b0 : (0 : Int) ≤ (k : Int) := by omega
      have b1 : (k : Int) < (n : Int) := by omega
      have hcall := HP.out x wr kb
      have HS : Hid ((l.take (k + 1)).any p = ((l.take k).any p || p x)) := by rw [Hid, List.take_add_one, hx]; simp
      have HM : Hid (p x = true → l.any p = true) := fun q => List.any_eq_true.2 ⟨x, List.mem_of_getElem? hx, q⟩
      have hi := info_enc_ x
      clear hx h hlen HP
      generalize enc_ x = cs at *
      generalize p x = px at *
      cases px with
      | false =>
        go_wp2_with (first | (refine wpList_load_mid (op := ⟨some 15, _, _, _, _, _⟩) rfl 61 (.tmp 14) rfl b (o' + k * 2) rfl cs _ r1 Tryz.underlying61 rfl hi ?_) | (go_at_call 101; refine hcall.mono ?_; rintro e w1 ⟨rfl, hb1⟩))
        go_roundg (gk - 1)
        case measure => omega
        case rel => exact ⟨k + 1, by omega, by go_num, by rw [Hid, HS.out, hall.out]; rfl, bnext kb hb1⟩
      | true =>
        go_wp2_with (first | (refine wpList_load_mid (op := ⟨some 15, _, _, _, _, _⟩) rfl 61 (.tmp 14) rfl b (o' + k * 2) rfl cs _ r1 Tryz.underlying61 rfl hi ?_) | (go_at_call 101; refine hcall.mono ?_; rintro e w1 ⟨rfl, hb1⟩))
        go_ret
        exact ⟨(k : Int), rfl, by rw [HM.out trivial]; simp, bnext kb hb1⟩
    · have t1 : decide (k < n) = false := decide_eq_false (by omega)
      have HA : Hid (l.any p = false) := by have := hall.out; rwa [List.take_of_length_le (by omega)] at this
      clear h hlen
      go_wp2_with fail
      go_ret
      exact ⟨-1, rfl, by rw [HA.out]; rfl, kb⟩
set_option maxHeartbeats 4000000 in
set_option maxRecDepth 100000 in
theorem anyE_any {w : World} {A : Option Addr} {n c : Nat} {l : List En} {p : En → Bool} {q : Nat} (h : Sl enc_ w A n c l) (hn : n ≤ 9223372036854775807)
    (hp : ∀ (x : En) (W : World), Below w.heap.size w W → Calls Tryz.prog 101 #[.agg (enc_ x).toArray, .pointer (some ⟨q, 0, none⟩)] W fun e w' => e = .returned (.bool (p x)) ∧ Below W.heap.size W w') :
    Calls Tryz.prog 100 #[.slice A n c, .func (.func 101) #[] #[.pointer (some ⟨q, 0, none⟩)]] w fun e w' => e = .returned (.bool (l.any p)) ∧ Below w.heap.size w w' := by
  have hix := anyE_idx h hn hp
  clear hp h
  go_enter Tryz.func100, Tryz.ntmps100
  go_wp2_with (go_at_call 128; refine hix.mono ?_; rintro e w1 ⟨r, rfl, hr, hb1⟩)
  go_ret
  exact ⟨by rw [← hr]; rfl, hb1⟩
end Go.Proofs.YtjjgngccgjpnaaaGreatDoor
