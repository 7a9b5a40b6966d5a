/- Rows from a key on: the iterator, and what it hands to each round. -/
import Derived.Test.YtklpnjenddkmaaaRowA
import Derived.Test.YtklpnjenddkmaaaTurns
import Derived.OwnWalkIn
import Derived.WalkKit
import Derived.Shelf.Abstract
import Derived.Shelf.RegionOpen
import Derived.TacticsInMore
namespace Go.Proofs.Ytklpnjenddkmaaa
set_option linter.unusedVariables false
set_option linter.unusedSimpArgs false
open Go.RowKit

attribute [local go_sem] Oper.semAt_some
/-- What round k is handed. -/
def encR (l : List RV) (i k : Nat) : Array Value := match l[i + k]? with
  | some e => #[.agg (rvc e).toArray]
  | none => #[.bool false]
theorem encR_size (l : List RV) (i k : Nat) : (encR l i k).size = 1 := by unfold encR; split <;> rfl
theorem encR_some {l : List RV} {i k : Nat} {e : RV} (h : l[i + k]? = some e) : encR l i k = #[.agg (rvc e).toArray] := by unfold encR; rw [h]
set_option maxHeartbeats 4000000 in
set_option maxRecDepth 100000 in
theorem tail_any {w : World} (A : Option Addr) (n c : Nat) (key : Int) : Calls Try.prog 23 #[.slice A n c, .int .i64 key] w fun e w' => e = .returned (.func (.func 26) #[] #[.pointer (some ⟨w.heap.size, 0, none⟩), .pointer (some ⟨w.heap.size + 1, 0, none⟩)]) ∧ w' = (w.alloc (.cells #[.slice A n c] 22)).alloc (.cells #[.int .i64 key] 2) := by
  go_enter Try.func23, Try.ntmps23
  go_wp2
  go_ret
  exact ⟨rfl, rfl⟩
set_option maxHeartbeats 4000000 in
set_option maxRecDepth 100000 in
theorem tail_rounds {w : World} {A : Option Addr} {n c : Nat} {l : List RV} {bx bk : Nat} {key : Int} {Z : Nat → Prop} (h : Sl rvc w A n c l) (hn : n ≤ 1000000) (hbx : Blk w bx 22 #[.slice A n c]) (hbk : Blk w bk 2 #[.int .i64 key]) (hZb : ¬ Z bx) (hZk : ¬ Z bk) (hZA : 0 < n → ∀ ad, A = some ad → ¬ Z ad.block) (hZ : ∀ b, Z b → b < w.heap.size) (m : Nat) :
    Rounds Fence.wide m Try.prog 26 #[.pointer (some ⟨bx, 0, none⟩), .pointer (some ⟨bk, 0, none⟩)] (encR l (idx l key)) Z (fun k => k = n - idx l key) (n - idx l key) w := by
  intro L J Jx W hb hsz hJ hJx hY h0
  have hlen := h.len
  have hil := idx_le key l
  have hbw : 0 < n → ∀ ad, A = some ad → ad.block < w.heap.size := fun h0 => h.rd.lt (by intro e; have := congrArg List.length e; rw [flat_len rvc_len] at this; simp at this; omega)
  have hbkw := hbk.lt
  have hbx := hbx.below_ hb
  have hbk := hbk.below_ hb
  have h := h.below hb
  have hx0 := hbx.cell 0
  refine callsIn_wide.2 ?_
  show Calls _ _ #[.func (.yield L) #[] #[], .pointer (some ⟨bx, 0, none⟩), .pointer (some ⟨bk, 0, none⟩)] _ _
  go_enter Try.func26, Try.ntmps26
  go_wp2_with fail
  clear hx0 hbx
  go_loopg [4, 9] n (fun gk bg i wr => ∃ (k : Nat) (B : Bool), k + gk = n ∧ i = .int .i64 k ∧ bg = .bool B ∧ Hid (B = decide (idx l key < k)) ∧ J (k - idx l key) wr ∧ Sl rvc wr A n c l ∧ Blk wr bk 2 #[.int .i64 key] ∧ W.heap.size ≤ wr.heap.size)
  case atStart => exact ⟨0, false, by omega, rfl, rfl, (decide_eq_false (by omega)).symm, by rw [Nat.zero_sub]; exact h0, h, hbk, Nat.le_refl _⟩
  case round =>
    clear h hbk h0
    obtain ⟨k, B, hk, rfl, rfl, HB, hjw, hs, hbk, hWr⟩ := hrel
    by_cases hlt : k < n
    · obtain ⟨b, o', rfl, _, hc⟩ := hs.base rvc_len (by decide) (by omega)
      have hAb : b < w.heap.size := hbw (by omega) _ rfl
      have hAZ : ¬ Z b := hZA (by omega) _ rfl
      obtain ⟨e, he⟩ : ∃ e, l[k]? = some e := ⟨l[k]'(by omega), List.getElem?_eq_getElem (i := k) _⟩
      have hrg : wr.rangeAt b (o' + k * 3) [.int .i64 e.k, .int .u64 e.a, .int .u64 e.b] := range_sl rvc_len hs he
      have b0 : (0 : Int) ≤ (k : Int) := by omega
      have b1 : (k : Int) < (n : Int) := by omega
      have HB1 : k < idx l key ∨ Hid (true = decide (idx l key < k + 1)) := by
        by_cases h : k < idx l key
        · exact .inl h
        · exact .inr (decide_eq_true (by omega)).symm
      have HE := Lib.hid he
      clear hc hbw
      go_upto_region 4 with (refine wpList_load_mid (op := ⟨some 12, _, _, _, _, _⟩) rfl 29 (.tmp 11) rfl b (o' + k * 3) rfl [.int .i64 e.k, .int .u64 e.a, .int .u64 e.b] _ hrg Try.underlying29 rfl (by kernel_rfl) ?_)
      obtain ⟨W1, hW1, hE1, hs1, hj1, hbk1⟩ : ∃ W1, wr.alloc (.cells #[.int .i64 e.k, .int .u64 e.a, .int .u64 e.b] 29) = W1 ∧ Blk W1 wr.heap.size 29 (rvc e).toArray ∧ Sl rvc W1 (some ⟨b, o', none⟩) n c l ∧ J (k - idx l key) W1 ∧ Blk W1 bk 2 #[.int .i64 key] := ⟨_, rfl, Blk.new _ _ _, hs.alloc _, hJ _ _ _ hjw ((brefl wr).mono hWr |>.alloc hWr _), hbk.alloc _⟩
      rw [hW1]
      have hW1z : W.heap.size ≤ W1.heap.size := by rw [← hW1]; simp; omega
      clear hW1 hs hrg hjw hbk
      generalize wr.heap.size = q at *
      have d0 : W1.cell? ⟨q, 0, none⟩ = some (.int .i64 e.k) := hE1.cell 0
      have d1 : W1.cell? ⟨q, 1, none⟩ = some (.int .u64 e.a) := hE1.cell 1
      have d2 : W1.cell? ⟨q, 2, none⟩ = some (.int .u64 e.b) := hE1.cell 2
      have hqz := hE1.lt
      have c2 : W1.cell? ⟨bk, 0, none⟩ = some (.int .i64 key) := hbk1.cell 0
      have hsa := hs1
      have hba := hbk1
      clear hbk1
      cases B with
      | true =>
        have hki : idx l key < k := of_decide_eq_true HB.out.symm
        have HB1 : Hid (true = decide (idx l key < k + 1)) := HB1.resolve_left (by omega)
        obtain ⟨jj, hjj⟩ : ∃ jj, jj = k - idx l key := ⟨_, rfl⟩
        have HJN : Hid (k + 1 - idx l key = jj + 1) := by show _ = _; omega
        have hjN : jj < n - idx l key := by omega
        have henc := encR_some (l := l) (i := idx l key) (k := jj) (by rw [show idx l key + jj = k by omega]; exact HE.out)
        simp only [rvc] at henc
        rw [← hjj] at hj1
        clear HB he hjj hki
        obtain ⟨fn, tmps, assign, body, hy, hR⟩ := hY jj W1 hjN hj1
        rw [henc] at hy
        clear hs1 hj1 hE1
        go_upto_region 5 with (fail)
        refine (wpIn_wide (n := m)).1 ?_
        gi_wp2
        refine ⟨fun h => (by cases h), ?_⟩
        refine hR.mono ?_
        clear hR hy
        have nq : ∀ x, W.heap.size ≤ x → ¬ (Z x ∨ w.heap.size ≤ x ∧ x < w.heap.size + 2) := fun x hx h => by rcases h with h | h; exact absurd (hZ x h) (by omega); omega
        rintro e' W' (⟨rfl, hJ', hk'⟩ | ⟨rfl, hJx'⟩)
        · have hs' := hk'.sl hsa (fun ad hA => by cases hA; dsimp only; intro h; rcases h with h | h; exact hAZ h; omega)
          have hbk' := hk'.blk hba (fun h => by rcases h with h | h; exact hZk h; omega)
          clear hsa hba nq
          gi_wp2
          go_wp2
          go_roundg (gk - 1)
          case measure => omega
          case rel => exact ⟨k + 1, true, by omega, by go_num, rfl, HB1, by rw [HJN.out]; exact hJ', hs', hbk', by have := hk'.size; omega⟩
        · clear hsa hba nq
          gi_wp2
          go_wp2
          refine bodyPost_ret (results_none rfl _ _ _) rfl ?_
          first | exact .inr hJx' | exact ⟨⟨_, rfl⟩, .inr hJx'⟩
      | false =>
        have hki : ¬ (idx l key < k) := of_decide_eq_false HB.out.symm
        clear HB
        by_cases hye : k = idx l key
        · have HB1 : Hid (true = decide (idx l key < k + 1)) := HB1.resolve_left (by omega)
          have hge : key ≤ e.k := idx_yes key l e (by rw [← hye]; exact he)
          have HJN : Hid (k + 1 - idx l key = 0 + 1) := by show _ = _; omega
          have hjN : 0 < n - idx l key := by omega
          have henc := encR_some (l := l) (i := idx l key) (k := 0) (by rw [show idx l key + 0 = k by omega]; exact HE.out)
          simp only [rvc] at henc
          rw [show k - idx l key = 0 by omega] at hj1
          obtain ⟨jj, hjj⟩ : ∃ jj, jj = 0 := ⟨_, rfl⟩
          rw [← hjj] at hj1 hjN HJN henc
          clear he hjj hki hye
          obtain ⟨fn, tmps, assign, body, hy, hR⟩ := hY jj W1 hjN hj1
          rw [henc] at hy
          clear hs1 hj1 hE1
          go_upto_region 5 with (fail)
          refine (wpIn_wide (n := m)).1 ?_
          gi_wp2
          refine ⟨fun h => (by cases h), ?_⟩
          refine hR.mono ?_
          clear hR hy
          have nq : ∀ x, W.heap.size ≤ x → ¬ (Z x ∨ w.heap.size ≤ x ∧ x < w.heap.size + 2) := fun x hx h => by rcases h with h | h; exact absurd (hZ x h) (by omega); omega
          rintro e' W' (⟨rfl, hJ', hk'⟩ | ⟨rfl, hJx'⟩)
          · have hs' := hk'.sl hsa (fun ad hA => by cases hA; dsimp only; intro h; rcases h with h | h; exact hAZ h; omega)
            have hbk' := hk'.blk hba (fun h => by rcases h with h | h; exact hZk h; omega)
            clear hsa hba nq
            gi_wp2
            go_wp2
            go_roundg (gk - 1)
            case measure => omega
            case rel => exact ⟨k + 1, true, by omega, by go_num, rfl, HB1, by rw [HJN.out]; exact hJ', hs', hbk', by have := hk'.size; omega⟩
          · clear hsa hba nq
            gi_wp2
            go_wp2
            refine bodyPost_ret (results_none rfl _ _ _) rfl ?_
            first | exact .inr hJx' | exact ⟨⟨_, rfl⟩, .inr hJx'⟩
        · have hlt2 : k < idx l key := by omega
          have hno := idx_no key l k e hlt2 he
          have hge : ¬ key ≤ e.k := by omega
          have HB2 : Hid (false = decide (idx l key < k + 1)) := (decide_eq_false (by omega)).symm
          have HJ2 : Hid (J (k + 1 - idx l key) W1) := by
            rw [Hid, show k + 1 - idx l key = k - idx l key by omega]
            exact hj1
          clear he hye hki hj1 hlt2
          go_wp2
          go_roundg (gk - 1)
          case measure => omega
          case rel => exact ⟨k + 1, false, by omega, by go_num, rfl, HB2, HJ2.out, hsa, hba, hW1z⟩
    · have hge : ¬ ((k : Int) < (n : Int)) := by omega
      have hke : k = n := by omega
      have HJn : Hid (J (n - idx l key) wr) := by rw [← hke]; exact hjw
      clear hs hjw HB hbw hke hbk
      go_wp2
      go_end0
      first | exact .inl HJn.out | exact ⟨⟨_, rfl⟩, .inl HJn.out⟩
end Go.Proofs.Ytklpnjenddkmaaa
