/- What stands in a script of threads that there are not. -/
import Derived.Test.YtjjgngccgjpnaaaGreatDoorScrC
namespace Go.Proofs.YtjjgngccgjpnaaaGreatDoor
set_option linter.unusedVariables false
set_option linter.unusedSimpArgs false
open Go.RowKit

def thB (c : Cf) (t : Int) : Bool := decide (0 ≤ t ∧ t < c.th)
set_option maxHeartbeats 4000000 in
set_option maxRecDepth 100000 in
theorem there_any (c : Cf) (us : List Value) (ev : Value) (t : Int) (w : World) : Calls Tryz.prog 99 #[.agg (scc c us ev).toArray, .int .i64 t] w fun e w' => e = .returned (.bool (thB c t)) ∧ Below w.heap.size w w' := by
  obtain ⟨W0, hW0, hB, kb⟩ : ∃ W0, w.alloc (.cells (scc c us ev).toArray 30) = W0 ∧ Blk W0 w.heap.size 30 (scc c us ev).toArray ∧ Below w.heap.size w W0 := ⟨_, rfl, Blk.new _ _ _, bnew (brefl w) _⟩
  have c1 : W0.cell? ⟨w.heap.size, 1, none⟩ = some (.int .i64 c.th) := hB.cell 1
  have hz := hB.lt
  clear hB
  generalize scc c us ev = cs at *
  by_cases h1 : 0 ≤ t
  · by_cases h2 : t < c.th
    · have HR : Hid (thB c t = true) := decide_eq_true ⟨h1, h2⟩
      go_enter Tryz.func99, Tryz.ntmps99
      go_upto_region 1 with (fail)
      go_wp2_with fail
      go_ret
      exact ⟨by rw [HR.out]; rfl, kb⟩
    · have HR : Hid (thB c t = false) := decide_eq_false (by omega)
      have t2 : decide (t < c.th) = false := decide_eq_false h2
      clear h2
      go_enter Tryz.func99, Tryz.ntmps99
      go_upto_region 1 with (fail)
      go_wp2_with fail
      go_ret
      exact ⟨by rw [HR.out]; rfl, kb⟩
  · have HR : Hid (thB c t = false) := decide_eq_false (by omega)
    have t1 : decide (0 ≤ t) = false := decide_eq_false h1
    clear h1
    go_enter Tryz.func99, Tryz.ntmps99
    go_upto_region 1 with (fail)
    go_wp2_with fail
    go_ret
    exact ⟨by rw [HR.out]; rfl, kb⟩
set_option maxHeartbeats 4000000 in
set_option maxRecDepth 100000 in
theorem ab1_any {c : Cf} {us : List Value} {ev : Value} {q : Nat} {w : World} (h8 : us.length = 8) (hB : Blk w q 30 (scc c us ev).toArray) (x : En) : Calls Tryz.prog 101 #[.agg (enc_ x).toArray, .pointer (some ⟨q, 0, none⟩)] w fun e w' => e = .returned (.bool (!thB c x.th)) ∧ Below w.heap.size w w' := by
  obtain ⟨W0, hW0, hE, hB0, kb⟩ : ∃ W0, w.alloc (.cells (enc_ x).toArray 61) = W0 ∧ Blk W0 w.heap.size 61 (enc_ x).toArray ∧ Blk W0 q 30 (scc c us ev).toArray ∧ Below w.heap.size w W0 := ⟨_, rfl, Blk.new _ _ _, hB.alloc _, bnew (brefl w) _⟩
  have c0 : W0.cell? ⟨w.heap.size, 0, none⟩ = some (.int .i64 x.th) := hE.cell 0
  have hz := hE.lt
  have ht := fun W => there_any c us ev x.th W
  have hi := info_scc (c := c) (ev := ev) h8
  clear hE hB
  generalize scc c us ev = cs at *
  generalize enc_ x = ex at *
  go_enter Tryz.func101, Tryz.ntmps101
  go_upto_region 1 with (fail)
  have tok1 : True := trivial
  go_wp2_with (first | (have _t := tok1; refine wpList_load_row (o := ⟨some 4, _, _, _, _, _⟩) rfl 30 (.tmp 1) rfl q rfl 30 _ _ _ hB0 Tryz.underlying30 rfl hi ?_; clear tok1 _t) | (go_at_call 99; refine (ht _).mono ?_; rintro e w1 ⟨rfl, hb1⟩))
  go_ret
  exact ⟨rfl, bnext kb hb1⟩
def pAbs (c : Cf) (ps : List (List CV)) (k : Nat) : Bool := !thB c (k : Int) && decide (0 < (ps.getD k []).length)
def absB (c : Cf) (ps : List (List CV)) (es : List En) : Bool := (List.range 8).any (pAbs c ps) || es.any (fun e => !thB c e.th)
theorem range_any {p : Nat → Bool} {n : Nat} (h : ∀ j, j < n → p j = false) : (List.range n).any p = false := by
  rw [List.any_eq_false]
  intro x hx
  rw [h x (List.mem_range.1 hx)]
  simp
set_option maxHeartbeats 4000000 in
set_option maxRecDepth 100000 in
theorem absent_any {w : World} {c : Cf} {us : List Value} {ps : List (List CV)} {EA : Option Addr} {en ec : Nat} {es : List En} (hP : PIn (fun _ => False) w us ps) (hE : Sl enc_ w EA en ec es) (hen : en ≤ 1000000) (hps : ∀ l, l ∈ ps → l.length ≤ 1000000) : Calls Tryz.prog 67 #[.agg (scc c us (.slice EA en ec)).toArray] w fun e w' => e = .returned (.bool (absB c ps es)) ∧ Below w.heap.size w w' := by
  have h8 := hP.u8
  have hi := info_scc (c := c) (ev := .slice EA en ec) h8
  obtain ⟨W0, hW0, hB, kb⟩ : ∃ W0, w.alloc (.cells (scc c us (.slice EA en ec)).toArray 30) = W0 ∧ Blk W0 w.heap.size 30 (scc c us (.slice EA en ec)).toArray ∧ Below w.heap.size w W0 := ⟨_, rfl, Blk.new _ _ _, bnew (brefl w) _⟩
  have hP0 := hP.below kb
  have hE0 := hE.below kb
  have x22 : W0.cell? ⟨w.heap.size, 22, none⟩ = some (.slice EA en ec) := (hB.cell 22).trans (by rw [List.getElem?_toArray]; exact scc_last h8)
  have xk : ∀ (k : Nat) (v : Value), us[k]? = some v → W0.cell? ⟨w.heap.size, 14 + k, none⟩ = some v := fun k v hk => (hB.cell _).trans (by rw [List.getElem?_toArray]; exact scc_get hk)
  have hz := hB.lt
  have ht := fun (t : Int) W => there_any c us (.slice EA en ec) t W
  have hab1 := fun (W : World) (hW : Below W0.heap.size W0 W) (x : En) => ab1_any h8 (hB.below_ hW) x
  have XK := Lib.hid xk
  have HAB := Lib.hid hab1
  have hmf : ∀ (fn : Fn) (first cap : Array Value) (w : World), (Instr.makeFunc fn first cap).run Tryz.prog w = .ok (.func fn first cap) w := fun _ _ _ _ => rfl
  clear xk hab1 hP hE
  generalize scc c us (.slice EA en ec) = cs at *
  go_enter Tryz.func67, Tryz.ntmps67
  go_upto_region 1 with (fail)
  go_wp2_with fail
  go_loopg [4] 8 (fun gk i wr => ∃ k : Nat, k + gk = 8 ∧ i = .int .i64 k ∧ Hid (∀ j, j < k → pAbs c ps j = false) ∧ Below W0.heap.size W0 wr)
  case atStart => exact ⟨0, by omega, rfl, fun j hj => by omega, brefl W0⟩
  case round =>
    obtain ⟨k, hk, rfl, hall, kr⟩ := hrel
    by_cases hlt : k < 8
    · obtain ⟨l, hl⟩ : ∃ l, ps[k]? = some l := ⟨ps[k]'(by have := hP0.p8; omega), List.getElem?_eq_getElem (i := k) _⟩
      obtain ⟨A, n, c', hu, hs, _⟩ := hP0.at_ k l hl
      have v0 := keep_below (XK.out k _ hu) kr
      have hBr := hB.below_ kr
      have b0 : (0 : Int) ≤ (k : Int) := by omega
      have b1 : (k : Int) < 8 := by omega
      have hn : n ≤ 1000000 := by have := hps l (List.mem_of_getElem? hl); have := hs.len; omega
      have HP : Hid (pAbs c ps k = (!thB c (k : Int) && decide (0 < n))) := by
        unfold Hid pAbs
        rw [List.getD_eq_getElem?_getD, hl, Option.getD_some, hs.len]
      have ht := fun W => ht (k : Int) W
      clear hu hl hs
      generalize thB c (k : Int) = tb at *
      cases tb with
      | true =>
        have tok1 : True := trivial
        go_wp2_with (first | (have _t := tok1; refine wpList_load_row (o := ⟨some 7, _, _, _, _, _⟩) rfl 30 (.tmp 1) rfl w.heap.size rfl 30 _ _ _ hBr Tryz.underlying30 rfl hi ?_; clear tok1 _t) | (go_at_call 99; refine (ht _).mono ?_; rintro e w1 ⟨rfl, hb1⟩))
        go_roundg (gk - 1)
        case measure => omega
        case rel =>
          refine ⟨k + 1, by omega, by go_num, fun j hj => ?_, bnext kr hb1⟩
          by_cases hjk : j = k
          · subst hjk; rw [HP.out]; rfl
          · exact hall.out j (by omega)
      | false =>
        by_cases h0 : 0 < n
        · have h0' : (0 : Int) < (n : Int) := by omega
          have HR : Hid (absB c ps es = true) := by
            unfold Hid absB
            rw [List.any_eq_true.2 ⟨k, List.mem_range.2 hlt, by rw [HP.out, decide_eq_true h0]; rfl⟩, Bool.true_or]
          have tok1 : True := trivial
          go_wp2_with (first | (have _t := tok1; refine wpList_load_row (o := ⟨some 7, _, _, _, _, _⟩) rfl 30 (.tmp 1) rfl w.heap.size rfl 30 _ _ _ hBr Tryz.underlying30 rfl hi ?_; clear tok1 _t) | (go_at_call 99; refine (ht _).mono ?_; rintro e w1 ⟨rfl, hb1⟩; have v1 := keep_below v0 hb1; have z1 := block_lt_of_cell v1))
          go_ret
          exact ⟨by rw [HR.out]; rfl, bnext kb (bnext kr hb1)⟩
        · have h0' : decide (0 < n) = false := decide_eq_false h0
          have HP2 : Hid (pAbs c ps k = false) := by rw [Hid, HP.out, h0']; rfl
          clear h0
          have tok1 : True := trivial
          go_wp2_with (first | (have _t := tok1; refine wpList_load_row (o := ⟨some 7, _, _, _, _, _⟩) rfl 30 (.tmp 1) rfl w.heap.size rfl 30 _ _ _ hBr Tryz.underlying30 rfl hi ?_; clear tok1 _t) | (go_at_call 99; refine (ht _).mono ?_; rintro e w1 ⟨rfl, hb1⟩; have v1 := keep_below v0 hb1; have z1 := block_lt_of_cell v1))
          go_roundg (gk - 1)
          case measure => omega
          case rel =>
            refine ⟨k + 1, by omega, by go_num, fun j hj => ?_, bnext kr hb1⟩
            by_cases hjk : j = k
            · subst hjk; exact HP2.out
            · exact hall.out j (by omega)
    · have t9 : decide (k < 8) = false := decide_eq_false (by omega)
      obtain rfl : k = 8 := by omega
      have HR : Hid (absB c ps es = es.any (fun e => !thB c e.th)) := by rw [Hid, absB, range_any hall.out, Bool.false_or]
      have y22 := keep_below x22 kr
      have yz := block_lt_of_cell y22
      have hcon := anyE_any (q := w.heap.size) (p := fun e => !thB c e.th) (hE0.below kr) (by omega) (fun x W hW => HAB.out W (bnext kr hW) x)
      have HCON := Lib.hid hcon
      clear hcon hall
      go_wp2_with (go_at_call 100; refine HCON.out.mono ?_; rintro e w1 ⟨rfl, hb1⟩)
      go_ret
      exact ⟨by rw [HR.out]; rfl, bnext kb (bnext kr hb1)⟩
end Go.Proofs.YtjjgngccgjpnaaaGreatDoor
