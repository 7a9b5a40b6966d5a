/- Whether a script is great. -/
import Derived.Test.YtjjgngccgjpnaaaGreatDoorScrG
namespace Go.Proofs.YtjjgngccgjpnaaaGreatDoor
set_option linter.unusedVariables false
set_option linter.unusedSimpArgs false
open Go.RowKit

def gr1 (ps : List (List CV)) (k : Nat) : Bool := decide (60 < (ps.getD k []).length)
def greatB (ps : List (List CV)) (es : List En) (N : Int) : Bool := (List.range 8).any (gr1 ps) || decide (N < (es.length : Int))
theorem great_no {ps : List (List CV)} {es : List En} {N : Int} (h8 : ps.length = 8) (h : greatB ps es N = false) : (∀ l, l ∈ ps → l.length ≤ 60) ∧ (es.length : Int) ≤ N := by
  rw [greatB, Bool.or_eq_false_iff] at h
  refine ⟨fun l hl => ?_, by have := of_decide_eq_false h.2; omega⟩
  obtain ⟨k, hk, rfl⟩ := List.getElem_of_mem hl
  have := List.any_eq_false.1 h.1 k (List.mem_range.2 (by omega))
  rw [gr1, List.getD_eq_getElem?_getD, List.getElem?_eq_getElem hk, Option.getD_some] at this
  simpa using this
set_option maxHeartbeats 4000000 in
set_option maxRecDepth 100000 in
theorem great_any {w : World} {c : Cf} {us : List Value} {ps : List (List CV)} {EA : Option Addr} {en ec : Nat} {es : List En} (hP : PIn (fun _ => False) w us ps) (hE : Sl enc_ w EA en ec es) (N : Int) : Calls Tryz.prog 12 #[.agg (scc c us (.slice EA en ec)).toArray, .int .i64 N] w fun e w' => e = .returned (.bool (greatB ps es N)) ∧ Below w.heap.size w w' := by
  have h8 := hP.u8
  obtain ⟨W0, hW0, hB, kb⟩ : ∃ W0, w.alloc (.cells (scc c us (.slice EA en ec)).toArray 30) = W0 ∧ Blk W0 w.heap.size 30 (scc c us (.slice EA en ec)).toArray ∧ Below w.heap.size w W0 := ⟨_, rfl, Blk.new _ _ _, bnew (brefl w) _⟩
  have hP0 := hP.below kb
  have x22 : W0.cell? ⟨w.heap.size, 22, none⟩ = some (.slice EA en ec) := (hB.cell 22).trans (by rw [List.getElem?_toArray]; exact scc_last h8)
  have xk : ∀ (k : Nat) (v : Value), us[k]? = some v → W0.cell? ⟨w.heap.size, 14 + k, none⟩ = some v := fun k v hk => (hB.cell _).trans (by rw [List.getElem?_toArray]; exact scc_get hk)
  have hz := hB.lt
  have XK := Lib.hid xk
  have HELN := Lib.hid hE.len
  clear xk hP hE h8 hB
  generalize scc c us (.slice EA en ec) = cs at *
  go_enter Tryz.func12, Tryz.ntmps12
  go_upto_region 1 with (fail)
  go_wp2_with fail
  go_loopg [5] 8 (fun gk i wr => ∃ k : Nat, k + gk = 8 ∧ i = .int .i64 k ∧ Hid (∀ j, j < k → gr1 ps j = false) ∧ Below W0.heap.size W0 wr)
  case atStart => exact ⟨0, by omega, rfl, fun j hj => by omega, brefl W0⟩
  case round =>
    obtain ⟨k, hk, rfl, hall, kr⟩ := hrel
    have y22 := keep_below x22 kr
    have yz := block_lt_of_cell y22
    by_cases hlt : k < 8
    · obtain ⟨l, hl⟩ : ∃ l, ps[k]? = some l := ⟨ps[k]'(by have := hP0.p8; omega), List.getElem?_eq_getElem (i := k) _⟩
      obtain ⟨A, n, c', hu, hs, _⟩ := hP0.at_ k l hl
      have v0 := keep_below (XK.out k _ hu) kr
      have b0 : (0 : Int) ≤ (k : Int) := by omega
      have b1 : (k : Int) < 8 := by omega
      have HP : Hid (gr1 ps k = decide (60 < n)) := by
        unfold Hid gr1
        rw [List.getD_eq_getElem?_getD, hl, Option.getD_some, hs.len]
      clear hu hl hs
      by_cases h6 : 60 < n
      · have h6' : (60 : Int) < (n : Int) := by omega
        have HR : Hid (greatB ps es N = true) := by
          unfold Hid greatB
          rw [List.any_eq_true.2 ⟨k, List.mem_range.2 hlt, by rw [HP.out, decide_eq_true h6]⟩]
          rfl
        go_wp2_with fail
        go_ret
        exact ⟨by rw [HR.out]; rfl, bnext kb kr⟩
      · have h6' : decide ((60 : Int) < (n : Int)) = false := decide_eq_false (by omega)
        have HP2 : Hid (gr1 ps k = false) := by rw [Hid, HP.out, decide_eq_false h6]
        clear h6
        go_wp2_with fail
        go_roundg (gk - 1)
        case measure => omega
        case rel =>
          refine ⟨k + 1, by omega, by go_num, fun j hj => ?_, kr⟩
          by_cases hjk : j = k
          · subst hjk; exact HP2.out
          · exact hall.out j (by omega)
    · have t9 : decide (k < 8) = false := decide_eq_false (by omega)
      obtain rfl : k = 8 := by omega
      have HAB : Hid (greatB ps es N = decide (N < (en : Int))) := by rw [Hid, greatB, range_any hall.out, Bool.false_or, HELN.out]
      clear hall
      go_wp2_with fail
      go_ret
      exact ⟨by rw [HAB.out]; rfl, bnext kb kr⟩
end Go.Proofs.YtjjgngccgjpnaaaGreatDoor
