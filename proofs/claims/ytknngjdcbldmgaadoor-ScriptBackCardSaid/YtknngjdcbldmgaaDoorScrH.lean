/- The highest level up to which a script is right; whether it is great. -/
import Derived.Test.YtknngjdcbldmgaaDoorScrG
import Derived.Lib.MinMax
namespace Go.Proofs.YtknngjdcbldmgaaDoor
set_option linter.unusedVariables false
set_option linter.unusedSimpArgs false
open Go.RowKit

def topN (c : Cf) (ps : List (List CV)) (es : List En) : Nat → Int
  | 0 => -1
  | k + 1 => if rightN c ps es k = 0 then (k : Int) else topN c ps es k
def topM (c : Cf) : Nat := (max 0 (min 4 c.lv)).toNat
set_option maxHeartbeats 4000000 in
set_option maxRecDepth 100000 in
theorem top_any {w : World} {c : Cf} {us : List Value} {ps : List (List CV)} {EA : Option Addr} {en ec : Nat} {es : List En} (hP : PIn (fun _ => False) w us ps) (hE : Sl enc_ w EA en ec es) (hen : en ≤ 1000000) (hps : ∀ l, l ∈ ps → l.length ≤ 1000000) : Calls Tryd.prog 12 #[.agg (scc c us (.slice EA en ec)).toArray] w (RightR w (topN c ps es (topM c))) := by
  have h8 := hP.u8
  have hi := info_scc (c := c) (ev := .slice EA en ec) h8
  obtain ⟨W0, hW0, hB, kb⟩ : ∃ W0, w.alloc (.cells (scc c us (.slice EA en ec)).toArray 29) = W0 ∧ Blk W0 w.heap.size 29 (scc c us (.slice EA en ec)).toArray ∧ Below w.heap.size w W0 := ⟨_, rfl, Blk.new _ _ _, bnew (brefl w) _⟩
  have x0 : W0.cell? ⟨w.heap.size, 0, none⟩ = some (.int .i64 c.lv) := hB.cell 0
  have hz := hB.lt
  have HR := Lib.hid (fun W (hW : Below W0.heap.size W0 W) lv => right_any (w := W) (c := c) ((hP.below kb).below hW) ((hE.below kb).below hW) hen hps lv)
  have hmn : ∀ ts t, (Builtin.min_ ts t #[.int .i64 4, .int .i64 c.lv]).run Tryd.prog W0 = .ok (.int .i64 (min 4 c.lv)) W0 := fun ts t => Lib.run_min_ints W0 ts t .i64 .i64 4 c.lv
  have hmx : ∀ ts t, (Builtin.max_ ts t #[.int .i64 0, .int .i64 (min 4 c.lv)]).run Tryd.prog W0 = .ok (.int .i64 (topM c)) W0 := fun ts t => by rw [Lib.run_max_ints W0 ts t .i64 .i64, show max 0 (min 4 c.lv) = (topM c : Int) by rw [topM]; omega]
  have HM4 : topM c ≤ 4 := by rw [topM]; omega
  clear hP hE
  generalize scc c us (.slice EA en ec) = cs at *
  generalize topM c = m at *
  generalize min 4 c.lv = mn at *
  go_enter Tryd.func12, Tryd.ntmps12
  go_upto_region 1 with (fail)
  go_wp2_with fail
  go_loopg [3, 10] m (fun gk s3 i wr => ∃ k : Nat, k + gk = m ∧ i = .int .i64 k ∧ s3 = .int .i64 (topN c ps es k) ∧ Below W0.heap.size W0 wr)
  case atStart => exact ⟨0, by omega, rfl, rfl, brefl W0⟩
  case round =>
    obtain ⟨k, hk, rfl, rfl, kr⟩ := hrel
    by_cases hlt : k < m
    · have k0 : (0 : Int) ≤ (k : Int) := by omega
      have k1 : (k : Int) < (m : Int) := by omega
      have hBr := hB.below_ kr
      have hr := HR.out wr kr (k : Int)
      have HT : Hid (topN c ps es (k + 1) = if rightN c ps es k = 0 then (k : Int) else topN c ps es k) := rfl
      generalize topN c ps es k = tk at *
      generalize rightN c ps es k = rn at *
      have hp : Calls Tryd.prog 9 #[.agg cs.toArray, .int .i64 k] wr fun e w' => (∃ w2, w2 = w' ∧ e = .returned .nilIface ∧ rn = 0 ∧ Below wr.heap.size wr w2) ∨ (∃ w2 p, w2 = w' ∧ e = .returned (.iface 89 (.pointer (some ⟨p, 0, none⟩))) ∧ rn ≠ 0 ∧ Below wr.heap.size wr w2) := hr.mono fun e w' ⟨v, h1, h2, h3⟩ => by
        rcases h2 with ⟨a, rfl⟩ | ⟨a, p, rfl, _⟩
        · exact .inl ⟨w', rfl, h1, a, h3⟩
        · exact .inr ⟨w', p, rfl, h1, a, h3⟩
      have HQ := Lib.hid hp
      clear hr hp
      have tok1 : True := trivial
      go_wp2_with (first | (have _t := tok1; refine wpList_load_row (o := ⟨some 13, _, _, _, _, _⟩) rfl 29 (.tmp 1) rfl w.heap.size rfl 29 _ _ _ hBr Tryd.underlying29 rfl hi ?_; clear tok1 _t) | (go_at_call 9; refine HQ.out.mono ?_))
      rintro e w1 (⟨w2, rfl, rfl, hrn, hb1⟩ | ⟨w2, p, rfl, rfl, hrn, hb1⟩)
      · have HRN := Lib.hid hrn
        clear hrn
        go_wp2_with fail
        go_roundg (gk - 1)
        case measure => omega
        case rel => exact ⟨k + 1, by omega, by go_num, by rw [HT.out, if_pos HRN.out], bnext kr hb1⟩
      · have HRN := Lib.hid hrn
        clear hrn
        go_wp2_with fail
        go_roundg (gk - 1)
        case measure => omega
        case rel => exact ⟨k + 1, by omega, by go_num, by rw [HT.out, if_neg HRN.out], bnext kr hb1⟩
    · have t9 : decide (k < m) = false := decide_eq_false (by omega)
      obtain rfl : k = m := by omega
      generalize topN c ps es k = tk at *
      go_wp2_with fail
      go_ret
      exact ⟨rfl, bnext kb kr⟩
theorem topM_step {c : Cf} {k : Nat} (h1 : (k : Int) < c.lv) (h2 : k < 4) : k < topM c := by unfold topM; omega
theorem topM_end {c : Cf} {k : Nat} (h0 : k ≤ topM c) (h1 : ¬ ((k : Int) < c.lv ∧ k < 4)) : k = topM c := by unfold topM at *; omega
set_option maxHeartbeats 4000000 in
set_option maxRecDepth 100000 in
theorem rtop_any {w : World} {c : Cf} {us : List Value} {ps : List (List CV)} {EA : Option Addr} {en ec : Nat} {es : List En} (hP : PIn (fun _ => False) w us ps) (hE : Sl enc_ w EA en ec es) (hen : en ≤ 1000000) (hps : ∀ l, l ∈ ps → l.length ≤ 1000000) : Calls Tryd.prog 13 #[.agg (scc c us (.slice EA en ec)).toArray] w (RightR w (topN c ps es (topM c))) := by
  have h8 := hP.u8
  have hi := info_scc (c := c) (ev := .slice EA en ec) h8
  obtain ⟨W0, hW0, hB, kb⟩ : ∃ W0, w.alloc (.cells (scc c us (.slice EA en ec)).toArray 29) = W0 ∧ Blk W0 w.heap.size 29 (scc c us (.slice EA en ec)).toArray ∧ Below w.heap.size w W0 := ⟨_, rfl, Blk.new _ _ _, bnew (brefl w) _⟩
  have x0 : W0.cell? ⟨w.heap.size, 0, none⟩ = some (.int .i64 c.lv) := hB.cell 0
  have HR := Lib.hid (fun W (hW : Below W0.heap.size W0 W) lv => rright_any (w := W) (c := c) ((hP.below kb).below hW) ((hE.below kb).below hW) hen hps lv)
  have HS := Lib.hid (fun k => topM_step (c := c) (k := k))
  have HE := Lib.hid (fun k => topM_end (c := c) (k := k))
  have HM4 : topM c ≤ 4 := by rw [topM]; omega
  clear hP hE
  generalize scc c us (.slice EA en ec) = cs at *
  generalize topM c = m at *
  go_enter Tryd.func13, Tryd.ntmps13
  go_upto_region 1 with (fail)
  go_wp2_with fail
  go_loopg [3, 4] m (fun gk s3 i wr => ∃ k : Nat, k + gk = m ∧ i = .int .i64 k ∧ s3 = .int .i64 (topN c ps es k) ∧ Below W0.heap.size W0 wr)
  case atStart => exact ⟨0, by omega, rfl, rfl, brefl W0⟩
  case round =>
    obtain ⟨k, hk, rfl, rfl, kr⟩ := hrel
    have y0 := keep_below x0 kr
    have yz := block_lt_of_cell y0
    by_cases h1 : (k : Int) < c.lv
    · by_cases h2 : k < 4
      · have hlt : k < m := HS.out k h1 h2
        have h2' : (k : Int) < 4 := by omega
        have hBr := hB.below_ kr
        have hr := HR.out wr kr (k : Int)
        have HT : Hid (topN c ps es (k + 1) = if rightN c ps es k = 0 then (k : Int) else topN c ps es k) := rfl
        generalize topN c ps es k = tk at *
        generalize rightN c ps es k = rn at *
        clear h2
        by_cases hrn : rn = 0
        · subst hrn
          have tok1 : True := trivial
          go_wp2_with (first | (have _t := tok1; refine wpList_load_row (o := ⟨some 16, _, _, _, _, _⟩) rfl 29 (.tmp 1) rfl w.heap.size rfl 29 _ _ _ hBr Tryd.underlying29 rfl hi ?_; clear tok1 _t) | (go_at_call 10; refine hr.mono ?_; rintro e w1 ⟨rfl, hb1⟩))
          go_roundg (gk - 1)
          case measure => omega
          case rel => exact ⟨k + 1, by omega, by go_num, by rw [HT.out]; simp, bnext kr hb1⟩
        · have t0 : (rn == 0) = false := by simpa using hrn
          have HRN := Lib.hid hrn
          clear hrn
          have tok1 : True := trivial
          go_wp2_with (first | (have _t := tok1; refine wpList_load_row (o := ⟨some 16, _, _, _, _, _⟩) rfl 29 (.tmp 1) rfl w.heap.size rfl 29 _ _ _ hBr Tryd.underlying29 rfl hi ?_; clear tok1 _t) | (go_at_call 10; refine hr.mono ?_; rintro e w1 ⟨rfl, hb1⟩))
          go_roundg (gk - 1)
          case measure => omega
          case rel => exact ⟨k + 1, by omega, by go_num, by rw [HT.out, if_neg HRN.out], bnext kr hb1⟩
      · have t2 : decide ((k : Int) < 4) = false := decide_eq_false (by omega)
        obtain rfl : k = m := HE.out k (by omega) (by omega)
        generalize topN c ps es k = tk at *
        clear h2
        go_wp2_with fail
        go_ret
        exact ⟨rfl, bnext kb kr⟩
    · have t1 : decide ((k : Int) < c.lv) = false := decide_eq_false h1
      obtain rfl : k = m := HE.out k (by omega) (by omega)
      generalize topN c ps es k = tk at *
      clear h1
      go_wp2_with fail
      go_ret
      exact ⟨rfl, bnext kb kr⟩
end Go.Proofs.YtknngjdcbldmgaaDoor
