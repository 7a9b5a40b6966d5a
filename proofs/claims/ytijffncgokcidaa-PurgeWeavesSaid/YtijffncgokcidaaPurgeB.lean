/- Scripts in memory; what is above a level. -/
import Derived.Test.YtijffncgokcidaaPurge
namespace Go.Proofs.Ytijffncgokcidaa
set_option linter.unusedVariables false
set_option linter.unusedSimpArgs false
open Go.RowKit

/-- A script's cells. -/
def scc (c : Cf) (us : List Value) (ev : Value) : List Value := cfc c ++ (us ++ [ev])
theorem scc_len {c : Cf} {us : List Value} {ev : Value} (h : us.length = 8) : (scc c us ev).length = 23 := by
  unfold scc
  rw [List.length_append, List.length_append, cfc_len, h]
  rfl
theorem scc_get {c : Cf} {us : List Value} {ev : Value} {k : Nat} {v : Value} (h : us[k]? = some v) : (scc c us ev)[14 + k]? = some v := by
  unfold scc
  rw [List.getElem?_append_right (by rw [cfc_len]; omega), cfc_len, Nat.add_sub_cancel_left, List.getElem?_append_left (List.getElem?_eq_some_iff.1 h).1]
  exact h
theorem scc_last {c : Cf} {us : List Value} {ev : Value} (h : us.length = 8) : (scc c us ev)[22]? = some ev := by
  unfold scc
  rw [List.getElem?_append_right (by rw [cfc_len]; omega), cfc_len, List.getElem?_append_right (by omega), h]
  rfl
theorem scc_conf (c : Cf) (us : List Value) (ev : Value) : ((scc c us ev).drop 0).take (cfc c).length = cfc c := by
  unfold scc
  rw [List.drop_zero]
  exact List.take_left
theorem scc_ps {c : Cf} {us : List Value} {ev : Value} : ((scc c us ev).drop 14).take us.length = us := by
  unfold scc
  rw [List.drop_append_of_le_length (by rw [cfc_len]; omega), List.drop_eq_nil_of_le (by rw [cfc_len]; omega), List.nil_append]
  exact List.take_left
theorem scc_set {c : Cf} {us : List Value} {ev : Value} {k : Nat} (hk : k < us.length) (v : Value) : (scc c us ev).set (14 + k) v = scc c (us.set k v) ev := by
  unfold scc
  rw [List.set_append_right _ _ (by rw [cfc_len]; omega), cfc_len, Nat.add_sub_cancel_left, List.set_append_left _ _ hk]
theorem scc_setl {c : Cf} {us : List Value} {ev : Value} (h : us.length = 8) (v : Value) : (scc c us ev).set 22 v = scc c us v := by
  unfold scc
  rw [List.set_append_right _ _ (by rw [cfc_len]; omega), cfc_len, List.set_append_right _ _ (by omega), h]
  rfl
theorem info_scc {c : Cf} {us : List Value} {ev : Value} (h : us.length = 8) : (Try.prog.info? 29).map (·.size) = some (scc c us ev).toArray.size := by rw [List.size_toArray, scc_len h]; kernel_rfl
/-- Is a thread above a level? -/
def abB (c : Cf) (t lv : Int) : Bool := decide (0 ≤ levelOf c t ∧ lv < levelOf c t)
set_option maxHeartbeats 4000000 in
set_option maxRecDepth 100000 in
theorem above_any (c : Cf) (us : List Value) (ev : Value) (t lv : Int) (w : World) : Calls Try.prog 19 #[.agg (scc c us ev).toArray, .int .i64 t, .int .i64 lv] w fun e w' => e = .returned (.bool (abB c t lv)) ∧ Below w.heap.size w w' := by
  have hl := level_any c t
  have r0 : ∀ w : World, (w.alloc (.cells (scc c us ev).toArray 29)).rangeAt w.heap.size 0 [.int .i64 c.lv, .int .i64 c.th, .int .i64 c.o0, .int .i64 c.o1, .int .i64 c.o2, .int .i64 c.o3, .int .i64 c.o4, .int .i64 c.o5, .int .i64 c.o6, .int .i64 c.o7, .int .i64 c.sl, .int .i64 c.li, .int .i64 c.ge, .int .i64 c.qu] := fun w => range_blk (Blk.new w 29 _) 0 (scc_conf c us ev)
  have HV : Hid (abB c t lv = decide (0 ≤ levelOf c t ∧ lv < levelOf c t)) := rfl
  generalize levelOf c t = v at *
  by_cases h0 : 0 ≤ v
  · by_cases h1 : lv < v
    · have HE : Hid (abB c t lv = true) := by rw [Hid, HV.out]; exact decide_eq_true ⟨h0, h1⟩
      clear HV
      generalize scc c us ev = cs at *
      go_enter Try.func19, Try.ntmps19
      go_wp2_with (first | (refine wpList_load_mid (op := ⟨some 9, _, _, _, _, _⟩) rfl 24 (.tmp 8) rfl w.heap.size 0 rfl [.int .i64 c.lv, .int .i64 c.th, .int .i64 c.o0, .int .i64 c.o1, .int .i64 c.o2, .int .i64 c.o3, .int .i64 c.o4, .int .i64 c.o5, .int .i64 c.o6, .int .i64 c.o7, .int .i64 c.sl, .int .i64 c.li, .int .i64 c.ge, .int .i64 c.qu] _ (r0 _) Try.underlying24 rfl (by kernel_rfl) ?_) | (go_at_call 23; refine (hl _).mono ?_; rintro e w1 ⟨rfl, hb1⟩))
      go_ret
      exact ⟨by rw [HE.out]; rfl, bnext (bnew (brefl w) _) hb1⟩
    · have HE : Hid (abB c t lv = false) := by rw [Hid, HV.out]; exact decide_eq_false (fun h => h1 h.2)
      have t1 : decide (lv < v) = false := decide_eq_false h1
      clear HV h1
      generalize scc c us ev = cs at *
      go_enter Try.func19, Try.ntmps19
      go_wp2_with (first | (refine wpList_load_mid (op := ⟨some 9, _, _, _, _, _⟩) rfl 24 (.tmp 8) rfl w.heap.size 0 rfl [.int .i64 c.lv, .int .i64 c.th, .int .i64 c.o0, .int .i64 c.o1, .int .i64 c.o2, .int .i64 c.o3, .int .i64 c.o4, .int .i64 c.o5, .int .i64 c.o6, .int .i64 c.o7, .int .i64 c.sl, .int .i64 c.li, .int .i64 c.ge, .int .i64 c.qu] _ (r0 _) Try.underlying24 rfl (by kernel_rfl) ?_) | (go_at_call 23; refine (hl _).mono ?_; rintro e w1 ⟨rfl, hb1⟩))
      go_ret
      exact ⟨by rw [HE.out]; rfl, bnext (bnew (brefl w) _) hb1⟩
  · have HE : Hid (abB c t lv = false) := by rw [Hid, HV.out]; exact decide_eq_false (fun h => h0 h.1)
    have t1 : decide (0 ≤ v) = false := decide_eq_false h0
    clear HV h0
    generalize scc c us ev = cs at *
    go_enter Try.func19, Try.ntmps19
    go_wp2_with (first | (refine wpList_load_mid (op := ⟨some 9, _, _, _, _, _⟩) rfl 24 (.tmp 8) rfl w.heap.size 0 rfl [.int .i64 c.lv, .int .i64 c.th, .int .i64 c.o0, .int .i64 c.o1, .int .i64 c.o2, .int .i64 c.o3, .int .i64 c.o4, .int .i64 c.o5, .int .i64 c.o6, .int .i64 c.o7, .int .i64 c.sl, .int .i64 c.li, .int .i64 c.ge, .int .i64 c.qu] _ (r0 _) Try.underlying24 rfl (by kernel_rfl) ?_) | (go_at_call 23; refine (hl _).mono ?_; rintro e w1 ⟨rfl, hb1⟩))
    go_ret
    exact ⟨by rw [HE.out]; rfl, bnext (bnew (brefl w) _) hb1⟩
set_option maxHeartbeats 4000000 in
set_option maxRecDepth 100000 in
theorem rabove_any (c : Cf) (t lv : Int) (w : World) : Calls Try.prog 20 #[.agg #[.int .i64 c.lv, .int .i64 c.th, .int .i64 c.o0, .int .i64 c.o1, .int .i64 c.o2, .int .i64 c.o3, .int .i64 c.o4, .int .i64 c.o5, .int .i64 c.o6, .int .i64 c.o7, .int .i64 c.sl, .int .i64 c.li, .int .i64 c.ge, .int .i64 c.qu], .int .i64 t, .int .i64 lv] w fun e w' => e = .returned (.bool (abB c t lv)) ∧ Below w.heap.size w w' := by
  have hl := rlevel_any c t
  have r0 : ∀ w : World, (w.alloc (.cells #[.int .i64 c.lv, .int .i64 c.th, .int .i64 c.o0, .int .i64 c.o1, .int .i64 c.o2, .int .i64 c.o3, .int .i64 c.o4, .int .i64 c.o5, .int .i64 c.o6, .int .i64 c.o7, .int .i64 c.sl, .int .i64 c.li, .int .i64 c.ge, .int .i64 c.qu] 24)).rangeAt w.heap.size 0 [.int .i64 c.lv, .int .i64 c.th, .int .i64 c.o0, .int .i64 c.o1, .int .i64 c.o2, .int .i64 c.o3, .int .i64 c.o4, .int .i64 c.o5, .int .i64 c.o6, .int .i64 c.o7, .int .i64 c.sl, .int .i64 c.li, .int .i64 c.ge, .int .i64 c.qu] := fun w => range_blk (l := [.int .i64 c.lv, .int .i64 c.th, .int .i64 c.o0, .int .i64 c.o1, .int .i64 c.o2, .int .i64 c.o3, .int .i64 c.o4, .int .i64 c.o5, .int .i64 c.o6, .int .i64 c.o7, .int .i64 c.sl, .int .i64 c.li, .int .i64 c.ge, .int .i64 c.qu]) (Blk.new w 24 _) 0 rfl
  have HV : Hid (abB c t lv = decide (0 ≤ levelOf c t ∧ lv < levelOf c t)) := rfl
  generalize levelOf c t = v at *
  by_cases h0 : 0 ≤ v
  · by_cases h1 : lv < v
    · have HE : Hid (abB c t lv = true) := by rw [Hid, HV.out]; exact decide_eq_true ⟨h0, h1⟩
      clear HV
      go_enter Try.func20, Try.ntmps20
      go_wp2_with (first | (refine wpList_load_mid (op := ⟨some 8, _, _, _, _, _⟩) rfl 24 (.tmp 3) rfl w.heap.size 0 rfl [.int .i64 c.lv, .int .i64 c.th, .int .i64 c.o0, .int .i64 c.o1, .int .i64 c.o2, .int .i64 c.o3, .int .i64 c.o4, .int .i64 c.o5, .int .i64 c.o6, .int .i64 c.o7, .int .i64 c.sl, .int .i64 c.li, .int .i64 c.ge, .int .i64 c.qu] _ (r0 _) Try.underlying24 rfl (by kernel_rfl) ?_) | (go_at_call 24; refine (hl _).mono ?_; rintro e w1 ⟨rfl, hb1⟩))
      go_ret
      exact ⟨by rw [HE.out]; rfl, bnext (bnew (brefl w) _) hb1⟩
    · have HE : Hid (abB c t lv = false) := by rw [Hid, HV.out]; exact decide_eq_false (fun h => h1 h.2)
      have t1 : decide (lv < v) = false := decide_eq_false h1
      clear HV h1
      go_enter Try.func20, Try.ntmps20
      go_wp2_with (first | (refine wpList_load_mid (op := ⟨some 8, _, _, _, _, _⟩) rfl 24 (.tmp 3) rfl w.heap.size 0 rfl [.int .i64 c.lv, .int .i64 c.th, .int .i64 c.o0, .int .i64 c.o1, .int .i64 c.o2, .int .i64 c.o3, .int .i64 c.o4, .int .i64 c.o5, .int .i64 c.o6, .int .i64 c.o7, .int .i64 c.sl, .int .i64 c.li, .int .i64 c.ge, .int .i64 c.qu] _ (r0 _) Try.underlying24 rfl (by kernel_rfl) ?_) | (go_at_call 24; refine (hl _).mono ?_; rintro e w1 ⟨rfl, hb1⟩))
      go_ret
      exact ⟨by rw [HE.out]; rfl, bnext (bnew (brefl w) _) hb1⟩
  · have HE : Hid (abB c t lv = false) := by rw [Hid, HV.out]; exact decide_eq_false (fun h => h0 h.1)
    have t1 : decide (0 ≤ v) = false := decide_eq_false h0
    clear HV h0
    go_enter Try.func20, Try.ntmps20
    go_wp2_with (first | (refine wpList_load_mid (op := ⟨some 8, _, _, _, _, _⟩) rfl 24 (.tmp 3) rfl w.heap.size 0 rfl [.int .i64 c.lv, .int .i64 c.th, .int .i64 c.o0, .int .i64 c.o1, .int .i64 c.o2, .int .i64 c.o3, .int .i64 c.o4, .int .i64 c.o5, .int .i64 c.o6, .int .i64 c.o7, .int .i64 c.sl, .int .i64 c.li, .int .i64 c.ge, .int .i64 c.qu] _ (r0 _) Try.underlying24 rfl (by kernel_rfl) ?_) | (go_at_call 24; refine (hl _).mono ?_; rintro e w1 ⟨rfl, hb1⟩))
    go_ret
    exact ⟨by rw [HE.out]; rfl, bnext (bnew (brefl w) _) hb1⟩
set_option maxHeartbeats 4000000 in
set_option maxRecDepth 100000 in
theorem to1_any {c : Cf} {us : List Value} {ev : Value} {q1 q2 : Nat} {lv : Int} {w : World} (h8 : us.length = 8) (h1 : Blk w q1 29 (scc c us ev).toArray) (h2 : w.cell? ⟨q2, 0, none⟩ = some (.int .i64 lv)) (t : Int) : Calls Try.prog 18 #[.int .i64 t, .pointer (some ⟨q1, 0, none⟩), .pointer (some ⟨q2, 0, none⟩)] w fun e w' => e = .returned (.bool (!abB c t lv)) ∧ Below w.heap.size w w' := by
  have ha := above_any c us ev t lv
  have hi := info_scc (c := c) (ev := ev) h8
  generalize scc c us ev = cs at *
  go_enter Try.func18, Try.ntmps18
  go_wp2_with (first | (refine wpList_load_row (o := ⟨some 5, _, _, _, _, _⟩) rfl 29 (.tmp 1) rfl q1 rfl 29 _ _ _ h1 Try.underlying29 rfl hi ?_) | (go_at_call 19; refine (ha _).mono ?_; rintro e w1 ⟨rfl, hb1⟩))
  go_ret
  exact ⟨rfl, hb1⟩
set_option maxHeartbeats 4000000 in
set_option maxRecDepth 100000 in
theorem ab1_any {c : Cf} {us : List Value} {ev : Value} {q1 q2 : Nat} {lv : Int} {w : World} (h8 : us.length = 8) (h1 : Blk w q1 29 (scc c us ev).toArray) (h2 : w.cell? ⟨q2, 0, none⟩ = some (.int .i64 lv)) (t : Int) : Calls Try.prog 21 #[.int .i64 t, .pointer (some ⟨q1, 0, none⟩), .pointer (some ⟨q2, 0, none⟩)] w fun e w' => e = .returned (.bool (abB c t lv)) ∧ Below w.heap.size w w' := by
  have ha := above_any c us ev t lv
  have hi := info_scc (c := c) (ev := ev) h8
  generalize scc c us ev = cs at *
  go_enter Try.func21, Try.ntmps21
  go_wp2_with (first | (refine wpList_load_row (o := ⟨some 5, _, _, _, _, _⟩) rfl 29 (.tmp 1) rfl q1 rfl 29 _ _ _ h1 Try.underlying29 rfl hi ?_) | (go_at_call 19; refine (ha _).mono ?_; rintro e w1 ⟨rfl, hb1⟩))
  go_ret
  exact ⟨rfl, hb1⟩
set_option maxHeartbeats 4000000 in
set_option maxRecDepth 100000 in
theorem great_any {c : Cf} {us : List Value} {A : Option Addr} {n d : Nat} {w : World} (h8 : us.length = 8) : Calls Try.prog 6 #[.agg (scc c us (.slice A n d)).toArray] w fun e w' => e = .returned (.bool (decide (2000 < (n : Int)))) ∧ Below w.heap.size w w' := by
  have c22 : ∀ w : World, (w.alloc (.cells (scc c us (.slice A n d)).toArray 29)).cell? ⟨w.heap.size, 22, none⟩ = some (.slice A n d) := fun w => ((Blk.new w 29 _).cell 22).trans (by rw [List.getElem?_toArray]; exact scc_last h8)
  generalize scc c us (.slice A n d) = cs at *
  go_enter Try.func6, Try.ntmps6
  go_upto_region 1 with (fail)
  have c22 := c22 w
  obtain ⟨W0, hW0, kb⟩ : ∃ W0, w.alloc (.cells cs.toArray 29) = W0 ∧ Below w.heap.size w W0 := ⟨_, rfl, bnew (brefl w) _⟩
  rw [hW0] at c22 ⊢
  clear hW0
  go_wp2
  go_ret
  exact ⟨rfl, kb⟩
end Go.Proofs.Ytijffncgokcidaa
