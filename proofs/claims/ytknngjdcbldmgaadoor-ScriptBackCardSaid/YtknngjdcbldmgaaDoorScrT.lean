/- What a script that is right is; why Put gives none. -/
import Derived.Test.YtknngjdcbldmgaaDoorScrS
namespace Go.Proofs.YtknngjdcbldmgaaDoor
set_option linter.unusedVariables false
set_option linter.unusedSimpArgs false
open Go.RowKit

theorem right_ok {c : Cf} {ps : List (List CV)} {es : List En} (h : rightN c ps es (c.lv - 1) = 0) : mayB c = true ∧ ∀ e, e ∈ es → EnOk e := by
  unfold rightN at h
  by_cases hm : mayB c = false
  · rw [if_pos hm] at h; exact absurd h (by decide)
  rw [if_neg hm] at h
  have hm : mayB c = true := by simpa using hm
  have m : c.May := of_decide_eq_true hm
  by_cases ha : absB c ps es = true
  · rw [if_pos ha] at h; exact absurd h (by decide)
  rw [if_neg ha] at h
  by_cases hb : badB c ps es (c.lv - 1) = true
  · rw [if_pos hb] at h; exact absurd h (by decide)
  have ha : absB c ps es = false := by simpa using ha
  have hb : badB c ps es (c.lv - 1) = false := by simpa using hb
  refine ⟨hm, fun e he => ?_⟩
  rw [absB, Bool.or_eq_false_iff] at ha
  rw [badB, Bool.or_eq_false_iff] at hb
  have h1 : thB c e.th = true := by have := List.any_eq_false.1 ha.2 e he; simpa using this
  have h2 := List.any_eq_false.1 hb.2 e he
  have h3 : 0 ≤ e.th ∧ e.th < c.th := of_decide_eq_true h1
  have h4 := m.t2
  have h5 := m.r e.th.toNat (by omega)
  have h6 : eIn c (c.lv - 1) e = true := by
    refine decide_eq_true ?_
    unfold levelOf
    rw [if_pos ⟨hm, h3⟩]
    omega
  have h7 : ¬ (e.wh < 0 ∨ 3 < e.wh) := fun q => h2 (by rw [eBad, h6, decide_eq_true q]; rfl)
  exact ⟨h3.1, by omega, by omega, by omega⟩
set_option maxHeartbeats 4000000 in
set_option maxRecDepth 100000 in
theorem sput_no1 {w : World} {c : Cf} {us : List Value} {ps : List (List CV)} {EA : Option Addr} {en ec : Nat} {es : List En} (hP : PIn (fun _ => False) w us ps) (hE : Sl enc_ w EA en ec es) (hen : en ≤ 1000000) (hps : ∀ l, l ∈ ps → l.length ≤ 1000000) (hm : mayB c = true) {n : Int} (hn : n ≠ 0) (hR : ∀ lv, (mayB c = true → lv = c.lv - 1) → rightN c ps es lv = n) :
    Calls Tryd.prog 14 #[.agg (scc c us (.slice EA en ec)).toArray] w fun e w' => ∃ p : Nat, e = .returned (.tuple #[.slice none 0 0, .iface 89 (.pointer (some ⟨p, 0, none⟩))]) ∧ ErrAt w' (.iface 89 (.pointer (some ⟨p, 0, none⟩))) n ∧ Below w.heap.size w w' := by
  have h8 := hP.u8
  have m : c.May := of_decide_eq_true hm
  have hlv1 := m.l1
  have hlv2 := m.l2
  have hi := info_scc (c := c) (ev := .slice EA en ec) h8
  obtain ⟨W0, hW0, hB, kb⟩ : ∃ W0, w.alloc (.cells (scc c us (.slice EA en ec)).toArray 29) = W0 ∧ Blk W0 w.heap.size 29 (scc c us (.slice EA en ec)).toArray ∧ Below w.heap.size w W0 := ⟨_, rfl, Blk.new _ _ _, bnew (brefl w) _⟩
  have x0 : W0.cell? ⟨w.heap.size, 0, none⟩ = some (.int .i64 c.lv) := hB.cell 0
  have hr : ∀ lv, (mayB c = true → lv = c.lv - 1) → Calls Tryd.prog 9 #[.agg (scc c us (.slice EA en ec)).toArray, .int .i64 lv] W0 fun e w' => ∃ p : Nat, e = .returned (.iface 89 (.pointer (some ⟨p, 0, none⟩))) ∧ ErrAt w' (.iface 89 (.pointer (some ⟨p, 0, none⟩))) n ∧ Below W0.heap.size W0 w' := fun lv hl => (right_any (w := W0) (c := c) (hP.below kb) (hE.below kb) hen hps lv).mono fun e w' ⟨v, h1, h2, h3⟩ => by
    rw [hR lv hl] at h2
    rcases h2 with ⟨a, _⟩ | ⟨a, p, rfl, hc⟩
    · exact absurd a hn
    · exact ⟨p, h1, .inr ⟨a, p, rfl, hc⟩, h3⟩
  have hz := hB.lt
  have HM := Lib.hid hm
  have HRR := Lib.hid hr
  clear hP hE h8 hm hR hn hr m
  generalize scc c us (.slice EA en ec) = cs at *
  go_enter Tryd.func14, Tryd.ntmps14
  go_upto_region 1 with (fail)
  have tok1 : True := trivial
  go_wp2_with (first | (have _t := tok1; refine wpList_load_row (o := ⟨some 11, _, _, _, _, _⟩) rfl 29 (.tmp 1) rfl w.heap.size rfl 29 _ _ _ hB Tryd.underlying29 rfl hi ?_; clear tok1 _t) | (go_at_call 9; refine (HRR.out _ (fun _ => rfl)).mono ?_; rintro e w1 ⟨p, rfl, hv, hb1⟩))
  go_ret2
  exact ⟨p, rfl, hv, bnext kb hb1⟩
set_option maxHeartbeats 4000000 in
set_option maxRecDepth 100000 in
theorem sput_no2 {w : World} {c : Cf} {us : List Value} {ps : List (List CV)} {EA : Option Addr} {en ec : Nat} {es : List En} (hP : PIn (fun _ => False) w us ps) (hE : Sl enc_ w EA en ec es) (hen : en ≤ 1000000) (hps : ∀ l, l ∈ ps → l.length ≤ 1000000) (hm : mayB c = false) {n : Int} (hn : n ≠ 0) (hR : ∀ lv, (mayB c = true → lv = c.lv - 1) → rightN c ps es lv = n) :
    Calls Tryd.prog 14 #[.agg (scc c us (.slice EA en ec)).toArray] w fun e w' => ∃ p : Nat, e = .returned (.tuple #[.slice none 0 0, .iface 89 (.pointer (some ⟨p, 0, none⟩))]) ∧ ErrAt w' (.iface 89 (.pointer (some ⟨p, 0, none⟩))) n ∧ Below w.heap.size w w' := by
  have h8 := hP.u8
  
  
  
  have hi := info_scc (c := c) (ev := .slice EA en ec) h8
  obtain ⟨W0, hW0, hB, kb⟩ : ∃ W0, w.alloc (.cells (scc c us (.slice EA en ec)).toArray 29) = W0 ∧ Blk W0 w.heap.size 29 (scc c us (.slice EA en ec)).toArray ∧ Below w.heap.size w W0 := ⟨_, rfl, Blk.new _ _ _, bnew (brefl w) _⟩
  have x0 : W0.cell? ⟨w.heap.size, 0, none⟩ = some (.int .i64 c.lv) := hB.cell 0
  have hr : ∀ lv, (mayB c = true → lv = c.lv - 1) → Calls Tryd.prog 9 #[.agg (scc c us (.slice EA en ec)).toArray, .int .i64 lv] W0 fun e w' => ∃ p : Nat, e = .returned (.iface 89 (.pointer (some ⟨p, 0, none⟩))) ∧ ErrAt w' (.iface 89 (.pointer (some ⟨p, 0, none⟩))) n ∧ Below W0.heap.size W0 w' := fun lv hl => (right_any (w := W0) (c := c) (hP.below kb) (hE.below kb) hen hps lv).mono fun e w' ⟨v, h1, h2, h3⟩ => by
    rw [hR lv hl] at h2
    rcases h2 with ⟨a, _⟩ | ⟨a, p, rfl, hc⟩
    · exact absurd a hn
    · exact ⟨p, h1, .inr ⟨a, p, rfl, hc⟩, h3⟩
  have hz := hB.lt
  have HM := Lib.hid hm
  have HRR := Lib.hid hr
  clear hP hE h8 hm hR hn hr 
  generalize scc c us (.slice EA en ec) = cs at *
  go_enter Tryd.func14, Tryd.ntmps14
  go_upto_region 1 with (fail)
  have tok1 : True := trivial
  go_wp2_with (first | (have _t := tok1; refine wpList_load_row (o := ⟨some 11, _, _, _, _, _⟩) rfl 29 (.tmp 1) rfl w.heap.size rfl 29 _ _ _ hB Tryd.underlying29 rfl hi ?_; clear tok1 _t) | (go_at_call 9; refine (HRR.out _ (fun q => by rw [HM.out] at q; cases q)).mono ?_; rintro e w1 ⟨p, rfl, hv, hb1⟩))
  go_ret2
  exact ⟨p, rfl, hv, bnext kb hb1⟩
end Go.Proofs.YtknngjdcbldmgaaDoor
