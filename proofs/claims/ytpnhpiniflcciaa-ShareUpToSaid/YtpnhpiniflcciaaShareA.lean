/- Opers: their cells, their shares; the contracts of call.Part, share.Which, share.Of and of their references. -/
import Derived.Test.YtpnhpiniflcciaaPlan
import Derived.Test.YtpnhpiniflcciaaProg
namespace Go.Proofs.Ytpnhpiniflcciaa
set_option linter.unusedVariables false
set_option linter.unusedSimpArgs false
open Go.RowKit

structure Opr where
  (th op lv key a b h rg er ra rb rh n k fr fin : Int)

def oc (x : Opr) : List Value := [.int .i64 x.th, .int .i64 x.op, .int .i64 x.lv, .int .i64 x.key, .int .u64 x.a, .int .u64 x.b, .int .u64 x.h, .int .i64 x.rg, .int .i64 x.er, .int .u64 x.ra, .int .u64 x.rb, .int .u64 x.rh, .int .i64 x.n, .int .i64 x.k, .int .i64 x.fr, .int .i64 x.fin]
theorem oc_len (x : Opr) : (oc x).length = 16 := rfl
theorem oc_one (l : List Opr) : ∀ u ∈ l.flatMap oc, u.oneCell' = true := by
  intro u hu
  obtain ⟨p, _, hp⟩ := List.mem_flatMap.1 hu
  simp only [oc, List.mem_cons, List.not_mem_nil, or_false] at hp
  rcases hp with rfl | rfl | rfl | rfl | rfl | rfl | rfl | rfl | rfl | rfl | rfl | rfl | rfl | rfl | rfl | rfl <;> rfl
theorem info_o : (Try.prog.info? 35).map (fun i => (i.zero, i.size, i.bytes)) = some (some (.agg #[.int .i64 0, .int .i64 0, .int .i64 0, .int .i64 0, .int .u64 0, .int .u64 0, .int .u64 0, .int .i64 0, .int .i64 0, .int .u64 0, .int .u64 0, .int .u64 0, .int .i64 0, .int .i64 0, .int .i64 0, .int .i64 0]), 16, 128) := by kernel_rfl
theorem elem_o : ∃ i, Elem Try.prog 22 35 i (.agg #[.int .i64 0, .int .i64 0, .int .i64 0, .int .i64 0, .int .u64 0, .int .u64 0, .int .u64 0, .int .i64 0, .int .i64 0, .int .u64 0, .int .u64 0, .int .u64 0, .int .i64 0, .int .i64 0, .int .i64 0, .int .i64 0]) 16 128 := Elem.of Try.underlying22 info_o rfl (by decide)

/-- An op's part. -/
def partOf (op : Int) : Int := if 0 ≤ op ∧ op ≤ 11 then op / 3 else -1
def whichOk (o : Opr) : Bool := decide (0 ≤ o.op ∧ o.op ≤ 11 ∧ 0 ≤ o.lv ∧ o.lv ≤ 3)
def whichN (o : Opr) : Int := if whichOk o = true then 4 * o.lv + o.op / 3 else 0

set_option maxHeartbeats 1000000 in
theorem part_any (op : Int) (w : World) : Calls Try.prog 43 #[.int .i64 op] w fun e w' => e = .returned (.int .i64 (partOf op)) ∧ w = w' := by
  by_cases h : 0 ≤ op ∧ op ≤ 11
  · have h' : op = 0 ∨ op = 1 ∨ op = 2 ∨ op = 3 ∨ op = 4 ∨ op = 5 ∨ op = 6 ∨ op = 7 ∨ op = 8 ∨ op = 9 ∨ op = 10 ∨ op = 11 := by omega
    rcases h' with rfl | rfl | rfl | rfl | rfl | rfl | rfl | rfl | rfl | rfl | rfl | rfl
    all_goals
      go_enter Try.func43, Try.ntmps43
      go_wp2
      go_ret
      exact ⟨rfl, rfl⟩
  · have hE : Hid (partOf op = -1) := if_neg h
    have t0 : (op == 0) = false := by rw [beq_eq_false_iff_ne]; omega
    have t1 : (op == 1) = false := by rw [beq_eq_false_iff_ne]; omega
    have t2 : (op == 2) = false := by rw [beq_eq_false_iff_ne]; omega
    have t3 : (op == 3) = false := by rw [beq_eq_false_iff_ne]; omega
    have t4 : (op == 4) = false := by rw [beq_eq_false_iff_ne]; omega
    have t5 : (op == 5) = false := by rw [beq_eq_false_iff_ne]; omega
    have t6 : (op == 6) = false := by rw [beq_eq_false_iff_ne]; omega
    have t7 : (op == 7) = false := by rw [beq_eq_false_iff_ne]; omega
    have t8 : (op == 8) = false := by rw [beq_eq_false_iff_ne]; omega
    have t9 : (op == 9) = false := by rw [beq_eq_false_iff_ne]; omega
    have t10 : (op == 10) = false := by rw [beq_eq_false_iff_ne]; omega
    have t11 : (op == 11) = false := by rw [beq_eq_false_iff_ne]; omega
    clear h
    go_enter Try.func43, Try.ntmps43
    go_wp2
    go_ret
    exact ⟨by rw [hE.out]; rfl, rfl⟩

set_option maxHeartbeats 1000000 in
theorem rpart_any (op : Int) (w : World) : Calls Try.prog 44 #[.int .i64 op] w fun e w' => e = .returned (.int .i64 (partOf op)) ∧ w = w' := by
  by_cases h : 0 ≤ op ∧ op ≤ 11
  · have h' : op = 0 ∨ op = 1 ∨ op = 2 ∨ op = 3 ∨ op = 4 ∨ op = 5 ∨ op = 6 ∨ op = 7 ∨ op = 8 ∨ op = 9 ∨ op = 10 ∨ op = 11 := by omega
    rcases h' with rfl | rfl | rfl | rfl | rfl | rfl | rfl | rfl | rfl | rfl | rfl | rfl
    all_goals
      go_enter Try.func44, Try.ntmps44
      go_wp2
      go_ret
      exact ⟨rfl, rfl⟩
  · have hE : Hid (partOf op = -1) := if_neg h
    by_cases h0 : op < 0
    · clear h
      go_enter Try.func44, Try.ntmps44
      go_wp2
      go_ret
      exact ⟨by rw [hE.out]; rfl, rfl⟩
    · have h1 : 11 < op := by omega
      clear h
      go_enter Try.func44, Try.ntmps44
      go_wp2
      go_ret
      exact ⟨by rw [hE.out]; rfl, rfl⟩

set_option maxHeartbeats 1000000 in
theorem which_any (x : Opr) (w : World) : Calls Try.prog 14 #[.agg #[.int .i64 x.th, .int .i64 x.op, .int .i64 x.lv, .int .i64 x.key, .int .u64 x.a, .int .u64 x.b, .int .u64 x.h, .int .i64 x.rg, .int .i64 x.er, .int .u64 x.ra, .int .u64 x.rb, .int .u64 x.rh, .int .i64 x.n, .int .i64 x.k, .int .i64 x.fr, .int .i64 x.fin]] w fun e w' => e = .returned (.tuple #[.int .i64 (whichN x), .bool (whichOk x)]) ∧ Below w.heap.size w w' := by
  obtain ⟨q, hq⟩ : ∃ q, partOf x.op = q := ⟨_, rfl⟩
  have hpc := part_any x.op
  rw [hq] at hpc
  by_cases h : 0 ≤ x.op ∧ x.op ≤ 11
  · have hq1 : Hid (q = x.op / 3) := by rw [Hid, ← hq, partOf, if_pos h]
    have q0 : 0 ≤ q := by have := hq1.out; omega
    have q3 : q ≤ 3 := by have := hq1.out; omega
    by_cases h1 : 0 ≤ x.lv ∧ x.lv ≤ 3
    · have hE : Hid (whichN x = 4 * x.lv + q ∧ whichOk x = true) := by
        have e : whichOk x = true := decide_eq_true ⟨h.1, h.2, h1.1, h1.2⟩
        exact ⟨by rw [whichN, if_pos e, hq1.out], e⟩
      obtain ⟨h2, h3⟩ := h1
      have h4 : ¬ x.lv < 0 := by omega
      have h5 : ¬ 4 ≤ x.lv := by omega
      have h6 : ¬ 3 < x.lv := by omega
      clear h hq
      go_enter Try.func14, Try.ntmps14
      go_wp2_with (go_at_call 43; refine (hpc _).mono ?_; rintro e w' ⟨rfl, rfl⟩)
      go_ret2
      exact ⟨by rw [hE.out.1, hE.out.2]; rfl, (brefl w).alloc (Nat.le_refl _) _⟩
    · have hE : Hid (whichN x = 0 ∧ whichOk x = false) := by
        have e : whichOk x = false := decide_eq_false (by omega)
        exact ⟨by rw [whichN, if_neg (by rw [e]; decide)], e⟩
      clear h hq
      by_cases h2 : x.lv < 0
      · clear h1
        go_enter Try.func14, Try.ntmps14
        go_wp2_with (go_at_call 43; refine (hpc _).mono ?_; rintro e w' ⟨rfl, rfl⟩)
        go_ret2
        exact ⟨by rw [hE.out.1, hE.out.2]; rfl, (brefl w).alloc (Nat.le_refl _) _⟩
      · have h3 : 4 ≤ x.lv := by omega
        have h4 : 3 < x.lv := by omega
        clear h1
        go_enter Try.func14, Try.ntmps14
        go_wp2_with (go_at_call 43; refine (hpc _).mono ?_; rintro e w' ⟨rfl, rfl⟩)
        go_ret2
        exact ⟨by rw [hE.out.1, hE.out.2]; rfl, (brefl w).alloc (Nat.le_refl _) _⟩
  · have hq1 : q < 0 := by rw [← hq, partOf, if_neg h]; decide
    have hE : Hid (whichN x = 0 ∧ whichOk x = false) := by
      have e : whichOk x = false := decide_eq_false (by omega)
      exact ⟨by rw [whichN, if_neg (by rw [e]; decide)], e⟩
    clear h hq
    go_enter Try.func14, Try.ntmps14
    go_wp2_with (go_at_call 43; refine (hpc _).mono ?_; rintro e w' ⟨rfl, rfl⟩)
    go_ret2
    exact ⟨by rw [hE.out.1, hE.out.2]; rfl, (brefl w).alloc (Nat.le_refl _) _⟩

set_option maxHeartbeats 1000000 in
theorem rwhich_any (x : Opr) (w : World) : Calls Try.prog 15 #[.agg #[.int .i64 x.th, .int .i64 x.op, .int .i64 x.lv, .int .i64 x.key, .int .u64 x.a, .int .u64 x.b, .int .u64 x.h, .int .i64 x.rg, .int .i64 x.er, .int .u64 x.ra, .int .u64 x.rb, .int .u64 x.rh, .int .i64 x.n, .int .i64 x.k, .int .i64 x.fr, .int .i64 x.fin]] w fun e w' => e = .returned (.tuple #[.int .i64 (whichN x), .bool (whichOk x)]) ∧ Below w.heap.size w w' := by
  obtain ⟨q, hq⟩ : ∃ q, partOf x.op = q := ⟨_, rfl⟩
  have hpc := rpart_any x.op
  rw [hq] at hpc
  by_cases h : 0 ≤ x.op ∧ x.op ≤ 11
  · have hq1 : Hid (q = x.op / 3) := by rw [Hid, ← hq, partOf, if_pos h]
    have q0 : 0 ≤ q := by have := hq1.out; omega
    have q3 : q ≤ 3 := by have := hq1.out; omega
    by_cases h1 : 0 ≤ x.lv ∧ x.lv ≤ 3
    · have hE : Hid (whichN x = 4 * x.lv + q ∧ whichOk x = true) := by
        have e : whichOk x = true := decide_eq_true ⟨h.1, h.2, h1.1, h1.2⟩
        exact ⟨by rw [whichN, if_pos e, hq1.out], e⟩
      obtain ⟨h2, h3⟩ := h1
      have h4 : ¬ x.lv < 0 := by omega
      have h5 : ¬ 4 ≤ x.lv := by omega
      have h6 : ¬ 3 < x.lv := by omega
      clear h hq
      go_enter Try.func15, Try.ntmps15
      go_wp2_with (go_at_call 44; refine (hpc _).mono ?_; rintro e w' ⟨rfl, rfl⟩)
      go_ret2
      exact ⟨by rw [hE.out.1, hE.out.2]; rfl, (brefl w).alloc (Nat.le_refl _) _⟩
    · have hE : Hid (whichN x = 0 ∧ whichOk x = false) := by
        have e : whichOk x = false := decide_eq_false (by omega)
        exact ⟨by rw [whichN, if_neg (by rw [e]; decide)], e⟩
      clear h hq
      by_cases h2 : x.lv < 0
      · clear h1
        go_enter Try.func15, Try.ntmps15
        go_wp2_with (go_at_call 44; refine (hpc _).mono ?_; rintro e w' ⟨rfl, rfl⟩)
        go_ret2
        exact ⟨by rw [hE.out.1, hE.out.2]; rfl, (brefl w).alloc (Nat.le_refl _) _⟩
      · have h3 : 4 ≤ x.lv := by omega
        have h4 : 3 < x.lv := by omega
        clear h1
        go_enter Try.func15, Try.ntmps15
        go_wp2_with (go_at_call 44; refine (hpc _).mono ?_; rintro e w' ⟨rfl, rfl⟩)
        go_ret2
        exact ⟨by rw [hE.out.1, hE.out.2]; rfl, (brefl w).alloc (Nat.le_refl _) _⟩
  · have hq1 : q < 0 := by rw [← hq, partOf, if_neg h]; decide
    have hE : Hid (whichN x = 0 ∧ whichOk x = false) := by
      have e : whichOk x = false := decide_eq_false (by omega)
      exact ⟨by rw [whichN, if_neg (by rw [e]; decide)], e⟩
    clear h hq
    go_enter Try.func15, Try.ntmps15
    go_wp2_with (go_at_call 44; refine (hpc _).mono ?_; rintro e w' ⟨rfl, rfl⟩)
    go_ret2
    exact ⟨by rw [hE.out.1, hE.out.2]; rfl, (brefl w).alloc (Nat.le_refl _) _⟩
end Go.Proofs.Ytpnhpiniflcciaa
