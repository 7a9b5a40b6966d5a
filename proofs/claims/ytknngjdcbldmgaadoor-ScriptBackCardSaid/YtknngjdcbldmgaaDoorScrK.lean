/- A writer of configurations and calls. -/
import Derived.Test.YtknngjdcbldmgaaDoorScrJ
namespace Go.Proofs.YtknngjdcbldmgaaDoor
set_option linter.unusedVariables false
set_option linter.unusedSimpArgs false
open Go.RowKit

theorem WB.alloc {w : World} {B p : Nat} {bs : List Int} (h : WB w B p bs) (o : Obj) : WB (w.alloc o) B p bs := by
  obtain ⟨A, n, c, h1, h2, h3⟩ := h
  exact ⟨A, n, c, h1.alloc o, h2.alloc o, h3⟩
theorem KP.alloc {B : Nat} {a b : World} (h : KP B a b) (hB : B ≤ b.heap.size) (o : Obj) : KP B a (b.alloc o) := ⟨h.b.alloc hB o, Nat.le_trans h.s (by simp), fun q T cs h1 h2 h3 => (h.k q T cs h1 h2 h3).alloc o⟩
def PutR (w : World) (B p : Nat) (bs : List Int) (e : Ending) (w' : World) : Prop := e = .returned (.tuple #[]) ∧ WB w' B p bs ∧ KP B w w'
theorem put_new {w : World} {B p : Nat} {bs : List Int} (sz m : Nat) (ns : List Int) (hW : WB w B p bs) (hm : ns.length = m) (hU : ∀ x, x ∈ ns → U64 x) (hs : sz ≤ 8) (hml : m ≤ 4) (hl : bs.length ≤ 900000000) (hBw : B ≤ w.heap.size) :
    Calls Tryd.prog 29 #[.pointer (some ⟨p, 0, none⟩), .int .i64 sz, .slice (some ⟨w.heap.size, 0, none⟩) m m] (w.alloc (.cells (ns.map uc).toArray 59)) (PutR w B p (bs ++ ns.flatMap (num sz))) := by
  subst hm
  have h1 : ns.length * sz ≤ 4 * 8 := Nat.mul_le_mul hml hs
  refine (put_any (hW.alloc _) (Blk.new _ _ _) hU hs (by omega) (by omega) (Nat.le_trans hBw (by simp))).mono ?_
  rintro e w' ⟨a, b, c⟩
  exact ⟨a, b, ((KP.refl B w).alloc hBw _).trans c⟩
theorem wrap_u (x : Int) : U64 (IntKind.u64.wrap x) := by rw [IntKind.wrap_u64]; unfold U64; omega
def ub (s : Nat) (x : Int) : List Int := num s (IntKind.u64.wrap x)
theorem ub_len (s : Nat) (x : Int) : (ub s x).length = s := num_len _ _
theorem ubs_len (s : Nat) (l : List Int) : (l.flatMap (ub s)).length = l.length * s := by
  induction l with
  | nil => simp
  | cons a t ih => rw [List.flatMap_cons, List.length_append, ih, ub_len, List.length_cons, Nat.succ_mul]; omega
theorem put_w {w : World} {B p : Nat} {bs : List Int} (sz m : Nat) (xs : List Int) (hW : WB w B p bs) (hm : xs.length = m) (hs : sz ≤ 8) (hml : m ≤ 4) (hl : bs.length ≤ 900000000) (hBw : B ≤ w.heap.size) :
    Calls Tryd.prog 29 #[.pointer (some ⟨p, 0, none⟩), .int .i64 sz, .slice (some ⟨w.heap.size, 0, none⟩) m m] (w.alloc (.cells ((xs.map IntKind.u64.wrap).map uc).toArray 59)) (PutR w B p (bs ++ xs.flatMap (ub sz))) := by
  have h := put_new sz m (xs.map IntKind.u64.wrap) hW (by simpa using hm) (fun x hx => by obtain ⟨y, _, rfl⟩ := List.mem_map.1 hx; exact wrap_u y) hs hml hl hBw
  rw [List.flatMap_map] at h
  exact h
def ofW (c : Cf) (k : Nat) : List Int := (List.range k).flatMap (fun k => ub 1 (c.of k))
theorem ofW_len (c : Cf) : ∀ k, (ofW c k).length = k
  | 0 => rfl
  | k + 1 => by have := ofW_len c k; unfold ofW at *; rw [List.range_succ, List.flatMap_append, List.length_append, this]; simp [ub_len]
theorem ofW_step (c : Cf) (k : Nat) : ofW c (k + 1) = ofW c k ++ [c.of k].flatMap (ub 1) := by unfold ofW; rw [List.range_succ, List.flatMap_append]; simp
def confW (c : Cf) : List Int := [c.lv, c.th].flatMap (ub 1) ++ (ofW c 8 ++ ([c.sl, c.li].flatMap (ub 1) ++ ([c.ge].flatMap (ub 3) ++ [c.qu].flatMap (ub 1))))
theorem confW_len (c : Cf) : (confW c).length = 16 := by simp only [confW, List.length_append, ubs_len, ofW_len]; rfl
theorem idx8 (c : Cf) {k : Nat} (hk : k < 8) (w : World) : (Instr.index 22 (.agg #[.int .i64 c.o0, .int .i64 c.o1, .int .i64 c.o2, .int .i64 c.o3, .int .i64 c.o4, .int .i64 c.o5, .int .i64 c.o6, .int .i64 c.o7]) (.int .i64 (k : Int))).run Tryd.prog w = .ok (.int .i64 (c.of k)) w := by
  rcases (by omega : k = 0 ∨ k = 1 ∨ k = 2 ∨ k = 3 ∨ k = 4 ∨ k = 5 ∨ k = 6 ∨ k = 7) with rfl | rfl | rfl | rfl | rfl | rfl | rfl | rfl <;> kernel_rfl
set_option maxHeartbeats 4000000 in
set_option maxRecDepth 100000 in
theorem wconf_any {w : World} {B p : Nat} {bs : List Int} (c : Cf) (hW : WB w B p bs) (hl : bs.length ≤ 800000000) (hBw : B ≤ w.heap.size) :
    Calls Tryd.prog 28 #[.pointer (some ⟨p, 0, none⟩), .agg #[.int .i64 c.lv, .int .i64 c.th, .int .i64 c.o0, .int .i64 c.o1, .int .i64 c.o2, .int .i64 c.o3, .int .i64 c.o4, .int .i64 c.o5, .int .i64 c.o6, .int .i64 c.o7, .int .i64 c.sl, .int .i64 c.li, .int .i64 c.ge, .int .i64 c.qu]] w (PutR w B p (bs ++ confW c)) := by
  obtain ⟨W0, hW0, hB, kb, hW1, hB1⟩ : ∃ W0, w.alloc (.cells #[.int .i64 c.lv, .int .i64 c.th, .int .i64 c.o0, .int .i64 c.o1, .int .i64 c.o2, .int .i64 c.o3, .int .i64 c.o4, .int .i64 c.o5, .int .i64 c.o6, .int .i64 c.o7, .int .i64 c.sl, .int .i64 c.li, .int .i64 c.ge, .int .i64 c.qu] 24) = W0 ∧ Blk W0 w.heap.size 24 #[.int .i64 c.lv, .int .i64 c.th, .int .i64 c.o0, .int .i64 c.o1, .int .i64 c.o2, .int .i64 c.o3, .int .i64 c.o4, .int .i64 c.o5, .int .i64 c.o6, .int .i64 c.o7, .int .i64 c.sl, .int .i64 c.li, .int .i64 c.ge, .int .i64 c.qu] ∧ KP B w W0 ∧ WB W0 B p bs ∧ B ≤ W0.heap.size := ⟨_, rfl, Blk.new _ _ _, (KP.refl B w).alloc hBw _, hW.alloc _, Nat.le_trans hBw (by simp)⟩
  have x0 := hB.cell 0
  have x1 := hB.cell 1
  have hz := hB.lt
  have HB := Lib.hid (fun w' (kp : KP B W0 w') => kp.k _ _ _ (by decide) (by decide) hB)
  clear hW hB
  go_enter Tryd.func28, Tryd.ntmps28
  go_upto_region 1 with (fail)
  go_upto_region 2 with (go_at_call 29; refine (put_w 1 2 [c.lv, c.th] hW1 rfl (by omega) (by omega) (by omega) hB1).mono ?_; rintro e w1 ⟨rfl, hW2, kp1⟩)
  have D1 := HB.out w1 kp1
  have y2 := D1.cell 2
  have y3 := D1.cell 3
  have y4 := D1.cell 4
  have y5 := D1.cell 5
  have y6 := D1.cell 6
  have y7 := D1.cell 7
  have y8 := D1.cell 8
  have y9 := D1.cell 9
  have z1 := D1.lt
  have hl2 : (bs ++ [c.lv, c.th].flatMap (ub 1)).length ≤ 800000100 := by rw [List.length_append, ubs_len]; simp; omega
  clear x0 x1 hW1
  go_wp2_with fail
  go_loopg [17] 8 (fun gk i wr => ∃ k : Nat, k + gk = 8 ∧ i = .int .i64 k ∧ WB wr B p ((bs ++ [c.lv, c.th].flatMap (ub 1)) ++ ofW c k) ∧ KP B W0 wr)
  case atStart => exact ⟨0, by omega, rfl, by simpa [ofW] using hW2, kp1⟩
  case round =>
    clear y2 y3 y4 y5 y6 y7 y8 y9 D1 z1 kp1 hW2
    obtain ⟨k, hk, rfl, hW2, kp1⟩ := hrel
    have kz := kp1.s
    have hBr : B ≤ wr.heap.size := by omega
    by_cases hlt : k < 8
    · have b0 : (0 : Int) ≤ (k : Int) := by omega
      have b1 : (k : Int) < 8 := by omega
      have hl3 : ((bs ++ [c.lv, c.th].flatMap (ub 1)) ++ ofW c k).length ≤ 900000000 := by rw [List.length_append, ofW_len]; omega
      have hix := idx8 c hlt
      go_wp2_with (go_at_call 29; refine (put_w 1 1 [c.of k] hW2 rfl (by omega) (by omega) hl3 hBr).mono ?_; rintro e w2 ⟨rfl, hW3, kp2⟩)
      go_roundg (gk - 1)
      case measure => omega
      case rel => exact ⟨k + 1, by omega, by go_num, by rw [ofW_step, ← List.append_assoc]; exact hW3, kp1.trans kp2⟩
    · have t9 : decide (k < 8) = false := decide_eq_false (by omega)
      obtain rfl : k = 8 := by omega
      have D1 := HB.out _ kp1
      have y10 := D1.cell 10
      have y11 := D1.cell 11
      have y12 := D1.cell 12
      have y13 := D1.cell 13
      have z1 := D1.lt
      have hl3 : ((bs ++ [c.lv, c.th].flatMap (ub 1)) ++ ofW c 8).length ≤ 800000200 := by rw [List.length_append, ofW_len]; omega
      clear hlt hk
      go_upto_region 8 with (go_at_call 29; refine (put_w 1 2 [c.sl, c.li] hW2 rfl (by omega) (by omega) (by omega) hBr).mono ?_; rintro e w3 ⟨rfl, hW3, kp3⟩)
      have kp4 := kp1.trans kp3
      have D3 := HB.out _ kp4
      have v12 := D3.cell 12
      have z3 := D3.lt
      have kz3 := kp4.s
      have hB3 : B ≤ w3.heap.size := by omega
      have hl4 : (((bs ++ [c.lv, c.th].flatMap (ub 1)) ++ ofW c 8) ++ [c.sl, c.li].flatMap (ub 1)).length ≤ 800000300 := by rw [List.length_append, ubs_len]; simp only [List.length_cons, List.length_nil]; omega
      clear y10 y11 y12 y13 D1 z1
      go_upto_region 9 with (go_at_call 29; refine (put_w 3 1 [c.ge] hW3 rfl (by omega) (by omega) (by omega) hB3).mono ?_; rintro e w4 ⟨rfl, hW4, kp5⟩)
      have kp6 := kp4.trans kp5
      have D4 := HB.out _ kp6
      have v13 := D4.cell 13
      have z4 := D4.lt
      have kz4 := kp6.s
      have hB4 : B ≤ w4.heap.size := by omega
      have hl5 : ((((bs ++ [c.lv, c.th].flatMap (ub 1)) ++ ofW c 8) ++ [c.sl, c.li].flatMap (ub 1)) ++ [c.ge].flatMap (ub 3)).length ≤ 800000400 := by rw [List.length_append, ubs_len]; simp only [List.length_cons, List.length_nil]; omega
      clear v12 D3 z3
      go_wp2_with (go_at_call 29; refine (put_w 1 1 [c.qu] hW4 rfl (by omega) (by omega) (by omega) hB4).mono ?_; rintro e w5 ⟨rfl, hW5, kp7⟩)
      go_end0
      exact ⟨rfl, by rw [confW, ← List.append_assoc, ← List.append_assoc, ← List.append_assoc, ← List.append_assoc]; exact hW5, kb.trans (kp6.trans kp7)⟩
def callW (x : CV) : List Int := [x.op, x.lv, x.rg].flatMap (ub 1) ++ [IntKind.u64.wrap x.key, x.a, x.b, x.h].flatMap (num 8)
theorem callW_len (x : CV) : (callW x).length = 35 := by simp only [callW, List.length_append, ubs_len, nums_len]; rfl
end Go.Proofs.YtknngjdcbldmgaaDoor
