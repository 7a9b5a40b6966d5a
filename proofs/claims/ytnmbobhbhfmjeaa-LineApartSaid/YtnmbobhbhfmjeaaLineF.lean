/- The walk of LineApart. -/
import Derived.Test.YtnmbobhbhfmjeaaLineD
import Derived.Test.YtnmbobhbhfmjeaaExt
namespace Go.Proofs.Ytnmbobhbhfmjeaa
set_option linter.unusedVariables false
set_option linter.unusedSimpArgs false
open Go.RowKit

theorem snoc_eq {α : Type} [DecidableEq α] (l : List α) (a b : α) : decide (l ++ [a] = l ++ [b]) = decide (a = b) := by
  rw [decide_eq_decide]
  constructor
  · intro h
    exact (List.cons.inj (List.append_cancel_left h)).1
  · intro h
    rw [h]

set_option maxHeartbeats 2000000 in
theorem apart_walk {A : Option Addr} {n c : Nat} {l : List Int} {W : World} (h : Sl ic W A n c l) (hn : n ≤ 100) (a b : Int) :
    Calls Try.prog 5 #[.slice A n c, .int .i64 a, .int .i64 b] W fun e w' => e = .returned (.bool true) ∧ Below W.heap.size W w' := by
  have hl := h.len
  go_enter Try.func5, Try.ntmps5
  go_wp2_with fail
  refine (of_i h (by omega)).mono ?_
  rintro e w1 ⟨A1, c1, rfl, own1, hb1⟩
  go_wp2_with fail
  have s1 : Sl ic (w1.alloc (.cells #[.slice A1 n c1] 44)) A1 n c1 l := (Sl.of_own ic_len (by decide) own1).alloc _
  have hb1' := bnew hb1 (.cells #[.slice A1 n c1] 44)
  have k1 : (w1.alloc (.cells #[.slice A1 n c1] 44)).cell? ⟨w1.heap.size, 0, none⟩ = some (.slice A1 n c1) := by go_simp
  generalize hW1 : w1.alloc (.cells #[.slice A1 n c1] 44) = W1 at *
  generalize hB1 : w1.heap.size = B1 at *
  clear hW1 hB1 own1 hb1
  refine (push_i s1 a (by omega)).mono ?_
  rintro e w2 ⟨A2, c2, rfl, own2, hb2⟩
  have k2 := keep_below k1 hb2
  have hb2' := bnext hb1' hb2
  have o2 : W1.heap.size ≤ w2.heap.size := hb2.size
  have hB1 : B1 < w2.heap.size := block_lt_of_cell k2
  have s2 : Sl ic w2 A2 (n + 1) c2 (l ++ [a]) := Sl.of_own ic_len (by decide) own2
  clear own2
  go_wp2_with fail
  have s2' := s2.alloc (.cells #[.slice A2 (n + 1) c2] 44)
  have s1' := (s1.below hb2).alloc (.cells #[.slice A2 (n + 1) c2] 44)
  have hbb := bnew hb2' (.cells #[.slice A2 (n + 1) c2] 44)
  have k3 : (w2.alloc (.cells #[.slice A2 (n + 1) c2] 44)).cell? ⟨B1, 0, none⟩ = some (.slice A1 n c1) := by go_simp
  have k4 : (w2.alloc (.cells #[.slice A2 (n + 1) c2] 44)).cell? ⟨w2.heap.size, 0, none⟩ = some (.slice A2 (n + 1) c2) := by go_simp
  generalize hW2 : w2.alloc (.cells #[.slice A2 (n + 1) c2] 44) = W2 at *
  generalize hB2 : w2.heap.size = B2 at *
  clear hW2 hB2 s1 s2 hb1' hb2 hb2' k1 k2 o2
  go_wp2_with fail
  refine (push_i s1' b (by omega)).mono ?_
  rintro e w3 ⟨A3, c3, rfl, own3, hb3⟩
  have k5 := keep_below k3 hb3
  have k6 := keep_below k4 hb3
  have hb3' := bnext hbb hb3
  have hB1 : B1 < w3.heap.size := block_lt_of_cell k5
  have hB2 : B2 < w3.heap.size := block_lt_of_cell k6
  have s3 : Sl ic w3 A3 (n + 1) c3 (l ++ [b]) := Sl.of_own ic_len (by decide) own3
  have s2 := s2'.below hb3
  clear own3 s1' s2' k3 k4 hbb hb3
  go_wp2_with fail
  have s3' := s3.alloc (.cells #[.slice A3 (n + 1) c3] 44)
  have s2' := s2.alloc (.cells #[.slice A3 (n + 1) c3] 44)
  have hbb := bnew hb3' (.cells #[.slice A3 (n + 1) c3] 44)
  have k1 : (w3.alloc (.cells #[.slice A3 (n + 1) c3] 44)).cell? ⟨B1, 0, none⟩ = some (.slice A1 n c1) := by go_simp
  have k2 : (w3.alloc (.cells #[.slice A3 (n + 1) c3] 44)).cell? ⟨B2, 0, none⟩ = some (.slice A2 (n + 1) c2) := by go_simp
  have k3 : (w3.alloc (.cells #[.slice A3 (n + 1) c3] 44)).cell? ⟨w3.heap.size, 0, none⟩ = some (.slice A3 (n + 1) c3) := by go_simp
  generalize hW3 : w3.alloc (.cells #[.slice A3 (n + 1) c3] 44) = W3 at *
  generalize hB3 : w3.heap.size = B3 at *
  clear hW3 hB3 s2 s3 k5 k6 hb3' h
  have z1 : B1 < W3.heap.size := block_lt_of_cell k1
  have z2 : B2 < W3.heap.size := block_lt_of_cell k2
  have z3 : B3 < W3.heap.size := block_lt_of_cell k3
  have hd : Below W3.heap.size W3 W3.drew := (brefl W3).drew
  go_region_held3 (fun w' => w'.cell? ⟨B1, 0, none⟩ = some (.slice A1 n c1) ∧ w'.cell? ⟨B2, 0, none⟩ = some (.slice A2 (n + 1) c2) ∧ w'.cell? ⟨B3, 0, none⟩ = some (.slice A3 (n + 1) c3))
    (first | exact ⟨k1, k2, k3⟩ | exact ⟨keep_below k1 hy1, keep_below k2 hy1, keep_below k3 hy1⟩ | exact ⟨keep_below k1 hx1, keep_below k2 hx1, keep_below k3 hx1⟩)
    ((first | (go_at_call_of 18 A2; refine (all_i (s2'.below hd) (by omega)).mono ?_; rintro e wx ⟨Ax, cx, rfl, ownx, hbx⟩; have hx1 := bnext hd hbx) | (go_at_call_of 18 A3; refine (all_i (s3'.below hx1) (by omega)).mono ?_; rintro e wy ⟨Ay, cy, rfl, owny, hby⟩; have hy1 := bnext hx1 hby)))
  have q1 := keep_below k1 hy1
  have q2 := keep_below k2 hy1
  have q3 := keep_below k3 hy1
  obtain ⟨bx, ox, rfl, _, ex⟩ := ((Sl.of_own ic_len (by decide) ownx).below hby).base ic_len (by decide) (by omega)
  obtain ⟨bY, oY, rfl, _, ey⟩ := (Sl.of_own ic_len (by decide) owny).base ic_len (by decide) (by omega)
  have hla : (l ++ [a])[n]? = some a := by rw [← hl, List.getElem?_append_right (Nat.le_refl _)]; simp
  have hlb : (l ++ [b])[n]? = some b := by rw [← hl, List.getElem?_append_right (Nat.le_refl _)]; simp
  have d1 : wy.cell? ⟨bx, ox + n, none⟩ = some (.int .i64 a) := by simpa using ex n a 0 _ hla rfl
  have d2 : wy.cell? ⟨bY, oY + n, none⟩ = some (.int .i64 b) := by simpa using ey n b 0 _ hlb rfl
  have hW := bnext hbb hy1
  have cs : ∀ w' : World, Below W3.heap.size W3 w' → Calls Try.prog 19 #[.agg #[.slice A2 (n + 1) c2], .agg #[.slice A3 (n + 1) c3]] w' fun e w'' => e = .returned (.bool (a == b)) ∧ Below w'.heap.size w' w'' := by
    intro w' hb
    have := same_i (s2'.below hb) (s3'.below hb) (by omega) (by omega)
    rw [snoc_eq] at this
    exact this
  have b0 : (0 : Int) ≤ (n : Int) := by omega
  have b1 : (n : Int) < (n : Int) + 1 := by omega
  have b2 : (n : Int) ≤ 100 := by omega
  clear ex ey hla hlb hl k1 k2 k3 s2' s3' hd hx1 hbx hby z1 z2 z3
  go_wp2_with (first | (go_at_call 19; refine (cs _ hy1).mono ?_; rintro e wz ⟨rfl, hbz⟩; have q4 := keep_below q1 hbz) | (go_at_call 20; refine (len_i _ _ _ _ (by omega)).mono ?_; rintro e w5 ⟨rfl, hb5⟩) | (go_at_call 6; refine (lives_any _).mono ?_; rintro e w6 ⟨rfl, hb6⟩))
  go_ret
  exact ⟨rfl, bnext (bnext (bnext hW hbz) hb5) hb6⟩

/-- A too long list: the example alone is asked. -/
theorem apart_great {A : Option Addr} {n c : Nat} {W : World} (a b : Int) (h : 100 < n) (hn : n ≤ 9223372036854775807) :
    Calls Try.prog 5 #[.slice A n c, .int .i64 a, .int .i64 b] W fun e w' => e = .returned (.bool true) ∧ Below W.heap.size W w' := by
  have t1 : (100 : Int) < (n : Int) := by omega
  go_enter Try.func5, Try.ntmps5
  go_wp2_with (go_at_call 6; refine (lives_any _).mono ?_; rintro e w5 ⟨rfl, hb5⟩)
  go_ret
  exact ⟨rfl, hb5⟩

theorem apart_any {A : Option Addr} {n c : Nat} {l : List Int} {W : World} (h : Sl ic W A n c l) (h1 : c ≤ maxLen) (a b : Int) :
    Calls Try.prog 5 #[.slice A n c, .int .i64 a, .int .i64 b] W fun e w' => e = .returned (.bool true) ∧ Below W.heap.size W w' := by
  unfold maxLen at h1
  have e1 := h.cap
  by_cases hn : n ≤ 100
  · exact apart_walk h hn a b
  · exact apart_great a b (by omega) (by omega)
end Go.Proofs.Ytnmbobhbhfmjeaa
