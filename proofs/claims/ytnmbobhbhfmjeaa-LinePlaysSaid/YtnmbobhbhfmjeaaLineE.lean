/- The walk of LineTurns. -/
import Derived.Test.YtnmbobhbhfmjeaaLineD
namespace Go.Proofs.Ytnmbobhbhfmjeaa
set_option linter.unusedVariables false
set_option linter.unusedSimpArgs false
open Go.RowKit

/-- Block B, a box of one cell, holds a line of l. -/
def QBox (w : World) (B : Nat) (l : List Pr) : Prop :=
  ∃ A c, w.cell? ⟨B, 0, none⟩ = some (.slice A l.length c) ∧ w.frozen? ⟨B, 0, none⟩ = false ∧ Sl pc w A l.length c l ∧ ∀ ad, A = some ad → ad.block ≠ B

theorem QBox.mk_ {w : World} {B : Nat} {l : List Pr} {A : Option Addr} {n c : Nat} (h1 : w.cell? ⟨B, 0, none⟩ = some (.slice A n c)) (h2 : w.frozen? ⟨B, 0, none⟩ = false) (h3 : Sl pc w A n c l) (h4 : ∀ ad, A = some ad → ad.block ≠ B) : QBox w B l := by
  obtain rfl := h3.len
  exact ⟨A, c, h1, h2, h3, h4⟩

set_option maxHeartbeats 2000000 in
theorem turns_walk {A B : Option Addr} {n m c c' : Nat} {l more : List Pr} {W : World} (hl : Sl pc W A n c l) (hm : Sl pc W B m c' more) (hn : n ≤ 100) (hmm : m ≤ 100) :
    Calls Try.prog 3 #[.slice A n c, .slice B m c'] W fun e w' => e = .returned (.bool true) ∧ Below W.heap.size W w' := by
  go_enter Try.func3, Try.ntmps3
  go_wp2_with (go_at_call 7; refine (of_p hl (by omega)).mono ?_; rintro e w1 ⟨A1, c1, rfl, hown1, hb1⟩)
  obtain ⟨W1, hW1, hz1, hq, hb⟩ : ∃ W1, w1.alloc (.cells #[.slice A1 n c1] 25) = W1 ∧ w1.heap.size < W1.heap.size ∧ QBox W1 w1.heap.size l ∧ Below W.heap.size W W1 :=
    ⟨_, rfl, by simp, QBox.mk_ (by go_simp) (by go_simp) ((Sl.of_own pc_len (by decide) hown1).alloc _) (fun ad ha => by subst ha; have := (hown1.lt _ rfl).2; omega), bnew hb1 _⟩
  rw [hW1]
  clear hW1
  go_loopw [6] (fun i wr => ∃ k : Nat, k ≤ m ∧ i = .int .i64 k ∧ QBox wr w1.heap.size (l ++ more.take k) ∧ Below W.heap.size W wr) (fun i _ => m - (intOf i).toNat)
  case atStart => exact ⟨0, Nat.zero_le _, rfl, by simpa using hq, hb⟩
  case round =>
    obtain ⟨k, hk, rfl, ⟨Aq, cq, q1, q2, q3, q4⟩, hbr⟩ := hrel
    by_cases hlt : k < m
    · obtain ⟨b, o, rfl, hbb, hc⟩ := hm.base pc_len (by decide) (by omega)
      obtain ⟨x, hx⟩ : ∃ x, more[k]? = some x := ⟨_, List.getElem?_eq_getElem (by rw [hm.len]; exact hlt)⟩
      have c0 : wr.cell? ⟨b, o + k * 2, none⟩ = some (.int .u64 x.1) := (hbr.cell (by exact hbb)).trans (hc k x 0 _ hx rfl)
      have c1 : wr.cell? ⟨b, o + k * 2 + 1, none⟩ = some (.int .u64 x.2) := (hbr.cell (by exact hbb)).trans (by rw [Nat.add_assoc]; exact hc k x 1 _ hx rfl)
      have hlen : (l ++ more.take k).length = n + k := by rw [List.length_append, List.length_take, hl.len, hm.len]; omega
      have HL : Hid (l ++ more.take (k + 1) = (l ++ more.take k) ++ [x]) := by rw [Hid, List.take_add_one, hx]; simp
      have b0 : (0 : Int) ≤ (k : Int) := by omega
      have b1 : (k : Int) < (m : Int) := by omega
      have hBz : w1.heap.size < wr.heap.size := block_lt_of_cell q1
      rw [hlen] at q1 q3
      clear hlen hc hq hb hx
      go_wp2_with fail
      refine wp_tail 5 (by kernel_rfl) (by kernel_rfl) ?_
      simp only [List.take_succ_cons, List.take_zero, List.drop_succ_cons, List.drop_zero]
      repeat still_step
      refine wpStill_nil ?_
      go_wp2_with (go_at_call 8; refine (push_p q3.drew x.1 x.2 (by omega)).mono ?_; rintro e w2 ⟨A2, c2, rfl, hown2, hb2⟩; have f1 := hb2.cell (p := ⟨w1.heap.size, 0, none⟩) (by exact hBz); have f2 := hb2.frozen (p := ⟨w1.heap.size, 0, none⟩) (by exact hBz))
      have hne : ∀ ad, A2 = some ad → ad.block ≠ w1.heap.size := fun ad ha => by
        subst ha
        have := (hown2.lt _ rfl).1
        simp at this
        omega
      go_roundw
      case rel =>
        refine ⟨k + 1, by omega, by go_num, ?_, bset (bnext (hbr.drew) hb2) (by have := hb1.size; simpa using this) _⟩
        rw [HL.out]
        exact QBox.mk_ (n := n + k + 1) (by go_simp) (by go_simp) ((Sl.of_own pc_len (by decide) hown2).setCell (by simpa using hne) _) hne
      case measure => simp [intOf]; omega
    · obtain rfl : k = m := by omega
      have hLq : Hid ((l ++ more.take k).length = n + k ∧ l ++ more.take k = l ++ more) := by rw [Hid, List.take_of_length_le (by rw [hm.len]; omega)]; exact ⟨by rw [List.length_append, hl.len, hm.len], rfl⟩
      have hq0 : QBox wr w1.heap.size ((l ++ more).drop 0) := by rw [List.drop_zero, ← hLq.out.2]; exact ⟨Aq, cq, q1, q2, q3, q4⟩
      clear q1 q2 q3 q4 hq hb hown1
      have hge : ¬ ((k : Int) < (k : Int)) := by omega
      go_wp2
      go_loopw [7] (fun i wr => ∃ j : Nat, j ≤ n + k ∧ i = .int .i64 j ∧ QBox wr w1.heap.size ((l ++ more).drop j) ∧ Below W.heap.size W wr) (fun i _ => n + k - (intOf i).toNat)
      case atStart => exact ⟨0, Nat.zero_le _, rfl, hq0, hbr⟩
      case round =>
        obtain ⟨j, hj, rfl, ⟨Ap, cp, p1, p2, p3, p4⟩, hbp⟩ := hrel
        have hll : (l ++ more).length = n + k := by rw [List.length_append, hl.len, hm.len]
        by_cases hlt : j < n + k
        · obtain ⟨x, hx⟩ : ∃ x, (l ++ more)[j]? = some x := ⟨_, List.getElem?_eq_getElem (by rw [hll]; exact hlt)⟩
          obtain ⟨r, hr⟩ : ∃ r, ((l ++ more).drop j).length = r + 1 := ⟨n + k - j - 1, by rw [List.length_drop, hll]; omega⟩
          have hr1 : r ≤ 1000 := by rw [List.length_drop, hll] at hr; omega
          have hdrop : (l ++ more).drop j = x :: (l ++ more).drop (j + 1) := by
            have h1 := List.getElem?_eq_some_iff.1 hx
            rw [← h1.2]
            exact List.drop_eq_getElem_cons h1.1
          rw [hr] at p1 p3
          rw [hdrop] at p3
          have hBz : w1.heap.size < wr.heap.size := block_lt_of_cell p1
          clear hr hdrop hLq hq0
          by_cases hjn : j < n
          · obtain ⟨b, o, rfl, hbb, hc⟩ := hl.base pc_len (by decide) (by omega)
            have hxl : l[j]? = some x := by rwa [List.getElem?_append_left (by rw [hl.len]; exact hjn)] at hx
            have c0 : wr.cell? ⟨b, o + j * 2, none⟩ = some (.int .u64 x.1) := (hbp.cell (by exact hbb)).trans (hc j x 0 _ hxl rfl)
            have c1 : wr.cell? ⟨b, o + j * 2 + 1, none⟩ = some (.int .u64 x.2) := (hbp.cell (by exact hbb)).trans (by rw [Nat.add_assoc]; exact hc j x 1 _ hxl rfl)
            have hbr2 : b < wr.heap.size := block_lt_of_cell c0
            clear hc hxl hx hll
            have b0 : (0 : Int) ≤ (j : Int) := by omega
            have b1 : (j : Int) < (n : Int) := by omega
            have b2 : (j : Int) < (n : Int) + (k : Int) := by omega
            have b3 : decide ((n : Int) ≤ (j : Int)) = false := by simp; omega
            have b4 : decide (n ≤ j) = false := by simp; omega
            have hne := neq_p x x
            go_wp2_with (go_at_call 9; refine (pop_p p3 (by omega)).mono ?_; rintro e w3 ⟨A3, c3, rfl, s3, h3, hb3⟩; have f1 := hb3.cell (p := ⟨w1.heap.size, 0, none⟩) (by exact hBz); have f2 := hb3.frozen (p := ⟨w1.heap.size, 0, none⟩) (by exact hBz); have f3 := hb3.cell (p := ⟨b, o + j * 2, none⟩) (by exact hbr2); have f4 := hb3.cell (p := ⟨b, o + j * 2 + 1, none⟩) (by exact hbr2); have z0 : b < w3.heap.size := (by have := hb3.size; omega); have z1 : b < w3.heap.size + 1 := (by omega); have z2 : w1.heap.size < w3.heap.size := (by have := hb3.size; omega); have z3 : w1.heap.size < w3.heap.size + 1 := (by omega))
            go_quiet (fail)
            go_wp2
            have hne2 : ∀ ad, A3 = some ad → ad.block ≠ w1.heap.size := fun ad ha => by
              obtain ⟨ad0, e1, e2⟩ := h3 ad ha
              rw [e2]
              exact p4 ad0 e1
            have hbB : Below W.heap.size W w3 := bnext hbp hb3
            have hWB : W.heap.size ≤ w1.heap.size := hb1.size
            go_roundw
            case rel =>
              refine ⟨j + 1, by omega, by go_num, ?_, bset (below_drewN (bnew (bnew hbB _) _) _) (by exact hWB) _⟩
              exact QBox.mk_ (n := r) (by go_simp) (by go_simp) ((((s3.alloc _).alloc _).drewN nq).setCell (by simpa using hne2) _) hne2
            case measure => simp [intOf]; omega
          · obtain ⟨t, ht⟩ : ∃ t, j = n + t := ⟨j - n, by omega⟩
            obtain ⟨b, o, rfl, hbb, hc⟩ := hm.base pc_len (by decide) (by omega)
            have hxl : more[t]? = some x := by rwa [List.getElem?_append_right (by rw [hl.len]; omega), hl.len, ht, Nat.add_sub_cancel_left] at hx
            have c0 : wr.cell? ⟨b, o + t * 2, none⟩ = some (.int .u64 x.1) := (hbp.cell (by exact hbb)).trans (hc t x 0 _ hxl rfl)
            have c1 : wr.cell? ⟨b, o + t * 2 + 1, none⟩ = some (.int .u64 x.2) := (hbp.cell (by exact hbb)).trans (by rw [Nat.add_assoc]; exact hc t x 1 _ hxl rfl)
            have hbr2 : b < wr.heap.size := block_lt_of_cell c0
            clear hc hxl hx hll
            have b0 : (0 : Int) ≤ (t : Int) := by omega
            have b1 : (t : Int) < (k : Int) := by omega
            have b2 : (j : Int) < (n : Int) + (k : Int) := by omega
            have b3 : decide ((j : Int) < (n : Int)) = false := by simp; omega
            have b4 : decide (j < n) = false := by simp; omega
            have b5 : decide (n ≤ j) = true := by simp; omega
            have b6 : (n : Int) ≤ (j : Int) := by omega
            have hs : IntKind.i64.wrap ((j : Int) - (n : Int)) = ((t : Nat) : Int) := by rw [IntWalk.i64_in _ (by omega)]; omega
            have HT : Hid (j = n + t) := ht
            clear ht
            have hne := neq_p x x
            go_wp2_with (go_at_call 9; refine (pop_p p3 (by omega)).mono ?_; rintro e w3 ⟨A3, c3, rfl, s3, h3, hb3⟩; have f1 := hb3.cell (p := ⟨w1.heap.size, 0, none⟩) (by exact hBz); have f2 := hb3.frozen (p := ⟨w1.heap.size, 0, none⟩) (by exact hBz); have f3 := hb3.cell (p := ⟨b, o + t * 2, none⟩) (by exact hbr2); have f4 := hb3.cell (p := ⟨b, o + t * 2 + 1, none⟩) (by exact hbr2); have z0 : b < w3.heap.size := (by have := hb3.size; omega); have z1 : b < w3.heap.size + 1 := (by omega); have z2 : w1.heap.size < w3.heap.size := (by have := hb3.size; omega); have z3 : w1.heap.size < w3.heap.size + 1 := (by omega))
            go_quiet (fail)
            go_wp2
            have hne2 : ∀ ad, A3 = some ad → ad.block ≠ w1.heap.size := fun ad ha => by
              obtain ⟨ad0, e1, e2⟩ := h3 ad ha
              rw [e2]
              exact p4 ad0 e1
            have hbB : Below W.heap.size W w3 := bnext hbp hb3
            have hWB : W.heap.size ≤ w1.heap.size := hb1.size
            go_roundw
            case rel =>
              refine ⟨j + 1, by omega, by go_num, ?_, bset (below_drewN (bnew (bnew hbB _) _) _) (by exact hWB) _⟩
              exact QBox.mk_ (n := r) (by go_simp) (by go_simp) ((((s3.alloc _).alloc _).drewN nq).setCell (by simpa using hne2) _) hne2
            case measure => simp [intOf]; omega
        · have hd : (l ++ more).drop j = [] := List.drop_eq_nil_of_le (by omega)
          rw [hd] at p1 p3
          simp only [List.length_nil] at p1 p3
          have hge : ¬ ((j : Int) < (n : Int) + (k : Int)) := by omega
          have hBz : w1.heap.size < wr.heap.size := block_lt_of_cell p1
          clear hd hLq hq0 hll
          go_wp2_with (first
            | (go_at_call 9; refine (pop_p_nil Ap cp wr).mono ?_; rintro e w3 ⟨rfl, hb3⟩; have f1 := hb3.cell (p := ⟨w1.heap.size, 0, none⟩) (by exact hBz); have z2 : w1.heap.size < w3.heap.size := (by have := hb3.size; omega); have z3 : w1.heap.size < w3.heap.size + 1 := (by omega))
            | (go_at_call 10; refine (len_p _ _ _ _ (by omega)).mono ?_; rintro e w4 ⟨rfl, hb4⟩)
            | (go_at_call 6; refine (lives_any _).mono ?_; rintro e w5 ⟨rfl, hb5⟩))
          go_ret
          exact ⟨rfl, bnext (bnext (bnew (bnew (bnext hbp hb3) _) _) hb4) hb5⟩

/-- Too long lists: the example alone is asked. -/
theorem turns_great {A B : Option Addr} {n m c c' : Nat} {W : World} (h : 100 < n ∨ 100 < m) (hn : n ≤ 9223372036854775807) (hm : m ≤ 9223372036854775807) :
    Calls Try.prog 3 #[.slice A n c, .slice B m c'] W fun e w' => e = .returned (.bool true) ∧ Below W.heap.size W w' := by
  by_cases h1 : 100 < n
  · have t1 : (100 : Int) < (n : Int) := by omega
    go_enter Try.func3, Try.ntmps3
    go_wp2_with (go_at_call 6; refine (lives_any _).mono ?_; rintro e w5 ⟨rfl, hb5⟩)
    go_ret
    exact ⟨rfl, hb5⟩
  · have t1 : ¬ (100 : Int) < (n : Int) := by omega
    have t2 : (100 : Int) < (m : Int) := by omega
    go_enter Try.func3, Try.ntmps3
    go_wp2_with (go_at_call 6; refine (lives_any _).mono ?_; rintro e w5 ⟨rfl, hb5⟩)
    go_ret
    exact ⟨rfl, hb5⟩

theorem turns_any {A B : Option Addr} {n m c c' : Nat} {l more : List Pr} {W : World} (hl : Sl pc W A n c l) (hm : Sl pc W B m c' more) (h1 : c ≤ maxLen) (h2 : c' ≤ maxLen) :
    Calls Try.prog 3 #[.slice A n c, .slice B m c'] W fun e w' => e = .returned (.bool true) ∧ Below W.heap.size W w' := by
  unfold maxLen at h1 h2
  have e1 := hl.cap
  have e2 := hm.cap
  by_cases h : n ≤ 100 ∧ m ≤ 100
  · exact turns_walk hl hm h.1 h.2
  · exact turns_great (by omega) (by omega) (by omega)
end Go.Proofs.Ytnmbobhbhfmjeaa
