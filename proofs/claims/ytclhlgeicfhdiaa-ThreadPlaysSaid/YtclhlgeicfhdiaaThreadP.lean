/- Threads: the law ThreadOrders. -/
import Derived.Test.YtclhlgeicfhdiaaThreadO
import Derived.Test.YtclhlgeicfhdiaaThreadOpen
namespace Go.Proofs.Ytclhlgeicfhdiaa
set_option linter.unusedVariables false
set_option linter.unusedSimpArgs false
open Go.RowKit

def gB (n : Nat) (ops : List TOp) : Bool := decide (80 < n ∨ ∃ o, o ∈ ops.take 100 ∧ 100 < o.rn)
theorem gB_no {n : Nat} {ops : List TOp} (h : gB n ops = false) (hl : ops.length = n) : n ≤ 80 ∧ ∀ o, o ∈ ops → o.rn ≤ 100 := by
  have h1 := of_decide_eq_false h
  have hn : n ≤ 80 := by
    apply Nat.le_of_not_lt
    exact fun q => h1 (.inl q)
  refine ⟨hn, fun o ho => Nat.le_of_not_lt fun q => h1 (.inr ⟨o, ?_, q⟩)⟩
  rw [List.take_of_length_le (by omega)]
  exact ho
set_option maxHeartbeats 4000000 in
set_option maxRecDepth 100000 in
theorem great_any {w : World} {A : Option Addr} {n c : Nat} {ops : List TOp} (h : Sl toc w A n c ops) : Calls Try.prog 6 #[.slice A n c] w fun e w' => e = .returned (.bool (gB n ops)) ∧ w = w' := by
  have hlen := h.len
  go_enter Try.func6, Try.ntmps6
  go_wp2
  go_loopg [3] (min n 100) (fun gk i wr => ∃ (k : Nat), k + gk = min n 100 ∧ i = .int .i64 k ∧ Hid (∀ o, o ∈ ops.take k → o.rn ≤ 100) ∧ wr = w)
  case atStart => exact ⟨0, by omega, rfl, fun y hy => by simp at hy, rfl⟩
  case round =>
    obtain ⟨k, hk, rfl, hno, rfl⟩ := hrel
    by_cases hlt : k < min n 100
    · obtain ⟨b, o', rfl, _, hc⟩ := h.base toc_len (by decide) (by omega)
      obtain ⟨x, hx⟩ : ∃ x, ops[k]? = some x := ⟨ops[k]'(by omega), List.getElem?_eq_getElem (i := k) _⟩
      have c0 : wr.cell? ⟨b, o' + k * 3 + 2, none⟩ = some (.slice x.A x.rn x.rc) := by have h0 := hc k x 2 _ hx rfl; simpa [Nat.add_assoc] using h0
      have b0 : (0 : Int) ≤ (k : Int) := by omega
      have b1 : (k : Int) < (n : Int) := by omega
      have b2 : (k : Int) < 100 := by omega
      have HS : Hid (ops.take (k + 1) = ops.take k ++ [x]) := by rw [Hid, List.take_add_one, hx]; rfl
      have HX := Lib.hid hx
      clear hc hx h hlen
      by_cases hg : 100 < x.rn
      · have t0 : (100 : Int) < (x.rn : Int) := by omega
        have HB : Hid (gB n ops = true) := decide_eq_true (.inr ⟨x, List.mem_of_getElem? (i := k) (by rw [List.getElem?_take_of_lt (by omega)]; exact HX.out), hg⟩)
        clear hg
        go_wp2
        go_ret
        exact ⟨by rw [HB.out]; rfl, rfl⟩
      · have t0 : ¬ ((100 : Int) < (x.rn : Int)) := by omega
        have HG := Lib.hid hg
        clear hg
        go_wp2
        go_roundg (gk - 1)
        case measure => omega
        case rel => exact ⟨k + 1, by omega, by go_num, by rw [Hid, HS.out]; intro z hz; rcases List.mem_append.1 hz with hz | hz; exact hno.out z hz; (rw [List.mem_singleton.1 hz]; have := HG.out; omega), rfl⟩
    · by_cases hn : n ≤ 100
      · have t1 : ¬ ((k : Int) < (n : Int)) := by omega
        have HE : Hid (∀ o, o ∈ ops → o.rn ≤ 100) := fun z hz => hno.out z (by rw [List.take_of_length_le (by omega)]; exact hz)
        clear hk hlt hlen h
        by_cases hg : 80 < n
        · have t0 : (80 : Int) < (n : Int) := by omega
          have HB : Hid (gB n ops = true) := decide_eq_true (.inl hg)
          clear hg hn
          go_wp2
          go_ret
          exact ⟨by rw [HB.out]; rfl, rfl⟩
        · have t0 : decide ((80 : Int) < (n : Int)) = false := decide_eq_false (by omega)
          have HB : Hid (gB n ops = false) := decide_eq_false (by rintro (q | ⟨z, hz, q⟩); exact hg q; (have := HE.out z (List.mem_of_mem_take hz); omega))
          clear hg hn
          go_wp2
          go_ret
          exact ⟨by rw [HB.out]; rfl, rfl⟩
      · have t1 : (k : Int) < (n : Int) := by omega
        have t2 : ¬ ((k : Int) < 100) := by omega
        have t0 : (80 : Int) < (n : Int) := by omega
        have HB : Hid (gB n ops = true) := decide_eq_true (.inl (by omega))
        clear hk hlt hlen h hn
        go_wp2
        go_ret
        exact ⟨by rw [HB.out]; rfl, rfl⟩

def cnt2 (ops : List TOp) : Nat := (ops.filter fun o => o.k == 2).length
theorem cnt2_snoc (ops : List TOp) (o : TOp) : cnt2 (ops ++ [o]) = cnt2 ops + (if o.k = 2 then 1 else 0) := by
  unfold cnt2
  rw [List.filter_append, List.length_append]
  by_cases h : o.k = 2 <;> simp [h]
theorem hit_len (t : Th) (n : Int) : (t.hit n).frames.length = t.frames.length ∧ (t.hit n).hs = t.hs := by
  unfold Th.hit
  split
  · exact ⟨rfl, rfl⟩
  · exact ⟨by simp [Th.touch], rfl⟩
theorem doo_len (t : Th) (k n : Int) (l : List Int) : (t.doo k n l).frames.length ≤ t.frames.length + 1 ∧ (t.doo k n l).hs.length = t.hs.length + (if k = 2 then 1 else 0) := by
  unfold Th.doo
  by_cases h0 : k = 0
  · rw [if_pos h0]; simp [Th.call, h0]
  rw [if_neg h0]
  by_cases h1 : k = 1
  · rw [if_pos h1]; simp [Th.back, h1]; omega
  rw [if_neg h1]
  by_cases h2 : k = 2
  · rw [if_pos h2]; simp [Th.note, h2]
  rw [if_neg h2]
  by_cases h3 : k = 3
  · rw [if_pos h3]
    have := hit_len t n
    rw [this.2]
    simp [h2]
    omega
  rw [if_neg h3]
  simp [h2]
def F3 (wl : List Int) (k : Nat) : List Fr := (List.range k).map fun (j : Nat) => (⟨(j : Int), (j : Int) + 1, pad 16 [(wl[j]?).getD 0]⟩ : Fr)
theorem F3_succ (wl : List Int) (k : Nat) (x : Int) (hx : wl[k]? = some x) : F3 wl (k + 1) = F3 wl k ++ [⟨(k : Int), (k : Int) + 1, pad 16 [x]⟩] := by
  unfold F3
  rw [List.range_succ, List.map_append]
  simp [hx]
theorem F3_len (wl : List Int) (k : Nat) : (F3 wl k).length = k := by simp [F3]
theorem hAt_last (l : List Int) (x : Int) (n : Nat) (hn : l.length = n) : hAt (l ++ [x]) ((n : Int) + 1) = x := by
  unfold hAt
  rw [if_pos (by simp; omega), show ((n : Int) + 1 - 1).toNat = n by omega, List.getElem?_append_right (by omega), hn]
  simp
set_option maxHeartbeats 4000000 in
set_option maxRecDepth 100000 in
theorem orders_great {w : World} {A B : Option Addr} {n c m d : Nat} (hg : Calls Try.prog 6 #[.slice A n c] w fun e w' => e = .returned (.bool true) ∧ w = w') : Calls Try.prog 3 #[.slice A n c, .slice B m d] w fun e w' => e = .returned (.bool true) ∧ Below w.heap.size w w' := by
  go_enter Try.func3, Try.ntmps3
  go_wp2_with (first | (go_at_call 6; refine hg.mono ?_; rintro e wa ⟨rfl, rfl⟩) | (go_at_call 7; refine (lives20 _).mono ?_; rintro e wb ⟨rfl, hbb⟩))
  go_ret
  exact ⟨rfl, hbb⟩
set_option maxHeartbeats 4000000 in
set_option maxRecDepth 100000 in
theorem orders_long {w : World} {A B : Option Addr} {n c m d : Nat} (hg : Calls Try.prog 6 #[.slice A n c] w fun e w' => e = .returned (.bool false) ∧ w = w') (hm : (60 : Int) < (m : Int)) : Calls Try.prog 3 #[.slice A n c, .slice B m d] w fun e w' => e = .returned (.bool true) ∧ Below w.heap.size w w' := by
  go_enter Try.func3, Try.ntmps3
  go_wp2_with (first | (go_at_call 6; refine hg.mono ?_; rintro e wa ⟨rfl, rfl⟩) | (go_at_call 7; refine (lives20 _).mono ?_; rintro e wb ⟨rfl, hbb⟩))
  go_ret
  exact ⟨rfl, hbb⟩
end Go.Proofs.Ytclhlgeicfhdiaa
