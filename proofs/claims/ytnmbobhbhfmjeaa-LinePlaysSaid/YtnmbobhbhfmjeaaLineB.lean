/- Same and Equal over pairs and ints. -/
import Derived.Test.YtnmbobhbhfmjeaaLine
namespace Go.Proofs.Ytnmbobhbhfmjeaa
set_option linter.unusedVariables false
set_option linter.unusedSimpArgs false
open Go.RowKit

theorem neq_p (x y : Pr) (w : World) : (binOp .neq 29 (.agg #[.int .u64 x.1, .int .u64 x.2]) (.agg #[.int .u64 y.1, .int .u64 y.2])).run Try.prog w = .ok (.bool (x != y)) w := by
  have e : (x != y) = !(x.1 == y.1 && x.2 == y.2) := by
    obtain ⟨a, b⟩ := x
    obtain ⟨c, d⟩ := y
    rfl
  rw [e]
  by_cases h1 : x.1 = y.1 <;> by_cases h2 : x.2 = y.2 <;> simp [go_sem, h1, h2]

set_option maxHeartbeats 800000 in
theorem equal_p {A B : Option Addr} {n n' c c' : Nat} {l m : List Pr} {w : World} (h : Sl pc w A n c l) (h' : Sl pc w B n' c' m) (hn : n ≤ 1000000) (hn' : n' ≤ 1000000) :
    Calls Try.prog 23 #[.slice A n c, .slice B n' c'] w fun e w' => e = .returned (.bool (decide (l = m))) ∧ ∃ d, w' = w.drewN d := by
  by_cases hnn : n = n'
  · subst hnn
    go_enter Try.func23, Try.ntmps23
    go_wp2
    go_loopw [13] (fun i wr => ∃ k : Nat, k ≤ n ∧ i = .int .i64 k ∧ (∃ d, wr = w.drewN d) ∧ l.take k = m.take k) (fun i _ => n - (intOf i).toNat)
    case atStart => exact ⟨0, Nat.zero_le _, rfl, ⟨0, rfl⟩, rfl⟩
    case round =>
    obtain ⟨k, hk, rfl, ⟨d, rfl⟩, hT⟩ := hrel
    by_cases hlt : k < n
    · obtain ⟨b, o, rfl, _, hc⟩ := h.base pc_len (by decide) (by omega)
      obtain ⟨b', o', rfl, _, hc'⟩ := h'.base pc_len (by decide) (by omega)
      have hkl : k < l.length := by rw [h.len]; exact hlt
      have hkm : k < m.length := by rw [h'.len]; exact hlt
      obtain ⟨x, hx⟩ : ∃ x, l[k]? = some x := ⟨_, List.getElem?_eq_getElem hkl⟩
      obtain ⟨y, hy⟩ : ∃ y, m[k]? = some y := ⟨_, List.getElem?_eq_getElem hkm⟩
      have c0 : w.cell? ⟨b, o + k * 2, none⟩ = some (.int .u64 x.1) := hc k x 0 _ hx rfl
      have c1 : w.cell? ⟨b, o + k * 2 + 1, none⟩ = some (.int .u64 x.2) := by rw [Nat.add_assoc]; exact hc k x 1 _ hx rfl
      have d0 : w.cell? ⟨b', o' + k * 2, none⟩ = some (.int .u64 y.1) := hc' k y 0 _ hy rfl
      have d1 : w.cell? ⟨b', o' + k * 2 + 1, none⟩ = some (.int .u64 y.2) := by rw [Nat.add_assoc]; exact hc' k y 1 _ hy rfl
      have HS : Hid ((l.take (k + 1) = m.take (k + 1)) ↔ x = y) := take_eq_step hT hx hy
      clear hc hc' hT hx hy hkl hkm h h'
      have b0 : (0 : Int) ≤ (k : Int) := by omega
      have b1 : (k : Int) < (n : Int) := by omega
      have hne := neq_p x y
      by_cases hxy : x = y
      · have t1 : (x != y) = false := by simp [hxy]
        have HX : Hid (x = y) := hxy
        clear hxy
        go_wp2_with fail
        go_quiet (fail)
        go_wp2
        go_roundw
        case rel => exact ⟨k + 1, by omega, by go_num, ⟨_, (by first | rfl | exact World.drewN_drewN _ _ _)⟩, HS.out.2 HX.out⟩
        case measure => simp [intOf]; omega
      · have t1 : (x != y) = true := by simp [hxy]
        have HX : Hid (¬ x = y) := hxy
        clear hxy
        go_wp2_with fail
        go_quiet (fail)
        go_wp2
        go_ret
        refine ⟨ret_bool ?_, ⟨_, (by first | rfl | exact World.drewN_drewN _ _ _)⟩⟩
        symm
        rw [decide_eq_false_iff_not]
        intro e
        exact HX.out (HS.out.1 (by rw [e]))
    · have HT : Hid (l = m) := by
        obtain rfl : k = n := by omega
        have e1 := h.len
        have e2 := h'.len
        rwa [List.take_of_length_le (by omega), List.take_of_length_le (by omega)] at hT
      clear hT h h'
      have hge : ¬ ((k : Int) < (n : Int)) := by omega
      go_wp2
      go_ret
      exact ⟨ret_bool (by simp [HT.out]), ⟨_, (by first | rfl | exact World.drewN_drewN _ _ _)⟩⟩
  · have hne : ((n : Int) != (n' : Int)) = true := by rw [bne_iff_ne]; omega
    have hlm : ¬ l = m := by
      intro e
      have e1 := h.len
      have e2 := h'.len
      rw [e] at e1
      omega
    have HL : Hid (¬ l = m) := hlm
    clear hlm
    go_enter Try.func23, Try.ntmps23
    go_wp2
    go_ret
    exact ⟨ret_bool (by simp [HL.out]), ⟨0, rfl⟩⟩

set_option maxHeartbeats 800000 in
theorem equal_i {A B : Option Addr} {n n' c c' : Nat} {l m : List Int} {w : World} (h : Sl ic w A n c l) (h' : Sl ic w B n' c' m) (hn : n ≤ 1000000) (hn' : n' ≤ 1000000) :
    Calls Try.prog 25 #[.slice A n c, .slice B n' c'] w fun e w' => e = .returned (.bool (decide (l = m))) ∧ ∃ d, w' = w.drewN d := by
  by_cases hnn : n = n'
  · subst hnn
    go_enter Try.func25, Try.ntmps25
    go_wp2
    go_loopw [13] (fun i wr => ∃ k : Nat, k ≤ n ∧ i = .int .i64 k ∧ (∃ d, wr = w.drewN d) ∧ l.take k = m.take k) (fun i _ => n - (intOf i).toNat)
    case atStart => exact ⟨0, Nat.zero_le _, rfl, ⟨0, rfl⟩, rfl⟩
    case round =>
    obtain ⟨k, hk, rfl, ⟨d, rfl⟩, hT⟩ := hrel
    by_cases hlt : k < n
    · obtain ⟨b, o, rfl, _, hc⟩ := h.base ic_len (by decide) (by omega)
      obtain ⟨b', o', rfl, _, hc'⟩ := h'.base ic_len (by decide) (by omega)
      have hkl : k < l.length := by rw [h.len]; exact hlt
      have hkm : k < m.length := by rw [h'.len]; exact hlt
      obtain ⟨x, hx⟩ : ∃ x, l[k]? = some x := ⟨_, List.getElem?_eq_getElem hkl⟩
      obtain ⟨y, hy⟩ : ∃ y, m[k]? = some y := ⟨_, List.getElem?_eq_getElem hkm⟩
      have c0 : w.cell? ⟨b, o + k, none⟩ = some (.int .i64 x) := by have h0 := hc k x 0 _ hx rfl; simpa using h0
      have d0 : w.cell? ⟨b', o' + k, none⟩ = some (.int .i64 y) := by have h0 := hc' k y 0 _ hy rfl; simpa using h0
      have HS : Hid ((l.take (k + 1) = m.take (k + 1)) ↔ x = y) := take_eq_step hT hx hy
      clear hc hc' hT hx hy hkl hkm h h'
      have b0 : (0 : Int) ≤ (k : Int) := by omega
      have b1 : (k : Int) < (n : Int) := by omega
      have hne := True.intro
      by_cases hxy : x = y
      · have t1 : (x != y) = false := by simp [hxy]
        have HX : Hid (x = y) := hxy
        clear hxy
        go_wp2_with fail
        go_quiet (fail)
        go_wp2
        go_roundw
        case rel => exact ⟨k + 1, by omega, by go_num, ⟨_, (by first | rfl | exact World.drewN_drewN _ _ _)⟩, HS.out.2 HX.out⟩
        case measure => simp [intOf]; omega
      · have t1 : (x != y) = true := by simp [hxy]
        have HX : Hid (¬ x = y) := hxy
        clear hxy
        go_wp2_with fail
        go_quiet (fail)
        go_wp2
        go_ret
        refine ⟨ret_bool ?_, ⟨_, (by first | rfl | exact World.drewN_drewN _ _ _)⟩⟩
        symm
        rw [decide_eq_false_iff_not]
        intro e
        exact HX.out (HS.out.1 (by rw [e]))
    · have HT : Hid (l = m) := by
        obtain rfl : k = n := by omega
        have e1 := h.len
        have e2 := h'.len
        rwa [List.take_of_length_le (by omega), List.take_of_length_le (by omega)] at hT
      clear hT h h'
      have hge : ¬ ((k : Int) < (n : Int)) := by omega
      go_wp2
      go_ret
      exact ⟨ret_bool (by simp [HT.out]), ⟨_, (by first | rfl | exact World.drewN_drewN _ _ _)⟩⟩
  · have hne : ((n : Int) != (n' : Int)) = true := by rw [bne_iff_ne]; omega
    have hlm : ¬ l = m := by
      intro e
      have e1 := h.len
      have e2 := h'.len
      rw [e] at e1
      omega
    have HL : Hid (¬ l = m) := hlm
    clear hlm
    go_enter Try.func25, Try.ntmps25
    go_wp2
    go_ret
    exact ⟨ret_bool (by simp [HL.out]), ⟨0, rfl⟩⟩

set_option maxHeartbeats 800000 in
theorem same_ref {A B : Option Addr} {n n' c c' : Nat} {l m : List Pr} {w : World} (h : Sl pc w A n c l) (h' : Sl pc w B n' c' m) (hn : n ≤ 1000000) (hn' : n' ≤ 1000000) :
    Calls Try.prog 13 #[.slice A n c, .slice B n' c'] w fun e w' => e = .returned (.bool (decide (l = m))) ∧ ∃ d, w' = w.drewN d := by
  by_cases hnn : n = n'
  · subst hnn
    go_enter Try.func13, Try.ntmps13
    go_wp2
    go_loopw [5] (fun i wr => ∃ k : Nat, k ≤ n ∧ i = .int .i64 k ∧ (∃ d, wr = w.drewN d) ∧ l.take k = m.take k) (fun i _ => n - (intOf i).toNat)
    case atStart => exact ⟨0, Nat.zero_le _, rfl, ⟨0, rfl⟩, rfl⟩
    case round =>
    obtain ⟨k, hk, rfl, ⟨d, rfl⟩, hT⟩ := hrel
    by_cases hlt : k < n
    · obtain ⟨b, o, rfl, _, hc⟩ := h.base pc_len (by decide) (by omega)
      obtain ⟨b', o', rfl, _, hc'⟩ := h'.base pc_len (by decide) (by omega)
      have hkl : k < l.length := by rw [h.len]; exact hlt
      have hkm : k < m.length := by rw [h'.len]; exact hlt
      obtain ⟨x, hx⟩ : ∃ x, l[k]? = some x := ⟨_, List.getElem?_eq_getElem hkl⟩
      obtain ⟨y, hy⟩ : ∃ y, m[k]? = some y := ⟨_, List.getElem?_eq_getElem hkm⟩
      have c0 : w.cell? ⟨b, o + k * 2, none⟩ = some (.int .u64 x.1) := hc k x 0 _ hx rfl
      have c1 : w.cell? ⟨b, o + k * 2 + 1, none⟩ = some (.int .u64 x.2) := by rw [Nat.add_assoc]; exact hc k x 1 _ hx rfl
      have d0 : w.cell? ⟨b', o' + k * 2, none⟩ = some (.int .u64 y.1) := hc' k y 0 _ hy rfl
      have d1 : w.cell? ⟨b', o' + k * 2 + 1, none⟩ = some (.int .u64 y.2) := by rw [Nat.add_assoc]; exact hc' k y 1 _ hy rfl
      have HS : Hid ((l.take (k + 1) = m.take (k + 1)) ↔ x = y) := take_eq_step hT hx hy
      clear hc hc' hT hx hy hkl hkm h h'
      have b0 : (0 : Int) ≤ (k : Int) := by omega
      have b1 : (k : Int) < (n : Int) := by omega
      have hne := neq_p x y
      by_cases hxy : x = y
      · have t1 : (x != y) = false := by simp [hxy]
        have HX : Hid (x = y) := hxy
        clear hxy
        go_wp2_with fail
        go_quiet (fail)
        go_wp2
        go_roundw
        case rel => exact ⟨k + 1, by omega, by go_num, ⟨_, (by first | rfl | exact World.drewN_drewN _ _ _)⟩, HS.out.2 HX.out⟩
        case measure => simp [intOf]; omega
      · have t1 : (x != y) = true := by simp [hxy]
        have HX : Hid (¬ x = y) := hxy
        clear hxy
        go_wp2_with fail
        go_quiet (fail)
        go_wp2
        go_ret
        refine ⟨ret_bool ?_, ⟨_, (by first | rfl | exact World.drewN_drewN _ _ _)⟩⟩
        symm
        rw [decide_eq_false_iff_not]
        intro e
        exact HX.out (HS.out.1 (by rw [e]))
    · have HT : Hid (l = m) := by
        obtain rfl : k = n := by omega
        have e1 := h.len
        have e2 := h'.len
        rwa [List.take_of_length_le (by omega), List.take_of_length_le (by omega)] at hT
      clear hT h h'
      have hge : ¬ ((k : Int) < (n : Int)) := by omega
      go_wp2
      go_ret
      exact ⟨ret_bool (by simp [HT.out]), ⟨_, (by first | rfl | exact World.drewN_drewN _ _ _)⟩⟩
  · have hne : ((n : Int) != (n' : Int)) = true := by rw [bne_iff_ne]; omega
    have hlm : ¬ l = m := by
      intro e
      have e1 := h.len
      have e2 := h'.len
      rw [e] at e1
      omega
    have HL : Hid (¬ l = m) := hlm
    clear hlm
    go_enter Try.func13, Try.ntmps13
    go_wp2
    go_ret
    exact ⟨ret_bool (by simp [HL.out]), ⟨0, rfl⟩⟩
end Go.Proofs.Ytnmbobhbhfmjeaa
