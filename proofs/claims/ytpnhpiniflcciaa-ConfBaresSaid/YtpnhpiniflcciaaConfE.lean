/- The reference's At; Ints; Reads, Writes; the example. -/
import Derived.Test.YtpnhpiniflcciaaConfD
namespace Go.Proofs.Ytpnhpiniflcciaa
set_option linter.unusedVariables false
set_option linter.unusedSimpArgs false
open Go.RowKit

def between (lo hi n : Int) : Bool := decide (lo ≤ n ∧ n ≤ hi)
def rin (c : Cf) (lo hi : Int) (k : Nat) : Bool := decide (0 ≤ levelOf c k ∧ lo ≤ levelOf c k ∧ levelOf c k ≤ hi)
def rthr (c : Cf) (lo hi : Int) : Nat → List Int
  | 0 => []
  | k + 1 => rthr c lo hi k ++ (if rin c lo hi k = true then [(k : Int)] else [])
theorem rthr_len (c : Cf) (lo hi : Int) : ∀ k, (rthr c lo hi k).length ≤ k
  | 0 => Nat.le_refl _
  | k + 1 => by
    have := rthr_len c lo hi k
    rw [rthr, List.length_append]
    split <;> simp <;> omega
theorem rthr_at (c : Cf) (lo hi : Int) : rthr c lo hi 8 = atL c (between lo hi) := by
  by_cases h : mayB c = true
  · have m : c.May := of_decide_eq_true h
    rw [atL, if_pos h]
    have : ∀ k, k ≤ 8 → rthr c lo hi k = thr c (between lo hi) k := by
      intro k
      induction k with
      | zero => intro _; rfl
      | succ k ih =>
        intro hk
        rw [rthr, thr, ih (by omega)]
        have e : rin c lo hi k = (decide ((k : Int) < c.th) && decide (lo ≤ c.of k ∧ c.of k ≤ hi)) := by
          have hr := m.r k (by omega)
          unfold rin levelOf
          by_cases h2 : (k : Int) < c.th
          · rw [if_pos ⟨h, by omega, h2⟩, Int.toNat_natCast, decide_eq_true h2, Bool.true_and, decide_eq_decide]
            omega
          · rw [if_neg (fun q => h2 q.2.2), decide_eq_false h2, Bool.false_and]
            exact decide_eq_false (by omega)
        rw [e]
        rfl
    exact this 8 (Nat.le_refl _)
  · rw [atL, if_neg h]
    have : ∀ k, rthr c lo hi k = [] := by
      intro k
      induction k with
      | zero => rfl
      | succ k ih =>
        rw [rthr, ih]
        have e : rin c lo hi k = false := by
          unfold rin levelOf
          rw [if_neg (fun q => h q.1)]
          exact decide_eq_false (by omega)
        rw [e]
        rfl
    exact this 8

set_option maxHeartbeats 4000000 in
set_option maxRecDepth 100000 in
theorem rat_any (c : Cf) (lo hi : Int) (w : World) : Calls Try.prog 27 #[.agg #[.int .i64 c.lv, .int .i64 c.th, .int .i64 c.o0, .int .i64 c.o1, .int .i64 c.o2, .int .i64 c.o3, .int .i64 c.o4, .int .i64 c.o5, .int .i64 c.o6, .int .i64 c.o7, .int .i64 c.sl, .int .i64 c.li, .int .i64 c.ge, .int .i64 c.qu], .int .i64 lo, .int .i64 hi] w fun e w' => ∃ A' c', e = .returned (.slice A' (atL c (between lo hi)).length c') ∧ w'.ownsRow w.heap.size 3 1 (.slice A' (atL c (between lo hi)).length c') (atL c (between lo hi)).length ((atL c (between lo hi)).flatMap ic) ∧ Below w.heap.size w w' := by
  obtain ⟨i0, E⟩ := elem_i
  have hE : Hid (rthr c lo hi 8 = atL c (between lo hi)) := rthr_at c lo hi
  go_enter Try.func27, Try.ntmps27
  go_wp2_with fail
  obtain ⟨W0, hW0, k0, k1, k2, k3, k4, k5, k6, k7, k8, k9, k10, k11, k12, k13, kof, kb⟩ : ∃ W0, w.alloc (.cells #[.int .i64 c.lv, .int .i64 c.th, .int .i64 c.o0, .int .i64 c.o1, .int .i64 c.o2, .int .i64 c.o3, .int .i64 c.o4, .int .i64 c.o5, .int .i64 c.o6, .int .i64 c.o7, .int .i64 c.sl, .int .i64 c.li, .int .i64 c.ge, .int .i64 c.qu] 45) = W0 ∧ W0.cell? ⟨w.heap.size, 0, none⟩ = some (.int .i64 c.lv) ∧ W0.cell? ⟨w.heap.size, 1, none⟩ = some (.int .i64 c.th) ∧ W0.cell? ⟨w.heap.size, 2, none⟩ = some (.int .i64 c.o0) ∧ W0.cell? ⟨w.heap.size, 3, none⟩ = some (.int .i64 c.o1) ∧ W0.cell? ⟨w.heap.size, 4, none⟩ = some (.int .i64 c.o2) ∧ W0.cell? ⟨w.heap.size, 5, none⟩ = some (.int .i64 c.o3) ∧ W0.cell? ⟨w.heap.size, 6, none⟩ = some (.int .i64 c.o4) ∧ W0.cell? ⟨w.heap.size, 7, none⟩ = some (.int .i64 c.o5) ∧ W0.cell? ⟨w.heap.size, 8, none⟩ = some (.int .i64 c.o6) ∧ W0.cell? ⟨w.heap.size, 9, none⟩ = some (.int .i64 c.o7) ∧ W0.cell? ⟨w.heap.size, 10, none⟩ = some (.int .i64 c.sl) ∧ W0.cell? ⟨w.heap.size, 11, none⟩ = some (.int .i64 c.li) ∧ W0.cell? ⟨w.heap.size, 12, none⟩ = some (.int .i64 c.ge) ∧ W0.cell? ⟨w.heap.size, 13, none⟩ = some (.int .i64 c.qu) ∧ (∀ k : Nat, k < 8 → W0.cell? ⟨w.heap.size, 2 + k, none⟩ = some (.int .i64 (c.of k))) ∧ Below w.heap.size w W0 :=
    ⟨_, rfl, by go_simp, by go_simp, by go_simp, by go_simp, by go_simp, by go_simp, by go_simp, by go_simp, by go_simp, by go_simp, by go_simp, by go_simp, by go_simp, by go_simp, box_of c w, bnew (brefl w) _⟩
  rw [hW0]
  clear hW0
  have hz := block_lt_of_cell k0
  clear kof
  go_loopg [7, 8] 8 (fun gk out i wr => ∃ (k m : Nat) (A' : Option Addr) (c' : Nat), k + gk = 8 ∧ i = .int .i64 k ∧ out = .slice A' m c' ∧ Hid (m = (rthr c lo hi k).length) ∧ wr.ownsRow W0.heap.size 3 1 (.slice A' m c') m ((rthr c lo hi k).flatMap ic) ∧ Below W0.heap.size W0 wr)
  case atStart => exact ⟨0, 0, none, 0, by omega, rfl, rfl, rfl, World.ownsRow_nil _ _ _ _, brefl W0⟩
  case round =>
    obtain ⟨k, m, A', c', hk, rfl, rfl, hm, own, hbr⟩ := hrel
    by_cases hlt : k < 8
    · have b1 : (k : Int) < 8 := by omega
      have hlv := rlevel_any c (k : Int)
      have hm1 : m ≤ k := by have := hm.out; have := rthr_len c lo hi k; omega
      obtain ⟨hc0, _, _⟩ := bcell hbr
      have HS : Hid (rthr c lo hi (k + 1) = rthr c lo hi k ++ (if decide (0 ≤ levelOf c k ∧ lo ≤ levelOf c k ∧ levelOf c k ≤ hi) = true then [(k : Int)] else [])) := rfl
      generalize levelOf c k = v at *
      by_cases g1 : 0 ≤ v
      · by_cases g2 : lo ≤ v
        · by_cases g3 : v ≤ hi
          · have HF : Hid (decide (0 ≤ v ∧ lo ≤ v ∧ v ≤ hi) = true) := decide_eq_true ⟨g1, g2, g3⟩
            go_wp2_with (first | (go_at_call 23; refine (hlv _).mono ?_; rintro e w1 ⟨rfl, hb1⟩; have hb2 := bnext hbr hb1; have own2 := own_below own hb1) | (at_builtin; refine wpList_onto (W0 := W0) (ys := [.int .i64 (k : Int)]) (m := 1) E rfl (.tmp 29) (.tmp 31) rfl (bnew hb2 _) rfl (own2.alloc _) rfl rfl (Rd.new _ _ _ rfl) (by simp [Value.oneCell']) (by unfold maxLen; omega) (by omega) ?_; intro A8 c8 w8 own8 hb8 _))
            go_roundg (gk - 1)
            case measure => omega
            case rel =>
              refine ⟨k + 1, m + 1, A8, c8, by omega, by go_num, rfl, ?_, ?_, hb8⟩
              · rw [Hid, HS.out, HF.out, hm.out]; simp
              · rw [HS.out, HF.out, if_pos rfl, List.flatMap_append]
                exact own8
          · have g4 : decide (v ≤ hi) = false := decide_eq_false g3
            have HF : Hid (decide (0 ≤ v ∧ lo ≤ v ∧ v ≤ hi) = false) := decide_eq_false (by omega)
            go_wp2_with (go_at_call 23; refine (hlv _).mono ?_; rintro e w1 ⟨rfl, hb1⟩)
            go_roundg (gk - 1)
            case measure => omega
            case rel =>
              refine ⟨k + 1, m, A', c', by omega, by go_num, rfl, ?_, ?_, bnext hbr hb1⟩
              · rw [Hid, HS.out, HF.out, hm.out]; simp
              · rw [HS.out, HF.out]
                simp only [Bool.false_eq_true, if_false, List.append_nil]
                exact own_below own hb1
        · have g4 : decide (lo ≤ v) = false := decide_eq_false g2
          have HF : Hid (decide (0 ≤ v ∧ lo ≤ v ∧ v ≤ hi) = false) := decide_eq_false (by omega)
          go_wp2_with (go_at_call 23; refine (hlv _).mono ?_; rintro e w1 ⟨rfl, hb1⟩)
          go_roundg (gk - 1)
          case measure => omega
          case rel =>
            refine ⟨k + 1, m, A', c', by omega, by go_num, rfl, ?_, ?_, bnext hbr hb1⟩
            · rw [Hid, HS.out, HF.out, hm.out]; simp
            · rw [HS.out, HF.out]
              simp only [Bool.false_eq_true, if_false, List.append_nil]
              exact own_below own hb1
      · have g4 : decide (0 ≤ v) = false := decide_eq_false g1
        have HF : Hid (decide (0 ≤ v ∧ lo ≤ v ∧ v ≤ hi) = false) := decide_eq_false (by omega)
        go_wp2_with (go_at_call 23; refine (hlv _).mono ?_; rintro e w1 ⟨rfl, hb1⟩)
        go_roundg (gk - 1)
        case measure => omega
        case rel =>
          refine ⟨k + 1, m, A', c', by omega, by go_num, rfl, ?_, ?_, bnext hbr hb1⟩
          · rw [Hid, HS.out, HF.out, hm.out]; simp
          · rw [HS.out, HF.out]
            simp only [Bool.false_eq_true, if_false, List.append_nil]
            exact own_below own hb1
    · obtain rfl : k = 8 := by omega
      rw [hE.out] at hm own
      have hm' := hm.out
      subst hm'
      go_wp2
      go_ret
      exact ⟨A', c', rfl, own_base own kb.size, bnext kb hbr⟩

set_option maxHeartbeats 2000000 in
/-- The same list at two places. -/
theorem ints_any {A B : Option Addr} {n c c' : Nat} {l : List Int} {w : World} (h : Sl ic w A n c l) (h' : Sl ic w B n c' l) (hn : n ≤ 1000000) :
    Calls Try.prog 25 #[.slice A n c, .slice B n c'] w fun e w' => e = .returned (.bool true) ∧ ∃ d, w' = w.drewN d := by
  go_enter Try.func25, Try.ntmps25
  go_wp2
  go_loopg [5] n (fun gk i wr => ∃ (k : Nat), k + gk = n ∧ i = .int .i64 k ∧ ∃ d, wr = w.drewN d)
  case atStart => exact ⟨0, by omega, rfl, 0, rfl⟩
  case round =>
    obtain ⟨k, hk, rfl, d, rfl⟩ := hrel
    by_cases hlt : k < n
    · obtain ⟨b, o, rfl, _, hc⟩ := h.base ic_len (by decide) (by omega)
      obtain ⟨b', o', rfl, _, hc'⟩ := h'.base ic_len (by decide) (by omega)
      obtain ⟨x, hx⟩ : ∃ x, l[k]? = some x := ⟨_, List.getElem?_eq_getElem (by rw [h.len]; exact hlt)⟩
      have c0 : w.cell? ⟨b, o + k, none⟩ = some (.int .i64 x) := by have h0 := hc k x 0 _ hx rfl; simpa using h0
      have d0 : w.cell? ⟨b', o' + k, none⟩ = some (.int .i64 x) := by have h0 := hc' k x 0 _ hx rfl; simpa using h0
      have b0 : (0 : Int) ≤ (k : Int) := by omega
      have b1 : (k : Int) < (n : Int) := by omega
      clear hc hc' hx h h'
      go_wp2_with fail
      go_quiet (fail)
      go_wp2
      go_roundg (gk - 1)
      case measure => omega
      case rel => exact ⟨k + 1, by omega, by go_num, _, by first | rfl | exact World.drewN_drewN _ _ _⟩
    · have hge : ¬ ((k : Int) < (n : Int)) := by omega
      clear h h'
      go_wp2
      go_ret
      exact ⟨rfl, d, rfl⟩

def readsB (c : Cf) (t l : Int) : Bool := decide (0 ≤ l ∧ l ≤ levelOf c t)
def writesB (c : Cf) (t l : Int) : Bool := decide (0 ≤ levelOf c t ∧ levelOf c t = l)

set_option maxHeartbeats 2000000 in
set_option maxRecDepth 100000 in
theorem reads_any (c : Cf) (t l : Int) (w : World) : Calls Try.prog 30 #[.agg #[.int .i64 c.lv, .int .i64 c.th, .int .i64 c.o0, .int .i64 c.o1, .int .i64 c.o2, .int .i64 c.o3, .int .i64 c.o4, .int .i64 c.o5, .int .i64 c.o6, .int .i64 c.o7, .int .i64 c.sl, .int .i64 c.li, .int .i64 c.ge, .int .i64 c.qu], .int .i64 t, .int .i64 l] w fun e w' => e = .returned (.bool (readsB c t l)) ∧ Below w.heap.size w w' := by
  have hlv := level_any c t
  have HD : Hid (readsB c t l = decide (0 ≤ l ∧ l ≤ levelOf c t)) := rfl
  generalize levelOf c t = v at *
  by_cases h1 : 0 ≤ l
  · by_cases h2 : l ≤ v
    · have hE : Hid (readsB c t l = true) := by rw [Hid, HD.out]; exact decide_eq_true ⟨h1, h2⟩
      go_enter Try.func30, Try.ntmps30
      go_wp2_with (go_at_call 22; refine (hlv _).mono ?_; rintro e w1 ⟨rfl, hb1⟩)
      go_ret
      exact ⟨by rw [hE.out]; first | rfl | simp [h2] | (simp; omega), bnext (bnew (brefl w) _) hb1⟩
    · have hE : Hid (readsB c t l = false) := by rw [Hid, HD.out]; exact decide_eq_false (fun q => h2 q.2)
      go_enter Try.func30, Try.ntmps30
      go_wp2_with (go_at_call 22; refine (hlv _).mono ?_; rintro e w1 ⟨rfl, hb1⟩)
      go_ret
      exact ⟨by rw [hE.out]; first | rfl | simp [h2] | (simp; omega), bnext (bnew (brefl w) _) hb1⟩
  · have hE : Hid (readsB c t l = false) := by rw [Hid, HD.out]; exact decide_eq_false (fun q => h1 q.1)
    have h2 : l < 0 := by omega
    go_enter Try.func30, Try.ntmps30
    go_wp2
    go_ret
    exact ⟨by rw [hE.out]; rfl, bnew (brefl w) _⟩

set_option maxHeartbeats 2000000 in
set_option maxRecDepth 100000 in
theorem writes_any (c : Cf) (t l : Int) (w : World) : Calls Try.prog 29 #[.agg #[.int .i64 c.lv, .int .i64 c.th, .int .i64 c.o0, .int .i64 c.o1, .int .i64 c.o2, .int .i64 c.o3, .int .i64 c.o4, .int .i64 c.o5, .int .i64 c.o6, .int .i64 c.o7, .int .i64 c.sl, .int .i64 c.li, .int .i64 c.ge, .int .i64 c.qu], .int .i64 t, .int .i64 l] w fun e w' => e = .returned (.bool (writesB c t l)) ∧ Below w.heap.size w w' := by
  have hrd := reads_any c t l
  by_cases h1 : 0 ≤ l ∧ l ≤ levelOf c t
  · have e1 : readsB c t l = true := decide_eq_true h1
    have h2 : mayB c = true ∧ 0 ≤ t ∧ t < c.th := by
      refine Classical.byContradiction fun hn => ?_
      have : levelOf c t = -1 := if_neg hn
      omega
    have m : c.May := of_decide_eq_true h2.1
    have l2 := m.t2
    have hlv : levelOf c t = c.of t.toNat := if_pos h2
    have HW : Hid (writesB c t l = (l == c.of t.toNat)) := by
      rw [Hid, writesB, hlv, Bool.eq_iff_iff]
      simp only [decide_eq_true_eq, beq_iff_eq]
      omega
    obtain ⟨k, rfl⟩ : ∃ k : Nat, t = (k : Int) := ⟨t.toNat, by omega⟩
    rw [Int.toNat_natCast] at HW
    rw [e1] at hrd
    have b0 : (0 : Int) ≤ (k : Int) := by omega
    have b1 : (k : Int) < 8 := by omega
    have b4 : k < 8 := by omega
    clear h1 h2 e1 m hlv l2
    go_enter Try.func29, Try.ntmps29
    go_wp2_with fail
    obtain ⟨W0, hW0, k0, k1, k2, k3, k4, k5, k6, k7, k8, k9, k10, k11, k12, k13, kof, kb⟩ : ∃ W0, w.alloc (.cells #[.int .i64 c.lv, .int .i64 c.th, .int .i64 c.o0, .int .i64 c.o1, .int .i64 c.o2, .int .i64 c.o3, .int .i64 c.o4, .int .i64 c.o5, .int .i64 c.o6, .int .i64 c.o7, .int .i64 c.sl, .int .i64 c.li, .int .i64 c.ge, .int .i64 c.qu] 45) = W0 ∧ W0.cell? ⟨w.heap.size, 0, none⟩ = some (.int .i64 c.lv) ∧ W0.cell? ⟨w.heap.size, 1, none⟩ = some (.int .i64 c.th) ∧ W0.cell? ⟨w.heap.size, 2, none⟩ = some (.int .i64 c.o0) ∧ W0.cell? ⟨w.heap.size, 3, none⟩ = some (.int .i64 c.o1) ∧ W0.cell? ⟨w.heap.size, 4, none⟩ = some (.int .i64 c.o2) ∧ W0.cell? ⟨w.heap.size, 5, none⟩ = some (.int .i64 c.o3) ∧ W0.cell? ⟨w.heap.size, 6, none⟩ = some (.int .i64 c.o4) ∧ W0.cell? ⟨w.heap.size, 7, none⟩ = some (.int .i64 c.o5) ∧ W0.cell? ⟨w.heap.size, 8, none⟩ = some (.int .i64 c.o6) ∧ W0.cell? ⟨w.heap.size, 9, none⟩ = some (.int .i64 c.o7) ∧ W0.cell? ⟨w.heap.size, 10, none⟩ = some (.int .i64 c.sl) ∧ W0.cell? ⟨w.heap.size, 11, none⟩ = some (.int .i64 c.li) ∧ W0.cell? ⟨w.heap.size, 12, none⟩ = some (.int .i64 c.ge) ∧ W0.cell? ⟨w.heap.size, 13, none⟩ = some (.int .i64 c.qu) ∧ (∀ k : Nat, k < 8 → W0.cell? ⟨w.heap.size, 2 + k, none⟩ = some (.int .i64 (c.of k))) ∧ Below w.heap.size w W0 :=
      ⟨_, rfl, by go_simp, by go_simp, by go_simp, by go_simp, by go_simp, by go_simp, by go_simp, by go_simp, by go_simp, by go_simp, by go_simp, by go_simp, by go_simp, by go_simp, box_of c w, bnew (brefl w) _⟩
    rw [hW0]
    clear hW0
    have ck := kof k b4
    clear kof
    go_wp2_with (go_at_call 30; refine (hrd _).mono ?_; rintro e w1 ⟨rfl, hb1⟩; have qf := keep_below ck hb1)
    go_ret
    exact ⟨by rw [HW.out]; rfl, bnext kb hb1⟩
  · have e1 : readsB c t l = false := decide_eq_false h1
    have hE : Hid (writesB c t l = false) := decide_eq_false (by omega)
    rw [e1] at hrd
    clear h1 e1
    go_enter Try.func29, Try.ntmps29
    go_wp2_with fail
    obtain ⟨W0, hW0, k0, k1, k2, k3, k4, k5, k6, k7, k8, k9, k10, k11, k12, k13, kof, kb⟩ : ∃ W0, w.alloc (.cells #[.int .i64 c.lv, .int .i64 c.th, .int .i64 c.o0, .int .i64 c.o1, .int .i64 c.o2, .int .i64 c.o3, .int .i64 c.o4, .int .i64 c.o5, .int .i64 c.o6, .int .i64 c.o7, .int .i64 c.sl, .int .i64 c.li, .int .i64 c.ge, .int .i64 c.qu] 45) = W0 ∧ W0.cell? ⟨w.heap.size, 0, none⟩ = some (.int .i64 c.lv) ∧ W0.cell? ⟨w.heap.size, 1, none⟩ = some (.int .i64 c.th) ∧ W0.cell? ⟨w.heap.size, 2, none⟩ = some (.int .i64 c.o0) ∧ W0.cell? ⟨w.heap.size, 3, none⟩ = some (.int .i64 c.o1) ∧ W0.cell? ⟨w.heap.size, 4, none⟩ = some (.int .i64 c.o2) ∧ W0.cell? ⟨w.heap.size, 5, none⟩ = some (.int .i64 c.o3) ∧ W0.cell? ⟨w.heap.size, 6, none⟩ = some (.int .i64 c.o4) ∧ W0.cell? ⟨w.heap.size, 7, none⟩ = some (.int .i64 c.o5) ∧ W0.cell? ⟨w.heap.size, 8, none⟩ = some (.int .i64 c.o6) ∧ W0.cell? ⟨w.heap.size, 9, none⟩ = some (.int .i64 c.o7) ∧ W0.cell? ⟨w.heap.size, 10, none⟩ = some (.int .i64 c.sl) ∧ W0.cell? ⟨w.heap.size, 11, none⟩ = some (.int .i64 c.li) ∧ W0.cell? ⟨w.heap.size, 12, none⟩ = some (.int .i64 c.ge) ∧ W0.cell? ⟨w.heap.size, 13, none⟩ = some (.int .i64 c.qu) ∧ (∀ k : Nat, k < 8 → W0.cell? ⟨w.heap.size, 2 + k, none⟩ = some (.int .i64 (c.of k))) ∧ Below w.heap.size w W0 :=
      ⟨_, rfl, by go_simp, by go_simp, by go_simp, by go_simp, by go_simp, by go_simp, by go_simp, by go_simp, by go_simp, by go_simp, by go_simp, by go_simp, by go_simp, by go_simp, box_of c w, bnew (brefl w) _⟩
    rw [hW0]
    clear hW0
    go_wp2_with (go_at_call 30; refine (hrd _).mono ?_; rintro e w1 ⟨rfl, hb1⟩)
    go_ret
    exact ⟨by rw [hE.out]; rfl, bnext kb hb1⟩
end Go.Proofs.Ytpnhpiniflcciaa
