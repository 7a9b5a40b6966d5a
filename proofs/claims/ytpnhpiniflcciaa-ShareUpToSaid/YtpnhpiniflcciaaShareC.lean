/- Of, its reference, Opersame. -/
import Derived.Test.YtpnhpiniflcciaaShareB
namespace Go.Proofs.Ytpnhpiniflcciaa
set_option linter.unusedVariables false
set_option linter.unusedSimpArgs false
open Go.RowKit

set_option maxHeartbeats 1000000 in
theorem of_any {A : Option Addr} {n c : Nat} {l : List Opr} {w : World} (h : Sl oc w A n c l) (hn : n ≤ 1000000) (lv pt : Int) :
    Calls Try.prog 17 #[.slice A n c, .int .i64 lv, .int .i64 pt] w fun e w' => ∃ A' c', e = .returned (.slice A' (l.filter (inShare lv pt)).length c') ∧ w'.ownsRow w.heap.size 35 16 (.slice A' (l.filter (inShare lv pt)).length c') (l.filter (inShare lv pt)).length ((l.filter (inShare lv pt)).flatMap oc) ∧ Below w.heap.size w w' := by
  have hmf : ∀ (fn : Fn) (first cap : Array Value) (w : World), (Instr.makeFunc fn first cap).run Try.prog w = .ok (.func fn first cap) w := fun _ _ _ _ => rfl
  go_enter Try.func17, Try.ntmps17
  go_wp2_with fail
  obtain ⟨W0, hW0, k1, k2, kb⟩ : ∃ W0, (w.alloc (.cells #[.int .i64 lv] 3)).alloc (.cells #[.int .i64 pt] 3) = W0 ∧ W0.cell? ⟨w.heap.size, 0, none⟩ = some (.int .i64 lv) ∧ W0.cell? ⟨w.heap.size + 1, 0, none⟩ = some (.int .i64 pt) ∧ Below w.heap.size w W0 :=
    ⟨_, rfl, by go_simp, by go_simp, bnew (bnew (brefl w) _) _⟩
  rw [hW0]
  clear hW0
  refine (those_of (h.below kb) hn w.heap.size (w.heap.size + 1) (inShare lv pt) fun x w' hb => of1_any x lv pt _ _ w' (keep_below k1 hb) (keep_below k2 hb)).mono ?_
  rintro e w1 ⟨A', c', rfl, own, hb⟩
  have hz := kb.size
  go_wp2
  go_ret
  exact ⟨A', c', rfl, own_base own hz, bnext kb hb⟩

theorem rof_test (x : Opr) (lv pt : Int) (h : whichOk x = true) : (whichN x / 4 == lv) = (x.lv == lv) ∧ (whichN x % 4 == pt) = (partOf x.op == pt) ∧ 0 ≤ whichN x ∧ whichN x ≤ 15 := by
  have h' : 0 ≤ x.op ∧ x.op ≤ 11 ∧ 0 ≤ x.lv ∧ x.lv ≤ 3 := of_decide_eq_true h
  have hN : whichN x = 4 * x.lv + x.op / 3 := if_pos h
  have hp : partOf x.op = x.op / 3 := if_pos ⟨h'.1, h'.2.1⟩
  rw [hN, hp]
  refine ⟨by congr 1; omega, by congr 1; omega, by omega, by omega⟩

set_option maxHeartbeats 2000000 in
set_option maxRecDepth 100000 in
theorem rof_any {A : Option Addr} {n c : Nat} {l : List Opr} {w : World} (h : Sl oc w A n c l) (hn : n ≤ 1000000) (lv pt : Int) :
    Calls Try.prog 18 #[.slice A n c, .int .i64 lv, .int .i64 pt] w fun e w' => ∃ A' c', e = .returned (.slice A' (l.filter (inShare lv pt)).length c') ∧ w'.ownsRow w.heap.size 35 16 (.slice A' (l.filter (inShare lv pt)).length c') (l.filter (inShare lv pt)).length ((l.filter (inShare lv pt)).flatMap oc) ∧ Below w.heap.size w w' := by
  obtain ⟨i0, E⟩ := elem_o
  go_enter Try.func18, Try.ntmps18
  go_wp2
  go_loopg [7, 8] n (fun gk out i wr => ∃ (k m : Nat) (A' : Option Addr) (c' : Nat), k + gk = n ∧ i = .int .i64 k ∧ out = .slice A' m c' ∧ Hid (m = ((l.take k).filter (inShare lv pt)).length) ∧ wr.ownsRow w.heap.size 35 16 (.slice A' m c') m (((l.take k).filter (inShare lv pt)).flatMap oc) ∧ Below w.heap.size w wr)
  case atStart => exact ⟨0, 0, none, 0, by omega, rfl, rfl, rfl, World.ownsRow_nil _ _ _ _, brefl w⟩
  case round =>
    obtain ⟨k, m, A', c', hk, rfl, rfl, hm, own, hbr⟩ := hrel
    by_cases hlt : k < n
    · obtain ⟨b, o, rfl, _, hc⟩ := h.base oc_len (by decide) (by omega)
      obtain ⟨x, hx⟩ : ∃ x, l[k]? = some x := ⟨_, List.getElem?_eq_getElem (by rw [h.len]; exact hlt)⟩
      have c0 : wr.cell? ⟨b, o + k * 16, none⟩ = some (.int .i64 x.th) := keep_below (by have h0 := hc k x 0 _ hx rfl; simpa [Nat.add_assoc] using h0) hbr
      have c1 : wr.cell? ⟨b, o + k * 16 + 1, none⟩ = some (.int .i64 x.op) := keep_below (by have h0 := hc k x 1 _ hx rfl; simpa [Nat.add_assoc] using h0) hbr
      have c2 : wr.cell? ⟨b, o + k * 16 + 2, none⟩ = some (.int .i64 x.lv) := keep_below (by have h0 := hc k x 2 _ hx rfl; simpa [Nat.add_assoc] using h0) hbr
      have c3 : wr.cell? ⟨b, o + k * 16 + 3, none⟩ = some (.int .i64 x.key) := keep_below (by have h0 := hc k x 3 _ hx rfl; simpa [Nat.add_assoc] using h0) hbr
      have c4 : wr.cell? ⟨b, o + k * 16 + 4, none⟩ = some (.int .u64 x.a) := keep_below (by have h0 := hc k x 4 _ hx rfl; simpa [Nat.add_assoc] using h0) hbr
      have c5 : wr.cell? ⟨b, o + k * 16 + 5, none⟩ = some (.int .u64 x.b) := keep_below (by have h0 := hc k x 5 _ hx rfl; simpa [Nat.add_assoc] using h0) hbr
      have c6 : wr.cell? ⟨b, o + k * 16 + 6, none⟩ = some (.int .u64 x.h) := keep_below (by have h0 := hc k x 6 _ hx rfl; simpa [Nat.add_assoc] using h0) hbr
      have c7 : wr.cell? ⟨b, o + k * 16 + 7, none⟩ = some (.int .i64 x.rg) := keep_below (by have h0 := hc k x 7 _ hx rfl; simpa [Nat.add_assoc] using h0) hbr
      have c8 : wr.cell? ⟨b, o + k * 16 + 8, none⟩ = some (.int .i64 x.er) := keep_below (by have h0 := hc k x 8 _ hx rfl; simpa [Nat.add_assoc] using h0) hbr
      have c9 : wr.cell? ⟨b, o + k * 16 + 9, none⟩ = some (.int .u64 x.ra) := keep_below (by have h0 := hc k x 9 _ hx rfl; simpa [Nat.add_assoc] using h0) hbr
      have c10 : wr.cell? ⟨b, o + k * 16 + 10, none⟩ = some (.int .u64 x.rb) := keep_below (by have h0 := hc k x 10 _ hx rfl; simpa [Nat.add_assoc] using h0) hbr
      have c11 : wr.cell? ⟨b, o + k * 16 + 11, none⟩ = some (.int .u64 x.rh) := keep_below (by have h0 := hc k x 11 _ hx rfl; simpa [Nat.add_assoc] using h0) hbr
      have c12 : wr.cell? ⟨b, o + k * 16 + 12, none⟩ = some (.int .i64 x.n) := keep_below (by have h0 := hc k x 12 _ hx rfl; simpa [Nat.add_assoc] using h0) hbr
      have c13 : wr.cell? ⟨b, o + k * 16 + 13, none⟩ = some (.int .i64 x.k) := keep_below (by have h0 := hc k x 13 _ hx rfl; simpa [Nat.add_assoc] using h0) hbr
      have c14 : wr.cell? ⟨b, o + k * 16 + 14, none⟩ = some (.int .i64 x.fr) := keep_below (by have h0 := hc k x 14 _ hx rfl; simpa [Nat.add_assoc] using h0) hbr
      have c15 : wr.cell? ⟨b, o + k * 16 + 15, none⟩ = some (.int .i64 x.fin) := keep_below (by have h0 := hc k x 15 _ hx rfl; simpa [Nat.add_assoc] using h0) hbr
      have hm1 : m ≤ k := by
        have e1 := List.length_filter_le (inShare lv pt) (l.take k)
        rw [List.length_take] at e1
        have := hm.out
        omega
      have HS : Hid ((l.take (k + 1)).filter (inShare lv pt) = (l.take k).filter (inShare lv pt) ++ (if inShare lv pt x = true then [x] else [])) := filter_snoc _ hx
      have b0 : (0 : Int) ≤ (k : Int) := by omega
      have b1 : (k : Int) < (n : Int) := by omega
      have hcl := rwhich_any x
      have hzb : b < wr.heap.size := block_lt_of_cell c0
      clear hc hx h
      by_cases hok : whichOk x = true
      · obtain ⟨g1, g2, g3, g4⟩ := rof_test x lv pt hok
        rw [hok] at hcl
        generalize whichN x = N at *
        by_cases h1 : (x.lv == lv) = true
        · rw [h1] at g1
          by_cases h2 : (partOf x.op == pt) = true
          · rw [h2] at g2
            have HF : Hid (inShare lv pt x = true) := by rw [Hid, inShare, hok, h1, h2]; rfl
            clear hok h1 h2
            go_wp2_with (first | (go_at_call 15; refine (hcl _).mono ?_; rintro e w1 ⟨rfl, hb1⟩; have hb2 := bnext hbr hb1; have own2 := own_below own hb1; obtain ⟨hc1, hf1, hz1⟩ := bcell hb1) | (at_builtin; refine wpList_onto (W0 := w) (ys := oc x) (m := 1) E rfl (.tmp 38) (.tmp 43) rfl (bnew hb2 _) rfl (own2.alloc _) rfl rfl (Rd.new _ _ _ rfl) (by simp [oc, Value.oneCell']) (by unfold maxLen; omega) (by omega) ?_; intro A8 c8 w8 own8 hb8 _))
            go_roundg (gk - 1)
            case measure => omega
            case rel =>
              refine ⟨k + 1, m + 1, A8, c8, by omega, by go_num, rfl, ?_, ?_, hb8⟩
              · rw [Hid, HS.out, HF.out, hm.out]; simp
              · rw [HS.out, HF.out, if_pos rfl, List.flatMap_append]
                exact own8
          · have h2' : (partOf x.op == pt) = false := by simpa using h2
            rw [h2'] at g2
            have HF : Hid (inShare lv pt x = false) := by rw [Hid, inShare, hok, h1, h2']; rfl
            clear hok h1 h2 h2'
            go_wp2_with ((go_at_call 15; refine (hcl _).mono ?_; rintro e w1 ⟨rfl, hb1⟩; have hb2 := bnext hbr hb1; have own2 := own_below own hb1; obtain ⟨hc1, hf1, hz1⟩ := bcell hb1))
            go_roundg (gk - 1)
            case measure => omega
            case rel =>
              refine ⟨k + 1, m, A', c', by omega, by go_num, rfl, ?_, ?_, bnext hbr hb1⟩
              · rw [Hid, HS.out, HF.out, hm.out]; simp
              · rw [HS.out, HF.out]
                simp only [Bool.false_eq_true, if_false, List.append_nil]
                exact own_below own hb1
        · have h1' : (x.lv == lv) = false := by simpa using h1
          rw [h1'] at g1
          have HF : Hid (inShare lv pt x = false) := by rw [Hid, inShare, hok, h1']; rfl
          clear hok h1 h1' g2
          go_wp2_with ((go_at_call 15; refine (hcl _).mono ?_; rintro e w1 ⟨rfl, hb1⟩; have hb2 := bnext hbr hb1; have own2 := own_below own hb1; obtain ⟨hc1, hf1, hz1⟩ := bcell hb1))
          go_roundg (gk - 1)
          case measure => omega
          case rel =>
            refine ⟨k + 1, m, A', c', by omega, by go_num, rfl, ?_, ?_, bnext hbr hb1⟩
            · rw [Hid, HS.out, HF.out, hm.out]; simp
            · rw [HS.out, HF.out]
              simp only [Bool.false_eq_true, if_false, List.append_nil]
              exact own_below own hb1
      · have hok' : whichOk x = false := by simpa using hok
        rw [hok'] at hcl
        have HF : Hid (inShare lv pt x = false) := by rw [Hid, inShare, hok']; rfl
        clear hok hok'
        generalize whichN x = N at *
        go_wp2_with ((go_at_call 15; refine (hcl _).mono ?_; rintro e w1 ⟨rfl, hb1⟩; have hb2 := bnext hbr hb1; have own2 := own_below own hb1; obtain ⟨hc1, hf1, hz1⟩ := bcell hb1))
        go_roundg (gk - 1)
        case measure => omega
        case rel =>
          refine ⟨k + 1, m, A', c', by omega, by go_num, rfl, ?_, ?_, bnext hbr hb1⟩
          · rw [Hid, HS.out, HF.out, hm.out]; simp
          · rw [HS.out, HF.out]
            simp only [Bool.false_eq_true, if_false, List.append_nil]
            exact own_below own hb1
    · have HT : Hid (l.take k = l) := by rw [Hid, List.take_of_length_le (by rw [h.len]; omega)]
      have hge : ¬ ((k : Int) < (n : Int)) := by omega
      clear h
      go_wp2
      go_ret
      rw [HT.out] at hm own
      have hm' := hm.out
      subst hm'
      exact ⟨A', c', rfl, own, hbr⟩

theorem neq_o (x : Opr) (w : World) : (binOp .neq 35 (.agg #[.int .i64 x.th, .int .i64 x.op, .int .i64 x.lv, .int .i64 x.key, .int .u64 x.a, .int .u64 x.b, .int .u64 x.h, .int .i64 x.rg, .int .i64 x.er, .int .u64 x.ra, .int .u64 x.rb, .int .u64 x.rh, .int .i64 x.n, .int .i64 x.k, .int .i64 x.fr, .int .i64 x.fin]) (.agg #[.int .i64 x.th, .int .i64 x.op, .int .i64 x.lv, .int .i64 x.key, .int .u64 x.a, .int .u64 x.b, .int .u64 x.h, .int .i64 x.rg, .int .i64 x.er, .int .u64 x.ra, .int .u64 x.rb, .int .u64 x.rh, .int .i64 x.n, .int .i64 x.k, .int .i64 x.fr, .int .i64 x.fin])).run Try.prog w = .ok (.bool false) w := by
  simp [go_sem]

set_option maxHeartbeats 2000000 in
set_option maxRecDepth 100000 in
/-- The same list at two places. -/
theorem opersame_any {A B : Option Addr} {n c c' : Nat} {l : List Opr} {w : World} (h : Sl oc w A n c l) (h' : Sl oc w B n c' l) (hn : n ≤ 1000000) :
    Calls Try.prog 16 #[.slice A n c, .slice B n c'] w fun e w' => e = .returned (.bool true) ∧ ∃ d, w' = w.drewN d := by
  go_enter Try.func16, Try.ntmps16
  go_wp2
  go_loopg [5] n (fun gk i wr => ∃ (k : Nat), k + gk = n ∧ i = .int .i64 k ∧ ∃ d, wr = w.drewN d)
  case atStart => exact ⟨0, by omega, rfl, 0, rfl⟩
  case round =>
    obtain ⟨k, hk, rfl, d, rfl⟩ := hrel
    by_cases hlt : k < n
    · obtain ⟨b, o, rfl, _, hc⟩ := h.base oc_len (by decide) (by omega)
      obtain ⟨b', o', rfl, _, hc'⟩ := h'.base oc_len (by decide) (by omega)
      obtain ⟨x, hx⟩ : ∃ x, l[k]? = some x := ⟨_, List.getElem?_eq_getElem (by rw [h.len]; exact hlt)⟩
      have c0 : w.cell? ⟨b, o + k * 16, none⟩ = some (.int .i64 x.th) := (by have h0 := hc k x 0 _ hx rfl; simpa [Nat.add_assoc] using h0)
      have c1 : w.cell? ⟨b, o + k * 16 + 1, none⟩ = some (.int .i64 x.op) := (by have h0 := hc k x 1 _ hx rfl; simpa [Nat.add_assoc] using h0)
      have c2 : w.cell? ⟨b, o + k * 16 + 2, none⟩ = some (.int .i64 x.lv) := (by have h0 := hc k x 2 _ hx rfl; simpa [Nat.add_assoc] using h0)
      have c3 : w.cell? ⟨b, o + k * 16 + 3, none⟩ = some (.int .i64 x.key) := (by have h0 := hc k x 3 _ hx rfl; simpa [Nat.add_assoc] using h0)
      have c4 : w.cell? ⟨b, o + k * 16 + 4, none⟩ = some (.int .u64 x.a) := (by have h0 := hc k x 4 _ hx rfl; simpa [Nat.add_assoc] using h0)
      have c5 : w.cell? ⟨b, o + k * 16 + 5, none⟩ = some (.int .u64 x.b) := (by have h0 := hc k x 5 _ hx rfl; simpa [Nat.add_assoc] using h0)
      have c6 : w.cell? ⟨b, o + k * 16 + 6, none⟩ = some (.int .u64 x.h) := (by have h0 := hc k x 6 _ hx rfl; simpa [Nat.add_assoc] using h0)
      have c7 : w.cell? ⟨b, o + k * 16 + 7, none⟩ = some (.int .i64 x.rg) := (by have h0 := hc k x 7 _ hx rfl; simpa [Nat.add_assoc] using h0)
      have c8 : w.cell? ⟨b, o + k * 16 + 8, none⟩ = some (.int .i64 x.er) := (by have h0 := hc k x 8 _ hx rfl; simpa [Nat.add_assoc] using h0)
      have c9 : w.cell? ⟨b, o + k * 16 + 9, none⟩ = some (.int .u64 x.ra) := (by have h0 := hc k x 9 _ hx rfl; simpa [Nat.add_assoc] using h0)
      have c10 : w.cell? ⟨b, o + k * 16 + 10, none⟩ = some (.int .u64 x.rb) := (by have h0 := hc k x 10 _ hx rfl; simpa [Nat.add_assoc] using h0)
      have c11 : w.cell? ⟨b, o + k * 16 + 11, none⟩ = some (.int .u64 x.rh) := (by have h0 := hc k x 11 _ hx rfl; simpa [Nat.add_assoc] using h0)
      have c12 : w.cell? ⟨b, o + k * 16 + 12, none⟩ = some (.int .i64 x.n) := (by have h0 := hc k x 12 _ hx rfl; simpa [Nat.add_assoc] using h0)
      have c13 : w.cell? ⟨b, o + k * 16 + 13, none⟩ = some (.int .i64 x.k) := (by have h0 := hc k x 13 _ hx rfl; simpa [Nat.add_assoc] using h0)
      have c14 : w.cell? ⟨b, o + k * 16 + 14, none⟩ = some (.int .i64 x.fr) := (by have h0 := hc k x 14 _ hx rfl; simpa [Nat.add_assoc] using h0)
      have c15 : w.cell? ⟨b, o + k * 16 + 15, none⟩ = some (.int .i64 x.fin) := (by have h0 := hc k x 15 _ hx rfl; simpa [Nat.add_assoc] using h0)
      have d0 : w.cell? ⟨b', o' + k * 16, none⟩ = some (.int .i64 x.th) := (by have h0 := hc' k x 0 _ hx rfl; simpa [Nat.add_assoc] using h0)
      have d1 : w.cell? ⟨b', o' + k * 16 + 1, none⟩ = some (.int .i64 x.op) := (by have h0 := hc' k x 1 _ hx rfl; simpa [Nat.add_assoc] using h0)
      have d2 : w.cell? ⟨b', o' + k * 16 + 2, none⟩ = some (.int .i64 x.lv) := (by have h0 := hc' k x 2 _ hx rfl; simpa [Nat.add_assoc] using h0)
      have d3 : w.cell? ⟨b', o' + k * 16 + 3, none⟩ = some (.int .i64 x.key) := (by have h0 := hc' k x 3 _ hx rfl; simpa [Nat.add_assoc] using h0)
      have d4 : w.cell? ⟨b', o' + k * 16 + 4, none⟩ = some (.int .u64 x.a) := (by have h0 := hc' k x 4 _ hx rfl; simpa [Nat.add_assoc] using h0)
      have d5 : w.cell? ⟨b', o' + k * 16 + 5, none⟩ = some (.int .u64 x.b) := (by have h0 := hc' k x 5 _ hx rfl; simpa [Nat.add_assoc] using h0)
      have d6 : w.cell? ⟨b', o' + k * 16 + 6, none⟩ = some (.int .u64 x.h) := (by have h0 := hc' k x 6 _ hx rfl; simpa [Nat.add_assoc] using h0)
      have d7 : w.cell? ⟨b', o' + k * 16 + 7, none⟩ = some (.int .i64 x.rg) := (by have h0 := hc' k x 7 _ hx rfl; simpa [Nat.add_assoc] using h0)
      have d8 : w.cell? ⟨b', o' + k * 16 + 8, none⟩ = some (.int .i64 x.er) := (by have h0 := hc' k x 8 _ hx rfl; simpa [Nat.add_assoc] using h0)
      have d9 : w.cell? ⟨b', o' + k * 16 + 9, none⟩ = some (.int .u64 x.ra) := (by have h0 := hc' k x 9 _ hx rfl; simpa [Nat.add_assoc] using h0)
      have d10 : w.cell? ⟨b', o' + k * 16 + 10, none⟩ = some (.int .u64 x.rb) := (by have h0 := hc' k x 10 _ hx rfl; simpa [Nat.add_assoc] using h0)
      have d11 : w.cell? ⟨b', o' + k * 16 + 11, none⟩ = some (.int .u64 x.rh) := (by have h0 := hc' k x 11 _ hx rfl; simpa [Nat.add_assoc] using h0)
      have d12 : w.cell? ⟨b', o' + k * 16 + 12, none⟩ = some (.int .i64 x.n) := (by have h0 := hc' k x 12 _ hx rfl; simpa [Nat.add_assoc] using h0)
      have d13 : w.cell? ⟨b', o' + k * 16 + 13, none⟩ = some (.int .i64 x.k) := (by have h0 := hc' k x 13 _ hx rfl; simpa [Nat.add_assoc] using h0)
      have d14 : w.cell? ⟨b', o' + k * 16 + 14, none⟩ = some (.int .i64 x.fr) := (by have h0 := hc' k x 14 _ hx rfl; simpa [Nat.add_assoc] using h0)
      have d15 : w.cell? ⟨b', o' + k * 16 + 15, none⟩ = some (.int .i64 x.fin) := (by have h0 := hc' k x 15 _ hx rfl; simpa [Nat.add_assoc] using h0)
      have b0 : (0 : Int) ≤ (k : Int) := by omega
      have b1 : (k : Int) < (n : Int) := by omega
      have hne := neq_o x
      clear hc hc' hx h h'
      go_wp2_with fail
      go_quiet (fail)
      go_wp2
      go_roundg (gk - 1)
      case measure => omega
      case rel => exact ⟨k + 1, by omega, by go_num, _, by first | rfl | exact World.drewN_drewN _ _ _⟩
    · have hge : ¬ ((k : Int) < (n : Int)) := by omega
      clear h h'
      go_wp2
      go_ret
      exact ⟨rfl, d, rfl⟩
end Go.Proofs.Ytpnhpiniflcciaa
