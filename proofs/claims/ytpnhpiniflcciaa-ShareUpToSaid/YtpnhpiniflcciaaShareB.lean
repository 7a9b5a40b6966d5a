/- Of: the closure, those, the reference; Opersame. -/
import Derived.Test.YtpnhpiniflcciaaShareA
namespace Go.Proofs.Ytpnhpiniflcciaa
set_option linter.unusedVariables false
set_option linter.unusedSimpArgs false
open Go.RowKit

def inShare (lv pt : Int) (x : Opr) : Bool := whichOk x && (x.lv == lv && partOf x.op == pt)

set_option maxHeartbeats 1000000 in
theorem of1_any (x : Opr) (lv pt : Int) (p q : Nat) (w : World) (hp : w.cell? ⟨p, 0, none⟩ = some (.int .i64 lv)) (hq : w.cell? ⟨q, 0, none⟩ = some (.int .i64 pt)) :
    Calls Try.prog 46 #[.agg #[.int .i64 x.th, .int .i64 x.op, .int .i64 x.lv, .int .i64 x.key, .int .u64 x.a, .int .u64 x.b, .int .u64 x.h, .int .i64 x.rg, .int .i64 x.er, .int .u64 x.ra, .int .u64 x.rb, .int .u64 x.rh, .int .i64 x.n, .int .i64 x.k, .int .i64 x.fr, .int .i64 x.fin], .pointer (some ⟨p, 0, none⟩), .pointer (some ⟨q, 0, none⟩)] w fun e w' => e = .returned (.bool (inShare lv pt x)) ∧ Below w.heap.size w w' := by
  have zp := block_lt_of_cell hp
  have zq := block_lt_of_cell hq
  have hwh := which_any x
  have hpc := part_any x.op
  by_cases h1 : whichOk x = true
  · rw [h1] at hwh
    by_cases h2 : (x.lv == lv) = true
    · have hE : Hid (inShare lv pt x = (partOf x.op == pt)) := by rw [Hid, inShare, h1, h2]; rfl
      clear h1
      generalize partOf x.op = r at *
      generalize whichN x = N at *
      go_enter Try.func46, Try.ntmps46
      go_wp2_with (go_at_call 14; refine (hwh _).mono ?_; rintro e w1 ⟨rfl, hb⟩; obtain ⟨hc1, _, hz1⟩ := bcell hb; simp at hz1; have hz2 : p < w.heap.size + 1 := (by omega); have hz3 : q < w.heap.size + 1 := (by omega))
      go_quiet ((go_at_call 43; exact q_same (hpc _)))
      go_wp2
      go_ret
      exact ⟨by rw [hE.out]; rfl, below_drewN (bnext ((brefl w).alloc (Nat.le_refl _) _) hb) _⟩
    · have h3 : (x.lv == lv) = false := by simpa using h2
      have hE : Hid (inShare lv pt x = false) := by rw [Hid, inShare, h1, h3]; rfl
      clear h1 h2
      generalize partOf x.op = r at *
      generalize whichN x = N at *
      go_enter Try.func46, Try.ntmps46
      go_wp2_with (go_at_call 14; refine (hwh _).mono ?_; rintro e w1 ⟨rfl, hb⟩; obtain ⟨hc1, _, hz1⟩ := bcell hb; simp at hz1; have hz2 : p < w.heap.size + 1 := (by omega); have hz3 : q < w.heap.size + 1 := (by omega))
      go_quiet ((go_at_call 43; exact q_same (hpc _)))
      go_wp2
      go_ret
      exact ⟨by rw [hE.out]; rfl, below_drewN (bnext ((brefl w).alloc (Nat.le_refl _) _) hb) _⟩
  · have h1' : whichOk x = false := by simpa using h1
    rw [h1'] at hwh
    have hE : Hid (inShare lv pt x = false) := by rw [Hid, inShare, h1']; rfl
    clear h1 h1'
    generalize partOf x.op = r at *
    generalize whichN x = N at *
    go_enter Try.func46, Try.ntmps46
    go_wp2_with (go_at_call 14; refine (hwh _).mono ?_; rintro e w1 ⟨rfl, hb⟩; obtain ⟨hc1, _, hz1⟩ := bcell hb; simp at hz1; have hz2 : p < w.heap.size + 1 := (by omega); have hz3 : q < w.heap.size + 1 := (by omega))
    go_quiet ((go_at_call 43; exact q_same (hpc _)))
    go_wp2
    go_ret
    exact ⟨by rw [hE.out]; rfl, below_drewN (bnext ((brefl w).alloc (Nat.le_refl _) _) hb) _⟩

theorem filter_snoc {α : Type} {l : List α} {k : Nat} {x : α} (f : α → Bool) (h : l[k]? = some x) : (l.take (k + 1)).filter f = (l.take k).filter f ++ (if f x = true then [x] else []) := by
  rw [List.take_add_one, h, List.filter_append]
  by_cases hf : f x = true <;> simp [hf]

set_option maxHeartbeats 2000000 in
set_option maxRecDepth 100000 in
theorem those_of {A : Option Addr} {n c : Nat} {l : List Opr} {w : World} (h : Sl oc w A n c l) (hn : n ≤ 1000000) (p q : Nat) (f : Opr → Bool)
    (cl : ∀ (x : Opr) (w' : World), Below w.heap.size w w' → Calls Try.prog 46 #[.agg #[.int .i64 x.th, .int .i64 x.op, .int .i64 x.lv, .int .i64 x.key, .int .u64 x.a, .int .u64 x.b, .int .u64 x.h, .int .i64 x.rg, .int .i64 x.er, .int .u64 x.ra, .int .u64 x.rb, .int .u64 x.rh, .int .i64 x.n, .int .i64 x.k, .int .i64 x.fr, .int .i64 x.fin], .pointer (some ⟨p, 0, none⟩), .pointer (some ⟨q, 0, none⟩)] w' fun e w'' => e = .returned (.bool (f x)) ∧ Below w'.heap.size w' w'') :
    Calls Try.prog 45 #[.slice A n c, .func (.func 46) #[] #[.pointer (some ⟨p, 0, none⟩), .pointer (some ⟨q, 0, none⟩)]] w fun e w' => ∃ A' c', e = .returned (.slice A' (l.filter f).length c') ∧ w'.ownsRow w.heap.size 35 16 (.slice A' (l.filter f).length c') (l.filter f).length ((l.filter f).flatMap oc) ∧ Below w.heap.size w w' := by
  obtain ⟨i0, E⟩ := elem_o
  go_enter Try.func45, Try.ntmps45
  go_wp2
  go_loopg [5, 10] n (fun gk out i wr => ∃ (k m : Nat) (A' : Option Addr) (c' : Nat), k + gk = n ∧ i = .int .i64 k ∧ out = .slice A' m c' ∧ Hid (m = ((l.take k).filter f).length) ∧ wr.ownsRow w.heap.size 35 16 (.slice A' m c') m (((l.take k).filter f).flatMap oc) ∧ Below w.heap.size w wr)
  case atStart => exact ⟨0, 0, none, 0, by omega, rfl, rfl, rfl, World.ownsRow_nil _ _ _ _, brefl w⟩
  case round =>
    obtain ⟨k, m, A', c', hk, rfl, rfl, hm, own, hbr⟩ := hrel
    by_cases hlt : k < n
    · obtain ⟨b, o, rfl, _, hc⟩ := h.base oc_len (by decide) (by omega)
      obtain ⟨x, hx⟩ : ∃ x, l[k]? = some x := ⟨_, List.getElem?_eq_getElem (by rw [h.len]; exact hlt)⟩
      have c0 : wr.cell? ⟨b, o + k * 16, none⟩ = some (.int .i64 x.th) := keep_below (by have h0 := hc k x 0 _ hx rfl; simpa [Nat.add_assoc] using h0) hbr
      have c1 : wr.cell? ⟨b, o + k * 16 + 1, none⟩ = some (.int .i64 x.op) := keep_below (by have h0 := hc k x 1 _ hx rfl; simpa [Nat.add_assoc] using h0) hbr
      have c2 : wr.cell? ⟨b, o + k * 16 + 2, none⟩ = some (.int .i64 x.lv) := keep_below (by have h0 := hc k x 2 _ hx rfl; simpa [Nat.add_assoc] using h0) hbr
      have c3 : wr.cell? ⟨b, o + k * 16 + 3, none⟩ = some (.int .i64 x.key) := keep_below (by have h0 := hc k x 3 _ hx rfl; simpa [Nat.add_assoc] using h0) hbr
      have c4 : wr.cell? ⟨b, o + k * 16 + 4, none⟩ = some (.int .u64 x.a) := keep_below (by have h0 := hc k x 4 _ hx rfl; simpa [Nat.add_assoc] using h0) hbr
      have c5 : wr.cell? ⟨b, o + k * 16 + 5, none⟩ = some (.int .u64 x.b) := keep_below (by have h0 := hc k x 5 _ hx rfl; simpa [Nat.add_assoc] using h0) hbr
      have c6 : wr.cell? ⟨b, o + k * 16 + 6, none⟩ = some (.int .u64 x.h) := keep_below (by have h0 := hc k x 6 _ hx rfl; simpa [Nat.add_assoc] using h0) hbr
      have c7 : wr.cell? ⟨b, o + k * 16 + 7, none⟩ = some (.int .i64 x.rg) := keep_below (by have h0 := hc k x 7 _ hx rfl; simpa [Nat.add_assoc] using h0) hbr
      have c8 : wr.cell? ⟨b, o + k * 16 + 8, none⟩ = some (.int .i64 x.er) := keep_below (by have h0 := hc k x 8 _ hx rfl; simpa [Nat.add_assoc] using h0) hbr
      have c9 : wr.cell? ⟨b, o + k * 16 + 9, none⟩ = some (.int .u64 x.ra) := keep_below (by have h0 := hc k x 9 _ hx rfl; simpa [Nat.add_assoc] using h0) hbr
      have c10 : wr.cell? ⟨b, o + k * 16 + 10, none⟩ = some (.int .u64 x.rb) := keep_below (by have h0 := hc k x 10 _ hx rfl; simpa [Nat.add_assoc] using h0) hbr
      have c11 : wr.cell? ⟨b, o + k * 16 + 11, none⟩ = some (.int .u64 x.rh) := keep_below (by have h0 := hc k x 11 _ hx rfl; simpa [Nat.add_assoc] using h0) hbr
      have c12 : wr.cell? ⟨b, o + k * 16 + 12, none⟩ = some (.int .i64 x.n) := keep_below (by have h0 := hc k x 12 _ hx rfl; simpa [Nat.add_assoc] using h0) hbr
      have c13 : wr.cell? ⟨b, o + k * 16 + 13, none⟩ = some (.int .i64 x.k) := keep_below (by have h0 := hc k x 13 _ hx rfl; simpa [Nat.add_assoc] using h0) hbr
      have c14 : wr.cell? ⟨b, o + k * 16 + 14, none⟩ = some (.int .i64 x.fr) := keep_below (by have h0 := hc k x 14 _ hx rfl; simpa [Nat.add_assoc] using h0) hbr
      have c15 : wr.cell? ⟨b, o + k * 16 + 15, none⟩ = some (.int .i64 x.fin) := keep_below (by have h0 := hc k x 15 _ hx rfl; simpa [Nat.add_assoc] using h0) hbr
      have hm1 : m ≤ k := by
        have e1 := List.length_filter_le f (l.take k)
        rw [List.length_take] at e1
        have := hm.out
        omega
      have HS : Hid ((l.take (k + 1)).filter f = (l.take k).filter f ++ (if f x = true then [x] else [])) := filter_snoc f hx
      have b0 : (0 : Int) ≤ (k : Int) := by omega
      have b1 : (k : Int) < (n : Int) := by omega
      have hcl := fun w' hb => cl x w' hb
      clear hc hx h cl
      cases hf : f x with
      | false =>
        rw [hf] at hcl
        go_wp2_with ((go_at_call 46; refine (hcl _ (bnew hbr _)).mono ?_; rintro e w1 ⟨rfl, hb1⟩))
        go_roundg (gk - 1)
        case measure => omega
        case rel =>
          have hb := bnext (bnew hbr _) hb1
          refine ⟨k + 1, m, A', c', by omega, by go_num, rfl, ?_, ?_, hb⟩
          · rw [Hid, HS.out, hf, hm.out]; simp
          · rw [HS.out, hf]
            simp only [Bool.false_eq_true, if_false, List.append_nil]
            exact own_below (own.alloc _) hb1
      | true =>
        rw [hf] at hcl
        go_wp2_with (first | (go_at_call 46; refine (hcl _ (bnew hbr _)).mono ?_; rintro e w1 ⟨rfl, hb1⟩; have hb2 := bnext (bnew hbr _) hb1; have own2 := own_below (own.alloc _) hb1; obtain ⟨hc1, hf1, hz1⟩ := bcell hb1; simp at hz1) | (at_builtin; refine wpList_onto (W0 := w) (ys := oc x) (m := 1) E rfl (.tmp 17) (.tmp 19) rfl (bnew hb2 _) rfl (own2.alloc _) rfl rfl (Rd.new _ _ _ rfl) (by simp [oc, Value.oneCell']) (by unfold maxLen; omega) (by omega) ?_; intro A8 c8 w8 own8 hb8 _))
        go_roundg (gk - 1)
        case measure => omega
        case rel =>
          refine ⟨k + 1, m + 1, A8, c8, by omega, by go_num, rfl, ?_, ?_, hb8⟩
          · rw [Hid, HS.out, hf, hm.out]; simp
          · rw [HS.out, hf, if_pos rfl, List.flatMap_append]
            exact own8
    · have HT : Hid (l.take k = l) := by rw [Hid, List.take_of_length_le (by rw [h.len]; omega)]
      have hge : ¬ ((k : Int) < (n : Int)) := by omega
      clear h cl
      go_wp2
      go_ret
      rw [HT.out] at hm own
      have hm' := hm.out
      subst hm'
      exact ⟨A', c', rfl, own, hbr⟩
end Go.Proofs.Ytpnhpiniflcciaa
