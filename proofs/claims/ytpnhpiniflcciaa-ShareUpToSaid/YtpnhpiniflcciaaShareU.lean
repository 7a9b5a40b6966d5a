/- The opers of threads up to a level. -/
import Derived.Test.YtpnhpiniflcciaaShareE
import Derived.Test.YtpnhpiniflcciaaConfC
namespace Go.Proofs.Ytpnhpiniflcciaa
set_option linter.unusedVariables false
set_option linter.unusedSimpArgs false
open Go.RowKit

def upB (c : Cf) (l : Int) (x : Opr) : Bool := decide (0 ≤ levelOf c x.th ∧ levelOf c x.th ≤ l)
/-- Block p holds the configuration. -/
def CBox (w : World) (p : Nat) (c : Cf) : Prop := w.cell? ⟨p, 0, none⟩ = some (.int .i64 c.lv) ∧ w.cell? ⟨p, 1, none⟩ = some (.int .i64 c.th) ∧ w.cell? ⟨p, 2, none⟩ = some (.int .i64 c.o0) ∧ w.cell? ⟨p, 3, none⟩ = some (.int .i64 c.o1) ∧ w.cell? ⟨p, 4, none⟩ = some (.int .i64 c.o2) ∧ w.cell? ⟨p, 5, none⟩ = some (.int .i64 c.o3) ∧ w.cell? ⟨p, 6, none⟩ = some (.int .i64 c.o4) ∧ w.cell? ⟨p, 7, none⟩ = some (.int .i64 c.o5) ∧ w.cell? ⟨p, 8, none⟩ = some (.int .i64 c.o6) ∧ w.cell? ⟨p, 9, none⟩ = some (.int .i64 c.o7) ∧ w.cell? ⟨p, 10, none⟩ = some (.int .i64 c.sl) ∧ w.cell? ⟨p, 11, none⟩ = some (.int .i64 c.li) ∧ w.cell? ⟨p, 12, none⟩ = some (.int .i64 c.ge) ∧ w.cell? ⟨p, 13, none⟩ = some (.int .i64 c.qu)
theorem CBox.below {w w' : World} {p : Nat} {c : Cf} (h : CBox w p c) (hb : Below w.heap.size w w') : CBox w' p c := by
  obtain ⟨k0, k1, k2, k3, k4, k5, k6, k7, k8, k9, k10, k11, k12, k13⟩ := h
  exact ⟨keep_below k0 hb, keep_below k1 hb, keep_below k2 hb, keep_below k3 hb, keep_below k4 hb, keep_below k5 hb, keep_below k6 hb, keep_below k7 hb, keep_below k8 hb, keep_below k9 hb, keep_below k10 hb, keep_below k11 hb, keep_below k12 hb, keep_below k13 hb⟩

set_option maxHeartbeats 1000000 in
set_option maxRecDepth 100000 in
theorem up1_any (x : Opr) (c : Cf) (l : Int) (p q : Nat) (w : World) (hp : CBox w p c) (hq : w.cell? ⟨q, 0, none⟩ = some (.int .i64 l)) :
    Calls Try.prog 52 #[.agg #[.int .i64 x.th, .int .i64 x.op, .int .i64 x.lv, .int .i64 x.key, .int .u64 x.a, .int .u64 x.b, .int .u64 x.h, .int .i64 x.rg, .int .i64 x.er, .int .u64 x.ra, .int .u64 x.rb, .int .u64 x.rh, .int .i64 x.n, .int .i64 x.k, .int .i64 x.fr, .int .i64 x.fin], .pointer (some ⟨p, 0, none⟩), .pointer (some ⟨q, 0, none⟩)] w fun e w' => e = .returned (.bool (upB c l x)) ∧ Below w.heap.size w w' := by
  obtain ⟨k0, k1, k2, k3, k4, k5, k6, k7, k8, k9, k10, k11, k12, k13⟩ := hp
  have zp := block_lt_of_cell k0
  have zq := block_lt_of_cell hq
  have hlv := level_any c x.th
  have hV : True := trivial
  by_cases g1 : 0 ≤ levelOf c x.th
  · by_cases g2 : levelOf c x.th ≤ l
    · have hE : Hid (upB c l x = true) := by rw [Hid, upB]; exact decide_eq_true (by omega)
      clear hV
      generalize levelOf c x.th = v at *
      go_enter Try.func52, Try.ntmps52
      go_wp2_with (go_at_call 22; refine (hlv _).mono ?_; rintro e w1 ⟨rfl, hb⟩; obtain ⟨hc1, _, hz1⟩ := bcell hb; simp at hz1; have hz2 : p < w.heap.size + 1 := (by omega); have hz3 : q < w.heap.size + 1 := (by omega))
      go_ret
      exact ⟨by rw [hE.out]; first | rfl | simp [g2] | (simp; omega), bnext ((brefl w).alloc (Nat.le_refl _) _) hb⟩
    · have g3 : decide (levelOf c x.th ≤ l) = false := decide_eq_false g2
      have hE : Hid (upB c l x = false) := by rw [Hid, upB]; exact decide_eq_false (by omega)
      clear hV
      generalize levelOf c x.th = v at *
      go_enter Try.func52, Try.ntmps52
      go_wp2_with (go_at_call 22; refine (hlv _).mono ?_; rintro e w1 ⟨rfl, hb⟩; obtain ⟨hc1, _, hz1⟩ := bcell hb; simp at hz1; have hz2 : p < w.heap.size + 1 := (by omega); have hz3 : q < w.heap.size + 1 := (by omega))
      go_ret
      exact ⟨by rw [hE.out]; first | rfl | simp [g2] | (simp; omega), bnext ((brefl w).alloc (Nat.le_refl _) _) hb⟩
  · have g2 : decide (0 ≤ levelOf c x.th) = false := decide_eq_false g1
    have hE : Hid (upB c l x = false) := by rw [Hid, upB]; exact decide_eq_false (by omega)
    clear hV
    generalize levelOf c x.th = v at *
    go_enter Try.func52, Try.ntmps52
    go_wp2_with (go_at_call 22; refine (hlv _).mono ?_; rintro e w1 ⟨rfl, hb⟩; obtain ⟨hc1, _, hz1⟩ := bcell hb; simp at hz1; have hz2 : p < w.heap.size + 1 := (by omega); have hz3 : q < w.heap.size + 1 := (by omega))
    go_ret
    exact ⟨by rw [hE.out]; first | rfl | simp [g2] | (simp; omega), bnext ((brefl w).alloc (Nat.le_refl _) _) hb⟩


set_option maxHeartbeats 2000000 in
set_option maxRecDepth 100000 in
theorem those_up {A : Option Addr} {n c : Nat} {l : List Opr} {w : World} (h : Sl oc w A n c l) (hn : n ≤ 1000000) (p q : Nat) (f : Opr → Bool)
    (cl : ∀ (x : Opr) (w' : World), Below w.heap.size w w' → Calls Try.prog 52 #[.agg #[.int .i64 x.th, .int .i64 x.op, .int .i64 x.lv, .int .i64 x.key, .int .u64 x.a, .int .u64 x.b, .int .u64 x.h, .int .i64 x.rg, .int .i64 x.er, .int .u64 x.ra, .int .u64 x.rb, .int .u64 x.rh, .int .i64 x.n, .int .i64 x.k, .int .i64 x.fr, .int .i64 x.fin], .pointer (some ⟨p, 0, none⟩), .pointer (some ⟨q, 0, none⟩)] w' fun e w'' => e = .returned (.bool (f x)) ∧ Below w'.heap.size w' w'') :
    Calls Try.prog 45 #[.slice A n c, .func (.func 52) #[] #[.pointer (some ⟨p, 0, none⟩), .pointer (some ⟨q, 0, none⟩)]] w fun e w' => ∃ A' c', e = .returned (.slice A' (l.filter f).length c') ∧ w'.ownsRow w.heap.size 35 16 (.slice A' (l.filter f).length c') (l.filter f).length ((l.filter f).flatMap oc) ∧ Below w.heap.size w w' := by
  obtain ⟨i0, E⟩ := elem_o
  go_enter Try.func45, Try.ntmps45
  go_wp2
  go_loopg [5, 10] n (fun gk out i wr => ∃ (k m : Nat) (A' : Option Addr) (c' : Nat), k + gk = n ∧ i = .int .i64 k ∧ out = .slice A' m c' ∧ Hid (m = ((l.take k).filter f).length) ∧ wr.ownsRow w.heap.size 35 16 (.slice A' m c') m (((l.take k).filter f).flatMap oc) ∧ Below w.heap.size w wr)
  case atStart => exact ⟨0, 0, none, 0, by omega, rfl, rfl, rfl, World.ownsRow_nil _ _ _ _, brefl w⟩
  case round =>
    obtain ⟨k, m, A', c', hk, rfl, rfl, hm, own, hbr⟩ := hrel
    by_cases hlt : k < n
    · obtain ⟨b, o, rfl, _, hc⟩ := h.base oc_len (by decide) (by omega)
      obtain ⟨x, hx⟩ : ∃ x, l[k]? = some x := ⟨_, List.getElem?_eq_getElem (by rw [h.len]; exact hlt)⟩
      have c0 : wr.cell? ⟨b, o + k * 16, none⟩ = some (.int .i64 x.th) := keep_below (by have h0 := hc k x 0 _ hx rfl; simpa [Nat.add_assoc] using h0) hbr
      have c1 : wr.cell? ⟨b, o + k * 16 + 1, none⟩ = some (.int .i64 x.op) := keep_below (by have h0 := hc k x 1 _ hx rfl; simpa [Nat.add_assoc] using h0) hbr
      have c2 : wr.cell? ⟨b, o + k * 16 + 2, none⟩ = some (.int .i64 x.lv) := keep_below (by have h0 := hc k x 2 _ hx rfl; simpa [Nat.add_assoc] using h0) hbr
      have c3 : wr.cell? ⟨b, o + k * 16 + 3, none⟩ = some (.int .i64 x.key) := keep_below (by have h0 := hc k x 3 _ hx rfl; simpa [Nat.add_assoc] using h0) hbr
      have c4 : wr.cell? ⟨b, o + k * 16 + 4, none⟩ = some (.int .u64 x.a) := keep_below (by have h0 := hc k x 4 _ hx rfl; simpa [Nat.add_assoc] using h0) hbr
      have c5 : wr.cell? ⟨b, o + k * 16 + 5, none⟩ = some (.int .u64 x.b) := keep_below (by have h0 := hc k x 5 _ hx rfl; simpa [Nat.add_assoc] using h0) hbr
      have c6 : wr.cell? ⟨b, o + k * 16 + 6, none⟩ = some (.int .u64 x.h) := keep_below (by have h0 := hc k x 6 _ hx rfl; simpa [Nat.add_assoc] using h0) hbr
      have c7 : wr.cell? ⟨b, o + k * 16 + 7, none⟩ = some (.int .i64 x.rg) := keep_below (by have h0 := hc k x 7 _ hx rfl; simpa [Nat.add_assoc] using h0) hbr
      have c8 : wr.cell? ⟨b, o + k * 16 + 8, none⟩ = some (.int .i64 x.er) := keep_below (by have h0 := hc k x 8 _ hx rfl; simpa [Nat.add_assoc] using h0) hbr
      have c9 : wr.cell? ⟨b, o + k * 16 + 9, none⟩ = some (.int .u64 x.ra) := keep_below (by have h0 := hc k x 9 _ hx rfl; simpa [Nat.add_assoc] using h0) hbr
      have c10 : wr.cell? ⟨b, o + k * 16 + 10, none⟩ = some (.int .u64 x.rb) := keep_below (by have h0 := hc k x 10 _ hx rfl; simpa [Nat.add_assoc] using h0) hbr
      have c11 : wr.cell? ⟨b, o + k * 16 + 11, none⟩ = some (.int .u64 x.rh) := keep_below (by have h0 := hc k x 11 _ hx rfl; simpa [Nat.add_assoc] using h0) hbr
      have c12 : wr.cell? ⟨b, o + k * 16 + 12, none⟩ = some (.int .i64 x.n) := keep_below (by have h0 := hc k x 12 _ hx rfl; simpa [Nat.add_assoc] using h0) hbr
      have c13 : wr.cell? ⟨b, o + k * 16 + 13, none⟩ = some (.int .i64 x.k) := keep_below (by have h0 := hc k x 13 _ hx rfl; simpa [Nat.add_assoc] using h0) hbr
      have c14 : wr.cell? ⟨b, o + k * 16 + 14, none⟩ = some (.int .i64 x.fr) := keep_below (by have h0 := hc k x 14 _ hx rfl; simpa [Nat.add_assoc] using h0) hbr
      have c15 : wr.cell? ⟨b, o + k * 16 + 15, none⟩ = some (.int .i64 x.fin) := keep_below (by have h0 := hc k x 15 _ hx rfl; simpa [Nat.add_assoc] using h0) hbr
      have hm1 : m ≤ k := by
        have e1 := List.length_filter_le f (l.take k)
        rw [List.length_take] at e1
        have := hm.out
        omega
      have HS : Hid ((l.take (k + 1)).filter f = (l.take k).filter f ++ (if f x = true then [x] else [])) := filter_snoc f hx
      have b0 : (0 : Int) ≤ (k : Int) := by omega
      have b1 : (k : Int) < (n : Int) := by omega
      have hcl := fun w' hb => cl x w' hb
      clear hc hx h cl
      cases hf : f x with
      | false =>
        rw [hf] at hcl
        go_wp2_with ((go_at_call 52; refine (hcl _ (bnew hbr _)).mono ?_; rintro e w1 ⟨rfl, hb1⟩))
        go_roundg (gk - 1)
        case measure => omega
        case rel =>
          have hb := bnext (bnew hbr _) hb1
          refine ⟨k + 1, m, A', c', by omega, by go_num, rfl, ?_, ?_, hb⟩
          · rw [Hid, HS.out, hf, hm.out]; simp
          · rw [HS.out, hf]
            simp only [Bool.false_eq_true, if_false, List.append_nil]
            exact own_below (own.alloc _) hb1
      | true =>
        rw [hf] at hcl
        go_wp2_with (first | (go_at_call 52; refine (hcl _ (bnew hbr _)).mono ?_; rintro e w1 ⟨rfl, hb1⟩; have hb2 := bnext (bnew hbr _) hb1; have own2 := own_below (own.alloc _) hb1; obtain ⟨hc1, hf1, hz1⟩ := bcell hb1; simp at hz1) | (at_builtin; refine wpList_onto (W0 := w) (ys := oc x) (m := 1) E rfl (.tmp 17) (.tmp 19) rfl (bnew hb2 _) rfl (own2.alloc _) rfl rfl (Rd.new _ _ _ rfl) (by simp [oc, Value.oneCell']) (by unfold maxLen; omega) (by omega) ?_; intro A8 c8 w8 own8 hb8 _))
        go_roundg (gk - 1)
        case measure => omega
        case rel =>
          refine ⟨k + 1, m + 1, A8, c8, by omega, by go_num, rfl, ?_, ?_, hb8⟩
          · rw [Hid, HS.out, hf, hm.out]; simp
          · rw [HS.out, hf, if_pos rfl, List.flatMap_append]
            exact own8
    · have HT : Hid (l.take k = l) := by rw [Hid, List.take_of_length_le (by rw [h.len]; omega)]
      have hge : ¬ ((k : Int) < (n : Int)) := by omega
      clear h cl
      go_wp2
      go_ret
      rw [HT.out] at hm own
      have hm' := hm.out
      subst hm'
      exact ⟨A', c', rfl, own, hbr⟩

set_option maxHeartbeats 1000000 in
set_option maxRecDepth 100000 in
theorem supto_any {A : Option Addr} {n c : Nat} {l : List Opr} {w : World} (h : Sl oc w A n c l) (hn : n ≤ 1000000) (f : Cf) (lv : Int) :
    Calls Try.prog 33 #[.slice A n c, .agg #[.int .i64 f.lv, .int .i64 f.th, .int .i64 f.o0, .int .i64 f.o1, .int .i64 f.o2, .int .i64 f.o3, .int .i64 f.o4, .int .i64 f.o5, .int .i64 f.o6, .int .i64 f.o7, .int .i64 f.sl, .int .i64 f.li, .int .i64 f.ge, .int .i64 f.qu], .int .i64 lv] w fun e w' => ∃ A' c', e = .returned (.slice A' (l.filter (upB f lv)).length c') ∧ w'.ownsRow w.heap.size 35 16 (.slice A' (l.filter (upB f lv)).length c') (l.filter (upB f lv)).length ((l.filter (upB f lv)).flatMap oc) ∧ Below w.heap.size w w' := by
  have hmf : ∀ (fn : Fn) (first cap : Array Value) (w : World), (Instr.makeFunc fn first cap).run Try.prog w = .ok (.func fn first cap) w := fun _ _ _ _ => rfl
  go_enter Try.func33, Try.ntmps33
  go_wp2_with fail
  obtain ⟨W0, hW0, k1, k2, kb⟩ : ∃ W0, (w.alloc (.cells #[.int .i64 f.lv, .int .i64 f.th, .int .i64 f.o0, .int .i64 f.o1, .int .i64 f.o2, .int .i64 f.o3, .int .i64 f.o4, .int .i64 f.o5, .int .i64 f.o6, .int .i64 f.o7, .int .i64 f.sl, .int .i64 f.li, .int .i64 f.ge, .int .i64 f.qu] 45)).alloc (.cells #[.int .i64 lv] 3) = W0 ∧ CBox W0 w.heap.size f ∧ W0.cell? ⟨w.heap.size + 1, 0, none⟩ = some (.int .i64 lv) ∧ Below w.heap.size w W0 :=
    ⟨_, rfl, ⟨by go_simp, by go_simp, by go_simp, by go_simp, by go_simp, by go_simp, by go_simp, by go_simp, by go_simp, by go_simp, by go_simp, by go_simp, by go_simp, by go_simp⟩, by go_simp, bnew (bnew (brefl w) _) _⟩
  rw [hW0]
  clear hW0
  refine (those_up (h.below kb) hn w.heap.size (w.heap.size + 1) (upB f lv) fun x w' hb => up1_any x f lv _ _ w' (k1.below hb) (keep_below k2 hb)).mono ?_
  rintro e w1 ⟨A', c', rfl, own, hb⟩
  have hz := kb.size
  go_wp2
  go_ret
  exact ⟨A', c', rfl, own_base own hz, bnext kb hb⟩

set_option maxHeartbeats 4000000 in
set_option maxRecDepth 100000 in
theorem rsupto_any {A : Option Addr} {n c : Nat} {l : List Opr} {w : World} (h : Sl oc w A n c l) (hn : n ≤ 1000000) (f : Cf) (lv : Int) :
    Calls Try.prog 34 #[.slice A n c, .agg #[.int .i64 f.lv, .int .i64 f.th, .int .i64 f.o0, .int .i64 f.o1, .int .i64 f.o2, .int .i64 f.o3, .int .i64 f.o4, .int .i64 f.o5, .int .i64 f.o6, .int .i64 f.o7, .int .i64 f.sl, .int .i64 f.li, .int .i64 f.ge, .int .i64 f.qu], .int .i64 lv] w fun e w' => ∃ A' c', e = .returned (.slice A' (l.filter (upB f lv)).length c') ∧ w'.ownsRow w.heap.size 35 16 (.slice A' (l.filter (upB f lv)).length c') (l.filter (upB f lv)).length ((l.filter (upB f lv)).flatMap oc) ∧ Below w.heap.size w w' := by
  obtain ⟨i0, E⟩ := elem_o
  go_enter Try.func34, Try.ntmps34
  go_wp2_with fail
  obtain ⟨W0, hW0, kc, kb⟩ : ∃ W0, w.alloc (.cells #[.int .i64 f.lv, .int .i64 f.th, .int .i64 f.o0, .int .i64 f.o1, .int .i64 f.o2, .int .i64 f.o3, .int .i64 f.o4, .int .i64 f.o5, .int .i64 f.o6, .int .i64 f.o7, .int .i64 f.sl, .int .i64 f.li, .int .i64 f.ge, .int .i64 f.qu] 45) = W0 ∧ CBox W0 w.heap.size f ∧ Below w.heap.size w W0 :=
    ⟨_, rfl, ⟨by go_simp, by go_simp, by go_simp, by go_simp, by go_simp, by go_simp, by go_simp, by go_simp, by go_simp, by go_simp, by go_simp, by go_simp, by go_simp, by go_simp⟩, bnew (brefl w) _⟩
  rw [hW0]
  clear hW0
  go_loopg [7, 8] n (fun gk out i wr => ∃ (k m : Nat) (A' : Option Addr) (c' : Nat), k + gk = n ∧ i = .int .i64 k ∧ out = .slice A' m c' ∧ Hid (m = ((l.take k).filter (upB f lv)).length) ∧ wr.ownsRow W0.heap.size 35 16 (.slice A' m c') m (((l.take k).filter (upB f lv)).flatMap oc) ∧ Below W0.heap.size W0 wr)
  case atStart => exact ⟨0, 0, none, 0, by omega, rfl, rfl, rfl, World.ownsRow_nil _ _ _ _, brefl W0⟩
  case round =>
    obtain ⟨k, m, A', c', hk, rfl, rfl, hm, own, hbr⟩ := hrel
    by_cases hlt : k < n
    · obtain ⟨b, o, rfl, _, hc⟩ := h.base oc_len (by decide) (by omega)
      obtain ⟨x, hx⟩ : ∃ x, l[k]? = some x := ⟨_, List.getElem?_eq_getElem (by rw [h.len]; exact hlt)⟩
      have hbw := bnext kb hbr
      have c0 : wr.cell? ⟨b, o + k * 16, none⟩ = some (.int .i64 x.th) := keep_below (by have h0 := hc k x 0 _ hx rfl; simpa [Nat.add_assoc] using h0) hbw
      have c1 : wr.cell? ⟨b, o + k * 16 + 1, none⟩ = some (.int .i64 x.op) := keep_below (by have h0 := hc k x 1 _ hx rfl; simpa [Nat.add_assoc] using h0) hbw
      have c2 : wr.cell? ⟨b, o + k * 16 + 2, none⟩ = some (.int .i64 x.lv) := keep_below (by have h0 := hc k x 2 _ hx rfl; simpa [Nat.add_assoc] using h0) hbw
      have c3 : wr.cell? ⟨b, o + k * 16 + 3, none⟩ = some (.int .i64 x.key) := keep_below (by have h0 := hc k x 3 _ hx rfl; simpa [Nat.add_assoc] using h0) hbw
      have c4 : wr.cell? ⟨b, o + k * 16 + 4, none⟩ = some (.int .u64 x.a) := keep_below (by have h0 := hc k x 4 _ hx rfl; simpa [Nat.add_assoc] using h0) hbw
      have c5 : wr.cell? ⟨b, o + k * 16 + 5, none⟩ = some (.int .u64 x.b) := keep_below (by have h0 := hc k x 5 _ hx rfl; simpa [Nat.add_assoc] using h0) hbw
      have c6 : wr.cell? ⟨b, o + k * 16 + 6, none⟩ = some (.int .u64 x.h) := keep_below (by have h0 := hc k x 6 _ hx rfl; simpa [Nat.add_assoc] using h0) hbw
      have c7 : wr.cell? ⟨b, o + k * 16 + 7, none⟩ = some (.int .i64 x.rg) := keep_below (by have h0 := hc k x 7 _ hx rfl; simpa [Nat.add_assoc] using h0) hbw
      have c8 : wr.cell? ⟨b, o + k * 16 + 8, none⟩ = some (.int .i64 x.er) := keep_below (by have h0 := hc k x 8 _ hx rfl; simpa [Nat.add_assoc] using h0) hbw
      have c9 : wr.cell? ⟨b, o + k * 16 + 9, none⟩ = some (.int .u64 x.ra) := keep_below (by have h0 := hc k x 9 _ hx rfl; simpa [Nat.add_assoc] using h0) hbw
      have c10 : wr.cell? ⟨b, o + k * 16 + 10, none⟩ = some (.int .u64 x.rb) := keep_below (by have h0 := hc k x 10 _ hx rfl; simpa [Nat.add_assoc] using h0) hbw
      have c11 : wr.cell? ⟨b, o + k * 16 + 11, none⟩ = some (.int .u64 x.rh) := keep_below (by have h0 := hc k x 11 _ hx rfl; simpa [Nat.add_assoc] using h0) hbw
      have c12 : wr.cell? ⟨b, o + k * 16 + 12, none⟩ = some (.int .i64 x.n) := keep_below (by have h0 := hc k x 12 _ hx rfl; simpa [Nat.add_assoc] using h0) hbw
      have c13 : wr.cell? ⟨b, o + k * 16 + 13, none⟩ = some (.int .i64 x.k) := keep_below (by have h0 := hc k x 13 _ hx rfl; simpa [Nat.add_assoc] using h0) hbw
      have c14 : wr.cell? ⟨b, o + k * 16 + 14, none⟩ = some (.int .i64 x.fr) := keep_below (by have h0 := hc k x 14 _ hx rfl; simpa [Nat.add_assoc] using h0) hbw
      have c15 : wr.cell? ⟨b, o + k * 16 + 15, none⟩ = some (.int .i64 x.fin) := keep_below (by have h0 := hc k x 15 _ hx rfl; simpa [Nat.add_assoc] using h0) hbw
      obtain ⟨k0, k1, k2, k3, k4, k5, k6, k7, k8, k9, k10, k11, k12, k13⟩ := kc.below hbr
      have hm1 : m ≤ k := by
        have e1 := List.length_filter_le (upB f lv) (l.take k)
        rw [List.length_take] at e1
        have := hm.out
        omega
      have HS : Hid ((l.take (k + 1)).filter (upB f lv) = (l.take k).filter (upB f lv) ++ (if upB f lv x = true then [x] else [])) := filter_snoc _ hx
      have HU : Hid (upB f lv x = decide (0 ≤ levelOf f x.th ∧ levelOf f x.th ≤ lv)) := rfl
      have b0 : (0 : Int) ≤ (k : Int) := by omega
      have b1 : (k : Int) < (n : Int) := by omega
      have hlv := rlevel_any f x.th
      have hzb : b < wr.heap.size := block_lt_of_cell c0
      have hbrr := hbr
      clear hc hx h kc hbw
      generalize levelOf f x.th = v at *
      by_cases g1 : 0 ≤ v
      · by_cases g2 : v ≤ lv
        · have HF : Hid (upB f lv x = true) := by rw [Hid, HU.out]; exact decide_eq_true ⟨g1, g2⟩
          clear HU
          go_wp2_with fail
          have hX := @Ext.cell wr
          have hzz0 := block_lt_of_cell k0
          have hzz1 := block_lt_of_cell c0
          refine wp_region_noPanic ?_
          refine wp_region_plan (fun w' => ∃ x : Ext wr, w' = x.w) [([0, 1, 2, 3, 4, 5], 6)] [7] (by kernel_rfl) (by kernel_rfl) (by kernel_rfl) (fun _ _ _ _ _ h => h) ⟨⟨_, (brefl wr).drew⟩, rfl⟩ ?_
          refine wpPlan_cons ?_
          simp only [pickOps, List.getElem?_cons_succ, List.getElem?_cons_zero, Option.elim_some]
          repeat (go_big_quiet_step (fail))
          refine wpQuiet_nil ?_
          refine planAct_some (fun K hK => ?_)
          go_simp
          refine (hlv _).mono ?_
          rintro e w1 ⟨rfl, hb1⟩
          go_wp2_with fail
          refine hK.out _ _ ⟨⟨_, (bnext (brefl wr).drew hb1)⟩, rfl⟩ ?_
          clear hK K
          refine wpPlan_last ?_
          simp only [pickOps, List.getElem?_cons_succ, List.getElem?_cons_zero, Option.elim_some]
          repeat (go_big_quiet_step (fail))
          refine wpQuiet_nil ?_
          refine NoPanic.normal ?_
          clear hX hzz0 hzz1
          have hb2 := bnext (brefl wr).drew hb1
          have own2 := own_below own hb2
          obtain ⟨hc1, hf1, hz1⟩ := bcell hb2
          clear hb1
          have hb3 := bnext hbr hb2
          go_wp2_with (at_builtin; refine wpList_onto (W0 := W0) (ys := oc x) (m := 1) E rfl (.tmp 30) (.tmp 35) rfl (bnew hb3 _) rfl (own2.alloc _) rfl rfl (Rd.new _ _ _ rfl) (by simp [oc, Value.oneCell']) (by unfold maxLen; omega) (by omega) ?_; intro A8 c8 w8 own8 hb8 _)
          go_roundg (gk - 1)
          case measure => omega
          case rel =>
            refine ⟨k + 1, m + 1, A8, c8, by omega, by go_num, rfl, ?_, ?_, hb8⟩
            · rw [Hid, HS.out, HF.out, hm.out]; simp
            · rw [HS.out, HF.out, if_pos rfl, List.flatMap_append]
              exact own8
        · have HF : Hid (upB f lv x = false) := by rw [Hid, HU.out]; exact decide_eq_false (fun q => g2 q.2)
          have g3 : decide (v ≤ lv) = false := decide_eq_false g2
          clear HU
          go_wp2_with fail
          have hX := @Ext.cell wr
          have hzz0 := block_lt_of_cell k0
          have hzz1 := block_lt_of_cell c0
          refine wp_region_noPanic ?_
          refine wp_region_plan (fun w' => ∃ x : Ext wr, w' = x.w) [([0, 1, 2, 3, 4, 5], 6)] [7] (by kernel_rfl) (by kernel_rfl) (by kernel_rfl) (fun _ _ _ _ _ h => h) ⟨⟨_, (brefl wr).drew⟩, rfl⟩ ?_
          refine wpPlan_cons ?_
          simp only [pickOps, List.getElem?_cons_succ, List.getElem?_cons_zero, Option.elim_some]
          repeat (go_big_quiet_step (fail))
          refine wpQuiet_nil ?_
          refine planAct_some (fun K hK => ?_)
          go_simp
          refine (hlv _).mono ?_
          rintro e w1 ⟨rfl, hb1⟩
          go_wp2_with fail
          refine hK.out _ _ ⟨⟨_, (bnext (brefl wr).drew hb1)⟩, rfl⟩ ?_
          clear hK K
          refine wpPlan_last ?_
          simp only [pickOps, List.getElem?_cons_succ, List.getElem?_cons_zero, Option.elim_some]
          repeat (go_big_quiet_step (fail))
          refine wpQuiet_nil ?_
          refine NoPanic.normal ?_
          clear hX hzz0 hzz1
          have hb2 := bnext (brefl wr).drew hb1
          have own2 := own_below own hb2
          obtain ⟨hc1, hf1, hz1⟩ := bcell hb2
          clear hb1
          go_wp2
          go_roundg (gk - 1)
          case measure => omega
          case rel =>
            refine ⟨k + 1, m, A', c', by omega, by go_num, rfl, ?_, ?_, bnext hbr hb2⟩
            · rw [Hid, HS.out, HF.out, hm.out]; simp
            · rw [HS.out, HF.out]
              simp only [Bool.false_eq_true, if_false, List.append_nil]
              exact own2
      · have HF : Hid (upB f lv x = false) := by rw [Hid, HU.out]; exact decide_eq_false (fun q => g1 q.1)
        have g3 : decide (0 ≤ v) = false := decide_eq_false g1
        clear HU
        go_wp2_with fail
        have hX := @Ext.cell wr
        have hzz0 := block_lt_of_cell k0
        have hzz1 := block_lt_of_cell c0
        refine wp_region_noPanic ?_
        refine wp_region_plan (fun w' => ∃ x : Ext wr, w' = x.w) [([0, 1, 2, 3, 4, 5], 6)] [7] (by kernel_rfl) (by kernel_rfl) (by kernel_rfl) (fun _ _ _ _ _ h => h) ⟨⟨_, (brefl wr).drew⟩, rfl⟩ ?_
        refine wpPlan_cons ?_
        simp only [pickOps, List.getElem?_cons_succ, List.getElem?_cons_zero, Option.elim_some]
        repeat (go_big_quiet_step (fail))
        refine wpQuiet_nil ?_
        refine planAct_some (fun K hK => ?_)
        go_simp
        refine (hlv _).mono ?_
        rintro e w1 ⟨rfl, hb1⟩
        go_wp2_with fail
        refine hK.out _ _ ⟨⟨_, (bnext (brefl wr).drew hb1)⟩, rfl⟩ ?_
        clear hK K
        refine wpPlan_last ?_
        simp only [pickOps, List.getElem?_cons_succ, List.getElem?_cons_zero, Option.elim_some]
        repeat (go_big_quiet_step (fail))
        refine wpQuiet_nil ?_
        refine NoPanic.normal ?_
        clear hX hzz0 hzz1
        have hb2 := bnext (brefl wr).drew hb1
        have own2 := own_below own hb2
        obtain ⟨hc1, hf1, hz1⟩ := bcell hb2
        clear hb1
        go_wp2
        go_roundg (gk - 1)
        case measure => omega
        case rel =>
          refine ⟨k + 1, m, A', c', by omega, by go_num, rfl, ?_, ?_, bnext hbr hb2⟩
          · rw [Hid, HS.out, HF.out, hm.out]; simp
          · rw [HS.out, HF.out]
            simp only [Bool.false_eq_true, if_false, List.append_nil]
            exact own2
    · have HT : Hid (l.take k = l) := by rw [Hid, List.take_of_length_le (by rw [h.len]; omega)]
      have hge : ¬ ((k : Int) < (n : Int)) := by omega
      clear h
      go_wp2
      go_ret
      rw [HT.out] at hm own
      have hm' := hm.out
      subst hm'
      exact ⟨A', c', rfl, own_base own kb.size, bnext kb hbr⟩

set_option maxHeartbeats 2000000 in
set_option maxRecDepth 100000 in
theorem shareupto_walk {A : Option Addr} {n c : Nat} {l : List Opr} {w : World} (h : Sl oc w A n c l) (hn : n ≤ 100) (f : Cf) (lv : Int) :
    Calls Try.prog 9 #[.slice A n c, .agg #[.int .i64 f.lv, .int .i64 f.th, .int .i64 f.o0, .int .i64 f.o1, .int .i64 f.o2, .int .i64 f.o3, .int .i64 f.o4, .int .i64 f.o5, .int .i64 f.o6, .int .i64 f.o7, .int .i64 f.sl, .int .i64 f.li, .int .i64 f.ge, .int .i64 f.qu], .int .i64 lv] w fun e w' => e = .returned (.bool true) ∧ Below w.heap.size w w' := by
  have hfl : (l.filter (upB f lv)).length ≤ 100 := by have := List.length_filter_le (upB f lv) l; have := h.len; omega
  go_enter Try.func9, Try.ntmps9
  go_upto_region 3 with (fail)
  obtain ⟨W0, hW0, kc, kb⟩ : ∃ W0, w.alloc (.cells #[.int .i64 f.lv, .int .i64 f.th, .int .i64 f.o0, .int .i64 f.o1, .int .i64 f.o2, .int .i64 f.o3, .int .i64 f.o4, .int .i64 f.o5, .int .i64 f.o6, .int .i64 f.o7, .int .i64 f.sl, .int .i64 f.li, .int .i64 f.ge, .int .i64 f.qu] 45) = W0 ∧ CBox W0 w.heap.size f ∧ Below w.heap.size w W0 :=
    ⟨_, rfl, ⟨by go_simp, by go_simp, by go_simp, by go_simp, by go_simp, by go_simp, by go_simp, by go_simp, by go_simp, by go_simp, by go_simp, by go_simp, by go_simp, by go_simp⟩, bnew (brefl w) _⟩
  rw [hW0]
  clear hW0
  obtain ⟨k0, k1, k2, k3, k4, k5, k6, k7, k8, k9, k10, k11, k12, k13⟩ := kc
  have hs := h.below kb
  have hX := @Ext.cell W0
  have hzz0 := block_lt_of_cell k0
  refine wp_region_noPanic ?_
  refine wp_region_plan (fun w' => ∃ x : Ext W0, w' = x.w) [([0, 1, 2, 4, 5, 6], 3), ([], 7), ([], 8), ([9], 10)] [11, 12] (by kernel_rfl) (by kernel_rfl) (by kernel_rfl) (fun _ _ _ _ _ h => h) ⟨⟨_, (brefl W0).drew⟩, rfl⟩ ?_
  refine wpPlan_cons ?_
  simp only [pickOps, List.getElem?_cons_succ, List.getElem?_cons_zero, Option.elim_some]
  repeat (go_big_quiet_step (fail))
  refine wpQuiet_nil ?_
  refine planAct_some (fun K hK => ?_)
  go_simp
  refine (supto_any hs.drew (by omega) f lv).mono ?_
  rintro e wa ⟨A1, c1, rfl, own1, hba⟩
  go_wp2_with fail
  refine hK.out _ _ ⟨⟨_, (bnext (brefl W0).drew hba)⟩, rfl⟩ ?_
  clear hK K
  refine wpPlan_cons ?_
  simp only [pickOps, List.getElem?_cons_succ, List.getElem?_cons_zero, Option.elim_some]
  repeat (go_big_quiet_step (fail))
  refine wpQuiet_nil ?_
  refine planAct_some (fun K hK => ?_)
  go_simp
  refine (rsupto_any (hs.below (bnext (brefl W0).drew hba)) (by omega) f lv).mono ?_
  rintro e wb ⟨A2, c2, rfl, own2, hbb⟩
  go_wp2_with fail
  refine hK.out _ _ ⟨⟨_, (bnext (bnext (brefl W0).drew hba) hbb)⟩, rfl⟩ ?_
  clear hK K
  refine wpPlan_cons ?_
  simp only [pickOps, List.getElem?_cons_succ, List.getElem?_cons_zero, Option.elim_some]
  repeat (go_big_quiet_step (fail))
  refine wpQuiet_nil ?_
  refine planAct_some (fun K hK => ?_)
  go_simp
  refine (opersame_any ((Sl.of_own oc_len (by decide) own1).below hbb) (Sl.of_own oc_len (by decide) own2) (by omega)).mono ?_
  rintro e wd ⟨rfl, d, rfl⟩
  go_wp2_with fail
  refine hK.out _ _ ⟨⟨_, (below_drewN (bnext (bnext (brefl W0).drew hba) hbb) d)⟩, rfl⟩ ?_
  clear hK K
  refine wpPlan_cons ?_
  simp only [pickOps, List.getElem?_cons_succ, List.getElem?_cons_zero, Option.elim_some]
  repeat (go_big_quiet_step (fail))
  refine wpQuiet_nil ?_
  refine planAct_some (fun K hK => ?_)
  go_simp
  refine (lives15 _).mono ?_
  rintro e we ⟨rfl, hbe⟩
  go_wp2_with fail
  refine hK.out _ _ ⟨⟨_, (bnext (below_drewN (bnext (bnext (brefl W0).drew hba) hbb) d) hbe)⟩, rfl⟩ ?_
  clear hK K
  refine wpPlan_last ?_
  simp only [pickOps, List.getElem?_cons_succ, List.getElem?_cons_zero, Option.elim_some]
  repeat (go_big_quiet_step (fail))
  refine wpQuiet_nil ?_
  refine NoPanic.normal ?_
  clear hX hzz0
  go_wp2
  go_ret
  exact ⟨rfl, bnext kb (bnext (below_drewN (bnext (bnext (brefl W0).drew hba) hbb) d) hbe)⟩

theorem shareupto_any {A : Option Addr} {n c : Nat} {l : List Opr} {w : World} (h : Sl oc w A n c l) (h1 : c ≤ maxLen) (f : Cf) (lv : Int) :
    Calls Try.prog 9 #[.slice A n c, .agg #[.int .i64 f.lv, .int .i64 f.th, .int .i64 f.o0, .int .i64 f.o1, .int .i64 f.o2, .int .i64 f.o3, .int .i64 f.o4, .int .i64 f.o5, .int .i64 f.o6, .int .i64 f.o7, .int .i64 f.sl, .int .i64 f.li, .int .i64 f.ge, .int .i64 f.qu], .int .i64 lv] w fun e w' => e = .returned (.bool true) ∧ Below w.heap.size w w' := by
  unfold maxLen at h1
  have e1 := h.cap
  by_cases hn : n ≤ 100
  · exact shareupto_walk h hn f lv
  · have t1 : (100 : Int) < (n : Int) := by omega
    have t2 : n ≤ 9223372036854775807 := by omega
    clear h h1
    go_enter Try.func9, Try.ntmps9
    go_wp2_with (go_at_call 13; refine (lives15 _).mono ?_; rintro e w5 ⟨rfl, hb5⟩)
    go_ret
    exact ⟨rfl, bnext (bnew (brefl w) _) hb5⟩
end Go.Proofs.Ytpnhpiniflcciaa
