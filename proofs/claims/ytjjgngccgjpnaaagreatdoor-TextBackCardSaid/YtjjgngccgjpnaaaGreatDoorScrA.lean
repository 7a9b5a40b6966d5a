/- Scripts in memory: what the texts of this seat share. -/
import Derived.Test.YtjjgngccgjpnaaaGreatDoorPurge
import Derived.Test.YtjjgngccgjpnaaaGreatDoorFld
namespace Go.Proofs.YtjjgngccgjpnaaaGreatDoor
set_option linter.unusedVariables false
set_option linter.unusedSimpArgs false
open Go.RowKit

/-- A word of 64 bits. -/
def U64 (n : Int) : Prop := 0 ≤ n ∧ n < 18446744073709551616
theorem U64.nat {n : Nat} (h : n < 2 ^ 64) : U64 (n : Int) := ⟨by omega, by omega⟩
theorem U64.lt {n : Int} (h : U64 n) : n.toNat < 2 ^ 64 := by unfold U64 at h; omega
theorem U64.cast {n : Int} (h : U64 n) : ((n.toNat : Nat) : Int) = n := by unfold U64 at h; omega
/-- A whole number of 64 bits. -/
def I64 (n : Int) : Prop := -9223372036854775808 ≤ n ∧ n ≤ 9223372036854775807

def ic (n : Int) : List Value := [.int .i64 n]
theorem ic_len (n : Int) : (ic n).length = 1 := rfl
theorem info_i : (Tryz.prog.info? 3).map (fun i => (i.zero, i.size, i.bytes)) = some (some (.int .i64 0), 1, 8) := by kernel_rfl
theorem elem_i : ∃ i, Elem Tryz.prog 120 3 i (.int .i64 0) 1 8 := Elem.of Tryz.underlying120 info_i rfl (by decide)

/-- The threads below k whose level is as it is asked for. -/
def thr (c : Cf) (p : Int → Bool) : Nat → List Int
  | 0 => []
  | k + 1 => thr c p k ++ (if (decide ((k : Int) < c.th) && p (c.of k)) = true then [(k : Int)] else [])
theorem thr_len (c : Cf) (p : Int → Bool) : ∀ k, (thr c p k).length ≤ k
  | 0 => Nat.le_refl _
  | k + 1 => by
    have := thr_len c p k
    rw [thr, List.length_append]
    split <;> simp <;> omega
theorem thr_past (c : Cf) (p : Int → Bool) {k : Nat} (hk : c.th ≤ (k : Int)) : ∀ j, thr c p (k + j) = thr c p k
  | 0 => rfl
  | j + 1 => by
    rw [show k + (j + 1) = (k + j) + 1 by omega, thr, if_neg (by simp; intro h; omega), List.append_nil, thr_past c p hk j]
theorem thr_congr (c : Cf) {p q : Int → Bool} (h : ∀ k : Nat, k < 8 → p (c.of k) = q (c.of k)) : ∀ k, k ≤ 8 → thr c p k = thr c q k
  | 0, _ => rfl
  | k + 1, hk => by rw [thr, thr, thr_congr c h k (by omega), h k (by omega)]
def atL (c : Cf) (p : Int → Bool) : List Int := if mayB c = true then thr c p 8 else []

set_option maxHeartbeats 1000000 in
theorem upto1_any (l v : Int) (p : Nat) (w : World) (hp : w.cell? ⟨p, 0, none⟩ = some (.int .i64 v)) : Calls Tryz.prog 126 #[.int .i64 l, .pointer (some ⟨p, 0, none⟩)] w fun e w' => e = .returned (.bool (decide (l ≤ v))) ∧ w = w' := by
  go_enter Tryz.func126, Tryz.ntmps126
  go_wp2
  go_ret
  exact ⟨rfl, rfl⟩

set_option maxHeartbeats 4000000 in
set_option maxRecDepth 100000 in
theorem those_upto (c : Cf) (q : Nat) (p : Int → Bool) (w : World)
    (cl : ∀ (x : Int) (w' : World), Below w.heap.size w w' → Calls Tryz.prog 126 #[.int .i64 x, .pointer (some ⟨q, 0, none⟩)] w' fun e w'' => e = .returned (.bool (p x)) ∧ w' = w'') :
    Calls Tryz.prog 125 #[.agg #[.int .i64 c.lv, .int .i64 c.th, .int .i64 c.o0, .int .i64 c.o1, .int .i64 c.o2, .int .i64 c.o3, .int .i64 c.o4, .int .i64 c.o5, .int .i64 c.o6, .int .i64 c.o7, .int .i64 c.sl, .int .i64 c.li, .int .i64 c.ge, .int .i64 c.qu], .func (.func 126) #[] #[.pointer (some ⟨q, 0, none⟩)]] w fun e w' => ∃ A' c', e = .returned (.slice A' (atL c p).length c') ∧ w'.ownsRow w.heap.size 3 1 (.slice A' (atL c p).length c') (atL c p).length ((atL c p).flatMap ic) ∧ Below w.heap.size w w' := by
  obtain ⟨i0, E⟩ := elem_i
  have hmay := may_any c
  by_cases h : mayB c = true
  · have m : c.May := of_decide_eq_true h
    have l1 := m.t1
    have l2 := m.t2
    have hE : Hid (atL c p = thr c p 8) := if_pos h
    rw [h] at hmay
    clear h m
    go_enter Tryz.func125, Tryz.ntmps125
    go_wp2_with fail
    obtain ⟨W0, hW0, k0, k1, k2, k3, k4, k5, k6, k7, k8, k9, k10, k11, k12, k13, kof, kb⟩ : ∃ W0, w.alloc (.cells #[.int .i64 c.lv, .int .i64 c.th, .int .i64 c.o0, .int .i64 c.o1, .int .i64 c.o2, .int .i64 c.o3, .int .i64 c.o4, .int .i64 c.o5, .int .i64 c.o6, .int .i64 c.o7, .int .i64 c.sl, .int .i64 c.li, .int .i64 c.ge, .int .i64 c.qu] 25) = W0 ∧ W0.cell? ⟨w.heap.size, 0, none⟩ = some (.int .i64 c.lv) ∧ W0.cell? ⟨w.heap.size, 1, none⟩ = some (.int .i64 c.th) ∧ W0.cell? ⟨w.heap.size, 2, none⟩ = some (.int .i64 c.o0) ∧ W0.cell? ⟨w.heap.size, 3, none⟩ = some (.int .i64 c.o1) ∧ W0.cell? ⟨w.heap.size, 4, none⟩ = some (.int .i64 c.o2) ∧ W0.cell? ⟨w.heap.size, 5, none⟩ = some (.int .i64 c.o3) ∧ W0.cell? ⟨w.heap.size, 6, none⟩ = some (.int .i64 c.o4) ∧ W0.cell? ⟨w.heap.size, 7, none⟩ = some (.int .i64 c.o5) ∧ W0.cell? ⟨w.heap.size, 8, none⟩ = some (.int .i64 c.o6) ∧ W0.cell? ⟨w.heap.size, 9, none⟩ = some (.int .i64 c.o7) ∧ W0.cell? ⟨w.heap.size, 10, none⟩ = some (.int .i64 c.sl) ∧ W0.cell? ⟨w.heap.size, 11, none⟩ = some (.int .i64 c.li) ∧ W0.cell? ⟨w.heap.size, 12, none⟩ = some (.int .i64 c.ge) ∧ W0.cell? ⟨w.heap.size, 13, none⟩ = some (.int .i64 c.qu) ∧ (∀ k : Nat, k < 8 → W0.cell? ⟨w.heap.size, 2 + k, none⟩ = some (.int .i64 (c.of k))) ∧ Below w.heap.size w W0 :=
      ⟨_, rfl, by go_simp, by go_simp, by go_simp, by go_simp, by go_simp, by go_simp, by go_simp, by go_simp, by go_simp, by go_simp, by go_simp, by go_simp, by go_simp, by go_simp, box_of c w, bnew (brefl w) _⟩
    rw [hW0]
    clear hW0
    go_wp2_with (go_at_call 66; refine (hmay _).mono ?_; rintro e w1 ⟨rfl, hb1⟩; have q1 := keep_below k1 hb1)
    have qof : ∀ k : Nat, k < 8 → w1.cell? ⟨w.heap.size, 2 + k, none⟩ = some (.int .i64 (c.of k)) := fun k hk => keep_below (kof k hk) hb1
    have hbw := bnext kb hb1
    clear k0 k1 k2 k3 k4 k5 k6 k7 k8 k9 k10 k11 k12 k13 kof hmay
    go_loopg [5, 12] c.th.toNat (fun gk out i wr => ∃ (k m : Nat) (A' : Option Addr) (c' : Nat), k + gk = c.th.toNat ∧ i = .int .i64 k ∧ out = .slice A' m c' ∧ Hid (m = (thr c p k).length) ∧ wr.ownsRow w1.heap.size 3 1 (.slice A' m c') m ((thr c p k).flatMap ic) ∧ Below w1.heap.size w1 wr)
    case atStart => exact ⟨0, 0, none, 0, by omega, rfl, rfl, rfl, World.ownsRow_nil _ _ _ _, brefl w1⟩
    case round =>
      obtain ⟨k, m, A', c', hk, rfl, rfl, hm, own, hbr⟩ := hrel
      by_cases hlt : k < c.th.toNat
      · have b0 : (0 : Int) ≤ (k : Int) := by omega
        have b1 : (k : Int) < c.th := by omega
        have b2 : (k : Int) < 8 := by omega
        have ck := keep_below (qof k (by omega)) hbr
        have hcl := fun w' (hb : Below w1.heap.size w1 w') => cl (c.of k) w' (bnext hbw hb)
        have hm1 : m ≤ k := by have := hm.out; have := thr_len c p k; omega
        have HS : Hid (thr c p (k + 1) = thr c p k ++ (if p (c.of k) = true then [(k : Int)] else [])) := by
          rw [Hid, thr, decide_eq_true b1, Bool.true_and]
        clear qof cl
        generalize c.of k = v at *
        cases hf : p v with
        | false =>
          rw [hf] at hcl
          go_wp2_with (go_at_call 126; refine (hcl _ hbr).mono ?_; rintro e w2 ⟨rfl, rfl⟩)
          go_roundg (gk - 1)
          case measure => omega
          case rel =>
            refine ⟨k + 1, m, A', c', by omega, by go_num, rfl, ?_, ?_, hbr⟩
            · rw [Hid, HS.out, hf, hm.out]; simp
            · rw [HS.out, hf]
              simp only [Bool.false_eq_true, if_false, List.append_nil]
              exact own
        | true =>
          rw [hf] at hcl
          go_wp2_with (first | (go_at_call 126; refine (hcl _ hbr).mono ?_; rintro e w2 ⟨rfl, rfl⟩) | (at_builtin; refine wpList_onto (W0 := w1) (ys := [.int .i64 (k : Int)]) (m := 1) E rfl (.tmp 21) (.tmp 23) rfl (bnew hbr _) rfl (own.alloc _) rfl rfl (Rd.new _ _ _ rfl) (by simp [Value.oneCell']) (by unfold maxLen; omega) (by omega) ?_; intro A8 c8 w8 own8 hb8 _))
          go_roundg (gk - 1)
          case measure => omega
          case rel =>
            refine ⟨k + 1, m + 1, A8, c8, by omega, by go_num, rfl, ?_, ?_, hb8⟩
            · rw [Hid, HS.out, hf, hm.out]; simp
            · rw [HS.out, hf, if_pos rfl, List.flatMap_append]
              exact own8
      · have hge : ¬ ((k : Int) < c.th) := by omega
        have hL : Hid (thr c p k = atL c p) := by
          rw [Hid, hE.out, show (8 : Nat) = k + (8 - k) by omega, thr_past c p (by omega)]
        rw [hL.out] at hm own
        have hm' := hm.out
        subst hm'
        clear qof cl
        go_wp2
        go_ret
        exact ⟨A', c', rfl, own_base own hbw.size, bnext hbw hbr⟩
  · have h' : mayB c = false := by simpa using h
    have hE : Hid (atL c p = []) := if_neg h
    rw [h'] at hmay
    clear h h'
    go_enter Tryz.func125, Tryz.ntmps125
    go_wp2_with fail
    obtain ⟨W0, hW0, k0, k1, k2, k3, k4, k5, k6, k7, k8, k9, k10, k11, k12, k13, kof, kb⟩ : ∃ W0, w.alloc (.cells #[.int .i64 c.lv, .int .i64 c.th, .int .i64 c.o0, .int .i64 c.o1, .int .i64 c.o2, .int .i64 c.o3, .int .i64 c.o4, .int .i64 c.o5, .int .i64 c.o6, .int .i64 c.o7, .int .i64 c.sl, .int .i64 c.li, .int .i64 c.ge, .int .i64 c.qu] 25) = W0 ∧ W0.cell? ⟨w.heap.size, 0, none⟩ = some (.int .i64 c.lv) ∧ W0.cell? ⟨w.heap.size, 1, none⟩ = some (.int .i64 c.th) ∧ W0.cell? ⟨w.heap.size, 2, none⟩ = some (.int .i64 c.o0) ∧ W0.cell? ⟨w.heap.size, 3, none⟩ = some (.int .i64 c.o1) ∧ W0.cell? ⟨w.heap.size, 4, none⟩ = some (.int .i64 c.o2) ∧ W0.cell? ⟨w.heap.size, 5, none⟩ = some (.int .i64 c.o3) ∧ W0.cell? ⟨w.heap.size, 6, none⟩ = some (.int .i64 c.o4) ∧ W0.cell? ⟨w.heap.size, 7, none⟩ = some (.int .i64 c.o5) ∧ W0.cell? ⟨w.heap.size, 8, none⟩ = some (.int .i64 c.o6) ∧ W0.cell? ⟨w.heap.size, 9, none⟩ = some (.int .i64 c.o7) ∧ W0.cell? ⟨w.heap.size, 10, none⟩ = some (.int .i64 c.sl) ∧ W0.cell? ⟨w.heap.size, 11, none⟩ = some (.int .i64 c.li) ∧ W0.cell? ⟨w.heap.size, 12, none⟩ = some (.int .i64 c.ge) ∧ W0.cell? ⟨w.heap.size, 13, none⟩ = some (.int .i64 c.qu) ∧ (∀ k : Nat, k < 8 → W0.cell? ⟨w.heap.size, 2 + k, none⟩ = some (.int .i64 (c.of k))) ∧ Below w.heap.size w W0 :=
      ⟨_, rfl, by go_simp, by go_simp, by go_simp, by go_simp, by go_simp, by go_simp, by go_simp, by go_simp, by go_simp, by go_simp, by go_simp, by go_simp, by go_simp, by go_simp, box_of c w, bnew (brefl w) _⟩
    rw [hW0]
    clear hW0
    go_wp2_with (go_at_call 66; refine (hmay _).mono ?_; rintro e w1 ⟨rfl, hb1⟩)
    go_ret
    rw [hE.out]
    exact ⟨none, 0, rfl, World.ownsRow_nil _ _ _ _, bnext kb hb1⟩

set_option maxHeartbeats 2000000 in
set_option maxRecDepth 100000 in
theorem upto_any (c : Cf) (l : Int) (w : World) : Calls Tryz.prog 92 #[.agg #[.int .i64 c.lv, .int .i64 c.th, .int .i64 c.o0, .int .i64 c.o1, .int .i64 c.o2, .int .i64 c.o3, .int .i64 c.o4, .int .i64 c.o5, .int .i64 c.o6, .int .i64 c.o7, .int .i64 c.sl, .int .i64 c.li, .int .i64 c.ge, .int .i64 c.qu], .int .i64 l] w fun e w' => ∃ A' c', e = .returned (.slice A' (atL c (fun x => decide (x ≤ l))).length c') ∧ w'.ownsRow w.heap.size 3 1 (.slice A' (atL c (fun x => decide (x ≤ l))).length c') (atL c (fun x => decide (x ≤ l))).length ((atL c (fun x => decide (x ≤ l))).flatMap ic) ∧ Below w.heap.size w w' := by
  have hmf : ∀ (fn : Fn) (first cap : Array Value) (w : World), (Instr.makeFunc fn first cap).run Tryz.prog w = .ok (.func fn first cap) w := fun _ _ _ _ => rfl
  go_enter Tryz.func92, Tryz.ntmps92
  go_wp2_with fail
  obtain ⟨W1, hW1, kl, kb⟩ : ∃ W1, (w.alloc (.cells #[.int .i64 c.lv, .int .i64 c.th, .int .i64 c.o0, .int .i64 c.o1, .int .i64 c.o2, .int .i64 c.o3, .int .i64 c.o4, .int .i64 c.o5, .int .i64 c.o6, .int .i64 c.o7, .int .i64 c.sl, .int .i64 c.li, .int .i64 c.ge, .int .i64 c.qu] 25)).alloc (.cells #[.int .i64 l] 3) = W1 ∧ W1.cell? ⟨w.heap.size + 1, 0, none⟩ = some (.int .i64 l) ∧ Below w.heap.size w W1 :=
    ⟨_, rfl, by go_simp, bnew (bnew (brefl w) _) _⟩
  rw [hW1]
  clear hW1
  refine (those_upto c (w.heap.size + 1) (fun x => decide (x ≤ l)) W1 fun x w' hb => upto1_any x l _ w' (keep_below kl hb)).mono ?_
  rintro e w1 ⟨A', c', rfl, own, hb⟩
  go_wp2
  go_ret
  exact ⟨A', c', rfl, own_base own kb.size, bnext kb hb⟩

/- Scripts in memory; what is above a level. -/

/-- A script's cells. -/
def scc (c : Cf) (us : List Value) (ev : Value) : List Value := cfc c ++ (us ++ [ev])
theorem scc_len {c : Cf} {us : List Value} {ev : Value} (h : us.length = 8) : (scc c us ev).length = 23 := by
  unfold scc
  rw [List.length_append, List.length_append, cfc_len, h]
  rfl
theorem scc_get {c : Cf} {us : List Value} {ev : Value} {k : Nat} {v : Value} (h : us[k]? = some v) : (scc c us ev)[14 + k]? = some v := by
  unfold scc
  rw [List.getElem?_append_right (by rw [cfc_len]; omega), cfc_len, Nat.add_sub_cancel_left, List.getElem?_append_left (List.getElem?_eq_some_iff.1 h).1]
  exact h
theorem scc_last {c : Cf} {us : List Value} {ev : Value} (h : us.length = 8) : (scc c us ev)[22]? = some ev := by
  unfold scc
  rw [List.getElem?_append_right (by rw [cfc_len]; omega), cfc_len, List.getElem?_append_right (by omega), h]
  rfl
theorem scc_conf (c : Cf) (us : List Value) (ev : Value) : ((scc c us ev).drop 0).take (cfc c).length = cfc c := by
  unfold scc
  rw [List.drop_zero]
  exact List.take_left
theorem scc_ps {c : Cf} {us : List Value} {ev : Value} : ((scc c us ev).drop 14).take us.length = us := by
  unfold scc
  rw [List.drop_append_of_le_length (by rw [cfc_len]; omega), List.drop_eq_nil_of_le (by rw [cfc_len]; omega), List.nil_append]
  exact List.take_left
theorem scc_set {c : Cf} {us : List Value} {ev : Value} {k : Nat} (hk : k < us.length) (v : Value) : (scc c us ev).set (14 + k) v = scc c (us.set k v) ev := by
  unfold scc
  rw [List.set_append_right _ _ (by rw [cfc_len]; omega), cfc_len, Nat.add_sub_cancel_left, List.set_append_left _ _ hk]
theorem scc_setl {c : Cf} {us : List Value} {ev : Value} (h : us.length = 8) (v : Value) : (scc c us ev).set 22 v = scc c us v := by
  unfold scc
  rw [List.set_append_right _ _ (by rw [cfc_len]; omega), cfc_len, List.set_append_right _ _ (by omega), h]
  rfl
theorem info_scc {c : Cf} {us : List Value} {ev : Value} (h : us.length = 8) : (Tryz.prog.info? 30).map (·.size) = some (scc c us ev).toArray.size := by rw [List.size_toArray, scc_len h]; kernel_rfl
def cf0 : Cf := ⟨0, 0, 0, 0, 0, 0, 0, 0, 0, 0, 0, 0, 0, 0⟩
def nil8 : List Value := [.slice none 0 0, .slice none 0 0, .slice none 0 0, .slice none 0 0, .slice none 0 0, .slice none 0 0, .slice none 0 0, .slice none 0 0]
/-- Eight slices that read as the programs ps; none lies in a block of S. -/
structure PIn (S : Nat → Prop) (w : World) (us : List Value) (ps : List (List CV)) : Prop where
  u8 : us.length = 8
  p8 : ps.length = 8
  at_ : ∀ (j : Nat) (l : List CV), ps[j]? = some l → ∃ (A : Option Addr) (n c : Nat), us[j]? = some (Value.slice A n c) ∧ Sl cvc w A n c l ∧ ∀ ad, A = some ad → l ≠ [] → ¬ S ad.block
theorem PIn.keeps {S : Nat → Prop} {w w' : World} {us : List Value} {ps : List (List CV)} (h : PIn S w us ps) (hk : Keeps S w w') : PIn S w' us ps :=
  ⟨h.u8, h.p8, fun j l hl => by
    obtain ⟨A, n, c, h1, h2, h3⟩ := h.at_ j l hl
    by_cases he : l = []
    · subst he
      exact ⟨A, n, c, h1, ⟨h2.len, h2.cap, Rd.nil _ _, h2.nil_⟩, h3⟩
    · exact ⟨A, n, c, h1, hk.sl h2 (fun ad e => h3 ad e he), h3⟩⟩
/-- What was there lies in none of the blocks to come. -/
theorem PIn.old {S : Nat → Prop} {w : World} {us : List Value} {ps : List (List CV)} (h : PIn S w us ps) : PIn (fun b => w.heap.size ≤ b) w us ps :=
  ⟨h.u8, h.p8, fun j l hl => by
    obtain ⟨A, n, c, h1, h2, h3⟩ := h.at_ j l hl
    refine ⟨A, n, c, h1, h2, fun ad e hne q => ?_⟩
    have := h2.rd.lt (by
      intro q
      have := congrArg List.length q
      rw [flat_len cvc_len] at this
      simp at this
      exact hne (List.eq_nil_of_length_eq_zero (by omega))) ad e
    omega⟩
theorem PIn.below {S : Nat → Prop} {w w' : World} {us : List Value} {ps : List (List CV)} (h : PIn S w us ps) (hb : Below w.heap.size w w') : PIn S w' us ps := h.keeps (Keeps.of_below hb)
theorem PIn.weak {S S' : Nat → Prop} {w : World} {us : List Value} {ps : List (List CV)} (h : PIn S w us ps) (hS : ∀ b, S' b → S b) : PIn S' w us ps :=
  ⟨h.u8, h.p8, fun j l hl => by
    obtain ⟨A, n, c, h1, h2, h3⟩ := h.at_ j l hl
    exact ⟨A, n, c, h1, h2, fun ad e hne q => h3 ad e hne (hS _ q)⟩⟩
end Go.Proofs.YtjjgngccgjpnaaaGreatDoor
