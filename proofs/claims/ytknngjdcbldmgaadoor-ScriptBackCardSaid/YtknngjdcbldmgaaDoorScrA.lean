/- Scripts in memory: what the texts of this seat share. -/
import Derived.Test.YtknngjdcbldmgaaDoorPurge
import Derived.Test.YtknngjdcbldmgaaDoorFld
namespace Go.Proofs.YtknngjdcbldmgaaDoor
set_option linter.unusedVariables false
set_option linter.unusedSimpArgs false
open Go.RowKit

/-- A word of 64 bits. -/
def U64 (n : Int) : Prop := 0 ≤ n ∧ n < 18446744073709551616
theorem U64.nat {n : Nat} (h : n < 2 ^ 64) : U64 (n : Int) := ⟨by omega, by omega⟩
theorem U64.lt {n : Int} (h : U64 n) : n.toNat < 2 ^ 64 := by unfold U64 at h; omega
theorem U64.cast {n : Int} (h : U64 n) : ((n.toNat : Nat) : Int) = n := by unfold U64 at h; omega
/-- A whole number of 64 bits. -/
def I64 (n : Int) : Prop := -9223372036854775808 ≤ n ∧ n ≤ 9223372036854775807

theorem mask_fin {a s : Int} (X f l : Int) (hX : X = 18446744073709551615 / 2 ^ (64 - (l - f)).toNat * 2 ^ f.toNat) (h1 : 1 ≤ s) (h2 : a < 64) (h3 : 0 < a + s) (hf : f = max 0 a) (hl : l = min 64 (a + s)) :
    IntKind.u64.wrap X = ((Fld.mask a s : Nat) : Int) := by
  rw [← Fld.mask_int f l h1 h2 h3 hf hl, hX, IntKind.wrap_u64]
  simp
theorem mask_full {a s : Int} (h1 : 1 ≤ s) (h2 : a ≤ 0) (h3 : 64 ≤ a + s) : (18446744073709551615 : Int) = ((Fld.mask a s : Nat) : Int) := by
  rw [← Fld.mask_int 0 64 h1 (by omega) (by omega) (by omega) (by omega)]
  simp
theorem shift_up {n : Int} (hn : U64 n) {b : Int} (h1 : 0 ≤ b) (h2 : b < 64) : IntKind.u64.wrap (n * 2 ^ b.toNat) = ((Fld.shift n.toNat b : Nat) : Int) := by
  unfold Fld.shift
  rw [if_neg (by omega), if_pos h1, IntKind.wrap_u64]
  have := hn.cast
  simp [this]
theorem shift_down {n : Int} (hn : U64 n) {b : Int} (h1 : b < 0) (h2 : -64 < b) : n / 2 ^ (-b).toNat = ((Fld.shift n.toNat b : Nat) : Int) := by
  unfold Fld.shift
  rw [if_neg (by omega), if_neg (by omega)]
  have := hn.cast
  simp [this]

set_option maxHeartbeats 400000 in
theorem mask_any (a s : Int) (w : World) (ha : I64 a) (hs : I64 s) :
    Calls Tryd.prog 57 #[.int .i64 a, .int .i64 s] w fun e w' => e = .returned (.int .u64 (Fld.mask a s : Nat)) ∧ w = w' := by
  unfold I64 at ha hs
  obtain ⟨ha1, ha2⟩ := ha
  obtain ⟨hs1, hs2⟩ := hs
  by_cases h1 : s < 1
  · have hm : Hid (Fld.mask a s = 0) := Fld.mask_none (.inl h1)
    go_enter Tryd.func57, Tryd.ntmps57
    go_wp2
    go_ret
    exact ⟨ret_int (by rw [hm.out]; rfl), rfl⟩
  · by_cases h2 : 64 ≤ a
    · have hm : Hid (Fld.mask a s = 0) := Fld.mask_none (.inr (.inl h2))
      go_enter Tryd.func57, Tryd.ntmps57
      go_wp2
      go_ret
      exact ⟨ret_int (by rw [hm.out]; rfl), rfl⟩
    · by_cases h3 : a < 0
      · by_cases h4 : a + s ≤ 0
        · have hm : Hid (Fld.mask a s = 0) := Fld.mask_none (.inr (.inr h4))
          go_enter Tryd.func57, Tryd.ntmps57
          go_wp2
          go_ret
          exact ⟨ret_int (by rw [hm.out]; rfl), rfl⟩
        · by_cases h6 : a + s < 64
          · go_enter Tryd.func57, Tryd.ntmps57
            go_wp2
            go_ret
            exact ⟨ret_int (mask_fin _ 0 (a + s) (by simp) (by omega) (by omega) (by omega) (by omega) (by omega)), rfl⟩
          · go_enter Tryd.func57, Tryd.ntmps57
            go_wp2
            go_ret
            exact ⟨ret_int (mask_full (by omega) (by omega) (by omega)), rfl⟩
      · by_cases h5 : s < 64 - a
        · by_cases h7 : a = 0
          · subst h7
            go_enter Tryd.func57, Tryd.ntmps57
            go_wp2
            go_ret
            exact ⟨ret_int (mask_fin _ 0 s (by simp) (by omega) (by omega) (by omega) (by omega) (by omega)), rfl⟩
          · have h8 : 0 < a := by omega
            have h9 : a + s < 64 := by omega
            clear h7
            go_enter Tryd.func57, Tryd.ntmps57
            go_wp2
            go_ret
            exact ⟨ret_int (mask_fin _ a (a + s) (by simp) (by omega) (by omega) (by omega) (by omega) (by omega)), rfl⟩
        · by_cases h7 : a = 0
          · subst h7
            go_enter Tryd.func57, Tryd.ntmps57
            go_wp2
            go_ret
            exact ⟨ret_int (mask_full (by omega) (by omega) (by omega)), rfl⟩
          · have h8 : 0 < a := by omega
            clear h7
            go_enter Tryd.func57, Tryd.ntmps57
            go_wp2
            go_ret
            exact ⟨ret_int (mask_fin _ a 64 (by simp) (by omega) (by omega) (by omega) (by omega) (by omega)), rfl⟩

set_option maxHeartbeats 400000 in
theorem shift_any (n b : Int) (w : World) (hn : U64 n) (hb : I64 b) :
    Calls Tryd.prog 58 #[.int .u64 n, .int .i64 b] w fun e w' => e = .returned (.int .u64 (Fld.shift n.toNat b : Nat)) ∧ w = w' := by
  unfold I64 at hb
  obtain ⟨hb1, hb2⟩ := hb
  by_cases h1 : 64 ≤ b
  · have hm : Hid (Fld.shift n.toNat b = 0) := by unfold Fld.shift; exact if_pos (.inl h1)
    go_enter Tryd.func58, Tryd.ntmps58
    go_wp2
    go_ret
    exact ⟨ret_int (by rw [hm.out]; rfl), rfl⟩
  · by_cases h2 : b ≤ -64
    · have hm : Hid (Fld.shift n.toNat b = 0) := by unfold Fld.shift; exact if_pos (.inr h2)
      go_enter Tryd.func58, Tryd.ntmps58
      go_wp2
      go_ret
      exact ⟨ret_int (by rw [hm.out]; rfl), rfl⟩
    · by_cases h3 : 0 ≤ b
      · go_enter Tryd.func58, Tryd.ntmps58
        go_wp2
        go_ret
        exact ⟨ret_int (shift_up hn h3 (by omega)), rfl⟩
      · go_enter Tryd.func58, Tryd.ntmps58
        go_wp2
        go_ret
        exact ⟨ret_int (shift_down hn (by omega) (by omega)), rfl⟩

theorem u64_band {m : Int} {k : Nat} (hm : U64 m) (hk : k < 2 ^ 64) : bits .and .u64 m (k : Int) = ((m.toNat &&& k : Nat) : Int) := by
  have h := u64_and m k hm.1 hm.2 (by omega) (by omega)
  simpa using h

set_option maxHeartbeats 400000 in
theorem cut_any (n a s : Int) (w : World) (hn : U64 n) (ha : I64 a) (hs : I64 s) :
    Calls Tryd.prog 55 #[.int .u64 n, .int .i64 a, .int .i64 s] w fun e w' => e = .returned (.int .u64 (Fld.cut n.toNat a s : Nat)) ∧ w = w' := by
  have hc : Hid (Fld.shift (n.toNat &&& Fld.mask a s) (-(max (-64) a)) = Fld.cut n.toNat a s) := Fld.cut_shift hn.lt a s
  have hlt : n.toNat &&& Fld.mask a s < 2 ^ 64 := Nat.and_lt_two_pow _ (Fld.mask_lt _ _)
  have hand : bits .and .u64 n ((Fld.mask a s : Nat) : Int) = ((n.toNat &&& Fld.mask a s : Nat) : Int) := u64_band hn (Fld.mask_lt _ _)
  have ha' := ha
  unfold I64 at ha'
  obtain ⟨ha1, ha2⟩ := ha'
  by_cases h1 : a ≤ -64
  · have hmx : Hid (-(max (-64) a) = 64) := by rw [Hid]; omega
    go_enter Tryd.func55, Tryd.ntmps55
    go_wp2_with fail
    refine (mask_any a s _ ha hs).mono ?_
    rintro e w' ⟨rfl, rfl⟩
    go_wp2_with fail
    refine (shift_any _ (64) _ (U64.nat hlt) (by unfold I64; omega)).mono ?_
    rintro e w' ⟨rfl, rfl⟩
    go_wp2
    go_ret
    refine ⟨ret_int ?_, rfl⟩
    have e1 := hc.out
    rw [hmx.out] at e1
    rw [← e1]
  · have hmx : Hid (-(max (-64) a) = -a) := by rw [Hid]; omega
    go_enter Tryd.func55, Tryd.ntmps55
    go_wp2_with fail
    refine (mask_any a s _ ha hs).mono ?_
    rintro e w' ⟨rfl, rfl⟩
    go_wp2_with fail
    refine (shift_any _ (-a) _ (U64.nat hlt) (by unfold I64; omega)).mono ?_
    rintro e w' ⟨rfl, rfl⟩
    go_wp2
    go_ret
    refine ⟨ret_int ?_, rfl⟩
    have e1 := hc.out
    rw [hmx.out] at e1
    rw [← e1]

theorem or_nat {a b : Nat} (ha : a < 2 ^ 64) (hb : b < 2 ^ 64) : bits .or .u64 (a : Int) (b : Int) = ((a ||| b : Nat) : Int) := u64_or_nat a b ha hb
theorem u64_bnot {m : Int} {k : Nat} (hm : U64 m) (hk : k < 2 ^ 64) : bits .andNot .u64 m (k : Int) = ((m.toNat &&& (18446744073709551615 - k) : Nat) : Int) := by
  have h := u64_andNot m k hm.1 hm.2 (by omega) (by omega)
  simpa using h
theorem u64_bor {m : Int} {k : Nat} (hm : U64 m) (hk : k < 2 ^ 64) : bits .or .u64 m (k : Int) = ((m.toNat ||| k : Nat) : Int) := by
  have h := u64_or m k hm.1 hm.2 (by omega) (by omega)
  simpa using h

set_option maxHeartbeats 400000 in
theorem set_any (n a s m : Int) (w : World) (hn : U64 n) (ha : I64 a) (hs : I64 s) (hm : U64 m) :
    Calls Tryd.prog 31 #[.int .u64 n, .int .i64 a, .int .i64 s, .int .u64 m] w fun e w' => e = .returned (.int .u64 (Fld.set n.toNat a s m.toNat : Nat)) ∧ w = w' := by
  have hc : Hid ((n.toNat &&& (18446744073709551615 - Fld.mask a s)) ||| (Fld.shift m.toNat (max (-64) a) &&& Fld.mask a s) = Fld.set n.toNat a s m.toNat) := Fld.set_shift hm.lt a s
  have hnot : bits .andNot .u64 n ((Fld.mask a s : Nat) : Int) = ((n.toNat &&& (18446744073709551615 - Fld.mask a s) : Nat) : Int) := u64_bnot hn (Fld.mask_lt _ _)
  have hl1 : n.toNat &&& (18446744073709551615 - Fld.mask a s) < 2 ^ 64 := Nat.and_lt_two_pow _ (by omega)
  have hand : ∀ b : Int, bits .and .u64 ((Fld.shift m.toNat b : Nat) : Int) ((Fld.mask a s : Nat) : Int) = ((Fld.shift m.toNat b &&& Fld.mask a s : Nat) : Int) := fun b => u64_and_nat _ _ (Fld.shift_lt hm.lt b) (Fld.mask_lt _ _)
  have hor : ∀ b : Int, bits .or .u64 ((n.toNat &&& (18446744073709551615 - Fld.mask a s) : Nat) : Int) ((Fld.shift m.toNat b &&& Fld.mask a s : Nat) : Int) = (((n.toNat &&& (18446744073709551615 - Fld.mask a s)) ||| (Fld.shift m.toNat b &&& Fld.mask a s) : Nat) : Int) :=
    fun b => u64_or_nat _ _ hl1 (Nat.and_lt_two_pow _ (Fld.mask_lt _ _))
  clear hl1
  have ha' := ha
  unfold I64 at ha'
  obtain ⟨ha1, ha2⟩ := ha'
  by_cases h1 : a ≤ -64
  · have hmx : Hid (max (-64) a = -64) := by rw [Hid]; omega
    go_enter Tryd.func31, Tryd.ntmps31
    go_wp2_with fail
    refine (mask_any a s _ ha hs).mono ?_
    rintro e w' ⟨rfl, rfl⟩
    go_wp2_with fail
    refine (shift_any m (-64) _ hm (by unfold I64; omega)).mono ?_
    rintro e w' ⟨rfl, rfl⟩
    go_wp2
    go_ret
    refine ⟨ret_int ?_, rfl⟩
    have e1 := hc.out
    rw [hmx.out] at e1
    rw [← e1]
  · have hmx : Hid (max (-64) a = a) := by rw [Hid]; omega
    go_enter Tryd.func31, Tryd.ntmps31
    go_wp2_with fail
    refine (mask_any a s _ ha hs).mono ?_
    rintro e w' ⟨rfl, rfl⟩
    go_wp2_with fail
    refine (shift_any m (a) _ hm (by unfold I64; omega)).mono ?_
    rintro e w' ⟨rfl, rfl⟩
    go_wp2
    go_ret
    refine ⟨ret_int ?_, rfl⟩
    have e1 := hc.out
    rw [hmx.out] at e1
    rw [← e1]

/- Threads of levels. -/

def ic (n : Int) : List Value := [.int .i64 n]
theorem ic_len (n : Int) : (ic n).length = 1 := rfl
theorem info_i : (Tryd.prog.info? 3).map (fun i => (i.zero, i.size, i.bytes)) = some (some (.int .i64 0), 1, 8) := by kernel_rfl
theorem elem_i : ∃ i, Elem Tryd.prog 82 3 i (.int .i64 0) 1 8 := Elem.of Tryd.underlying82 info_i rfl (by decide)

/-- The threads below k whose level is as it is asked for. -/
def thr (c : Cf) (p : Int → Bool) : Nat → List Int
  | 0 => []
  | k + 1 => thr c p k ++ (if (decide ((k : Int) < c.th) && p (c.of k)) = true then [(k : Int)] else [])
theorem thr_len (c : Cf) (p : Int → Bool) : ∀ k, (thr c p k).length ≤ k
  | 0 => Nat.le_refl _
  | k + 1 => by
    have := thr_len c p k
    rw [thr, List.length_append]
    split <;> simp <;> omega
theorem thr_past (c : Cf) (p : Int → Bool) {k : Nat} (hk : c.th ≤ (k : Int)) : ∀ j, thr c p (k + j) = thr c p k
  | 0 => rfl
  | j + 1 => by
    rw [show k + (j + 1) = (k + j) + 1 by omega, thr, if_neg (by simp; intro h; omega), List.append_nil, thr_past c p hk j]
theorem thr_congr (c : Cf) {p q : Int → Bool} (h : ∀ k : Nat, k < 8 → p (c.of k) = q (c.of k)) : ∀ k, k ≤ 8 → thr c p k = thr c q k
  | 0, _ => rfl
  | k + 1, hk => by rw [thr, thr, thr_congr c h k (by omega), h k (by omega)]
def atL (c : Cf) (p : Int → Bool) : List Int := if mayB c = true then thr c p 8 else []

set_option maxHeartbeats 1000000 in
theorem upto1_any (l v : Int) (p : Nat) (w : World) (hp : w.cell? ⟨p, 0, none⟩ = some (.int .i64 v)) : Calls Tryd.prog 63 #[.int .i64 l, .pointer (some ⟨p, 0, none⟩)] w fun e w' => e = .returned (.bool (decide (l ≤ v))) ∧ w = w' := by
  go_enter Tryd.func63, Tryd.ntmps63
  go_wp2
  go_ret
  exact ⟨rfl, rfl⟩

set_option maxHeartbeats 4000000 in
set_option maxRecDepth 100000 in
theorem those_upto (c : Cf) (q : Nat) (p : Int → Bool) (w : World)
    (cl : ∀ (x : Int) (w' : World), Below w.heap.size w w' → Calls Tryd.prog 63 #[.int .i64 x, .pointer (some ⟨q, 0, none⟩)] w' fun e w'' => e = .returned (.bool (p x)) ∧ w' = w'') :
    Calls Tryd.prog 62 #[.agg #[.int .i64 c.lv, .int .i64 c.th, .int .i64 c.o0, .int .i64 c.o1, .int .i64 c.o2, .int .i64 c.o3, .int .i64 c.o4, .int .i64 c.o5, .int .i64 c.o6, .int .i64 c.o7, .int .i64 c.sl, .int .i64 c.li, .int .i64 c.ge, .int .i64 c.qu], .func (.func 63) #[] #[.pointer (some ⟨q, 0, none⟩)]] w fun e w' => ∃ A' c', e = .returned (.slice A' (atL c p).length c') ∧ w'.ownsRow w.heap.size 3 1 (.slice A' (atL c p).length c') (atL c p).length ((atL c p).flatMap ic) ∧ Below w.heap.size w w' := by
  obtain ⟨i0, E⟩ := elem_i
  have hmay := may_any c
  by_cases h : mayB c = true
  · have m : c.May := of_decide_eq_true h
    have l1 := m.t1
    have l2 := m.t2
    have hE : Hid (atL c p = thr c p 8) := if_pos h
    rw [h] at hmay
    clear h m
    go_enter Tryd.func62, Tryd.ntmps62
    go_wp2_with fail
    obtain ⟨W0, hW0, k0, k1, k2, k3, k4, k5, k6, k7, k8, k9, k10, k11, k12, k13, kof, kb⟩ : ∃ W0, w.alloc (.cells #[.int .i64 c.lv, .int .i64 c.th, .int .i64 c.o0, .int .i64 c.o1, .int .i64 c.o2, .int .i64 c.o3, .int .i64 c.o4, .int .i64 c.o5, .int .i64 c.o6, .int .i64 c.o7, .int .i64 c.sl, .int .i64 c.li, .int .i64 c.ge, .int .i64 c.qu] 24) = W0 ∧ W0.cell? ⟨w.heap.size, 0, none⟩ = some (.int .i64 c.lv) ∧ W0.cell? ⟨w.heap.size, 1, none⟩ = some (.int .i64 c.th) ∧ W0.cell? ⟨w.heap.size, 2, none⟩ = some (.int .i64 c.o0) ∧ W0.cell? ⟨w.heap.size, 3, none⟩ = some (.int .i64 c.o1) ∧ W0.cell? ⟨w.heap.size, 4, none⟩ = some (.int .i64 c.o2) ∧ W0.cell? ⟨w.heap.size, 5, none⟩ = some (.int .i64 c.o3) ∧ W0.cell? ⟨w.heap.size, 6, none⟩ = some (.int .i64 c.o4) ∧ W0.cell? ⟨w.heap.size, 7, none⟩ = some (.int .i64 c.o5) ∧ W0.cell? ⟨w.heap.size, 8, none⟩ = some (.int .i64 c.o6) ∧ W0.cell? ⟨w.heap.size, 9, none⟩ = some (.int .i64 c.o7) ∧ W0.cell? ⟨w.heap.size, 10, none⟩ = some (.int .i64 c.sl) ∧ W0.cell? ⟨w.heap.size, 11, none⟩ = some (.int .i64 c.li) ∧ W0.cell? ⟨w.heap.size, 12, none⟩ = some (.int .i64 c.ge) ∧ W0.cell? ⟨w.heap.size, 13, none⟩ = some (.int .i64 c.qu) ∧ (∀ k : Nat, k < 8 → W0.cell? ⟨w.heap.size, 2 + k, none⟩ = some (.int .i64 (c.of k))) ∧ Below w.heap.size w W0 :=
      ⟨_, rfl, by go_simp, by go_simp, by go_simp, by go_simp, by go_simp, by go_simp, by go_simp, by go_simp, by go_simp, by go_simp, by go_simp, by go_simp, by go_simp, by go_simp, box_of c w, bnew (brefl w) _⟩
    rw [hW0]
    clear hW0
    go_wp2_with (go_at_call 21; refine (hmay _).mono ?_; rintro e w1 ⟨rfl, hb1⟩; have q1 := keep_below k1 hb1)
    have qof : ∀ k : Nat, k < 8 → w1.cell? ⟨w.heap.size, 2 + k, none⟩ = some (.int .i64 (c.of k)) := fun k hk => keep_below (kof k hk) hb1
    have hbw := bnext kb hb1
    clear k0 k1 k2 k3 k4 k5 k6 k7 k8 k9 k10 k11 k12 k13 kof hmay
    go_loopg [5, 12] c.th.toNat (fun gk out i wr => ∃ (k m : Nat) (A' : Option Addr) (c' : Nat), k + gk = c.th.toNat ∧ i = .int .i64 k ∧ out = .slice A' m c' ∧ Hid (m = (thr c p k).length) ∧ wr.ownsRow w1.heap.size 3 1 (.slice A' m c') m ((thr c p k).flatMap ic) ∧ Below w1.heap.size w1 wr)
    case atStart => exact ⟨0, 0, none, 0, by omega, rfl, rfl, rfl, World.ownsRow_nil _ _ _ _, brefl w1⟩
    case round =>
      obtain ⟨k, m, A', c', hk, rfl, rfl, hm, own, hbr⟩ := hrel
      by_cases hlt : k < c.th.toNat
      · have b0 : (0 : Int) ≤ (k : Int) := by omega
        have b1 : (k : Int) < c.th := by omega
        have b2 : (k : Int) < 8 := by omega
        have ck := keep_below (qof k (by omega)) hbr
        have hcl := fun w' (hb : Below w1.heap.size w1 w') => cl (c.of k) w' (bnext hbw hb)
        have hm1 : m ≤ k := by have := hm.out; have := thr_len c p k; omega
        have HS : Hid (thr c p (k + 1) = thr c p k ++ (if p (c.of k) = true then [(k : Int)] else [])) := by
          rw [Hid, thr, decide_eq_true b1, Bool.true_and]
        clear qof cl
        generalize c.of k = v at *
        cases hf : p v with
        | false =>
          rw [hf] at hcl
          go_wp2_with (go_at_call 63; refine (hcl _ hbr).mono ?_; rintro e w2 ⟨rfl, rfl⟩)
          go_roundg (gk - 1)
          case measure => omega
          case rel =>
            refine ⟨k + 1, m, A', c', by omega, by go_num, rfl, ?_, ?_, hbr⟩
            · rw [Hid, HS.out, hf, hm.out]; simp
            · rw [HS.out, hf]
              simp only [Bool.false_eq_true, if_false, List.append_nil]
              exact own
        | true =>
          rw [hf] at hcl
          go_wp2_with (first | (go_at_call 63; refine (hcl _ hbr).mono ?_; rintro e w2 ⟨rfl, rfl⟩) | (at_builtin; refine wpList_onto (W0 := w1) (ys := [.int .i64 (k : Int)]) (m := 1) E rfl (.tmp 21) (.tmp 23) rfl (bnew hbr _) rfl (own.alloc _) rfl rfl (Rd.new _ _ _ rfl) (by simp [Value.oneCell']) (by unfold maxLen; omega) (by omega) ?_; intro A8 c8 w8 own8 hb8 _))
          go_roundg (gk - 1)
          case measure => omega
          case rel =>
            refine ⟨k + 1, m + 1, A8, c8, by omega, by go_num, rfl, ?_, ?_, hb8⟩
            · rw [Hid, HS.out, hf, hm.out]; simp
            · rw [HS.out, hf, if_pos rfl, List.flatMap_append]
              exact own8
      · have hge : ¬ ((k : Int) < c.th) := by omega
        have hL : Hid (thr c p k = atL c p) := by
          rw [Hid, hE.out, show (8 : Nat) = k + (8 - k) by omega, thr_past c p (by omega)]
        rw [hL.out] at hm own
        have hm' := hm.out
        subst hm'
        clear qof cl
        go_wp2
        go_ret
        exact ⟨A', c', rfl, own_base own hbw.size, bnext hbw hbr⟩
  · have h' : mayB c = false := by simpa using h
    have hE : Hid (atL c p = []) := if_neg h
    rw [h'] at hmay
    clear h h'
    go_enter Tryd.func62, Tryd.ntmps62
    go_wp2_with fail
    obtain ⟨W0, hW0, k0, k1, k2, k3, k4, k5, k6, k7, k8, k9, k10, k11, k12, k13, kof, kb⟩ : ∃ W0, w.alloc (.cells #[.int .i64 c.lv, .int .i64 c.th, .int .i64 c.o0, .int .i64 c.o1, .int .i64 c.o2, .int .i64 c.o3, .int .i64 c.o4, .int .i64 c.o5, .int .i64 c.o6, .int .i64 c.o7, .int .i64 c.sl, .int .i64 c.li, .int .i64 c.ge, .int .i64 c.qu] 24) = W0 ∧ W0.cell? ⟨w.heap.size, 0, none⟩ = some (.int .i64 c.lv) ∧ W0.cell? ⟨w.heap.size, 1, none⟩ = some (.int .i64 c.th) ∧ W0.cell? ⟨w.heap.size, 2, none⟩ = some (.int .i64 c.o0) ∧ W0.cell? ⟨w.heap.size, 3, none⟩ = some (.int .i64 c.o1) ∧ W0.cell? ⟨w.heap.size, 4, none⟩ = some (.int .i64 c.o2) ∧ W0.cell? ⟨w.heap.size, 5, none⟩ = some (.int .i64 c.o3) ∧ W0.cell? ⟨w.heap.size, 6, none⟩ = some (.int .i64 c.o4) ∧ W0.cell? ⟨w.heap.size, 7, none⟩ = some (.int .i64 c.o5) ∧ W0.cell? ⟨w.heap.size, 8, none⟩ = some (.int .i64 c.o6) ∧ W0.cell? ⟨w.heap.size, 9, none⟩ = some (.int .i64 c.o7) ∧ W0.cell? ⟨w.heap.size, 10, none⟩ = some (.int .i64 c.sl) ∧ W0.cell? ⟨w.heap.size, 11, none⟩ = some (.int .i64 c.li) ∧ W0.cell? ⟨w.heap.size, 12, none⟩ = some (.int .i64 c.ge) ∧ W0.cell? ⟨w.heap.size, 13, none⟩ = some (.int .i64 c.qu) ∧ (∀ k : Nat, k < 8 → W0.cell? ⟨w.heap.size, 2 + k, none⟩ = some (.int .i64 (c.of k))) ∧ Below w.heap.size w W0 :=
      ⟨_, rfl, by go_simp, by go_simp, by go_simp, by go_simp, by go_simp, by go_simp, by go_simp, by go_simp, by go_simp, by go_simp, by go_simp, by go_simp, by go_simp, by go_simp, box_of c w, bnew (brefl w) _⟩
    rw [hW0]
    clear hW0
    go_wp2_with (go_at_call 21; refine (hmay _).mono ?_; rintro e w1 ⟨rfl, hb1⟩)
    go_ret
    rw [hE.out]
    exact ⟨none, 0, rfl, World.ownsRow_nil _ _ _ _, bnext kb hb1⟩

set_option maxHeartbeats 2000000 in
set_option maxRecDepth 100000 in
theorem upto_any (c : Cf) (l : Int) (w : World) : Calls Tryd.prog 41 #[.agg #[.int .i64 c.lv, .int .i64 c.th, .int .i64 c.o0, .int .i64 c.o1, .int .i64 c.o2, .int .i64 c.o3, .int .i64 c.o4, .int .i64 c.o5, .int .i64 c.o6, .int .i64 c.o7, .int .i64 c.sl, .int .i64 c.li, .int .i64 c.ge, .int .i64 c.qu], .int .i64 l] w fun e w' => ∃ A' c', e = .returned (.slice A' (atL c (fun x => decide (x ≤ l))).length c') ∧ w'.ownsRow w.heap.size 3 1 (.slice A' (atL c (fun x => decide (x ≤ l))).length c') (atL c (fun x => decide (x ≤ l))).length ((atL c (fun x => decide (x ≤ l))).flatMap ic) ∧ Below w.heap.size w w' := by
  have hmf : ∀ (fn : Fn) (first cap : Array Value) (w : World), (Instr.makeFunc fn first cap).run Tryd.prog w = .ok (.func fn first cap) w := fun _ _ _ _ => rfl
  go_enter Tryd.func41, Tryd.ntmps41
  go_wp2_with fail
  obtain ⟨W1, hW1, kl, kb⟩ : ∃ W1, (w.alloc (.cells #[.int .i64 c.lv, .int .i64 c.th, .int .i64 c.o0, .int .i64 c.o1, .int .i64 c.o2, .int .i64 c.o3, .int .i64 c.o4, .int .i64 c.o5, .int .i64 c.o6, .int .i64 c.o7, .int .i64 c.sl, .int .i64 c.li, .int .i64 c.ge, .int .i64 c.qu] 24)).alloc (.cells #[.int .i64 l] 3) = W1 ∧ W1.cell? ⟨w.heap.size + 1, 0, none⟩ = some (.int .i64 l) ∧ Below w.heap.size w W1 :=
    ⟨_, rfl, by go_simp, bnew (bnew (brefl w) _) _⟩
  rw [hW1]
  clear hW1
  refine (those_upto c (w.heap.size + 1) (fun x => decide (x ≤ l)) W1 fun x w' hb => upto1_any x l _ w' (keep_below kl hb)).mono ?_
  rintro e w1 ⟨A', c', rfl, own, hb⟩
  go_wp2
  go_ret
  exact ⟨A', c', rfl, own_base own kb.size, bnext kb hb⟩

/- Scripts in memory; what is above a level. -/

/-- A script's cells. -/
def scc (c : Cf) (us : List Value) (ev : Value) : List Value := cfc c ++ (us ++ [ev])
theorem scc_len {c : Cf} {us : List Value} {ev : Value} (h : us.length = 8) : (scc c us ev).length = 23 := by
  unfold scc
  rw [List.length_append, List.length_append, cfc_len, h]
  rfl
theorem scc_get {c : Cf} {us : List Value} {ev : Value} {k : Nat} {v : Value} (h : us[k]? = some v) : (scc c us ev)[14 + k]? = some v := by
  unfold scc
  rw [List.getElem?_append_right (by rw [cfc_len]; omega), cfc_len, Nat.add_sub_cancel_left, List.getElem?_append_left (List.getElem?_eq_some_iff.1 h).1]
  exact h
theorem scc_last {c : Cf} {us : List Value} {ev : Value} (h : us.length = 8) : (scc c us ev)[22]? = some ev := by
  unfold scc
  rw [List.getElem?_append_right (by rw [cfc_len]; omega), cfc_len, List.getElem?_append_right (by omega), h]
  rfl
theorem scc_conf (c : Cf) (us : List Value) (ev : Value) : ((scc c us ev).drop 0).take (cfc c).length = cfc c := by
  unfold scc
  rw [List.drop_zero]
  exact List.take_left
theorem scc_ps {c : Cf} {us : List Value} {ev : Value} : ((scc c us ev).drop 14).take us.length = us := by
  unfold scc
  rw [List.drop_append_of_le_length (by rw [cfc_len]; omega), List.drop_eq_nil_of_le (by rw [cfc_len]; omega), List.nil_append]
  exact List.take_left
theorem scc_set {c : Cf} {us : List Value} {ev : Value} {k : Nat} (hk : k < us.length) (v : Value) : (scc c us ev).set (14 + k) v = scc c (us.set k v) ev := by
  unfold scc
  rw [List.set_append_right _ _ (by rw [cfc_len]; omega), cfc_len, Nat.add_sub_cancel_left, List.set_append_left _ _ hk]
theorem scc_setl {c : Cf} {us : List Value} {ev : Value} (h : us.length = 8) (v : Value) : (scc c us ev).set 22 v = scc c us v := by
  unfold scc
  rw [List.set_append_right _ _ (by rw [cfc_len]; omega), cfc_len, List.set_append_right _ _ (by omega), h]
  rfl
theorem info_scc {c : Cf} {us : List Value} {ev : Value} (h : us.length = 8) : (Tryd.prog.info? 29).map (·.size) = some (scc c us ev).toArray.size := by rw [List.size_toArray, scc_len h]; kernel_rfl
def cf0 : Cf := ⟨0, 0, 0, 0, 0, 0, 0, 0, 0, 0, 0, 0, 0, 0⟩
def nil8 : List Value := [.slice none 0 0, .slice none 0 0, .slice none 0 0, .slice none 0 0, .slice none 0 0, .slice none 0 0, .slice none 0 0, .slice none 0 0]
/-- Eight slices that read as the programs ps; none lies in a block of S. -/
structure PIn (S : Nat → Prop) (w : World) (us : List Value) (ps : List (List CV)) : Prop where
  u8 : us.length = 8
  p8 : ps.length = 8
  at_ : ∀ (j : Nat) (l : List CV), ps[j]? = some l → ∃ (A : Option Addr) (n c : Nat), us[j]? = some (Value.slice A n c) ∧ Sl cvc w A n c l ∧ ∀ ad, A = some ad → l ≠ [] → ¬ S ad.block
theorem PIn.keeps {S : Nat → Prop} {w w' : World} {us : List Value} {ps : List (List CV)} (h : PIn S w us ps) (hk : Keeps S w w') : PIn S w' us ps :=
  ⟨h.u8, h.p8, fun j l hl => by
    obtain ⟨A, n, c, h1, h2, h3⟩ := h.at_ j l hl
    by_cases he : l = []
    · subst he
      exact ⟨A, n, c, h1, ⟨h2.len, h2.cap, Rd.nil _ _, h2.nil_⟩, h3⟩
    · exact ⟨A, n, c, h1, hk.sl h2 (fun ad e => h3 ad e he), h3⟩⟩
/-- What was there lies in none of the blocks to come. -/
theorem PIn.old {S : Nat → Prop} {w : World} {us : List Value} {ps : List (List CV)} (h : PIn S w us ps) : PIn (fun b => w.heap.size ≤ b) w us ps :=
  ⟨h.u8, h.p8, fun j l hl => by
    obtain ⟨A, n, c, h1, h2, h3⟩ := h.at_ j l hl
    refine ⟨A, n, c, h1, h2, fun ad e hne q => ?_⟩
    have := h2.rd.lt (by
      intro q
      have := congrArg List.length q
      rw [flat_len cvc_len] at this
      simp at this
      exact hne (List.eq_nil_of_length_eq_zero (by omega))) ad e
    omega⟩
theorem PIn.below {S : Nat → Prop} {w w' : World} {us : List Value} {ps : List (List CV)} (h : PIn S w us ps) (hb : Below w.heap.size w w') : PIn S w' us ps := h.keeps (Keeps.of_below hb)
theorem PIn.weak {S S' : Nat → Prop} {w : World} {us : List Value} {ps : List (List CV)} (h : PIn S w us ps) (hS : ∀ b, S' b → S b) : PIn S' w us ps :=
  ⟨h.u8, h.p8, fun j l hl => by
    obtain ⟨A, n, c, h1, h2, h3⟩ := h.at_ j l hl
    exact ⟨A, n, c, h1, h2, fun ad e hne q => h3 ad e hne (hS _ q)⟩⟩
end Go.Proofs.YtknngjdcbldmgaaDoor
