/- The law CellsHold. -/
import Derived.Test.YtkfdikbmcleaoaaCellsG
namespace Go.Proofs.Ytkfdikbmcleaoaa
set_option linter.unusedVariables false
set_option linter.unusedSimpArgs false
open Go.RowKit

def nx64 (x : Int) : Int := (x + 1) % 18446744073709551616
theorem nx64_wrap (x : Int) : IntKind.u64.wrap (x + 1) = nx64 x := by rw [IntKind.wrap_u64]; rfl
theorem nx64_ne {x : Int} (h0 : 0 ≤ x) (h1 : x < 18446744073709551616) : x ≠ nx64 x := by unfold nx64; omega
theorem set_at {l : List Int} {k : Nat} (h : k < l.length) (x : Int) : (l.set k x)[k]? = some x := by simp [h]

set_option maxHeartbeats 4000000 in
set_option maxRecDepth 100000 in
theorem hold_long {w : World} {A : Option Addr} {n c : Nat} {l : List Int} (hs : Sl us w A n c l) (a0 a1 x : Int) (h : 500 < n) (hn : n ≤ 9223372036854775807) :
    Calls Try.prog 3 #[.slice A n c, .agg #[.int .i64 a0, .int .i64 a1], .int .u64 x] w fun e w' => e = .returned (.bool true) ∧ Below w.heap.size w w' := by
  have t : (500 : Int) < (n : Int) := by omega
  clear hs
  go_enter Try.func3, Try.ntmps3
  go_wp2_with fail
  refine (lives06 _).mono ?_
  rintro e w9 ⟨rfl, hb9⟩
  go_wp2
  go_ret
  exact ⟨rfl, bnext (bnew (brefl w) _) hb9⟩

set_option maxHeartbeats 4000000 in
set_option maxRecDepth 100000 in
theorem hold_none {w : World} {A : Option Addr} {n c : Nat} {l : List Int} (hs : Sl us w A n c l) (a0 a1 x : Int) (h : n = 0) :
    Calls Try.prog 3 #[.slice A n c, .agg #[.int .i64 a0, .int .i64 a1], .int .u64 x] w fun e w' => e = .returned (.bool true) ∧ Below w.heap.size w w' := by
  subst h
  have hof := of_no (A := A) (c := c) (n := 0) (by decide) (by decide)
  clear hs
  go_enter Try.func3, Try.ntmps3
  go_wp2_with fail
  refine (hof _).mono ?_
  rintro e w1 ⟨rfl, rfl⟩
  go_wp2_with fail
  refine (lives06 _).mono ?_
  rintro e w9 ⟨rfl, hb9⟩
  go_wp2
  go_ret
  exact ⟨rfl, bnext (bnew (brefl w) _) hb9⟩

set_option maxHeartbeats 4000000 in
set_option maxRecDepth 100000 in
theorem hold_neg {w : World} {A : Option Addr} {n c : Nat} {l : List Int} (hs : Sl us w A n c l) (a0 a1 x : Int) (h1 : 1 ≤ n) (h : n ≤ 500) (ha : a0 < 0) :
    Calls Try.prog 3 #[.slice A n c, .agg #[.int .i64 a0, .int .i64 a1], .int .u64 x] w fun e w' => e = .returned (.bool true) ∧ Below w.heap.size w w' := by
  have t : decide ((500 : Int) < (n : Int)) = false := decide_eq_false (by omega)
  go_enter Try.func3, Try.ntmps3
  go_wp2_with fail
  obtain ⟨W0, hW0, z0, z1, hs0, kb⟩ : ∃ W0, w.alloc (.cells #[.int .i64 a0, .int .i64 a1] 23) = W0 ∧ W0.cell? ⟨w.heap.size, 0, none⟩ = some (.int .i64 a0) ∧ W0.cell? ⟨w.heap.size, 1, none⟩ = some (.int .i64 a1) ∧ Sl us W0 A n c l ∧ Below w.heap.size w W0 :=
    ⟨_, rfl, by go_simp, by go_simp, hs.alloc _, bnew (brefl w) _⟩
  rw [hW0]
  clear hW0
  have hz := block_lt_of_cell z0
  refine (of_yes hs0 h1 (by omega)).mono ?_
  rintro e w1 ⟨p, g, rfl, hm, hp, hg, hb1⟩
  have z0 := keep_below z0 hb1
  have hz1 := block_lt_of_cell z0
  have kb1 := bnext kb hb1
  clear hs hs0 hm hb1 kb hz
  go_wp2_with fail
  refine (lives06 _).mono ?_
  rintro e w9 ⟨rfl, hb9⟩
  go_wp2
  go_ret
  exact ⟨rfl, bnext kb1 hb9⟩

set_option maxHeartbeats 4000000 in
set_option maxRecDepth 100000 in
theorem hold_big {w : World} {A : Option Addr} {n c : Nat} {l : List Int} (hs : Sl us w A n c l) (a0 a1 x : Int) (h1 : 1 ≤ n) (h : n ≤ 500) (ha0 : 0 ≤ a0) (ha : (n : Int) ≤ a0) :
    Calls Try.prog 3 #[.slice A n c, .agg #[.int .i64 a0, .int .i64 a1], .int .u64 x] w fun e w' => e = .returned (.bool true) ∧ Below w.heap.size w w' := by
  have t : decide ((500 : Int) < (n : Int)) = false := decide_eq_false (by omega)
  have t3 : decide (a0 < 0) = false := decide_eq_false (by omega)
  go_enter Try.func3, Try.ntmps3
  go_wp2_with fail
  obtain ⟨W0, hW0, z0, z1, hs0, kb⟩ : ∃ W0, w.alloc (.cells #[.int .i64 a0, .int .i64 a1] 23) = W0 ∧ W0.cell? ⟨w.heap.size, 0, none⟩ = some (.int .i64 a0) ∧ W0.cell? ⟨w.heap.size, 1, none⟩ = some (.int .i64 a1) ∧ Sl us W0 A n c l ∧ Below w.heap.size w W0 :=
    ⟨_, rfl, by go_simp, by go_simp, hs.alloc _, bnew (brefl w) _⟩
  rw [hW0]
  clear hW0
  have hz := block_lt_of_cell z0
  refine (of_yes hs0 h1 (by omega)).mono ?_
  rintro e w1 ⟨p, g, rfl, hm, hp, hg, hb1⟩
  have z0 := keep_below z0 hb1
  have hz1 := block_lt_of_cell z0
  have kb1 := bnext kb hb1
  clear hs hs0 hm hb1 kb hz
  go_wp2_with fail
  refine (lives06 _).mono ?_
  rintro e w9 ⟨rfl, hb9⟩
  go_wp2
  go_ret
  exact ⟨rfl, bnext kb1 hb9⟩

/-- A world that differs from W in the blocks p and g alone, of what was there. -/
structure ExtS (p g : Nat) (W : World) where
  w : World
  k : Keeps (SS p g) W w
instance instNonemptyExtS (p g : Nat) (W : World) : Nonempty (ExtS p g W) := ⟨⟨W, Keeps.refl _ W⟩⟩
theorem ExtS.cell {p g : Nat} {W : World} (x : ExtS p g W) (b o : Nat) (h : b < W.heap.size) (h1 : b ≠ p) (h2 : b ≠ g) : x.w.cell? ⟨b, o, none⟩ = W.cell? ⟨b, o, none⟩ := World.cell?_of_block (w := W) (x.k.block b h (fun q => by rcases q with q | q <;> omega))
theorem exts_mem {p g : Nat} {W w' : World} (h : Keeps (SS p g) W w') : ∃ x : ExtS p g W, w' = x.w := ⟨⟨w', h⟩, rfl⟩

set_option maxHeartbeats 4000000 in
set_option maxRecDepth 100000 in
theorem hold_i {w : World} {A : Option Addr} {n c : Nat} {l : List Int} (hs : Sl us w A n c l) (a0 a1 x : Int) (hx0 : 0 ≤ x) (hx1 : x < 18446744073709551616) (h1 : 1 ≤ n) (h : n ≤ 500) (ha : 0 ≤ a0) (hb : a0 < (n : Int)) (hj : a1 < 0) :
    Calls Try.prog 3 #[.slice A n c, .agg #[.int .i64 a0, .int .i64 a1], .int .u64 x] w fun e w' => e = .returned (.bool true) ∧ Below w.heap.size w w' := by
  have t : decide ((500 : Int) < (n : Int)) = false := decide_eq_false (by omega)
  have t3 : decide (a0 < 0) = false := decide_eq_false (by omega)
  have t4 : decide ((n : Int) ≤ a0) = false := decide_eq_false (by omega)
  have v1 : decide (0 ≤ a1) = false := decide_eq_false (by omega)
  have hup := nx64_wrap x
  have hnx := nx64_ne hx0 hx1
  generalize nx64 x = y at *
  have u1 : (x != x) = false := by simp
  have u2 : (y != y) = false := by simp
  have hlen : l.length = n := hs.len
  have HLEN := Lib.hid hlen
  have hlt : a0.toNat < l.length := by omega
  have hl5 : l.length ≤ 500 := by omega
  clear hlen
  go_enter Try.func3, Try.ntmps3
  go_wp2_with fail
  obtain ⟨W0, hW0, z0, z1, hs0, kb⟩ : ∃ W0, w.alloc (.cells #[.int .i64 a0, .int .i64 a1] 23) = W0 ∧ W0.cell? ⟨w.heap.size, 0, none⟩ = some (.int .i64 a0) ∧ W0.cell? ⟨w.heap.size, 1, none⟩ = some (.int .i64 a1) ∧ Sl us W0 A n c l ∧ Below w.heap.size w W0 :=
    ⟨_, rfl, by go_simp, by go_simp, hs.alloc _, bnew (brefl w) _⟩
  rw [hW0]
  clear hW0
  have hz0 := block_lt_of_cell z0
  refine (of_yes hs0 h1 (by omega)).mono ?_
  rintro e w1 ⟨p, g, rfl, hm1, hp, hg, hb1⟩
  have z0 := keep_below z0 hb1
  have z1 := keep_below z1 hb1
  have hs1 := hs0.below hb1
  have kb1 := bnext kb hb1
  have hz1 := block_lt_of_cell z0
  have hpp : w.heap.size < p := by simp at hz0; omega
  have hgg : w.heap.size < g := by simp at hz0; omega
  have nz : ¬ SS p g w.heap.size := by intro h; rcases h with h | h <;> omega
  have hAl := hs.lt_ h1
  have nA : ∀ ad, A = some ad → ¬ SS p g ad.block := fun ad e h => by have := hAl ad e; rcases h with h | h <;> omega
  have hS : ∀ b, SS p g b → b < w.heap.size → w.heap.size ≤ b := fun b h _ => by rcases h with h | h <;> omega
  have hS' : ∀ v : World, ∀ b, SS p g b → b < v.heap.size → w.heap.size ≤ b := fun v b h _ => by rcases h with h | h <;> omega
  clear hs hb1 kb hp hg hAl hS
  obtain ⟨m1, hM1⟩ : ∃ m1, mem0 l = m1 := ⟨_, rfl⟩
  have e1 : m1.ws = l ∧ m1.ac = 0 ∧ m1.wr = 0 ∧ m1.ft = false := by subst hM1; exact ⟨rfl, rfl, rfl, rfl⟩
  rw [hM1] at hm1
  clear hM1
  have hst := store_in hm1 (by rw [e1.1]; omega) (by rw [e1.2.1]; decide) (by rw [e1.2.1]; decide) (by rw [e1.2.2.1]; decide) (by rw [e1.2.2.1]; decide) a0 x (by omega) (by rw [e1.1]; omega)
  have e2 : ((m1.hit a0).put a0.toNat x).ws = l.set a0.toNat x ∧ ((m1.hit a0).put a0.toNat x).ac = 1 ∧ ((m1.hit a0).put a0.toNat x).wr = 1 ∧ ((m1.hit a0).put a0.toNat x).ft = false := by
    simp [Mem.put, Mem.hit, e1]
  generalize (m1.hit a0).put a0.toNat x = m2 at *
  have E1 := Lib.hid e1
  have E2 := Lib.hid e2
  clear e1 e2 E1
  go_wp2_with fail
  refine (hst).mono ?_
  rintro e w2 ⟨rfl, hm2, hk2⟩
  have z0 := hk2.cell z0 nz
  have z1 := hk2.cell z1 nz
  have hs2 := hk2.sl hs1 nA
  have kb2 := hk2.below kb1 kb1.size (hS' w1)
  have hz2 := block_lt_of_cell z0
  clear hm1 hs1 kb1 hz1 hst hk2
  have hst := load_in hm2 (by rw [E2.out.1]; simp; omega) (by rw [E2.out.2.1]; decide) (by rw [E2.out.2.1]; decide) (by rw [E2.out.2.2.1]; decide) (by rw [E2.out.2.2.1]; decide) a0 (by omega) (x := x) (by rw [E2.out.1]; exact set_at hlt x)
  have e3 : (m2.hit a0).ws = m2.ws ∧ (m2.hit a0).ac = 2 ∧ (m2.hit a0).wr = m2.wr ∧ (m2.hit a0).ft = m2.ft := by
    have := E2.out
    simp [Mem.hit, this.2.1]
  rw [E2.out.1, E2.out.2.2.1, E2.out.2.2.2] at e3
  generalize m2.hit a0 = m3 at *
  have E3 := Lib.hid e3
  clear e3
  go_wp2_with fail
  refine (hst).mono ?_
  rintro e w3 ⟨rfl, hm3, hk3⟩
  have z0 := hk3.cell z0 nz
  have z1 := hk3.cell z1 nz
  have hs3 := hk3.sl hs2 nA
  have kb3 := hk3.below kb2 kb2.size (hS' w2)
  have hz3 := block_lt_of_cell z0
  clear hm2 hs2 kb2 hz2 hst hk3
  have hst := cas_no hm3 (by rw [E3.out.1]; simp; omega) (by rw [E3.out.2.1]; decide) (by rw [E3.out.2.1]; decide) (by rw [E3.out.2.2.1]; decide) (by rw [E3.out.2.2.1]; decide) a0 y 5 (by omega) (x := x) (by rw [E3.out.1]; exact set_at hlt x) hnx
  have e4 : (m3.hit a0).ws = m3.ws ∧ (m3.hit a0).ac = 3 ∧ (m3.hit a0).wr = m3.wr ∧ (m3.hit a0).ft = m3.ft := by
    have := E3.out
    simp [Mem.hit, this.2.1]
  rw [E3.out.1, E3.out.2.2.1, E3.out.2.2.2] at e4
  generalize m3.hit a0 = m4 at *
  have E4 := Lib.hid e4
  clear e4
  go_wp2_with fail
  refine (hst).mono ?_
  rintro e w4 ⟨rfl, hm4, hk4⟩
  have z0 := hk4.cell z0 nz
  have z1 := hk4.cell z1 nz
  have hs4 := hk4.sl hs3 nA
  have kb4 := hk4.below kb3 kb3.size (hS' w3)
  have hz4 := block_lt_of_cell z0
  clear hm3 hs3 kb3 hz3 hst hk4
  have hst := cas_yes hm4 (by rw [E4.out.1]; simp; omega) (by rw [E4.out.2.1]; decide) (by rw [E4.out.2.1]; decide) (by rw [E4.out.2.2.1]; decide) (by rw [E4.out.2.2.1]; decide) a0 x y (by omega) (by rw [E4.out.1]; exact set_at hlt x)
  have e5 : ((m4.hit a0).put a0.toNat y).ws = (l.set a0.toNat x).set a0.toNat y ∧ ((m4.hit a0).put a0.toNat y).ac = 4 ∧ ((m4.hit a0).put a0.toNat y).wr = 2 ∧ ((m4.hit a0).put a0.toNat y).ft = false := by
    have := E4.out
    simp [Mem.put, Mem.hit, this]
  generalize (m4.hit a0).put a0.toNat y = m5 at *
  have E5 := Lib.hid e5
  clear e5
  go_wp2_with fail
  refine (hst).mono ?_
  rintro e w5 ⟨rfl, hm5, hk5⟩
  have z0 := hk5.cell z0 nz
  have z1 := hk5.cell z1 nz
  have hs5 := hk5.sl hs4 nA
  have kb5 := hk5.below kb4 kb4.size (hS' w4)
  have hz5 := block_lt_of_cell z0
  clear hm4 hs4 kb4 hz4 hst hk5
  have hst := load_in hm5 (by rw [E5.out.1]; simp; omega) (by rw [E5.out.2.1]; decide) (by rw [E5.out.2.1]; decide) (by rw [E5.out.2.2.1]; decide) (by rw [E5.out.2.2.1]; decide) a0 (by omega) (x := y) (by rw [E5.out.1]; exact set_at (by simpa using hlt) y)
  have e6 : (m5.hit a0).ws = m5.ws ∧ (m5.hit a0).ac = 5 ∧ (m5.hit a0).wr = m5.wr ∧ (m5.hit a0).ft = m5.ft := by
    have := E5.out
    simp [Mem.hit, this.2.1]
  rw [E5.out.1, E5.out.2.2.1, E5.out.2.2.2] at e6
  generalize m5.hit a0 = m6 at *
  have E6 := Lib.hid e6
  clear e6
  go_wp2_with fail
  refine (hst).mono ?_
  rintro e w6 ⟨rfl, hm6, hk6⟩
  have z0 := hk6.cell z0 nz
  have z1 := hk6.cell z1 nz
  have hs6 := hk6.sl hs5 nA
  have kb6 := hk6.below kb5 kb5.size (hS' w5)
  have hz6 := block_lt_of_cell z0
  clear hm5 hs5 kb5 hz5 hst hk6
  go_upto_region 9 with (fail)
  have hX := @Ext.cell w6
  have hzz0 := block_lt_of_cell z0
  refine wp_region_noPanic ?_
  refine wp_region_tree (fun w' => ∃ x : Ext w6, w' = x.w) (PT.one [0, 1, 2, 3, 4, 5, 6, 7, 8, 9, 10, 11, 12, 13, 14, 15, 16, 17, 18, 19, 20, 22, 23, 24, 25, 26] 21 (PT.fin [27, 28])) (by kernel_rfl) (by kernel_rfl) (by kernel_rfl) (fun _ _ _ _ _ h => h) ⟨⟨_, (brefl w6).drew⟩, rfl⟩ ?_
  refine wpTree_one ?_
  simp only [pickOps, List.getElem?_cons_succ, List.getElem?_cons_zero, Option.elim_some]
  repeat (go_big_quiet_step (fail))
  refine wpQuiet_nil ?_
  refine planAct_some (fun K hK => ?_)
  go_simp
  refine hK.out _ _ (ext_mem (brefl w6).drew) ?_
  clear hK K
  refine wpTree_fin ?_
  simp only [pickOps, List.getElem?_cons_succ, List.getElem?_cons_zero, Option.elim_some]
  repeat (go_big_quiet_step (fail))
  refine wpQuiet_nil ?_
  refine NoPanic.normal ?_
  clear hX hzz0
  have hm7 := hm6.drew
  have kb7 := kb6.drew
  have hfa := fault_any hm7
  have hwr := writes_any hm7
  rw [E6.out.2.2.2] at hfa
  rw [E6.out.2.2.1] at hwr
  go_wp2_with fail
  refine hfa.mono ?_
  rintro e w8 ⟨rfl, rfl⟩
  go_wp2_with fail
  refine hwr.mono ?_
  rintro e w8 ⟨rfl, rfl⟩
  go_wp2_with fail
  refine (lives06 _).mono ?_
  rintro e w9 ⟨rfl, hb9⟩
  go_wp2
  go_ret
  exact ⟨rfl, bnext kb7 hb9⟩

set_option maxHeartbeats 4000000 in
set_option maxRecDepth 100000 in
theorem hold_ii {w : World} {A : Option Addr} {n c : Nat} {l : List Int} (hs : Sl us w A n c l) (a0 a1 x : Int) (hx0 : 0 ≤ x) (hx1 : x < 18446744073709551616) (h1 : 1 ≤ n) (h : n ≤ 500) (ha : 0 ≤ a0) (hb : a0 < (n : Int)) (hj : 0 ≤ a1) (hj2 : (n : Int) ≤ a1) :
    Calls Try.prog 3 #[.slice A n c, .agg #[.int .i64 a0, .int .i64 a1], .int .u64 x] w fun e w' => e = .returned (.bool true) ∧ Below w.heap.size w w' := by
  have t : decide ((500 : Int) < (n : Int)) = false := decide_eq_false (by omega)
  have t3 : decide (a0 < 0) = false := decide_eq_false (by omega)
  have t4 : decide ((n : Int) ≤ a0) = false := decide_eq_false (by omega)
  have v1 : decide (a1 < (n : Int)) = false := decide_eq_false (by omega)
  have hup := nx64_wrap x
  have hnx := nx64_ne hx0 hx1
  generalize nx64 x = y at *
  have u1 : (x != x) = false := by simp
  have u2 : (y != y) = false := by simp
  have hlen : l.length = n := hs.len
  have HLEN := Lib.hid hlen
  have hlt : a0.toNat < l.length := by omega
  have hl5 : l.length ≤ 500 := by omega
  clear hlen
  go_enter Try.func3, Try.ntmps3
  go_wp2_with fail
  obtain ⟨W0, hW0, z0, z1, hs0, kb⟩ : ∃ W0, w.alloc (.cells #[.int .i64 a0, .int .i64 a1] 23) = W0 ∧ W0.cell? ⟨w.heap.size, 0, none⟩ = some (.int .i64 a0) ∧ W0.cell? ⟨w.heap.size, 1, none⟩ = some (.int .i64 a1) ∧ Sl us W0 A n c l ∧ Below w.heap.size w W0 :=
    ⟨_, rfl, by go_simp, by go_simp, hs.alloc _, bnew (brefl w) _⟩
  rw [hW0]
  clear hW0
  have hz0 := block_lt_of_cell z0
  refine (of_yes hs0 h1 (by omega)).mono ?_
  rintro e w1 ⟨p, g, rfl, hm1, hp, hg, hb1⟩
  have z0 := keep_below z0 hb1
  have z1 := keep_below z1 hb1
  have hs1 := hs0.below hb1
  have kb1 := bnext kb hb1
  have hz1 := block_lt_of_cell z0
  have hpp : w.heap.size < p := by simp at hz0; omega
  have hgg : w.heap.size < g := by simp at hz0; omega
  have nz : ¬ SS p g w.heap.size := by intro h; rcases h with h | h <;> omega
  have hAl := hs.lt_ h1
  have nA : ∀ ad, A = some ad → ¬ SS p g ad.block := fun ad e h => by have := hAl ad e; rcases h with h | h <;> omega
  have hS : ∀ b, SS p g b → b < w.heap.size → w.heap.size ≤ b := fun b h _ => by rcases h with h | h <;> omega
  have hS' : ∀ v : World, ∀ b, SS p g b → b < v.heap.size → w.heap.size ≤ b := fun v b h _ => by rcases h with h | h <;> omega
  clear hs hb1 kb hp hg hAl hS
  obtain ⟨m1, hM1⟩ : ∃ m1, mem0 l = m1 := ⟨_, rfl⟩
  have e1 : m1.ws = l ∧ m1.ac = 0 ∧ m1.wr = 0 ∧ m1.ft = false := by subst hM1; exact ⟨rfl, rfl, rfl, rfl⟩
  rw [hM1] at hm1
  clear hM1
  have hst := store_in hm1 (by rw [e1.1]; omega) (by rw [e1.2.1]; decide) (by rw [e1.2.1]; decide) (by rw [e1.2.2.1]; decide) (by rw [e1.2.2.1]; decide) a0 x (by omega) (by rw [e1.1]; omega)
  have e2 : ((m1.hit a0).put a0.toNat x).ws = l.set a0.toNat x ∧ ((m1.hit a0).put a0.toNat x).ac = 1 ∧ ((m1.hit a0).put a0.toNat x).wr = 1 ∧ ((m1.hit a0).put a0.toNat x).ft = false := by
    simp [Mem.put, Mem.hit, e1]
  generalize (m1.hit a0).put a0.toNat x = m2 at *
  have E1 := Lib.hid e1
  have E2 := Lib.hid e2
  clear e1 e2 E1
  go_wp2_with fail
  refine (hst).mono ?_
  rintro e w2 ⟨rfl, hm2, hk2⟩
  have z0 := hk2.cell z0 nz
  have z1 := hk2.cell z1 nz
  have hs2 := hk2.sl hs1 nA
  have kb2 := hk2.below kb1 kb1.size (hS' w1)
  have hz2 := block_lt_of_cell z0
  clear hm1 hs1 kb1 hz1 hst hk2
  have hst := load_in hm2 (by rw [E2.out.1]; simp; omega) (by rw [E2.out.2.1]; decide) (by rw [E2.out.2.1]; decide) (by rw [E2.out.2.2.1]; decide) (by rw [E2.out.2.2.1]; decide) a0 (by omega) (x := x) (by rw [E2.out.1]; exact set_at hlt x)
  have e3 : (m2.hit a0).ws = m2.ws ∧ (m2.hit a0).ac = 2 ∧ (m2.hit a0).wr = m2.wr ∧ (m2.hit a0).ft = m2.ft := by
    have := E2.out
    simp [Mem.hit, this.2.1]
  rw [E2.out.1, E2.out.2.2.1, E2.out.2.2.2] at e3
  generalize m2.hit a0 = m3 at *
  have E3 := Lib.hid e3
  clear e3
  go_wp2_with fail
  refine (hst).mono ?_
  rintro e w3 ⟨rfl, hm3, hk3⟩
  have z0 := hk3.cell z0 nz
  have z1 := hk3.cell z1 nz
  have hs3 := hk3.sl hs2 nA
  have kb3 := hk3.below kb2 kb2.size (hS' w2)
  have hz3 := block_lt_of_cell z0
  clear hm2 hs2 kb2 hz2 hst hk3
  have hst := cas_no hm3 (by rw [E3.out.1]; simp; omega) (by rw [E3.out.2.1]; decide) (by rw [E3.out.2.1]; decide) (by rw [E3.out.2.2.1]; decide) (by rw [E3.out.2.2.1]; decide) a0 y 5 (by omega) (x := x) (by rw [E3.out.1]; exact set_at hlt x) hnx
  have e4 : (m3.hit a0).ws = m3.ws ∧ (m3.hit a0).ac = 3 ∧ (m3.hit a0).wr = m3.wr ∧ (m3.hit a0).ft = m3.ft := by
    have := E3.out
    simp [Mem.hit, this.2.1]
  rw [E3.out.1, E3.out.2.2.1, E3.out.2.2.2] at e4
  generalize m3.hit a0 = m4 at *
  have E4 := Lib.hid e4
  clear e4
  go_wp2_with fail
  refine (hst).mono ?_
  rintro e w4 ⟨rfl, hm4, hk4⟩
  have z0 := hk4.cell z0 nz
  have z1 := hk4.cell z1 nz
  have hs4 := hk4.sl hs3 nA
  have kb4 := hk4.below kb3 kb3.size (hS' w3)
  have hz4 := block_lt_of_cell z0
  clear hm3 hs3 kb3 hz3 hst hk4
  have hst := cas_yes hm4 (by rw [E4.out.1]; simp; omega) (by rw [E4.out.2.1]; decide) (by rw [E4.out.2.1]; decide) (by rw [E4.out.2.2.1]; decide) (by rw [E4.out.2.2.1]; decide) a0 x y (by omega) (by rw [E4.out.1]; exact set_at hlt x)
  have e5 : ((m4.hit a0).put a0.toNat y).ws = (l.set a0.toNat x).set a0.toNat y ∧ ((m4.hit a0).put a0.toNat y).ac = 4 ∧ ((m4.hit a0).put a0.toNat y).wr = 2 ∧ ((m4.hit a0).put a0.toNat y).ft = false := by
    have := E4.out
    simp [Mem.put, Mem.hit, this]
  generalize (m4.hit a0).put a0.toNat y = m5 at *
  have E5 := Lib.hid e5
  clear e5
  go_wp2_with fail
  refine (hst).mono ?_
  rintro e w5 ⟨rfl, hm5, hk5⟩
  have z0 := hk5.cell z0 nz
  have z1 := hk5.cell z1 nz
  have hs5 := hk5.sl hs4 nA
  have kb5 := hk5.below kb4 kb4.size (hS' w4)
  have hz5 := block_lt_of_cell z0
  clear hm4 hs4 kb4 hz4 hst hk5
  have hst := load_in hm5 (by rw [E5.out.1]; simp; omega) (by rw [E5.out.2.1]; decide) (by rw [E5.out.2.1]; decide) (by rw [E5.out.2.2.1]; decide) (by rw [E5.out.2.2.1]; decide) a0 (by omega) (x := y) (by rw [E5.out.1]; exact set_at (by simpa using hlt) y)
  have e6 : (m5.hit a0).ws = m5.ws ∧ (m5.hit a0).ac = 5 ∧ (m5.hit a0).wr = m5.wr ∧ (m5.hit a0).ft = m5.ft := by
    have := E5.out
    simp [Mem.hit, this.2.1]
  rw [E5.out.1, E5.out.2.2.1, E5.out.2.2.2] at e6
  generalize m5.hit a0 = m6 at *
  have E6 := Lib.hid e6
  clear e6
  go_wp2_with fail
  refine (hst).mono ?_
  rintro e w6 ⟨rfl, hm6, hk6⟩
  have z0 := hk6.cell z0 nz
  have z1 := hk6.cell z1 nz
  have hs6 := hk6.sl hs5 nA
  have kb6 := hk6.below kb5 kb5.size (hS' w5)
  have hz6 := block_lt_of_cell z0
  clear hm5 hs5 kb5 hz5 hst hk6
  go_upto_region 9 with (fail)
  have hX := @Ext.cell w6
  have hzz0 := block_lt_of_cell z0
  refine wp_region_noPanic ?_
  refine wp_region_tree (fun w' => ∃ x : Ext w6, w' = x.w) (PT.one [0, 1, 2, 3, 4, 5, 6, 7, 8, 9, 10, 11, 12, 13, 14, 15, 16, 17, 18, 19, 20, 22, 23, 24, 25, 26] 21 (PT.fin [27, 28])) (by kernel_rfl) (by kernel_rfl) (by kernel_rfl) (fun _ _ _ _ _ h => h) ⟨⟨_, (brefl w6).drew⟩, rfl⟩ ?_
  refine wpTree_one ?_
  simp only [pickOps, List.getElem?_cons_succ, List.getElem?_cons_zero, Option.elim_some]
  repeat (go_big_quiet_step (fail))
  refine wpQuiet_nil ?_
  refine planAct_some (fun K hK => ?_)
  go_simp
  refine hK.out _ _ (ext_mem (brefl w6).drew) ?_
  clear hK K
  refine wpTree_fin ?_
  simp only [pickOps, List.getElem?_cons_succ, List.getElem?_cons_zero, Option.elim_some]
  repeat (go_big_quiet_step (fail))
  refine wpQuiet_nil ?_
  refine NoPanic.normal ?_
  clear hX hzz0
  have hm7 := hm6.drew
  have kb7 := kb6.drew
  have hfa := fault_any hm7
  have hwr := writes_any hm7
  rw [E6.out.2.2.2] at hfa
  rw [E6.out.2.2.1] at hwr
  go_wp2_with fail
  refine hfa.mono ?_
  rintro e w8 ⟨rfl, rfl⟩
  go_wp2_with fail
  refine hwr.mono ?_
  rintro e w8 ⟨rfl, rfl⟩
  go_wp2_with fail
  refine (lives06 _).mono ?_
  rintro e w9 ⟨rfl, hb9⟩
  go_wp2
  go_ret
  exact ⟨rfl, bnext kb7 hb9⟩

set_option maxHeartbeats 4000000 in
set_option maxRecDepth 100000 in
theorem hold_iii {w : World} {A : Option Addr} {n c : Nat} {l : List Int} (hs : Sl us w A n c l) (a0 a1 x : Int) (hx0 : 0 ≤ x) (hx1 : x < 18446744073709551616) (h1 : 1 ≤ n) (h : n ≤ 500) (ha : 0 ≤ a0) (hb : a0 < (n : Int)) (hj : a1 = a0) :
    Calls Try.prog 3 #[.slice A n c, .agg #[.int .i64 a0, .int .i64 a1], .int .u64 x] w fun e w' => e = .returned (.bool true) ∧ Below w.heap.size w w' := by
  have t : decide ((500 : Int) < (n : Int)) = false := decide_eq_false (by omega)
  have t3 : decide (a0 < 0) = false := decide_eq_false (by omega)
  have t4 : decide ((n : Int) ≤ a0) = false := decide_eq_false (by omega)
  have v1 : (a1 != a0) = false := by simpa using hj
  have q0 : 0 ≤ a1 := by omega
  have q1 : a1 < (n : Int) := by omega
  clear hj
  have hup := nx64_wrap x
  have hnx := nx64_ne hx0 hx1
  generalize nx64 x = y at *
  have u1 : (x != x) = false := by simp
  have u2 : (y != y) = false := by simp
  have hlen : l.length = n := hs.len
  have HLEN := Lib.hid hlen
  have hlt : a0.toNat < l.length := by omega
  have hl5 : l.length ≤ 500 := by omega
  clear hlen
  go_enter Try.func3, Try.ntmps3
  go_wp2_with fail
  obtain ⟨W0, hW0, z0, z1, hs0, kb⟩ : ∃ W0, w.alloc (.cells #[.int .i64 a0, .int .i64 a1] 23) = W0 ∧ W0.cell? ⟨w.heap.size, 0, none⟩ = some (.int .i64 a0) ∧ W0.cell? ⟨w.heap.size, 1, none⟩ = some (.int .i64 a1) ∧ Sl us W0 A n c l ∧ Below w.heap.size w W0 :=
    ⟨_, rfl, by go_simp, by go_simp, hs.alloc _, bnew (brefl w) _⟩
  rw [hW0]
  clear hW0
  have hz0 := block_lt_of_cell z0
  refine (of_yes hs0 h1 (by omega)).mono ?_
  rintro e w1 ⟨p, g, rfl, hm1, hp, hg, hb1⟩
  have z0 := keep_below z0 hb1
  have z1 := keep_below z1 hb1
  have hs1 := hs0.below hb1
  have kb1 := bnext kb hb1
  have hz1 := block_lt_of_cell z0
  have hpp : w.heap.size < p := by simp at hz0; omega
  have hgg : w.heap.size < g := by simp at hz0; omega
  have nz : ¬ SS p g w.heap.size := by intro h; rcases h with h | h <;> omega
  have hAl := hs.lt_ h1
  have nA : ∀ ad, A = some ad → ¬ SS p g ad.block := fun ad e h => by have := hAl ad e; rcases h with h | h <;> omega
  have hS : ∀ b, SS p g b → b < w.heap.size → w.heap.size ≤ b := fun b h _ => by rcases h with h | h <;> omega
  have hS' : ∀ v : World, ∀ b, SS p g b → b < v.heap.size → w.heap.size ≤ b := fun v b h _ => by rcases h with h | h <;> omega
  clear hs hb1 kb hp hg hAl hS
  obtain ⟨m1, hM1⟩ : ∃ m1, mem0 l = m1 := ⟨_, rfl⟩
  have e1 : m1.ws = l ∧ m1.ac = 0 ∧ m1.wr = 0 ∧ m1.ft = false := by subst hM1; exact ⟨rfl, rfl, rfl, rfl⟩
  rw [hM1] at hm1
  clear hM1
  have hst := store_in hm1 (by rw [e1.1]; omega) (by rw [e1.2.1]; decide) (by rw [e1.2.1]; decide) (by rw [e1.2.2.1]; decide) (by rw [e1.2.2.1]; decide) a0 x (by omega) (by rw [e1.1]; omega)
  have e2 : ((m1.hit a0).put a0.toNat x).ws = l.set a0.toNat x ∧ ((m1.hit a0).put a0.toNat x).ac = 1 ∧ ((m1.hit a0).put a0.toNat x).wr = 1 ∧ ((m1.hit a0).put a0.toNat x).ft = false := by
    simp [Mem.put, Mem.hit, e1]
  generalize (m1.hit a0).put a0.toNat x = m2 at *
  have E1 := Lib.hid e1
  have E2 := Lib.hid e2
  clear e1 e2 E1
  go_wp2_with fail
  refine (hst).mono ?_
  rintro e w2 ⟨rfl, hm2, hk2⟩
  have z0 := hk2.cell z0 nz
  have z1 := hk2.cell z1 nz
  have hs2 := hk2.sl hs1 nA
  have kb2 := hk2.below kb1 kb1.size (hS' w1)
  have hz2 := block_lt_of_cell z0
  clear hm1 hs1 kb1 hz1 hst hk2
  have hst := load_in hm2 (by rw [E2.out.1]; simp; omega) (by rw [E2.out.2.1]; decide) (by rw [E2.out.2.1]; decide) (by rw [E2.out.2.2.1]; decide) (by rw [E2.out.2.2.1]; decide) a0 (by omega) (x := x) (by rw [E2.out.1]; exact set_at hlt x)
  have e3 : (m2.hit a0).ws = m2.ws ∧ (m2.hit a0).ac = 2 ∧ (m2.hit a0).wr = m2.wr ∧ (m2.hit a0).ft = m2.ft := by
    have := E2.out
    simp [Mem.hit, this.2.1]
  rw [E2.out.1, E2.out.2.2.1, E2.out.2.2.2] at e3
  generalize m2.hit a0 = m3 at *
  have E3 := Lib.hid e3
  clear e3
  go_wp2_with fail
  refine (hst).mono ?_
  rintro e w3 ⟨rfl, hm3, hk3⟩
  have z0 := hk3.cell z0 nz
  have z1 := hk3.cell z1 nz
  have hs3 := hk3.sl hs2 nA
  have kb3 := hk3.below kb2 kb2.size (hS' w2)
  have hz3 := block_lt_of_cell z0
  clear hm2 hs2 kb2 hz2 hst hk3
  have hst := cas_no hm3 (by rw [E3.out.1]; simp; omega) (by rw [E3.out.2.1]; decide) (by rw [E3.out.2.1]; decide) (by rw [E3.out.2.2.1]; decide) (by rw [E3.out.2.2.1]; decide) a0 y 5 (by omega) (x := x) (by rw [E3.out.1]; exact set_at hlt x) hnx
  have e4 : (m3.hit a0).ws = m3.ws ∧ (m3.hit a0).ac = 3 ∧ (m3.hit a0).wr = m3.wr ∧ (m3.hit a0).ft = m3.ft := by
    have := E3.out
    simp [Mem.hit, this.2.1]
  rw [E3.out.1, E3.out.2.2.1, E3.out.2.2.2] at e4
  generalize m3.hit a0 = m4 at *
  have E4 := Lib.hid e4
  clear e4
  go_wp2_with fail
  refine (hst).mono ?_
  rintro e w4 ⟨rfl, hm4, hk4⟩
  have z0 := hk4.cell z0 nz
  have z1 := hk4.cell z1 nz
  have hs4 := hk4.sl hs3 nA
  have kb4 := hk4.below kb3 kb3.size (hS' w3)
  have hz4 := block_lt_of_cell z0
  clear hm3 hs3 kb3 hz3 hst hk4
  have hst := cas_yes hm4 (by rw [E4.out.1]; simp; omega) (by rw [E4.out.2.1]; decide) (by rw [E4.out.2.1]; decide) (by rw [E4.out.2.2.1]; decide) (by rw [E4.out.2.2.1]; decide) a0 x y (by omega) (by rw [E4.out.1]; exact set_at hlt x)
  have e5 : ((m4.hit a0).put a0.toNat y).ws = (l.set a0.toNat x).set a0.toNat y ∧ ((m4.hit a0).put a0.toNat y).ac = 4 ∧ ((m4.hit a0).put a0.toNat y).wr = 2 ∧ ((m4.hit a0).put a0.toNat y).ft = false := by
    have := E4.out
    simp [Mem.put, Mem.hit, this]
  generalize (m4.hit a0).put a0.toNat y = m5 at *
  have E5 := Lib.hid e5
  clear e5
  go_wp2_with fail
  refine (hst).mono ?_
  rintro e w5 ⟨rfl, hm5, hk5⟩
  have z0 := hk5.cell z0 nz
  have z1 := hk5.cell z1 nz
  have hs5 := hk5.sl hs4 nA
  have kb5 := hk5.below kb4 kb4.size (hS' w4)
  have hz5 := block_lt_of_cell z0
  clear hm4 hs4 kb4 hz4 hst hk5
  have hst := load_in hm5 (by rw [E5.out.1]; simp; omega) (by rw [E5.out.2.1]; decide) (by rw [E5.out.2.1]; decide) (by rw [E5.out.2.2.1]; decide) (by rw [E5.out.2.2.1]; decide) a0 (by omega) (x := y) (by rw [E5.out.1]; exact set_at (by simpa using hlt) y)
  have e6 : (m5.hit a0).ws = m5.ws ∧ (m5.hit a0).ac = 5 ∧ (m5.hit a0).wr = m5.wr ∧ (m5.hit a0).ft = m5.ft := by
    have := E5.out
    simp [Mem.hit, this.2.1]
  rw [E5.out.1, E5.out.2.2.1, E5.out.2.2.2] at e6
  generalize m5.hit a0 = m6 at *
  have E6 := Lib.hid e6
  clear e6
  go_wp2_with fail
  refine (hst).mono ?_
  rintro e w6 ⟨rfl, hm6, hk6⟩
  have z0 := hk6.cell z0 nz
  have z1 := hk6.cell z1 nz
  have hs6 := hk6.sl hs5 nA
  have kb6 := hk6.below kb5 kb5.size (hS' w5)
  have hz6 := block_lt_of_cell z0
  clear hm5 hs5 kb5 hz5 hst hk6
  go_upto_region 9 with (fail)
  have hX := @Ext.cell w6
  have hzz0 := block_lt_of_cell z0
  refine wp_region_noPanic ?_
  refine wp_region_tree (fun w' => ∃ x : Ext w6, w' = x.w) (PT.one [0, 1, 2, 3, 4, 5, 6, 7, 8, 9, 10, 11, 12, 13, 14, 15, 16, 17, 18, 19, 20, 22, 23, 24, 25, 26] 21 (PT.fin [27, 28])) (by kernel_rfl) (by kernel_rfl) (by kernel_rfl) (fun _ _ _ _ _ h => h) ⟨⟨_, (brefl w6).drew⟩, rfl⟩ ?_
  refine wpTree_one ?_
  simp only [pickOps, List.getElem?_cons_succ, List.getElem?_cons_zero, Option.elim_some]
  repeat (go_big_quiet_step (fail))
  refine wpQuiet_nil ?_
  refine planAct_some (fun K hK => ?_)
  go_simp
  refine hK.out _ _ (ext_mem (brefl w6).drew) ?_
  clear hK K
  refine wpTree_fin ?_
  simp only [pickOps, List.getElem?_cons_succ, List.getElem?_cons_zero, Option.elim_some]
  repeat (go_big_quiet_step (fail))
  refine wpQuiet_nil ?_
  refine NoPanic.normal ?_
  clear hX hzz0
  have hm7 := hm6.drew
  have kb7 := kb6.drew
  have hfa := fault_any hm7
  have hwr := writes_any hm7
  rw [E6.out.2.2.2] at hfa
  rw [E6.out.2.2.1] at hwr
  go_wp2_with fail
  refine hfa.mono ?_
  rintro e w8 ⟨rfl, rfl⟩
  go_wp2_with fail
  refine hwr.mono ?_
  rintro e w8 ⟨rfl, rfl⟩
  go_wp2_with fail
  refine (lives06 _).mono ?_
  rintro e w9 ⟨rfl, hb9⟩
  go_wp2
  go_ret
  exact ⟨rfl, bnext kb7 hb9⟩

set_option maxHeartbeats 4000000 in
set_option maxRecDepth 100000 in
theorem hold_iv {w : World} {A : Option Addr} {n c : Nat} {l : List Int} (hs : Sl us w A n c l) (a0 a1 x : Int) (hx0 : 0 ≤ x) (hx1 : x < 18446744073709551616) (h1 : 1 ≤ n) (h : n ≤ 500) (ha : 0 ≤ a0) (hb : a0 < (n : Int)) (hj : 0 ≤ a1) (hj2 : a1 < (n : Int)) (hj3 : a1 ≠ a0) :
    Calls Try.prog 3 #[.slice A n c, .agg #[.int .i64 a0, .int .i64 a1], .int .u64 x] w fun e w' => e = .returned (.bool true) ∧ Below w.heap.size w w' := by
  have t : decide ((500 : Int) < (n : Int)) = false := decide_eq_false (by omega)
  have t3 : decide (a0 < 0) = false := decide_eq_false (by omega)
  have t4 : decide ((n : Int) ≤ a0) = false := decide_eq_false (by omega)
  have v1 : (a1 != a0) = true := by simpa using hj3
  have hne : a0.toNat ≠ a1.toNat := by omega
  have hup := nx64_wrap x
  have hnx := nx64_ne hx0 hx1
  generalize nx64 x = y at *
  have u1 : (x != x) = false := by simp
  have u2 : (y != y) = false := by simp
  have hlen : l.length = n := hs.len
  have HLEN := Lib.hid hlen
  have hlt : a0.toNat < l.length := by omega
  have hl5 : l.length ≤ 500 := by omega
  clear hlen
  go_enter Try.func3, Try.ntmps3
  go_wp2_with fail
  obtain ⟨W0, hW0, z0, z1, hs0, kb⟩ : ∃ W0, w.alloc (.cells #[.int .i64 a0, .int .i64 a1] 23) = W0 ∧ W0.cell? ⟨w.heap.size, 0, none⟩ = some (.int .i64 a0) ∧ W0.cell? ⟨w.heap.size, 1, none⟩ = some (.int .i64 a1) ∧ Sl us W0 A n c l ∧ Below w.heap.size w W0 :=
    ⟨_, rfl, by go_simp, by go_simp, hs.alloc _, bnew (brefl w) _⟩
  rw [hW0]
  clear hW0
  have hz0 := block_lt_of_cell z0
  refine (of_yes hs0 h1 (by omega)).mono ?_
  rintro e w1 ⟨p, g, rfl, hm1, hp, hg, hb1⟩
  have z0 := keep_below z0 hb1
  have z1 := keep_below z1 hb1
  have hs1 := hs0.below hb1
  have kb1 := bnext kb hb1
  have hz1 := block_lt_of_cell z0
  have hpp : w.heap.size < p := by simp at hz0; omega
  have hgg : w.heap.size < g := by simp at hz0; omega
  have nz : ¬ SS p g w.heap.size := by intro h; rcases h with h | h <;> omega
  have hAl := hs.lt_ h1
  have nA : ∀ ad, A = some ad → ¬ SS p g ad.block := fun ad e h => by have := hAl ad e; rcases h with h | h <;> omega
  have hS : ∀ b, SS p g b → b < w.heap.size → w.heap.size ≤ b := fun b h _ => by rcases h with h | h <;> omega
  have hS' : ∀ v : World, ∀ b, SS p g b → b < v.heap.size → w.heap.size ≤ b := fun v b h _ => by rcases h with h | h <;> omega
  clear hs hb1 kb hp hg hAl hS
  obtain ⟨m1, hM1⟩ : ∃ m1, mem0 l = m1 := ⟨_, rfl⟩
  have e1 : m1.ws = l ∧ m1.ac = 0 ∧ m1.wr = 0 ∧ m1.ft = false := by subst hM1; exact ⟨rfl, rfl, rfl, rfl⟩
  rw [hM1] at hm1
  clear hM1
  have hst := store_in hm1 (by rw [e1.1]; omega) (by rw [e1.2.1]; decide) (by rw [e1.2.1]; decide) (by rw [e1.2.2.1]; decide) (by rw [e1.2.2.1]; decide) a0 x (by omega) (by rw [e1.1]; omega)
  have e2 : ((m1.hit a0).put a0.toNat x).ws = l.set a0.toNat x ∧ ((m1.hit a0).put a0.toNat x).ac = 1 ∧ ((m1.hit a0).put a0.toNat x).wr = 1 ∧ ((m1.hit a0).put a0.toNat x).ft = false := by
    simp [Mem.put, Mem.hit, e1]
  generalize (m1.hit a0).put a0.toNat x = m2 at *
  have E1 := Lib.hid e1
  have E2 := Lib.hid e2
  clear e1 e2 E1
  go_wp2_with fail
  refine (hst).mono ?_
  rintro e w2 ⟨rfl, hm2, hk2⟩
  have z0 := hk2.cell z0 nz
  have z1 := hk2.cell z1 nz
  have hs2 := hk2.sl hs1 nA
  have kb2 := hk2.below kb1 kb1.size (hS' w1)
  have hz2 := block_lt_of_cell z0
  clear hm1 hs1 kb1 hz1 hst hk2
  have hst := load_in hm2 (by rw [E2.out.1]; simp; omega) (by rw [E2.out.2.1]; decide) (by rw [E2.out.2.1]; decide) (by rw [E2.out.2.2.1]; decide) (by rw [E2.out.2.2.1]; decide) a0 (by omega) (x := x) (by rw [E2.out.1]; exact set_at hlt x)
  have e3 : (m2.hit a0).ws = m2.ws ∧ (m2.hit a0).ac = 2 ∧ (m2.hit a0).wr = m2.wr ∧ (m2.hit a0).ft = m2.ft := by
    have := E2.out
    simp [Mem.hit, this.2.1]
  rw [E2.out.1, E2.out.2.2.1, E2.out.2.2.2] at e3
  generalize m2.hit a0 = m3 at *
  have E3 := Lib.hid e3
  clear e3
  go_wp2_with fail
  refine (hst).mono ?_
  rintro e w3 ⟨rfl, hm3, hk3⟩
  have z0 := hk3.cell z0 nz
  have z1 := hk3.cell z1 nz
  have hs3 := hk3.sl hs2 nA
  have kb3 := hk3.below kb2 kb2.size (hS' w2)
  have hz3 := block_lt_of_cell z0
  clear hm2 hs2 kb2 hz2 hst hk3
  have hst := cas_no hm3 (by rw [E3.out.1]; simp; omega) (by rw [E3.out.2.1]; decide) (by rw [E3.out.2.1]; decide) (by rw [E3.out.2.2.1]; decide) (by rw [E3.out.2.2.1]; decide) a0 y 5 (by omega) (x := x) (by rw [E3.out.1]; exact set_at hlt x) hnx
  have e4 : (m3.hit a0).ws = m3.ws ∧ (m3.hit a0).ac = 3 ∧ (m3.hit a0).wr = m3.wr ∧ (m3.hit a0).ft = m3.ft := by
    have := E3.out
    simp [Mem.hit, this.2.1]
  rw [E3.out.1, E3.out.2.2.1, E3.out.2.2.2] at e4
  generalize m3.hit a0 = m4 at *
  have E4 := Lib.hid e4
  clear e4
  go_wp2_with fail
  refine (hst).mono ?_
  rintro e w4 ⟨rfl, hm4, hk4⟩
  have z0 := hk4.cell z0 nz
  have z1 := hk4.cell z1 nz
  have hs4 := hk4.sl hs3 nA
  have kb4 := hk4.below kb3 kb3.size (hS' w3)
  have hz4 := block_lt_of_cell z0
  clear hm3 hs3 kb3 hz3 hst hk4
  have hst := cas_yes hm4 (by rw [E4.out.1]; simp; omega) (by rw [E4.out.2.1]; decide) (by rw [E4.out.2.1]; decide) (by rw [E4.out.2.2.1]; decide) (by rw [E4.out.2.2.1]; decide) a0 x y (by omega) (by rw [E4.out.1]; exact set_at hlt x)
  have e5 : ((m4.hit a0).put a0.toNat y).ws = (l.set a0.toNat x).set a0.toNat y ∧ ((m4.hit a0).put a0.toNat y).ac = 4 ∧ ((m4.hit a0).put a0.toNat y).wr = 2 ∧ ((m4.hit a0).put a0.toNat y).ft = false := by
    have := E4.out
    simp [Mem.put, Mem.hit, this]
  generalize (m4.hit a0).put a0.toNat y = m5 at *
  have E5 := Lib.hid e5
  clear e5
  go_wp2_with fail
  refine (hst).mono ?_
  rintro e w5 ⟨rfl, hm5, hk5⟩
  have z0 := hk5.cell z0 nz
  have z1 := hk5.cell z1 nz
  have hs5 := hk5.sl hs4 nA
  have kb5 := hk5.below kb4 kb4.size (hS' w4)
  have hz5 := block_lt_of_cell z0
  clear hm4 hs4 kb4 hz4 hst hk5
  have hst := load_in hm5 (by rw [E5.out.1]; simp; omega) (by rw [E5.out.2.1]; decide) (by rw [E5.out.2.1]; decide) (by rw [E5.out.2.2.1]; decide) (by rw [E5.out.2.2.1]; decide) a0 (by omega) (x := y) (by rw [E5.out.1]; exact set_at (by simpa using hlt) y)
  have e6 : (m5.hit a0).ws = m5.ws ∧ (m5.hit a0).ac = 5 ∧ (m5.hit a0).wr = m5.wr ∧ (m5.hit a0).ft = m5.ft := by
    have := E5.out
    simp [Mem.hit, this.2.1]
  rw [E5.out.1, E5.out.2.2.1, E5.out.2.2.2] at e6
  generalize m5.hit a0 = m6 at *
  have E6 := Lib.hid e6
  clear e6
  go_wp2_with fail
  refine (hst).mono ?_
  rintro e w6 ⟨rfl, hm6, hk6⟩
  have z0 := hk6.cell z0 nz
  have z1 := hk6.cell z1 nz
  have hs6 := hk6.sl hs5 nA
  have kb6 := hk6.below kb5 kb5.size (hS' w5)
  have hz6 := block_lt_of_cell z0
  clear hm5 hs5 kb5 hz5 hst hk6
  go_upto_region 9 with (fail)
  obtain ⟨bA, oA, rfl, hbA, hcA⟩ := hs6.base us_len (by decide) (by omega)
  obtain ⟨v, hv⟩ : ∃ v, l[a1.toNat]? = some v := ⟨_, List.getElem?_eq_getElem (by have := HLEN.out; omega)⟩
  have cv : w6.cell? ⟨bA, oA + a1.toNat, none⟩ = some (.int .u64 v) := by
    have := hcA a1.toNat v 0 _ hv rfl
    simpa using this
  have u3 : (v != v) = false := by simp
  have hld := fun (w : World) (h : MBox w p g m6) => load_in h (by rw [E6.out.1]; simp; omega) (by rw [E6.out.2.1]; decide) (by rw [E6.out.2.1]; decide) (by rw [E6.out.2.2.1]; decide) (by rw [E6.out.2.2.1]; decide) a1 (by omega) (x := v) (by rw [E6.out.1, List.getElem?_set_ne hne, List.getElem?_set_ne hne]; exact hv)
  have e7 : (m6.hit a1).wr = 2 ∧ (m6.hit a1).ft = false := by
    have := E6.out
    simp [Mem.hit, this]
  generalize m6.hit a1 = m7 at *
  have E7 := Lib.hid e7
  clear e7 hcA hv
  have hX := @ExtS.cell p g w6; have nz0 := nz; have nbA := nA _ rfl; simp only [SS, not_or] at nz0; obtain ⟨nzp, nzg⟩ := nz0; have nbA' : bA ≠ p ∧ bA ≠ g := (by simpa [SS] using nbA); obtain ⟨nbp, nbg⟩ := nbA'
  have hzz0 := block_lt_of_cell z0
  have hzz1 := block_lt_of_cell cv
  refine wp_region_noPanic ?_
  refine wp_region_tree (fun w' => ∃ x : ExtS p g w6, w' = x.w) (PT.one [0, 1, 2, 3, 4, 5, 6, 7, 8, 9, 10, 11, 12, 13, 14, 15, 16, 17, 18, 19, 20, 22, 23, 24, 25, 26] 21 (PT.fin [27, 28])) (by kernel_rfl) (by kernel_rfl) (by kernel_rfl) (fun _ _ _ _ _ h => h) ⟨⟨_, (Keeps.refl _ w6).drew⟩, rfl⟩ ?_
  refine wpTree_one ?_
  simp only [pickOps, List.getElem?_cons_succ, List.getElem?_cons_zero, Option.elim_some]
  repeat (go_big_quiet_step (fail))
  refine wpQuiet_nil ?_
  refine planAct_some (fun K hK => ?_)
  go_simp
  refine (hld _ hm6.drew).mono ?_
  rintro e w7 ⟨rfl, hm7, hk7⟩
  go_wp2_with fail
  refine hK.out _ _ (exts_mem (Keeps.trans_ (Keeps.refl _ w6).drew hk7)) ?_
  clear hK K
  refine wpTree_fin ?_
  simp only [pickOps, List.getElem?_cons_succ, List.getElem?_cons_zero, Option.elim_some]
  repeat (go_big_quiet_step (fail))
  refine wpQuiet_nil ?_
  refine NoPanic.normal ?_
  clear hX hzz0 hzz1
  have kb7 := (Keeps.trans_ (Keeps.refl _ w6).drew hk7).below kb6 kb6.size (hS' w6)
  have hfa := fault_any hm7
  have hwr := writes_any hm7
  rw [E7.out.2] at hfa
  rw [E7.out.1] at hwr
  go_wp2_with fail
  refine hfa.mono ?_
  rintro e w8 ⟨rfl, rfl⟩
  go_wp2_with fail
  refine hwr.mono ?_
  rintro e w8 ⟨rfl, rfl⟩
  go_wp2_with fail
  refine (lives06 _).mono ?_
  rintro e w9 ⟨rfl, hb9⟩
  go_wp2
  go_ret
  exact ⟨rfl, bnext kb7 hb9⟩

theorem hold_any {w : World} {A : Option Addr} {n c : Nat} {l : List Int} (hs : Sl us w A n c l) (hc1 : c ≤ maxLen) (a0 a1 x : Int) (hx0 : 0 ≤ x) (hx1 : x < 18446744073709551616) :
    Calls Try.prog 3 #[.slice A n c, .agg #[.int .i64 a0, .int .i64 a1], .int .u64 x] w fun e w' => e = .returned (.bool true) ∧ Below w.heap.size w w' := by
  unfold maxLen at hc1
  have e1 := hs.cap
  rcases (by omega : 500 < n ∨ n = 0 ∨ (1 ≤ n ∧ n ≤ 500)) with h | h | ⟨h1, h2⟩
  · exact hold_long hs a0 a1 x h (by omega)
  · exact hold_none hs a0 a1 x h
  · rcases (by omega : a0 < 0 ∨ (0 ≤ a0 ∧ (n : Int) ≤ a0) ∨ (0 ≤ a0 ∧ a0 < (n : Int))) with h | ⟨h, h'⟩ | ⟨h, h'⟩
    · exact hold_neg hs a0 a1 x h1 h2 h
    · exact hold_big hs a0 a1 x h1 h2 h h'
    · rcases (by omega : a1 < 0 ∨ (0 ≤ a1 ∧ (n : Int) ≤ a1) ∨ a1 = a0 ∨ (0 ≤ a1 ∧ a1 < (n : Int) ∧ a1 ≠ a0)) with g | ⟨g, g'⟩ | g | ⟨g, g', g''⟩
      · exact hold_i hs a0 a1 x hx0 hx1 h1 h2 h h' g
      · exact hold_ii hs a0 a1 x hx0 hx1 h1 h2 h h' g g'
      · exact hold_iii hs a0 a1 x hx0 hx1 h1 h2 h h' g
      · exact hold_iv hs a0 a1 x hx0 hx1 h1 h2 h h' g g' g''
end Go.Proofs.Ytkfdikbmcleaoaa
