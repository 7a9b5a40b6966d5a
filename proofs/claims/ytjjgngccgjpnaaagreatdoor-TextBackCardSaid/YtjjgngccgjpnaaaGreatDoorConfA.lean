/- Configurations: what may be; the contracts of conf.May, conf.Level and of their references. -/
import Derived.Test.YtjjgngccgjpnaaaGreatDoorPlan
import Derived.Test.YtjjgngccgjpnaaaGreatDoorProg
namespace Go.Proofs.YtjjgngccgjpnaaaGreatDoor
set_option linter.unusedVariables false
set_option linter.unusedSimpArgs false
open Go.RowKit

structure Cf where
  (lv th o0 o1 o2 o3 o4 o5 o6 o7 sl li ge qu : Int)
deriving DecidableEq

def Cf.of (c : Cf) : Nat → Int
  | 0 => c.o0
  | 1 => c.o1
  | 2 => c.o2
  | 3 => c.o3
  | 4 => c.o4
  | 5 => c.o5
  | 6 => c.o6
  | 7 => c.o7
  | _ => 0
def cfc (c : Cf) : List Value := [.int .i64 c.lv, .int .i64 c.th, .int .i64 c.o0, .int .i64 c.o1, .int .i64 c.o2, .int .i64 c.o3, .int .i64 c.o4, .int .i64 c.o5, .int .i64 c.o6, .int .i64 c.o7, .int .i64 c.sl, .int .i64 c.li, .int .i64 c.ge, .int .i64 c.qu]
/-- The configuration may be. -/
structure Cf.May (c : Cf) : Prop where
  l1 : 1 ≤ c.lv
  l2 : c.lv ≤ 4
  t1 : 1 ≤ c.th
  t2 : c.th ≤ 8
  z : ∀ k : Nat, k < 8 → c.th ≤ (k : Int) → c.of k = 0
  r : ∀ k : Nat, k < 8 → 0 ≤ c.of k ∧ c.of k < c.lv
  s1 : 2 ≤ c.sl
  s2 : c.sl ≤ 60
  m1 : 1 ≤ c.li
  m2 : c.li ≤ 40
  g1 : 1 ≤ c.ge
  g2 : c.ge ≤ 1048576
  q1 : 0 ≤ c.qu
  q2 : c.qu ≤ 60
instance instDecidableMay (c : Cf) : Decidable c.May :=
  decidable_of_iff (1 ≤ c.lv ∧ c.lv ≤ 4 ∧ 1 ≤ c.th ∧ c.th ≤ 8 ∧ (∀ k : Nat, k < 8 → c.th ≤ (k : Int) → c.of k = 0) ∧ (∀ k : Nat, k < 8 → 0 ≤ c.of k ∧ c.of k < c.lv) ∧ 2 ≤ c.sl ∧ c.sl ≤ 60 ∧ 1 ≤ c.li ∧ c.li ≤ 40 ∧ 1 ≤ c.ge ∧ c.ge ≤ 1048576 ∧ 0 ≤ c.qu ∧ c.qu ≤ 60)
    ⟨fun ⟨a, b, d, e, f, g, h, i, j, k, l, m, n, o⟩ => ⟨a, b, d, e, f, g, h, i, j, k, l, m, n, o⟩, fun ⟨a, b, d, e, f, g, h, i, j, k, l, m, n, o⟩ => ⟨a, b, d, e, f, g, h, i, j, k, l, m, n, o⟩⟩
def mayB (c : Cf) : Bool := decide c.May
theorem may_yes {c : Cf} (h : c.May) : mayB c = true := decide_eq_true h
theorem may_no {c : Cf} (h : ¬ c.May) : mayB c = false := decide_eq_false h
def inB (n lo hi : Int) : Bool := decide (lo ≤ n ∧ n ≤ hi)
theorem in_yes {n lo hi : Int} (h1 : lo ≤ n) (h2 : n ≤ hi) : inB n lo hi = true := decide_eq_true ⟨h1, h2⟩
theorem in_no {n lo hi : Int} (h : ¬ (lo ≤ n ∧ n ≤ hi)) : inB n lo hi = false := decide_eq_false h

set_option maxHeartbeats 1000000 in
theorem in_any (n lo hi : Int) (w : World) : Calls Tryz.prog 97 #[.int .i64 n, .int .i64 lo, .int .i64 hi] w fun e w' => e = .returned (.bool (inB n lo hi)) ∧ w = w' := by
  by_cases h1 : lo ≤ n
  · by_cases h2 : n ≤ hi
    · have hE : Hid (inB n lo hi = true) := in_yes h1 h2
      go_enter Tryz.func97, Tryz.ntmps97
      go_wp2
      go_ret
      exact ⟨by rw [hE.out]; rfl, rfl⟩
    · have hE : Hid (inB n lo hi = false) := in_no (by omega)
      go_enter Tryz.func97, Tryz.ntmps97
      go_wp2
      go_ret
      exact ⟨by rw [hE.out]; rfl, rfl⟩
  · have hE : Hid (inB n lo hi = false) := in_no (by omega)
    go_enter Tryz.func97, Tryz.ntmps97
    go_wp2
    go_ret
    exact ⟨by rw [hE.out]; rfl, rfl⟩

theorem box_of (c : Cf) (w : World) : ∀ k : Nat, k < 8 → (w.alloc (.cells #[.int .i64 c.lv, .int .i64 c.th, .int .i64 c.o0, .int .i64 c.o1, .int .i64 c.o2, .int .i64 c.o3, .int .i64 c.o4, .int .i64 c.o5, .int .i64 c.o6, .int .i64 c.o7, .int .i64 c.sl, .int .i64 c.li, .int .i64 c.ge, .int .i64 c.qu] 25)).cell? ⟨w.heap.size, 2 + k, none⟩ = some (.int .i64 (c.of k)) := by
  intro k hk
  rcases (by omega : k = 0 ∨ k = 1 ∨ k = 2 ∨ k = 3 ∨ k = 4 ∨ k = 5 ∨ k = 6 ∨ k = 7) with rfl | rfl | rfl | rfl | rfl | rfl | rfl | rfl
  all_goals (simp only [Cf.of]; go_simp)

/-- What cleared makes of the levels. -/
def Cf.cl (c : Cf) (k : Nat) : Int := if c.th ≤ (k : Int) then 0 else c.of k

set_option maxHeartbeats 2000000 in
set_option maxRecDepth 100000 in
theorem cleared_any (c : Cf) (w : World) (h1 : 1 ≤ c.th) (h2 : c.th ≤ 8) : Calls Tryz.prog 98 #[.agg #[.int .i64 c.lv, .int .i64 c.th, .int .i64 c.o0, .int .i64 c.o1, .int .i64 c.o2, .int .i64 c.o3, .int .i64 c.o4, .int .i64 c.o5, .int .i64 c.o6, .int .i64 c.o7, .int .i64 c.sl, .int .i64 c.li, .int .i64 c.ge, .int .i64 c.qu]] w fun e w' => e = .returned (.agg #[.int .i64 (c.cl 0), .int .i64 (c.cl 1), .int .i64 (c.cl 2), .int .i64 (c.cl 3), .int .i64 (c.cl 4), .int .i64 (c.cl 5), .int .i64 (c.cl 6), .int .i64 (c.cl 7)]) ∧ Below w.heap.size w w' := by
  obtain ⟨t, ht⟩ : ∃ t : Nat, c.th = (t : Int) := ⟨c.th.toNat, by omega⟩
  have HT : Hid (c.th = (t : Int)) := ht
  have h0 : 0 ≤ c.th := by omega
  have ht8 : t ≤ 8 := by omega
  clear ht
  go_enter Tryz.func98, Tryz.ntmps98
  go_wp2_with fail
  obtain ⟨W0, hW0, hc0, hf0, hz0, hb0, hn2, hf2⟩ : ∃ W0, ((w.alloc (.cells #[.int .i64 c.lv, .int .i64 c.th, .int .i64 c.o0, .int .i64 c.o1, .int .i64 c.o2, .int .i64 c.o3, .int .i64 c.o4, .int .i64 c.o5, .int .i64 c.o6, .int .i64 c.o7, .int .i64 c.sl, .int .i64 c.li, .int .i64 c.ge, .int .i64 c.qu] 25)).alloc (.cells #[.int .i64 0, .int .i64 0, .int .i64 0, .int .i64 0, .int .i64 0, .int .i64 0, .int .i64 0, .int .i64 0] 23)).alloc (.cells #[.int .i64 c.o0, .int .i64 c.o1, .int .i64 c.o2, .int .i64 c.o3, .int .i64 c.o4, .int .i64 c.o5, .int .i64 c.o6, .int .i64 c.o7] 23) = W0 ∧ (∀ k : Nat, k < 8 → W0.cell? ⟨w.heap.size + 1 + 1, k, none⟩ = some (.int .i64 (c.of k))) ∧ (∀ k : Nat, k < 8 → W0.frozen? ⟨w.heap.size + 1 + 1, k, none⟩ = false) ∧ w.heap.size + 1 + 1 < W0.heap.size ∧ Below w.heap.size w W0 ∧ (∀ k : Nat, k < 8 → W0.cell? ⟨w.heap.size + 1, k, none⟩ = some (.int .i64 0)) ∧ (∀ k : Nat, k < 8 → W0.frozen? ⟨w.heap.size + 1, k, none⟩ = false) := by
    refine ⟨_, rfl, fun k hk => ?_, fun k hk => ?_, by simp, bnew (bnew (bnew (brefl w) _) _) _, fun k hk => ?_, fun k hk => ?_⟩ <;> (rcases (by omega : k = 0 ∨ k = 1 ∨ k = 2 ∨ k = 3 ∨ k = 4 ∨ k = 5 ∨ k = 6 ∨ k = 7) with rfl | rfl | rfl | rfl | rfl | rfl | rfl | rfl <;> (first | (simp only [Cf.of]; go_simp; done) | go_simp))
  rw [hW0]
  clear hW0
  have B2 : w.heap.size ≤ w.heap.size + 1 := by omega
  have B3 : w.heap.size ≤ w.heap.size + 1 + 1 := by omega
  generalize hBB : w.heap.size + 1 + 1 = B at *
  have HB : Hid (w.heap.size + 1 + 1 = B) := hBB
  clear hBB
  go_loopg [4] (8 - t) (fun gk i wr => ∃ k : Nat, k + gk = 8 ∧ t ≤ k ∧ i = .int .i64 k ∧ (∀ j : Nat, j < 8 → wr.cell? ⟨B, j, none⟩ = some (.int .i64 (if t ≤ j ∧ j < k then 0 else c.of j))) ∧ (∀ k : Nat, k < 8 → wr.frozen? ⟨B, k, none⟩ = false) ∧ B < wr.heap.size ∧ Below w.heap.size w wr ∧ (∀ k : Nat, k < 8 → wr.cell? ⟨w.heap.size + 1, k, none⟩ = some (.int .i64 0)) ∧ (∀ k : Nat, k < 8 → wr.frozen? ⟨w.heap.size + 1, k, none⟩ = false))
  case atStart => exact ⟨t, by omega, Nat.le_refl _, by rw [HT.out], fun j hj => by rw [if_neg (by omega)]; exact hc0 j hj, hf0, hz0, hb0, hn2, hf2⟩
  case round =>
    obtain ⟨k, hk, htk, rfl, hc, hf, hz, hb, hn, hg⟩ := hrel
    by_cases hlt : k < 8
    · have ck := hc k hlt
      have fk := hf k hlt
      have b0 : (0 : Int) ≤ (k : Int) := by omega
      have b1 : (k : Int) < 8 := by omega
      go_wp2
      go_roundg (gk - 1)
      case measure => omega
      case rel =>
        have hne : w.heap.size + 1 ≠ B := by have := HB.out; omega
        refine ⟨k + 1, by omega, by omega, by go_num, fun j hj => ?_, fun j hj => by rw [World.frozen?_setCell]; exact hf j hj, by simpa using hz, bset hb B3 _, fun j hj => keep_set (hn j hj) (by dsimp only; omega), fun j hj => by rw [World.frozen?_setCell]; exact hg j hj⟩
        by_cases hjk : j = k
        · subst hjk
          rw [if_pos ⟨htk, Nat.lt_succ_self j⟩]
          go_simp
        · rw [World.cell?_setCell_other _ _ _ _ (fun e => hjk (by simpa using (congrArg Addr.off e).symm)), hc j hj]
          by_cases h2 : t ≤ j ∧ j < k
          · rw [if_pos h2, if_pos (by omega)]
          · rw [if_neg h2, if_neg (by omega)]
    · obtain rfl : k = 8 := by omega
      have hcl : ∀ j : Nat, j < 8 → wr.cell? ⟨B, j, none⟩ = some (.int .i64 (c.cl j)) := fun j hj => by
        rw [hc j hj, Cf.cl]
        have := HT.out
        by_cases h2 : t ≤ j
        · rw [if_pos ⟨h2, hj⟩, if_pos (by omega)]
        · rw [if_neg (by omega), if_neg (by omega)]
      have c0 := hcl 0 (by decide)
      have c1 := hcl 1 (by decide)
      have c2 := hcl 2 (by decide)
      have c3 := hcl 3 (by decide)
      have c4 := hcl 4 (by decide)
      have c5 := hcl 5 (by decide)
      have c6 := hcl 6 (by decide)
      have c7 := hcl 7 (by decide)
      have n0 := hn 0 (by decide)
      have n1 := hn 1 (by decide)
      have n2 := hn 2 (by decide)
      have n3 := hn 3 (by decide)
      have n4 := hn 4 (by decide)
      have n5 := hn 5 (by decide)
      have n6 := hn 6 (by decide)
      have n7 := hn 7 (by decide)
      have f0 := hg 0 (by decide)
      have f1 := hg 1 (by decide)
      have f2 := hg 2 (by decide)
      have f3 := hg 3 (by decide)
      have f4 := hg 4 (by decide)
      have f5 := hg 5 (by decide)
      have f6 := hg 6 (by decide)
      have f7 := hg 7 (by decide)
      clear hc hf hcl hn hg hc0 hf0 hn2 hf2
      go_wp2
      refine bodyPost_ret (v := .agg #[.int .i64 (c.cl 0), .int .i64 (c.cl 1), .int .i64 (c.cl 2), .int .i64 (c.cl 3), .int .i64 (c.cl 4), .int .i64 (c.cl 5), .int .i64 (c.cl 6), .int .i64 (c.cl 7)]) (by simp [results, Tryz.results98, go_sem, n0, n1, n2, n3, n4, n5, n6, n7]) rfl ⟨rfl, ?_⟩
      iterate 8 refine bset ?_ (by omega) _
      exact hb
end Go.Proofs.YtjjgngccgjpnaaaGreatDoor
