/- Places and words of a plan: the plain law. No walk. -/
import Derived.Test.YtpnhpiniflcciaaConfA
namespace Go.Proofs.Ytpnhpiniflcciaa
set_option linter.unusedVariables false
set_option linter.unusedSimpArgs false
open Go.RowKit

structure Pl where
  (m k i j : Int)
deriving DecidableEq

/-- How many words of a kind a level has; from which one on they lie; of which number the first one is. -/
def Cf.many (c : Cf) : Nat → Int
  | 0 => 1
  | 1 => 1
  | 2 => 1
  | 3 => 1
  | 4 => 4
  | 5 => 2
  | 6 => 8
  | 7 => c.li
  | 8 => c.sl
  | 9 => c.sl * 5
  | _ => 0
def Cf.fst (c : Cf) : Nat → Int
  | 0 => 0
  | 1 => 1
  | 2 => 2
  | 3 => 3
  | 4 => 4
  | 5 => 8
  | 6 => 10
  | 7 => 18
  | 8 => 18 + c.li
  | 9 => 18 + c.li + c.sl
  | _ => 18 + c.li + c.sl * 6
def Cf.size (c : Cf) : Int := 18 + c.li + c.sl * 6
def baseOf (k : Int) : Int := if k = 8 ∨ k = 9 then 1 else 0

/-- A place that there is. -/
structure Pl.Ok (c : Cf) (x : Pl) : Prop where
  m0 : 0 ≤ x.m
  m1 : x.m < c.lv
  k0 : 0 ≤ x.k
  k1 : x.k < 10
  i0 : baseOf x.k ≤ x.i
  i1 : x.i - baseOf x.k < (if x.k = 9 then c.sl else c.many x.k.toNat)
  j0 : 0 ≤ x.j
  j1 : if x.k = 9 then x.j < 5 else x.j = 0

/-- Which word of its kind, and which word at all. -/
def Pl.nth (x : Pl) : Int := if x.k = 9 then (x.i - 1) * 5 + x.j else x.i - baseOf x.k
def Cf.pos (c : Cf) (x : Pl) : Int := x.m * c.size + c.fst x.k.toNat + x.nth

/-- Which kind the word r of a level is. -/
def Cf.kindOf (c : Cf) (r : Int) : Nat :=
  if r < 1 then 0 else if r < 2 then 1 else if r < 3 then 2 else if r < 4 then 3 else if r < 8 then 4 else if r < 10 then 5 else if r < 18 then 6 else if r < 18 + c.li then 7 else if r < 18 + c.li + c.sl then 8 else 9
/-- What the word a is. -/
def Cf.what (c : Cf) (a : Int) : Pl :=
  let r := a % c.size
  let k := c.kindOf r
  let n := r - c.fst k
  if k = 9 then ⟨a / c.size, 9, n / 5 + 1, n % 5⟩ else ⟨a / c.size, k, n + baseOf k, 0⟩

theorem kind_spec (c : Cf) {r : Int} (h1 : 1 ≤ c.li) (h2 : 2 ≤ c.sl) (hr0 : 0 ≤ r) (hr : r < c.size) : c.kindOf r < 10 ∧ c.fst (c.kindOf r) ≤ r ∧ r < c.fst (c.kindOf r + 1) := by
  unfold Cf.kindOf Cf.size at *
  repeat' split
  all_goals (simp only [Cf.fst]; omega)
theorem many_fst (c : Cf) : ∀ k : Nat, k < 10 → c.fst (k + 1) = c.fst k + c.many k := fun k hk => by
  rcases (by omega : k = 0 ∨ k = 1 ∨ k = 2 ∨ k = 3 ∨ k = 4 ∨ k = 5 ∨ k = 6 ∨ k = 7 ∨ k = 8 ∨ k = 9) with rfl | rfl | rfl | rfl | rfl | rfl | rfl | rfl | rfl | rfl
  all_goals (simp only [Cf.fst, Cf.many]; try omega)
theorem fst_bd (c : Cf) (h1 : 1 ≤ c.li) (h2 : 2 ≤ c.sl) : ∀ k : Nat, k ≤ 10 → 0 ≤ c.fst k ∧ c.fst k ≤ c.size := fun k hk => by
  unfold Cf.size
  rcases (by omega : k = 0 ∨ k = 1 ∨ k = 2 ∨ k = 3 ∨ k = 4 ∨ k = 5 ∨ k = 6 ∨ k = 7 ∨ k = 8 ∨ k = 9 ∨ k = 10) with rfl | rfl | rfl | rfl | rfl | rfl | rfl | rfl | rfl | rfl | rfl
  all_goals (simp only [Cf.fst]; omega)
/-- The kind of a word is the one between whose bounds it lies. -/
theorem kind_only (c : Cf) {r : Int} (h1 : 1 ≤ c.li) (h2 : 2 ≤ c.sl) {k : Nat} (hk : k < 10) (ha : c.fst k ≤ r) (hb : r < c.fst (k + 1)) : c.kindOf r = k := by
  rcases (by omega : k = 0 ∨ k = 1 ∨ k = 2 ∨ k = 3 ∨ k = 4 ∨ k = 5 ∨ k = 6 ∨ k = 7 ∨ k = 8 ∨ k = 9) with rfl | rfl | rfl | rfl | rfl | rfl | rfl | rfl | rfl | rfl
  all_goals
    simp only [Cf.fst] at ha hb
    unfold Cf.kindOf
    repeat' split
    all_goals first
      | rfl
      | omega

section
variable {c : Cf} (h1 : 1 ≤ c.li) (h2 : 2 ≤ c.sl)
include h1 h2

theorem size_pos : 0 < c.size := by unfold Cf.size; omega

theorem what_ok {a : Int} (ha : 0 ≤ a) (hb : a < c.lv * c.size) : (c.what a).Ok c ∧ c.pos (c.what a) = a := by
  have hS := size_pos h1 h2
  have hr0 := Int.emod_nonneg a (Int.ne_of_gt hS)
  have hr1 := Int.emod_lt_of_pos a hS
  have hq : 0 ≤ a / c.size := Int.ediv_nonneg ha (Int.le_of_lt hS)
  have hq1 : a / c.size < c.lv := Int.ediv_lt_of_lt_mul hS hb
  have hdm : a / c.size * c.size + a % c.size = a := by rw [Int.mul_comm]; exact Int.mul_ediv_add_emod a c.size
  obtain ⟨hk, hf1, hf2⟩ := kind_spec c h1 h2 hr0 hr1
  unfold Cf.what
  dsimp only
  generalize a % c.size = r at *
  generalize a / c.size = q at *
  generalize hkk : c.kindOf r = k at *
  rw [many_fst c k hk] at hf2
  by_cases h9 : k = 9
  · rw [if_pos h9]
    subst h9
    simp only [Cf.many] at hf2
    have hn0 : 0 ≤ r - c.fst 9 := by omega
    generalize hn : r - c.fst 9 = n at *
    refine ⟨⟨hq, hq1, by dsimp only; omega, by dsimp only; omega, ?_, ?_, by dsimp only; omega, by dsimp only; rw [if_pos rfl]; omega⟩, ?_⟩
    · dsimp only [baseOf]; rw [if_pos (Or.inr rfl)]; omega
    · dsimp only [baseOf]; rw [if_pos (Or.inr rfl), if_pos rfl]; omega
    · unfold Cf.pos Pl.nth
      dsimp only
      rw [if_pos rfl]
      have e : (9 : Int).toNat = 9 := rfl
      rw [e]
      omega
  · rw [if_neg h9]
    have hk9 : ¬ ((k : Nat) : Int) = 9 := by omega
    have hb0 : 0 ≤ baseOf (k : Int) := by unfold baseOf; split <;> omega
    refine ⟨⟨hq, hq1, by dsimp only; omega, by dsimp only; omega, by dsimp only; omega, ?_, by dsimp only; omega, ?_⟩, ?_⟩
    · dsimp only
      rw [if_neg hk9, Int.toNat_natCast]
      omega
    · dsimp only
      rw [if_neg hk9]
    · unfold Cf.pos Pl.nth
      dsimp only
      rw [if_neg hk9, Int.toNat_natCast]
      omega

omit h1 h2 in
theorem nth_bd {x : Pl} (hx : x.Ok c) : 0 ≤ x.nth ∧ x.nth < c.many x.k.toNat := by
  obtain ⟨m0, m1, k0, k1, i0, i1, j0, j1⟩ := hx
  unfold Pl.nth
  by_cases h9 : x.k = 9
  · rw [if_pos h9] at i1 j1 ⊢
    rw [h9] at i0 i1 ⊢
    have e : (9 : Int).toNat = 9 := rfl
    have eb : baseOf 9 = 1 := rfl
    rw [e]
    rw [eb] at i0 i1
    simp only [Cf.many]
    omega
  · rw [if_neg h9] at i1 j1 ⊢
    omega

theorem pos_bd {x : Pl} (hx : x.Ok c) : 0 ≤ c.pos x ∧ c.pos x < c.lv * c.size := by
  have hS := size_pos h1 h2
  have hn := nth_bd hx
  have hk : x.k.toNat < 10 := by have := hx.k0; have := hx.k1; omega
  have hf := fst_bd c h1 h2 (x.k.toNat + 1) (by omega)
  have hf0 := fst_bd c h1 h2 x.k.toNat (by omega)
  rw [many_fst c _ hk] at hf
  have hm : 0 ≤ x.m * c.size := Int.mul_nonneg hx.m0 (Int.le_of_lt hS)
  have hm1 : x.m * c.size + c.size ≤ c.lv * c.size := by
    have : (x.m + 1) * c.size ≤ c.lv * c.size := Int.mul_le_mul_of_nonneg_right (by have := hx.m1; omega) (Int.le_of_lt hS)
    rwa [Int.add_mul, Int.one_mul] at this
  unfold Cf.pos
  omega

theorem what_pos {x : Pl} (hx : x.Ok c) : c.what (c.pos x) = x := by
  have hS := size_pos h1 h2
  have hn := nth_bd hx
  have hk : x.k.toNat < 10 := by have := hx.k0; have := hx.k1; omega
  have hf := fst_bd c h1 h2 (x.k.toNat + 1) (by omega)
  have hf0 := fst_bd c h1 h2 x.k.toNat (by omega)
  have hmf := many_fst c _ hk
  have hr0 : 0 ≤ c.fst x.k.toNat + x.nth := by omega
  have hr1 : c.fst x.k.toNat + x.nth < c.size := by omega
  have e1 : c.pos x % c.size = c.fst x.k.toNat + x.nth := by
    unfold Cf.pos
    rw [Int.add_assoc, Int.mul_comm, Int.mul_add_emod_self_left]
    exact Int.emod_eq_of_lt hr0 hr1
  have e2 : c.pos x / c.size = x.m := by
    unfold Cf.pos
    rw [Int.add_assoc, Int.mul_comm, Int.mul_add_ediv_left _ _ (Int.ne_of_gt hS), Int.ediv_eq_zero_of_lt hr0 hr1, Int.add_zero]
  have e3 : c.kindOf (c.fst x.k.toNat + x.nth) = x.k.toNat := kind_only c h1 h2 hk (by omega) (by omega)
  unfold Cf.what
  dsimp only
  have e4 : c.fst x.k.toNat + x.nth - c.fst x.k.toNat = x.nth := by omega
  rw [e1, e2, e3, e4]
  obtain ⟨m0, m1, k0, k1, i0, i1, j0, j1⟩ := hx
  obtain ⟨m, k, i, j⟩ := x
  dsimp only at *
  unfold Pl.nth
  dsimp only
  by_cases h9 : k = 9
  · subst h9
    have e : (9 : Int).toNat = 9 := rfl
    have eb : baseOf 9 = 1 := rfl
    rw [e, if_pos rfl, if_pos rfl]
    rw [if_pos rfl] at j1
    rw [eb] at i0
    have d1 : ((i - 1) * 5 + j) / 5 + 1 = i := by omega
    have d2 : ((i - 1) * 5 + j) % 5 = j := by omega
    rw [d1, d2]
  · rw [if_neg h9] at j1
    rw [if_neg (by omega), if_neg h9]
    have ek : ((k.toNat : Nat) : Int) = k := by omega
    rw [ek, Int.sub_add_cancel, j1]
end
end Go.Proofs.Ytpnhpiniflcciaa
