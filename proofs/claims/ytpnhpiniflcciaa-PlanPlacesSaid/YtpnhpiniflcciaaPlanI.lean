/- The reference's list of places: the plain law. No walk. -/
import Derived.Test.YtpnhpiniflcciaaPlanH
namespace Go.Proofs.Ytpnhpiniflcciaa
set_option linter.unusedVariables false
set_option linter.unusedSimpArgs false
open Go.RowKit

/-- The first n words' places. -/
def wl (c : Cf) (n : Nat) : List Pl := (List.range n).map fun (a : Nat) => c.what (a : Int)
theorem wl_len (c : Cf) (n : Nat) : (wl c n).length = n := by simp [wl]
theorem wl_snoc {c : Cf} (hm : c.May) {n : Nat} {x : Pl} (ok : x.Ok c) (hp : (n : Int) = c.pos x) : wl c (n + 1) = wl c n ++ [x] := by
  unfold wl
  rw [List.range_succ, List.map_append, List.map_singleton, hp, what_pos hm.m1 hm.s1 ok]
theorem pl_a {c : Cf} {m : Int} (h0 : 0 ≤ m) (h1 : m < c.lv) {k : Nat} (hk : k < 4) : (Pl.mk m k 0 0).Ok c ∧ c.pos ⟨m, k, 0, 0⟩ = m * c.size + k := by
  have hb : baseOf (k : Int) = 0 := if_neg (by omega)
  have h9 : ¬ (k : Int) = 9 := by omega
  have hm1 : c.many k = 1 := by rcases (by omega : k = 0 ∨ k = 1 ∨ k = 2 ∨ k = 3) with rfl | rfl | rfl | rfl <;> rfl
  have hf : c.fst k = k := by rcases (by omega : k = 0 ∨ k = 1 ∨ k = 2 ∨ k = 3) with rfl | rfl | rfl | rfl <;> rfl
  refine ⟨(ok_iff _ _).2 ⟨h0, h1, by dsimp only; omega, by dsimp only; omega, by dsimp only; omega, ?_, by dsimp only; omega, ?_⟩, ?_⟩
  · dsimp only [Cf.lim]
    rw [if_neg h9, Int.toNat_natCast, hb, hm1]
    omega
  · dsimp only [limJ]
    rw [if_neg h9]
    omega
  · unfold Cf.pos Pl.nth
    dsimp only
    rw [if_neg h9, Int.toNat_natCast, hb, hf]
    omega
theorem pl_b {c : Cf} {m : Int} (h0 : 0 ≤ m) (h1 : m < c.lv) {k : Nat} (hk : k < 4) {i : Int} (hi : 0 ≤ i) (hn : i < c.many (4 + k)) : (Pl.mk m ((4 : Int) + k) i 0).Ok c ∧ c.pos ⟨m, (4 : Int) + k, i, 0⟩ = m * c.size + c.fst (4 + k) + i := by
  have e : ((4 : Int) + k).toNat = 4 + k := by omega
  have hb : baseOf ((4 : Int) + k) = 0 := if_neg (by omega)
  have h9 : ¬ ((4 : Int) + k) = 9 := by omega
  refine ⟨(ok_iff _ _).2 ⟨h0, h1, by dsimp only; omega, by dsimp only; omega, by dsimp only; omega, ?_, by dsimp only; omega, ?_⟩, ?_⟩
  · dsimp only [Cf.lim]
    rw [if_neg h9, e, hb]
    omega
  · dsimp only [limJ]
    rw [if_neg h9]
    omega
  · unfold Cf.pos Pl.nth
    dsimp only
    rw [if_neg h9, e, hb]
    omega
theorem pl_c {c : Cf} {m : Int} (h0 : 0 ≤ m) (h1 : m < c.lv) {s : Int} (hi : 1 ≤ s) (hn : s ≤ c.sl) : (Pl.mk m 8 s 0).Ok c ∧ c.pos ⟨m, 8, s, 0⟩ = m * c.size + c.fst 8 + (s - 1) := by
  have hb : baseOf 8 = 1 := rfl
  have e : (8 : Int).toNat = 8 := rfl
  refine ⟨(ok_iff _ _).2 ⟨h0, h1, by dsimp only; omega, by dsimp only; omega, by dsimp only; omega, ?_, by dsimp only; omega, ?_⟩, ?_⟩
  · dsimp only [Cf.lim]
    rw [if_neg (by decide), e, hb]
    simp only [Cf.many]
    omega
  · dsimp only [limJ]
    rw [if_neg (by decide)]
    omega
  · unfold Cf.pos Pl.nth
    dsimp only
    rw [if_neg (by decide), e, hb]
theorem pl_d {c : Cf} {m : Int} (h0 : 0 ≤ m) (h1 : m < c.lv) {s j : Int} (hi : 1 ≤ s) (hn : s ≤ c.sl) (hj : 0 ≤ j) (hj5 : j < 5) : (Pl.mk m 9 s j).Ok c ∧ c.pos ⟨m, 9, s, j⟩ = m * c.size + c.fst 9 + ((s - 1) * 5 + j) := by
  have hb : baseOf 9 = 1 := rfl
  have e : (9 : Int).toNat = 9 := rfl
  refine ⟨(ok_iff _ _).2 ⟨h0, h1, by dsimp only; omega, by dsimp only; omega, by dsimp only; omega, ?_, by dsimp only; omega, ?_⟩, ?_⟩
  · dsimp only [Cf.lim]
    rw [if_pos rfl, hb]
    omega
  · dsimp only [limJ]
    rw [if_pos rfl]
    omega
  · unfold Cf.pos Pl.nth
    dsimp only
    rw [if_pos rfl, e]
end Go.Proofs.Ytpnhpiniflcciaa
