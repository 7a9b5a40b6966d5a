/- What a reader of scripts reads, in plain words; programs that are set one by one. -/
import Derived.Test.YtknngjdcbldmgaaDoorSctC
namespace Go.Proofs.YtknngjdcbldmgaaDoor
set_option linter.unusedVariables false
set_option linter.unusedSimpArgs false
open Go.RowKit

structure Scr where
  c : Cf
  ps : List (List CV)
  es : List En
def okE (c : Cf) (x : Int) : Bool := thB c (x % 8) && decide (x / 32 % 8 = 0)
def pEnts (c : Cf) : List En → List Int → Except Int (List En)
  | es, [] => .ok es
  | es, x :: t => if 60000 ≤ es.length then .error 5 else if okE c x = true then pEnts c (es ++ [entX x]) t else .error 3
def pProgs : Nat → Nat → List (List CV) → List Int → Except Int (List (List CV) × List Int)
  | 0, _, ps, l => .ok (ps, l)
  | g + 1, k, ps, l => match pProg l with
    | .error n => .error n
    | .ok (xs, r) => pProgs g (k + 1) (ps.set k xs) r
def nilP : List (List CV) := [[], [], [], [], [], [], [], []]
def pEnd2 (c : Cf) (ps : List (List CV)) : Except Int (List En) → Except Int Scr
  | .error n => .error n
  | .ok es => .ok ⟨c, ps, es⟩
def pEnd (c : Cf) : Except Int (List (List CV) × List Int) → Except Int Scr
  | .error n => .error n
  | .ok (ps, r) => pEnd2 c ps (pEnts c [] r)
/-- The script of these bytes, or the code. -/
def pScript (l : List Int) : Except Int Scr := if l.length < 16 then .error 4 else if mayB (confL l) = false then .error 2 else pEnd (confL l) (pProgs (confL l).th.toNat 0 nilP (l.drop 16))
theorem pProgs_error {g k : Nat} {ps : List (List CV)} {l : List Int} {n : Int} (h : pProg l = .error n) : pProgs (g + 1) k ps l = .error n := by rw [pProgs, h]
theorem pProgs_ok {g k : Nat} {ps : List (List CV)} {l r : List Int} {xs : List CV} (h : pProg l = .ok (xs, r)) : pProgs (g + 1) k ps l = pProgs g (k + 1) (ps.set k xs) r := by rw [pProgs, h]
theorem pCalls_len : ∀ (n : Nat) (l : List Int) (xs : List CV) (r : List Int), pCalls n l = .ok (xs, r) → xs.length = n ∧ r.length ≤ l.length
  | 0, l, xs, r, h => by
    rw [pCalls] at h
    injection h with h
    injection h with h1 h2
    subst h1 h2
    exact ⟨rfl, Nat.le_refl _⟩
  | n + 1, l, xs, r, h => by
    rw [pCalls] at h
    split at h
    · cases h
    · split at h
      · cases h
      · split at h
        · next ys r' hq =>
          injection h with h
          injection h with h1 h2
          subst h1 h2
          have := pCalls_len n _ _ _ hq
          rw [List.length_drop] at this
          exact ⟨by rw [List.length_cons, this.1], by omega⟩
        · cases h
theorem pProg_len {l : List Int} {xs : List CV} {r : List Int} (hb : ∀ x, x ∈ l → 0 ≤ x ∧ x < 256) (h : pProg l = .ok (xs, r)) : xs.length ≤ 40 ∧ r.length ≤ l.length := by
  match l, h, hb with
  | [], h, _ => cases h
  | x :: t, h, hb =>
    rw [pProg] at h
    split at h
    · cases h
    · have h1 := pCalls_len _ _ _ _ h
      have h2 := hb x (by simp)
      rw [List.length_cons]
      omega
theorem nilP_len : nilP.length = 8 := rfl
theorem PIn.none_ (S : Nat → Prop) (w : World) : PIn S w nil8 nilP :=
  ⟨rfl, rfl, fun j l hl => by
    have hj : j < 8 := (List.getElem?_eq_some_iff.1 hl).1
    rcases (by omega : j = 0 ∨ j = 1 ∨ j = 2 ∨ j = 3 ∨ j = 4 ∨ j = 5 ∨ j = 6 ∨ j = 7) with rfl | rfl | rfl | rfl | rfl | rfl | rfl | rfl <;>
    · injection hl with hl
      subst hl
      exact ⟨none, 0, 0, rfl, ⟨rfl, Nat.le_refl _, Rd.nil _ _, fun _ => ⟨rfl, rfl⟩⟩, fun _ h _ => by cases h⟩⟩
theorem PIn.setP {S : Nat → Prop} {w : World} {us : List Value} {ps : List (List CV)} {k : Nat} {A : Option Addr} {n c : Nat} {xs : List CV} (h : PIn S w us ps) (hs : Sl cvc w A n c xs) (hA : ∀ ad, A = some ad → ¬ S ad.block) : PIn S w (us.set k (Value.slice A n c)) (ps.set k xs) :=
  ⟨by rw [List.length_set]; exact h.u8, by rw [List.length_set]; exact h.p8, fun j l hl => by
    by_cases hjk : k = j
    · subst hjk
      have hk : k < ps.length := by have := (List.getElem?_eq_some_iff.1 hl).1; rwa [List.length_set] at this
      rw [List.getElem?_set_self hk] at hl
      injection hl with hl
      subst hl
      exact ⟨A, n, c, List.getElem?_set_self (by rw [h.u8, ← h.p8]; exact hk), hs, fun ad q _ => hA ad q⟩
    · rw [List.getElem?_set_ne hjk] at hl
      obtain ⟨A', n', c', h1, h2, h3⟩ := h.at_ j l hl
      exact ⟨A', n', c', by rw [List.getElem?_set_ne hjk]; exact h1, h2, h3⟩⟩
theorem mem_setP {ps : List (List CV)} {k : Nat} {xs : List CV} {m : Nat} (h : ∀ l, l ∈ ps → l.length ≤ m) (hx : xs.length ≤ m) : ∀ l, l ∈ ps.set k xs → l.length ≤ m := fun l hl => by
  rcases List.mem_or_eq_of_mem_set hl with q | q
  · exact h l q
  · rw [q]; exact hx
end Go.Proofs.YtknngjdcbldmgaaDoor
