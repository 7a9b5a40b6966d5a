/- Threads: the document's step: lemmas. -/
import Derived.Test.YtclhlgeicfhdiaaThreadI
namespace Go.Proofs.Ytclhlgeicfhdiaa
set_option linter.unusedVariables false
set_option linter.unusedSimpArgs false
open Go.RowKit

theorem len16 {l : List Int} (h : l.length = 16) : ∃ a0 a1 a2 a3 a4 a5 a6 a7 a8 a9 a10 a11 a12 a13 a14 a15 : Int, l = [a0, a1, a2, a3, a4, a5, a6, a7, a8, a9, a10, a11, a12, a13, a14, a15] := by
  match l, h with
  | [a0, a1, a2, a3, a4, a5, a6, a7, a8, a9, a10, a11, a12, a13, a14, a15], _ => exact ⟨a0, a1, a2, a3, a4, a5, a6, a7, a8, a9, a10, a11, a12, a13, a14, a15, rfl⟩
theorem pad_take (n : Nat) (l : List Int) : pad n (l.take (min l.length n)) = pad n l := by
  unfold pad
  rw [List.take_take, List.length_take]
  congr 1
  · by_cases h : l.length ≤ n
    · rw [List.take_of_length_le (by omega), List.take_of_length_le h]
    · rw [show min n (min l.length n) = n by omega]
  · congr 1
    omega
theorem pad_step (n k : Nat) (l : List Int) (x : Int) (hk : l[k]? = some x) (hn : k < n) : (pad n (l.take k)).set k x = pad n (l.take (k + 1)) := by
  have hkl := (List.getElem?_eq_some_iff.1 hk).1
  unfold pad
  rw [List.take_of_length_le (by simp; omega), List.take_of_length_le (l := l.take (k + 1)) (by simp; omega), List.take_add_one, hk]
  simp only [Option.toList_some]
  rw [List.set_append_right _ _ (by simp; omega), List.append_assoc]
  congr 1
  rw [show n - (l.take k).length = (n - (l.take k ++ [x]).length) + 1 by simp; omega, List.replicate_succ]
  simp [show min k l.length = k by omega]
theorem pad_lt (n k : Nat) (l : List Int) (h : k < n) : ∃ y, (pad n l)[k]? = some y := ⟨_, List.getElem?_eq_getElem (by rw [pad_len]; exact h)⟩
theorem frc_one (f : Fr) : ∀ v ∈ frc f, v.oneCell' = true := by simp [frc, uc, Value.oneCell']
theorem frcs_one (l : List Fr) : ∀ v ∈ l.flatMap frc, v.oneCell' = true := fun v hv => by
  obtain ⟨f, _, h⟩ := List.mem_flatMap.1 hv
  exact frc_one f v h
theorem frcs_len (l : List Fr) (h : ∀ f, f ∈ l → f.r.length = 16) : (l.flatMap frc).length = l.length * 18 := by
  induction l with
  | nil => rfl
  | cons f r ih =>
    rw [List.flatMap_cons, List.length_append, frc_len f (h f (List.mem_cons_self ..)), ih fun g hg => h g (List.mem_cons_of_mem _ hg), List.length_cons]
    omega
theorem own_sl_fr {w : World} {base : Nat} {e : TypeId} {A : Option Addr} {n c : Nat} {l : List Fr} (hl : l.length = n) (h : w.ownsRow base e 18 (.slice A n c) n (l.flatMap frc)) : Sl frc w A n c l := by
  refine ⟨hl, ?_, Rd.of_own h, fun hA => ?_⟩
  · rcases h.2 with ⟨hv, hn⟩ | ⟨g, cap, cur, hv, _, _, hnc, _⟩
    · omega
    · cases hv; exact hnc
  · rcases h.2 with ⟨hv, hn⟩ | ⟨g, cap, cur, hv, _⟩
    · cases hv; exact ⟨rfl, rfl⟩
    · rw [hA] at hv; cases hv
theorem own_blk18 {w : World} {base : Nat} {e : TypeId} {A : Option Addr} {n c : Nat} {xs : List Value} (h : w.ownsRow base e 18 (.slice A n c) n xs) : ∀ ad, A = some ad → base ≤ ad.block ∧ ad.block < w.heap.size := fun ad ha => (own_block h ad ha).2
end Go.Proofs.Ytclhlgeicfhdiaa
