/- All shares together have as many opers as are in one. No walk. -/
import Derived.Test.YtpnhpiniflcciaaShareD
namespace Go.Proofs.Ytpnhpiniflcciaa
set_option linter.unusedVariables false
set_option linter.unusedSimpArgs false
open Go.RowKit

/-- Which share an oper is in, as a number. -/
theorem in_iff (x : Opr) {j : Nat} (hj : j < 16) : inShare ((j : Int) / 4) ((j : Int) % 4) x = (whichOk x && decide (whichN x = (j : Int))) := by
  by_cases h : whichOk x = true
  · have h' : 0 ≤ x.op ∧ x.op ≤ 11 ∧ 0 ≤ x.lv ∧ x.lv ≤ 3 := of_decide_eq_true h
    have hN : whichN x = 4 * x.lv + x.op / 3 := if_pos h
    have hp : partOf x.op = x.op / 3 := if_pos ⟨h'.1, h'.2.1⟩
    rw [inShare, h, hN, hp, Bool.true_and, Bool.true_and, Bool.eq_iff_iff]
    simp only [Bool.and_eq_true, beq_iff_eq, decide_eq_true_eq]
    omega
  · have h' : whichOk x = false := by simpa using h
    rw [inShare, h']
    rfl

def cnt (l : List Opr) : Nat → Nat
  | 0 => 0
  | k + 1 => cnt l k + (sh l k).length
def oks (l : List Opr) : Nat := (l.filter whichOk).length

theorem sh_cons (x : Opr) (l : List Opr) {j : Nat} (hj : j < 16) : (sh (x :: l) j).length = (if whichOk x = true ∧ whichN x = (j : Int) then 1 else 0) + (sh l j).length := by
  unfold sh
  rw [List.filter_cons, in_iff x hj]
  by_cases h : whichOk x = true <;> by_cases h2 : whichN x = (j : Int) <;> simp [h, h2] <;> omega
theorem cnt_cons (x : Opr) (l : List Opr) : ∀ k, k ≤ 16 → cnt (x :: l) k = (if whichOk x = true ∧ whichN x < (k : Int) ∧ 0 ≤ whichN x then 1 else 0) + cnt l k
  | 0, _ => by
    simp only [cnt]
    rw [if_neg (by omega)]
  | k + 1, hk => by
    have ih := cnt_cons x l k (by omega)
    simp only [cnt]
    rw [ih, sh_cons x l (by omega)]
    by_cases h : whichOk x = true
    · by_cases h2 : whichN x = (k : Int)
      · rw [if_neg (by omega), if_pos ⟨h, h2⟩, if_pos ⟨h, by omega, by omega⟩]; omega
      · by_cases h3 : whichN x < (k : Int) ∧ 0 ≤ whichN x
        · rw [if_pos ⟨h, h3.1, h3.2⟩, if_neg (by omega), if_pos ⟨h, by omega, h3.2⟩]; omega
        · rw [if_neg (by omega), if_neg (by omega), if_neg (by omega)]; omega
    · rw [if_neg (by simp [h]), if_neg (by simp [h]), if_neg (by simp [h])]; omega
theorem which_range (x : Opr) (h : whichOk x = true) : 0 ≤ whichN x ∧ whichN x ≤ 15 := by
  have h' : 0 ≤ x.op ∧ x.op ≤ 11 ∧ 0 ≤ x.lv ∧ x.lv ≤ 3 := of_decide_eq_true h
  have hN : whichN x = 4 * x.lv + x.op / 3 := if_pos h
  omega
theorem cnt_all : ∀ l : List Opr, cnt l 16 = oks l
  | [] => by decide
  | x :: l => by
    rw [cnt_cons x l 16 (by omega), cnt_all l]
    unfold oks
    by_cases h : whichOk x = true
    · have := which_range x h
      rw [if_pos ⟨h, by omega, this.1⟩, List.filter_cons, if_pos h, List.length_cons]
      omega
    · rw [if_neg (by simp [h]), List.filter_cons, if_neg h]
      omega

theorem filter_at {α : Type} (f : α → Bool) {x : α} : ∀ {l : List α} {k : Nat}, l[k]? = some x → f x = true → (l.filter f)[((l.take k).filter f).length]? = some x
  | [], k, h, _ => by simp at h
  | y :: l, 0, h, hf => by
    obtain rfl : y = x := by simpa using h
    simp [List.filter_cons, hf]
  | y :: l, k + 1, h, hf => by
    have ih := filter_at f (l := l) (k := k) (by simpa using h) hf
    rw [List.take_succ_cons, List.filter_cons, List.filter_cons]
    by_cases hy : f y = true
    · simp only [if_pos hy, List.length_cons, List.getElem?_cons_succ]
      exact ih
    · simp only [if_neg hy]
      exact ih

theorem oks_le (l : List Opr) : oks l ≤ l.length := List.length_filter_le _ _
theorem oks_step {l : List Opr} {k : Nat} {x : Opr} (h : l[k]? = some x) : oks (l.take (k + 1)) = oks (l.take k) + (if whichOk x = true then 1 else 0) := by
  unfold oks
  rw [filter_snoc _ h, List.length_append]
  by_cases hx : whichOk x = true <;> simp [hx]
theorem sh_step {l : List Opr} {k : Nat} {x : Opr} (h : l[k]? = some x) {j : Nat} (hj : j < 16) : (sh (l.take (k + 1)) j).length = (sh (l.take k) j).length + (if whichOk x = true ∧ whichN x = (j : Int) then 1 else 0) := by
  unfold sh
  rw [filter_snoc _ h, List.length_append, in_iff x hj]
  by_cases hx : whichOk x = true <;> by_cases h2 : whichN x = (j : Int) <;> simp [hx, h2]
theorem sh_at {l : List Opr} {k : Nat} {x : Opr} (h : l[k]? = some x) {j : Nat} (hj : j < 16) (h1 : whichOk x = true) (h2 : whichN x = (j : Int)) : (sh l j)[(sh (l.take k) j).length]? = some x :=
  filter_at _ h (by rw [in_iff x hj, h1, h2]; simp)
theorem cnt_le (l : List Opr) : ∀ k, cnt l k ≤ k * l.length
  | 0 => by simp [cnt]
  | k + 1 => by
    have := cnt_le l k
    have h2 : (sh l k).length ≤ l.length := List.length_filter_le _ _
    simp only [cnt]
    rw [Nat.add_mul]
    omega
end Go.Proofs.Ytpnhpiniflcciaa
