/- What a reader of programs reads, in plain words. -/
import Derived.Test.YtknngjdcbldmgaaDoorScrY
namespace Go.Proofs.YtknngjdcbldmgaaDoor
set_option linter.unusedVariables false
set_option linter.unusedSimpArgs false
open Go.RowKit

def callL (l : List Int) : CV := callX (l.getD 0 0) (l.getD 1 0) (l.getD 2 0) (l.drop 3)
/-- So many calls, and the bytes that are left; or the code. -/
def pCalls : Nat → List Int → Except Int (List CV × List Int)
  | 0, l => .ok ([], l)
  | n + 1, l => if l.length < 35 then .error 4 else if okC (callL l) = false then .error 14 else match pCalls n (l.drop 35) with
    | .ok (xs, r) => .ok (callL l :: xs, r)
    | .error e => .error e
def pProg (l : List Int) : Except Int (List CV × List Int) := match l with
  | [] => .error 4
  | x :: t => if 40 < x then .error 5 else pCalls x.toNat t
theorem call_any {w : World} {B p : Nat} {l : List Int} (h : RB w B p l) (hl : l.length ≤ 900000) (hBw : B ≤ w.heap.size) : Calls Tryd.prog 72 #[.pointer (some ⟨p, 0, none⟩)] w fun e w' => Keeps (fun b => b = p) w w' ∧
    ((l.length < 35 ∧ Pan 4 e) ∨ (35 ≤ l.length ∧ okC (callL l) = false ∧ Pan 14 e) ∨ (35 ≤ l.length ∧ okC (callL l) = true ∧ e = .returned (.agg (cvc (callL l)).toArray) ∧ RB w' B p (l.drop 35))) := by
  by_cases h1 : l.length < 35
  · exact (call_end h h1 hBw).mono fun e w' ⟨a, b⟩ => ⟨b, .inl ⟨h1, a⟩⟩
  · match l, h, hl, h1 with
    | [], _, _, h1 => exact absurd (by decide) h1
    | [_], _, _, h1 => exact absurd (by simp) h1
    | [_, _], _, _, h1 => exact absurd (by simp) h1
    | x0 :: x1 :: x2 :: t, h, hl, h1 =>
      simp only [List.length_cons] at hl h1
      have e : callL (x0 :: x1 :: x2 :: t) = callX x0 x1 x2 t := rfl
      have h2 : 35 ≤ (x0 :: x1 :: x2 :: t).length := by simp only [List.length_cons]; omega
      cases hok : okC (callX x0 x1 x2 t) with
      | false => exact (call_bad h (by omega) (by omega) hBw hok).mono fun e' w' ⟨a, b⟩ => ⟨b, .inr (.inl ⟨h2, by rw [e]; exact hok, a⟩)⟩
      | true => exact (call_yes h (by omega) (by omega) hBw hok).mono fun e' w' ⟨a, b, c⟩ => ⟨c, .inr (.inr ⟨h2, by rw [e]; exact hok, by rw [e]; exact a, b⟩)⟩
end Go.Proofs.YtknngjdcbldmgaaDoor
