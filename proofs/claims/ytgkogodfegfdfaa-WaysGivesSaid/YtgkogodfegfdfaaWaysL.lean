/- What Put gives up: the plain law. No walk. -/
import Derived.Test.YtgkogodfegfdfaaWaysJ
namespace Go.Proofs.Ytgkogodfegfdfaa
set_option linter.unusedVariables false
set_option linter.unusedSimpArgs false
open Go.RowKit

def TurnOk (S : WS) (R : WS × Nat) : Prop := R.2 < 4 ∧ (∀ k, k < 4 → R.1.sl k = S.sl k) ∧ (∀ k, k < 4 → R.1.tc k = true → S.tc k = true) ∧ (S.tc R.2 = true → ∀ k, k < 4 → S.tc k = true)
theorem four {P : Nat → Prop} (h0 : P 0) (h1 : P 1) (h2 : P 2) (h3 : P 3) : ∀ k, k < 4 → P k := fun k hk => by
  rcases (by omega : k = 0 ∨ k = 1 ∨ k = 2 ∨ k = 3) with rfl | rfl | rfl | rfl <;> assumption
set_option maxHeartbeats 8000000 in
theorem turn_ok (S : WS) (h0 : 0 ≤ S.hd) (h1 : S.hd < 4) : TurnOk S (turn 8 S) := by
  obtain ⟨s0, s1, s2, s3, t0, t1, t2, t3, hd, tu⟩ := S
  dsimp only at h0 h1
  rcases (by omega : hd = 0 ∨ hd = 1 ∨ hd = 2 ∨ hd = 3) with rfl | rfl | rfl | rfl <;> cases t0 <;> cases t1 <;> cases t2 <;> cases t3
  · rw [show turn 8 ⟨s0, s1, s2, s3, false, false, false, false, 0, tu⟩ = (⟨s0, s1, s2, s3, false, false, false, false, 1, tu⟩, 0) from rfl]; exact ⟨(by decide : 0 < 4), four rfl rfl rfl rfl, four (fun (q : false = true) => Bool.noConfusion q) (fun (q : false = true) => Bool.noConfusion q) (fun (q : false = true) => Bool.noConfusion q) (fun (q : false = true) => Bool.noConfusion q), fun (q : false = true) => Bool.noConfusion q⟩
  · rw [show turn 8 ⟨s0, s1, s2, s3, false, false, false, true, 0, tu⟩ = (⟨s0, s1, s2, s3, false, false, false, true, 1, tu⟩, 0) from rfl]; exact ⟨(by decide : 0 < 4), four rfl rfl rfl rfl, four (fun (q : false = true) => Bool.noConfusion q) (fun (q : false = true) => Bool.noConfusion q) (fun (q : false = true) => Bool.noConfusion q) (fun _ => rfl), fun (q : false = true) => Bool.noConfusion q⟩
  · rw [show turn 8 ⟨s0, s1, s2, s3, false, false, true, false, 0, tu⟩ = (⟨s0, s1, s2, s3, false, false, true, false, 1, tu⟩, 0) from rfl]; exact ⟨(by decide : 0 < 4), four rfl rfl rfl rfl, four (fun (q : false = true) => Bool.noConfusion q) (fun (q : false = true) => Bool.noConfusion q) (fun _ => rfl) (fun (q : false = true) => Bool.noConfusion q), fun (q : false = true) => Bool.noConfusion q⟩
  · rw [show turn 8 ⟨s0, s1, s2, s3, false, false, true, true, 0, tu⟩ = (⟨s0, s1, s2, s3, false, false, true, true, 1, tu⟩, 0) from rfl]; exact ⟨(by decide : 0 < 4), four rfl rfl rfl rfl, four (fun (q : false = true) => Bool.noConfusion q) (fun (q : false = true) => Bool.noConfusion q) (fun _ => rfl) (fun _ => rfl), fun (q : false = true) => Bool.noConfusion q⟩
  · rw [show turn 8 ⟨s0, s1, s2, s3, false, true, false, false, 0, tu⟩ = (⟨s0, s1, s2, s3, false, true, false, false, 1, tu⟩, 0) from rfl]; exact ⟨(by decide : 0 < 4), four rfl rfl rfl rfl, four (fun (q : false = true) => Bool.noConfusion q) (fun _ => rfl) (fun (q : false = true) => Bool.noConfusion q) (fun (q : false = true) => Bool.noConfusion q), fun (q : false = true) => Bool.noConfusion q⟩
  · rw [show turn 8 ⟨s0, s1, s2, s3, false, true, false, true, 0, tu⟩ = (⟨s0, s1, s2, s3, false, true, false, true, 1, tu⟩, 0) from rfl]; exact ⟨(by decide : 0 < 4), four rfl rfl rfl rfl, four (fun (q : false = true) => Bool.noConfusion q) (fun _ => rfl) (fun (q : false = true) => Bool.noConfusion q) (fun _ => rfl), fun (q : false = true) => Bool.noConfusion q⟩
  · rw [show turn 8 ⟨s0, s1, s2, s3, false, true, true, false, 0, tu⟩ = (⟨s0, s1, s2, s3, false, true, true, false, 1, tu⟩, 0) from rfl]; exact ⟨(by decide : 0 < 4), four rfl rfl rfl rfl, four (fun (q : false = true) => Bool.noConfusion q) (fun _ => rfl) (fun _ => rfl) (fun (q : false = true) => Bool.noConfusion q), fun (q : false = true) => Bool.noConfusion q⟩
  · rw [show turn 8 ⟨s0, s1, s2, s3, false, true, true, true, 0, tu⟩ = (⟨s0, s1, s2, s3, false, true, true, true, 1, tu⟩, 0) from rfl]; exact ⟨(by decide : 0 < 4), four rfl rfl rfl rfl, four (fun (q : false = true) => Bool.noConfusion q) (fun _ => rfl) (fun _ => rfl) (fun _ => rfl), fun (q : false = true) => Bool.noConfusion q⟩
  · rw [show turn 8 ⟨s0, s1, s2, s3, true, false, false, false, 0, tu⟩ = (⟨s0, s1, s2, s3, false, false, false, false, 2, tu⟩, 1) from rfl]; exact ⟨(by decide : 1 < 4), four rfl rfl rfl rfl, four (fun (q : false = true) => Bool.noConfusion q) (fun (q : false = true) => Bool.noConfusion q) (fun (q : false = true) => Bool.noConfusion q) (fun (q : false = true) => Bool.noConfusion q), fun (q : false = true) => Bool.noConfusion q⟩
  · rw [show turn 8 ⟨s0, s1, s2, s3, true, false, false, true, 0, tu⟩ = (⟨s0, s1, s2, s3, false, false, false, true, 2, tu⟩, 1) from rfl]; exact ⟨(by decide : 1 < 4), four rfl rfl rfl rfl, four (fun (q : false = true) => Bool.noConfusion q) (fun (q : false = true) => Bool.noConfusion q) (fun (q : false = true) => Bool.noConfusion q) (fun _ => rfl), fun (q : false = true) => Bool.noConfusion q⟩
  · rw [show turn 8 ⟨s0, s1, s2, s3, true, false, true, false, 0, tu⟩ = (⟨s0, s1, s2, s3, false, false, true, false, 2, tu⟩, 1) from rfl]; exact ⟨(by decide : 1 < 4), four rfl rfl rfl rfl, four (fun (q : false = true) => Bool.noConfusion q) (fun (q : false = true) => Bool.noConfusion q) (fun _ => rfl) (fun (q : false = true) => Bool.noConfusion q), fun (q : false = true) => Bool.noConfusion q⟩
  · rw [show turn 8 ⟨s0, s1, s2, s3, true, false, true, true, 0, tu⟩ = (⟨s0, s1, s2, s3, false, false, true, true, 2, tu⟩, 1) from rfl]; exact ⟨(by decide : 1 < 4), four rfl rfl rfl rfl, four (fun (q : false = true) => Bool.noConfusion q) (fun (q : false = true) => Bool.noConfusion q) (fun _ => rfl) (fun _ => rfl), fun (q : false = true) => Bool.noConfusion q⟩
  · rw [show turn 8 ⟨s0, s1, s2, s3, true, true, false, false, 0, tu⟩ = (⟨s0, s1, s2, s3, false, false, false, false, 3, tu⟩, 2) from rfl]; exact ⟨(by decide : 2 < 4), four rfl rfl rfl rfl, four (fun (q : false = true) => Bool.noConfusion q) (fun (q : false = true) => Bool.noConfusion q) (fun (q : false = true) => Bool.noConfusion q) (fun (q : false = true) => Bool.noConfusion q), fun (q : false = true) => Bool.noConfusion q⟩
  · rw [show turn 8 ⟨s0, s1, s2, s3, true, true, false, true, 0, tu⟩ = (⟨s0, s1, s2, s3, false, false, false, true, 3, tu⟩, 2) from rfl]; exact ⟨(by decide : 2 < 4), four rfl rfl rfl rfl, four (fun (q : false = true) => Bool.noConfusion q) (fun (q : false = true) => Bool.noConfusion q) (fun (q : false = true) => Bool.noConfusion q) (fun _ => rfl), fun (q : false = true) => Bool.noConfusion q⟩
  · rw [show turn 8 ⟨s0, s1, s2, s3, true, true, true, false, 0, tu⟩ = (⟨s0, s1, s2, s3, false, false, false, false, 0, tu⟩, 3) from rfl]; exact ⟨(by decide : 3 < 4), four rfl rfl rfl rfl, four (fun (q : false = true) => Bool.noConfusion q) (fun (q : false = true) => Bool.noConfusion q) (fun (q : false = true) => Bool.noConfusion q) (fun (q : false = true) => Bool.noConfusion q), fun (q : false = true) => Bool.noConfusion q⟩
  · rw [show turn 8 ⟨s0, s1, s2, s3, true, true, true, true, 0, tu⟩ = (⟨s0, s1, s2, s3, false, false, false, false, 1, tu⟩, 0) from rfl]; exact ⟨(by decide : 0 < 4), four rfl rfl rfl rfl, four (fun (q : false = true) => Bool.noConfusion q) (fun (q : false = true) => Bool.noConfusion q) (fun (q : false = true) => Bool.noConfusion q) (fun (q : false = true) => Bool.noConfusion q), fun _ => four rfl rfl rfl rfl⟩
  · rw [show turn 8 ⟨s0, s1, s2, s3, false, false, false, false, 1, tu⟩ = (⟨s0, s1, s2, s3, false, false, false, false, 2, tu⟩, 1) from rfl]; exact ⟨(by decide : 1 < 4), four rfl rfl rfl rfl, four (fun (q : false = true) => Bool.noConfusion q) (fun (q : false = true) => Bool.noConfusion q) (fun (q : false = true) => Bool.noConfusion q) (fun (q : false = true) => Bool.noConfusion q), fun (q : false = true) => Bool.noConfusion q⟩
  · rw [show turn 8 ⟨s0, s1, s2, s3, false, false, false, true, 1, tu⟩ = (⟨s0, s1, s2, s3, false, false, false, true, 2, tu⟩, 1) from rfl]; exact ⟨(by decide : 1 < 4), four rfl rfl rfl rfl, four (fun (q : false = true) => Bool.noConfusion q) (fun (q : false = true) => Bool.noConfusion q) (fun (q : false = true) => Bool.noConfusion q) (fun _ => rfl), fun (q : false = true) => Bool.noConfusion q⟩
  · rw [show turn 8 ⟨s0, s1, s2, s3, false, false, true, false, 1, tu⟩ = (⟨s0, s1, s2, s3, false, false, true, false, 2, tu⟩, 1) from rfl]; exact ⟨(by decide : 1 < 4), four rfl rfl rfl rfl, four (fun (q : false = true) => Bool.noConfusion q) (fun (q : false = true) => Bool.noConfusion q) (fun _ => rfl) (fun (q : false = true) => Bool.noConfusion q), fun (q : false = true) => Bool.noConfusion q⟩
  · rw [show turn 8 ⟨s0, s1, s2, s3, false, false, true, true, 1, tu⟩ = (⟨s0, s1, s2, s3, false, false, true, true, 2, tu⟩, 1) from rfl]; exact ⟨(by decide : 1 < 4), four rfl rfl rfl rfl, four (fun (q : false = true) => Bool.noConfusion q) (fun (q : false = true) => Bool.noConfusion q) (fun _ => rfl) (fun _ => rfl), fun (q : false = true) => Bool.noConfusion q⟩
  · rw [show turn 8 ⟨s0, s1, s2, s3, false, true, false, false, 1, tu⟩ = (⟨s0, s1, s2, s3, false, false, false, false, 3, tu⟩, 2) from rfl]; exact ⟨(by decide : 2 < 4), four rfl rfl rfl rfl, four (fun (q : false = true) => Bool.noConfusion q) (fun (q : false = true) => Bool.noConfusion q) (fun (q : false = true) => Bool.noConfusion q) (fun (q : false = true) => Bool.noConfusion q), fun (q : false = true) => Bool.noConfusion q⟩
  · rw [show turn 8 ⟨s0, s1, s2, s3, false, true, false, true, 1, tu⟩ = (⟨s0, s1, s2, s3, false, false, false, true, 3, tu⟩, 2) from rfl]; exact ⟨(by decide : 2 < 4), four rfl rfl rfl rfl, four (fun (q : false = true) => Bool.noConfusion q) (fun (q : false = true) => Bool.noConfusion q) (fun (q : false = true) => Bool.noConfusion q) (fun _ => rfl), fun (q : false = true) => Bool.noConfusion q⟩
  · rw [show turn 8 ⟨s0, s1, s2, s3, false, true, true, false, 1, tu⟩ = (⟨s0, s1, s2, s3, false, false, false, false, 0, tu⟩, 3) from rfl]; exact ⟨(by decide : 3 < 4), four rfl rfl rfl rfl, four (fun (q : false = true) => Bool.noConfusion q) (fun (q : false = true) => Bool.noConfusion q) (fun (q : false = true) => Bool.noConfusion q) (fun (q : false = true) => Bool.noConfusion q), fun (q : false = true) => Bool.noConfusion q⟩
  · rw [show turn 8 ⟨s0, s1, s2, s3, false, true, true, true, 1, tu⟩ = (⟨s0, s1, s2, s3, false, false, false, false, 1, tu⟩, 0) from rfl]; exact ⟨(by decide : 0 < 4), four rfl rfl rfl rfl, four (fun (q : false = true) => Bool.noConfusion q) (fun (q : false = true) => Bool.noConfusion q) (fun (q : false = true) => Bool.noConfusion q) (fun (q : false = true) => Bool.noConfusion q), fun (q : false = true) => Bool.noConfusion q⟩
  · rw [show turn 8 ⟨s0, s1, s2, s3, true, false, false, false, 1, tu⟩ = (⟨s0, s1, s2, s3, true, false, false, false, 2, tu⟩, 1) from rfl]; exact ⟨(by decide : 1 < 4), four rfl rfl rfl rfl, four (fun _ => rfl) (fun (q : false = true) => Bool.noConfusion q) (fun (q : false = true) => Bool.noConfusion q) (fun (q : false = true) => Bool.noConfusion q), fun (q : false = true) => Bool.noConfusion q⟩
  · rw [show turn 8 ⟨s0, s1, s2, s3, true, false, false, true, 1, tu⟩ = (⟨s0, s1, s2, s3, true, false, false, true, 2, tu⟩, 1) from rfl]; exact ⟨(by decide : 1 < 4), four rfl rfl rfl rfl, four (fun _ => rfl) (fun (q : false = true) => Bool.noConfusion q) (fun (q : false = true) => Bool.noConfusion q) (fun _ => rfl), fun (q : false = true) => Bool.noConfusion q⟩
  · rw [show turn 8 ⟨s0, s1, s2, s3, true, false, true, false, 1, tu⟩ = (⟨s0, s1, s2, s3, true, false, true, false, 2, tu⟩, 1) from rfl]; exact ⟨(by decide : 1 < 4), four rfl rfl rfl rfl, four (fun _ => rfl) (fun (q : false = true) => Bool.noConfusion q) (fun _ => rfl) (fun (q : false = true) => Bool.noConfusion q), fun (q : false = true) => Bool.noConfusion q⟩
  · rw [show turn 8 ⟨s0, s1, s2, s3, true, false, true, true, 1, tu⟩ = (⟨s0, s1, s2, s3, true, false, true, true, 2, tu⟩, 1) from rfl]; exact ⟨(by decide : 1 < 4), four rfl rfl rfl rfl, four (fun _ => rfl) (fun (q : false = true) => Bool.noConfusion q) (fun _ => rfl) (fun _ => rfl), fun (q : false = true) => Bool.noConfusion q⟩
  · rw [show turn 8 ⟨s0, s1, s2, s3, true, true, false, false, 1, tu⟩ = (⟨s0, s1, s2, s3, true, false, false, false, 3, tu⟩, 2) from rfl]; exact ⟨(by decide : 2 < 4), four rfl rfl rfl rfl, four (fun _ => rfl) (fun (q : false = true) => Bool.noConfusion q) (fun (q : false = true) => Bool.noConfusion q) (fun (q : false = true) => Bool.noConfusion q), fun (q : false = true) => Bool.noConfusion q⟩
  · rw [show turn 8 ⟨s0, s1, s2, s3, true, true, false, true, 1, tu⟩ = (⟨s0, s1, s2, s3, true, false, false, true, 3, tu⟩, 2) from rfl]; exact ⟨(by decide : 2 < 4), four rfl rfl rfl rfl, four (fun _ => rfl) (fun (q : false = true) => Bool.noConfusion q) (fun (q : false = true) => Bool.noConfusion q) (fun _ => rfl), fun (q : false = true) => Bool.noConfusion q⟩
  · rw [show turn 8 ⟨s0, s1, s2, s3, true, true, true, false, 1, tu⟩ = (⟨s0, s1, s2, s3, true, false, false, false, 0, tu⟩, 3) from rfl]; exact ⟨(by decide : 3 < 4), four rfl rfl rfl rfl, four (fun _ => rfl) (fun (q : false = true) => Bool.noConfusion q) (fun (q : false = true) => Bool.noConfusion q) (fun (q : false = true) => Bool.noConfusion q), fun (q : false = true) => Bool.noConfusion q⟩
  · rw [show turn 8 ⟨s0, s1, s2, s3, true, true, true, true, 1, tu⟩ = (⟨s0, s1, s2, s3, false, false, false, false, 2, tu⟩, 1) from rfl]; exact ⟨(by decide : 1 < 4), four rfl rfl rfl rfl, four (fun (q : false = true) => Bool.noConfusion q) (fun (q : false = true) => Bool.noConfusion q) (fun (q : false = true) => Bool.noConfusion q) (fun (q : false = true) => Bool.noConfusion q), fun _ => four rfl rfl rfl rfl⟩
  · rw [show turn 8 ⟨s0, s1, s2, s3, false, false, false, false, 2, tu⟩ = (⟨s0, s1, s2, s3, false, false, false, false, 3, tu⟩, 2) from rfl]; exact ⟨(by decide : 2 < 4), four rfl rfl rfl rfl, four (fun (q : false = true) => Bool.noConfusion q) (fun (q : false = true) => Bool.noConfusion q) (fun (q : false = true) => Bool.noConfusion q) (fun (q : false = true) => Bool.noConfusion q), fun (q : false = true) => Bool.noConfusion q⟩
  · rw [show turn 8 ⟨s0, s1, s2, s3, false, false, false, true, 2, tu⟩ = (⟨s0, s1, s2, s3, false, false, false, true, 3, tu⟩, 2) from rfl]; exact ⟨(by decide : 2 < 4), four rfl rfl rfl rfl, four (fun (q : false = true) => Bool.noConfusion q) (fun (q : false = true) => Bool.noConfusion q) (fun (q : false = true) => Bool.noConfusion q) (fun _ => rfl), fun (q : false = true) => Bool.noConfusion q⟩
  · rw [show turn 8 ⟨s0, s1, s2, s3, false, false, true, false, 2, tu⟩ = (⟨s0, s1, s2, s3, false, false, false, false, 0, tu⟩, 3) from rfl]; exact ⟨(by decide : 3 < 4), four rfl rfl rfl rfl, four (fun (q : false = true) => Bool.noConfusion q) (fun (q : false = true) => Bool.noConfusion q) (fun (q : false = true) => Bool.noConfusion q) (fun (q : false = true) => Bool.noConfusion q), fun (q : false = true) => Bool.noConfusion q⟩
  · rw [show turn 8 ⟨s0, s1, s2, s3, false, false, true, true, 2, tu⟩ = (⟨s0, s1, s2, s3, false, false, false, false, 1, tu⟩, 0) from rfl]; exact ⟨(by decide : 0 < 4), four rfl rfl rfl rfl, four (fun (q : false = true) => Bool.noConfusion q) (fun (q : false = true) => Bool.noConfusion q) (fun (q : false = true) => Bool.noConfusion q) (fun (q : false = true) => Bool.noConfusion q), fun (q : false = true) => Bool.noConfusion q⟩
  · rw [show turn 8 ⟨s0, s1, s2, s3, false, true, false, false, 2, tu⟩ = (⟨s0, s1, s2, s3, false, true, false, false, 3, tu⟩, 2) from rfl]; exact ⟨(by decide : 2 < 4), four rfl rfl rfl rfl, four (fun (q : false = true) => Bool.noConfusion q) (fun _ => rfl) (fun (q : false = true) => Bool.noConfusion q) (fun (q : false = true) => Bool.noConfusion q), fun (q : false = true) => Bool.noConfusion q⟩
  · rw [show turn 8 ⟨s0, s1, s2, s3, false, true, false, true, 2, tu⟩ = (⟨s0, s1, s2, s3, false, true, false, true, 3, tu⟩, 2) from rfl]; exact ⟨(by decide : 2 < 4), four rfl rfl rfl rfl, four (fun (q : false = true) => Bool.noConfusion q) (fun _ => rfl) (fun (q : false = true) => Bool.noConfusion q) (fun _ => rfl), fun (q : false = true) => Bool.noConfusion q⟩
  · rw [show turn 8 ⟨s0, s1, s2, s3, false, true, true, false, 2, tu⟩ = (⟨s0, s1, s2, s3, false, true, false, false, 0, tu⟩, 3) from rfl]; exact ⟨(by decide : 3 < 4), four rfl rfl rfl rfl, four (fun (q : false = true) => Bool.noConfusion q) (fun _ => rfl) (fun (q : false = true) => Bool.noConfusion q) (fun (q : false = true) => Bool.noConfusion q), fun (q : false = true) => Bool.noConfusion q⟩
  · rw [show turn 8 ⟨s0, s1, s2, s3, false, true, true, true, 2, tu⟩ = (⟨s0, s1, s2, s3, false, true, false, false, 1, tu⟩, 0) from rfl]; exact ⟨(by decide : 0 < 4), four rfl rfl rfl rfl, four (fun (q : false = true) => Bool.noConfusion q) (fun _ => rfl) (fun (q : false = true) => Bool.noConfusion q) (fun (q : false = true) => Bool.noConfusion q), fun (q : false = true) => Bool.noConfusion q⟩
  · rw [show turn 8 ⟨s0, s1, s2, s3, true, false, false, false, 2, tu⟩ = (⟨s0, s1, s2, s3, true, false, false, false, 3, tu⟩, 2) from rfl]; exact ⟨(by decide : 2 < 4), four rfl rfl rfl rfl, four (fun _ => rfl) (fun (q : false = true) => Bool.noConfusion q) (fun (q : false = true) => Bool.noConfusion q) (fun (q : false = true) => Bool.noConfusion q), fun (q : false = true) => Bool.noConfusion q⟩
  · rw [show turn 8 ⟨s0, s1, s2, s3, true, false, false, true, 2, tu⟩ = (⟨s0, s1, s2, s3, true, false, false, true, 3, tu⟩, 2) from rfl]; exact ⟨(by decide : 2 < 4), four rfl rfl rfl rfl, four (fun _ => rfl) (fun (q : false = true) => Bool.noConfusion q) (fun (q : false = true) => Bool.noConfusion q) (fun _ => rfl), fun (q : false = true) => Bool.noConfusion q⟩
  · rw [show turn 8 ⟨s0, s1, s2, s3, true, false, true, false, 2, tu⟩ = (⟨s0, s1, s2, s3, true, false, false, false, 0, tu⟩, 3) from rfl]; exact ⟨(by decide : 3 < 4), four rfl rfl rfl rfl, four (fun _ => rfl) (fun (q : false = true) => Bool.noConfusion q) (fun (q : false = true) => Bool.noConfusion q) (fun (q : false = true) => Bool.noConfusion q), fun (q : false = true) => Bool.noConfusion q⟩
  · rw [show turn 8 ⟨s0, s1, s2, s3, true, false, true, true, 2, tu⟩ = (⟨s0, s1, s2, s3, false, false, false, false, 2, tu⟩, 1) from rfl]; exact ⟨(by decide : 1 < 4), four rfl rfl rfl rfl, four (fun (q : false = true) => Bool.noConfusion q) (fun (q : false = true) => Bool.noConfusion q) (fun (q : false = true) => Bool.noConfusion q) (fun (q : false = true) => Bool.noConfusion q), fun (q : false = true) => Bool.noConfusion q⟩
  · rw [show turn 8 ⟨s0, s1, s2, s3, true, true, false, false, 2, tu⟩ = (⟨s0, s1, s2, s3, true, true, false, false, 3, tu⟩, 2) from rfl]; exact ⟨(by decide : 2 < 4), four rfl rfl rfl rfl, four (fun _ => rfl) (fun _ => rfl) (fun (q : false = true) => Bool.noConfusion q) (fun (q : false = true) => Bool.noConfusion q), fun (q : false = true) => Bool.noConfusion q⟩
  · rw [show turn 8 ⟨s0, s1, s2, s3, true, true, false, true, 2, tu⟩ = (⟨s0, s1, s2, s3, true, true, false, true, 3, tu⟩, 2) from rfl]; exact ⟨(by decide : 2 < 4), four rfl rfl rfl rfl, four (fun _ => rfl) (fun _ => rfl) (fun (q : false = true) => Bool.noConfusion q) (fun _ => rfl), fun (q : false = true) => Bool.noConfusion q⟩
  · rw [show turn 8 ⟨s0, s1, s2, s3, true, true, true, false, 2, tu⟩ = (⟨s0, s1, s2, s3, true, true, false, false, 0, tu⟩, 3) from rfl]; exact ⟨(by decide : 3 < 4), four rfl rfl rfl rfl, four (fun _ => rfl) (fun _ => rfl) (fun (q : false = true) => Bool.noConfusion q) (fun (q : false = true) => Bool.noConfusion q), fun (q : false = true) => Bool.noConfusion q⟩
  · rw [show turn 8 ⟨s0, s1, s2, s3, true, true, true, true, 2, tu⟩ = (⟨s0, s1, s2, s3, false, false, false, false, 3, tu⟩, 2) from rfl]; exact ⟨(by decide : 2 < 4), four rfl rfl rfl rfl, four (fun (q : false = true) => Bool.noConfusion q) (fun (q : false = true) => Bool.noConfusion q) (fun (q : false = true) => Bool.noConfusion q) (fun (q : false = true) => Bool.noConfusion q), fun _ => four rfl rfl rfl rfl⟩
  · rw [show turn 8 ⟨s0, s1, s2, s3, false, false, false, false, 3, tu⟩ = (⟨s0, s1, s2, s3, false, false, false, false, 0, tu⟩, 3) from rfl]; exact ⟨(by decide : 3 < 4), four rfl rfl rfl rfl, four (fun (q : false = true) => Bool.noConfusion q) (fun (q : false = true) => Bool.noConfusion q) (fun (q : false = true) => Bool.noConfusion q) (fun (q : false = true) => Bool.noConfusion q), fun (q : false = true) => Bool.noConfusion q⟩
  · rw [show turn 8 ⟨s0, s1, s2, s3, false, false, false, true, 3, tu⟩ = (⟨s0, s1, s2, s3, false, false, false, false, 1, tu⟩, 0) from rfl]; exact ⟨(by decide : 0 < 4), four rfl rfl rfl rfl, four (fun (q : false = true) => Bool.noConfusion q) (fun (q : false = true) => Bool.noConfusion q) (fun (q : false = true) => Bool.noConfusion q) (fun (q : false = true) => Bool.noConfusion q), fun (q : false = true) => Bool.noConfusion q⟩
  · rw [show turn 8 ⟨s0, s1, s2, s3, false, false, true, false, 3, tu⟩ = (⟨s0, s1, s2, s3, false, false, true, false, 0, tu⟩, 3) from rfl]; exact ⟨(by decide : 3 < 4), four rfl rfl rfl rfl, four (fun (q : false = true) => Bool.noConfusion q) (fun (q : false = true) => Bool.noConfusion q) (fun _ => rfl) (fun (q : false = true) => Bool.noConfusion q), fun (q : false = true) => Bool.noConfusion q⟩
  · rw [show turn 8 ⟨s0, s1, s2, s3, false, false, true, true, 3, tu⟩ = (⟨s0, s1, s2, s3, false, false, true, false, 1, tu⟩, 0) from rfl]; exact ⟨(by decide : 0 < 4), four rfl rfl rfl rfl, four (fun (q : false = true) => Bool.noConfusion q) (fun (q : false = true) => Bool.noConfusion q) (fun _ => rfl) (fun (q : false = true) => Bool.noConfusion q), fun (q : false = true) => Bool.noConfusion q⟩
  · rw [show turn 8 ⟨s0, s1, s2, s3, false, true, false, false, 3, tu⟩ = (⟨s0, s1, s2, s3, false, true, false, false, 0, tu⟩, 3) from rfl]; exact ⟨(by decide : 3 < 4), four rfl rfl rfl rfl, four (fun (q : false = true) => Bool.noConfusion q) (fun _ => rfl) (fun (q : false = true) => Bool.noConfusion q) (fun (q : false = true) => Bool.noConfusion q), fun (q : false = true) => Bool.noConfusion q⟩
  · rw [show turn 8 ⟨s0, s1, s2, s3, false, true, false, true, 3, tu⟩ = (⟨s0, s1, s2, s3, false, true, false, false, 1, tu⟩, 0) from rfl]; exact ⟨(by decide : 0 < 4), four rfl rfl rfl rfl, four (fun (q : false = true) => Bool.noConfusion q) (fun _ => rfl) (fun (q : false = true) => Bool.noConfusion q) (fun (q : false = true) => Bool.noConfusion q), fun (q : false = true) => Bool.noConfusion q⟩
  · rw [show turn 8 ⟨s0, s1, s2, s3, false, true, true, false, 3, tu⟩ = (⟨s0, s1, s2, s3, false, true, true, false, 0, tu⟩, 3) from rfl]; exact ⟨(by decide : 3 < 4), four rfl rfl rfl rfl, four (fun (q : false = true) => Bool.noConfusion q) (fun _ => rfl) (fun _ => rfl) (fun (q : false = true) => Bool.noConfusion q), fun (q : false = true) => Bool.noConfusion q⟩
  · rw [show turn 8 ⟨s0, s1, s2, s3, false, true, true, true, 3, tu⟩ = (⟨s0, s1, s2, s3, false, true, true, false, 1, tu⟩, 0) from rfl]; exact ⟨(by decide : 0 < 4), four rfl rfl rfl rfl, four (fun (q : false = true) => Bool.noConfusion q) (fun _ => rfl) (fun _ => rfl) (fun (q : false = true) => Bool.noConfusion q), fun (q : false = true) => Bool.noConfusion q⟩
  · rw [show turn 8 ⟨s0, s1, s2, s3, true, false, false, false, 3, tu⟩ = (⟨s0, s1, s2, s3, true, false, false, false, 0, tu⟩, 3) from rfl]; exact ⟨(by decide : 3 < 4), four rfl rfl rfl rfl, four (fun _ => rfl) (fun (q : false = true) => Bool.noConfusion q) (fun (q : false = true) => Bool.noConfusion q) (fun (q : false = true) => Bool.noConfusion q), fun (q : false = true) => Bool.noConfusion q⟩
  · rw [show turn 8 ⟨s0, s1, s2, s3, true, false, false, true, 3, tu⟩ = (⟨s0, s1, s2, s3, false, false, false, false, 2, tu⟩, 1) from rfl]; exact ⟨(by decide : 1 < 4), four rfl rfl rfl rfl, four (fun (q : false = true) => Bool.noConfusion q) (fun (q : false = true) => Bool.noConfusion q) (fun (q : false = true) => Bool.noConfusion q) (fun (q : false = true) => Bool.noConfusion q), fun (q : false = true) => Bool.noConfusion q⟩
  · rw [show turn 8 ⟨s0, s1, s2, s3, true, false, true, false, 3, tu⟩ = (⟨s0, s1, s2, s3, true, false, true, false, 0, tu⟩, 3) from rfl]; exact ⟨(by decide : 3 < 4), four rfl rfl rfl rfl, four (fun _ => rfl) (fun (q : false = true) => Bool.noConfusion q) (fun _ => rfl) (fun (q : false = true) => Bool.noConfusion q), fun (q : false = true) => Bool.noConfusion q⟩
  · rw [show turn 8 ⟨s0, s1, s2, s3, true, false, true, true, 3, tu⟩ = (⟨s0, s1, s2, s3, false, false, true, false, 2, tu⟩, 1) from rfl]; exact ⟨(by decide : 1 < 4), four rfl rfl rfl rfl, four (fun (q : false = true) => Bool.noConfusion q) (fun (q : false = true) => Bool.noConfusion q) (fun _ => rfl) (fun (q : false = true) => Bool.noConfusion q), fun (q : false = true) => Bool.noConfusion q⟩
  · rw [show turn 8 ⟨s0, s1, s2, s3, true, true, false, false, 3, tu⟩ = (⟨s0, s1, s2, s3, true, true, false, false, 0, tu⟩, 3) from rfl]; exact ⟨(by decide : 3 < 4), four rfl rfl rfl rfl, four (fun _ => rfl) (fun _ => rfl) (fun (q : false = true) => Bool.noConfusion q) (fun (q : false = true) => Bool.noConfusion q), fun (q : false = true) => Bool.noConfusion q⟩
  · rw [show turn 8 ⟨s0, s1, s2, s3, true, true, false, true, 3, tu⟩ = (⟨s0, s1, s2, s3, false, false, false, false, 3, tu⟩, 2) from rfl]; exact ⟨(by decide : 2 < 4), four rfl rfl rfl rfl, four (fun (q : false = true) => Bool.noConfusion q) (fun (q : false = true) => Bool.noConfusion q) (fun (q : false = true) => Bool.noConfusion q) (fun (q : false = true) => Bool.noConfusion q), fun (q : false = true) => Bool.noConfusion q⟩
  · rw [show turn 8 ⟨s0, s1, s2, s3, true, true, true, false, 3, tu⟩ = (⟨s0, s1, s2, s3, true, true, true, false, 0, tu⟩, 3) from rfl]; exact ⟨(by decide : 3 < 4), four rfl rfl rfl rfl, four (fun _ => rfl) (fun _ => rfl) (fun _ => rfl) (fun (q : false = true) => Bool.noConfusion q), fun (q : false = true) => Bool.noConfusion q⟩
  · rw [show turn 8 ⟨s0, s1, s2, s3, true, true, true, true, 3, tu⟩ = (⟨s0, s1, s2, s3, false, false, false, false, 0, tu⟩, 3) from rfl]; exact ⟨(by decide : 3 < 4), four rfl rfl rfl rfl, four (fun (q : false = true) => Bool.noConfusion q) (fun (q : false = true) => Bool.noConfusion q) (fun (q : false = true) => Bool.noConfusion q) (fun (q : false = true) => Bool.noConfusion q), fun _ => four rfl rfl rfl rfl⟩

/-- Of the place where a new one goes. -/
structure PlaceOk (S : WS) : Prop where
  lt : S.place.2 < 4
  sl : ∀ k, k < 4 → S.place.1.sl k = S.sl k
  tc : ∀ k, k < 4 → S.place.1.tc k = true → S.tc k = true
  zero : ∀ k, k < 4 → S.sl k = 0 → S.was = 0
  all : S.was ≠ 0 → S.tc S.place.2 = true → ∀ k, k < 4 → S.tc k = true
theorem norm_sl (S : WS) (k : Nat) : S.norm.sl k = S.sl k := by unfold WS.norm; split <;> rfl
theorem norm_tc (S : WS) (k : Nat) : S.norm.tc k = S.tc k := by unfold WS.norm; split <;> rfl
theorem place_ok (S : WS) : PlaceOk S := by
  have hz : ∀ j, j < 4 → S.place = (S, j) → S.sl j = 0 → PlaceOk S := fun j hj e hs => by
    have hw : S.was = 0 := by unfold WS.was; rw [e]; exact hs
    exact ⟨by rw [e]; exact hj, fun k _ => by rw [e], fun k _ h => by rw [e] at h; exact h, fun _ _ _ => hw, fun q => absurd hw q⟩
  by_cases h0 : S.s0 = 0
  · exact hz 0 (by decide) (by unfold WS.place; rw [if_pos h0]) h0
  by_cases h1 : S.s1 = 0
  · exact hz 1 (by decide) (by unfold WS.place; rw [if_neg h0, if_pos h1]) h1
  by_cases h2 : S.s2 = 0
  · exact hz 2 (by decide) (by unfold WS.place; rw [if_neg h0, if_neg h1, if_pos h2]) h2
  by_cases h3 : S.s3 = 0
  · exact hz 3 (by decide) (by unfold WS.place; rw [if_neg h0, if_neg h1, if_neg h2, if_pos h3]) h3
  have e : S.place = turn 8 S.norm := by unfold WS.place; rw [if_neg h0, if_neg h1, if_neg h2, if_neg h3]
  obtain ⟨a, b, c, d⟩ := turn_ok S.norm (norm_hd S).1 (norm_hd S).2
  rw [← e] at a b c d
  refine ⟨a, fun k hk => by rw [b k hk, norm_sl], fun k hk h => by have := c k hk h; rwa [norm_tc] at this, ?_, fun _ ht k hk => by have := d (by rw [norm_tc]; exact ht) k hk; rwa [norm_tc] at this⟩
  intro k hk hs
  rcases (by omega : k = 0 ∨ k = 1 ∨ k = 2 ∨ k = 3) with rfl | rfl | rfl | rfl
  · exact absurd hs h0
  · exact absurd hs h1
  · exact absurd hs h2
  · exact absurd hs h3
/-- Of what Put makes. -/
structure PutOk (S : WS) (x : Int) (T : WS) (N : Nat) (was : Int) : Prop where
  lt : N < 4
  at_ : T.sl N = x
  on : T.tc N = true
  was_ : S.sl N = was
  zero : ∀ k, k < 4 → S.sl k = 0 → was = 0
  all : was ≠ 0 → S.tc N = true → ∀ k, k < 4 → S.tc k = true
  sl : ∀ k, k < 4 → k ≠ N → T.sl k = S.sl k
  tc : ∀ k, k < 4 → k ≠ N → T.tc k = true → S.tc k = true
theorem put_sl (S : WS) (x : Int) (b : Bool) {N k : Nat} (hN : N < 4) (hk : k < 4) (tu : Int) : (WS.sl { S.put N x b with tu := tu } k = if k = N then x else S.sl k) ∧ (WS.tc { S.put N x b with tu := tu } k = if k = N then b else S.tc k) := by
  rcases (by omega : N = 0 ∨ N = 1 ∨ N = 2 ∨ N = 3) with rfl | rfl | rfl | rfl <;> rcases (by omega : k = 0 ∨ k = 1 ∨ k = 2 ∨ k = 3) with rfl | rfl | rfl | rfl <;> exact ⟨rfl, rfl⟩
theorem put_ok (S : WS) (x : Int) : PutOk S x (S.putS x) S.place.2 S.was := by
  have p := place_ok S
  have e : S.putS x = { S.place.1.put S.place.2 x true with tu := up1 S.place.1.tu } := with_in p.lt x true
  refine ⟨p.lt, ?_, ?_, ?_, p.zero, p.all, fun k hk hne => ?_, fun k hk hne h => ?_⟩
  · rw [e, (put_sl _ x true p.lt p.lt _).1, if_pos rfl]
  · rw [e, (put_sl _ x true p.lt p.lt _).2, if_pos rfl]
  · exact (p.sl _ p.lt).symm
  · rw [e, (put_sl _ x true p.lt hk _).1, if_neg hne, p.sl k hk]
  · rw [e, (put_sl _ x true p.lt hk _).2, if_neg hne] at h
    exact p.tc k hk h
theorem ext_s0 {A s0 c0 s1 c1 s2 c2 s3 c3 r : Nat} (h : r = A * 68719476736 + (s0 + c0 * 256 + s1 * 512 + c1 * 131072 + s2 * 262144 + c2 * 67108864 + s3 * 134217728 + c3 * 34359738368)) (h0 : s0 < 256) : r % 256 = s0 := by omega
theorem ext_c0 {A s0 c0 s1 c1 s2 c2 s3 c3 r : Nat} (h : r = A * 68719476736 + (s0 + c0 * 256 + s1 * 512 + c1 * 131072 + s2 * 262144 + c2 * 67108864 + s3 * 134217728 + c3 * 34359738368)) (h0 : s0 < 256) (h1 : c0 ≤ 1) : r / 256 % 2 = c0 := by omega
theorem ext_s1 {A s0 c0 s1 c1 s2 c2 s3 c3 r : Nat} (h : r = A * 68719476736 + (s0 + c0 * 256 + s1 * 512 + c1 * 131072 + s2 * 262144 + c2 * 67108864 + s3 * 134217728 + c3 * 34359738368)) (h0 : s0 + c0 * 256 < 512) (h1 : s1 < 256) : r / 512 % 256 = s1 := by omega
theorem ext_c1 {A s0 c0 s1 c1 s2 c2 s3 c3 r : Nat} (h : r = A * 68719476736 + (s0 + c0 * 256 + s1 * 512 + c1 * 131072 + s2 * 262144 + c2 * 67108864 + s3 * 134217728 + c3 * 34359738368)) (h0 : s0 + c0 * 256 < 512) (h1 : s1 < 256) (h2 : c1 ≤ 1) : r / 512 / 256 % 2 = c1 := by omega
theorem ext_s2 {A s0 c0 s1 c1 s2 c2 s3 c3 r : Nat} (h : r = A * 68719476736 + (s0 + c0 * 256 + s1 * 512 + c1 * 131072 + s2 * 262144 + c2 * 67108864 + s3 * 134217728 + c3 * 34359738368)) (h0 : s0 + c0 * 256 + s1 * 512 + c1 * 131072 < 262144) (h1 : s2 < 256) : r / 262144 % 256 = s2 := by omega
theorem ext_c2 {A s0 c0 s1 c1 s2 c2 s3 c3 r : Nat} (h : r = A * 68719476736 + (s0 + c0 * 256 + s1 * 512 + c1 * 131072 + s2 * 262144 + c2 * 67108864 + s3 * 134217728 + c3 * 34359738368)) (h0 : s0 + c0 * 256 + s1 * 512 + c1 * 131072 < 262144) (h1 : s2 < 256) (h2 : c2 ≤ 1) : r / 262144 / 256 % 2 = c2 := by omega
theorem ext_s3 {A s0 c0 s1 c1 s2 c2 s3 c3 r : Nat} (h : r = A * 68719476736 + (s0 + c0 * 256 + s1 * 512 + c1 * 131072 + s2 * 262144 + c2 * 67108864 + s3 * 134217728 + c3 * 34359738368)) (h0 : s0 + c0 * 256 + s1 * 512 + c1 * 131072 + s2 * 262144 + c2 * 67108864 < 134217728) (h1 : s3 < 256) : r / 134217728 % 256 = s3 := by omega
theorem ext_c3 {A s0 c0 s1 c1 s2 c2 s3 c3 r : Nat} (h : r = A * 68719476736 + (s0 + c0 * 256 + s1 * 512 + c1 * 131072 + s2 * 262144 + c2 * 67108864 + s3 * 134217728 + c3 * 34359738368)) (h0 : s0 + c0 * 256 + s1 * 512 + c1 * 131072 + s2 * 262144 + c2 * 67108864 < 134217728) (h1 : s3 < 256) (h2 : c3 ≤ 1) : r / 134217728 / 256 % 2 = c3 := by omega
theorem touch_bit (x : Nat) (b : Bool) (e : x / 256 % 2 = b.toNat) : decide (256 ≤ x % 512) = b := by
  cases b
  · exact decide_eq_false (by simp at e; omega)
  · exact decide_eq_true (by simp at e; omega)
theorem slot_int {x : Nat} {s : Int} (h : x = s.toNat) (h0 : 0 ≤ s) : ((x : Nat) : Int) = s := by omega
theorem rk_sum (T : WS) (h : ∀ k, k < 4 → 0 ≤ T.sl k ∧ T.sl k < 256) : ∃ A, rk T 4 = A * 68719476736 + ((T.sl 0).toNat + (T.tc 0).toNat * 256 + (T.sl 1).toNat * 512 + (T.tc 1).toNat * 131072 + (T.sl 2).toNat * 262144 + (T.tc 2).toNat * 67108864 + (T.sl 3).toNat * 134217728 + (T.tc 3).toNat * 34359738368) := by
  have e0 : ∀ k, rk T (k + 1) = rk T k + Fld.u64 (T.sl k) % 256 * 2 ^ (9 * k) + (if T.tc k = true then 2 ^ (9 * k + 8) else 0) := fun k => rfl
  have hu : ∀ k, k < 4 → Fld.u64 (T.sl k) % 256 = (T.sl k).toNat := fun k hk => by
    have := h k hk
    unfold Fld.u64
    omega
  have hb : ∀ (b : Bool) (p : Nat), (if b = true then p else 0) = b.toNat * p := fun b p => by cases b <;> simp
  have p0 : (2 : Nat) ^ (9 * 0) = 1 := by decide
  have p1 : (2 : Nat) ^ (9 * 1) = 512 := by decide
  have p2 : (2 : Nat) ^ (9 * 2) = 262144 := by decide
  have p3 : (2 : Nat) ^ (9 * 3) = 134217728 := by decide
  have p4 : (2 : Nat) ^ (9 * 0 + 8) = 256 := by decide
  have p5 : (2 : Nat) ^ (9 * 1 + 8) = 131072 := by decide
  have p6 : (2 : Nat) ^ (9 * 2 + 8) = 67108864 := by decide
  have p7 : (2 : Nat) ^ (9 * 3 + 8) = 34359738368 := by decide
  have q0 := e0 0
  have q1 := e0 1
  have q2 := e0 2
  have q3 := e0 3
  obtain ⟨A, hA⟩ : ∃ A, rk T 0 = A * 68719476736 := ⟨Fld.u64 T.hd % 4 + T.tu.toNat % 67108864 * 4, by unfold rk; omega⟩
  rw [hu 0 (by decide), hb, p0, p4, hA] at q0
  rw [hu 1 (by decide), hb, p1, p5] at q1
  rw [hu 2 (by decide), hb, p2, p6] at q2
  rw [hu 3 (by decide), hb, p3, p7] at q3
  simp only [Nat.zero_add, Nat.reduceAdd] at q0 q1 q2 q3
  rw [q3, q2, q1, q0]
  exact ⟨A, by omega⟩
theorem rs0 (n : Nat) : (readS n).sl 0 = ((n % 256 : Nat) : Int) := by unfold readS WS.sl; rfl
theorem rs1 (n : Nat) : (readS n).sl 1 = ((n / 512 % 256 : Nat) : Int) := by unfold readS WS.sl; rfl
theorem rs2 (n : Nat) : (readS n).sl 2 = ((n / 262144 % 256 : Nat) : Int) := by unfold readS WS.sl; rfl
theorem rs3 (n : Nat) : (readS n).sl 3 = ((n / 134217728 % 256 : Nat) : Int) := by unfold readS WS.sl; rfl
theorem rt0 (n : Nat) : (readS n).tc 0 = decide (256 ≤ n % 512) := by unfold readS WS.tc; rfl
theorem rt1 (n : Nat) : (readS n).tc 1 = decide (256 ≤ n / 512 % 512) := by unfold readS WS.tc; rfl
theorem rt2 (n : Nat) : (readS n).tc 2 = decide (256 ≤ n / 262144 % 512) := by unfold readS WS.tc; rfl
theorem rt3 (n : Nat) : (readS n).tc 3 = decide (256 ≤ n / 134217728 % 512) := by unfold readS WS.tc; rfl
/-- What was written is read, as to the ways. -/
theorem read_wk (T : WS) (h : ∀ k, k < 4 → 0 ≤ T.sl k ∧ T.sl k < 256) : ∀ k, k < 4 → (readS (wk T 4)).sl k = T.sl k ∧ (readS (wk T 4)).tc k = T.tc k := by
  rw [(wk_rk T 4 (by decide)).1]
  obtain ⟨A, hr⟩ := rk_sum T h
  have hb1 : ∀ b : Bool, b.toNat ≤ 1 := fun b => by cases b <;> decide
  have g0 := h 0 (by decide)
  have g1 := h 1 (by decide)
  have g2 := h 2 (by decide)
  have g3 := h 3 (by decide)
  have b0 := hb1 (T.tc 0)
  have b1 := hb1 (T.tc 1)
  have b2 := hb1 (T.tc 2)
  have b3 := hb1 (T.tc 3)
  generalize rk T 4 = r at *
  have m0 := ext_s0 hr (by omega)
  have m1 := ext_s1 hr (by omega) (by omega)
  have m2 := ext_s2 hr (by omega) (by omega)
  have m3 := ext_s3 hr (by omega) (by omega)
  have n0 := ext_c0 hr (by omega) b0
  have n1 := ext_c1 hr (by omega) (by omega) b1
  have n2 := ext_c2 hr (by omega) (by omega) b2
  have n3 := ext_c3 hr (by omega) (by omega) b3
  clear hr b0 b1 b2 b3 h hb1
  have r0 := slot_int m0 g0.1
  have r1 := slot_int m1 g1.1
  have r2 := slot_int m2 g2.1
  have r3 := slot_int m3 g3.1
  have s0 := touch_bit _ _ n0
  have s1 := touch_bit _ _ n1
  have s2 := touch_bit _ _ n2
  have s3 := touch_bit _ _ n3
  intro k hk
  rcases (by omega : k = 0 ∨ k = 1 ∨ k = 2 ∨ k = 3) with rfl | rfl | rfl | rfl
  · rw [rs0, rt0]
    exact ⟨r0, s0⟩
  · rw [rs1, rt1]
    exact ⟨r1, s1⟩
  · rw [rs2, rt2]
    exact ⟨r2, s2⟩
  · rw [rs3, rt3]
    exact ⟨r3, s3⟩
end Go.Proofs.Ytgkogodfegfdfaa
