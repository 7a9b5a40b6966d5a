/- The law WaysGives. -/
import Derived.Test.YtgkogodfegfdfaaWaysM
namespace Go.Proofs.Ytgkogodfegfdfaa
set_option linter.unusedVariables false
set_option linter.unusedSimpArgs false
open Go.RowKit

theorem readS_sl (n : Nat) : ∀ k, k < 4 → 0 ≤ (readS n).sl k ∧ (readS n).sl k < 256 := by
  refine four ?_ ?_ ?_ ?_
  · rw [rs0]; omega
  · rw [rs1]; omega
  · rw [rs2]; omega
  · rw [rs3]; omega
theorem gives_any (n slot : Int) (hn : U64 n) (w : World) : Calls Try.prog 5 #[.int .u64 n, .int .i64 slot] w fun e w' => e = .returned (.bool true) ∧ Below w.heap.size w w' := by
  by_cases h : slot < 1 ∨ 255 < slot
  · exact gives_lo n slot hn h w
  · have hr := read_w n hn
    have hb := readS_sl n.toNat
    have hu := readS_u hn
    generalize readS n.toNat = S at *
    have p := put_ok S slot
    have hp := put_any S slot
    have hTu := putS_u hu slot
    generalize S.putS slot = T at *
    have hw := word_any T hTu
    have hTb : ∀ k, k < 4 → 0 ≤ T.sl k ∧ T.sl k < 256 := fun k hk => by
      by_cases e : k = S.place.2
      · rw [e, p.at_]
        omega
      · rw [p.sl k hk e]
        exact hb k hk
    have hv := read_w ((wk T 4 : Nat) : Int) (by have := wk_lt T 4; unfold U64; omega)
    rw [Int.toNat_natCast] at hv
    have hq := read_wk T hTb
    have q0 := hq 0 (by decide)
    have q1 := hq 1 (by decide)
    have q2 := hq 2 (by decide)
    have q3 := hq 3 (by decide)
    generalize readS (wk T 4) = R at *
    obtain ⟨a0, a1, a2, a3, b0, b1, b2, b3, h2, u2⟩ := R
    obtain ⟨rfl, rfl⟩ : a0 = T.s0 ∧ b0 = T.t0 := q0
    obtain ⟨rfl, rfl⟩ : a1 = T.s1 ∧ b1 = T.t1 := q1
    obtain ⟨rfl, rfl⟩ : a2 = T.s2 ∧ b2 = T.t2 := q2
    obtain ⟨rfl, rfl⟩ : a3 = T.s3 ∧ b3 = T.t3 := q3
    exact gives_w n slot S T _ _ p _ h2 u2 (by omega) (by omega) hr hp hw hv w
end Go.Proofs.Ytgkogodfegfdfaa
