/- The law FieldSigns, walked. -/
import Derived.Test.YtmjihjbedgbhbaaFieldB
namespace Go.Proofs.Ytmjihjbedgbhbaa
set_option linter.unusedVariables false
set_option linter.unusedSimpArgs false
open Go.RowKit

set_option maxHeartbeats 1000000 in
theorem signs_core {n m B S : Int}
    (c1 : ∀ w : World, Calls Try.prog 40 #[.int .i64 n] w fun e w' => e = .returned (.int .u64 B) ∧ w = w')
    (c2 : ∀ w : World, Calls Try.prog 41 #[.int .i64 n] w fun e w' => e = .returned (.int .u64 B) ∧ w = w')
    (c3 : ∀ w : World, Calls Try.prog 42 #[.int .u64 m] w fun e w' => e = .returned (.int .i64 S) ∧ w = w')
    (c4 : ∀ w : World, Calls Try.prog 43 #[.int .u64 m] w fun e w' => e = .returned (.int .i64 S) ∧ w = w')
    (c5 : ∀ w : World, Calls Try.prog 42 #[.int .u64 B] w fun e w' => e = .returned (.int .i64 n) ∧ w = w')
    (c6 : ∀ w : World, Calls Try.prog 40 #[.int .i64 S] w fun e w' => e = .returned (.int .u64 m) ∧ w = w')
    (w : World) :
    Calls Try.prog 9 #[.int .i64 n, .int .u64 m] w fun e w' => e = .returned (.bool true) ∧ Below w.heap.size w w' := by
  go_enter Try.func9, Try.ntmps9
  go_wp2_with (first | (go_at_call 40; refine (c1 _).mono ?_; rintro e w' ⟨rfl, rfl⟩) | (go_at_call 41; refine (c2 _).mono ?_; rintro e w' ⟨rfl, rfl⟩) | (go_at_call 42; refine (c3 _).mono ?_; rintro e w' ⟨rfl, rfl⟩) | (go_at_call 43; refine (c4 _).mono ?_; rintro e w' ⟨rfl, rfl⟩) | (go_at_call 42; refine (c5 _).mono ?_; rintro e w' ⟨rfl, rfl⟩) | (go_at_call 40; refine (c6 _).mono ?_; rintro e w' ⟨rfl, rfl⟩) | (go_at_call 44; refine (lives01 _).mono ?_; rintro e w5 ⟨rfl, hb5⟩))
  go_ret
  exact ⟨rfl, hb5⟩
theorem signs_any (n m : Int) (hn : I64 n) (hm : U64 m) (w : World) :
    Calls Try.prog 9 #[.int .i64 n, .int .u64 m] w fun e w' => e = .returned (.bool true) ∧ Below w.heap.size w w' := by
  have uB : U64 ((Fld.u64 n : Nat) : Int) := U64.nat (Fld.u64_lt n)
  have c5 := number_any _ uB
  have c6 := bits_any (sg m)
  have e5 : sg ((Fld.u64 n : Nat) : Int) = n := by
    have := Fld.cast_u64 n
    obtain ⟨h0, h1⟩ := hn
    unfold sg
    split <;> omega
  have e6 : ((Fld.u64 (sg m) : Nat) : Int) = m := by
    rw [Fld.cast_u64]
    obtain ⟨h0, h1⟩ := hm
    unfold sg
    split <;> omega
  rw [e5] at c5
  rw [e6] at c6
  exact signs_core (bits_any n) (rbits_any n hn) (number_any m hm) (rnumber_any m hm) c5 c6 w
end Go.Proofs.Ytmjihjbedgbhbaa
