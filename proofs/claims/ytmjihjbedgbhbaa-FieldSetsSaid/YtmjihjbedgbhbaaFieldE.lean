/- The law FieldSets, walked. -/
import Derived.Test.YtmjihjbedgbhbaaFieldD
namespace Go.Proofs.Ytmjihjbedgbhbaa
set_option linter.unusedVariables false
set_option linter.unusedSimpArgs false
open Go.RowKit

set_option maxHeartbeats 2000000 in
set_option maxRecDepth 100000 in
theorem sets_1 {n m a s : Int} (h : a < 64)
    (cf : ∀ w : World, Calls Try.prog 45 #[.int .i64 a, .int .i64 s] w fun e w' => e = .returned (.bool true) ∧ w = w')
    (w : World) :
    Calls Try.prog 11 #[.int .u64 n, .int .u64 m, .agg #[.int .i64 a, .int .i64 s]] w fun e w' => e = .returned (.bool true) ∧ Below w.heap.size w w' := by
  go_enter Try.func11, Try.ntmps11
  go_wp2_with fail
  refine (cf _).mono ?_
  rintro e w' ⟨rfl, rfl⟩
  go_wp2_with fail
  refine (lives01 _).mono ?_
  rintro e w5 ⟨rfl, hb5⟩
  go_wp2
  go_ret
  exact ⟨rfl, bnext ((brefl w).alloc (Nat.le_refl _) _) hb5⟩

set_option maxHeartbeats 2000000 in
set_option maxRecDepth 100000 in
theorem sets_2 {n m a s : Int} (h : ¬ a < 64)
    (cf : ∀ w : World, Calls Try.prog 45 #[.int .i64 a, .int .i64 s] w fun e w' => e = .returned (.bool true) ∧ w = w')
    (c1 : ∀ w : World, Calls Try.prog 52 #[.int .u64 n, .int .i64 a, .int .i64 s, .int .u64 m] w fun e w' => e = .returned (.int .u64 n) ∧ w = w')
    (c2 : ∀ w : World, Calls Try.prog 53 #[.int .u64 n, .int .i64 a, .bool true] w fun e w' => e = .returned (.int .u64 n) ∧ w = w')
    (w : World) :
    Calls Try.prog 11 #[.int .u64 n, .int .u64 m, .agg #[.int .i64 a, .int .i64 s]] w fun e w' => e = .returned (.bool true) ∧ Below w.heap.size w w' := by
  go_enter Try.func11, Try.ntmps11
  go_wp2_with fail
  refine (cf _).mono ?_
  rintro e w' ⟨rfl, rfl⟩
  go_wp2_with fail
  refine (c1 _).mono ?_
  rintro e w' ⟨rfl, rfl⟩
  go_wp2_with fail
  refine (c2 _).mono ?_
  rintro e w' ⟨rfl, rfl⟩
  go_wp2_with fail
  refine (lives01 _).mono ?_
  rintro e w5 ⟨rfl, hb5⟩
  go_wp2
  go_ret
  exact ⟨rfl, bnext ((brefl w).alloc (Nat.le_refl _) _) hb5⟩

set_option maxHeartbeats 2000000 in
set_option maxRecDepth 100000 in
theorem sets_3 {n m a s X Y V : Int} 
    (cf : ∀ w : World, Calls Try.prog 45 #[.int .i64 a, .int .i64 s] w fun e w' => e = .returned (.bool false) ∧ w = w')
    (c1 : ∀ w : World, Calls Try.prog 54 #[.int .u64 n, .int .i64 a, .int .i64 1, .int .u64 1] w fun e w' => e = .returned (.int .u64 X) ∧ w = w')
    (c2 : ∀ w : World, Calls Try.prog 54 #[.int .u64 n, .int .i64 a, .int .i64 1, .int .u64 0] w fun e w' => e = .returned (.int .u64 Y) ∧ w = w')
    (c3 : ∀ w : World, Calls Try.prog 52 #[.int .u64 n, .int .i64 a, .int .i64 s, .int .u64 m] w fun e w' => e = .returned (.int .u64 V) ∧ w = w')
    (c4 : ∀ w : World, Calls Try.prog 54 #[.int .u64 n, .int .i64 a, .int .i64 s, .int .u64 m] w fun e w' => e = .returned (.int .u64 V) ∧ w = w')
    (ct : ∀ (on : Bool) (w : World), Calls Try.prog 53 #[.int .u64 n, .int .i64 a, .bool on] w fun e w' => e = .returned (.int .u64 (cond on X Y)) ∧ w = w')
    (w : World) :
    Calls Try.prog 11 #[.int .u64 n, .int .u64 m, .agg #[.int .i64 a, .int .i64 s]] w fun e w' => e = .returned (.bool true) ∧ Below w.heap.size w w' := by
  go_enter Try.func11, Try.ntmps11
  go_wp2_with fail
  refine (cf _).mono ?_
  rintro e w' ⟨rfl, rfl⟩
  go_wp2_with fail
  refine (c1 _).mono ?_
  rintro e w' ⟨rfl, rfl⟩
  go_wp2_with fail
  refine (c2 _).mono ?_
  rintro e w' ⟨rfl, rfl⟩
  go_wp2_with fail
  obtain ⟨W0, hW0, k0, k1, kb⟩ : ∃ W0, w.alloc (.cells #[.int .i64 a, .int .i64 s] 57) = W0 ∧ W0.cell? ⟨w.heap.size, 0, none⟩ = some (.int .i64 a) ∧ W0.cell? ⟨w.heap.size, 1, none⟩ = some (.int .i64 s) ∧ Below w.heap.size w W0 :=
    ⟨_, rfl, by go_simp, by go_simp, (brefl w).alloc (Nat.le_refl _) _⟩
  rw [hW0]
  clear hW0
  go_region_held3 (fun w' => w'.cell? ⟨w.heap.size, 0, none⟩ = some (.int .i64 a) ∧ w'.cell? ⟨w.heap.size, 1, none⟩ = some (.int .i64 s))
    (first | exact ⟨k0, k1⟩ | exact ⟨keep_below (w := W0.drew) k0 hb5, keep_below (w := W0.drew) k1 hb5⟩ | ((try dsimp only); go_split_ands; (refine ⟨?_, ?_⟩) <;> ((repeat (refine keep_set ?_ (by dsimp only; omega))); (first | assumption | go_keep))))
    ((first | (go_at_call 52; refine (c3 _).mono ?_; rintro e w' ⟨rfl, rfl⟩) | (go_at_call 54; refine (c4 _).mono ?_; rintro e w' ⟨rfl, rfl⟩) | (go_at_call 53; refine (ct _ _).mono ?_; rintro e w' ⟨rfl, rfl⟩) | (go_at_call 44; refine (lives01 _).mono ?_; rintro e w5 ⟨rfl, hb5⟩)))
  go_wp2
  go_ret
  exact ⟨rfl, bnext (Below.drew kb) hb5⟩

theorem sets_any (n m a s : Int) (hn : U64 n) (hm : U64 m) (ha : I64 a) (hs : I64 s) (w : World) :
    Calls Try.prog 11 #[.int .u64 n, .int .u64 m, .agg #[.int .i64 a, .int .i64 s]] w fun e w' => e = .returned (.bool true) ∧ Below w.heap.size w w' := by
  have cf := far_any a s
  by_cases hf : farB a s = true
  · rw [hf] at cf
    by_cases h : a < 64
    · exact sets_1 h cf w
    · have c1 := fun w => set_any n a s m w hn ha hs hm
      rw [Fld.set_out hn.lt (by omega), hn.cast] at c1
      have c2 := fun w => turn_any n a true w hn ha
      rw [Fld.set_out hn.lt (by omega), hn.cast] at c2
      exact sets_2 h cf c1 c2 w
  · have hf' : farB a s = false := by simpa using hf
    rw [hf'] at cf
    have hb : ¬ (a < -1000 ∨ 1000 < a ∨ s < -1000 ∨ 1000 < s) := of_decide_eq_false hf'
    have c1 := rset_any n a 1 1 hn (by omega) (by omega) (by omega) (by omega) ⟨by omega, by omega⟩
    have c2 := rset_any n a 1 0 hn (by omega) (by omega) (by omega) (by omega) ⟨by omega, by omega⟩
    refine sets_3 cf c1 c2 (fun w => set_any n a s m w hn ha hs hm) (rset_any n a s m hn (by omega) (by omega) (by omega) (by omega) hm) (fun on w => ?_) w
    have ct := turn_any n a on w hn ha
    cases on
    · exact ct
    · exact ct
end Go.Proofs.Ytmjihjbedgbhbaa
