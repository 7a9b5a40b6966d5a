/- The law HandleBack, walked: one of six parts. -/
import Derived.Test.YtmjihjbedgbhbaaHandleE
namespace Go.Proofs.Ytmjihjbedgbhbaa
set_option linter.unusedVariables false
set_option linter.unusedSimpArgs false
open Go.RowKit

set_option maxHeartbeats 4000000 in
set_option maxRecDepth 100000 in
theorem back_2_0 {a b d s g l t C O M D r : Int} {f : Int → Bool}  (y0 : ¬ 0 ≤ a) (x0 : ¬ s < 0) (x1 : ¬ 255 < s) (x2 : g < 0) (hl0 : 0 ≤ l)
    (ccell : ∀ w : World, Calls Try.prog 61 #[.agg #[.int .i64 s, .int .i64 g, .int .u64 l]] w fun e w' => e = .returned (.int .u64 C) ∧ Below w.heap.size w w')
    (ckC : ∀ w : World, Calls Try.prog 65 #[.int .u64 C] w fun e w' => e = .returned (.int .i64 2) ∧ w = w')
    (chold : ∀ w : World, Calls Try.prog 63 #[.int .i64 t] w fun e w' => e = .returned (.int .u64 O) ∧ w = w')
    (ckO : ∀ w : World, Calls Try.prog 65 #[.int .u64 O] w fun e w' => e = .returned (.int .i64 1) ∧ w = w')
    (cwO : ∀ w : World, Calls Try.prog 60 #[.int .u64 O] w fun e w' => e = .returned (.agg #[.int .i64 0, .int .i64 0, .int .u64 0]) ∧ Below w.heap.size w w')
    (ck0 : ∀ w : World, Calls Try.prog 65 #[.int .u64 0] w fun e w' => e = .returned (.int .i64 0) ∧ w = w')
    (clives : ∀ w : World, Calls Try.prog 28 #[] w fun e w' => e = .returned (.bool true) ∧ w = w')
    (w : World) :
    Calls Try.prog 15 #[.agg #[.int .i64 a, .int .i64 b, .int .i64 d], .agg #[.int .i64 s, .int .i64 g, .int .u64 l], .int .i64 t] w fun e w' => e = .returned (.bool true) ∧ Below w.heap.size w w' := by
  have heq := eql_e2 s g l
  have hne := neq_e0


  go_enter Try.func15, Try.ntmps15
  go_wp2_with fail
  obtain ⟨W0, hW0, k0, k1, k2, k3, k4, k5, kb⟩ : ∃ W0, (w.alloc (.cells #[.int .i64 a, .int .i64 b, .int .i64 d] 80)).alloc (.cells #[.int .i64 s, .int .i64 g, .int .u64 l] 71) = W0 ∧ W0.cell? ⟨w.heap.size, 0, none⟩ = some (.int .i64 a) ∧ W0.cell? ⟨w.heap.size, 1, none⟩ = some (.int .i64 b) ∧ W0.cell? ⟨w.heap.size, 2, none⟩ = some (.int .i64 d) ∧ W0.cell? ⟨w.heap.size + 1, 0, none⟩ = some (.int .i64 s) ∧ W0.cell? ⟨w.heap.size + 1, 1, none⟩ = some (.int .i64 g) ∧ W0.cell? ⟨w.heap.size + 1, 2, none⟩ = some (.int .u64 l) ∧ Below w.heap.size w W0 :=
    ⟨_, rfl, by go_simp, by go_simp, by go_simp, by go_simp, by go_simp, by go_simp, ((brefl w).alloc (Nat.le_refl _) _).alloc (by simp) _⟩
  rw [hW0]
  clear hW0
  go_wp2_with fail
  refine (ccell _).mono ?_
  rintro e w5 ⟨rfl, hb5⟩
  have q0 := keep_below k3 hb5
  have q1 := keep_below k4 hb5
  have q2 := keep_below k5 hb5
  go_wp2_with fail
  refine (ckC _).mono ?_
  rintro e w' ⟨rfl, rfl⟩
  go_wp2_with fail
  refine (chold _).mono ?_
  rintro e w' ⟨rfl, rfl⟩
  go_wp2_with fail
  refine (ckO _).mono ?_
  rintro e w' ⟨rfl, rfl⟩
  go_wp2_with fail
  refine (chold _).mono ?_
  rintro e w' ⟨rfl, rfl⟩
  go_wp2_with fail
  refine (cwO _).mono ?_
  rintro e w6 ⟨rfl, hb6⟩
  have p0 := keep_below q0 hb6
  have p1 := keep_below q1 hb6
  have p2 := keep_below q2 hb6
  go_wp2_with fail
  refine (ck0 _).mono ?_
  rintro e w' ⟨rfl, rfl⟩
  go_wp2_with fail
  refine (clives _).mono ?_
  rintro e w' ⟨rfl, rfl⟩
  go_wp2
  go_ret
  exact ⟨rfl, bnext (bnext kb hb5) hb6⟩

set_option maxHeartbeats 4000000 in
set_option maxRecDepth 100000 in
theorem back_2_1 {a b d s g l t C O M D r : Int} {f : Int → Bool} (y0 : 0 ≤ a) (y1 : ¬ a < 16) (x0 : ¬ s < 0) (x1 : ¬ 255 < s) (x2 : g < 0) (hl0 : 0 ≤ l)
    (ccell : ∀ w : World, Calls Try.prog 61 #[.agg #[.int .i64 s, .int .i64 g, .int .u64 l]] w fun e w' => e = .returned (.int .u64 C) ∧ Below w.heap.size w w')
    (ckC : ∀ w : World, Calls Try.prog 65 #[.int .u64 C] w fun e w' => e = .returned (.int .i64 2) ∧ w = w')
    (chold : ∀ w : World, Calls Try.prog 63 #[.int .i64 t] w fun e w' => e = .returned (.int .u64 O) ∧ w = w')
    (ckO : ∀ w : World, Calls Try.prog 65 #[.int .u64 O] w fun e w' => e = .returned (.int .i64 1) ∧ w = w')
    (cwO : ∀ w : World, Calls Try.prog 60 #[.int .u64 O] w fun e w' => e = .returned (.agg #[.int .i64 0, .int .i64 0, .int .u64 0]) ∧ Below w.heap.size w w')
    (ck0 : ∀ w : World, Calls Try.prog 65 #[.int .u64 0] w fun e w' => e = .returned (.int .i64 0) ∧ w = w')
    (clives : ∀ w : World, Calls Try.prog 28 #[] w fun e w' => e = .returned (.bool true) ∧ w = w')
    (w : World) :
    Calls Try.prog 15 #[.agg #[.int .i64 a, .int .i64 b, .int .i64 d], .agg #[.int .i64 s, .int .i64 g, .int .u64 l], .int .i64 t] w fun e w' => e = .returned (.bool true) ∧ Below w.heap.size w w' := by
  have heq := eql_e2 s g l
  have hne := neq_e0


  go_enter Try.func15, Try.ntmps15
  go_wp2_with fail
  obtain ⟨W0, hW0, k0, k1, k2, k3, k4, k5, kb⟩ : ∃ W0, (w.alloc (.cells #[.int .i64 a, .int .i64 b, .int .i64 d] 80)).alloc (.cells #[.int .i64 s, .int .i64 g, .int .u64 l] 71) = W0 ∧ W0.cell? ⟨w.heap.size, 0, none⟩ = some (.int .i64 a) ∧ W0.cell? ⟨w.heap.size, 1, none⟩ = some (.int .i64 b) ∧ W0.cell? ⟨w.heap.size, 2, none⟩ = some (.int .i64 d) ∧ W0.cell? ⟨w.heap.size + 1, 0, none⟩ = some (.int .i64 s) ∧ W0.cell? ⟨w.heap.size + 1, 1, none⟩ = some (.int .i64 g) ∧ W0.cell? ⟨w.heap.size + 1, 2, none⟩ = some (.int .u64 l) ∧ Below w.heap.size w W0 :=
    ⟨_, rfl, by go_simp, by go_simp, by go_simp, by go_simp, by go_simp, by go_simp, ((brefl w).alloc (Nat.le_refl _) _).alloc (by simp) _⟩
  rw [hW0]
  clear hW0
  go_wp2_with fail
  refine (ccell _).mono ?_
  rintro e w5 ⟨rfl, hb5⟩
  have q0 := keep_below k3 hb5
  have q1 := keep_below k4 hb5
  have q2 := keep_below k5 hb5
  go_wp2_with fail
  refine (ckC _).mono ?_
  rintro e w' ⟨rfl, rfl⟩
  go_wp2_with fail
  refine (chold _).mono ?_
  rintro e w' ⟨rfl, rfl⟩
  go_wp2_with fail
  refine (ckO _).mono ?_
  rintro e w' ⟨rfl, rfl⟩
  go_wp2_with fail
  refine (chold _).mono ?_
  rintro e w' ⟨rfl, rfl⟩
  go_wp2_with fail
  refine (cwO _).mono ?_
  rintro e w6 ⟨rfl, hb6⟩
  have p0 := keep_below q0 hb6
  have p1 := keep_below q1 hb6
  have p2 := keep_below q2 hb6
  go_wp2_with fail
  refine (ck0 _).mono ?_
  rintro e w' ⟨rfl, rfl⟩
  go_wp2_with fail
  refine (clives _).mono ?_
  rintro e w' ⟨rfl, rfl⟩
  go_wp2
  go_ret
  exact ⟨rfl, bnext (bnext kb hb5) hb6⟩

set_option maxHeartbeats 4000000 in
set_option maxRecDepth 100000 in
theorem back_2_2 {a b d s g l t C O M D r : Int} {f : Int → Bool} (y0 : 0 ≤ a) (y1 : a < 16) (y2 : ¬ 0 < b) (x0 : ¬ s < 0) (x1 : ¬ 255 < s) (x2 : g < 0) (hl0 : 0 ≤ l)
    (ccell : ∀ w : World, Calls Try.prog 61 #[.agg #[.int .i64 s, .int .i64 g, .int .u64 l]] w fun e w' => e = .returned (.int .u64 C) ∧ Below w.heap.size w w')
    (ckC : ∀ w : World, Calls Try.prog 65 #[.int .u64 C] w fun e w' => e = .returned (.int .i64 2) ∧ w = w')
    (chold : ∀ w : World, Calls Try.prog 63 #[.int .i64 t] w fun e w' => e = .returned (.int .u64 O) ∧ w = w')
    (ckO : ∀ w : World, Calls Try.prog 65 #[.int .u64 O] w fun e w' => e = .returned (.int .i64 1) ∧ w = w')
    (cwO : ∀ w : World, Calls Try.prog 60 #[.int .u64 O] w fun e w' => e = .returned (.agg #[.int .i64 0, .int .i64 0, .int .u64 0]) ∧ Below w.heap.size w w')
    (ck0 : ∀ w : World, Calls Try.prog 65 #[.int .u64 0] w fun e w' => e = .returned (.int .i64 0) ∧ w = w')
    (clives : ∀ w : World, Calls Try.prog 28 #[] w fun e w' => e = .returned (.bool true) ∧ w = w')
    (w : World) :
    Calls Try.prog 15 #[.agg #[.int .i64 a, .int .i64 b, .int .i64 d], .agg #[.int .i64 s, .int .i64 g, .int .u64 l], .int .i64 t] w fun e w' => e = .returned (.bool true) ∧ Below w.heap.size w w' := by
  have heq := eql_e2 s g l
  have hne := neq_e0


  go_enter Try.func15, Try.ntmps15
  go_wp2_with fail
  obtain ⟨W0, hW0, k0, k1, k2, k3, k4, k5, kb⟩ : ∃ W0, (w.alloc (.cells #[.int .i64 a, .int .i64 b, .int .i64 d] 80)).alloc (.cells #[.int .i64 s, .int .i64 g, .int .u64 l] 71) = W0 ∧ W0.cell? ⟨w.heap.size, 0, none⟩ = some (.int .i64 a) ∧ W0.cell? ⟨w.heap.size, 1, none⟩ = some (.int .i64 b) ∧ W0.cell? ⟨w.heap.size, 2, none⟩ = some (.int .i64 d) ∧ W0.cell? ⟨w.heap.size + 1, 0, none⟩ = some (.int .i64 s) ∧ W0.cell? ⟨w.heap.size + 1, 1, none⟩ = some (.int .i64 g) ∧ W0.cell? ⟨w.heap.size + 1, 2, none⟩ = some (.int .u64 l) ∧ Below w.heap.size w W0 :=
    ⟨_, rfl, by go_simp, by go_simp, by go_simp, by go_simp, by go_simp, by go_simp, ((brefl w).alloc (Nat.le_refl _) _).alloc (by simp) _⟩
  rw [hW0]
  clear hW0
  go_wp2_with fail
  refine (ccell _).mono ?_
  rintro e w5 ⟨rfl, hb5⟩
  have q0 := keep_below k3 hb5
  have q1 := keep_below k4 hb5
  have q2 := keep_below k5 hb5
  go_wp2_with fail
  refine (ckC _).mono ?_
  rintro e w' ⟨rfl, rfl⟩
  go_wp2_with fail
  refine (chold _).mono ?_
  rintro e w' ⟨rfl, rfl⟩
  go_wp2_with fail
  refine (ckO _).mono ?_
  rintro e w' ⟨rfl, rfl⟩
  go_wp2_with fail
  refine (chold _).mono ?_
  rintro e w' ⟨rfl, rfl⟩
  go_wp2_with fail
  refine (cwO _).mono ?_
  rintro e w6 ⟨rfl, hb6⟩
  have p0 := keep_below q0 hb6
  have p1 := keep_below q1 hb6
  have p2 := keep_below q2 hb6
  go_wp2_with fail
  refine (ck0 _).mono ?_
  rintro e w' ⟨rfl, rfl⟩
  go_wp2_with fail
  refine (clives _).mono ?_
  rintro e w' ⟨rfl, rfl⟩
  go_wp2
  go_ret
  exact ⟨rfl, bnext (bnext kb hb5) hb6⟩

set_option maxHeartbeats 4000000 in
set_option maxRecDepth 100000 in
theorem back_2_3 {a b d s g l t C O M D r : Int} {f : Int → Bool} (y0 : 0 ≤ a) (y1 : a < 16) (y2 : 0 < b) (y3 : ¬ b < 256) (x0 : ¬ s < 0) (x1 : ¬ 255 < s) (x2 : g < 0) (hl0 : 0 ≤ l)
    (ccell : ∀ w : World, Calls Try.prog 61 #[.agg #[.int .i64 s, .int .i64 g, .int .u64 l]] w fun e w' => e = .returned (.int .u64 C) ∧ Below w.heap.size w w')
    (ckC : ∀ w : World, Calls Try.prog 65 #[.int .u64 C] w fun e w' => e = .returned (.int .i64 2) ∧ w = w')
    (chold : ∀ w : World, Calls Try.prog 63 #[.int .i64 t] w fun e w' => e = .returned (.int .u64 O) ∧ w = w')
    (ckO : ∀ w : World, Calls Try.prog 65 #[.int .u64 O] w fun e w' => e = .returned (.int .i64 1) ∧ w = w')
    (cwO : ∀ w : World, Calls Try.prog 60 #[.int .u64 O] w fun e w' => e = .returned (.agg #[.int .i64 0, .int .i64 0, .int .u64 0]) ∧ Below w.heap.size w w')
    (ck0 : ∀ w : World, Calls Try.prog 65 #[.int .u64 0] w fun e w' => e = .returned (.int .i64 0) ∧ w = w')
    (clives : ∀ w : World, Calls Try.prog 28 #[] w fun e w' => e = .returned (.bool true) ∧ w = w')
    (w : World) :
    Calls Try.prog 15 #[.agg #[.int .i64 a, .int .i64 b, .int .i64 d], .agg #[.int .i64 s, .int .i64 g, .int .u64 l], .int .i64 t] w fun e w' => e = .returned (.bool true) ∧ Below w.heap.size w w' := by
  have heq := eql_e2 s g l
  have hne := neq_e0


  go_enter Try.func15, Try.ntmps15
  go_wp2_with fail
  obtain ⟨W0, hW0, k0, k1, k2, k3, k4, k5, kb⟩ : ∃ W0, (w.alloc (.cells #[.int .i64 a, .int .i64 b, .int .i64 d] 80)).alloc (.cells #[.int .i64 s, .int .i64 g, .int .u64 l] 71) = W0 ∧ W0.cell? ⟨w.heap.size, 0, none⟩ = some (.int .i64 a) ∧ W0.cell? ⟨w.heap.size, 1, none⟩ = some (.int .i64 b) ∧ W0.cell? ⟨w.heap.size, 2, none⟩ = some (.int .i64 d) ∧ W0.cell? ⟨w.heap.size + 1, 0, none⟩ = some (.int .i64 s) ∧ W0.cell? ⟨w.heap.size + 1, 1, none⟩ = some (.int .i64 g) ∧ W0.cell? ⟨w.heap.size + 1, 2, none⟩ = some (.int .u64 l) ∧ Below w.heap.size w W0 :=
    ⟨_, rfl, by go_simp, by go_simp, by go_simp, by go_simp, by go_simp, by go_simp, ((brefl w).alloc (Nat.le_refl _) _).alloc (by simp) _⟩
  rw [hW0]
  clear hW0
  go_wp2_with fail
  refine (ccell _).mono ?_
  rintro e w5 ⟨rfl, hb5⟩
  have q0 := keep_below k3 hb5
  have q1 := keep_below k4 hb5
  have q2 := keep_below k5 hb5
  go_wp2_with fail
  refine (ckC _).mono ?_
  rintro e w' ⟨rfl, rfl⟩
  go_wp2_with fail
  refine (chold _).mono ?_
  rintro e w' ⟨rfl, rfl⟩
  go_wp2_with fail
  refine (ckO _).mono ?_
  rintro e w' ⟨rfl, rfl⟩
  go_wp2_with fail
  refine (chold _).mono ?_
  rintro e w' ⟨rfl, rfl⟩
  go_wp2_with fail
  refine (cwO _).mono ?_
  rintro e w6 ⟨rfl, hb6⟩
  have p0 := keep_below q0 hb6
  have p1 := keep_below q1 hb6
  have p2 := keep_below q2 hb6
  go_wp2_with fail
  refine (ck0 _).mono ?_
  rintro e w' ⟨rfl, rfl⟩
  go_wp2_with fail
  refine (clives _).mono ?_
  rintro e w' ⟨rfl, rfl⟩
  go_wp2
  go_ret
  exact ⟨rfl, bnext (bnext kb hb5) hb6⟩

set_option maxHeartbeats 4000000 in
set_option maxRecDepth 100000 in
theorem back_2_4 {a b d s g l t C O M D r : Int} {f : Int → Bool} (y0 : 0 ≤ a) (y1 : a < 16) (y2 : 0 < b) (y3 : b < 256) (y4 : ¬ 0 ≤ d) (x0 : ¬ s < 0) (x1 : ¬ 255 < s) (x2 : g < 0) (hl0 : 0 ≤ l)
    (ccell : ∀ w : World, Calls Try.prog 61 #[.agg #[.int .i64 s, .int .i64 g, .int .u64 l]] w fun e w' => e = .returned (.int .u64 C) ∧ Below w.heap.size w w')
    (ckC : ∀ w : World, Calls Try.prog 65 #[.int .u64 C] w fun e w' => e = .returned (.int .i64 2) ∧ w = w')
    (chold : ∀ w : World, Calls Try.prog 63 #[.int .i64 t] w fun e w' => e = .returned (.int .u64 O) ∧ w = w')
    (ckO : ∀ w : World, Calls Try.prog 65 #[.int .u64 O] w fun e w' => e = .returned (.int .i64 1) ∧ w = w')
    (cwO : ∀ w : World, Calls Try.prog 60 #[.int .u64 O] w fun e w' => e = .returned (.agg #[.int .i64 0, .int .i64 0, .int .u64 0]) ∧ Below w.heap.size w w')
    (ck0 : ∀ w : World, Calls Try.prog 65 #[.int .u64 0] w fun e w' => e = .returned (.int .i64 0) ∧ w = w')
    (clives : ∀ w : World, Calls Try.prog 28 #[] w fun e w' => e = .returned (.bool true) ∧ w = w')
    (w : World) :
    Calls Try.prog 15 #[.agg #[.int .i64 a, .int .i64 b, .int .i64 d], .agg #[.int .i64 s, .int .i64 g, .int .u64 l], .int .i64 t] w fun e w' => e = .returned (.bool true) ∧ Below w.heap.size w w' := by
  have heq := eql_e2 s g l
  have hne := neq_e0


  go_enter Try.func15, Try.ntmps15
  go_wp2_with fail
  obtain ⟨W0, hW0, k0, k1, k2, k3, k4, k5, kb⟩ : ∃ W0, (w.alloc (.cells #[.int .i64 a, .int .i64 b, .int .i64 d] 80)).alloc (.cells #[.int .i64 s, .int .i64 g, .int .u64 l] 71) = W0 ∧ W0.cell? ⟨w.heap.size, 0, none⟩ = some (.int .i64 a) ∧ W0.cell? ⟨w.heap.size, 1, none⟩ = some (.int .i64 b) ∧ W0.cell? ⟨w.heap.size, 2, none⟩ = some (.int .i64 d) ∧ W0.cell? ⟨w.heap.size + 1, 0, none⟩ = some (.int .i64 s) ∧ W0.cell? ⟨w.heap.size + 1, 1, none⟩ = some (.int .i64 g) ∧ W0.cell? ⟨w.heap.size + 1, 2, none⟩ = some (.int .u64 l) ∧ Below w.heap.size w W0 :=
    ⟨_, rfl, by go_simp, by go_simp, by go_simp, by go_simp, by go_simp, by go_simp, ((brefl w).alloc (Nat.le_refl _) _).alloc (by simp) _⟩
  rw [hW0]
  clear hW0
  go_wp2_with fail
  refine (ccell _).mono ?_
  rintro e w5 ⟨rfl, hb5⟩
  have q0 := keep_below k3 hb5
  have q1 := keep_below k4 hb5
  have q2 := keep_below k5 hb5
  go_wp2_with fail
  refine (ckC _).mono ?_
  rintro e w' ⟨rfl, rfl⟩
  go_wp2_with fail
  refine (chold _).mono ?_
  rintro e w' ⟨rfl, rfl⟩
  go_wp2_with fail
  refine (ckO _).mono ?_
  rintro e w' ⟨rfl, rfl⟩
  go_wp2_with fail
  refine (chold _).mono ?_
  rintro e w' ⟨rfl, rfl⟩
  go_wp2_with fail
  refine (cwO _).mono ?_
  rintro e w6 ⟨rfl, hb6⟩
  have p0 := keep_below q0 hb6
  have p1 := keep_below q1 hb6
  have p2 := keep_below q2 hb6
  go_wp2_with fail
  refine (ck0 _).mono ?_
  rintro e w' ⟨rfl, rfl⟩
  go_wp2_with fail
  refine (clives _).mono ?_
  rintro e w' ⟨rfl, rfl⟩
  go_wp2
  go_ret
  exact ⟨rfl, bnext (bnext kb hb5) hb6⟩

set_option maxHeartbeats 4000000 in
set_option maxRecDepth 100000 in
theorem back_2_5 {a b d s g l t C O M D r : Int} {f : Int → Bool} (y0 : 0 ≤ a) (y1 : a < 16) (y2 : 0 < b) (y3 : b < 256) (y4 : 0 ≤ d) (y5 : ¬ d < 4294967296) (x0 : ¬ s < 0) (x1 : ¬ 255 < s) (x2 : g < 0) (hl0 : 0 ≤ l)
    (ccell : ∀ w : World, Calls Try.prog 61 #[.agg #[.int .i64 s, .int .i64 g, .int .u64 l]] w fun e w' => e = .returned (.int .u64 C) ∧ Below w.heap.size w w')
    (ckC : ∀ w : World, Calls Try.prog 65 #[.int .u64 C] w fun e w' => e = .returned (.int .i64 2) ∧ w = w')
    (chold : ∀ w : World, Calls Try.prog 63 #[.int .i64 t] w fun e w' => e = .returned (.int .u64 O) ∧ w = w')
    (ckO : ∀ w : World, Calls Try.prog 65 #[.int .u64 O] w fun e w' => e = .returned (.int .i64 1) ∧ w = w')
    (cwO : ∀ w : World, Calls Try.prog 60 #[.int .u64 O] w fun e w' => e = .returned (.agg #[.int .i64 0, .int .i64 0, .int .u64 0]) ∧ Below w.heap.size w w')
    (ck0 : ∀ w : World, Calls Try.prog 65 #[.int .u64 0] w fun e w' => e = .returned (.int .i64 0) ∧ w = w')
    (clives : ∀ w : World, Calls Try.prog 28 #[] w fun e w' => e = .returned (.bool true) ∧ w = w')
    (w : World) :
    Calls Try.prog 15 #[.agg #[.int .i64 a, .int .i64 b, .int .i64 d], .agg #[.int .i64 s, .int .i64 g, .int .u64 l], .int .i64 t] w fun e w' => e = .returned (.bool true) ∧ Below w.heap.size w w' := by
  have heq := eql_e2 s g l
  have hne := neq_e0


  go_enter Try.func15, Try.ntmps15
  go_wp2_with fail
  obtain ⟨W0, hW0, k0, k1, k2, k3, k4, k5, kb⟩ : ∃ W0, (w.alloc (.cells #[.int .i64 a, .int .i64 b, .int .i64 d] 80)).alloc (.cells #[.int .i64 s, .int .i64 g, .int .u64 l] 71) = W0 ∧ W0.cell? ⟨w.heap.size, 0, none⟩ = some (.int .i64 a) ∧ W0.cell? ⟨w.heap.size, 1, none⟩ = some (.int .i64 b) ∧ W0.cell? ⟨w.heap.size, 2, none⟩ = some (.int .i64 d) ∧ W0.cell? ⟨w.heap.size + 1, 0, none⟩ = some (.int .i64 s) ∧ W0.cell? ⟨w.heap.size + 1, 1, none⟩ = some (.int .i64 g) ∧ W0.cell? ⟨w.heap.size + 1, 2, none⟩ = some (.int .u64 l) ∧ Below w.heap.size w W0 :=
    ⟨_, rfl, by go_simp, by go_simp, by go_simp, by go_simp, by go_simp, by go_simp, ((brefl w).alloc (Nat.le_refl _) _).alloc (by simp) _⟩
  rw [hW0]
  clear hW0
  go_wp2_with fail
  refine (ccell _).mono ?_
  rintro e w5 ⟨rfl, hb5⟩
  have q0 := keep_below k3 hb5
  have q1 := keep_below k4 hb5
  have q2 := keep_below k5 hb5
  go_wp2_with fail
  refine (ckC _).mono ?_
  rintro e w' ⟨rfl, rfl⟩
  go_wp2_with fail
  refine (chold _).mono ?_
  rintro e w' ⟨rfl, rfl⟩
  go_wp2_with fail
  refine (ckO _).mono ?_
  rintro e w' ⟨rfl, rfl⟩
  go_wp2_with fail
  refine (chold _).mono ?_
  rintro e w' ⟨rfl, rfl⟩
  go_wp2_with fail
  refine (cwO _).mono ?_
  rintro e w6 ⟨rfl, hb6⟩
  have p0 := keep_below q0 hb6
  have p1 := keep_below q1 hb6
  have p2 := keep_below q2 hb6
  go_wp2_with fail
  refine (ck0 _).mono ?_
  rintro e w' ⟨rfl, rfl⟩
  go_wp2_with fail
  refine (clives _).mono ?_
  rintro e w' ⟨rfl, rfl⟩
  go_wp2
  go_ret
  exact ⟨rfl, bnext (bnext kb hb5) hb6⟩

set_option maxHeartbeats 4000000 in
set_option maxRecDepth 100000 in
theorem back_2_6 {a b d s g l t C O M D r : Int} {f : Int → Bool} (y0 : 0 ≤ a) (y1 : a < 16) (y2 : 0 < b) (y3 : b < 256) (y4 : 0 ≤ d) (y5 : d < 4294967296) (x0 : ¬ s < 0) (x1 : ¬ 255 < s) (x2 : g < 0) (hl0 : 0 ≤ l)
    (cmake : ∀ w : World, Calls Try.prog 31 #[.int .i64 a, .int .i64 b, .int .i64 d] w fun e w' => e = .returned (.int .u64 M) ∧ w = w')
    (cparts : ∀ w : World, Calls Try.prog 29 #[.int .u64 M] w fun e w' => e = .returned (.tuple #[.int .i64 a, .int .i64 b, .int .i64 d, .bool true]) ∧ w = w')
    (chead : ∀ w : World, Calls Try.prog 26 #[.int .i64 d, .int .i64 a] w fun e w' => e = .returned (.int .u64 D) ∧ w = w')
    (cstate : ∀ w : World, Calls Try.prog 24 #[.int .u64 D] w fun e w' => e = .returned (.tuple #[.int .i64 d, .int .i64 r]) ∧ w = w')
    (ccell : ∀ w : World, Calls Try.prog 61 #[.agg #[.int .i64 s, .int .i64 g, .int .u64 l]] w fun e w' => e = .returned (.int .u64 C) ∧ Below w.heap.size w w')
    (ckC : ∀ w : World, Calls Try.prog 65 #[.int .u64 C] w fun e w' => e = .returned (.int .i64 2) ∧ w = w')
    (chold : ∀ w : World, Calls Try.prog 63 #[.int .i64 t] w fun e w' => e = .returned (.int .u64 O) ∧ w = w')
    (ckO : ∀ w : World, Calls Try.prog 65 #[.int .u64 O] w fun e w' => e = .returned (.int .i64 1) ∧ w = w')
    (cwO : ∀ w : World, Calls Try.prog 60 #[.int .u64 O] w fun e w' => e = .returned (.agg #[.int .i64 0, .int .i64 0, .int .u64 0]) ∧ Below w.heap.size w w')
    (ck0 : ∀ w : World, Calls Try.prog 65 #[.int .u64 0] w fun e w' => e = .returned (.int .i64 0) ∧ w = w')
    (clives : ∀ w : World, Calls Try.prog 28 #[] w fun e w' => e = .returned (.bool true) ∧ w = w')
    (hr1 : a % 4 = r) (hr2 : a.tmod 4 = r)    (w : World) :
    Calls Try.prog 15 #[.agg #[.int .i64 a, .int .i64 b, .int .i64 d], .agg #[.int .i64 s, .int .i64 g, .int .u64 l], .int .i64 t] w fun e w' => e = .returned (.bool true) ∧ Below w.heap.size w w' := by
  have heq := eql_e2 s g l
  have hne := neq_e0


  go_enter Try.func15, Try.ntmps15
  go_wp2_with fail
  obtain ⟨W0, hW0, k0, k1, k2, k3, k4, k5, kb⟩ : ∃ W0, (w.alloc (.cells #[.int .i64 a, .int .i64 b, .int .i64 d] 80)).alloc (.cells #[.int .i64 s, .int .i64 g, .int .u64 l] 71) = W0 ∧ W0.cell? ⟨w.heap.size, 0, none⟩ = some (.int .i64 a) ∧ W0.cell? ⟨w.heap.size, 1, none⟩ = some (.int .i64 b) ∧ W0.cell? ⟨w.heap.size, 2, none⟩ = some (.int .i64 d) ∧ W0.cell? ⟨w.heap.size + 1, 0, none⟩ = some (.int .i64 s) ∧ W0.cell? ⟨w.heap.size + 1, 1, none⟩ = some (.int .i64 g) ∧ W0.cell? ⟨w.heap.size + 1, 2, none⟩ = some (.int .u64 l) ∧ Below w.heap.size w W0 :=
    ⟨_, rfl, by go_simp, by go_simp, by go_simp, by go_simp, by go_simp, by go_simp, ((brefl w).alloc (Nat.le_refl _) _).alloc (by simp) _⟩
  rw [hW0]
  clear hW0
  go_wp2_with fail
  refine (cmake _).mono ?_
  rintro e w' ⟨rfl, rfl⟩
  go_wp2_with fail
  refine (cparts _).mono ?_
  rintro e w' ⟨rfl, rfl⟩
  go_wp2_with fail
  refine (chead _).mono ?_
  rintro e w' ⟨rfl, rfl⟩
  go_wp2_with fail
  refine (cstate _).mono ?_
  rintro e w' ⟨rfl, rfl⟩
  go_wp2_with fail
  refine (ccell _).mono ?_
  rintro e w5 ⟨rfl, hb5⟩
  have q0 := keep_below k3 hb5
  have q1 := keep_below k4 hb5
  have q2 := keep_below k5 hb5
  go_wp2_with fail
  refine (ckC _).mono ?_
  rintro e w' ⟨rfl, rfl⟩
  go_wp2_with fail
  refine (chold _).mono ?_
  rintro e w' ⟨rfl, rfl⟩
  go_wp2_with fail
  refine (ckO _).mono ?_
  rintro e w' ⟨rfl, rfl⟩
  go_wp2_with fail
  refine (chold _).mono ?_
  rintro e w' ⟨rfl, rfl⟩
  go_wp2_with fail
  refine (cwO _).mono ?_
  rintro e w6 ⟨rfl, hb6⟩
  have p0 := keep_below q0 hb6
  have p1 := keep_below q1 hb6
  have p2 := keep_below q2 hb6
  go_wp2_with fail
  refine (ck0 _).mono ?_
  rintro e w' ⟨rfl, rfl⟩
  go_wp2_with fail
  refine (clives _).mono ?_
  rintro e w' ⟨rfl, rfl⟩
  go_wp2
  go_ret
  exact ⟨rfl, bnext (bnext kb hb5) hb6⟩
end Go.Proofs.Ytmjihjbedgbhbaa
