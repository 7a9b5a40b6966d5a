/- The law HandleCells, walked. -/
import Derived.Test.YtmjihjbedgbhbaaHandleC
namespace Go.Proofs.Ytmjihjbedgbhbaa
set_option linter.unusedVariables false
set_option linter.unusedSimpArgs false
open Go.RowKit

theorem eql_e (s g l : Int) (w : World) : (binOp .eql 75 (.agg #[.int .i64 s, .int .i64 g, .int .u64 l]) (.agg #[.int .i64 s, .int .i64 g, .int .u64 l])).run Try.prog w = .ok (.bool true) w := by
  simp [go_sem]

set_option maxHeartbeats 4000000 in
set_option maxRecDepth 100000 in
theorem cells_core {n t s g l A G L C O K : Int} {z : Bool}
    (cwhat : ∀ w : World, Calls Try.prog 60 #[.int .u64 n] w fun e w' => e = .returned (.agg #[.int .i64 A, .int .i64 G, .int .u64 L]) ∧ Below w.heap.size w w')
    (ccell : ∀ w : World, Calls Try.prog 61 #[.agg #[.int .i64 s, .int .i64 g, .int .u64 l]] w fun e w' => e = .returned (.int .u64 C) ∧ Below w.heap.size w w')
    (crcell : ∀ w : World, Calls Try.prog 62 #[.agg #[.int .i64 s, .int .i64 g, .int .u64 l]] w fun e w' => e = .returned (.int .u64 C) ∧ Below w.heap.size w w')
    (chold : ∀ w : World, Calls Try.prog 63 #[.int .i64 t] w fun e w' => e = .returned (.int .u64 O) ∧ w = w')
    (crhold : ∀ w : World, Calls Try.prog 64 #[.int .i64 t] w fun e w' => e = .returned (.int .u64 O) ∧ w = w')
    (ckind : ∀ w : World, Calls Try.prog 65 #[.int .u64 n] w fun e w' => e = .returned (.int .i64 K) ∧ w = w')
    (crkind : ∀ w : World, Calls Try.prog 66 #[.int .u64 n] w fun e w' => e = .returned (.int .i64 K) ∧ w = w')
    (crwhat : ∀ w : World, Calls Try.prog 67 #[.int .u64 n] w fun e w' => e = .returned (.agg #[.int .i64 A, .int .i64 G, .int .u64 L]) ∧ Below w.heap.size w w')
    (cold : ∀ w : World, Calls Try.prog 68 #[.int .u64 l, .int .u64 n] w fun e w' => e = .returned (.bool z) ∧ w = w')
    (crold : ∀ w : World, Calls Try.prog 69 #[.int .u64 l, .int .u64 n] w fun e w' => e = .returned (.bool z) ∧ w = w')
    (clives : ∀ w : World, Calls Try.prog 28 #[] w fun e w' => e = .returned (.bool true) ∧ w = w')
    (w : World) :
    Calls Try.prog 13 #[.agg #[.int .i64 s, .int .i64 g, .int .u64 l], .int .i64 t, .int .u64 n] w fun e w' => e = .returned (.bool true) ∧ Below w.heap.size w w' := by
  have heq := eql_e A G L
  go_enter Try.func13, Try.ntmps13
  go_wp2_with fail
  refine (cwhat _).mono ?_
  rintro e w1 ⟨rfl, hb1⟩
  have fc00 := hb1.cell (p := ⟨w.heap.size, 0, none⟩) (by simp <;> omega); have ff00 := hb1.frozen (p := ⟨w.heap.size, 0, none⟩) (by simp <;> omega); have fc01 := hb1.cell (p := ⟨w.heap.size, 1, none⟩) (by simp <;> omega); have ff01 := hb1.frozen (p := ⟨w.heap.size, 1, none⟩) (by simp <;> omega); have fc02 := hb1.cell (p := ⟨w.heap.size, 2, none⟩) (by simp <;> omega); have ff02 := hb1.frozen (p := ⟨w.heap.size, 2, none⟩) (by simp <;> omega); have hz0 : w.heap.size < w1.heap.size := (by have := hb1.size; simp at this; omega)
  have hbb : Below w.heap.size w w1 := bnext ((brefl w).alloc (Nat.le_refl _) _) hb1
  go_wp2_with fail
  obtain ⟨W0, hW0, k0, k1, k2, k3, k4, k5, kb⟩ : ∃ W0, w1.alloc (.cells #[.int .i64 A, .int .i64 G, .int .u64 L] 71) = W0 ∧ W0.cell? ⟨w.heap.size, 0, none⟩ = some (.int .i64 s) ∧ W0.cell? ⟨w.heap.size, 1, none⟩ = some (.int .i64 g) ∧ W0.cell? ⟨w.heap.size, 2, none⟩ = some (.int .u64 l) ∧ W0.cell? ⟨w1.heap.size, 0, none⟩ = some (.int .i64 A) ∧ W0.cell? ⟨w1.heap.size, 1, none⟩ = some (.int .i64 G) ∧ W0.cell? ⟨w1.heap.size, 2, none⟩ = some (.int .u64 L) ∧ Below w.heap.size w W0 :=
    ⟨_, rfl, by go_simp, by go_simp, by go_simp, by go_simp, by go_simp, by go_simp, hbb.alloc hbb.size _⟩
  rw [hW0]
  clear hW0
  clear fc00 ff00 fc01 ff01 fc02 ff02
  go_region_held3 (fun w' => w'.cell? ⟨w.heap.size, 0, none⟩ = some (.int .i64 s) ∧ w'.cell? ⟨w.heap.size, 1, none⟩ = some (.int .i64 g) ∧ w'.cell? ⟨w.heap.size, 2, none⟩ = some (.int .u64 l) ∧ w'.cell? ⟨w1.heap.size, 0, none⟩ = some (.int .i64 A) ∧ w'.cell? ⟨w1.heap.size, 1, none⟩ = some (.int .i64 G) ∧ w'.cell? ⟨w1.heap.size, 2, none⟩ = some (.int .u64 L))
    (first | exact ⟨k0, k1, k2, k3, k4, k5⟩ | exact ⟨keep_below (keep_below (keep_below (w := W0.drew) k0 hb5) hb6) hb7, keep_below (keep_below (keep_below (w := W0.drew) k1 hb5) hb6) hb7, keep_below (keep_below (keep_below (w := W0.drew) k2 hb5) hb6) hb7, keep_below (keep_below (keep_below (w := W0.drew) k3 hb5) hb6) hb7, keep_below (keep_below (keep_below (w := W0.drew) k4 hb5) hb6) hb7, keep_below (keep_below (keep_below (w := W0.drew) k5 hb5) hb6) hb7⟩ | exact ⟨keep_below (keep_below (w := W0.drew) k0 hb5) hb6, keep_below (keep_below (w := W0.drew) k1 hb5) hb6, keep_below (keep_below (w := W0.drew) k2 hb5) hb6, keep_below (keep_below (w := W0.drew) k3 hb5) hb6, keep_below (keep_below (w := W0.drew) k4 hb5) hb6, keep_below (keep_below (w := W0.drew) k5 hb5) hb6⟩ | exact ⟨keep_below (w := W0.drew) k0 hb5, keep_below (w := W0.drew) k1 hb5, keep_below (w := W0.drew) k2 hb5, keep_below (w := W0.drew) k3 hb5, keep_below (w := W0.drew) k4 hb5, keep_below (w := W0.drew) k5 hb5⟩ | ((try dsimp only); go_split_ands; (refine ⟨?_, ?_, ?_, ?_, ?_, ?_⟩) <;> ((repeat (refine keep_set ?_ (by dsimp only; omega))); (first | assumption | go_keep))))
    ((first | (go_at_call 61; refine (ccell _).mono ?_; rintro e w5 ⟨rfl, hb5⟩) | (go_at_call 62; refine (crcell _).mono ?_; rintro e w6 ⟨rfl, hb6⟩) | (go_at_call 63; refine (chold _).mono ?_; rintro e w' ⟨rfl, rfl⟩) | (go_at_call 64; refine (crhold _).mono ?_; rintro e w' ⟨rfl, rfl⟩) | (go_at_call 65; refine (ckind _).mono ?_; rintro e w' ⟨rfl, rfl⟩) | (go_at_call 66; refine (crkind _).mono ?_; rintro e w' ⟨rfl, rfl⟩) | (go_at_call 67; refine (crwhat _).mono ?_; rintro e w7 ⟨rfl, hb7⟩) | (go_at_call 68; refine (cold _).mono ?_; rintro e w' ⟨rfl, rfl⟩) | (go_at_call 69; refine (crold _).mono ?_; rintro e w' ⟨rfl, rfl⟩) | (go_at_call 28; refine (clives _).mono ?_; rintro e w' ⟨rfl, rfl⟩)))
  go_wp2
  go_ret
  exact ⟨rfl, bnext (bnext (bnext (Below.drew kb) hb5) hb6) hb7⟩

theorem cells_any (n t s g l : Int) (hn : U64 n) (hl : U64 l) (w : World) :
    Calls Try.prog 13 #[.agg #[.int .i64 s, .int .i64 g, .int .u64 l], .int .i64 t, .int .u64 n] w fun e w' => e = .returned (.bool true) ∧ Below w.heap.size w w' :=
  cells_core (what_any n hn) (cell_any s g l hl) (rcell_any s g l hl) (hold_any t) (rhold_any t) (kind_any n hn) (rkind_any n hn) (rwhat_any n hn) (old_any l n hl hn) (rold_any l n hl hn) lives03 w
end Go.Proofs.Ytmjihjbedgbhbaa
