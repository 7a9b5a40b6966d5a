/- Peek, Pop, Same of a line. -/
import Derived.Test.YtnmbobhbhfmjeaaLineB
namespace Go.Proofs.Ytnmbobhbhfmjeaa
set_option linter.unusedVariables false
set_option linter.unusedSimpArgs false
open Go.RowKit

set_option maxHeartbeats 400000 in
theorem peek_p_nil (A : Option Addr) (c : Nat) (w : World) :
    Calls Try.prog 12 #[.agg #[.slice A 0 c]] w fun e w' => e = .returned (.tuple #[.agg #[.int .u64 0, .int .u64 0], .bool false]) ∧ Below w.heap.size w w' := by
  go_enter Try.func12, Try.ntmps12
  go_wp2
  refine bodyPost_ret (v := .tuple #[.agg #[.int .u64 0, .int .u64 0], .bool false]) (by simp [results, Try.results12, go_sem]) rfl ⟨rfl, ?_⟩
  exact (((Below.refl _ _).alloc (Nat.le_refl _) _).alloc (by simp) _).alloc (by simp <;> omega) _

set_option maxHeartbeats 400000 in
theorem peek_p_cons {A : Option Addr} {n c : Nat} {p : Pr} {r : List Pr} {w : World} (h : Sl pc w A (n + 1) c (p :: r)) (hn : n ≤ 1000000) :
    Calls Try.prog 12 #[.agg #[.slice A (n + 1) c]] w fun e w' => e = .returned (.tuple #[.agg #[.int .u64 p.1, .int .u64 p.2], .bool true]) ∧ Below w.heap.size w w' := by
  obtain ⟨b, o, rfl, hb, hc⟩ := h.base pc_len (by decide) (by omega)
  have c0 : w.cell? ⟨b, o, none⟩ = some (.int .u64 p.1) := hc 0 p 0 _ rfl rfl
  have c1 : w.cell? ⟨b, o + 1, none⟩ = some (.int .u64 p.2) := hc 0 p 1 _ rfl rfl
  clear hc h
  have t0 : (((n + 1 : Nat) : Int) == 0) = false := by rw [beq_eq_false_iff_ne]; omega
  have t1 : (0 : Int) < ((n + 1 : Nat) : Int) := by omega
  have hb1 : b < w.heap.size + 1 := by omega
  have hb2 : b < w.heap.size + 1 + 1 := by omega
  go_enter Try.func12, Try.ntmps12
  go_wp2
  refine bodyPost_ret (v := .tuple #[.agg #[.int .u64 p.1, .int .u64 p.2], .bool true]) (by simp [results, Try.results12, go_sem]) rfl ⟨rfl, ?_⟩
  exact (((Below.refl _ _).alloc (Nat.le_refl _) _).alloc (by simp) _).alloc (by simp <;> omega) _

set_option maxHeartbeats 400000 in
theorem peek_i_cons {A : Option Addr} {n c : Nat} {p : Int} {r : List Int} {w : World} (h : Sl ic w A (n + 1) c (p :: r)) (hn : n ≤ 1000000) :
    Calls Try.prog 26 #[.agg #[.slice A (n + 1) c]] w fun e w' => e = .returned (.tuple #[.int .i64 p, .bool true]) ∧ Below w.heap.size w w' := by
  obtain ⟨b, o, rfl, hb, hc⟩ := h.base ic_len (by decide) (by omega)
  have c0 : w.cell? ⟨b, o, none⟩ = some (.int .i64 p) := hc 0 p 0 _ rfl rfl
  clear hc h
  have t0 : (((n + 1 : Nat) : Int) == 0) = false := by rw [beq_eq_false_iff_ne]; omega
  have t1 : (0 : Int) < ((n + 1 : Nat) : Int) := by omega
  have hb1 : b < w.heap.size + 1 := by omega
  have hb2 : b < w.heap.size + 1 + 1 := by omega
  go_enter Try.func26, Try.ntmps26
  go_wp2
  go_ret2
  exact ⟨rfl, (Below.refl _ _).alloc (Nat.le_refl _) _⟩

/-- A rest of a slice, from its element 1 on. -/
theorem rest_p {α : Type} {f : α → List Value} {s : Nat} (hf : ∀ x, (f x).length = s) {w w' : World} {A : Option Addr} {n c : Nat} {p : α} {r : List α} (h : Sl f w A (n + 1) c (p :: r)) (hb : Below w.heap.size w w') :
    Sl f w' (if c = 1 then A else A.map (·.add s)) n (c - 1) r ∧ ∀ ad, (if c = 1 then A else A.map (·.add s)) = some ad → ∃ ad0, A = some ad0 ∧ ad.block = ad0.block := by
  have h1 := h.from_ hf (k := 1) (by omega)
  simp only [Nat.add_sub_cancel, List.drop_succ_cons, List.drop_zero, Nat.one_mul] at h1
  refine ⟨h1.below hb, fun ad e => ?_⟩
  split at e
  · exact ⟨ad, e, rfl⟩
  · cases A with
    | none => cases e
    | some a0 =>
      cases e
      exact ⟨a0, rfl, ad_block _ _⟩

theorem slice_from1 {P : Program} (t e : TypeId) (A : Option Addr) (n c : Nat) (w : World) (hc : n + 1 ≤ c) (hA : A = none → False) (ht : P.underlying t = some (.slice e)) {z : Value} {s b : Nat} (hi : (P.info? e).map (fun i => (i.zero, i.size, i.bytes)) = some (some z, s, b)) :
    (Instr.slice t (.slice A (n + 1) c) (some (.int .i64 1)) none none).run P w = .ok (.slice (if c = 1 then A else A.map (·.add s)) n (c - 1)) w := by
  obtain ⟨i, hj, h0, h1, h2⟩ := info_parts hi
  cases A with
  | none => exact absurd rfl hA
  | some ad =>
    have h1' : (1 : Int) ≤ (n : Int) + 1 := by omega
    have h3 : n + 1 ≤ c := hc
    subst h1
    by_cases hc1 : c = 1
    · subst hc1
      obtain rfl : n = 0 := by omega
      simp [Instr.slice, go_sem, run_underlying ht, sizeOf, typeInfo, hj]
    · simp [Instr.slice, go_sem, run_underlying ht, sizeOf, typeInfo, hj, h1', hc1]

set_option maxHeartbeats 1000000 in
theorem pop_p_nil (A : Option Addr) (c : Nat) (w : World) :
    Calls Try.prog 9 #[.agg #[.slice A 0 c]] w fun e w' => e = .returned (.tuple #[.agg #[.slice A 0 c], .agg #[.int .u64 0, .int .u64 0], .bool false]) ∧ Below w.heap.size w w' := by
  go_enter Try.func9, Try.ntmps9
  go_wp2_with (go_at_call 12; refine (peek_p_nil A c _).mono ?_; rintro e w1 ⟨rfl, hb⟩; have fc00 := hb.cell (p := ⟨w.heap.size, 0, none⟩) (by simp <;> omega); have ff00 := hb.frozen (p := ⟨w.heap.size, 0, none⟩) (by simp <;> omega); have hz0 : w.heap.size < w1.heap.size := (by have := hb.size; simp at this; omega); have fc10 := hb.cell (p := ⟨w.heap.size + 1, 0, none⟩) (by simp <;> omega); have ff10 := hb.frozen (p := ⟨w.heap.size + 1, 0, none⟩) (by simp <;> omega); have hz1 : w.heap.size + 1 < w1.heap.size := (by have := hb.size; simp at this; omega); have fc20 := hb.cell (p := ⟨w.heap.size + 1 + 1, 0, none⟩) (by simp <;> omega); have ff20 := hb.frozen (p := ⟨w.heap.size + 1 + 1, 0, none⟩) (by simp <;> omega); have fc21 := hb.cell (p := ⟨w.heap.size + 1 + 1, 1, none⟩) (by simp <;> omega); have ff21 := hb.frozen (p := ⟨w.heap.size + 1 + 1, 1, none⟩) (by simp <;> omega); have hz2 : w.heap.size + 1 + 1 < w1.heap.size := (by have := hb.size; simp at this; omega))
  obtain ⟨W0, hW0, k0, k1, k2, k3, k4, k5, k6, k7, k8, kb⟩ : ∃ W0, w1.alloc (.cells #[.int .u64 0, .int .u64 0] 29) = W0 ∧ W0.cell? ⟨w.heap.size, 0, none⟩ = some (.slice A 0 c) ∧ W0.cell? ⟨w1.heap.size, 0, none⟩ = some (.int .u64 0) ∧ W0.cell? ⟨w1.heap.size, 1, none⟩ = some (.int .u64 0) ∧ W0.cell? ⟨w.heap.size + 1, 0, none⟩ = some (.slice none 0 0) ∧ W0.cell? ⟨w.heap.size + 1 + 1, 0, none⟩ = some (.int .u64 0) ∧ W0.cell? ⟨w.heap.size + 1 + 1, 1, none⟩ = some (.int .u64 0) ∧ W0.frozen? ⟨w.heap.size + 1, 0, none⟩ = false ∧ W0.frozen? ⟨w.heap.size + 1 + 1, 0, none⟩ = false ∧ W0.frozen? ⟨w.heap.size + 1 + 1, 1, none⟩ = false ∧ Below w.heap.size w W0 :=
    ⟨_, rfl, by go_simp, by go_simp, by go_simp, by go_simp, by go_simp, by go_simp, by go_simp, by go_simp, by go_simp, ((((((Below.refl _ _).alloc (Nat.le_refl _) _).alloc (by simp) _).alloc (by simp <;> omega) _).trans (hb.mono (by simp <;> omega))).alloc (by omega) _)⟩
  rw [hW0]
  clear hW0
  clear fc00 ff00 fc10 ff10 fc20 ff20 fc21 ff21
  go_region_held3 (fun w' => w'.cell? ⟨w.heap.size, 0, none⟩ = some (.slice A 0 c) ∧ w'.cell? ⟨w1.heap.size, 0, none⟩ = some (.int .u64 0) ∧ w'.cell? ⟨w1.heap.size, 1, none⟩ = some (.int .u64 0))
    (((try dsimp only); go_split_ands; (refine ⟨?_, ?_, ?_⟩) <;> ((repeat (refine keep_set ?_ (by dsimp only; omega))); (first | assumption | go_keep))))
    ((fail))
  go_wp2
  refine bodyPost_ret (v := .tuple #[.agg #[.slice A 0 c], .agg #[.int .u64 0, .int .u64 0], .bool false]) (by simp [results, Try.results9, go_sem, k3, k4, k5]) rfl ⟨rfl, ?_⟩
  repeat (first | assumption | exact Below.refl _ _ | refine Below.drew ?_ | refine below_drewN ?_ _ | refine Below.setCell ?_ (by simp <;> omega) _ | refine Below.alloc ?_ (by simp <;> omega) _)

set_option maxHeartbeats 1000000 in
theorem pop_p_cons {A : Option Addr} {n c : Nat} {p : Pr} {r : List Pr} {w : World} (h : Sl pc w A (n + 1) c (p :: r)) (hn : n ≤ 1000000) :
    Calls Try.prog 9 #[.agg #[.slice A (n + 1) c]] w fun e w' => e = .returned (.tuple #[.agg #[.slice (if c = 1 then A else A.map (·.add 2)) n (c - 1)], .agg #[.int .u64 p.1, .int .u64 p.2], .bool true]) ∧ Below w.heap.size w w' := by
  obtain ⟨A', hA'⟩ : ∃ A', (if c = 1 then A else A.map (·.add 2)) = A' := ⟨_, rfl⟩
  rw [hA']
  have hsl := fun (wx : World) => slice_from1 (P := Try.prog) 22 29 A n c wx h.cap (fun hx => by have := h.nil_ hx; omega) Try.underlying22 info_p
  rw [hA'] at hsl
  clear hA'
  go_enter Try.func9, Try.ntmps9
  go_wp2_with (go_at_call 12; refine (peek_p_cons (((h.alloc _).alloc _).alloc _) hn).mono ?_; rintro e w1 ⟨rfl, hb⟩; have fc00 := hb.cell (p := ⟨w.heap.size, 0, none⟩) (by simp <;> omega); have ff00 := hb.frozen (p := ⟨w.heap.size, 0, none⟩) (by simp <;> omega); have hz0 : w.heap.size < w1.heap.size := (by have := hb.size; simp at this; omega); have fc10 := hb.cell (p := ⟨w.heap.size + 1, 0, none⟩) (by simp <;> omega); have ff10 := hb.frozen (p := ⟨w.heap.size + 1, 0, none⟩) (by simp <;> omega); have hz1 : w.heap.size + 1 < w1.heap.size := (by have := hb.size; simp at this; omega); have fc20 := hb.cell (p := ⟨w.heap.size + 1 + 1, 0, none⟩) (by simp <;> omega); have ff20 := hb.frozen (p := ⟨w.heap.size + 1 + 1, 0, none⟩) (by simp <;> omega); have fc21 := hb.cell (p := ⟨w.heap.size + 1 + 1, 1, none⟩) (by simp <;> omega); have ff21 := hb.frozen (p := ⟨w.heap.size + 1 + 1, 1, none⟩) (by simp <;> omega); have hz2 : w.heap.size + 1 + 1 < w1.heap.size := (by have := hb.size; simp at this; omega))
  obtain ⟨W0, hW0, k0, k1, k2, k3, k4, k5, k6, k7, k8, kb⟩ : ∃ W0, w1.alloc (.cells #[.int .u64 p.1, .int .u64 p.2] 29) = W0 ∧ W0.cell? ⟨w.heap.size, 0, none⟩ = some (.slice A (n + 1) c) ∧ W0.cell? ⟨w1.heap.size, 0, none⟩ = some (.int .u64 p.1) ∧ W0.cell? ⟨w1.heap.size, 1, none⟩ = some (.int .u64 p.2) ∧ W0.cell? ⟨w.heap.size + 1, 0, none⟩ = some (.slice none 0 0) ∧ W0.cell? ⟨w.heap.size + 1 + 1, 0, none⟩ = some (.int .u64 0) ∧ W0.cell? ⟨w.heap.size + 1 + 1, 1, none⟩ = some (.int .u64 0) ∧ W0.frozen? ⟨w.heap.size + 1, 0, none⟩ = false ∧ W0.frozen? ⟨w.heap.size + 1 + 1, 0, none⟩ = false ∧ W0.frozen? ⟨w.heap.size + 1 + 1, 1, none⟩ = false ∧ Below w.heap.size w W0 :=
    ⟨_, rfl, by go_simp, by go_simp, by go_simp, by go_simp, by go_simp, by go_simp, by go_simp, by go_simp, by go_simp, ((((((Below.refl _ _).alloc (Nat.le_refl _) _).alloc (by simp) _).alloc (by simp <;> omega) _).trans (hb.mono (by simp <;> omega))).alloc (by omega) _)⟩
  rw [hW0]
  clear hW0
  clear fc00 ff00 fc10 ff10 fc20 ff20 fc21 ff21
  go_region_held3 (fun w' => w'.cell? ⟨w.heap.size, 0, none⟩ = some (.slice A (n + 1) c) ∧ w'.cell? ⟨w1.heap.size, 0, none⟩ = some (.int .u64 p.1) ∧ w'.cell? ⟨w1.heap.size, 1, none⟩ = some (.int .u64 p.2))
    (((try dsimp only); go_split_ands; (refine ⟨?_, ?_, ?_⟩) <;> ((repeat (refine keep_set ?_ (by dsimp only; omega))); (first | assumption | go_keep))))
    ((fail))
  go_wp2
  refine bodyPost_ret (v := .tuple #[.agg #[.slice A' n (c - 1)], .agg #[.int .u64 p.1, .int .u64 p.2], .bool true]) (by simp [results, Try.results9, go_sem, k3, k4, k5]) rfl ⟨rfl, ?_⟩
  repeat (first | assumption | exact Below.refl _ _ | refine Below.drew ?_ | refine below_drewN ?_ _ | refine Below.setCell ?_ (by simp <;> omega) _ | refine Below.alloc ?_ (by simp <;> omega) _)

theorem pop_p {A : Option Addr} {n c : Nat} {p : Pr} {r : List Pr} {w : World} (h : Sl pc w A (n + 1) c (p :: r)) (hn : n ≤ 1000000) :
    Calls Try.prog 9 #[.agg #[.slice A (n + 1) c]] w fun e w' => ∃ A' c', e = .returned (.tuple #[.agg #[.slice A' n c'], .agg #[.int .u64 p.1, .int .u64 p.2], .bool true]) ∧
      Sl pc w' A' n c' r ∧ (∀ ad, A' = some ad → ∃ ad0, A = some ad0 ∧ ad.block = ad0.block) ∧ Below w.heap.size w w' :=
  (pop_p_cons h hn).mono fun e w' ⟨he, hb⟩ => ⟨_, _, he, (rest_p pc_len h hb).1, (rest_p pc_len h hb).2, hb⟩
end Go.Proofs.Ytnmbobhbhfmjeaa
