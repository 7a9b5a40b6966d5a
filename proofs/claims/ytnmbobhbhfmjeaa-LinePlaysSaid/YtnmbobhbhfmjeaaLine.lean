/- The contracts of package line at pairs and at ints: Clone, Equal, Of, Push, Peek, Pop, Len, All, Same. -/
import Derived.Test.YtnmbobhbhfmjeaaBase
import Derived.Test.YtnmbobhbhfmjeaaProg
import Derived.StillTailTactics
namespace Go.Proofs.Ytnmbobhbhfmjeaa
set_option linter.unusedVariables false
set_option linter.unusedSimpArgs false
open Go.RowKit

abbrev Pr := Int × Int
def pc (p : Pr) : List Value := [.int .u64 p.1, .int .u64 p.2]
def ic (n : Int) : List Value := [.int .i64 n]
theorem pc_len (p : Pr) : (pc p).length = 2 := rfl
theorem ic_len (n : Int) : (ic n).length = 1 := rfl
theorem pc_one (l : List Pr) : ∀ u ∈ l.flatMap pc, u.oneCell' = true := by
  intro u hu
  obtain ⟨p, _, hp⟩ := List.mem_flatMap.1 hu
  simp only [pc, List.mem_cons, List.not_mem_nil, or_false] at hp
  rcases hp with rfl | rfl <;> rfl
theorem ic_one (l : List Int) : ∀ u ∈ l.flatMap ic, u.oneCell' = true := by
  intro u hu
  obtain ⟨p, _, hp⟩ := List.mem_flatMap.1 hu
  simp only [ic, List.mem_cons, List.not_mem_nil, or_false] at hp
  rw [hp]; rfl
theorem info_p : (Try.prog.info? 29).map (fun i => (i.zero, i.size, i.bytes)) = some (some (.agg #[.int .u64 0, .int .u64 0]), 2, 16) := by kernel_rfl
theorem info_i : (Try.prog.info? 3).map (fun i => (i.zero, i.size, i.bytes)) = some (some (.int .i64 0), 1, 8) := by kernel_rfl
theorem elem_p : ∃ i, Elem Try.prog 22 29 i (.agg #[.int .u64 0, .int .u64 0]) 2 16 := Elem.of Try.underlying22 info_p rfl (by decide)
theorem elem_i : ∃ i, Elem Try.prog 42 3 i (.int .i64 0) 1 8 := Elem.of Try.underlying42 info_i rfl (by decide)

/-! ### burnbag/api.Pair -/
set_option maxHeartbeats 400000 in
theorem clone_p {A : Option Addr} {n c : Nat} {l : List Pr} {w : World} (h : Sl pc w A n c l) (hn : n ≤ 1000000) :
    Calls Try.prog 22 #[.slice A n c] w fun e w' => ∃ A' c', e = .returned (.slice A' n c') ∧ w'.ownsRow w.heap.size 29 2 (.slice A' n c') n (l.flatMap pc) ∧ Below w.heap.size w w' := by
  obtain ⟨i0, E⟩ := elem_p
  have hnil := fun (wx : World) => Lib.run_eql_slice_nil (P := Try.prog) wx 22 29 A n c 0 0 Try.underlying22
  cases A with
  | none =>
    obtain ⟨rfl, rfl⟩ := h.nil_ rfl
    obtain rfl : l = [] := List.eq_nil_of_length_eq_zero h.len
    go_enter Try.func22, Try.ntmps22
    go_wp2
    go_ret
    exact ⟨none, 0, rfl, World.ownsRow_nil _ _ _ _, Below.refl _ _⟩
  | some ad =>
    have hr := h.rd
    have hx : (l.flatMap pc).length = n * 2 := by rw [flat_len pc_len, h.len]
    have h1 := pc_one l
    go_enter Try.func22, Try.ntmps22
    go_wp2_with (at_builtin; refine wpList_app E rfl (.tmp 5) (.tmp 6) rfl w.heap.size rfl (own_new w (Nat.le_refl _) (by decide) (Nat.le_refl 0) rfl) rfl hx (hr.alloc _) h1 (by unfold maxLen; omega) (by omega) (by simp) ?_; intro A' c' w1 hown hg hat)
    go_ret
    exact ⟨A', c', by simp, by simpa using hown, (Below.refl _ _).alloc (Nat.le_refl _) _ |>.grown hg (by simp) (by intro k hk; cases hk; simp)⟩

set_option maxHeartbeats 400000 in
theorem of_p {A : Option Addr} {n c : Nat} {l : List Pr} {w : World} (h : Sl pc w A n c l) (hn : n ≤ 1000000) :
    Calls Try.prog 7 #[.slice A n c] w fun e w' => ∃ A' c', e = .returned (.agg #[.slice A' n c']) ∧ w'.ownsRow w.heap.size 29 2 (.slice A' n c') n (l.flatMap pc) ∧ Below w.heap.size w w' := by
  go_enter Try.func7, Try.ntmps7
  go_wp2_with (go_at_call 22; refine (clone_p (h.alloc _) hn).mono ?_; rintro e w1 ⟨A', c', rfl, hown, hb⟩; have f1 := hb.cell (p := ⟨w.heap.size, 0, none⟩) (by simp); have f2 := hb.frozen (p := ⟨w.heap.size, 0, none⟩) (by simp))
  refine bodyPost_ret (v := .agg #[.slice A' n c']) (by simp [results, Try.results7, go_sem, f1]) rfl ⟨A', c', rfl, own_set hown (by simp) (by simp) _, ?_⟩
  exact Below.setCell (((Below.refl _ _).alloc (Nat.le_refl _) _).trans (hb.mono (by simp))) (by simp) _

set_option maxHeartbeats 400000 in
theorem len_p (A : Option Addr) (n c : Nat) (w : World) (hn : n ≤ 1000000) :
    Calls Try.prog 10 #[.agg #[.slice A n c]] w fun e w' => e = .returned (.int .i64 n) ∧ Below w.heap.size w w' := by
  go_enter Try.func10, Try.ntmps10
  go_wp2
  go_ret
  exact ⟨rfl, (Below.refl _ _).alloc (Nat.le_refl _) _⟩

set_option maxHeartbeats 400000 in
theorem all_p {A : Option Addr} {n c : Nat} {l : List Pr} {w : World} (h : Sl pc w A n c l) (hn : n ≤ 1000000) :
    Calls Try.prog 14 #[.agg #[.slice A n c]] w fun e w' => ∃ A' c', e = .returned (.slice A' n c') ∧ w'.ownsRow w.heap.size 29 2 (.slice A' n c') n (l.flatMap pc) ∧ Below w.heap.size w w' := by
  go_enter Try.func14, Try.ntmps14
  go_wp2_with (go_at_call 22; refine (clone_p (h.alloc _) hn).mono ?_; rintro e w1 ⟨A', c', rfl, hown, hb⟩)
  go_ret
  exact ⟨A', c', rfl, own_base hown (by simp), ((Below.refl _ _).alloc (Nat.le_refl _) _).trans (hb.mono (by simp))⟩

/-! ### int -/
set_option maxHeartbeats 400000 in
theorem clone_i {A : Option Addr} {n c : Nat} {l : List Int} {w : World} (h : Sl ic w A n c l) (hn : n ≤ 1000000) :
    Calls Try.prog 24 #[.slice A n c] w fun e w' => ∃ A' c', e = .returned (.slice A' n c') ∧ w'.ownsRow w.heap.size 3 1 (.slice A' n c') n (l.flatMap ic) ∧ Below w.heap.size w w' := by
  obtain ⟨i0, E⟩ := elem_i
  have hnil := fun (wx : World) => Lib.run_eql_slice_nil (P := Try.prog) wx 42 3 A n c 0 0 Try.underlying42
  cases A with
  | none =>
    obtain ⟨rfl, rfl⟩ := h.nil_ rfl
    obtain rfl : l = [] := List.eq_nil_of_length_eq_zero h.len
    go_enter Try.func24, Try.ntmps24
    go_wp2
    go_ret
    exact ⟨none, 0, rfl, World.ownsRow_nil _ _ _ _, Below.refl _ _⟩
  | some ad =>
    have hr := h.rd
    have hx : (l.flatMap ic).length = n * 1 := by rw [flat_len ic_len, h.len]
    have h1 := ic_one l
    go_enter Try.func24, Try.ntmps24
    go_wp2_with (at_builtin; refine wpList_app E rfl (.tmp 5) (.tmp 6) rfl w.heap.size rfl (own_new w (Nat.le_refl _) (by decide) (Nat.le_refl 0) rfl) rfl hx (hr.alloc _) h1 (by unfold maxLen; omega) (by omega) (by simp) ?_; intro A' c' w1 hown hg hat)
    go_ret
    exact ⟨A', c', by simp, by simpa using hown, (Below.refl _ _).alloc (Nat.le_refl _) _ |>.grown hg (by simp) (by intro k hk; cases hk; simp)⟩

set_option maxHeartbeats 400000 in
theorem of_i {A : Option Addr} {n c : Nat} {l : List Int} {w : World} (h : Sl ic w A n c l) (hn : n ≤ 1000000) :
    Calls Try.prog 16 #[.slice A n c] w fun e w' => ∃ A' c', e = .returned (.agg #[.slice A' n c']) ∧ w'.ownsRow w.heap.size 3 1 (.slice A' n c') n (l.flatMap ic) ∧ Below w.heap.size w w' := by
  go_enter Try.func16, Try.ntmps16
  go_wp2_with (go_at_call 24; refine (clone_i (h.alloc _) hn).mono ?_; rintro e w1 ⟨A', c', rfl, hown, hb⟩; have f1 := hb.cell (p := ⟨w.heap.size, 0, none⟩) (by simp); have f2 := hb.frozen (p := ⟨w.heap.size, 0, none⟩) (by simp))
  refine bodyPost_ret (v := .agg #[.slice A' n c']) (by simp [results, Try.results16, go_sem, f1]) rfl ⟨A', c', rfl, own_set hown (by simp) (by simp) _, ?_⟩
  exact Below.setCell (((Below.refl _ _).alloc (Nat.le_refl _) _).trans (hb.mono (by simp))) (by simp) _

set_option maxHeartbeats 400000 in
theorem len_i (A : Option Addr) (n c : Nat) (w : World) (hn : n ≤ 1000000) :
    Calls Try.prog 20 #[.agg #[.slice A n c]] w fun e w' => e = .returned (.int .i64 n) ∧ Below w.heap.size w w' := by
  go_enter Try.func20, Try.ntmps20
  go_wp2
  go_ret
  exact ⟨rfl, (Below.refl _ _).alloc (Nat.le_refl _) _⟩

set_option maxHeartbeats 400000 in
theorem all_i {A : Option Addr} {n c : Nat} {l : List Int} {w : World} (h : Sl ic w A n c l) (hn : n ≤ 1000000) :
    Calls Try.prog 18 #[.agg #[.slice A n c]] w fun e w' => ∃ A' c', e = .returned (.slice A' n c') ∧ w'.ownsRow w.heap.size 3 1 (.slice A' n c') n (l.flatMap ic) ∧ Below w.heap.size w w' := by
  go_enter Try.func18, Try.ntmps18
  go_wp2_with (go_at_call 24; refine (clone_i (h.alloc _) hn).mono ?_; rintro e w1 ⟨A', c', rfl, hown, hb⟩)
  go_ret
  exact ⟨A', c', rfl, own_base hown (by simp), ((Below.refl _ _).alloc (Nat.le_refl _) _).trans (hb.mono (by simp))⟩

set_option maxHeartbeats 1000000 in
theorem push_p {A : Option Addr} {n c : Nat} {l : List Pr} {w : World} (h : Sl pc w A n c l) (a b : Int) (hn : n ≤ 1000000) :
    Calls Try.prog 8 #[.agg #[.slice A n c], .agg #[.int .u64 a, .int .u64 b]] w fun e w' => ∃ A' c', e = .returned (.agg #[.slice A' (n + 1) c']) ∧
      w'.ownsRow w.heap.size 29 2 (.slice A' (n + 1) c') (n + 1) ((l ++ [(a, b)]).flatMap pc) ∧ Below w.heap.size w w' := by
  obtain ⟨i0, E⟩ := elem_p
  have hr := h.rd
  have hx : (l.flatMap pc).length = n * 2 := by rw [flat_len pc_len, h.len]
  have h1 := pc_one l
  have hc := h.cap
  have hA := fun hA => (h.nil_ hA).1
  have hfin : Hid ((l ++ [(a, b)]).flatMap pc = l.flatMap pc ++ [.int .u64 a, .int .u64 b]) := by simp [Hid, pc]
  clear h
  go_enter Try.func8, Try.ntmps8
  go_wp2_with fail
  go_region_held3 (fun w' => w'.cell? ⟨w.heap.size, 0, none⟩ = some (.slice A n c) ∧ w'.cell? ⟨w.heap.size + 1, 0, none⟩ = some (.int .u64 a) ∧ w'.cell? ⟨w.heap.size + 1, 1, none⟩ = some (.int .u64 b))
    (((try dsimp only); (refine ⟨?_, ?_, ?_⟩) <;> (first | (rw [World.cell?_setCell_far _ _ _ _ (by dsimp only; omega)]; simp only [*]; done) | go_keep | (refine hg.cell ?_ (by simp); go_keep))))
    ((refine step_grow (ys := [.int .u64 a, .int .u64 b]) (m := 1) E rfl (.tmp 13) (.tmp 15) rfl rfl hx ((((hr.alloc _).alloc _).alloc _).drew.alloc _) h1 (fun h => hA h) rfl rfl (Rd.drew (Rd.new _ #[.int .u64 a, .int .u64 b] _ (by simp))) (by simp [Value.oneCell']) (by omega) (by unfold maxLen; omega) (by omega) ?_; intro A' c' w1 hown hg; have f1 : w1.cell? ⟨w.heap.size + 1 + 1, 0, none⟩ = some (.slice none 0 0) := grown_cell hg (by simp) (by go_simp); have f2 : w1.frozen? ⟨w.heap.size + 1 + 1, 0, none⟩ = false := grown_frozen hg (by simp) (by go_simp)))
  go_wp2
  refine bodyPost_ret (v := .agg #[.slice A' (n + 1) c']) (by simp [results, Try.results8, go_sem, f1]) rfl ⟨A', c', rfl, ?_, ?_⟩
  · rw [hfin.out]
    exact own_set hown (by simp <;> omega) (by simp <;> omega) _
  · exact Below.setCell (Below.grown ((((((Below.refl _ _).alloc (Nat.le_refl _) _).alloc (by simp) _).alloc (by simp <;> omega) _).alloc (by simp <;> omega) _).drew) hg (by simp <;> omega) (by simp)) (by simp <;> omega) _

set_option maxHeartbeats 1000000 in
theorem push_i {A : Option Addr} {n c : Nat} {l : List Int} {w : World} (h : Sl ic w A n c l) (a : Int) (hn : n ≤ 1000000) :
    Calls Try.prog 17 #[.agg #[.slice A n c], .int .i64 a] w fun e w' => ∃ A' c', e = .returned (.agg #[.slice A' (n + 1) c']) ∧
      w'.ownsRow w.heap.size 3 1 (.slice A' (n + 1) c') (n + 1) ((l ++ [a]).flatMap ic) ∧ Below w.heap.size w w' := by
  obtain ⟨i0, E⟩ := elem_i
  have hr := h.rd
  have hx : (l.flatMap ic).length = n * 1 := by rw [flat_len ic_len, h.len]
  have h1 := ic_one l
  have hc := h.cap
  have hA := fun hA => (h.nil_ hA).1
  have hfin : Hid ((l ++ [a]).flatMap ic = l.flatMap ic ++ [.int .i64 a]) := by simp [Hid, ic]
  clear h
  go_enter Try.func17, Try.ntmps17
  go_wp2_with (at_builtin; refine wpList_grow (ys := [.int .i64 a]) (m := 1) E rfl (.tmp 13) (.tmp 15) rfl rfl hx (((hr.alloc _).alloc _).alloc _) h1 (fun h => hA h) rfl rfl (Rd.new _ #[.int .i64 a] _ (by simp)) (by simp [Value.oneCell']) (by omega) (by unfold maxLen; omega) (by omega) ?_; intro A' c' w1 hown hg; have f1 : w1.cell? ⟨w.heap.size + 1, 0, none⟩ = some (.slice none 0 0) := grown_cell hg (by simp) (by go_simp); have f2 : w1.frozen? ⟨w.heap.size + 1, 0, none⟩ = false := grown_frozen hg (by simp) (by go_simp))
  refine bodyPost_ret (v := .agg #[.slice A' (n + 1) c']) (by simp [results, Try.results17, go_sem, f1]) rfl ⟨A', c', rfl, ?_, ?_⟩
  · rw [hfin.out]
    exact own_set hown (by simp <;> omega) (by simp <;> omega) _
  · exact Below.setCell (Below.grown ((((Below.refl _ _).alloc (Nat.le_refl _) _).alloc (by simp) _).alloc (by simp <;> omega) _) hg (by simp <;> omega) (by simp)) (by simp <;> omega) _
end Go.Proofs.Ytnmbobhbhfmjeaa
