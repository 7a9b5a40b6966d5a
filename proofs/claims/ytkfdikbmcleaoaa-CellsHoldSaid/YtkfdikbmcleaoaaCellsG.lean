/- The laws CellsPlay, CellsNew, CellsHold. -/
import Derived.Test.YtkfdikbmcleaoaaCellsF
namespace Go.Proofs.Ytkfdikbmcleaoaa
set_option linter.unusedVariables false
set_option linter.unusedSimpArgs false
open Go.RowKit

set_option maxHeartbeats 4000000 in
set_option maxRecDepth 100000 in
theorem play_any {w : World} {A B : Option Addr} {n c no co : Nat} {l : List Int} {ops : List MOp} (hs : Sl us w A n c l) (ho : Sl opc w B no co ops) (hc1 : c ≤ maxLen) (hc2 : co ≤ maxLen) (o : MOp) :
    Calls Try.prog 5 #[.slice A n c, .slice B no co, .agg #[.int .i64 o.k, .int .i64 o.a, .int .u64 o.old, .int .u64 o.nx]] w fun e w' => e = .returned (.bool true) ∧ Below w.heap.size w w' := by
  unfold maxLen at hc1 hc2
  have e1 := hs.cap
  have e2 := ho.cap
  obtain rfl := hs.len
  by_cases g1 : 1 ≤ l.length ∧ l.length ≤ 4096
  · by_cases g2 : no ≤ 60
    · exact play_walk hs ho g1.1 g1.2 g2 o
    · have t1 : decide ((l.length : Int) < 1) = false := decide_eq_false (by omega)
      have t2 : decide ((4096 : Int) < (l.length : Int)) = false := decide_eq_false (by omega)
      have t3 : (60 : Int) < (no : Int) := by omega
      have hof := fun (w : World) (h : Sl us w A l.length c l) => of_yes h g1.1 g1.2
      have hsa := hs.alloc (.cells #[.int .i64 o.k, .int .i64 o.a, .int .u64 o.old, .int .u64 o.nx] 34)
      clear hs ho
      generalize l.length = n at *
      go_enter Try.func5, Try.ntmps5
      go_wp2_with fail
      refine (hof _ hsa).mono ?_
      rintro e w1 ⟨p, g, rfl, hm, hp, hg, hb1⟩
      clear hm hof hsa
      go_wp2_with fail
      refine (lives06 _).mono ?_
      rintro e w2 ⟨rfl, hb2⟩
      go_wp2
      go_ret
      exact ⟨rfl, bnext (bnext (bnew (brefl w) _) hb1) hb2⟩
  · have hof := of_no (A := A) (c := c) (n := l.length) (by omega) (by omega)
    rcases (by omega : l.length < 1 ∨ (¬ l.length < 1 ∧ 4096 < l.length)) with g2 | g2
    · have t1 : (l.length : Int) < 1 := by omega
      clear hs ho g1
      generalize l.length = n at *
      go_enter Try.func5, Try.ntmps5
      go_wp2_with fail
      refine (hof _).mono ?_
      rintro e w1 ⟨rfl, rfl⟩
      go_wp2_with fail
      refine (lives06 _).mono ?_
      rintro e w2 ⟨rfl, hb2⟩
      go_wp2
      go_ret
      exact ⟨rfl, bnext (bnew (brefl w) _) hb2⟩
    · have t1 : decide ((l.length : Int) < 1) = false := decide_eq_false (by omega)
      have t2 : (4096 : Int) < (l.length : Int) := by omega
      clear hs ho g1
      generalize l.length = n at *
      go_enter Try.func5, Try.ntmps5
      go_wp2_with fail
      refine (hof _).mono ?_
      rintro e w1 ⟨rfl, rfl⟩
      go_wp2_with fail
      refine (lives06 _).mono ?_
      rintro e w2 ⟨rfl, hb2⟩
      go_wp2
      go_ret
      exact ⟨rfl, bnext (bnew (brefl w) _) hb2⟩


set_option maxHeartbeats 4000000 in
set_option maxRecDepth 100000 in
theorem donil_0 (a od nx : Int) (w : World) : Calls Try.prog 13 #[.pointer none, .agg #[.int .i64 0, .int .i64 a, .int .u64 od, .int .u64 nx]] w fun e w' => e = .returned (.tuple #[.int .u64 0, .bool false]) ∧ Below w.heap.size w w' := by
  go_enter Try.func13, Try.ntmps13
  go_wp2_with fail
  refine (load_nil a _).mono ?_
  rintro e w1 ⟨rfl, rfl⟩
  go_wp2
  go_ret2
  exact ⟨rfl, bnew (brefl w) _⟩

set_option maxHeartbeats 4000000 in
set_option maxRecDepth 100000 in
theorem donil_1 (a od nx : Int) (w : World) : Calls Try.prog 13 #[.pointer none, .agg #[.int .i64 1, .int .i64 a, .int .u64 od, .int .u64 nx]] w fun e w' => e = .returned (.tuple #[.int .u64 0, .bool false]) ∧ Below w.heap.size w w' := by
  go_enter Try.func13, Try.ntmps13
  go_wp2_with fail
  refine (store_nil a nx _).mono ?_
  rintro e w1 ⟨rfl, rfl⟩
  go_wp2
  go_ret2
  exact ⟨rfl, bnew (brefl w) _⟩

set_option maxHeartbeats 4000000 in
set_option maxRecDepth 100000 in
theorem donil_c (k : Int) (k0 : k ≠ 0) (k1 : k ≠ 1) (a od nx : Int) (w : World) : Calls Try.prog 13 #[.pointer none, .agg #[.int .i64 k, .int .i64 a, .int .u64 od, .int .u64 nx]] w fun e w' => e = .returned (.tuple #[.int .u64 0, .bool false]) ∧ Below w.heap.size w w' := by
  have t0 : (k == 0) = false := by simpa using k0
  have t1 : (k == 1) = false := by simpa using k1
  clear k0 k1
  go_enter Try.func13, Try.ntmps13
  go_wp2_with fail
  refine (cas_nil a od nx _).mono ?_
  rintro e w1 ⟨rfl, rfl⟩
  go_wp2
  go_ret2
  exact ⟨rfl, bnew (brefl w) _⟩
theorem donil_any (o : MOp) (w : World) : Calls Try.prog 13 #[.pointer none, .agg #[.int .i64 o.k, .int .i64 o.a, .int .u64 o.old, .int .u64 o.nx]] w fun e w' => e = .returned (.tuple #[.int .u64 0, .bool false]) ∧ Below w.heap.size w w' := by
  obtain ⟨k, a, od, nx⟩ := o
  by_cases k0 : k = 0
  · subst k0
    exact donil_0 a od nx w
  · by_cases k1 : k = 1
    · subst k1
      exact donil_1 a od nx w
    · exact donil_c k k0 k1 a od nx w

set_option maxHeartbeats 4000000 in
set_option maxRecDepth 100000 in
theorem cellsnew_yes (n : Nat) (h1 : 1 ≤ n) (h2 : n ≤ 4096) (o : MOp) (w : World) : Calls Try.prog 4 #[.int .i64 (n : Int), .agg #[.int .i64 o.k, .int .i64 o.a, .int .u64 o.old, .int .u64 o.nx]] w fun e w' => e = .returned (.bool true) ∧ Below w.heap.size w w' := by
  have t1 : decide ((n : Int) < 1) = false := decide_eq_false (by omega)
  have t2 : decide ((4096 : Int) < (n : Int)) = false := decide_eq_false (by omega)
  have hmk := mk_zer n (by omega)
  have hnw := new_yes n h1 h2
  go_enter Try.func4, Try.ntmps4
  go_wp2_with fail
  obtain ⟨W0, hW0, x0, x1, x2, x3, kb⟩ : ∃ W0, w.alloc (.cells #[.int .i64 o.k, .int .i64 o.a, .int .u64 o.old, .int .u64 o.nx] 34) = W0 ∧ W0.cell? ⟨w.heap.size, 0, none⟩ = some (.int .i64 o.k) ∧ W0.cell? ⟨w.heap.size, 1, none⟩ = some (.int .i64 o.a) ∧ W0.cell? ⟨w.heap.size, 2, none⟩ = some (.int .u64 o.old) ∧ W0.cell? ⟨w.heap.size, 3, none⟩ = some (.int .u64 o.nx) ∧ Below w.heap.size w W0 :=
    ⟨_, rfl, by go_simp, by go_simp, by go_simp, by go_simp, bnew (brefl w) _⟩
  rw [hW0]
  clear hW0
  refine (donil_any o _).mono ?_
  rintro e w1 ⟨rfl, hb1⟩
  have kb1 := bnext kb hb1
  clear x0 x1 x2 x3 kb hb1
  go_wp2_with fail
  refine (last_nil _).mono ?_
  rintro e w2 ⟨rfl, rfl⟩
  go_wp2_with fail
  refine (accesses_nil _).mono ?_
  rintro e w2 ⟨rfl, rfl⟩
  go_wp2_with fail
  refine (writes_nil _).mono ?_
  rintro e w2 ⟨rfl, rfl⟩
  go_wp2_with fail
  refine (fault_nil _).mono ?_
  rintro e w2 ⟨rfl, rfl⟩
  go_wp2_with fail
  refine (words_nil _).mono ?_
  rintro e w2 ⟨rfl, rfl⟩
  go_wp2_with fail
  refine (clone_nil _).mono ?_
  rintro e w2 ⟨rfl, rfl⟩
  go_wp2_with fail
  refine (hnw _).mono ?_
  rintro e w3 ⟨p, g, rfl, hm, hp, hg, hb3⟩
  have hl : (mem0 (List.replicate n 0)).ws.length = n := by simp [mem0]
  have hsl : Sl us (w3.alloc (.cells (zer n) 24)) (some ⟨w3.heap.size, 0, none⟩) n n (List.replicate n 0) := Sl.of_words (t := 24) (by rw [← zer_map]; exact Blk.new _ _ _) (by simp) (Nat.le_refl _)
  have hsm := same_any (m := mem0 (List.replicate n 0)) (hm.below (bnew (brefl w3) (.cells (zer n) 24))) (A := some ⟨w3.heap.size, 0, none⟩) (c := n) (by rw [hl]; exact hsl) (by rw [hl]; exact h2)
  rw [hl] at hsm
  clear hl hsl hm hnw
  go_wp2_with fail
  refine hsm.mono ?_
  rintro e w4 ⟨rfl, hb4⟩
  go_wp2_with fail
  refine (lives06 _).mono ?_
  rintro e w5 ⟨rfl, hb5⟩
  go_wp2
  go_ret
  exact ⟨rfl, bnext (bnext (bnew (bnext kb1 hb3) _) hb4) hb5⟩

set_option maxHeartbeats 4000000 in
set_option maxRecDepth 100000 in
theorem cellsnew_lo (n : Int) (h : n < 1) (o : MOp) (w : World) : Calls Try.prog 4 #[.int .i64 n, .agg #[.int .i64 o.k, .int .i64 o.a, .int .u64 o.old, .int .u64 o.nx]] w fun e w' => e = .returned (.bool true) ∧ Below w.heap.size w w' := by
  have hnw := new_no n (by omega)
  go_enter Try.func4, Try.ntmps4
  go_wp2_with fail
  obtain ⟨W0, hW0, x0, x1, x2, x3, kb⟩ : ∃ W0, w.alloc (.cells #[.int .i64 o.k, .int .i64 o.a, .int .u64 o.old, .int .u64 o.nx] 34) = W0 ∧ W0.cell? ⟨w.heap.size, 0, none⟩ = some (.int .i64 o.k) ∧ W0.cell? ⟨w.heap.size, 1, none⟩ = some (.int .i64 o.a) ∧ W0.cell? ⟨w.heap.size, 2, none⟩ = some (.int .u64 o.old) ∧ W0.cell? ⟨w.heap.size, 3, none⟩ = some (.int .u64 o.nx) ∧ Below w.heap.size w W0 :=
    ⟨_, rfl, by go_simp, by go_simp, by go_simp, by go_simp, bnew (brefl w) _⟩
  rw [hW0]
  clear hW0
  refine (donil_any o _).mono ?_
  rintro e w1 ⟨rfl, hb1⟩
  have kb1 := bnext kb hb1
  clear x0 x1 x2 x3 kb hb1
  go_wp2_with fail
  refine (last_nil _).mono ?_
  rintro e w2 ⟨rfl, rfl⟩
  go_wp2_with fail
  refine (accesses_nil _).mono ?_
  rintro e w2 ⟨rfl, rfl⟩
  go_wp2_with fail
  refine (writes_nil _).mono ?_
  rintro e w2 ⟨rfl, rfl⟩
  go_wp2_with fail
  refine (fault_nil _).mono ?_
  rintro e w2 ⟨rfl, rfl⟩
  go_wp2_with fail
  refine (words_nil _).mono ?_
  rintro e w2 ⟨rfl, rfl⟩
  go_wp2_with fail
  refine (clone_nil _).mono ?_
  rintro e w2 ⟨rfl, rfl⟩
  go_wp2_with fail
  refine (hnw _).mono ?_
  rintro e w3 ⟨rfl, rfl⟩
  go_wp2_with fail
  refine (lives06 _).mono ?_
  rintro e w5 ⟨rfl, hb5⟩
  go_wp2
  go_ret
  exact ⟨rfl, bnext kb1 hb5⟩

set_option maxHeartbeats 4000000 in
set_option maxRecDepth 100000 in
theorem cellsnew_hi (n : Int) (h : 4096 < n) (o : MOp) (w : World) : Calls Try.prog 4 #[.int .i64 n, .agg #[.int .i64 o.k, .int .i64 o.a, .int .u64 o.old, .int .u64 o.nx]] w fun e w' => e = .returned (.bool true) ∧ Below w.heap.size w w' := by
  have hnw := new_no n (by omega)
  have t1 : decide (n < 1) = false := decide_eq_false (by omega)
  go_enter Try.func4, Try.ntmps4
  go_wp2_with fail
  obtain ⟨W0, hW0, x0, x1, x2, x3, kb⟩ : ∃ W0, w.alloc (.cells #[.int .i64 o.k, .int .i64 o.a, .int .u64 o.old, .int .u64 o.nx] 34) = W0 ∧ W0.cell? ⟨w.heap.size, 0, none⟩ = some (.int .i64 o.k) ∧ W0.cell? ⟨w.heap.size, 1, none⟩ = some (.int .i64 o.a) ∧ W0.cell? ⟨w.heap.size, 2, none⟩ = some (.int .u64 o.old) ∧ W0.cell? ⟨w.heap.size, 3, none⟩ = some (.int .u64 o.nx) ∧ Below w.heap.size w W0 :=
    ⟨_, rfl, by go_simp, by go_simp, by go_simp, by go_simp, bnew (brefl w) _⟩
  rw [hW0]
  clear hW0
  refine (donil_any o _).mono ?_
  rintro e w1 ⟨rfl, hb1⟩
  have kb1 := bnext kb hb1
  clear x0 x1 x2 x3 kb hb1
  go_wp2_with fail
  refine (last_nil _).mono ?_
  rintro e w2 ⟨rfl, rfl⟩
  go_wp2_with fail
  refine (accesses_nil _).mono ?_
  rintro e w2 ⟨rfl, rfl⟩
  go_wp2_with fail
  refine (writes_nil _).mono ?_
  rintro e w2 ⟨rfl, rfl⟩
  go_wp2_with fail
  refine (fault_nil _).mono ?_
  rintro e w2 ⟨rfl, rfl⟩
  go_wp2_with fail
  refine (words_nil _).mono ?_
  rintro e w2 ⟨rfl, rfl⟩
  go_wp2_with fail
  refine (clone_nil _).mono ?_
  rintro e w2 ⟨rfl, rfl⟩
  go_wp2_with fail
  refine (hnw _).mono ?_
  rintro e w3 ⟨rfl, rfl⟩
  go_wp2_with fail
  refine (lives06 _).mono ?_
  rintro e w5 ⟨rfl, hb5⟩
  go_wp2
  go_ret
  exact ⟨rfl, bnext kb1 hb5⟩
theorem cellsnew_any (n : Int) (o : MOp) (w : World) : Calls Try.prog 4 #[.int .i64 n, .agg #[.int .i64 o.k, .int .i64 o.a, .int .u64 o.old, .int .u64 o.nx]] w fun e w' => e = .returned (.bool true) ∧ Below w.heap.size w w' := by
  rcases (by omega : n < 1 ∨ 4096 < n ∨ (1 ≤ n ∧ n ≤ 4096)) with h | h | h
  · exact cellsnew_lo n h o w
  · exact cellsnew_hi n h o w
  · obtain ⟨k, rfl⟩ : ∃ k : Nat, n = (k : Int) := ⟨n.toNat, by omega⟩
    exact cellsnew_yes k (by omega) (by omega) o w
end Go.Proofs.Ytkfdikbmcleaoaa
