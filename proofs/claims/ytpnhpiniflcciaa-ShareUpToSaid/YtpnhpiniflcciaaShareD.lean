/- All shares. -/
import Derived.Test.YtpnhpiniflcciaaShareC
namespace Go.Proofs.Ytpnhpiniflcciaa
set_option linter.unusedVariables false
set_option linter.unusedSimpArgs false
open Go.RowKit

/-- Share number k. -/
def sh (l : List Opr) (k : Nat) : List Opr := l.filter (inShare ((k : Int) / 4) ((k : Int) % 4))

/-- The array of shares in block B, k of them made. -/
structure ShBox (w wr : World) (B : Nat) (l : List Opr) (k : Nat) (As : Nat → Option Addr) (cs : Nat → Nat) : Prop where
  cell : ∀ j, j < 16 → wr.cell? ⟨B, j, none⟩ = some (if j < k then .slice (As j) (sh l j).length (cs j) else .slice none 0 0)
  fro : ∀ j, j < 16 → wr.frozen? ⟨B, j, none⟩ = false
  sl : ∀ j, j < k → Sl oc wr (As j) (sh l j).length (cs j) (sh l j)
  ne : ∀ j, j < k → ∀ ad, As j = some ad → ad.block ≠ B
  hb : Below w.heap.size w wr
  lt : B < wr.heap.size
  ge : w.heap.size ≤ B

set_option maxHeartbeats 2000000 in
set_option maxRecDepth 100000 in
theorem all_any {A : Option Addr} {n c : Nat} {l : List Opr} {w : World} (h : Sl oc w A n c l) (hn : n ≤ 1000000) :
    Calls Try.prog 19 #[.slice A n c] w fun e w' => ∃ (As : Nat → Option Addr) (cs : Nat → Nat), e = .returned (.agg #[.slice (As 0) (sh l 0).length (cs 0), .slice (As 1) (sh l 1).length (cs 1), .slice (As 2) (sh l 2).length (cs 2), .slice (As 3) (sh l 3).length (cs 3), .slice (As 4) (sh l 4).length (cs 4), .slice (As 5) (sh l 5).length (cs 5), .slice (As 6) (sh l 6).length (cs 6), .slice (As 7) (sh l 7).length (cs 7), .slice (As 8) (sh l 8).length (cs 8), .slice (As 9) (sh l 9).length (cs 9), .slice (As 10) (sh l 10).length (cs 10), .slice (As 11) (sh l 11).length (cs 11), .slice (As 12) (sh l 12).length (cs 12), .slice (As 13) (sh l 13).length (cs 13), .slice (As 14) (sh l 14).length (cs 14), .slice (As 15) (sh l 15).length (cs 15)]) ∧ (∀ j, j < 16 → Sl oc w' (As j) (sh l j).length (cs j) (sh l j)) ∧ Below w.heap.size w w' := by
  go_enter Try.func19, Try.ntmps19
  go_wp2_with fail
  go_loopg [4] 16 (fun gk i wr => ∃ (k : Nat) (As : Nat → Option Addr) (cs : Nat → Nat), k + gk = 16 ∧ i = .int .i64 k ∧ ShBox w wr w.heap.size l k As cs)
  case atStart =>
    have hj16 : ∀ j, j < 16 → j = 0 ∨ j = 1 ∨ j = 2 ∨ j = 3 ∨ j = 4 ∨ j = 5 ∨ j = 6 ∨ j = 7 ∨ j = 8 ∨ j = 9 ∨ j = 10 ∨ j = 11 ∨ j = 12 ∨ j = 13 ∨ j = 14 ∨ j = 15 := fun j hj => by omega
    refine ⟨0, fun _ => none, fun _ => 0, by omega, rfl, ?_, ?_, fun j hj => by omega, fun j hj => by omega, bnew (brefl w) _, by simp, Nat.le_refl _⟩
    · intro j hj
      rcases hj16 j hj with rfl | rfl | rfl | rfl | rfl | rfl | rfl | rfl | rfl | rfl | rfl | rfl | rfl | rfl | rfl | rfl <;> go_simp
    · intro j hj
      rcases hj16 j hj with rfl | rfl | rfl | rfl | rfl | rfl | rfl | rfl | rfl | rfl | rfl | rfl | rfl | rfl | rfl | rfl <;> go_simp
  case round =>
    obtain ⟨k, As, cs, hk, rfl, P⟩ := hrel
    by_cases hlt : k < 16
    · have ck : wr.cell? ⟨w.heap.size, k, none⟩ = some (.slice none 0 0) := by
        have := P.cell k hlt
        rwa [if_neg (by omega)] at this
      have fk := P.fro k hlt
      have b0 : (0 : Int) ≤ (k : Int) := by omega
      have b1 : (k : Int) < 16 := by omega
      have hB := P.lt
      have hof := of_any (h.below P.hb) hn ((k : Int) / 4) ((k : Int) % 4)
      clear h
      go_wp2_with (go_at_call 17; refine hof.mono ?_; rintro e w1 ⟨A', c', rfl, own, hb1⟩; have f1 := keep_below ck hb1; have f2 := keep_frozen fk hB hb1)
      go_roundg (gk - 1)
      case measure => omega
      case rel =>
        have nA : ∀ ad, A' = some ad → ad.block ≠ w.heap.size := fun ad ha => by
          subst ha
          have h1 := (own.lt _ rfl).1
          omega
        have hz1 := hb1.size
        have sA : Sl oc w1 A' (sh l k).length c' (sh l k) := Sl.of_own oc_len (by decide) own
        refine ⟨k + 1, fun j => if j = k then A' else As j, fun j => if j = k then c' else cs j, by omega, by go_num, ?_, ?_, ?_, ?_, bset (bnext P.hb hb1) (Nat.le_refl _) _, by simp; omega, Nat.le_refl _⟩
        · intro j hj
          by_cases hjk : j = k
          · subst hjk
            simp only [if_pos rfl, if_pos (Nat.lt_succ_self j)]
            go_simp
            rfl
          · have := P.cell j hj
            rw [World.cell?_setCell_other _ _ _ _ (fun e => hjk (by simpa using (congrArg Addr.off e).symm)), keep_below this hb1]
            simp only [if_neg hjk]
            by_cases h2 : j < k
            · rw [if_pos h2, if_pos (by omega)]
            · rw [if_neg h2, if_neg (by omega)]
        · intro j hj
          have h9 := keep_frozen (P.fro j hj) hB hb1
          rw [World.frozen?_setCell]
          exact h9
        · intro j hj
          by_cases hjk : j = k
          · subst hjk
            simp only [if_pos rfl]
            exact sA.setCell (by simpa using nA) _
          · simp only [if_neg hjk]
            exact ((P.sl j (by omega)).below hb1).setCell (by simpa using P.ne j (by omega)) _
        · intro j hj
          by_cases hjk : j = k
          · simp only [if_pos hjk]
            exact nA
          · simp only [if_neg hjk]
            exact P.ne j (by omega)
    · obtain rfl : k = 16 := by omega
      have c0 : wr.cell? ⟨w.heap.size, 0, none⟩ = some (.slice (As 0) (sh l 0).length (cs 0)) := P.cell 0 (by decide)
      have c1 : wr.cell? ⟨w.heap.size, 1, none⟩ = some (.slice (As 1) (sh l 1).length (cs 1)) := P.cell 1 (by decide)
      have c2 : wr.cell? ⟨w.heap.size, 2, none⟩ = some (.slice (As 2) (sh l 2).length (cs 2)) := P.cell 2 (by decide)
      have c3 : wr.cell? ⟨w.heap.size, 3, none⟩ = some (.slice (As 3) (sh l 3).length (cs 3)) := P.cell 3 (by decide)
      have c4 : wr.cell? ⟨w.heap.size, 4, none⟩ = some (.slice (As 4) (sh l 4).length (cs 4)) := P.cell 4 (by decide)
      have c5 : wr.cell? ⟨w.heap.size, 5, none⟩ = some (.slice (As 5) (sh l 5).length (cs 5)) := P.cell 5 (by decide)
      have c6 : wr.cell? ⟨w.heap.size, 6, none⟩ = some (.slice (As 6) (sh l 6).length (cs 6)) := P.cell 6 (by decide)
      have c7 : wr.cell? ⟨w.heap.size, 7, none⟩ = some (.slice (As 7) (sh l 7).length (cs 7)) := P.cell 7 (by decide)
      have c8 : wr.cell? ⟨w.heap.size, 8, none⟩ = some (.slice (As 8) (sh l 8).length (cs 8)) := P.cell 8 (by decide)
      have c9 : wr.cell? ⟨w.heap.size, 9, none⟩ = some (.slice (As 9) (sh l 9).length (cs 9)) := P.cell 9 (by decide)
      have c10 : wr.cell? ⟨w.heap.size, 10, none⟩ = some (.slice (As 10) (sh l 10).length (cs 10)) := P.cell 10 (by decide)
      have c11 : wr.cell? ⟨w.heap.size, 11, none⟩ = some (.slice (As 11) (sh l 11).length (cs 11)) := P.cell 11 (by decide)
      have c12 : wr.cell? ⟨w.heap.size, 12, none⟩ = some (.slice (As 12) (sh l 12).length (cs 12)) := P.cell 12 (by decide)
      have c13 : wr.cell? ⟨w.heap.size, 13, none⟩ = some (.slice (As 13) (sh l 13).length (cs 13)) := P.cell 13 (by decide)
      have c14 : wr.cell? ⟨w.heap.size, 14, none⟩ = some (.slice (As 14) (sh l 14).length (cs 14)) := P.cell 14 (by decide)
      have c15 : wr.cell? ⟨w.heap.size, 15, none⟩ = some (.slice (As 15) (sh l 15).length (cs 15)) := P.cell 15 (by decide)
      have f0 := P.fro 0 (by decide)
      have f1 := P.fro 1 (by decide)
      have f2 := P.fro 2 (by decide)
      have f3 := P.fro 3 (by decide)
      have f4 := P.fro 4 (by decide)
      have f5 := P.fro 5 (by decide)
      have f6 := P.fro 6 (by decide)
      have f7 := P.fro 7 (by decide)
      have f8 := P.fro 8 (by decide)
      have f9 := P.fro 9 (by decide)
      have f10 := P.fro 10 (by decide)
      have f11 := P.fro 11 (by decide)
      have f12 := P.fro 12 (by decide)
      have f13 := P.fro 13 (by decide)
      have f14 := P.fro 14 (by decide)
      have f15 := P.fro 15 (by decide)
      clear h
      go_wp2
      refine bodyPost_ret (v := .agg #[.slice (As 0) (sh l 0).length (cs 0), .slice (As 1) (sh l 1).length (cs 1), .slice (As 2) (sh l 2).length (cs 2), .slice (As 3) (sh l 3).length (cs 3), .slice (As 4) (sh l 4).length (cs 4), .slice (As 5) (sh l 5).length (cs 5), .slice (As 6) (sh l 6).length (cs 6), .slice (As 7) (sh l 7).length (cs 7), .slice (As 8) (sh l 8).length (cs 8), .slice (As 9) (sh l 9).length (cs 9), .slice (As 10) (sh l 10).length (cs 10), .slice (As 11) (sh l 11).length (cs 11), .slice (As 12) (sh l 12).length (cs 12), .slice (As 13) (sh l 13).length (cs 13), .slice (As 14) (sh l 14).length (cs 14), .slice (As 15) (sh l 15).length (cs 15)]) (by simp [results, Try.results19, go_sem, c0, c1, c2, c3, c4, c5, c6, c7, c8, c9, c10, c11, c12, c13, c14, c15]) rfl ⟨As, cs, rfl, ?_, ?_⟩
      · intro j hj
        have hs := P.sl j hj
        have hne := P.ne j hj
        iterate 16 refine Sl.setCell ?_ (by simpa using hne) _
        exact hs
      · iterate 16 refine bset ?_ (Nat.le_refl _) _
        exact P.hb
end Go.Proofs.Ytpnhpiniflcciaa
