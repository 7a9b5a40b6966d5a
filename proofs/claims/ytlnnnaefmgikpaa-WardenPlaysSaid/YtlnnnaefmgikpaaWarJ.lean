/- The document's warden in memory: which spots it has, its links, what is held. -/
import Derived.Test.YtlnnnaefmgikpaaWarH
namespace Go.Proofs.Ytlnnnaefmgikpaa
set_option linter.unusedVariables false
set_option linter.unusedSimpArgs false
open Go.RowKit

def rowv (M : Nat) (v : Option Addr × Nat) : List Value := [.slice v.1 M v.2]
def scv (x : Bool × Int) : List Value := [.bool x.1, .int .i64 x.2]
theorem rowv_len (M : Nat) (v : Option Addr × Nat) : (rowv M v).length = 1 := rfl
theorem scv_len (x : Bool × Int) : (scv x).length = 2 := rfl
/-- Row i of a state: M spots. -/
def rowL (s : St) (M i : Nat) : List (Bool × Int) := (List.range M).map fun (j : Nat) => (s.H (i : Int) ((j : Int) + 1), s.G (i : Int) ((j : Int) + 1))
theorem rowL_len (s : St) (M i : Nat) : (rowL s M i).length = M := by simp [rowL]
theorem rowL_get (s : St) {M i j : Nat} (h : j < M) : (rowL s M i)[j]? = some (s.H (i : Int) ((j : Int) + 1), s.G (i : Int) ((j : Int) + 1)) := by
  unfold rowL
  rw [List.getElem?_map, List.getElem?_range h]
  rfl
structure RW (w : World) (A : Option Addr) (c L M : Nat) (s : St) : Prop where
  lv : s.lv = L
  sl : s.sl = M
  l1 : 1 ≤ L
  l4 : L ≤ 4
  m1 : 1 ≤ M
  m60 : M ≤ 60
  rows : ∃ vs : List (Option Addr × Nat), Sl (rowv M) w A L c vs ∧ ∀ i v, vs[i]? = some v → Sl scv w v.1 M v.2 (rowL s M i)
theorem RW.below {w w' : World} {A : Option Addr} {c L M : Nat} {s : St} (h : RW w A c L M s) (hb : Below w.heap.size w w') : RW w' A c L M s :=
  ⟨h.lv, h.sl, h.l1, h.l4, h.m1, h.m60, h.rows.elim fun vs hv => ⟨vs, hv.1.below hb, fun i v hi => (hv.2 i v hi).below hb⟩⟩
/-- Its row at a level, and the row's slot. -/
theorem RW.row {w : World} {A : Option Addr} {c L M : Nat} {s : St} (h : RW w A c L M s) {i : Nat} (hi : i < L) : ∃ bo oo A' c', A = some ⟨bo, oo, none⟩ ∧ w.cell? ⟨bo, oo + i, none⟩ = some (.slice A' M c') ∧ Sl scv w A' M c' (rowL s M i) := by
  obtain ⟨vs, h1, h2⟩ := h.rows
  obtain ⟨bo, oo, rfl, _, hc⟩ := h1.base (rowv_len M) (by decide) (by have := h.l1; omega)
  obtain ⟨v, hv⟩ : ∃ v, vs[i]? = some v := ⟨vs[i]'(by have := h1.len; omega), List.getElem?_eq_getElem (i := i) _⟩
  exact ⟨bo, oo, v.1, v.2, rfl, by have h0 := hc i v 0 _ hv rfl; simpa using h0, h2 i v hv⟩
theorem RW.spot {w : World} {A : Option Addr} {c L M : Nat} {s : St} (h : RW w A c L M s) {i j : Nat} (hi : i < L) (hj : j < M) : ∃ bo oo br or_ c', A = some ⟨bo, oo, none⟩ ∧ w.cell? ⟨bo, oo + i, none⟩ = some (.slice (some ⟨br, or_, none⟩) M c') ∧
    w.cell? ⟨br, or_ + j * 2, none⟩ = some (.bool (s.H (i : Int) ((j : Int) + 1))) ∧ w.cell? ⟨br, or_ + j * 2 + 1, none⟩ = some (.int .i64 (s.G (i : Int) ((j : Int) + 1))) := by
  obtain ⟨bo, oo, A', c', hA, h1, h2⟩ := h.row hi
  obtain ⟨br, or_, rfl, _, hc⟩ := h2.base scv_len (by decide) (by have := h.m1; omega)
  refine ⟨bo, oo, br, or_, c', hA, h1, ?_, ?_⟩
  · have h0 := hc j _ 0 _ (rowL_get s hj) rfl
    simpa using h0
  · have h0 := hc j _ 1 _ (rowL_get s hj) rfl
    simpa [Nat.add_assoc] using h0
theorem RW.nat {w : World} {A : Option Addr} {c L M : Nat} {s : St} (h : RW w A c L M s) {a b : Int} (hir : inR s a b = true) : ∃ i j : Nat, a = (i : Int) ∧ b = (j : Int) + 1 ∧ i < L ∧ j < M := by
  have := of_decide_eq_true hir
  have h1 := h.lv
  have h2 := h.sl
  exact ⟨a.toNat, (b - 1).toNat, by omega, by omega, by omega, by omega⟩
set_option maxHeartbeats 4000000 in
set_option maxRecDepth 100000 in
theorem rthere_any {w : World} {A : Option Addr} {c L M : Nat} {s : St} (h : RW w A c L M s) (a b : Int) : Calls Try.prog 28 #[(.agg #[.slice A L c, .int .i64 s.slips]), .int .i64 a, .int .i64 b] w fun e w' => e = .returned (.bool (inR s a b)) ∧ Below w.heap.size w w' := by
  have h' := h.below (bnew (brefl w) (.cells #[.slice A L c, .int .i64 s.slips] 38))
  have hlv := Lib.hid h.lv
  have hsl := Lib.hid h.sl
  have hl4 := h.l4
  have hm60 := h.m60
  by_cases h1 : 0 ≤ a
  · obtain ⟨i, hi⟩ : ∃ i : Nat, a = (i : Int) := ⟨a.toNat, by omega⟩
    subst hi
    have k0 : (0 : Int) ≤ (i : Int) := by omega
    by_cases h2 : i < L
    · have k1 : (i : Int) < (L : Int) := by omega
      obtain ⟨bo, oo, A', c', rfl, e1, _⟩ := h'.row h2
      have ez := block_lt_of_cell e1
      by_cases h3 : 1 ≤ b
      · by_cases h4 : b ≤ (M : Int)
        · have HR : Hid (inR s (i : Int) b = true) := decide_eq_true (by rw [hlv.out, hsl.out]; omega)
          clear h h'
          go_enter Try.func28, Try.ntmps28
          go_wp2
          go_ret
          exact ⟨by rw [HR.out]; rfl, bnew (brefl w) _⟩
        · have HR : Hid (inR s (i : Int) b = false) := decide_eq_false (by rw [hlv.out, hsl.out]; omega)
          have t4 : decide (b ≤ (M : Int)) = false := decide_eq_false h4
          clear h h' h4
          go_enter Try.func28, Try.ntmps28
          go_wp2
          go_ret
          exact ⟨by rw [HR.out]; rfl, bnew (brefl w) _⟩
      · have HR : Hid (inR s (i : Int) b = false) := decide_eq_false (by rw [hlv.out, hsl.out]; omega)
        have t3 : decide (1 ≤ b) = false := decide_eq_false h3
        clear h h' h3
        go_enter Try.func28, Try.ntmps28
        go_wp2
        go_ret
        exact ⟨by rw [HR.out]; rfl, bnew (brefl w) _⟩
    · have HR : Hid (inR s (i : Int) b = false) := decide_eq_false (by rw [hlv.out, hsl.out]; omega)
      have t2 : decide (i < L) = false := decide_eq_false h2
      clear h h' h2
      go_enter Try.func28, Try.ntmps28
      go_wp2
      go_ret
      exact ⟨by rw [HR.out]; rfl, bnew (brefl w) _⟩
  · have HR : Hid (inR s a b = false) := decide_eq_false (by omega)
    have t1 : decide (0 ≤ a) = false := decide_eq_false h1
    clear h h' h1
    go_enter Try.func28, Try.ntmps28
    go_wp2
    go_ret
    exact ⟨by rw [HR.out]; rfl, bnew (brefl w) _⟩
set_option maxHeartbeats 4000000 in
set_option maxRecDepth 100000 in
theorem rlink_out {w : World} {A : Option Addr} {c L M : Nat} {s : St} (h : RW w A c L M s) (a b : Int) (hir : inR s a b = false) : Calls Try.prog 16 #[(.agg #[.slice A L c, .int .i64 s.slips]), .int .i64 a, .int .i64 b] w fun e w' => e = .returned (.int .u64 0) ∧ Below w.heap.size w w' := by
  have hth := rthere_any (h.below (bnew (brefl w) (.cells #[.slice A L c, .int .i64 s.slips] 38))) a b
  rw [hir] at hth
  go_enter Try.func16, Try.ntmps16
  go_wp2_with (go_at_call 28; refine hth.mono ?_; rintro e w2 ⟨rfl, hb2⟩)
  go_ret
  exact ⟨rfl, bnext (bnew (brefl w) _) hb2⟩
set_option maxHeartbeats 4000000 in
set_option maxRecDepth 100000 in
theorem rlink_in {w : World} {A : Option Addr} {c L M : Nat} {s : St} (h : RW w A c L M s) (a b : Int) (hir : inR s a b = true) : Calls Try.prog 16 #[(.agg #[.slice A L c, .int .i64 s.slips]), .int .i64 a, .int .i64 b] w fun e w' => e = .returned (.int .u64 (lmk b (s.G a b) : Nat)) ∧ Below w.heap.size w w' := by
  obtain ⟨i, j, rfl, rfl, hi, hj⟩ := h.nat hir
  have hth := rthere_any (h.below (bnew (brefl w) (.cells #[.slice A L c, .int .i64 s.slips] 38))) (i : Int) ((j : Int) + 1)
  rw [hir] at hth
  have hm60 := h.m60
  have hl4 := h.l4
  have d0 : (w.alloc (.cells #[.slice A L c, .int .i64 s.slips] 38)).cell? ⟨w.heap.size, 0, none⟩ = some (.slice A L c) := (Blk.new w 38 #[.slice A L c, .int .i64 s.slips]).cell 0
  have d1 : (w.alloc (.cells #[.slice A L c, .int .i64 s.slips] 38)).cell? ⟨w.heap.size, 1, none⟩ = some (.int .i64 s.slips) := (Blk.new w 38 #[.slice A L c, .int .i64 s.slips]).cell 1
  obtain ⟨bo, oo, br, or_, c', hA, e0, e1, e2⟩ := h.spot hi hj
  subst hA
  generalize s.G (i : Int) ((j : Int) + 1) = g at *
  have k0 : (0 : Int) ≤ (i : Int) := by omega
  have k1 : (i : Int) < (L : Int) := by omega
  have k2 : (0 : Int) ≤ (j : Int) := by omega
  have k3 : (j : Int) < (M : Int) := by omega
  have hw : IntKind.i64.wrap ((j : Int) + 1 - 1) = (j : Int) := by rw [IntKind.wrap_i64]; omega
  clear h hir
  go_enter Try.func16, Try.ntmps16
  go_wp2_with (first
    | (go_at_call 28; refine hth.mono ?_; rintro e w2 ⟨rfl, hb2⟩; have kb2 := bnext (bnew (brefl w) _) hb2; have x0 := keep_below d0 hb2; have x1 := keep_below e0 kb2; have x2 := keep_below e2 kb2; have z0 := block_lt_of_cell x0; have z1 := block_lt_of_cell x1; have z2 := block_lt_of_cell x2)
    | (go_at_call 29; refine (ref_make _ _ _).mono ?_; rintro e w3 ⟨rfl, rfl⟩))
  go_ret
  exact ⟨rfl, kb2⟩
theorem rlink_any {w : World} {A : Option Addr} {c L M : Nat} {s : St} (h : RW w A c L M s) (a b : Int) : Calls Try.prog 16 #[(.agg #[.slice A L c, .int .i64 s.slips]), .int .i64 a, .int .i64 b] w fun e w' => e = .returned (.int .u64 (linkV s a b : Nat)) ∧ Below w.heap.size w w' := by
  unfold linkV
  cases hir : inR s a b with
  | false => exact rlink_out h a b hir
  | true => exact rlink_in h a b hir
end Go.Proofs.Ytlnnnaefmgikpaa
