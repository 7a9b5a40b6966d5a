/- The document's warden: a slot becomes another one. -/
import Derived.Test.YtlnnnaefmgikpaaWarL
namespace Go.Proofs.Ytlnnnaefmgikpaa
set_option linter.unusedVariables false
set_option linter.unusedSimpArgs false
open Go.RowKit

theorem elem_row : ∃ i, Elem Try.prog 36 56 i (.slice none 0 0) 1 24 := Elem.of Try.underlying36 (by kernel_rfl) rfl (by decide)
theorem elem_sc : ∃ i, Elem Try.prog 56 63 i (.agg #[.bool false, .int .i64 0]) 2 16 := Elem.of Try.underlying56 (by kernel_rfl) rfl (by decide)
theorem own_putS {w : World} {base size : Nat} {e : TypeId} {g n c : Nat} {xs : List Value} (h : w.ownsRow base e size (.slice (some ⟨g, 0, none⟩) n c) n xs) (k : Nat) (u : Value) :
    (w.setCell ⟨g, k, none⟩ u).ownsRow base e size (.slice (some ⟨g, 0, none⟩) n c) n (xs.set k u) := by
  rcases h.2 with ⟨hv, _⟩ | ⟨g', cap, cur, hv, hg, hh, hn, hm, hs, hx⟩
  · cases hv
  · cases hv
    refine ⟨by rw [List.length_set]; exact h.1, .inr ⟨g, c, cur.setIfInBounds k u, rfl, hg, Blk.set_ hh k u, hn, hm, by simpa using hs, ?_⟩⟩
    rw [← hx, Array.toList_setIfInBounds, List.take_set]
theorem own_formS {w : World} {base size : Nat} {e : TypeId} {n c : Nat} {A : Option Addr} {xs : List Value} (h : w.ownsRow base e size (.slice A n c) n xs) (hn : 0 < n) :
    ∃ g, A = some ⟨g, 0, none⟩ ∧ base ≤ g ∧ g < w.heap.size ∧ (∀ k, w.frozen? ⟨g, k, none⟩ = false) ∧ ∀ k u, xs[k]? = some u → w.cell? ⟨g, k, none⟩ = some u := by
  have hc := Rd.of_own h
  rcases h.2 with ⟨hv, h0⟩ | ⟨g, cap, cur, hv, hg, hh, _⟩
  · omega
  · cases hv
    refine ⟨g, rfl, hg, Blk.lt hh, fun k => Blk.frozen hh k, fun k u hk => ?_⟩
    have := hc.some_ k u hk
    rwa [ad_flat] at this
theorem flat_set2 : ∀ (l : List (Bool × Int)) (j : Nat) (x : Bool × Int), j < l.length → (l.set j x).flatMap scv = ((l.flatMap scv).set (j * 2) (.bool x.1)).set (j * 2 + 1) (.int .i64 x.2)
  | [], j, x, h => by simp at h
  | a :: l, 0, x, _ => by simp [scv]
  | a :: l, j + 1, x, h => by
    have ih := flat_set2 l j x (by simpa using h)
    rw [List.set_cons_succ, List.flatMap_cons, List.flatMap_cons, ih, show (j + 1) * 2 = j * 2 + 1 + 1 by omega]
    simp [scv]
theorem flat_rowv (M : Nat) (vs : List (Option Addr × Nat)) (i : Nat) (v : Option Addr × Nat) : (vs.set i v).flatMap (rowv M) = (vs.flatMap (rowv M)).set i (.slice v.1 M v.2) := by
  have e : ∀ l : List (Option Addr × Nat), l.flatMap (rowv M) = l.map fun v => .slice v.1 M v.2 := fun l => by
    induction l with
    | nil => rfl
    | cons a l ih => rw [List.flatMap_cons, ih]; rfl
  rw [e, e, List.map_set]
def setS (s : St) (a b : Int) (hv : Bool) (g : Int) : St := { s with H := upd s.H a b hv, G := upd s.G a b g }
theorem rowL_set (s : St) {M i j : Nat} (hj : j < M) (hv : Bool) (g : Int) : rowL (setS s (i : Int) ((j : Int) + 1) hv g) M i = (rowL s M i).set j (hv, g) := by
  apply List.ext_getElem?
  intro k
  by_cases hk : k < M
  · rw [rowL_get _ hk, List.getElem?_set]
    by_cases hjk : j = k
    · subst hjk
      rw [if_pos rfl, if_pos (by rw [rowL_len]; exact hk)]
      simp [setS, upd_same]
    · rw [if_neg hjk, rowL_get _ hk]
      simp only [setS]
      rw [upd_other _ _ (fun q => hjk (by have := q.2; omega)), upd_other _ _ (fun q => hjk (by have := q.2; omega))]
  · rw [List.getElem?_eq_none (by rw [rowL_len]; omega), List.getElem?_eq_none (by rw [List.length_set, rowL_len]; omega)]
theorem rowL_other (s : St) {M i i' : Nat} (h : i' ≠ i) (b : Int) (hv : Bool) (g : Int) : rowL (setS s (i : Int) b hv g) M i' = rowL s M i' := by
  unfold rowL
  congr 1
  funext j
  simp only [setS]
  rw [upd_other _ _ (fun q => h (by have := q.1; omega)), upd_other _ _ (fun q => h (by have := q.1; omega))]
/-- A document's warden whose blocks lie in P. -/
def RP (w : World) (A : Option Addr) (c L M : Nat) (s : St) (P : Nat → Prop) : Prop :=
  RW w A c L M s ∧ (∀ ad, A = some ad → P ad.block) ∧ ∃ vs : List (Option Addr × Nat), Sl (rowv M) w A L c vs ∧ ∀ i v, vs[i]? = some v → Sl scv w v.1 M v.2 (rowL s M i) ∧ ∀ ad, v.1 = some ad → P ad.block
theorem RP.below {w w' : World} {A : Option Addr} {c L M : Nat} {s : St} {P : Nat → Prop} (h : RP w A c L M s P) (hb : Below w.heap.size w w') : RP w' A c L M s P :=
  ⟨h.1.below hb, h.2.1, h.2.2.elim fun vs hv => ⟨vs, hv.1.below hb, fun i v hi => ⟨(hv.2 i v hi).1.below hb, (hv.2 i v hi).2⟩⟩⟩
theorem RP.mono {w : World} {A : Option Addr} {c L M : Nat} {s : St} {P Q : Nat → Prop} (h : RP w A c L M s P) (hq : ∀ b, P b → Q b) : RP w A c L M s Q :=
  ⟨h.1, fun ad e => hq _ (h.2.1 ad e), h.2.2.elim fun vs hv => ⟨vs, hv.1, fun i v hi => ⟨(hv.2 i v hi).1, fun ad e => hq _ ((hv.2 i v hi).2 ad e)⟩⟩⟩
theorem RP.keeps {w w' : World} {A : Option Addr} {c L M : Nat} {s : St} {P S : Nat → Prop} (h : RP w A c L M s P) (hk : Keeps S w w') (hn : ∀ b, P b → ¬ S b) : RP w' A c L M s P := by
  obtain ⟨h1, h2, vs, h3, h4⟩ := h
  have h3' := hk.sl h3 (fun ad e => hn _ (h2 ad e))
  have h4' : ∀ i v, vs[i]? = some v → Sl scv w' v.1 M v.2 (rowL s M i) ∧ ∀ ad, v.1 = some ad → P ad.block := fun i v hi => ⟨hk.sl (h4 i v hi).1 (fun ad e => hn _ ((h4 i v hi).2 ad e)), (h4 i v hi).2⟩
  exact ⟨⟨h1.lv, h1.sl, h1.l1, h1.l4, h1.m1, h1.m60, vs, h3', fun i v hi => (h4' i v hi).1⟩, h2, vs, h3', h4'⟩
theorem RP.slip {w : World} {A : Option Addr} {c L M : Nat} {s : St} {P : Nat → Prop} (h : RP w A c L M s P) (n : Int) : RP w A c L M { s with slips := n } P :=
  ⟨⟨h.1.lv, h.1.sl, h.1.l1, h.1.l4, h.1.m1, h.1.m60, h.1.rows⟩, h.2.1, h.2.2⟩
theorem RP.lt {w : World} {A : Option Addr} {c L M : Nat} {s : St} {P : Nat → Prop} (h : RP w A c L M s P) : RP w A c L M s (fun b => P b ∧ b < w.heap.size) := by
  obtain ⟨h1, h2, vs, h3, h4⟩ := h
  refine ⟨h1, fun ad e => ⟨h2 ad e, ?_⟩, vs, h3, fun i v hi => ⟨(h4 i v hi).1, fun ad e => ⟨(h4 i v hi).2 ad e, ?_⟩⟩⟩
  · obtain ⟨bo, oo, rfl, _, hc⟩ := h3.base (rowv_len M) (by decide) (by have := h1.l1; omega)
    cases e
    obtain ⟨v, hv⟩ : ∃ v, vs[0]? = some v := ⟨vs[0]'(by have := h3.len; have := h1.l1; omega), List.getElem?_eq_getElem (i := 0) _⟩
    exact block_lt_of_cell (hc 0 v 0 _ hv rfl)
  · obtain ⟨v1, v2⟩ := v
    obtain ⟨bo, oo, hA, _, hc⟩ := (h4 i _ hi).1.base scv_len (by decide) (by have := h1.m1; omega)
    dsimp only at e hA
    rw [hA] at e
    cases e
    exact block_lt_of_cell (hc 0 _ 0 _ (rowL_get s (by have := h1.m1; omega)) rfl)
set_option maxHeartbeats 4000000 in
set_option maxRecDepth 100000 in
theorem rset_any {w : World} {A : Option Addr} {c L M : Nat} {s : St} {P : Nat → Prop} (hp : RP w A c L M s P) {i j : Nat} (hi : i < L) (hj : j < M) (hv : Bool) (g : Int) : Calls Try.prog 34 #[(.agg #[.slice A L c, .int .i64 s.slips]), .int .i64 i, .int .i64 ((j : Int) + 1), .agg #[.bool hv, .int .i64 g]] w fun e w' => ∃ A' c', e = .returned (.agg #[.slice A' L c', .int .i64 s.slips]) ∧ RP w' A' c' L M (setS s (i : Int) ((j : Int) + 1) hv g) (fun b => P b ∨ w.heap.size ≤ b) ∧ Below w.heap.size w w' := by
  have h := hp.1
  obtain ⟨i1, E1⟩ := elem_row
  obtain ⟨i2, E2⟩ := elem_sc
  have hm60 := h.m60
  have hl4 := h.l4
  obtain ⟨vs, hvs, hrows'⟩ := hp.2.2
  have hrows : ∀ (i : Nat) (v : Option Addr × Nat), vs[i]? = some v → Sl scv w v.1 M v.2 (rowL s M i) := fun i v q => (hrows' i v q).1
  have HP : Hid (∀ (i : Nat) (v : Option Addr × Nat), vs[i]? = some v → ∀ ad : Addr, v.1 = some ad → P ad.block) := fun i v q => (hrows' i v q).2
  clear hrows' hp
  obtain ⟨v, hv0⟩ : ∃ v, vs[i]? = some v := ⟨vs[i]'(by have := hvs.len; omega), List.getElem?_eq_getElem (i := i) _⟩
  obtain ⟨Ar, cr⟩ := v
  have hrow := hrows i _ hv0
  dsimp only at hrow
  go_enter Try.func34, Try.ntmps34
  go_upto_region 1 with (fail)
  obtain ⟨W1, hW1, B4, B7, B8, kb1, hz1⟩ : ∃ W1, ((w.alloc (.cells #[.slice A L c, .int .i64 s.slips] 38)).alloc (.cells #[.bool hv, .int .i64 g] 63)).alloc (.cells #[.slice none 0 0, .int .i64 0] 38) = W1 ∧ Blk W1 w.heap.size 38 #[.slice A L c, .int .i64 s.slips] ∧ Blk W1 (w.heap.size + 1) 63 #[.bool hv, .int .i64 g] ∧ Blk W1 (w.heap.size + 1 + 1) 38 #[.slice none 0 0, .int .i64 0] ∧ Below w.heap.size w W1 ∧ w.heap.size + 1 + 1 < W1.heap.size := by
    refine ⟨_, rfl, ((Blk.new _ _ _).alloc _).alloc _, ?_, ?_, bnew (bnew (bnew (brefl w) _) _) _, by simp⟩
    · have := (Blk.new (w.alloc (.cells #[.slice A L c, .int .i64 s.slips] 38)) 63 #[.bool hv, .int .i64 g]).alloc (.cells #[.slice none 0 0, .int .i64 0] 38)
      rwa [World.size_alloc] at this
    · have := Blk.new ((w.alloc (.cells #[.slice A L c, .int .i64 s.slips] 38)).alloc (.cells #[.bool hv, .int .i64 g] 63)) 38 #[.slice none 0 0, .int .i64 0]
      rwa [World.size_alloc, World.size_alloc] at this
  rw [hW1]
  clear hW1
  have hvs1 := hvs.below kb1
  have d0 : W1.cell? ⟨w.heap.size, 0, none⟩ = some (.slice A L c) := B4.cell 0
  have zz := B4.lt
  have zz2 := B8.lt
  have HL1 : Hid ((vs.flatMap (rowv M)).length = L * 1) := by rw [Hid, flat_len (rowv_len M), hvs.len]
  have HO1 : Hid (∀ u ∈ vs.flatMap (rowv M), u.oneCell' = true) := fun u hu => by
    obtain ⟨y, _, hy⟩ := List.mem_flatMap.1 hu
    unfold rowv at hy
    simp only [List.mem_cons, List.not_mem_nil, or_false] at hy
    subst hy
    rfl
  have HR1 := Lib.hid hvs1.rd
  have tok1 : True := trivial
  go_upto_region 2 with (have _t := tok1; at_builtin; refine wpList_fresh (W0 := W1) (ys := vs.flatMap (rowv M)) (m := L) E1 rfl (.tmp 11) (.tmp 13) rfl (bnew (brefl W1) _) rfl (own_empty (brefl W1) rfl) rfl HL1.out (HR1.out.alloc _) HO1.out (by unfold maxLen; omega) (by omega) ?_; intro A8 c8 w8 own8 hb8 _; clear tok1 _t)
  obtain ⟨g8, rfl, hg8, hz8, hf8, hc8⟩ := own_formS own8 (by omega)
  have v8 : w8.cell? ⟨g8, i, none⟩ = some (.slice Ar M cr) := hc8 i _ (by have := flat_get (rowv_len M) vs i 0 _ (.slice Ar M cr) hv0 rfl; simpa using this)
  have hrow8 := (hrow.below kb1).below hb8
  have B4 := B4.below_ hb8
  have B7 := B7.below_ hb8
  have B8 := B8.below_ hb8
  have hb8s := hb8.size
  have kb8 := bnext kb1 hb8
  have k0 : (0 : Int) ≤ (i : Int) := by omega
  have k1 : (i : Int) < (L : Int) := by omega
  have HL2 : Hid (((rowL s M i).flatMap scv).length = M * 2) := by rw [Hid, flat_len scv_len, rowL_len]
  have HO2 : Hid (∀ u ∈ (rowL s M i).flatMap scv, u.oneCell' = true) := fun u hu => by
    obtain ⟨y, _, hy⟩ := List.mem_flatMap.1 hu
    unfold scv at hy
    simp only [List.mem_cons, List.not_mem_nil, or_false] at hy
    rcases hy with rfl | rfl <;> rfl
  have HR2 := Lib.hid hrow8.rd
  clear d0 zz zz2 HL1 HO1 HR1 hb8 hc8 hf8
  have tok1 : True := trivial
  go_upto_region 3 with (have _t := tok1; at_builtin; refine wpList_fresh (W0 := w8) (ys := (rowL s M i).flatMap scv) (m := M) E2 rfl (.tmp 15) (.tmp 19) rfl (bnew (brefl w8) _) rfl (own_empty (brefl w8) rfl) rfl HL2.out (HR2.out.alloc _) HO2.out (by unfold maxLen; omega) (by omega) ?_; intro A9 c9 w9 own9 hb9 _; clear tok1 _t)
  obtain ⟨g9, rfl, hg9, hz9, hf9, hc9⟩ := own_formS own9 (by omega)
  have v9 : w9.cell? ⟨g9, j * 2, none⟩ = some (.bool (s.H (i : Int) ((j : Int) + 1))) := hc9 _ _ (by have := flat_get scv_len (rowL s M i) j 0 _ (.bool (s.H (i : Int) ((j : Int) + 1))) (rowL_get s hj) rfl; simpa using this)
  have v9b : w9.cell? ⟨g9, j * 2 + 1, none⟩ = some (.int .i64 (s.G (i : Int) ((j : Int) + 1))) := hc9 _ _ (by have := flat_get scv_len (rowL s M i) j 1 _ (.int .i64 (s.G (i : Int) ((j : Int) + 1))) (rowL_get s hj) rfl; simpa using this)
  have f9 := hf9 (j * 2)
  have f9b := hf9 (j * 2 + 1)
  have own8 := own_below own8 hb9
  have B4 := B4.below_ hb9
  have B7 := B7.below_ hb9
  have B8 := B8.below_ hb9
  have kb9 := bnext kb8 hb9
  have z4 : w9.cell? ⟨w.heap.size + 1, 0, none⟩ = some (.bool hv) := B7.cell 0
  have z5 : w9.cell? ⟨w.heap.size + 1, 1, none⟩ = some (.int .i64 g) := B7.cell 1
  have k2 : (0 : Int) ≤ (j : Int) := by omega
  have k3 : (j : Int) < (M : Int) := by omega
  have k4 : (j : Int) + 1 - 1 = (j : Int) := by omega
  clear hb9 hc9 hf9 HL2 HO2 HR2
  go_upto_region 4 with (fail)
  obtain ⟨x, hx⟩ : ∃ x : Bool × Int, x = (hv, g) := ⟨_, rfl⟩
  obtain ⟨W10, hW10, own9, own8, B4, B8, kb10⟩ : ∃ W10, ((w9.setCell ⟨g9, j * 2, none⟩ (.bool hv)).setCell ⟨g9, j * 2 + 1, none⟩ (.int .i64 g)) = W10 ∧ W10.ownsRow w8.heap.size 63 2 (.slice (some ⟨g9, 0, none⟩) M c9) M (((rowL s M i).set j x).flatMap scv) ∧ W10.ownsRow W1.heap.size 56 1 (.slice (some ⟨g8, 0, none⟩) L c8) L (vs.flatMap (rowv M)) ∧ Blk W10 w.heap.size 38 #[.slice A L c, .int .i64 s.slips] ∧ Blk W10 (w.heap.size + 1 + 1) 38 #[.slice none 0 0, .int .i64 0] ∧ Below w.heap.size w W10 := by
    have n1 : w.heap.size ≠ g9 := by omega
    have n2 : w.heap.size + 1 + 1 ≠ g9 := by have := hb8s; omega
    have n3 : g8 ≠ g9 := by omega
    have hk : Keeps (fun y => y = g9) w9 ((w9.setCell ⟨g9, j * 2, none⟩ (.bool hv)).setCell ⟨g9, j * 2 + 1, none⟩ (.int .i64 g)) := ((Keeps.refl (fun y => y = g9) w9).setCell (p := ⟨g9, j * 2, none⟩) (fun _ => rfl) _).setCell (p := ⟨g9, j * 2 + 1, none⟩) (fun _ => rfl) _
    refine ⟨_, rfl, ?_, hk.own own8 (fun k hk2 hk3 => n3 ?_), hk.blk B4 n1, hk.blk B8 n2, bset (bset kb9 (by show w.heap.size ≤ g9; omega) _) (by show w.heap.size ≤ g9; omega) _⟩
    · have := own_putS (own_putS own9 (j * 2) (.bool hv)) (j * 2 + 1) (.int .i64 g)
      rw [flat_set2 _ _ _ (by rw [rowL_len]; exact hj), hx]
      exact this
    · simp [Value.ownBlock] at hk2
      omega
  rw [hW10]
  clear hW10 v9 v9b f9 f9b z4 z5 B7
  obtain ⟨q8, e8, _, hz8, hf8, hc8⟩ := own_formS own8 (by omega)
  cases e8
  have v8 : W10.cell? ⟨g8, i, none⟩ = some (.slice Ar M cr) := hc8 i _ (by have := flat_get (rowv_len M) vs i 0 _ (.slice Ar M cr) hv0 rfl; simpa using this)
  have f8 := hf8 i
  clear hf8 hc8
  go_upto_region 5 with (fail)
  have own8b := own_putS own8 i (.slice (some ⟨g9, 0, none⟩) M c9)
  rw [← flat_rowv M vs i (some ⟨g9, 0, none⟩, c9)] at own8b
  obtain ⟨W11, hW11, own9, own8, B4, B8, kb11⟩ : ∃ W11, (W10.setCell ⟨g8, i, none⟩ (.slice (some ⟨g9, 0, none⟩) M c9)) = W11 ∧ W11.ownsRow w8.heap.size 63 2 (.slice (some ⟨g9, 0, none⟩) M c9) M (((rowL s M i).set j x).flatMap scv) ∧ W11.ownsRow W1.heap.size 56 1 (.slice (some ⟨g8, 0, none⟩) L c8) L ((vs.set i (some ⟨g9, 0, none⟩, c9)).flatMap (rowv M)) ∧ Blk W11 w.heap.size 38 #[.slice A L c, .int .i64 s.slips] ∧ Blk W11 (w.heap.size + 1 + 1) 38 #[.slice none 0 0, .int .i64 0] ∧ Below w.heap.size w W11 := by
    have n1 : w.heap.size ≠ g8 := by omega
    have n2 : w.heap.size + 1 + 1 ≠ g8 := by omega
    have n3 : g9 ≠ g8 := by omega
    have hk : Keeps (fun y => y = g8) W10 (W10.setCell ⟨g8, i, none⟩ (.slice (some ⟨g9, 0, none⟩) M c9)) := (Keeps.refl (fun y => y = g8) W10).setCell (p := ⟨g8, i, none⟩) (fun _ => rfl) _
    refine ⟨_, rfl, hk.own own9 (fun k hk2 hk3 => n3 ?_), own8b, hk.blk B4 n1, hk.blk B8 n2, bset kb10 (by show w.heap.size ≤ g8; omega) _⟩
    simp [Value.ownBlock] at hk2
    omega
  rw [hW11]
  clear hW11 own8b v8 f8
  have z4 := B4.cell 0
  have z5 := B4.cell 1
  have z6 := B8.cell 0
  have z7 := B8.cell 1
  have y4 := B4.frozen 0
  have y6 := B8.frozen 0
  have y7 := B8.frozen 1
  have zz := B4.lt
  have zz2 := B8.lt
  simp at z4 z5 z6 z7
  go_wp2_with fail
  obtain ⟨WE, hWE, own9, own8, z8, z9, hzE, kbE⟩ : ∃ WE, (((W11.setCell ⟨w.heap.size, 0, none⟩ (.slice (some ⟨g8, 0, none⟩) L c8)).setCell ⟨w.heap.size + 1 + 1, 0, none⟩ (.slice (some ⟨g8, 0, none⟩) L c8)).setCell ⟨w.heap.size + 1 + 1, 1, none⟩ (.int .i64 s.slips)) = WE ∧ WE.ownsRow w8.heap.size 63 2 (.slice (some ⟨g9, 0, none⟩) M c9) M (((rowL s M i).set j x).flatMap scv) ∧ WE.ownsRow W1.heap.size 56 1 (.slice (some ⟨g8, 0, none⟩) L c8) L ((vs.set i (some ⟨g9, 0, none⟩, c9)).flatMap (rowv M)) ∧ WE.cell? ⟨w.heap.size + 1 + 1, 0, none⟩ = some (.slice (some ⟨g8, 0, none⟩) L c8) ∧ WE.cell? ⟨w.heap.size + 1 + 1, 1, none⟩ = some (.int .i64 s.slips) ∧ w.heap.size + 1 + 1 < WE.heap.size ∧ Below w.heap.size w WE := by
    have hk : Keeps (fun y => y = w.heap.size ∨ y = w.heap.size + 1 + 1) W11 (((W11.setCell ⟨w.heap.size, 0, none⟩ (.slice (some ⟨g8, 0, none⟩) L c8)).setCell ⟨w.heap.size + 1 + 1, 0, none⟩ (.slice (some ⟨g8, 0, none⟩) L c8)).setCell ⟨w.heap.size + 1 + 1, 1, none⟩ (.int .i64 s.slips)) := (((Keeps.refl (fun y => y = w.heap.size ∨ y = w.heap.size + 1 + 1) W11).setCell (p := ⟨w.heap.size, 0, none⟩) (fun _ => .inl rfl) _).setCell (p := ⟨w.heap.size + 1 + 1, 0, none⟩) (fun _ => .inr rfl) _).setCell (p := ⟨w.heap.size + 1 + 1, 1, none⟩) (fun _ => .inr rfl) _
    have B8e := ((B8.far (p := ⟨w.heap.size, 0, none⟩) (by show w.heap.size + 1 + 1 ≠ w.heap.size; omega) (.slice (some ⟨g8, 0, none⟩) L c8)).set_ 0 (.slice (some ⟨g8, 0, none⟩) L c8)).set_ 1 (.int .i64 s.slips)
    refine ⟨_, rfl, hk.own own9 (fun k hk2 hk3 => ?_), hk.own own8 (fun k hk2 hk3 => ?_), B8e.cell 0, B8e.cell 1, B8e.lt, bset (bset (bset kb11 (by show w.heap.size ≤ w.heap.size; omega) _) (by show w.heap.size ≤ w.heap.size + 1 + 1; omega) _) (by show w.heap.size ≤ w.heap.size + 1 + 1; omega) _⟩
    · simp [Value.ownBlock] at hk2
      omega
    · simp [Value.ownBlock] at hk2
      omega
  rw [hWE]
  clear hWE B4 B8
  have hsz8 := kb8.size
  have hsz1 := kb1.size
  have HS1 := Sl.of_own (rowv_len M) (by decide) own8
  have HS2 : ∀ i' v', (vs.set i (some ⟨g9, 0, none⟩, c9))[i']? = some v' → Sl scv WE v'.1 M v'.2 (rowL (setS s (i : Int) ((j : Int) + 1) hv g) M i') ∧ ∀ ad, v'.1 = some ad → (fun b => P b ∨ w.heap.size ≤ b) ad.block := by
    intro i' v' hi'
    rw [List.getElem?_set] at hi'
    by_cases hii : i = i'
    · subst hii
      rw [if_pos rfl, if_pos (by rw [hvs.len]; exact hi)] at hi'
      cases hi'
      rw [rowL_set s hj hv g, ← hx]
      refine ⟨Sl.of_own scv_len (by decide) own9, fun ad e => .inr ?_⟩
      cases e
      show w.heap.size ≤ g9
      omega
    · rw [if_neg hii] at hi'
      rw [rowL_other s (fun q => hii q.symm)]
      exact ⟨(hrows i' v' hi').below kbE, fun ad e => .inl (HP.out i' v' hi' ad e)⟩
  refine bodyPost_ret (v := .agg #[.slice (some ⟨g8, 0, none⟩) L c8, .int .i64 s.slips]) (by simp [results, Try.results34, go_sem, z8, z9, hzE]) rfl ⟨_, _, rfl, ⟨⟨h.lv, h.sl, h.l1, h.l4, h.m1, h.m60, _, HS1, fun i' v' q => (HS2 i' v' q).1⟩, fun ad e => .inr ?_, _, HS1, HS2⟩, kbE⟩
  cases e
  show w.heap.size ≤ g8
  omega
end Go.Proofs.Ytlnnnaefmgikpaa
