/- A reader of entries. -/
import Derived.Test.YtknngjdcbldmgaaDoorSctA
namespace Go.Proofs.YtknngjdcbldmgaaDoor
set_option linter.unusedVariables false
set_option linter.unusedSimpArgs false
open Go.RowKit

set_option maxHeartbeats 4000000 in
set_option maxRecDepth 100000 in
theorem entry_long {w : World} {p : Nat} {c : Cf} {us : List Value} {EA : Option Addr} {en ec : Nat} (h8 : us.length = 8) (hen : 60000 ≤ en) : Calls Tryd.prog 61 #[.pointer (some ⟨p, 0, none⟩), .agg (scc c us (.slice EA en ec)).toArray] w fun e w' => Pan 5 e ∧ Keeps (fun b => b = p) w w' := by
  obtain ⟨W0, hW0, hB, k0⟩ : ∃ W0, (w.alloc (.cells (scc c us (.slice EA en ec)).toArray 29)).alloc (.cells #[.int .i64 0, .int .i64 0] 51) = W0 ∧ Blk W0 w.heap.size 29 (scc c us (.slice EA en ec)).toArray ∧ Keeps (fun b => b = p) w W0 := ⟨_, rfl, (Blk.new _ _ _).alloc _, ((Keeps.refl _ w).alloc _).alloc _⟩
  have x22 : W0.cell? ⟨w.heap.size, 22, none⟩ = some (.slice EA en ec) := (hB.cell 22).trans (by rw [List.getElem?_toArray]; exact scc_last h8)
  have hz := hB.lt
  have he : (60000 : Int) ≤ (en : Int) := by omega
  clear hB h8 hen
  generalize scc c us (.slice EA en ec) = cs at *
  go_enter Tryd.func61, Tryd.ntmps61
  go_upto_region 1 with (fail)
  go_wp2_with fail
  exact ⟨rfl, rfl, k0⟩
theorem cutn {x : Int} (hx : 0 ≤ x) (a s : Nat) (h : a + s ≤ 64) : ((Fld.cut x.toNat (a : Int) (s : Int) : Nat) : Int) = x / 2 ^ a % 2 ^ s := by
  rw [Fld.cut_eq h, Int.natCast_emod, Int.natCast_ediv, Int.toNat_of_nonneg hx]
  simp
def entX (x : Int) : En := ⟨x % 8, x / 8 % 4⟩
set_option maxHeartbeats 4000000 in
set_option maxRecDepth 100000 in
theorem entry_main {w : World} {B p : Nat} {c : Cf} {us : List Value} {EA : Option Addr} {en ec : Nat} {x : Int} {t : List Int} (h8 : us.length = 8) (hen : en < 60000) (h : RB w B p (x :: t)) (hl : t.length < 900000) (hBw : B ≤ w.heap.size) : Calls Tryd.prog 61 #[.pointer (some ⟨p, 0, none⟩), .agg (scc c us (.slice EA en ec)).toArray] w fun e w' => Keeps (fun b => b = p) w w' ∧ ((thB c (x % 8) = true ∧ x / 32 % 8 = 0 ∧ e = .returned (.agg #[.int .i64 (x % 8), .int .i64 (x / 8 % 4)]) ∧ RB w' B p t) ∨ (¬ (thB c (x % 8) = true ∧ x / 32 % 8 = 0) ∧ Pan 3 e)) := by
  have hi := info_scc (c := c) (ev := .slice EA en ec) h8
  have hx := h.by_ x (by simp)
  obtain ⟨hx1, hx2⟩ := hx
  have hpB : p < B := by obtain ⟨_, _, _, _, _, _, _, h⟩ := h; exact h
  obtain ⟨W0, hW0, hB, hR, hr, k0⟩ : ∃ W0, (w.alloc (.cells (scc c us (.slice EA en ec)).toArray 29)).alloc (.cells #[.int .i64 0, .int .i64 0] 51) = W0 ∧ Blk W0 w.heap.size 29 (scc c us (.slice EA en ec)).toArray ∧ Blk W0 (w.heap.size + 1) 51 #[.int .i64 0, .int .i64 0] ∧ RB W0 B p (x :: t) ∧ Keeps (fun b => b = p) w W0 := ⟨_, rfl, (Blk.new _ _ _).alloc _, by have := Blk.new (w.alloc (.cells (scc c us (.slice EA en ec)).toArray 29)) 51 #[.int .i64 0, .int .i64 0]; rwa [World.size_alloc] at this, h.keeps (S := fun _ => False) (((Keeps.refl _ w).alloc _).alloc _) (fun _ _ z => z), ((Keeps.refl _ w).alloc _).alloc _⟩
  have x22 : W0.cell? ⟨w.heap.size, 22, none⟩ = some (.slice EA en ec) := (hB.cell 22).trans (by rw [List.getElem?_toArray]; exact scc_last h8)
  have hz := hB.lt
  have he : decide ((60000 : Int) ≤ (en : Int)) = false := decide_eq_false (by omega)
  have hth := fun W => there_any c us (.slice EA en ec) (x % 8) W
  have hux : U64 x := by unfold U64; omega
  have c1 := fun W => cut_any x 0 3 W hux (by unfold I64; omega) (by unfold I64; omega)
  have c2 := fun W => cut_any x 3 2 W hux (by unfold I64; omega) (by unfold I64; omega)
  have c3 := fun W => cut_any x 5 3 W hux (by unfold I64; omega) (by unfold I64; omega)
  have d1 : ((Fld.cut x.toNat 0 3 : Nat) : Int) = x % 8 := by have := cutn hx1 0 3 (by omega); simpa using this
  have d2 : ((Fld.cut x.toNat 3 2 : Nat) : Int) = x / 8 % 4 := by have := cutn hx1 3 2 (by omega); simpa using this
  have d3 : ((Fld.cut x.toNat 5 3 : Nat) : Int) = x / 32 % 8 := by have := cutn hx1 5 3 (by omega); simpa using this
  rw [d1] at c1
  rw [d2] at c2
  rw [d3] at c3
  have ht := take_some (sz := 1) hr (by simp) (by omega) (by omega) (by simp; omega)
  have e1 : numR (List.take 1 (x :: t)) = x := by simp [numR]
  have e2 : List.drop 1 (x :: t) = t := rfl
  rw [e1, e2] at ht
  have HT := Lib.hid ht
  have HB := Lib.hid hB
  have HRB := Lib.hid hR
  clear hB h8 hen h hr ht e1 e2 hR d1 d2 d3
  generalize scc c us (.slice EA en ec) = cs at *
  go_enter Tryd.func61, Tryd.ntmps61
  go_upto_region 1 with (fail)
  go_upto_region 4 with (go_at_call 71; refine HT.out.mono ?_; rintro e w1 ⟨rfl, hr, k1⟩)
  have tok1 : True := trivial
  have tok2 : True := trivial
  go_upto_region 5 with (first | (have _t := tok1; go_at_call 55; refine (c1 _).mono ?_; rintro e wz ⟨rfl, rfl⟩; clear tok1 _t) | (have _t := tok2; go_at_call 55; refine (c2 _).mono ?_; rintro e wz ⟨rfl, rfl⟩; clear tok2 _t))
  obtain ⟨V, hV, C, D, r5, q5, g0, g1, gz⟩ : ∃ V, w1.alloc (.cells #[.int .i64 (x % 8), .int .i64 (x / 8 % 4)] 51) = V ∧ Blk V w.heap.size 29 cs.toArray ∧ Blk V (w.heap.size + 1) 51 #[.int .i64 0, .int .i64 0] ∧ RB V B p t ∧ Keeps (fun b => b = p) w V ∧ V.cell? ⟨w1.heap.size, 0, none⟩ = some (.int .i64 (x % 8)) ∧ V.cell? ⟨w1.heap.size, 1, none⟩ = some (.int .i64 (x / 8 % 4)) ∧ w1.heap.size < V.heap.size := ⟨_, rfl, (k1.blk HB.out (by omega)).alloc _, (k1.blk HRB.out (by omega)).alloc _, hr.keeps (S := fun _ => False) ((Keeps.refl _ w1).alloc _) (fun _ _ z => z), (k0.trans_ k1).alloc _, (Blk.new w1 51 #[.int .i64 (x % 8), .int .i64 (x / 8 % 4)]).cell 0, (Blk.new w1 51 #[.int .i64 (x % 8), .int .i64 (x / 8 % 4)]).cell 1, by simp⟩
  rw [hV]
  clear hV k1 hr HT HB HRB x22 hz k0
  cases htb : thB c (x % 8) with
  | false =>
    rw [htb] at hth
    have HF : Hid (thB c (x % 8) = false) := htb
    clear htb
    have tok1 : True := trivial
    go_wp2_with (first | (have _t := tok1; refine wpList_load_row (o := ⟨some 21, _, _, _, _, _⟩) rfl 29 (.tmp 3) rfl w.heap.size rfl 29 _ _ _ C Tryd.underlying29 rfl hi ?_; clear tok1 _t) | (go_at_call 48; refine (hth _).mono ?_; rintro e w2 ⟨rfl, hb2⟩))
    exact ⟨rfl, q5.trans_ (Keeps.of_below hb2), .inr ⟨fun q => by rw [HF.out] at q; exact absurd q.1 (by decide), rfl⟩⟩
  | true =>
    rw [htb] at hth
    have HF : Hid (thB c (x % 8) = true) := htb
    clear htb
    by_cases h0 : x / 32 % 8 = 0
    · rw [h0] at c3
      have H0 := Lib.hid h0
      clear h0
      have tok1 : True := trivial
      have tok2 : True := trivial
      go_upto_region 7 with (first | (have _t := tok1; refine wpList_load_row (o := ⟨some 21, _, _, _, _, _⟩) rfl 29 (.tmp 3) rfl w.heap.size rfl 29 _ _ _ C Tryd.underlying29 rfl hi ?_; clear tok1 _t) | (have _t := tok2; go_at_call 48; refine (hth _).mono ?_; rintro e w2 ⟨rfl, hb2⟩; clear tok2 _t) | (go_at_call 55; refine (c3 _).mono ?_; rintro e wz ⟨rfl, rfl⟩))
      have D5 := D.below_ hb2
      have y0 := keep_below g0 hb2
      have y1 := keep_below g1 hb2
      have z5 := block_lt_of_cell y0
      have kk := q5.trans_ (Keeps.of_below hb2)
      have r6 := r5.keeps (S := fun _ => False) (Keeps.of_below hb2) (fun _ _ z => z)
      have i2 : (Tryd.prog.info? 51).map (·.size) = some (#[.int .i64 (x % 8), .int .i64 (x / 8 % 4)] : Array Value).size := by kernel_rfl
      clear C D g0 g1 hb2 r5 q5 gz hth c1 c2 c3
      have tok1 : True := trivial
      go_wp2_with (have _t := tok1; refine wpList_store_row (o := ⟨none, .store 51 (.tmp 4) (.tmp 32), _, _, _, _⟩) rfl 51 (.tmp 4) (.tmp 32) rfl (w.heap.size + 1) _ rfl rfl 51 _ D5 i2 rfl (by simp [Value.oneCell']) ?_; clear tok1 _t)
      have kr := keeps_row w2 (w.heap.size + 1) #[.int .i64 (x % 8), .int .i64 (x / 8 % 4)]
      refine bodyPost_ret (v := .agg #[.int .i64 (x % 8), .int .i64 (x / 8 % 4)]) (results_cell_row rfl _ _ (w.heap.size + 1) 51 _ _ _ rfl (D5.row _) Tryd.underlying51 rfl i2) rfl ⟨kk.trans kr (fun b e hb => by omega), .inl ⟨HF.out, H0.out, rfl, r6.keeps kr (fun b hb e => by omega)⟩⟩
    · have t0 : (x / 32 % 8 == 0) = false := by simpa using h0
      have H0 := Lib.hid h0
      clear h0
      have tok1 : True := trivial
      have tok2 : True := trivial
      go_wp2_with (first | (have _t := tok1; refine wpList_load_row (o := ⟨some 21, _, _, _, _, _⟩) rfl 29 (.tmp 3) rfl w.heap.size rfl 29 _ _ _ C Tryd.underlying29 rfl hi ?_; clear tok1 _t) | (have _t := tok2; go_at_call 48; refine (hth _).mono ?_; rintro e w2 ⟨rfl, hb2⟩; clear tok2 _t) | (go_at_call 55; refine (c3 _).mono ?_; rintro e wz ⟨rfl, rfl⟩))
      exact ⟨rfl, q5.trans_ (Keeps.of_below hb2), .inr ⟨fun q => H0.out q.2, rfl⟩⟩
end Go.Proofs.YtknngjdcbldmgaaDoor
