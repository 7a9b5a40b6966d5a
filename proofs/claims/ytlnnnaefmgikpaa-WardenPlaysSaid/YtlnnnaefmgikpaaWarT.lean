/- The document's New. -/
import Derived.Test.YtlnnnaefmgikpaaWarS
namespace Go.Proofs.Ytlnnnaefmgikpaa
set_option linter.unusedVariables false
set_option linter.unusedSimpArgs false
open Go.RowKit

theorem made_S (M : Nat) : (madeCells #[.bool false, .int .i64 0] (M * 2)).toList = (List.replicate M (false, (0 : Int))).flatMap scv := by
  apply List.ext_getElem?
  intro k
  unfold madeCells
  by_cases hk : k < M * 2
  · have e : k = k / 2 * 2 + k % 2 := by omega
    have h2 : k % 2 = 0 ∨ k % 2 = 1 := by omega
    rcases h2 with h2 | h2
    · have := flat_get scv_len (List.replicate M (false, (0 : Int))) (k / 2) 0 (false, 0) (.bool false) (by rw [List.getElem?_replicate]; simp; omega) rfl
      rw [show k = k / 2 * 2 + 0 by omega, this]
      simp [Array.getElem?_map, Array.getElem?_range]
      exact ⟨k / 2 * 2, List.getElem?_range (by omega), by rw [show k / 2 * 2 % 2 = 0 by omega]; rfl⟩
    · have := flat_get scv_len (List.replicate M (false, (0 : Int))) (k / 2) 1 (false, 0) (.int .i64 0) (by rw [List.getElem?_replicate]; simp; omega) rfl
      rw [show k = k / 2 * 2 + 1 by omega, this]
      simp [Array.getElem?_map, Array.getElem?_range]
      exact ⟨k / 2 * 2 + 1, List.getElem?_range (by omega), by rw [show (k / 2 * 2 + 1) % 2 = 1 by omega]; rfl⟩
  · rw [List.getElem?_eq_none (by simp; omega), List.getElem?_eq_none (by rw [flat_len scv_len]; simp; omega)]
theorem mk_S {M : Nat} (h : M ≤ 60) (w : World) : (Instr.makeSlice 56 (.int .i64 (M : Int)) (.int .i64 (M : Int))).run Try.prog w = .ok (.slice (some ⟨w.heap.size, 0, none⟩) M M) (w.alloc (.cells (madeCells #[.bool false, .int .i64 0] (M * 2)) 63)) := by
  obtain ⟨i, hi, h0, h1, h2⟩ := info_parts (P := Try.prog) (e := 63) (size := 2) (bytes := 16) (by kernel_rfl)
  have := run_make (P := Try.prog) w 56 63 i (.agg #[.bool false, .int .i64 0]) Try.underlying56 hi h0 .i64 .i64 (M : Int) (M : Int) (by omega) (Int.le_refl _) (by rw [h2]; omega) (by omega)
  rw [Int.toNat_natCast, h1] at this
  exact this

theorem own_q {w : World} {B : Nat} {e : TypeId} {size n : Nat} {v : Value} {xs : List Value} (h : w.ownsRow B e size v n xs) : ∃ q, B ≤ q ∧ ∀ k, v.ownBlock = some k → k = q := by
  cases hv : v.ownBlock with
  | none => exact ⟨B, Nat.le_refl _, fun k h => by cases h⟩
  | some q => exact ⟨q, own_ge h q hv, fun k h => by cases h; rfl⟩
theorem own_lt {w : World} {B : Nat} {e : TypeId} {size n : Nat} {v : Value} {xs : List Value} (h : w.ownsRow B e size v n xs) : ∀ k, v.ownBlock = some k → k < w.heap.size := by
  intro k hk
  rcases h.2 with ⟨rfl, _⟩ | ⟨g, cap, cur, rfl, _, hh, _⟩
  · simp [Value.ownBlock] at hk
  · have : g = k := by simpa [Value.ownBlock] using hk
    subst this
    exact Blk.lt hh
/-- The rows made so far. -/
def gsv (M : Nat) (gs : List Nat) : List (Option Addr × Nat) := gs.map fun g => (some (⟨g, 0, none⟩ : Addr), M)
theorem gsv_snoc (M : Nat) (gs : List Nat) (g : Nat) : (gsv M (gs ++ [g])).flatMap (rowv M) = (gsv M gs).flatMap (rowv M) ++ [.slice (some ⟨g, 0, none⟩) M M] := by
  simp [gsv, rowv]
theorem row0 (L M i : Nat) : rowL (st0 L M) M i = List.replicate M (false, (0 : Int)) := by
  unfold rowL st0
  apply List.ext_getElem?
  intro k
  rw [List.getElem?_map, List.getElem?_replicate]
  by_cases h : k < M
  · rw [List.getElem?_range h, if_pos h]; rfl
  · rw [List.getElem?_eq_none (by simp; omega), if_neg h]; rfl
theorem rp_of {w : World} {A : Option Addr} {c L M base : Nat} {gs : List Nat} {P : Nat → Prop} (l1 : 1 ≤ L) (l4 : L ≤ 4) (m1 : 1 ≤ M) (m60 : M ≤ 60) (hg : gs.length = L) (own : w.ownsRow base 56 1 (.slice A L c) L ((gsv M gs).flatMap (rowv M)))
    (hrows : ∀ g ∈ gs, Blk w g 63 (madeCells #[.bool false, .int .i64 0] (M * 2)) ∧ base ≤ g) (hP : ∀ b, base ≤ b → P b) : RP w A c L M (st0 L M) P := by
  have HS := Sl.of_own (rowv_len M) (by decide) own
  have H2 : ∀ i v, (gsv M gs)[i]? = some v → Sl scv w v.1 M v.2 (rowL (st0 L M) M i) ∧ ∀ ad, v.1 = some ad → P ad.block := by
    intro i v hi
    unfold gsv at hi
    rw [List.getElem?_map] at hi
    cases hgi : gs[i]? with
    | none => rw [hgi] at hi; cases hi
    | some g =>
      rw [hgi] at hi
      cases hi
      obtain ⟨hb, hge⟩ := hrows g (List.mem_of_getElem? hgi)
      rw [row0]
      refine ⟨⟨by simp, Nat.le_refl _, ?_, fun q => by cases q⟩, fun ad q => ?_⟩
      · have := hb.rd
        rwa [made_S] at this
      · cases q
        exact hP g hge
  refine ⟨⟨rfl, rfl, l1, l4, m1, m60, _, HS, fun i v q => (H2 i v q).1⟩, fun ad e => ?_, _, HS, H2⟩
  have := own_block own ad e
  exact hP _ this.2.1

set_option maxHeartbeats 4000000 in
set_option maxRecDepth 100000 in
theorem rnew_any {L M : Nat} (l1 : 1 ≤ L) (l4 : L ≤ 4) (m1 : 1 ≤ M) (m60 : M ≤ 60) (w : World) : Calls Try.prog 13 #[.int .i64 L, .int .i64 M] w fun e w' => ∃ A c, e = .returned (.agg #[.slice A L c, .int .i64 0]) ∧ RP w' A c L M (st0 L M) (fun b => w.heap.size ≤ b) ∧ Below w.heap.size w w' := by
  obtain ⟨i1, E1⟩ := elem_row
  have hmk := mk_S m60
  obtain ⟨W2, hW2, B4, B5, kb2⟩ : ∃ W2, ((w.alloc (.cells #[.slice none 0 0, .int .i64 0] 38)).alloc (.cells #[.slice none 0 0, .int .i64 0] 38)) = W2 ∧ Blk W2 w.heap.size 38 #[.slice none 0 0, .int .i64 0] ∧ Blk W2 (w.heap.size + 1) 38 #[.slice none 0 0, .int .i64 0] ∧ Below w.heap.size w W2 := by
    refine ⟨_, rfl, (Blk.new _ _ _).alloc _, ?_, bnew (bnew (brefl w) _) _⟩
    have := Blk.new (w.alloc (.cells #[.slice none 0 0, .int .i64 0] 38)) 38 #[.slice none 0 0, .int .i64 0]
    rwa [World.size_alloc] at this
  go_enter Try.func13, Try.ntmps13
  have s2 := B5.lt
  have y0 := B5.cell_ (i := 0) rfl
  have y1 := B5.cell_ (i := 1) rfl
  have y2 := B5.frozen 0
  have y3 := B5.frozen 1
  go_upto_region 2 with (fail)
  clear hW2 y0 y1 y2 y3
  obtain ⟨W3, hW3, B4, B5, kb3⟩ : ∃ W3, ((W2.setCell ⟨w.heap.size + 1, 0, none⟩ (.slice none 0 0)).setCell ⟨w.heap.size + 1, 1, none⟩ (.int .i64 0)) = W3 ∧ Blk W3 w.heap.size 38 #[.slice none 0 0, .int .i64 0] ∧ Blk W3 (w.heap.size + 1) 38 #[.slice none 0 0, .int .i64 0] ∧ Below w.heap.size w W3 := ⟨_, rfl, (B4.far (p := ⟨w.heap.size + 1, 0, none⟩) (by show w.heap.size ≠ w.heap.size + 1; omega) _).far (p := ⟨w.heap.size + 1, 1, none⟩) (by show w.heap.size ≠ w.heap.size + 1; omega) _, by simpa using (B5.set_ 0 (.slice none 0 0)).set_ 1 (.int .i64 0), bset (bset kb2 (by show w.heap.size ≤ w.heap.size + 1; omega) _) (by show w.heap.size ≤ w.heap.size + 1; omega) _⟩
  rw [hW3]
  clear hW3 kb2
  have sz3 := B5.lt
  go_wp2_with fail
  go_loopg [6] L (fun gk s6 wr => ∃ k A c gs, k + gk = L ∧ s6 = .int .i64 (k : Int) ∧ gs.length = k ∧ Blk wr w.heap.size 38 #[.slice none 0 0, .int .i64 0] ∧ Blk wr (w.heap.size + 1) 38 #[.slice A k c, .int .i64 0] ∧ wr.ownsRow W3.heap.size 56 1 (.slice A k c) k ((gsv M gs).flatMap (rowv M)) ∧ (∀ g ∈ gs, Blk wr g 63 (madeCells #[.bool false, .int .i64 0] (M * 2)) ∧ W3.heap.size ≤ g) ∧ Keeps (fun b => b = w.heap.size + 1) W3 wr)
  case atStart => exact ⟨0, none, 0, [], by omega, rfl, rfl, B4, B5, World.ownsRow_nil _ _ _ _, (fun g hg => by cases hg), Keeps.refl _ _⟩
  case round =>
    obtain ⟨k, A, c, gs, hk, rfl, hgl, C4, C5, own, hrows, hkp⟩ := hrel
    by_cases hlt : k < L
    · have t1 : (k : Int) < (L : Int) := by omega
      have t0 : (0 : Int) ≤ (k : Int) := by omega
      have x5 := C5.cell_ (i := 0) rfl
      have x6 := C5.lt
      obtain ⟨q, hqB, hq⟩ := own_q own
      have HGL := Lib.hid hgl
      have hnq : w.heap.size + 1 ≠ q := by omega
      clear hgl
      go_upto_region 5 with (fail)
      have hX := @ExtK.cell (q) wr
      have hzz0 := block_lt_of_cell x5
      refine wp_region_noPanic ?_
      refine wp_region_last (fun w' => ∃ x : ExtK (q) wr, w' = x.w) 7 (PG.one [0, 1, 2] 3 (PG.one [] 4 (PG.one [] 5 (PG.fin [6])))) (by kernel_rfl) (by kernel_rfl) (by kernel_rfl) (fun _ _ _ _ _ h => h) ⟨⟨_, (Keeps.refl _ wr).drew⟩, rfl⟩ ?_
      refine wpG_one ?_
      simp only [pickOps, List.getElem?_cons_succ, List.getElem?_cons_zero, Option.elim_some]
      repeat (go_big_quiet_step (fail))
      refine wpQuiet_nil ?_
      refine planAct_some (fun K hK => ?_)
      go_simp
      refine hK.out _ _ (extk_mem ((Keeps.refl _ wr).drew.alloc _)) ?_
      clear hK K
      refine wpG_one ?_
      simp only [pickOps, List.getElem?_cons_succ, List.getElem?_cons_zero, Option.elim_some]
      repeat (go_big_quiet_step (fail))
      refine wpQuiet_nil ?_
      refine planAct_some (fun K hK => ?_)
      go_simp
      refine hK.out _ _ (extk_mem (((Keeps.refl _ wr).drew.alloc _).alloc _)) ?_
      clear hK K
      refine wpG_one ?_
      simp only [pickOps, List.getElem?_cons_succ, List.getElem?_cons_zero, Option.elim_some]
      repeat (go_big_quiet_step (fail))
      refine wpQuiet_nil ?_
      refine planAct_some (fun K hK => ?_)
      refine step_app (ys := [.slice (some ⟨wr.heap.size, 0, none⟩) M M]) (m := 1) E1 rfl (.tmp 14) (.tmp 17) rfl W3.heap.size rfl ((own.alloc _).alloc _ :) rfl rfl (Rd.new _ _ _ (by simp)) (by simp [Value.oneCell']) (by unfold maxLen; omega) (by omega) (by have := hkp.size; simp; omega) ?_
      intro A8 c8 w8 own8 hg8 _
      go_simp
      refine hK.out _ _ (extk_mem ((((Keeps.refl _ wr).drew.alloc _).alloc _).grown hg8 (fun k' q1 _ => hq k' q1))) ?_
      clear hK K
      have G4 := ((C4.alloc (.cells (madeCells #[.bool false, .int .i64 0] (M * 2)) 63)).alloc (.cells #[.slice (some ⟨wr.heap.size, 0, none⟩) M M] 56)).drew.grown hg8 (fun q1 => own_ne_blk own C4 (by decide) q1.symm)
      have G5 := ((C5.alloc (.cells (madeCells #[.bool false, .int .i64 0] (M * 2)) 63)).alloc (.cells #[.slice (some ⟨wr.heap.size, 0, none⟩) M M] 56)).drew.grown hg8 (fun q1 => own_ne_blk own C5 (by decide) q1.symm)
      have GN : Blk w8 wr.heap.size 63 (madeCells #[.bool false, .int .i64 0] (M * 2)) := ((Blk.new wr 63 (madeCells #[.bool false, .int .i64 0] (M * 2))).alloc (.cells #[.slice (some ⟨wr.heap.size, 0, none⟩) M M] 56)).drew.grown hg8 (fun q1 => by have := own_lt own _ q1.symm; omega)
      have GR : ∀ g ∈ gs, Blk w8 g 63 (madeCells #[.bool false, .int .i64 0] (M * 2)) ∧ W3.heap.size ≤ g := fun g hg => ⟨(((hrows g hg).1.alloc (.cells (madeCells #[.bool false, .int .i64 0] (M * 2)) 63)).alloc (.cells #[.slice (some ⟨wr.heap.size, 0, none⟩) M M] 56)).drew.grown hg8 (fun q1 => own_ne_blk own (hrows g hg).1 (by decide) q1.symm), (hrows g hg).2⟩
      have GK : Keeps (fun b => b = w.heap.size + 1) W3 w8 := ((hkp.alloc (.cells (madeCells #[.bool false, .int .i64 0] (M * 2)) 63)).alloc (.cells #[.slice (some ⟨wr.heap.size, 0, none⟩) M M] 56)).drew.grown hg8 (fun k' q1 hlt' => by have := hq k' q1; omega)
      have g0 := G5.cell_ (i := 0) rfl
      have g1 := G5.frozen 0
      have g2 := G5.lt
      refine wpG_fin ?_
      simp only [pickOps, List.getElem?_cons_succ, List.getElem?_cons_zero, Option.elim_some]
      repeat (go_big_quiet_step (fail))
      refine wpQuiet_nil ?_
      refine lastG_some (fun K hK => ?_)
      go_simp
      refine hK.out _ _ ?_
      clear hK K
      refine NoPanic.normal ?_
      clear hX hzz0
      go_wp2_with fail
      go_roundg (gk - 1)
      case measure => omega
      case rel =>
        refine ⟨k + 1, A8, c8, gs ++ [wr.heap.size], by omega, by go_num, by rw [List.length_append, HGL.out]; rfl, G4.far (p := ⟨w.heap.size + 1, 0, none⟩) (by show w.heap.size ≠ w.heap.size + 1; omega) _, by simpa using G5.set_ 0 (.slice A8 (k + 1) c8), ?_, fun g hg => ?_, keepq_set GK⟩
        · rw [gsv_snoc]
          exact own_set own8 (Nat.le_refl _) sz3 _
        · rcases List.mem_append.1 hg with hg | hg
          · exact ⟨(GR g hg).1.far (p := ⟨w.heap.size + 1, 0, none⟩) (by have := (GR g hg).2; show g ≠ w.heap.size + 1; omega) _, (GR g hg).2⟩
          · obtain rfl := List.mem_singleton.1 hg
            exact ⟨GN.far (p := ⟨w.heap.size + 1, 0, none⟩) (by show wr.heap.size ≠ w.heap.size + 1; omega) _, hkp.size⟩
    · have t1 : decide ((k : Int) < (L : Int)) = false := decide_eq_false (by omega)
      obtain rfl : k = L := by omega
      have x5 := C5.cell_ (i := 0) rfl
      have x6 := C5.cell_ (i := 1) rfl
      have x7 := C4.cell_ (i := 0) rfl
      have x8 := C4.cell_ (i := 1) rfl
      have x9 := C4.frozen 0
      have x10 := C4.frozen 1
      have x11 := C5.lt
      have x12 := C4.lt
      have B4x := (C4.set_ 0 (.slice A k c)).set_ 1 (.int .i64 0)
      have kbx : Below w.heap.size w wr := hkp.below kb3 (by omega) (fun x hx _ => by omega)
      have kbe := bset (bset kbx (p := ⟨w.heap.size, 0, none⟩) (Nat.le_refl _) (.slice A k c)) (p := ⟨w.heap.size, 1, none⟩) (Nat.le_refl _) (.int .i64 0)
      have z8 := B4x.cell 0
      have z9 := B4x.cell 1
      have hzE := B4x.lt
      simp at z8 z9
      have HR := rp_of l1 l4 m1 m60 hgl (own_set (own_set own (Nat.le_refl _) (b := w.heap.size) (o := 0) (by omega) (.slice A k c)) (Nat.le_refl _) (b := w.heap.size) (o := 1) (by omega) (.int .i64 0)) (fun g hg => ⟨((hrows g hg).1.far (p := ⟨w.heap.size, 0, none⟩) (by have := (hrows g hg).2; show g ≠ w.heap.size; omega) (.slice A k c)).far (p := ⟨w.heap.size, 1, none⟩) (by have := (hrows g hg).2; show g ≠ w.heap.size; omega) (.int .i64 0), (hrows g hg).2⟩) (P := fun b => w.heap.size ≤ b) (fun b hb => by show w.heap.size ≤ b; omega)
      clear hrows own hkp hgl C4 C5 kbx B4x
      obtain ⟨WE, hWE⟩ : ∃ WE, (wr.setCell ⟨w.heap.size, 0, none⟩ (.slice A k c)).setCell ⟨w.heap.size, 1, none⟩ (.int .i64 0) = WE := ⟨_, rfl⟩
      rw [hWE] at HR kbe z8 z9 hzE
      go_wp2_with fail
      refine bodyPost_ret (v := .agg #[.slice A k c, .int .i64 0]) (by simp [results, Try.results13, go_sem, z8, z9, hzE]) rfl ⟨A, c, rfl, HR, kbe⟩
end Go.Proofs.Ytlnnnaefmgikpaa
