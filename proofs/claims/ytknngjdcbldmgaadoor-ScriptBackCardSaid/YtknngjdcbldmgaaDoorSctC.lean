/- A reader of configurations. -/
import Derived.Test.YtknngjdcbldmgaaDoorSctB
namespace Go.Proofs.YtknngjdcbldmgaaDoor
set_option linter.unusedVariables false
set_option linter.unusedSimpArgs false
open Go.RowKit

def bt (l : List Int) (i : Nat) : Int := l.getD i 0
theorem drop_bt {l : List Int} {i : Nat} (hi : i < l.length) : l.drop i = bt l i :: l.drop (i + 1) := by
  rw [List.drop_eq_getElem_cons hi, bt, List.getD_eq_getElem?_getD, List.getElem?_eq_getElem hi]
  rfl
theorem number_at {w : World} {B p i : Nat} {l : List Int} (h : RB w B p (l.drop i)) (hi : i < l.length) (hl : l.length ≤ 900000) : Calls Tryd.prog 70 #[.pointer (some ⟨p, 0, none⟩)] w fun e w' => e = .returned (.int .i64 (bt l i)) ∧ RB w' B p (l.drop (i + 1)) ∧ Keeps (fun b => b = p) w w' := by
  rw [drop_bt hi] at h
  exact number_some h (by rw [List.length_drop]; omega)
theorem number_out {w : World} {B p i : Nat} {l : List Int} (h : RB w B p (l.drop i)) (hi : l.length ≤ i) : Calls Tryd.prog 70 #[.pointer (some ⟨p, 0, none⟩)] w fun e w' => Pan 4 e ∧ w = w' := by
  rw [List.drop_eq_nil_of_le hi] at h
  exact number_end h
def confL (l : List Int) : Cf := ⟨bt l 0, bt l 1, bt l 2, bt l 3, bt l 4, bt l 5, bt l 6, bt l 7, bt l 8, bt l 9, bt l 10, bt l 11, numR ((l.drop 12).take 3), bt l 15⟩
def cellsC (l : List Int) (k : Nat) : Array Value := #[.int .i64 (bt l 0), .int .i64 (bt l 1), .int .i64 (if 0 < k then bt l 2 else 0), .int .i64 (if 1 < k then bt l 3 else 0), .int .i64 (if 2 < k then bt l 4 else 0), .int .i64 (if 3 < k then bt l 5 else 0), .int .i64 (if 4 < k then bt l 6 else 0), .int .i64 (if 5 < k then bt l 7 else 0), .int .i64 (if 6 < k then bt l 8 else 0), .int .i64 (if 7 < k then bt l 9 else 0), .int .i64 0, .int .i64 0, .int .i64 0, .int .i64 0]
theorem cellsC_step (l : List Int) {k : Nat} (hk : k < 8) : (cellsC l k).setIfInBounds (2 + k) (.int .i64 (bt l (2 + k))) = cellsC l (k + 1) := by
  rcases (by omega : k = 0 ∨ k = 1 ∨ k = 2 ∨ k = 3 ∨ k = 4 ∨ k = 5 ∨ k = 6 ∨ k = 7) with rfl | rfl | rfl | rfl | rfl | rfl | rfl | rfl <;> simp [cellsC]
theorem cellsC_at (l : List Int) {k : Nat} (hk : k < 8) : (cellsC l k)[2 + k]? = some (.int .i64 0) := by
  rcases (by omega : k = 0 ∨ k = 1 ∨ k = 2 ∨ k = 3 ∨ k = 4 ∨ k = 5 ∨ k = 6 ∨ k = 7) with rfl | rfl | rfl | rfl | rfl | rfl | rfl | rfl <;> simp [cellsC]
def ConfR (w : World) (B p : Nat) (l : List Int) (e : Ending) (w' : World) : Prop := Keeps (fun b => b = p) w w' ∧ ((l.length < 16 ∧ Pan 4 e) ∨ (16 ≤ l.length ∧ mayB (confL l) = false ∧ Pan 2 e) ∨ (16 ≤ l.length ∧ mayB (confL l) = true ∧ e = .returned (.agg (cfc (confL l)).toArray) ∧ RB w' B p (l.drop 16)))
theorem ConfR.short {w w' : World} {B p : Nat} {l : List Int} (h : l.length < 16) (hk : Keeps (fun b => b = p) w w') : ConfR w B p l (.panicked [{ v := .iface 35 (.int .i64 4), recovered := false }]) w' := ⟨hk, .inl ⟨h, rfl⟩⟩
set_option maxHeartbeats 4000000 in
set_option maxRecDepth 100000 in
theorem conf_any {w : World} {B p : Nat} {l : List Int} (h : RB w B p l) (hl : l.length ≤ 900000) (hBw : B ≤ w.heap.size) : Calls Tryd.prog 59 #[.pointer (some ⟨p, 0, none⟩)] w (ConfR w B p l) := by
  obtain ⟨W0, hW0, B0, k0, h0⟩ : ∃ W0, w.alloc (.cells #[.int .i64 0, .int .i64 0, .int .i64 0, .int .i64 0, .int .i64 0, .int .i64 0, .int .i64 0, .int .i64 0, .int .i64 0, .int .i64 0, .int .i64 0, .int .i64 0, .int .i64 0, .int .i64 0] 24) = W0 ∧ Blk W0 w.heap.size 24 #[.int .i64 0, .int .i64 0, .int .i64 0, .int .i64 0, .int .i64 0, .int .i64 0, .int .i64 0, .int .i64 0, .int .i64 0, .int .i64 0, .int .i64 0, .int .i64 0, .int .i64 0, .int .i64 0] ∧ Keeps (fun b => b = p) w W0 ∧ RB W0 B p (l.drop 0) := ⟨_, rfl, Blk.new _ _ _, (Keeps.refl _ w).alloc _, h.keeps (S := fun _ => False) ((Keeps.refl _ w).alloc _) (fun _ _ z => z)⟩
  have hpB : p < B := by obtain ⟨_, _, _, _, _, _, _, h⟩ := h; exact h
  have hws : w.heap.size < W0.heap.size := B0.lt
  have HB0 := Lib.hid B0
  clear h B0
  by_cases g0 : 0 < l.length
  · have c0 := number_at h0 g0 hl
    by_cases g1 : 1 < l.length
    · go_enter Tryd.func59, Tryd.ntmps59
      go_upto_region 1 with (fail)
      have tok1 : True := trivial
      have tok2 : True := trivial
      go_upto_region 2 with (first | (have _t := tok1; go_at_call 70; refine c0.mono ?_; rintro e w1 ⟨rfl, h1, k1⟩; clear tok1 _t) | (have _t := tok2; go_at_call 70; refine (number_at h1 g1 hl).mono ?_; rintro e w2 ⟨rfl, h2, k2⟩; clear tok2 _t))
      obtain ⟨q, hq⟩ : ∃ q, w2.heap.size = q := ⟨_, rfl⟩
      have hqw : w.heap.size < q := by have := k1.size; have := k2.size; omega
      obtain ⟨V0, hV0, C0, D0, r0, q0⟩ : ∃ V, w2.alloc (.cells #[.int .i64 (bt l 0), .int .i64 (bt l 1), .int .i64 0, .int .i64 0, .int .i64 0, .int .i64 0, .int .i64 0, .int .i64 0, .int .i64 0, .int .i64 0, .int .i64 0, .int .i64 0, .int .i64 0, .int .i64 0] 24) = V ∧ Blk V q 24 (cellsC l 0) ∧ Blk V w.heap.size 24 #[.int .i64 0, .int .i64 0, .int .i64 0, .int .i64 0, .int .i64 0, .int .i64 0, .int .i64 0, .int .i64 0, .int .i64 0, .int .i64 0, .int .i64 0, .int .i64 0, .int .i64 0, .int .i64 0] ∧ RB V B p (l.drop 2) ∧ Keeps (fun b => b = p) w V := by
        subst hq
        refine ⟨_, rfl, Blk.new _ _ _, (k2.blk (k1.blk HB0.out (by omega)) (by omega)).alloc _, h2.keeps (S := fun _ => False) ((Keeps.refl _ w2).alloc _) (fun _ _ z => z), ((k0.trans_ k1).trans_ k2).alloc _⟩
      rw [hV0, hq]
      clear hV0 hq k1 k2 h1 h2 h0 c0 HB0 k0 hW0 hws
      have C0z := C0.lt
      go_wp2_with fail
      go_loopg [10] 8 (fun gk i wr => ∃ (k : Nat), k + gk = 8 ∧ i = .int .i64 k ∧ Blk wr q 24 (cellsC l k) ∧ Blk wr w.heap.size 24 #[.int .i64 0, .int .i64 0, .int .i64 0, .int .i64 0, .int .i64 0, .int .i64 0, .int .i64 0, .int .i64 0, .int .i64 0, .int .i64 0, .int .i64 0, .int .i64 0, .int .i64 0, .int .i64 0] ∧ RB wr B p (l.drop (2 + k)) ∧ Keeps (fun b => b = p) w wr)
      case atStart => exact ⟨0, by omega, rfl, C0, D0, r0, q0⟩
      case round =>
        clear C0 D0 r0 q0 C0z
        obtain ⟨k, hk, rfl, C, D, r, qk⟩ := hrel
        have hqr := C.lt
        by_cases hlt : k < 8
        · have k0 : (0 : Int) ≤ (k : Int) := by omega
          have k8 : (k : Int) < 8 := by omega
          by_cases gk2 : 2 + k < l.length
          · have hat := cellsC_at l hlt
            have HST := Lib.hid (cellsC_step l hlt)
            have HAT := Lib.hid hat
            have hn := number_at r gk2 hl
            clear hat r
            go_wp2_with (go_at_call 70; refine hn.mono ?_; rintro e w3 ⟨rfl, r3, k3⟩; have C3 := k3.blk C (by omega); have y3 := (C3.cell (2 + k)).trans HAT.out; have f3 := C3.frozen (2 + k); have z3 := C3.lt)
            go_roundg (gk - 1)
            case measure => omega
            case rel =>
              have C4 := C3.set_ (2 + k) (.int .i64 (bt l (2 + k)))
              rw [HST.out] at C4
              have k4 := (Keeps.refl (fun b => b = q) w3).setCell (p := ⟨q, 2 + k, none⟩) (fun _ => rfl) (.int .i64 (bt l (2 + k)))
              exact ⟨k + 1, by omega, by go_num, C4, (k3.blk D (by omega)).far (p := ⟨q, 2 + k, none⟩) (by show _ ≠ q; omega) _, r3.keeps k4 (fun b hb e => by omega), (qk.trans_ k3).trans k4 (fun b e hb => by omega)⟩
          · have HS : Hid (l.length < 16) := by show _ < _; omega
            have hn := number_out r (by omega)
            go_wp2_with (go_at_call 70; refine hn.mono ?_; rintro e w3 ⟨rfl, rfl⟩)
            exact ⟨rfl, ConfR.short HS.out qk⟩
        · obtain rfl : k = 8 := by omega
          have C9 : Blk wr q 24 #[.int .i64 (bt l 0), .int .i64 (bt l 1), .int .i64 (bt l 2), .int .i64 (bt l 3), .int .i64 (bt l 4), .int .i64 (bt l 5), .int .i64 (bt l 6), .int .i64 (bt l 7), .int .i64 (bt l 8), .int .i64 (bt l 9), .int .i64 0, .int .i64 0, .int .i64 0, .int .i64 0] := by have := C; simpa [cellsC] using this
          have r9 : RB wr B p (l.drop 10) := r
          clear C r
          go_upto_region 7 with (fail)
          by_cases g10 : 10 < l.length
          rotate_left
          · have HS : Hid (l.length < 16) := by show _ < _; omega
            have hn := number_out r9 (by omega)
            go_wp2_with (go_at_call 70; refine hn.mono ?_; rintro e w3 ⟨rfl, rfl⟩)
            exact ⟨rfl, ConfR.short HS.out qk⟩
          have hn := number_at r9 g10 hl
          go_upto_region 8 with (go_at_call 70; refine hn.mono ?_; rintro e u0 ⟨rfl, r3, k3⟩; have C3 := k3.blk C9 (by omega); have y3 := C3.cell 10; have f3 := C3.frozen 10; have z3 := C3.lt)
          obtain ⟨V0, hV, E0, F0, s0, t0⟩ : ∃ V, u0.setCell ⟨q, 10, none⟩ (.int .i64 (bt l 10)) = V ∧ Blk V q 24 #[.int .i64 (bt l 0), .int .i64 (bt l 1), .int .i64 (bt l 2), .int .i64 (bt l 3), .int .i64 (bt l 4), .int .i64 (bt l 5), .int .i64 (bt l 6), .int .i64 (bt l 7), .int .i64 (bt l 8), .int .i64 (bt l 9), .int .i64 (bt l 10), .int .i64 0, .int .i64 0, .int .i64 0] ∧ Blk V w.heap.size 24 #[.int .i64 0, .int .i64 0, .int .i64 0, .int .i64 0, .int .i64 0, .int .i64 0, .int .i64 0, .int .i64 0, .int .i64 0, .int .i64 0, .int .i64 0, .int .i64 0, .int .i64 0, .int .i64 0] ∧ RB V B p (l.drop 11) ∧ Keeps (fun b => b = p) w V := by
            have k4 := (Keeps.refl (fun b => b = q) u0).setCell (p := ⟨q, 10, none⟩) (fun _ => rfl) (.int .i64 (bt l 10))
            exact ⟨_, rfl, C3.set_ 10 (.int .i64 (bt l 10)), (k3.blk D (by omega)).far (p := ⟨q, 10, none⟩) (by show _ ≠ q; omega) _, r3.keeps k4 (fun b hb e => by omega), (qk.trans_ k3).trans k4 (fun b e hb => by omega)⟩
          rw [hV]
          clear hV r3 k3 C3 y3 f3 z3 hn C9 D r9 qk
          have z0 := E0.lt
          by_cases g11 : 11 < l.length
          rotate_left
          · have HS : Hid (l.length < 16) := by show _ < _; omega
            have hn := number_out s0 (by omega)
            go_wp2_with (go_at_call 70; refine hn.mono ?_; rintro e w3 ⟨rfl, rfl⟩)
            exact ⟨rfl, ConfR.short HS.out t0⟩
          have hn := number_at s0 g11 hl
          go_upto_region 9 with (go_at_call 70; refine hn.mono ?_; rintro e u1 ⟨rfl, r3, k3⟩; have C3 := k3.blk E0 (by omega); have y3 := C3.cell 11; have f3 := C3.frozen 11; have z3 := C3.lt)
          obtain ⟨V1, hV, E1, F1, s1, t1⟩ : ∃ V, u1.setCell ⟨q, 11, none⟩ (.int .i64 (bt l 11)) = V ∧ Blk V q 24 #[.int .i64 (bt l 0), .int .i64 (bt l 1), .int .i64 (bt l 2), .int .i64 (bt l 3), .int .i64 (bt l 4), .int .i64 (bt l 5), .int .i64 (bt l 6), .int .i64 (bt l 7), .int .i64 (bt l 8), .int .i64 (bt l 9), .int .i64 (bt l 10), .int .i64 (bt l 11), .int .i64 0, .int .i64 0] ∧ Blk V w.heap.size 24 #[.int .i64 0, .int .i64 0, .int .i64 0, .int .i64 0, .int .i64 0, .int .i64 0, .int .i64 0, .int .i64 0, .int .i64 0, .int .i64 0, .int .i64 0, .int .i64 0, .int .i64 0, .int .i64 0] ∧ RB V B p (l.drop 12) ∧ Keeps (fun b => b = p) w V := by
            have k4 := (Keeps.refl (fun b => b = q) u1).setCell (p := ⟨q, 11, none⟩) (fun _ => rfl) (.int .i64 (bt l 11))
            exact ⟨_, rfl, C3.set_ 11 (.int .i64 (bt l 11)), (k3.blk F0 (by omega)).far (p := ⟨q, 11, none⟩) (by show _ ≠ q; omega) _, r3.keeps k4 (fun b hb e => by omega), (t0.trans_ k3).trans k4 (fun b e hb => by omega)⟩
          rw [hV]
          clear hV r3 k3 C3 y3 f3 z3 hn E0 F0 s0 t0
          have z1 := E1.lt
          by_cases g12 : 14 < l.length
          rotate_left
          · have HS : Hid (l.length < 16) := by show _ < _; omega
            have hn := take_end (sz := 3) s1 (by rw [List.length_drop]; omega) (by omega)
            go_wp2_with (go_at_call 71; refine hn.mono ?_; rintro e w3 ⟨rfl, rfl⟩)
            exact ⟨rfl, ConfR.short HS.out t1⟩
          have hn := take_some (sz := 3) s1 (by rw [List.length_drop]; omega) (by omega) (by omega) (by rw [List.length_drop]; omega)
          have hge := numR_lt ((l.drop 12).take 3) (fun x hx => s1.by_ x (List.mem_of_mem_take hx))
          rw [show ((l.drop 12).take 3).length = 3 by rw [List.length_take, List.length_drop]; omega] at hge
          rw [List.drop_drop] at hn
          obtain ⟨ge, hg⟩ : ∃ ge, numR ((l.drop 12).take 3) = ge := ⟨_, rfl⟩
          have HGE := Lib.hid hg
          rw [hg] at hn hge
          obtain ⟨hge1, hge2⟩ := hge
          clear hg
          have hge3 : ge < 16777216 := hge2
          clear hge2
          go_upto_region 10 with (go_at_call 71; refine hn.mono ?_; rintro e u2 ⟨rfl, r3, k3⟩; have C3 := k3.blk E1 (by omega); have y3 := C3.cell 12; have f3 := C3.frozen 12; have z3 := C3.lt)
          obtain ⟨V2, hV, E2, F2, s2, t2⟩ : ∃ V, u2.setCell ⟨q, 12, none⟩ (.int .i64 ge) = V ∧ Blk V q 24 #[.int .i64 (bt l 0), .int .i64 (bt l 1), .int .i64 (bt l 2), .int .i64 (bt l 3), .int .i64 (bt l 4), .int .i64 (bt l 5), .int .i64 (bt l 6), .int .i64 (bt l 7), .int .i64 (bt l 8), .int .i64 (bt l 9), .int .i64 (bt l 10), .int .i64 (bt l 11), .int .i64 ge, .int .i64 0] ∧ Blk V w.heap.size 24 #[.int .i64 0, .int .i64 0, .int .i64 0, .int .i64 0, .int .i64 0, .int .i64 0, .int .i64 0, .int .i64 0, .int .i64 0, .int .i64 0, .int .i64 0, .int .i64 0, .int .i64 0, .int .i64 0] ∧ RB V B p (l.drop 15) ∧ Keeps (fun b => b = p) w V := by
            have k4 := (Keeps.refl (fun b => b = q) u2).setCell (p := ⟨q, 12, none⟩) (fun _ => rfl) (.int .i64 ge)
            exact ⟨_, rfl, C3.set_ 12 (.int .i64 ge), (k3.blk F1 (by omega)).far (p := ⟨q, 12, none⟩) (by show _ ≠ q; omega) _, r3.keeps k4 (fun b hb e => by omega), (t1.trans_ k3).trans k4 (fun b e hb => by omega)⟩
          rw [hV]
          clear hV r3 k3 C3 y3 f3 z3 hn E1 F1 s1 t1
          have z2 := E2.lt
          by_cases g15 : 15 < l.length
          rotate_left
          · have HS : Hid (l.length < 16) := by show _ < _; omega
            have hn := number_out s2 (by omega)
            go_wp2_with (go_at_call 70; refine hn.mono ?_; rintro e w3 ⟨rfl, rfl⟩)
            exact ⟨rfl, ConfR.short HS.out t2⟩
          have hn := number_at s2 g15 hl
          go_upto_region 11 with (go_at_call 70; refine hn.mono ?_; rintro e u3 ⟨rfl, r3, k3⟩; have C3 := k3.blk E2 (by omega); have y3 := C3.cell 13; have f3 := C3.frozen 13; have z3 := C3.lt)
          obtain ⟨V3, hV, E3, F3, s3, t3⟩ : ∃ V, u3.setCell ⟨q, 13, none⟩ (.int .i64 (bt l 15)) = V ∧ Blk V q 24 #[.int .i64 (bt l 0), .int .i64 (bt l 1), .int .i64 (bt l 2), .int .i64 (bt l 3), .int .i64 (bt l 4), .int .i64 (bt l 5), .int .i64 (bt l 6), .int .i64 (bt l 7), .int .i64 (bt l 8), .int .i64 (bt l 9), .int .i64 (bt l 10), .int .i64 (bt l 11), .int .i64 ge, .int .i64 (bt l 15)] ∧ Blk V w.heap.size 24 #[.int .i64 0, .int .i64 0, .int .i64 0, .int .i64 0, .int .i64 0, .int .i64 0, .int .i64 0, .int .i64 0, .int .i64 0, .int .i64 0, .int .i64 0, .int .i64 0, .int .i64 0, .int .i64 0] ∧ RB V B p (l.drop 16) ∧ Keeps (fun b => b = p) w V := by
            have k4 := (Keeps.refl (fun b => b = q) u3).setCell (p := ⟨q, 13, none⟩) (fun _ => rfl) (.int .i64 (bt l 15))
            exact ⟨_, rfl, C3.set_ 13 (.int .i64 (bt l 15)), (k3.blk F2 (by omega)).far (p := ⟨q, 13, none⟩) (by show _ ≠ q; omega) _, r3.keeps k4 (fun b hb e => by omega), (t2.trans_ k3).trans k4 (fun b e hb => by omega)⟩
          rw [hV]
          clear hV r3 k3 C3 y3 f3 z3 hn E2 F2 s2 t2
          have z3 := E3.lt
          obtain ⟨c, hc⟩ : ∃ c, confL l = c := ⟨_, rfl⟩
          have hcm := fun W => may_any c W
          have E4 : Blk V3 q 24 #[.int .i64 c.lv, .int .i64 c.th, .int .i64 c.o0, .int .i64 c.o1, .int .i64 c.o2, .int .i64 c.o3, .int .i64 c.o4, .int .i64 c.o5, .int .i64 c.o6, .int .i64 c.o7, .int .i64 c.sl, .int .i64 c.li, .int .i64 c.ge, .int .i64 c.qu] := by
            rw [← hc]
            have := E3
            rw [← HGE.out] at this
            exact this
          have h16 : Hid (16 ≤ l.length) := by show _ ≤ _; omega
          have HC := Lib.hid hc
          have HB4 := Lib.hid E4
          clear hc E3 E4
          have hi : (Tryd.prog.info? 24).map (·.size) = some (#[.int .i64 c.lv, .int .i64 c.th, .int .i64 c.o0, .int .i64 c.o1, .int .i64 c.o2, .int .i64 c.o3, .int .i64 c.o4, .int .i64 c.o5, .int .i64 c.o6, .int .i64 c.o7, .int .i64 c.sl, .int .i64 c.li, .int .i64 c.ge, .int .i64 c.qu] : Array Value).size := by kernel_rfl
          cases hm : mayB c with
          | false =>
            rw [hm] at hcm
            have HM := Lib.hid hm
            clear hm
            have tok1 : True := trivial
            go_wp2_with (first | (have _t := tok1; refine wpList_load_row (o := ⟨some 32, _, _, _, _, _⟩) rfl 24 (.tmp 3) rfl q rfl 24 _ _ _ HB4.out Tryd.underlying24 rfl hi ?_; clear tok1 _t) | (go_at_call 21; refine (hcm _).mono ?_; rintro e w5 ⟨rfl, hb5⟩))
            exact ⟨rfl, t3.trans_ (Keeps.of_below hb5), .inr (.inl ⟨h16.out, by rw [HC.out]; exact HM.out, rfl⟩)⟩
          | true =>
            rw [hm] at hcm
            have HM := Lib.hid hm
            clear hm
            have tok1 : True := trivial
            go_upto_region 13 with (first | (have _t := tok1; refine wpList_load_row (o := ⟨some 32, _, _, _, _, _⟩) rfl 24 (.tmp 3) rfl q rfl 24 _ _ _ HB4.out Tryd.underlying24 rfl hi ?_; clear tok1 _t) | (go_at_call 21; refine (hcm _).mono ?_; rintro e w5 ⟨rfl, hb5⟩))
            have B5 := HB4.out.below_ hb5
            have G5 := F3.below_ hb5
            have k5 := t3.trans_ (Keeps.of_below hb5)
            have r5 := s3.keeps (S := fun _ => False) (Keeps.of_below hb5) (fun _ _ z => z)
            have tok1 : True := trivial
            have tok2 : True := trivial
            go_wp2_with (first | (have _t := tok1; refine wpList_load_row (o := ⟨some 36, _, _, _, _, _⟩) rfl 24 (.tmp 3) rfl q rfl 24 _ _ _ B5 Tryd.underlying24 rfl hi ?_; clear tok1 _t) | (have _t := tok2; refine wpList_store_row (o := ⟨none, .store 24 (.tmp 2) (.tmp 36), _, _, _, _⟩) rfl 24 (.tmp 2) (.tmp 36) rfl w.heap.size _ rfl rfl 24 _ G5 hi rfl (by simp [Value.oneCell']) ?_; clear tok2 _t))
            have kr := keeps_row w5 w.heap.size #[.int .i64 c.lv, .int .i64 c.th, .int .i64 c.o0, .int .i64 c.o1, .int .i64 c.o2, .int .i64 c.o3, .int .i64 c.o4, .int .i64 c.o5, .int .i64 c.o6, .int .i64 c.o7, .int .i64 c.sl, .int .i64 c.li, .int .i64 c.ge, .int .i64 c.qu]
            refine bodyPost_ret (v := .agg #[.int .i64 c.lv, .int .i64 c.th, .int .i64 c.o0, .int .i64 c.o1, .int .i64 c.o2, .int .i64 c.o3, .int .i64 c.o4, .int .i64 c.o5, .int .i64 c.o6, .int .i64 c.o7, .int .i64 c.sl, .int .i64 c.li, .int .i64 c.ge, .int .i64 c.qu]) (results_cell_row rfl _ _ w.heap.size 24 _ _ _ rfl (G5.row _) Tryd.underlying24 rfl hi) rfl ⟨k5.trans kr (fun b e hb => by omega), .inr (.inr ⟨h16.out, by rw [HC.out]; exact HM.out, by rw [HC.out]; rfl, r5.keeps kr (fun b hb e => by omega)⟩)⟩
    · have HS : Hid (l.length < 16) := by show _ < _; omega
      go_enter Tryd.func59, Tryd.ntmps59
      go_upto_region 1 with (fail)
      have tok1 : True := trivial
      have tok2 : True := trivial
      go_wp2_with (first | (have _t := tok1; go_at_call 70; refine c0.mono ?_; rintro e w1 ⟨rfl, h1, k1⟩; clear tok1 _t) | (have _t := tok2; go_at_call 70; refine (number_out h1 (by omega)).mono ?_; rintro e w2 ⟨rfl, rfl⟩; clear tok2 _t))
      exact ⟨rfl, ConfR.short HS.out (k0.trans_ k1)⟩
  · have HS : Hid (l.length < 16) := by show _ < _; omega
    have c0 := number_out h0 (by omega)
    go_enter Tryd.func59, Tryd.ntmps59
    go_upto_region 1 with (fail)
    go_wp2_with (go_at_call 70; refine c0.mono ?_; rintro e w1 ⟨rfl, rfl⟩)
    exact ⟨rfl, ConfR.short HS.out k0⟩
end Go.Proofs.YtknngjdcbldmgaaDoor
