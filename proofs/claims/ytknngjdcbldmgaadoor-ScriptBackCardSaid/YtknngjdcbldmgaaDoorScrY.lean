/- A reader of calls, where bytes end. -/
import Derived.Test.YtknngjdcbldmgaaDoorScrX
namespace Go.Proofs.YtknngjdcbldmgaaDoor
set_option linter.unusedVariables false
set_option linter.unusedSimpArgs false
open Go.RowKit

set_option maxHeartbeats 4000000 in
set_option maxRecDepth 100000 in
theorem call_end0 {w : World} {B p : Nat} {x0 x1 x2 : Int} {t : List Int} (h : RB w B p (x0 :: x1 :: x2 :: t)) (ht : 0 ≤ t.length) (ht2 : t.length < 8) (hl : t.length ≤ 900000) (hBw : B ≤ w.heap.size) :
    Calls Tryd.prog 72 #[.pointer (some ⟨p, 0, none⟩)] w fun e w' => Pan 4 e ∧ Keeps (fun b => b = p) w w' := by
  have k0 : Keeps (fun b => b = p) w (w.alloc (.cells #[.int .i64 0, .int .i64 0, .int .i64 0, .int .u64 0, .int .u64 0, .int .u64 0, .int .i64 0] 63)) := (Keeps.refl _ w).alloc _
  have h1 := h.keeps (S := fun _ => False) ((Keeps.refl _ w).alloc (.cells #[.int .i64 0, .int .i64 0, .int .i64 0, .int .u64 0, .int .u64 0, .int .u64 0, .int .i64 0] 63)) (fun _ _ q => q)
  have B0 := Blk.new w 63 #[.int .i64 0, .int .i64 0, .int .i64 0, .int .u64 0, .int .u64 0, .int .u64 0, .int .i64 0]
  have HB0 := Lib.hid B0
  clear h B0
  have tok1 : True := trivial
  have tok2 : True := trivial
  have tok3 : True := trivial
  go_enter Tryd.func72, Tryd.ntmps72
  go_upto_region 1 with (fail)
  go_upto_region 2 with (first | (have _t := tok1; go_at_call 70; refine (number_some h1 (by first | omega | (simp; omega) | simp)).mono ?_; rintro e w1 ⟨rfl, h2, k1⟩; clear tok1 _t) | (have _t := tok2; go_at_call 70; refine (number_some h2 (by first | omega | (simp; omega) | simp)).mono ?_; rintro e w2 ⟨rfl, h3, k2⟩; clear tok2 _t) | (have _t := tok3; go_at_call 70; refine (number_some h3 (by first | omega | (simp; omega) | simp)).mono ?_; rintro e w3 ⟨rfl, h4, k3⟩; clear tok3 _t))
  obtain ⟨q, hq⟩ : ∃ q, w3.heap.size = q := ⟨_, rfl⟩
  have kk3 := (k1.trans_ (k2.trans_ k3))
  have hw0 : w.heap.size + 1 ≤ w3.heap.size := by have := kk3.size; simpa using this
  have hBq : B ≤ q := by omega
  have hwq : w.heap.size + 1 ≤ q := by omega
  have hpB : p < B := by obtain ⟨_, _, _, _, _, _, _, h⟩ := h4; exact h
  have hqp : ¬ q = p := by omega
  have HU0 : Hid (U64 (numR (t.take 8))) := numR_u (fun x hx => h4.by_ x (List.mem_of_mem_take hx)) (by rw [List.length_take]; omega)
  obtain ⟨V0, hV0, C0, r0, q0, y0⟩ : ∃ V, w3.alloc (.cells #[.int .i64 x0, .int .i64 x1, .int .i64 0, .int .u64 0, .int .u64 0, .int .u64 0, .int .i64 x2] 63) = V ∧ Blk V q 63 #[.int .i64 x0, .int .i64 x1, .int .i64 0, .int .u64 0, .int .u64 0, .int .u64 0, .int .i64 x2] ∧ RB V B p t ∧ Keeps (fun b => b = p) (w.alloc (.cells #[.int .i64 0, .int .i64 0, .int .i64 0, .int .u64 0, .int .u64 0, .int .u64 0, .int .i64 0] 63)) V ∧ q < V.heap.size := ⟨_, rfl, by rw [← hq]; exact Blk.new _ _ _, h4.keeps (S := fun _ => False) ((Keeps.refl _ w3).alloc _) (fun _ _ z => z), kk3.alloc _, by rw [← hq]; simp⟩
  rw [hV0, hq]
  clear hV0 hq h1 h2 h3 h4 k1 k2 k3 kk3 hw0
  go_wp2_with (go_at_call 71; refine (take_end (sz := 8) r0 (by first | omega | (simp; omega)) (by omega)).mono ?_; rintro e u9 ⟨rfl, rfl⟩)
  exact ⟨rfl, rfl, k0.trans_ q0⟩
set_option maxHeartbeats 4000000 in
set_option maxRecDepth 100000 in
theorem call_end1 {w : World} {B p : Nat} {x0 x1 x2 : Int} {t : List Int} (h : RB w B p (x0 :: x1 :: x2 :: t)) (ht : 8 ≤ t.length) (ht2 : t.length < 16) (hl : t.length ≤ 900000) (hBw : B ≤ w.heap.size) :
    Calls Tryd.prog 72 #[.pointer (some ⟨p, 0, none⟩)] w fun e w' => Pan 4 e ∧ Keeps (fun b => b = p) w w' := by
  have k0 : Keeps (fun b => b = p) w (w.alloc (.cells #[.int .i64 0, .int .i64 0, .int .i64 0, .int .u64 0, .int .u64 0, .int .u64 0, .int .i64 0] 63)) := (Keeps.refl _ w).alloc _
  have h1 := h.keeps (S := fun _ => False) ((Keeps.refl _ w).alloc (.cells #[.int .i64 0, .int .i64 0, .int .i64 0, .int .u64 0, .int .u64 0, .int .u64 0, .int .i64 0] 63)) (fun _ _ q => q)
  have B0 := Blk.new w 63 #[.int .i64 0, .int .i64 0, .int .i64 0, .int .u64 0, .int .u64 0, .int .u64 0, .int .i64 0]
  have HB0 := Lib.hid B0
  clear h B0
  have tok1 : True := trivial
  have tok2 : True := trivial
  have tok3 : True := trivial
  go_enter Tryd.func72, Tryd.ntmps72
  go_upto_region 1 with (fail)
  go_upto_region 2 with (first | (have _t := tok1; go_at_call 70; refine (number_some h1 (by first | omega | (simp; omega) | simp)).mono ?_; rintro e w1 ⟨rfl, h2, k1⟩; clear tok1 _t) | (have _t := tok2; go_at_call 70; refine (number_some h2 (by first | omega | (simp; omega) | simp)).mono ?_; rintro e w2 ⟨rfl, h3, k2⟩; clear tok2 _t) | (have _t := tok3; go_at_call 70; refine (number_some h3 (by first | omega | (simp; omega) | simp)).mono ?_; rintro e w3 ⟨rfl, h4, k3⟩; clear tok3 _t))
  obtain ⟨q, hq⟩ : ∃ q, w3.heap.size = q := ⟨_, rfl⟩
  have kk3 := (k1.trans_ (k2.trans_ k3))
  have hw0 : w.heap.size + 1 ≤ w3.heap.size := by have := kk3.size; simpa using this
  have hBq : B ≤ q := by omega
  have hwq : w.heap.size + 1 ≤ q := by omega
  have hpB : p < B := by obtain ⟨_, _, _, _, _, _, _, h⟩ := h4; exact h
  have hqp : ¬ q = p := by omega
  have HU0 : Hid (U64 (numR (t.take 8))) := numR_u (fun x hx => h4.by_ x (List.mem_of_mem_take hx)) (by rw [List.length_take]; omega)
  obtain ⟨V0, hV0, C0, r0, q0, y0⟩ : ∃ V, w3.alloc (.cells #[.int .i64 x0, .int .i64 x1, .int .i64 0, .int .u64 0, .int .u64 0, .int .u64 0, .int .i64 x2] 63) = V ∧ Blk V q 63 #[.int .i64 x0, .int .i64 x1, .int .i64 0, .int .u64 0, .int .u64 0, .int .u64 0, .int .i64 x2] ∧ RB V B p t ∧ Keeps (fun b => b = p) (w.alloc (.cells #[.int .i64 0, .int .i64 0, .int .i64 0, .int .u64 0, .int .u64 0, .int .u64 0, .int .i64 0] 63)) V ∧ q < V.heap.size := ⟨_, rfl, by rw [← hq]; exact Blk.new _ _ _, h4.keeps (S := fun _ => False) ((Keeps.refl _ w3).alloc _) (fun _ _ z => z), kk3.alloc _, by rw [← hq]; simp⟩
  rw [hV0, hq]
  clear hV0 hq h1 h2 h3 h4 k1 k2 k3 kk3 hw0
  have D0 := fun (W : World) (hW : Keeps (fun b => b = p) V0 W) => hW.blk C0 hqp
  have HD0 := Lib.hid D0
  clear D0
  go_upto_region 3 with (first | (go_at_call 71; refine (take_some (sz := 8) r0 (by first | omega | (simp; omega)) (by omega) (by omega) (by first | omega | (simp; omega))).mono ?_; rintro e u0 ⟨rfl, s0, m0⟩; have E0 := HD0.out _ m0; have f0 := E0.frozen 2; have c0 := E0.cell 2; have z0 := E0.lt) | (go_at_call 73; refine (fnum_any HU0.out _).mono ?_; rintro e wz ⟨rfl, rfl⟩))
  obtain ⟨ky, hky⟩ : ∃ ky, wrap64 (numR (t.take 8)) = ky := ⟨_, rfl⟩
  rw [hky]
  have Hky := Lib.hid hky
  obtain ⟨V1, hV1, C1, r1, q1, y1⟩ : ∃ V, u0.setCell ⟨q, 2, none⟩ (.int .i64 ky) = V ∧ Blk V q 63 #[.int .i64 x0, .int .i64 x1, .int .i64 ky, .int .u64 0, .int .u64 0, .int .u64 0, .int .i64 x2] ∧ RB V B p (t.drop 8) ∧ Keeps (fun b => b = p) (w.alloc (.cells #[.int .i64 0, .int .i64 0, .int .i64 0, .int .u64 0, .int .u64 0, .int .u64 0, .int .i64 0] 63)) V ∧ q < V.heap.size := ⟨_, rfl, E0.set_ 2 _, s0|>.keeps (S := fun b => b = q) ((Keeps.refl (fun b => b = q) _).setCell (p := ⟨q, 2, none⟩) (fun _ => rfl) _) (fun b hb e => by omega), (q0.trans_ m0).setCell (p := ⟨q, 2, none⟩) (fun hb => absurd hb (by show ¬ q < _; rw [World.size_alloc]; omega)) _, by simpa [World.setCell] using z0⟩
  rw [hV1]
  clear hV1 hky E0 f0 c0 z0 s0 m0 C0 r0 q0 y0 HD0
  go_wp2_with (go_at_call 71; refine (take_end (sz := 8) r1 (by first | omega | (simp; omega)) (by omega)).mono ?_; rintro e u9 ⟨rfl, rfl⟩)
  exact ⟨rfl, rfl, k0.trans_ q1⟩
set_option maxHeartbeats 4000000 in
set_option maxRecDepth 100000 in
theorem call_end2 {w : World} {B p : Nat} {x0 x1 x2 : Int} {t : List Int} (h : RB w B p (x0 :: x1 :: x2 :: t)) (ht : 16 ≤ t.length) (ht2 : t.length < 24) (hl : t.length ≤ 900000) (hBw : B ≤ w.heap.size) :
    Calls Tryd.prog 72 #[.pointer (some ⟨p, 0, none⟩)] w fun e w' => Pan 4 e ∧ Keeps (fun b => b = p) w w' := by
  have k0 : Keeps (fun b => b = p) w (w.alloc (.cells #[.int .i64 0, .int .i64 0, .int .i64 0, .int .u64 0, .int .u64 0, .int .u64 0, .int .i64 0] 63)) := (Keeps.refl _ w).alloc _
  have h1 := h.keeps (S := fun _ => False) ((Keeps.refl _ w).alloc (.cells #[.int .i64 0, .int .i64 0, .int .i64 0, .int .u64 0, .int .u64 0, .int .u64 0, .int .i64 0] 63)) (fun _ _ q => q)
  have B0 := Blk.new w 63 #[.int .i64 0, .int .i64 0, .int .i64 0, .int .u64 0, .int .u64 0, .int .u64 0, .int .i64 0]
  have HB0 := Lib.hid B0
  clear h B0
  have tok1 : True := trivial
  have tok2 : True := trivial
  have tok3 : True := trivial
  go_enter Tryd.func72, Tryd.ntmps72
  go_upto_region 1 with (fail)
  go_upto_region 2 with (first | (have _t := tok1; go_at_call 70; refine (number_some h1 (by first | omega | (simp; omega) | simp)).mono ?_; rintro e w1 ⟨rfl, h2, k1⟩; clear tok1 _t) | (have _t := tok2; go_at_call 70; refine (number_some h2 (by first | omega | (simp; omega) | simp)).mono ?_; rintro e w2 ⟨rfl, h3, k2⟩; clear tok2 _t) | (have _t := tok3; go_at_call 70; refine (number_some h3 (by first | omega | (simp; omega) | simp)).mono ?_; rintro e w3 ⟨rfl, h4, k3⟩; clear tok3 _t))
  obtain ⟨q, hq⟩ : ∃ q, w3.heap.size = q := ⟨_, rfl⟩
  have kk3 := (k1.trans_ (k2.trans_ k3))
  have hw0 : w.heap.size + 1 ≤ w3.heap.size := by have := kk3.size; simpa using this
  have hBq : B ≤ q := by omega
  have hwq : w.heap.size + 1 ≤ q := by omega
  have hpB : p < B := by obtain ⟨_, _, _, _, _, _, _, h⟩ := h4; exact h
  have hqp : ¬ q = p := by omega
  have HU0 : Hid (U64 (numR (t.take 8))) := numR_u (fun x hx => h4.by_ x (List.mem_of_mem_take hx)) (by rw [List.length_take]; omega)
  obtain ⟨V0, hV0, C0, r0, q0, y0⟩ : ∃ V, w3.alloc (.cells #[.int .i64 x0, .int .i64 x1, .int .i64 0, .int .u64 0, .int .u64 0, .int .u64 0, .int .i64 x2] 63) = V ∧ Blk V q 63 #[.int .i64 x0, .int .i64 x1, .int .i64 0, .int .u64 0, .int .u64 0, .int .u64 0, .int .i64 x2] ∧ RB V B p t ∧ Keeps (fun b => b = p) (w.alloc (.cells #[.int .i64 0, .int .i64 0, .int .i64 0, .int .u64 0, .int .u64 0, .int .u64 0, .int .i64 0] 63)) V ∧ q < V.heap.size := ⟨_, rfl, by rw [← hq]; exact Blk.new _ _ _, h4.keeps (S := fun _ => False) ((Keeps.refl _ w3).alloc _) (fun _ _ z => z), kk3.alloc _, by rw [← hq]; simp⟩
  rw [hV0, hq]
  clear hV0 hq h1 h2 h3 h4 k1 k2 k3 kk3 hw0
  have D0 := fun (W : World) (hW : Keeps (fun b => b = p) V0 W) => hW.blk C0 hqp
  have HD0 := Lib.hid D0
  clear D0
  go_upto_region 3 with (first | (go_at_call 71; refine (take_some (sz := 8) r0 (by first | omega | (simp; omega)) (by omega) (by omega) (by first | omega | (simp; omega))).mono ?_; rintro e u0 ⟨rfl, s0, m0⟩; have E0 := HD0.out _ m0; have f0 := E0.frozen 2; have c0 := E0.cell 2; have z0 := E0.lt) | (go_at_call 73; refine (fnum_any HU0.out _).mono ?_; rintro e wz ⟨rfl, rfl⟩))
  obtain ⟨ky, hky⟩ : ∃ ky, wrap64 (numR (t.take 8)) = ky := ⟨_, rfl⟩
  rw [hky]
  have Hky := Lib.hid hky
  obtain ⟨V1, hV1, C1, r1, q1, y1⟩ : ∃ V, u0.setCell ⟨q, 2, none⟩ (.int .i64 ky) = V ∧ Blk V q 63 #[.int .i64 x0, .int .i64 x1, .int .i64 ky, .int .u64 0, .int .u64 0, .int .u64 0, .int .i64 x2] ∧ RB V B p (t.drop 8) ∧ Keeps (fun b => b = p) (w.alloc (.cells #[.int .i64 0, .int .i64 0, .int .i64 0, .int .u64 0, .int .u64 0, .int .u64 0, .int .i64 0] 63)) V ∧ q < V.heap.size := ⟨_, rfl, E0.set_ 2 _, s0|>.keeps (S := fun b => b = q) ((Keeps.refl (fun b => b = q) _).setCell (p := ⟨q, 2, none⟩) (fun _ => rfl) _) (fun b hb e => by omega), (q0.trans_ m0).setCell (p := ⟨q, 2, none⟩) (fun hb => absurd hb (by show ¬ q < _; rw [World.size_alloc]; omega)) _, by simpa [World.setCell] using z0⟩
  rw [hV1]
  clear hV1 hky E0 f0 c0 z0 s0 m0 C0 r0 q0 y0 HD0
  have D1 := fun (W : World) (hW : Keeps (fun b => b = p) V1 W) => hW.blk C1 hqp
  have HD1 := Lib.hid D1
  clear D1
  go_upto_region 4 with (first | (go_at_call 71; refine (take_some (sz := 8) r1 (by first | omega | (simp; omega)) (by omega) (by omega) (by first | omega | (simp; omega))).mono ?_; rintro e u1 ⟨rfl, s1, m1⟩; have E1 := HD1.out _ m1; have f1 := E1.frozen 3; have c1 := E1.cell 3; have z1 := E1.lt))
  obtain ⟨na, hna⟩ : ∃ na, numR ((t.drop 8).take 8) = na := ⟨_, rfl⟩
  rw [hna]
  have Hna := Lib.hid hna
  obtain ⟨V2, hV2, C2, r2, q2, y2⟩ : ∃ V, u1.setCell ⟨q, 3, none⟩ (.int .u64 na) = V ∧ Blk V q 63 #[.int .i64 x0, .int .i64 x1, .int .i64 ky, .int .u64 na, .int .u64 0, .int .u64 0, .int .i64 x2] ∧ RB V B p (t.drop 16) ∧ Keeps (fun b => b = p) (w.alloc (.cells #[.int .i64 0, .int .i64 0, .int .i64 0, .int .u64 0, .int .u64 0, .int .u64 0, .int .i64 0] 63)) V ∧ q < V.heap.size := ⟨_, rfl, E1.set_ 3 _, (show RB u1 B p (t.drop 16) by have h := s1; rw [List.drop_drop] at h; exact h)|>.keeps (S := fun b => b = q) ((Keeps.refl (fun b => b = q) _).setCell (p := ⟨q, 3, none⟩) (fun _ => rfl) _) (fun b hb e => by omega), (q1.trans_ m1).setCell (p := ⟨q, 3, none⟩) (fun hb => absurd hb (by show ¬ q < _; rw [World.size_alloc]; omega)) _, by simpa [World.setCell] using z1⟩
  rw [hV2]
  clear hV2 hna E1 f1 c1 z1 s1 m1 C1 r1 q1 y1 HD1
  go_wp2_with (go_at_call 71; refine (take_end (sz := 8) r2 (by first | omega | (simp; omega)) (by omega)).mono ?_; rintro e u9 ⟨rfl, rfl⟩)
  exact ⟨rfl, rfl, k0.trans_ q2⟩
set_option maxHeartbeats 4000000 in
set_option maxRecDepth 100000 in
theorem call_end3 {w : World} {B p : Nat} {x0 x1 x2 : Int} {t : List Int} (h : RB w B p (x0 :: x1 :: x2 :: t)) (ht : 24 ≤ t.length) (ht2 : t.length < 32) (hl : t.length ≤ 900000) (hBw : B ≤ w.heap.size) :
    Calls Tryd.prog 72 #[.pointer (some ⟨p, 0, none⟩)] w fun e w' => Pan 4 e ∧ Keeps (fun b => b = p) w w' := by
  have k0 : Keeps (fun b => b = p) w (w.alloc (.cells #[.int .i64 0, .int .i64 0, .int .i64 0, .int .u64 0, .int .u64 0, .int .u64 0, .int .i64 0] 63)) := (Keeps.refl _ w).alloc _
  have h1 := h.keeps (S := fun _ => False) ((Keeps.refl _ w).alloc (.cells #[.int .i64 0, .int .i64 0, .int .i64 0, .int .u64 0, .int .u64 0, .int .u64 0, .int .i64 0] 63)) (fun _ _ q => q)
  have B0 := Blk.new w 63 #[.int .i64 0, .int .i64 0, .int .i64 0, .int .u64 0, .int .u64 0, .int .u64 0, .int .i64 0]
  have HB0 := Lib.hid B0
  clear h B0
  have tok1 : True := trivial
  have tok2 : True := trivial
  have tok3 : True := trivial
  go_enter Tryd.func72, Tryd.ntmps72
  go_upto_region 1 with (fail)
  go_upto_region 2 with (first | (have _t := tok1; go_at_call 70; refine (number_some h1 (by first | omega | (simp; omega) | simp)).mono ?_; rintro e w1 ⟨rfl, h2, k1⟩; clear tok1 _t) | (have _t := tok2; go_at_call 70; refine (number_some h2 (by first | omega | (simp; omega) | simp)).mono ?_; rintro e w2 ⟨rfl, h3, k2⟩; clear tok2 _t) | (have _t := tok3; go_at_call 70; refine (number_some h3 (by first | omega | (simp; omega) | simp)).mono ?_; rintro e w3 ⟨rfl, h4, k3⟩; clear tok3 _t))
  obtain ⟨q, hq⟩ : ∃ q, w3.heap.size = q := ⟨_, rfl⟩
  have kk3 := (k1.trans_ (k2.trans_ k3))
  have hw0 : w.heap.size + 1 ≤ w3.heap.size := by have := kk3.size; simpa using this
  have hBq : B ≤ q := by omega
  have hwq : w.heap.size + 1 ≤ q := by omega
  have hpB : p < B := by obtain ⟨_, _, _, _, _, _, _, h⟩ := h4; exact h
  have hqp : ¬ q = p := by omega
  have HU0 : Hid (U64 (numR (t.take 8))) := numR_u (fun x hx => h4.by_ x (List.mem_of_mem_take hx)) (by rw [List.length_take]; omega)
  obtain ⟨V0, hV0, C0, r0, q0, y0⟩ : ∃ V, w3.alloc (.cells #[.int .i64 x0, .int .i64 x1, .int .i64 0, .int .u64 0, .int .u64 0, .int .u64 0, .int .i64 x2] 63) = V ∧ Blk V q 63 #[.int .i64 x0, .int .i64 x1, .int .i64 0, .int .u64 0, .int .u64 0, .int .u64 0, .int .i64 x2] ∧ RB V B p t ∧ Keeps (fun b => b = p) (w.alloc (.cells #[.int .i64 0, .int .i64 0, .int .i64 0, .int .u64 0, .int .u64 0, .int .u64 0, .int .i64 0] 63)) V ∧ q < V.heap.size := ⟨_, rfl, by rw [← hq]; exact Blk.new _ _ _, h4.keeps (S := fun _ => False) ((Keeps.refl _ w3).alloc _) (fun _ _ z => z), kk3.alloc _, by rw [← hq]; simp⟩
  rw [hV0, hq]
  clear hV0 hq h1 h2 h3 h4 k1 k2 k3 kk3 hw0
  have D0 := fun (W : World) (hW : Keeps (fun b => b = p) V0 W) => hW.blk C0 hqp
  have HD0 := Lib.hid D0
  clear D0
  go_upto_region 3 with (first | (go_at_call 71; refine (take_some (sz := 8) r0 (by first | omega | (simp; omega)) (by omega) (by omega) (by first | omega | (simp; omega))).mono ?_; rintro e u0 ⟨rfl, s0, m0⟩; have E0 := HD0.out _ m0; have f0 := E0.frozen 2; have c0 := E0.cell 2; have z0 := E0.lt) | (go_at_call 73; refine (fnum_any HU0.out _).mono ?_; rintro e wz ⟨rfl, rfl⟩))
  obtain ⟨ky, hky⟩ : ∃ ky, wrap64 (numR (t.take 8)) = ky := ⟨_, rfl⟩
  rw [hky]
  have Hky := Lib.hid hky
  obtain ⟨V1, hV1, C1, r1, q1, y1⟩ : ∃ V, u0.setCell ⟨q, 2, none⟩ (.int .i64 ky) = V ∧ Blk V q 63 #[.int .i64 x0, .int .i64 x1, .int .i64 ky, .int .u64 0, .int .u64 0, .int .u64 0, .int .i64 x2] ∧ RB V B p (t.drop 8) ∧ Keeps (fun b => b = p) (w.alloc (.cells #[.int .i64 0, .int .i64 0, .int .i64 0, .int .u64 0, .int .u64 0, .int .u64 0, .int .i64 0] 63)) V ∧ q < V.heap.size := ⟨_, rfl, E0.set_ 2 _, s0|>.keeps (S := fun b => b = q) ((Keeps.refl (fun b => b = q) _).setCell (p := ⟨q, 2, none⟩) (fun _ => rfl) _) (fun b hb e => by omega), (q0.trans_ m0).setCell (p := ⟨q, 2, none⟩) (fun hb => absurd hb (by show ¬ q < _; rw [World.size_alloc]; omega)) _, by simpa [World.setCell] using z0⟩
  rw [hV1]
  clear hV1 hky E0 f0 c0 z0 s0 m0 C0 r0 q0 y0 HD0
  have D1 := fun (W : World) (hW : Keeps (fun b => b = p) V1 W) => hW.blk C1 hqp
  have HD1 := Lib.hid D1
  clear D1
  go_upto_region 4 with (first | (go_at_call 71; refine (take_some (sz := 8) r1 (by first | omega | (simp; omega)) (by omega) (by omega) (by first | omega | (simp; omega))).mono ?_; rintro e u1 ⟨rfl, s1, m1⟩; have E1 := HD1.out _ m1; have f1 := E1.frozen 3; have c1 := E1.cell 3; have z1 := E1.lt))
  obtain ⟨na, hna⟩ : ∃ na, numR ((t.drop 8).take 8) = na := ⟨_, rfl⟩
  rw [hna]
  have Hna := Lib.hid hna
  obtain ⟨V2, hV2, C2, r2, q2, y2⟩ : ∃ V, u1.setCell ⟨q, 3, none⟩ (.int .u64 na) = V ∧ Blk V q 63 #[.int .i64 x0, .int .i64 x1, .int .i64 ky, .int .u64 na, .int .u64 0, .int .u64 0, .int .i64 x2] ∧ RB V B p (t.drop 16) ∧ Keeps (fun b => b = p) (w.alloc (.cells #[.int .i64 0, .int .i64 0, .int .i64 0, .int .u64 0, .int .u64 0, .int .u64 0, .int .i64 0] 63)) V ∧ q < V.heap.size := ⟨_, rfl, E1.set_ 3 _, (show RB u1 B p (t.drop 16) by have h := s1; rw [List.drop_drop] at h; exact h)|>.keeps (S := fun b => b = q) ((Keeps.refl (fun b => b = q) _).setCell (p := ⟨q, 3, none⟩) (fun _ => rfl) _) (fun b hb e => by omega), (q1.trans_ m1).setCell (p := ⟨q, 3, none⟩) (fun hb => absurd hb (by show ¬ q < _; rw [World.size_alloc]; omega)) _, by simpa [World.setCell] using z1⟩
  rw [hV2]
  clear hV2 hna E1 f1 c1 z1 s1 m1 C1 r1 q1 y1 HD1
  have D2 := fun (W : World) (hW : Keeps (fun b => b = p) V2 W) => hW.blk C2 hqp
  have HD2 := Lib.hid D2
  clear D2
  go_upto_region 5 with (first | (go_at_call 71; refine (take_some (sz := 8) r2 (by first | omega | (simp; omega)) (by omega) (by omega) (by first | omega | (simp; omega))).mono ?_; rintro e u2 ⟨rfl, s2, m2⟩; have E2 := HD2.out _ m2; have f2 := E2.frozen 4; have c2 := E2.cell 4; have z2 := E2.lt))
  obtain ⟨nb, hnb⟩ : ∃ nb, numR ((t.drop 16).take 8) = nb := ⟨_, rfl⟩
  rw [hnb]
  have Hnb := Lib.hid hnb
  obtain ⟨V3, hV3, C3, r3, q3, y3⟩ : ∃ V, u2.setCell ⟨q, 4, none⟩ (.int .u64 nb) = V ∧ Blk V q 63 #[.int .i64 x0, .int .i64 x1, .int .i64 ky, .int .u64 na, .int .u64 nb, .int .u64 0, .int .i64 x2] ∧ RB V B p (t.drop 24) ∧ Keeps (fun b => b = p) (w.alloc (.cells #[.int .i64 0, .int .i64 0, .int .i64 0, .int .u64 0, .int .u64 0, .int .u64 0, .int .i64 0] 63)) V ∧ q < V.heap.size := ⟨_, rfl, E2.set_ 4 _, (show RB u2 B p (t.drop 24) by have h := s2; rw [List.drop_drop] at h; exact h)|>.keeps (S := fun b => b = q) ((Keeps.refl (fun b => b = q) _).setCell (p := ⟨q, 4, none⟩) (fun _ => rfl) _) (fun b hb e => by omega), (q2.trans_ m2).setCell (p := ⟨q, 4, none⟩) (fun hb => absurd hb (by show ¬ q < _; rw [World.size_alloc]; omega)) _, by simpa [World.setCell] using z2⟩
  rw [hV3]
  clear hV3 hnb E2 f2 c2 z2 s2 m2 C2 r2 q2 y2 HD2
  go_wp2_with (go_at_call 71; refine (take_end (sz := 8) r3 (by first | omega | (simp; omega)) (by omega)).mono ?_; rintro e u9 ⟨rfl, rfl⟩)
  exact ⟨rfl, rfl, k0.trans_ q3⟩
set_option maxHeartbeats 4000000 in
set_option maxRecDepth 100000 in
theorem call_short0 {w : World} {B p : Nat} (h : RB w B p []) : Calls Tryd.prog 72 #[.pointer (some ⟨p, 0, none⟩)] w fun e w' => Pan 4 e ∧ Keeps (fun b => b = p) w w' := by
  have k0 : Keeps (fun b => b = p) w (w.alloc (.cells #[.int .i64 0, .int .i64 0, .int .i64 0, .int .u64 0, .int .u64 0, .int .u64 0, .int .i64 0] 63)) := (Keeps.refl _ w).alloc _
  have h1 := h.keeps (S := fun _ => False) ((Keeps.refl _ w).alloc (.cells #[.int .i64 0, .int .i64 0, .int .i64 0, .int .u64 0, .int .u64 0, .int .u64 0, .int .i64 0] 63)) (fun _ _ q => q)
  clear h
  have tok1 : True := trivial
  have tok2 : True := trivial
  go_enter Tryd.func72, Tryd.ntmps72
  go_upto_region 1 with (fail)
  go_wp2_with (first | (go_at_call 70; refine (number_end h1).mono ?_; rintro e u9 ⟨rfl, rfl⟩))
  exact ⟨rfl, rfl, k0⟩
set_option maxHeartbeats 4000000 in
set_option maxRecDepth 100000 in
theorem call_short1 {w : World} {B p : Nat} {x0 : Int} (h : RB w B p [x0]) : Calls Tryd.prog 72 #[.pointer (some ⟨p, 0, none⟩)] w fun e w' => Pan 4 e ∧ Keeps (fun b => b = p) w w' := by
  have k0 : Keeps (fun b => b = p) w (w.alloc (.cells #[.int .i64 0, .int .i64 0, .int .i64 0, .int .u64 0, .int .u64 0, .int .u64 0, .int .i64 0] 63)) := (Keeps.refl _ w).alloc _
  have h1 := h.keeps (S := fun _ => False) ((Keeps.refl _ w).alloc (.cells #[.int .i64 0, .int .i64 0, .int .i64 0, .int .u64 0, .int .u64 0, .int .u64 0, .int .i64 0] 63)) (fun _ _ q => q)
  clear h
  have tok1 : True := trivial
  have tok2 : True := trivial
  go_enter Tryd.func72, Tryd.ntmps72
  go_upto_region 1 with (fail)
  go_wp2_with (first | (have _t := tok1; go_at_call 70; refine (number_some h1 (by first | omega | (simp; omega) | simp)).mono ?_; rintro e w1 ⟨rfl, h2, k1⟩; clear tok1 _t) | (go_at_call 70; refine (number_end h2).mono ?_; rintro e u9 ⟨rfl, rfl⟩))
  exact ⟨rfl, rfl, (k0.trans_ k1)⟩
set_option maxHeartbeats 4000000 in
set_option maxRecDepth 100000 in
theorem call_short2 {w : World} {B p : Nat} {x0 x1 : Int} (h : RB w B p [x0, x1]) : Calls Tryd.prog 72 #[.pointer (some ⟨p, 0, none⟩)] w fun e w' => Pan 4 e ∧ Keeps (fun b => b = p) w w' := by
  have k0 : Keeps (fun b => b = p) w (w.alloc (.cells #[.int .i64 0, .int .i64 0, .int .i64 0, .int .u64 0, .int .u64 0, .int .u64 0, .int .i64 0] 63)) := (Keeps.refl _ w).alloc _
  have h1 := h.keeps (S := fun _ => False) ((Keeps.refl _ w).alloc (.cells #[.int .i64 0, .int .i64 0, .int .i64 0, .int .u64 0, .int .u64 0, .int .u64 0, .int .i64 0] 63)) (fun _ _ q => q)
  clear h
  have tok1 : True := trivial
  have tok2 : True := trivial
  go_enter Tryd.func72, Tryd.ntmps72
  go_upto_region 1 with (fail)
  go_wp2_with (first | (have _t := tok1; go_at_call 70; refine (number_some h1 (by first | omega | (simp; omega) | simp)).mono ?_; rintro e w1 ⟨rfl, h2, k1⟩; clear tok1 _t) | (have _t := tok2; go_at_call 70; refine (number_some h2 (by first | omega | (simp; omega) | simp)).mono ?_; rintro e w2 ⟨rfl, h3, k2⟩; clear tok2 _t) | (go_at_call 70; refine (number_end h3).mono ?_; rintro e u9 ⟨rfl, rfl⟩))
  exact ⟨rfl, rfl, (k0.trans_ (k1.trans_ k2))⟩
theorem call_end {w : World} {B p : Nat} {l : List Int} (h : RB w B p l) (hl : l.length < 35) (hBw : B ≤ w.heap.size) : Calls Tryd.prog 72 #[.pointer (some ⟨p, 0, none⟩)] w fun e w' => Pan 4 e ∧ Keeps (fun b => b = p) w w' := by
  match l, h, hl with
  | [], h, _ => exact call_short0 h
  | [_], h, _ => exact call_short1 h
  | [_, _], h, _ => exact call_short2 h
  | _ :: _ :: _ :: t, h, hl =>
    simp only [List.length_cons] at hl
    by_cases h1 : t.length < 8
    · exact call_end0 h (by omega) (by omega) (by omega) hBw
    · by_cases h2 : t.length < 16
      · exact call_end1 h (by omega) (by omega) (by omega) hBw
      · by_cases h3 : t.length < 24
        · exact call_end2 h (by omega) (by omega) (by omega) hBw
        · exact call_end3 h (by omega) (by omega) (by omega) hBw
end Go.Proofs.YtknngjdcbldmgaaDoor
