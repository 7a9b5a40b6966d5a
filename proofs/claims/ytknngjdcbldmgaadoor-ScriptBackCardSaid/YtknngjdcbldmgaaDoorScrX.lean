/- A reader of calls. -/
import Derived.Test.YtknngjdcbldmgaaDoorScrW
namespace Go.Proofs.YtknngjdcbldmgaaDoor
set_option linter.unusedVariables false
set_option linter.unusedSimpArgs false
open Go.RowKit

theorem numR_u {l : List Int} (h : ∀ x, x ∈ l → 0 ≤ x ∧ x < 256) (hl : l.length ≤ 8) : U64 (numR l) := by
  have h1 := numR_lt l h
  refine ⟨h1.1, Int.lt_of_lt_of_le h1.2 ?_⟩
  generalize l.length = q at hl
  rcases (by omega : q = 0 ∨ q = 1 ∨ q = 2 ∨ q = 3 ∨ q = 4 ∨ q = 5 ∨ q = 6 ∨ q = 7 ∨ q = 8) with rfl | rfl | rfl | rfl | rfl | rfl | rfl | rfl | rfl <;> decide
theorem RB.by_ {w : World} {B p : Nat} {l : List Int} (h : RB w B p l) : ∀ x, x ∈ l → 0 ≤ x ∧ x < 256 := by
  obtain ⟨_, _, _, _, _, _, hb, _⟩ := h
  exact hb
def callX (x0 x1 x2 : Int) (t : List Int) : CV := ⟨x0, x1, wrap64 (numR (t.take 8)), numR ((t.drop 8).take 8), numR ((t.drop 16).take 8), numR ((t.drop 24).take 8), x2⟩
set_option maxHeartbeats 4000000 in
set_option maxRecDepth 100000 in
theorem call_yes {w : World} {B p : Nat} {x0 x1 x2 : Int} {t : List Int} (h : RB w B p (x0 :: x1 :: x2 :: t)) (ht : 32 ≤ t.length) (hl : t.length ≤ 900000) (hBw : B ≤ w.heap.size) (hok : okC (callX x0 x1 x2 t) = true) :
    Calls Tryd.prog 72 #[.pointer (some ⟨p, 0, none⟩)] w fun e w' => e = .returned (.agg (cvc (callX x0 x1 x2 t)).toArray) ∧ RB w' B p (t.drop 32) ∧ Keeps (fun b => b = p) w w' := by
  have k0 : Keeps (fun b => b = p) w (w.alloc (.cells #[.int .i64 0, .int .i64 0, .int .i64 0, .int .u64 0, .int .u64 0, .int .u64 0, .int .i64 0] 63)) := (Keeps.refl _ w).alloc _
  have h1 := h.keeps (S := fun _ => False) ((Keeps.refl _ w).alloc (.cells #[.int .i64 0, .int .i64 0, .int .i64 0, .int .u64 0, .int .u64 0, .int .u64 0, .int .i64 0] 63)) (fun _ _ q => q)
  have B0 := Blk.new w 63 #[.int .i64 0, .int .i64 0, .int .i64 0, .int .u64 0, .int .u64 0, .int .u64 0, .int .i64 0]
  have HB0 := Lib.hid B0
  clear h B0
  have tok1 : True := trivial
  have tok2 : True := trivial
  have tok3 : True := trivial
  go_enter Tryd.func72, Tryd.ntmps72
  go_upto_region 1 with (fail)
  go_upto_region 2 with (first | (have _t := tok1; go_at_call 70; refine (number_some h1 (by first | omega | (simp; omega) | simp)).mono ?_; rintro e w1 ⟨rfl, h2, k1⟩; clear tok1 _t) | (have _t := tok2; go_at_call 70; refine (number_some h2 (by first | omega | (simp; omega) | simp)).mono ?_; rintro e w2 ⟨rfl, h3, k2⟩; clear tok2 _t) | (have _t := tok3; go_at_call 70; refine (number_some h3 (by first | omega | (simp; omega) | simp)).mono ?_; rintro e w3 ⟨rfl, h4, k3⟩; clear tok3 _t))
  obtain ⟨q, hq⟩ : ∃ q, w3.heap.size = q := ⟨_, rfl⟩
  have kk3 := (k1.trans_ (k2.trans_ k3))
  have hw0 : w.heap.size + 1 ≤ w3.heap.size := by have := kk3.size; simpa using this
  have hBq : B ≤ q := by omega
  have hwq : w.heap.size + 1 ≤ q := by omega
  have hpB : p < B := by obtain ⟨_, _, _, _, _, _, _, h⟩ := h4; exact h
  have hqp : ¬ q = p := by omega
  have HU0 : Hid (U64 (numR (t.take 8))) := numR_u (fun x hx => h4.by_ x (List.mem_of_mem_take hx)) (by rw [List.length_take]; omega)
  obtain ⟨V0, hV0, C0, r0, q0, y0⟩ : ∃ V, w3.alloc (.cells #[.int .i64 x0, .int .i64 x1, .int .i64 0, .int .u64 0, .int .u64 0, .int .u64 0, .int .i64 x2] 63) = V ∧ Blk V q 63 #[.int .i64 x0, .int .i64 x1, .int .i64 0, .int .u64 0, .int .u64 0, .int .u64 0, .int .i64 x2] ∧ RB V B p t ∧ Keeps (fun b => b = p) (w.alloc (.cells #[.int .i64 0, .int .i64 0, .int .i64 0, .int .u64 0, .int .u64 0, .int .u64 0, .int .i64 0] 63)) V ∧ q < V.heap.size := ⟨_, rfl, by rw [← hq]; exact Blk.new _ _ _, h4.keeps (S := fun _ => False) ((Keeps.refl _ w3).alloc _) (fun _ _ z => z), kk3.alloc _, by rw [← hq]; simp⟩
  rw [hV0, hq]
  clear hV0 hq h1 h2 h3 h4 k1 k2 k3 kk3 hw0
  have D0 := fun (W : World) (hW : Keeps (fun b => b = p) V0 W) => hW.blk C0 hqp
  have HD0 := Lib.hid D0
  clear D0
  go_upto_region 3 with (first | (go_at_call 71; refine (take_some (sz := 8) r0 (by first | omega | (simp; omega)) (by omega) (by omega) (by first | omega | (simp; omega))).mono ?_; rintro e u0 ⟨rfl, s0, m0⟩; have E0 := HD0.out _ m0; have f0 := E0.frozen 2; have c0 := E0.cell 2; have z0 := E0.lt) | (go_at_call 73; refine (fnum_any HU0.out _).mono ?_; rintro e wz ⟨rfl, rfl⟩))
  obtain ⟨ky, hky⟩ : ∃ ky, wrap64 (numR (t.take 8)) = ky := ⟨_, rfl⟩
  rw [hky]
  have Hky := Lib.hid hky
  obtain ⟨V1, hV1, C1, r1, q1, y1⟩ : ∃ V, u0.setCell ⟨q, 2, none⟩ (.int .i64 ky) = V ∧ Blk V q 63 #[.int .i64 x0, .int .i64 x1, .int .i64 ky, .int .u64 0, .int .u64 0, .int .u64 0, .int .i64 x2] ∧ RB V B p (t.drop 8) ∧ Keeps (fun b => b = p) (w.alloc (.cells #[.int .i64 0, .int .i64 0, .int .i64 0, .int .u64 0, .int .u64 0, .int .u64 0, .int .i64 0] 63)) V ∧ q < V.heap.size := ⟨_, rfl, E0.set_ 2 _, s0|>.keeps (S := fun b => b = q) ((Keeps.refl (fun b => b = q) _).setCell (p := ⟨q, 2, none⟩) (fun _ => rfl) _) (fun b hb e => by omega), (q0.trans_ m0).setCell (p := ⟨q, 2, none⟩) (fun hb => absurd hb (by show ¬ q < _; rw [World.size_alloc]; omega)) _, by simpa [World.setCell] using z0⟩
  rw [hV1]
  clear hV1 hky E0 f0 c0 z0 s0 m0 C0 r0 q0 y0 HD0
  have D1 := fun (W : World) (hW : Keeps (fun b => b = p) V1 W) => hW.blk C1 hqp
  have HD1 := Lib.hid D1
  clear D1
  go_upto_region 4 with (first | (go_at_call 71; refine (take_some (sz := 8) r1 (by first | omega | (simp; omega)) (by omega) (by omega) (by first | omega | (simp; omega))).mono ?_; rintro e u1 ⟨rfl, s1, m1⟩; have E1 := HD1.out _ m1; have f1 := E1.frozen 3; have c1 := E1.cell 3; have z1 := E1.lt))
  obtain ⟨na, hna⟩ : ∃ na, numR ((t.drop 8).take 8) = na := ⟨_, rfl⟩
  rw [hna]
  have Hna := Lib.hid hna
  obtain ⟨V2, hV2, C2, r2, q2, y2⟩ : ∃ V, u1.setCell ⟨q, 3, none⟩ (.int .u64 na) = V ∧ Blk V q 63 #[.int .i64 x0, .int .i64 x1, .int .i64 ky, .int .u64 na, .int .u64 0, .int .u64 0, .int .i64 x2] ∧ RB V B p (t.drop 16) ∧ Keeps (fun b => b = p) (w.alloc (.cells #[.int .i64 0, .int .i64 0, .int .i64 0, .int .u64 0, .int .u64 0, .int .u64 0, .int .i64 0] 63)) V ∧ q < V.heap.size := ⟨_, rfl, E1.set_ 3 _, (show RB u1 B p (t.drop 16) by have h := s1; rw [List.drop_drop] at h; exact h)|>.keeps (S := fun b => b = q) ((Keeps.refl (fun b => b = q) _).setCell (p := ⟨q, 3, none⟩) (fun _ => rfl) _) (fun b hb e => by omega), (q1.trans_ m1).setCell (p := ⟨q, 3, none⟩) (fun hb => absurd hb (by show ¬ q < _; rw [World.size_alloc]; omega)) _, by simpa [World.setCell] using z1⟩
  rw [hV2]
  clear hV2 hna E1 f1 c1 z1 s1 m1 C1 r1 q1 y1 HD1
  have D2 := fun (W : World) (hW : Keeps (fun b => b = p) V2 W) => hW.blk C2 hqp
  have HD2 := Lib.hid D2
  clear D2
  go_upto_region 5 with (first | (go_at_call 71; refine (take_some (sz := 8) r2 (by first | omega | (simp; omega)) (by omega) (by omega) (by first | omega | (simp; omega))).mono ?_; rintro e u2 ⟨rfl, s2, m2⟩; have E2 := HD2.out _ m2; have f2 := E2.frozen 4; have c2 := E2.cell 4; have z2 := E2.lt))
  obtain ⟨nb, hnb⟩ : ∃ nb, numR ((t.drop 16).take 8) = nb := ⟨_, rfl⟩
  rw [hnb]
  have Hnb := Lib.hid hnb
  obtain ⟨V3, hV3, C3, r3, q3, y3⟩ : ∃ V, u2.setCell ⟨q, 4, none⟩ (.int .u64 nb) = V ∧ Blk V q 63 #[.int .i64 x0, .int .i64 x1, .int .i64 ky, .int .u64 na, .int .u64 nb, .int .u64 0, .int .i64 x2] ∧ RB V B p (t.drop 24) ∧ Keeps (fun b => b = p) (w.alloc (.cells #[.int .i64 0, .int .i64 0, .int .i64 0, .int .u64 0, .int .u64 0, .int .u64 0, .int .i64 0] 63)) V ∧ q < V.heap.size := ⟨_, rfl, E2.set_ 4 _, (show RB u2 B p (t.drop 24) by have h := s2; rw [List.drop_drop] at h; exact h)|>.keeps (S := fun b => b = q) ((Keeps.refl (fun b => b = q) _).setCell (p := ⟨q, 4, none⟩) (fun _ => rfl) _) (fun b hb e => by omega), (q2.trans_ m2).setCell (p := ⟨q, 4, none⟩) (fun hb => absurd hb (by show ¬ q < _; rw [World.size_alloc]; omega)) _, by simpa [World.setCell] using z2⟩
  rw [hV3]
  clear hV3 hnb E2 f2 c2 z2 s2 m2 C2 r2 q2 y2 HD2
  have D3 := fun (W : World) (hW : Keeps (fun b => b = p) V3 W) => hW.blk C3 hqp
  have HD3 := Lib.hid D3
  clear D3
  go_upto_region 6 with (first | (go_at_call 71; refine (take_some (sz := 8) r3 (by first | omega | (simp; omega)) (by omega) (by omega) (by first | omega | (simp; omega))).mono ?_; rintro e u3 ⟨rfl, s3, m3⟩; have E3 := HD3.out _ m3; have f3 := E3.frozen 5; have c3 := E3.cell 5; have z3 := E3.lt))
  obtain ⟨nh, hnh⟩ : ∃ nh, numR ((t.drop 24).take 8) = nh := ⟨_, rfl⟩
  rw [hnh]
  have Hnh := Lib.hid hnh
  obtain ⟨V4, hV4, C4, r4, q4, y4⟩ : ∃ V, u3.setCell ⟨q, 5, none⟩ (.int .u64 nh) = V ∧ Blk V q 63 #[.int .i64 x0, .int .i64 x1, .int .i64 ky, .int .u64 na, .int .u64 nb, .int .u64 nh, .int .i64 x2] ∧ RB V B p (t.drop 32) ∧ Keeps (fun b => b = p) (w.alloc (.cells #[.int .i64 0, .int .i64 0, .int .i64 0, .int .u64 0, .int .u64 0, .int .u64 0, .int .i64 0] 63)) V ∧ q < V.heap.size := ⟨_, rfl, E3.set_ 5 _, (show RB u3 B p (t.drop 32) by have h := s3; rw [List.drop_drop] at h; exact h)|>.keeps (S := fun b => b = q) ((Keeps.refl (fun b => b = q) _).setCell (p := ⟨q, 5, none⟩) (fun _ => rfl) _) (fun b hb e => by omega), (q3.trans_ m3).setCell (p := ⟨q, 5, none⟩) (fun hb => absurd hb (by show ¬ q < _; rw [World.size_alloc]; omega)) _, by simpa [World.setCell] using z3⟩
  rw [hV4]
  clear hV4 hnh E3 f3 c3 z3 s3 m3 C3 r3 q3 y3 HD3
  have X : Hid (callX x0 x1 x2 t = ⟨x0, x1, ky, na, nb, nh, x2⟩) := by rw [Hid, callX, Hky.out, Hna.out, Hnb.out, Hnh.out]
  have hmay := fun W => cmay_any (callX x0 x1 x2 t) W
  rw [hok, X.out] at hmay
  have i7 : (Tryd.prog.info? 63).map (·.size) = some (#[.int .i64 x0, .int .i64 x1, .int .i64 ky, .int .u64 na, .int .u64 nb, .int .u64 nh, .int .i64 x2] : Array Value).size := by kernel_rfl
  have G0 := q4.blk HB0.out (by show ¬ _ = _; omega)
  have tok1 : True := trivial
  go_upto_region 8 with (first | (have _t := tok1; refine wpList_load_row (o := ⟨some 26, _, _, _, _, _⟩) rfl 63 (.tmp 3) rfl q rfl 63 _ _ _ C4 Tryd.underlying63 rfl i7 ?_; clear tok1 _t) | (go_at_call 44; refine (hmay _).mono ?_; rintro e v5 ⟨rfl, hb5⟩; have C5 := C4.below_ hb5))
  have G5 := G0.below_ hb5
  have C5 := C4.below_ hb5
  have r5 := r4.keeps (S := fun _ => False) (Keeps.of_below hb5) (fun _ _ z => z)
  have KK : Keeps (fun b => b = p) w v5 := k0.trans_ (q4.trans_ (Keeps.of_below hb5))
  have hpw : ¬ w.heap.size = p := by omega
  clear C4 G0 hb5 q4 k0 HB0 r4 hmay
  have hone : (#[.int .i64 x0, .int .i64 x1, .int .i64 ky, .int .u64 na, .int .u64 nb, .int .u64 nh, .int .i64 x2] : Array Value).all (·.oneCell') = true := by simp [Value.oneCell']
  have tok1 : True := trivial
  have tok2 : True := trivial
  go_wp2_with (first | (have _t := tok1; refine wpList_load_row (o := ⟨some 30, _, _, _, _, _⟩) rfl 63 (.tmp 3) rfl q rfl 63 _ _ _ C5 Tryd.underlying63 rfl i7 ?_; clear tok1 _t) | (have _t := tok2; refine wpList_store_row (o := ⟨none, .store 63 (.tmp 2) (.tmp 30), _, _, _, _⟩) rfl 63 (.tmp 2) (.tmp 30) rfl w.heap.size _ rfl rfl 63 _ G5 i7 rfl hone ?_; clear tok2 _t))
  have kr := keeps_row v5 w.heap.size #[.int .i64 x0, .int .i64 x1, .int .i64 ky, .int .u64 na, .int .u64 nb, .int .u64 nh, .int .i64 x2]
  refine bodyPost_ret (v := .agg #[.int .i64 x0, .int .i64 x1, .int .i64 ky, .int .u64 na, .int .u64 nb, .int .u64 nh, .int .i64 x2]) (results_cell_row rfl _ _ w.heap.size 63 _ _ _ rfl (G5.row _) Tryd.underlying63 rfl i7) rfl ⟨by rw [X.out]; rfl, r5.keeps kr (fun b hb e => by omega), ?_⟩
  exact KK.trans kr (fun x e hx => by omega)
set_option maxHeartbeats 4000000 in
set_option maxRecDepth 100000 in
theorem call_bad {w : World} {B p : Nat} {x0 x1 x2 : Int} {t : List Int} (h : RB w B p (x0 :: x1 :: x2 :: t)) (ht : 32 ≤ t.length) (hl : t.length ≤ 900000) (hBw : B ≤ w.heap.size) (hok : okC (callX x0 x1 x2 t) = false) :
    Calls Tryd.prog 72 #[.pointer (some ⟨p, 0, none⟩)] w fun e w' => Pan 14 e ∧ Keeps (fun b => b = p) w w' := by
  have k0 : Keeps (fun b => b = p) w (w.alloc (.cells #[.int .i64 0, .int .i64 0, .int .i64 0, .int .u64 0, .int .u64 0, .int .u64 0, .int .i64 0] 63)) := (Keeps.refl _ w).alloc _
  have h1 := h.keeps (S := fun _ => False) ((Keeps.refl _ w).alloc (.cells #[.int .i64 0, .int .i64 0, .int .i64 0, .int .u64 0, .int .u64 0, .int .u64 0, .int .i64 0] 63)) (fun _ _ q => q)
  have B0 := Blk.new w 63 #[.int .i64 0, .int .i64 0, .int .i64 0, .int .u64 0, .int .u64 0, .int .u64 0, .int .i64 0]
  have HB0 := Lib.hid B0
  clear h B0
  have tok1 : True := trivial
  have tok2 : True := trivial
  have tok3 : True := trivial
  go_enter Tryd.func72, Tryd.ntmps72
  go_upto_region 1 with (fail)
  go_upto_region 2 with (first | (have _t := tok1; go_at_call 70; refine (number_some h1 (by first | omega | (simp; omega) | simp)).mono ?_; rintro e w1 ⟨rfl, h2, k1⟩; clear tok1 _t) | (have _t := tok2; go_at_call 70; refine (number_some h2 (by first | omega | (simp; omega) | simp)).mono ?_; rintro e w2 ⟨rfl, h3, k2⟩; clear tok2 _t) | (have _t := tok3; go_at_call 70; refine (number_some h3 (by first | omega | (simp; omega) | simp)).mono ?_; rintro e w3 ⟨rfl, h4, k3⟩; clear tok3 _t))
  obtain ⟨q, hq⟩ : ∃ q, w3.heap.size = q := ⟨_, rfl⟩
  have kk3 := (k1.trans_ (k2.trans_ k3))
  have hw0 : w.heap.size + 1 ≤ w3.heap.size := by have := kk3.size; simpa using this
  have hBq : B ≤ q := by omega
  have hwq : w.heap.size + 1 ≤ q := by omega
  have hpB : p < B := by obtain ⟨_, _, _, _, _, _, _, h⟩ := h4; exact h
  have hqp : ¬ q = p := by omega
  have HU0 : Hid (U64 (numR (t.take 8))) := numR_u (fun x hx => h4.by_ x (List.mem_of_mem_take hx)) (by rw [List.length_take]; omega)
  obtain ⟨V0, hV0, C0, r0, q0, y0⟩ : ∃ V, w3.alloc (.cells #[.int .i64 x0, .int .i64 x1, .int .i64 0, .int .u64 0, .int .u64 0, .int .u64 0, .int .i64 x2] 63) = V ∧ Blk V q 63 #[.int .i64 x0, .int .i64 x1, .int .i64 0, .int .u64 0, .int .u64 0, .int .u64 0, .int .i64 x2] ∧ RB V B p t ∧ Keeps (fun b => b = p) (w.alloc (.cells #[.int .i64 0, .int .i64 0, .int .i64 0, .int .u64 0, .int .u64 0, .int .u64 0, .int .i64 0] 63)) V ∧ q < V.heap.size := ⟨_, rfl, by rw [← hq]; exact Blk.new _ _ _, h4.keeps (S := fun _ => False) ((Keeps.refl _ w3).alloc _) (fun _ _ z => z), kk3.alloc _, by rw [← hq]; simp⟩
  rw [hV0, hq]
  clear hV0 hq h1 h2 h3 h4 k1 k2 k3 kk3 hw0
  have D0 := fun (W : World) (hW : Keeps (fun b => b = p) V0 W) => hW.blk C0 hqp
  have HD0 := Lib.hid D0
  clear D0
  go_upto_region 3 with (first | (go_at_call 71; refine (take_some (sz := 8) r0 (by first | omega | (simp; omega)) (by omega) (by omega) (by first | omega | (simp; omega))).mono ?_; rintro e u0 ⟨rfl, s0, m0⟩; have E0 := HD0.out _ m0; have f0 := E0.frozen 2; have c0 := E0.cell 2; have z0 := E0.lt) | (go_at_call 73; refine (fnum_any HU0.out _).mono ?_; rintro e wz ⟨rfl, rfl⟩))
  obtain ⟨ky, hky⟩ : ∃ ky, wrap64 (numR (t.take 8)) = ky := ⟨_, rfl⟩
  rw [hky]
  have Hky := Lib.hid hky
  obtain ⟨V1, hV1, C1, r1, q1, y1⟩ : ∃ V, u0.setCell ⟨q, 2, none⟩ (.int .i64 ky) = V ∧ Blk V q 63 #[.int .i64 x0, .int .i64 x1, .int .i64 ky, .int .u64 0, .int .u64 0, .int .u64 0, .int .i64 x2] ∧ RB V B p (t.drop 8) ∧ Keeps (fun b => b = p) (w.alloc (.cells #[.int .i64 0, .int .i64 0, .int .i64 0, .int .u64 0, .int .u64 0, .int .u64 0, .int .i64 0] 63)) V ∧ q < V.heap.size := ⟨_, rfl, E0.set_ 2 _, s0|>.keeps (S := fun b => b = q) ((Keeps.refl (fun b => b = q) _).setCell (p := ⟨q, 2, none⟩) (fun _ => rfl) _) (fun b hb e => by omega), (q0.trans_ m0).setCell (p := ⟨q, 2, none⟩) (fun hb => absurd hb (by show ¬ q < _; rw [World.size_alloc]; omega)) _, by simpa [World.setCell] using z0⟩
  rw [hV1]
  clear hV1 hky E0 f0 c0 z0 s0 m0 C0 r0 q0 y0 HD0
  have D1 := fun (W : World) (hW : Keeps (fun b => b = p) V1 W) => hW.blk C1 hqp
  have HD1 := Lib.hid D1
  clear D1
  go_upto_region 4 with (first | (go_at_call 71; refine (take_some (sz := 8) r1 (by first | omega | (simp; omega)) (by omega) (by omega) (by first | omega | (simp; omega))).mono ?_; rintro e u1 ⟨rfl, s1, m1⟩; have E1 := HD1.out _ m1; have f1 := E1.frozen 3; have c1 := E1.cell 3; have z1 := E1.lt))
  obtain ⟨na, hna⟩ : ∃ na, numR ((t.drop 8).take 8) = na := ⟨_, rfl⟩
  rw [hna]
  have Hna := Lib.hid hna
  obtain ⟨V2, hV2, C2, r2, q2, y2⟩ : ∃ V, u1.setCell ⟨q, 3, none⟩ (.int .u64 na) = V ∧ Blk V q 63 #[.int .i64 x0, .int .i64 x1, .int .i64 ky, .int .u64 na, .int .u64 0, .int .u64 0, .int .i64 x2] ∧ RB V B p (t.drop 16) ∧ Keeps (fun b => b = p) (w.alloc (.cells #[.int .i64 0, .int .i64 0, .int .i64 0, .int .u64 0, .int .u64 0, .int .u64 0, .int .i64 0] 63)) V ∧ q < V.heap.size := ⟨_, rfl, E1.set_ 3 _, (show RB u1 B p (t.drop 16) by have h := s1; rw [List.drop_drop] at h; exact h)|>.keeps (S := fun b => b = q) ((Keeps.refl (fun b => b = q) _).setCell (p := ⟨q, 3, none⟩) (fun _ => rfl) _) (fun b hb e => by omega), (q1.trans_ m1).setCell (p := ⟨q, 3, none⟩) (fun hb => absurd hb (by show ¬ q < _; rw [World.size_alloc]; omega)) _, by simpa [World.setCell] using z1⟩
  rw [hV2]
  clear hV2 hna E1 f1 c1 z1 s1 m1 C1 r1 q1 y1 HD1
  have D2 := fun (W : World) (hW : Keeps (fun b => b = p) V2 W) => hW.blk C2 hqp
  have HD2 := Lib.hid D2
  clear D2
  go_upto_region 5 with (first | (go_at_call 71; refine (take_some (sz := 8) r2 (by first | omega | (simp; omega)) (by omega) (by omega) (by first | omega | (simp; omega))).mono ?_; rintro e u2 ⟨rfl, s2, m2⟩; have E2 := HD2.out _ m2; have f2 := E2.frozen 4; have c2 := E2.cell 4; have z2 := E2.lt))
  obtain ⟨nb, hnb⟩ : ∃ nb, numR ((t.drop 16).take 8) = nb := ⟨_, rfl⟩
  rw [hnb]
  have Hnb := Lib.hid hnb
  obtain ⟨V3, hV3, C3, r3, q3, y3⟩ : ∃ V, u2.setCell ⟨q, 4, none⟩ (.int .u64 nb) = V ∧ Blk V q 63 #[.int .i64 x0, .int .i64 x1, .int .i64 ky, .int .u64 na, .int .u64 nb, .int .u64 0, .int .i64 x2] ∧ RB V B p (t.drop 24) ∧ Keeps (fun b => b = p) (w.alloc (.cells #[.int .i64 0, .int .i64 0, .int .i64 0, .int .u64 0, .int .u64 0, .int .u64 0, .int .i64 0] 63)) V ∧ q < V.heap.size := ⟨_, rfl, E2.set_ 4 _, (show RB u2 B p (t.drop 24) by have h := s2; rw [List.drop_drop] at h; exact h)|>.keeps (S := fun b => b = q) ((Keeps.refl (fun b => b = q) _).setCell (p := ⟨q, 4, none⟩) (fun _ => rfl) _) (fun b hb e => by omega), (q2.trans_ m2).setCell (p := ⟨q, 4, none⟩) (fun hb => absurd hb (by show ¬ q < _; rw [World.size_alloc]; omega)) _, by simpa [World.setCell] using z2⟩
  rw [hV3]
  clear hV3 hnb E2 f2 c2 z2 s2 m2 C2 r2 q2 y2 HD2
  have D3 := fun (W : World) (hW : Keeps (fun b => b = p) V3 W) => hW.blk C3 hqp
  have HD3 := Lib.hid D3
  clear D3
  go_upto_region 6 with (first | (go_at_call 71; refine (take_some (sz := 8) r3 (by first | omega | (simp; omega)) (by omega) (by omega) (by first | omega | (simp; omega))).mono ?_; rintro e u3 ⟨rfl, s3, m3⟩; have E3 := HD3.out _ m3; have f3 := E3.frozen 5; have c3 := E3.cell 5; have z3 := E3.lt))
  obtain ⟨nh, hnh⟩ : ∃ nh, numR ((t.drop 24).take 8) = nh := ⟨_, rfl⟩
  rw [hnh]
  have Hnh := Lib.hid hnh
  obtain ⟨V4, hV4, C4, r4, q4, y4⟩ : ∃ V, u3.setCell ⟨q, 5, none⟩ (.int .u64 nh) = V ∧ Blk V q 63 #[.int .i64 x0, .int .i64 x1, .int .i64 ky, .int .u64 na, .int .u64 nb, .int .u64 nh, .int .i64 x2] ∧ RB V B p (t.drop 32) ∧ Keeps (fun b => b = p) (w.alloc (.cells #[.int .i64 0, .int .i64 0, .int .i64 0, .int .u64 0, .int .u64 0, .int .u64 0, .int .i64 0] 63)) V ∧ q < V.heap.size := ⟨_, rfl, E3.set_ 5 _, (show RB u3 B p (t.drop 32) by have h := s3; rw [List.drop_drop] at h; exact h)|>.keeps (S := fun b => b = q) ((Keeps.refl (fun b => b = q) _).setCell (p := ⟨q, 5, none⟩) (fun _ => rfl) _) (fun b hb e => by omega), (q3.trans_ m3).setCell (p := ⟨q, 5, none⟩) (fun hb => absurd hb (by show ¬ q < _; rw [World.size_alloc]; omega)) _, by simpa [World.setCell] using z3⟩
  rw [hV4]
  clear hV4 hnh E3 f3 c3 z3 s3 m3 C3 r3 q3 y3 HD3
  have X : Hid (callX x0 x1 x2 t = ⟨x0, x1, ky, na, nb, nh, x2⟩) := by rw [Hid, callX, Hky.out, Hna.out, Hnb.out, Hnh.out]
  have hmay := fun W => cmay_any (callX x0 x1 x2 t) W
  rw [hok, X.out] at hmay
  have i7 : (Tryd.prog.info? 63).map (·.size) = some (#[.int .i64 x0, .int .i64 x1, .int .i64 ky, .int .u64 na, .int .u64 nb, .int .u64 nh, .int .i64 x2] : Array Value).size := by kernel_rfl
  have tok1 : True := trivial
  go_wp2_with (first | (have _t := tok1; refine wpList_load_row (o := ⟨some 26, _, _, _, _, _⟩) rfl 63 (.tmp 3) rfl q rfl 63 _ _ _ C4 Tryd.underlying63 rfl i7 ?_; clear tok1 _t) | (go_at_call 44; refine (hmay _).mono ?_; rintro e v5 ⟨rfl, hb5⟩))
  exact ⟨rfl, rfl, k0.trans_ (q4.trans_ (Keeps.of_below hb5))⟩
end Go.Proofs.YtknngjdcbldmgaaDoor
