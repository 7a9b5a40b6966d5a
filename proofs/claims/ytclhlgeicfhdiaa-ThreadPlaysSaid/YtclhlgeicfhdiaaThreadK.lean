/- Threads: the document's step: Back. -/
import Derived.Test.YtclhlgeicfhdiaaThreadJ
namespace Go.Proofs.Ytclhlgeicfhdiaa
set_option linter.unusedVariables false
set_option linter.unusedSimpArgs false
open Go.RowKit

def tvc (told : List Int) (F H : Value) : Array Value := (told.map uc ++ [F, H]).toArray
theorem slw {S : Nat → Prop} {w w' : World} (hk : Keeps S w w') {RA : Option Addr} {rn rc : Nat} {rl : List Int} (hr : Sl us w RA rn rc rl) (hn : ∀ ad, RA = some ad → rl ≠ [] → ¬ S ad.block) : Sl us w' RA rn rc rl := by
  by_cases he : rl = []
  · exact ⟨hr.len, hr.cap, by rw [he]; exact Rd.nil _ _, hr.nil_⟩
  · exact hk.sl hr (fun ad h => hn ad h he)
theorem tvc_set8 {told : List Int} (h : told.length = 8) (F F' H : Value) : (tvc told F H).setIfInBounds 8 F' = tvc told F' H := by
  obtain ⟨a0, a1, a2, a3, a4, a5, a6, a7, rfl⟩ := len8 h
  simp [tvc]
theorem tvc_set {told : List Int} (k : Nat) (x : Int) (hk : k < told.length) (F H : Value) : (tvc told F H).setIfInBounds k (.int .u64 x) = tvc (told.set k x) F H := by
  unfold tvc
  rw [List.setIfInBounds_toArray, List.set_append_left _ _ (by simpa using hk), List.map_set]
  rfl
theorem Sl.upto {α : Type} {f : α → List Value} {s : Nat} {w : World} {A : Option Addr} {n c : Nat} {l : List α} (hf : ∀ x, x ∈ l → (f x).length = s) (h : Sl f w A n c l) {k : Nat} (hk : k ≤ n) : Sl f w A k c (l.take k) := by
  refine ⟨by rw [List.length_take, h.len]; omega, Nat.le_trans hk h.cap, fun j u hj => h.rd j u ?_, fun hA => ⟨by have := (h.nil_ hA).1; omega, (h.nil_ hA).2⟩⟩
  have e : l.flatMap f = (l.take k).flatMap f ++ (l.drop k).flatMap f := by rw [← List.flatMap_append, List.take_append_drop]
  rw [e, List.getElem?_append_left (List.getElem?_eq_some_iff.1 hj).1]
  exact hj
set_option maxHeartbeats 4000000 in
set_option maxRecDepth 100000 in
theorem rdo_back_za {w : World} {FA HB RA : Option Addr} {n fc m hd rn rc : Nat} {frames : List Fr} {hs rl : List Int} (hF : Sl frc w FA n fc frames) (hH : Sl us w HB m hd hs) (hr : Sl us w RA rn rc rl) (hn : n ≤ 10000) (hm : m ≤ 10000) (hrn : rn ≤ 10000) (hFb : ∀ ad, FA = some ad → ad.block < w.heap.size) (hHb : ∀ ad, HB = some ad → ad.block < w.heap.size) (a0 a1 a2 a3 a4 a5 a6 a7 : Int) (hRb : ∀ ad, RA = some ad → rl ≠ [] → ad.block < w.heap.size) (nn : Int) (hrc : rn ≤ 8) (hn0 : n = 0) : Calls Try.prog 16 #[.agg #[.int .u64 a0, .int .u64 a1, .int .u64 a2, .int .u64 a3, .int .u64 a4, .int .u64 a5, .int .u64 a6, .int .u64 a7, .slice FA n fc, .slice HB m hd], .agg #[.int .i64 1, .int .i64 nn, .slice RA rn rc]] w fun e w' => ∃ FA' fc' HB' hd', e = .returned (.agg (tvc (pad 8 rl) (.slice FA' n fc') (.slice HB' m hd'))) ∧ Sl frc w' FA' n fc' (frames) ∧ Sl us w' HB' m hd' hs ∧ New w w' FA FA' ∧ New w w' HB HB' ∧ Below w.heap.size w w' := by
  have t0 : ¬ ((0 : Int) < (n : Int)) := by omega
  clear hn0
  go_enter Try.func16, Try.ntmps16
  go_upto_region 1 with (fail)
  obtain ⟨W0, hW0, hP, hO, hR, hF0, hH0, hr0, kb⟩ : ∃ W0, ((w.alloc (.cells #[.int .u64 a0, .int .u64 a1, .int .u64 a2, .int .u64 a3, .int .u64 a4, .int .u64 a5, .int .u64 a6, .int .u64 a7, .slice FA n fc, .slice HB m hd] 49)).alloc (.cells #[.int .i64 1, .int .i64 nn, .slice RA rn rc] 30)).alloc (.cells #[.int .u64 0, .int .u64 0, .int .u64 0, .int .u64 0, .int .u64 0, .int .u64 0, .int .u64 0, .int .u64 0, .slice none 0 0, .slice none 0 0] 49) = W0 ∧ Blk W0 w.heap.size 49 #[.int .u64 a0, .int .u64 a1, .int .u64 a2, .int .u64 a3, .int .u64 a4, .int .u64 a5, .int .u64 a6, .int .u64 a7, .slice FA n fc, .slice HB m hd] ∧ Blk W0 (w.heap.size + 1) 30 #[.int .i64 1, .int .i64 nn, .slice RA rn rc] ∧ Blk W0 (w.heap.size + 1 + 1) 49 #[.int .u64 0, .int .u64 0, .int .u64 0, .int .u64 0, .int .u64 0, .int .u64 0, .int .u64 0, .int .u64 0, .slice none 0 0, .slice none 0 0] ∧ Sl frc W0 FA n fc frames ∧ Sl us W0 HB m hd hs ∧ Sl us W0 RA rn rc rl ∧ Below w.heap.size w W0 :=
    ⟨_, rfl, ((Blk.new w _ _).alloc _).alloc _, (by have := Blk.new (w.alloc (.cells #[.int .u64 a0, .int .u64 a1, .int .u64 a2, .int .u64 a3, .int .u64 a4, .int .u64 a5, .int .u64 a6, .int .u64 a7, .slice FA n fc, .slice HB m hd] 49)) 30 #[.int .i64 1, .int .i64 nn, .slice RA rn rc]; rw [World.size_alloc] at this; exact this.alloc _), (by have := Blk.new ((w.alloc (.cells #[.int .u64 a0, .int .u64 a1, .int .u64 a2, .int .u64 a3, .int .u64 a4, .int .u64 a5, .int .u64 a6, .int .u64 a7, .slice FA n fc, .slice HB m hd] 49)).alloc (.cells #[.int .i64 1, .int .i64 nn, .slice RA rn rc] 30)) 49 #[.int .u64 0, .int .u64 0, .int .u64 0, .int .u64 0, .int .u64 0, .int .u64 0, .int .u64 0, .int .u64 0, .slice none 0 0, .slice none 0 0]; rw [World.size_alloc, World.size_alloc] at this; exact this), ((hF.alloc _).alloc _).alloc _, ((hH.alloc _).alloc _).alloc _, ((hr.alloc _).alloc _).alloc _, bnew (bnew (bnew (brefl w) _) _) _⟩
  rw [hW0]
  clear hW0 hF hH hr
  have p0 : W0.cell? ⟨w.heap.size, 0, none⟩ = some (.int .u64 a0) := hP.cell 0
  have p1 : W0.cell? ⟨w.heap.size, 1, none⟩ = some (.int .u64 a1) := hP.cell 1
  have p2 : W0.cell? ⟨w.heap.size, 2, none⟩ = some (.int .u64 a2) := hP.cell 2
  have p3 : W0.cell? ⟨w.heap.size, 3, none⟩ = some (.int .u64 a3) := hP.cell 3
  have p4 : W0.cell? ⟨w.heap.size, 4, none⟩ = some (.int .u64 a4) := hP.cell 4
  have p5 : W0.cell? ⟨w.heap.size, 5, none⟩ = some (.int .u64 a5) := hP.cell 5
  have p6 : W0.cell? ⟨w.heap.size, 6, none⟩ = some (.int .u64 a6) := hP.cell 6
  have p7 : W0.cell? ⟨w.heap.size, 7, none⟩ = some (.int .u64 a7) := hP.cell 7
  have p8 : W0.cell? ⟨w.heap.size, 8, none⟩ = some (.slice FA n fc) := hP.cell 8
  have p9 : W0.cell? ⟨w.heap.size, 9, none⟩ = some (.slice HB m hd) := hP.cell 9
  have o0 : W0.cell? ⟨w.heap.size + 1, 0, none⟩ = some (.int .i64 1) := hO.cell 0
  have o1 : W0.cell? ⟨w.heap.size + 1, 1, none⟩ = some (.int .i64 nn) := hO.cell 1
  have o2 : W0.cell? ⟨w.heap.size + 1, 2, none⟩ = some (.slice RA rn rc) := hO.cell 2
  have pf0 := hP.frozen 0
  have pf1 := hP.frozen 1
  have pf2 := hP.frozen 2
  have pf3 := hP.frozen 3
  have pf4 := hP.frozen 4
  have pf5 := hP.frozen 5
  have pf6 := hP.frozen 6
  have pf7 := hP.frozen 7
  have pf8 := hP.frozen 8
  have hzP := hP.lt
  have hzO := hO.lt
  have hzR := hR.lt
  go_upto_region 14 with (fail)
  have hwz := hP.lt
  obtain ⟨W1, hW1, hP, hk1⟩ : ∃ W1, ((((((((W0.setCell ⟨w.heap.size, 0, none⟩ (.int .u64 0)).setCell ⟨w.heap.size, 1, none⟩ (.int .u64 0)).setCell ⟨w.heap.size, 2, none⟩ (.int .u64 0)).setCell ⟨w.heap.size, 3, none⟩ (.int .u64 0)).setCell ⟨w.heap.size, 4, none⟩ (.int .u64 0)).setCell ⟨w.heap.size, 5, none⟩ (.int .u64 0)).setCell ⟨w.heap.size, 6, none⟩ (.int .u64 0)).setCell ⟨w.heap.size, 7, none⟩ (.int .u64 0)) = W1 ∧ Blk W1 w.heap.size 49 (tvc (pad 8 (rl.take 0)) (.slice FA n fc) (.slice HB m hd)) ∧ Keeps (fun b => b = w.heap.size) W0 W1 :=
    ⟨_, rfl, (by have e : tvc (pad 8 (rl.take 0)) (.slice FA n fc) (.slice HB m hd) = #[.int .u64 0, .int .u64 0, .int .u64 0, .int .u64 0, .int .u64 0, .int .u64 0, .int .u64 0, .int .u64 0, .slice FA n fc, .slice HB m hd] := rfl; rw [e]; simpa using ((((((((hP).set_ 0 _).set_ 1 _).set_ 2 _).set_ 3 _).set_ 4 _).set_ 5 _).set_ 6 _).set_ 7 _), keepq_set (keepq_set (keepq_set (keepq_set (keepq_set (keepq_set (keepq_set (keepq_set (Keeps.refl _ _))))))))⟩
  rw [hW1]
  clear hW1 p0 p1 p2 p3 p4 p5 p6 p7 p8 p9 o0 o1 o2 pf0 pf1 pf2 pf3 pf4 pf5 pf6 pf7 pf8
  have hO := hk1.blk hO (by omega)
  have hR := hk1.blk hR (by omega)
  have hF0 := hk1.sl hF0 (fun ad h => by have := hFb ad h; omega)
  have hH0 := hk1.sl hH0 (fun ad h => by have := hHb ad h; omega)
  have hr0 := slw hk1 hr0 (fun ad h hne => by have := hRb ad h hne; omega)
  have kb := hk1.below kb kb.size (fun x e _ => by subst e; exact Nat.le_refl _)
  clear hk1 hzP hzO hzR
  go_wp2_with fail
  go_loopg [8] (min rl.length 8) (fun gk i wr => ∃ k : Nat, k + gk = min rl.length 8 ∧ i = .int .i64 k ∧ Blk wr w.heap.size 49 (tvc (pad 8 (rl.take k)) (.slice FA n fc) (.slice HB m hd)) ∧ Keeps (fun b => b = w.heap.size) W1 wr)
  case atStart => exact ⟨0, by omega, rfl, hP, Keeps.refl _ _⟩
  case round =>
    obtain ⟨k, hk, rfl, hBk, hkp⟩ := hrel
    have hrl := hr0.len
    have o2 : W1.cell? ⟨w.heap.size + 1, 2, none⟩ = some (.slice RA rn rc) := hO.cell 2
    have o2k := hkp.cell o2 (by omega)
    by_cases hlt : k < min rl.length 8
    · obtain ⟨b, o', rfl, hbs, hc⟩ := hr0.base us_len (by decide) (by omega)
      obtain ⟨x, hx⟩ : ∃ x, rl[k]? = some x := ⟨rl[k]'(by omega), List.getElem?_eq_getElem (i := k) _⟩
      have c0 : W1.cell? ⟨b, o' + k, none⟩ = some (.int .u64 x) := by have h0 := hc k x 0 _ hx rfl; simpa using h0
      have c1 := hkp.cell c0 (by have := hRb _ rfl (by intro e; rw [e] at hx; simp at hx); dsimp only at this; omega)
      obtain ⟨y, hy⟩ := pad_lt 8 k (rl.take k) (by omega)
      have c2 : wr.cell? ⟨w.heap.size, k, none⟩ = some (.int .u64 y) := by
        rw [hBk.cell, tvc, List.getElem?_toArray, List.getElem?_append_left (by simp [pad_len]; omega), List.getElem?_map, hy]
        rfl
      have f2 := hBk.frozen k
      have hB9 : Blk (wr.setCell ⟨w.heap.size, k, none⟩ (.int .u64 x)) w.heap.size 49 (tvc (pad 8 (rl.take (k + 1))) (.slice FA n fc) (.slice HB m hd)) := by
        rw [← pad_step 8 k rl x hx (by omega), ← tvc_set k x (by rw [pad_len]; omega)]
        exact hBk.set_ _ _
      have hk9 : Keeps (fun b => b = w.heap.size) W1 (wr.setCell ⟨w.heap.size, k, none⟩ (.int .u64 x)) := keepq_set hkp
      have b0 : (0 : Int) ≤ (k : Int) := by omega
      have b1 : (k : Int) < (rn : Int) := by omega
      have b2 : (k : Int) < 8 := by omega
      have hzb := hBk.lt
      clear hc hx hy hF0 hH0 hr0 hBk hkp c0 hRb hP hO hR o2 
      go_wp2_with fail
      go_roundg (gk - 1)
      case measure => omega
      case rel => exact ⟨k + 1, by omega, by go_num, hB9, hk9⟩
    · have hke : k = min rl.length 8 := by omega
      have hBk : Blk wr w.heap.size 49 (tvc (pad 8 rl) (.slice FA n fc) (.slice HB m hd)) := by
        rw [hke, pad_take] at hBk
        exact hBk
      obtain ⟨r0, r1, r2, r3, r4, r5, r6, r7, hpad⟩ := len8 (pad_len 8 rl)
      have HPAD := Lib.hid hpad
      rw [hpad] at hBk
      have hP : Blk wr w.heap.size 49 #[.int .u64 r0, .int .u64 r1, .int .u64 r2, .int .u64 r3, .int .u64 r4, .int .u64 r5, .int .u64 r6, .int .u64 r7, .slice FA n fc, .slice HB m hd] := hBk
      have hO := hkp.blk hO (by omega)
      have hR := hkp.blk hR (by omega)
      have hF0 := hkp.sl hF0 (fun ad h => by have := hFb ad h; omega)
      have hH0 := hkp.sl hH0 (fun ad h => by have := hHb ad h; omega)
      have kb := hkp.below kb kb.size (fun x e _ => by subst e; exact Nat.le_refl _)
      have hk1 : ¬ ((k : Int) < (rn : Int)) := by omega
      skip
      have sF : Sl frc wr FA n fc (frames) := hF0
      clear hkp hr0 hpad o2 hke hlt hk hBk 
      obtain ⟨W3, rfl⟩ : ∃ W3, W3 = wr := ⟨_, rfl⟩
      have p0 : W3.cell? ⟨w.heap.size, 0, none⟩ = some (.int .u64 r0) := hP.cell 0
      have p1 : W3.cell? ⟨w.heap.size, 1, none⟩ = some (.int .u64 r1) := hP.cell 1
      have p2 : W3.cell? ⟨w.heap.size, 2, none⟩ = some (.int .u64 r2) := hP.cell 2
      have p3 : W3.cell? ⟨w.heap.size, 3, none⟩ = some (.int .u64 r3) := hP.cell 3
      have p4 : W3.cell? ⟨w.heap.size, 4, none⟩ = some (.int .u64 r4) := hP.cell 4
      have p5 : W3.cell? ⟨w.heap.size, 5, none⟩ = some (.int .u64 r5) := hP.cell 5
      have p6 : W3.cell? ⟨w.heap.size, 6, none⟩ = some (.int .u64 r6) := hP.cell 6
      have p7 : W3.cell? ⟨w.heap.size, 7, none⟩ = some (.int .u64 r7) := hP.cell 7
      have p8 : W3.cell? ⟨w.heap.size, 8, none⟩ = some (.slice FA n fc) := hP.cell 8
      have p9 : W3.cell? ⟨w.heap.size, 9, none⟩ = some (.slice HB m hd) := hP.cell 9
      have o0 : W3.cell? ⟨w.heap.size + 1, 0, none⟩ = some (.int .i64 1) := hO.cell 0
      have o1 : W3.cell? ⟨w.heap.size + 1, 1, none⟩ = some (.int .i64 nn) := hO.cell 1
      have o2 : W3.cell? ⟨w.heap.size + 1, 2, none⟩ = some (.slice RA rn rc) := hO.cell 2
      have z0 : W3.cell? ⟨w.heap.size + 1 + 1, 0, none⟩ = some (.int .u64 0) := hR.cell 0
      have z1 : W3.cell? ⟨w.heap.size + 1 + 1, 1, none⟩ = some (.int .u64 0) := hR.cell 1
      have z2 : W3.cell? ⟨w.heap.size + 1 + 1, 2, none⟩ = some (.int .u64 0) := hR.cell 2
      have z3 : W3.cell? ⟨w.heap.size + 1 + 1, 3, none⟩ = some (.int .u64 0) := hR.cell 3
      have z4 : W3.cell? ⟨w.heap.size + 1 + 1, 4, none⟩ = some (.int .u64 0) := hR.cell 4
      have z5 : W3.cell? ⟨w.heap.size + 1 + 1, 5, none⟩ = some (.int .u64 0) := hR.cell 5
      have z6 : W3.cell? ⟨w.heap.size + 1 + 1, 6, none⟩ = some (.int .u64 0) := hR.cell 6
      have z7 : W3.cell? ⟨w.heap.size + 1 + 1, 7, none⟩ = some (.int .u64 0) := hR.cell 7
      have z8 : W3.cell? ⟨w.heap.size + 1 + 1, 8, none⟩ = some (.slice none 0 0) := hR.cell 8
      have z9 : W3.cell? ⟨w.heap.size + 1 + 1, 9, none⟩ = some (.slice none 0 0) := hR.cell 9
      have zf0 := hR.frozen 0
      have zf1 := hR.frozen 1
      have zf2 := hR.frozen 2
      have zf3 := hR.frozen 3
      have zf4 := hR.frozen 4
      have zf5 := hR.frozen 5
      have zf6 := hR.frozen 6
      have zf7 := hR.frozen 7
      have zf8 := hR.frozen 8
      have zf9 := hR.frozen 9
      have hzP := hP.lt
      have hzO := hO.lt
      have hzR := hR.lt
      go_wp2_with fail
      refine bodyPost_ret (v := .agg #[.int .u64 r0, .int .u64 r1, .int .u64 r2, .int .u64 r3, .int .u64 r4, .int .u64 r5, .int .u64 r6, .int .u64 r7, .slice FA n fc, .slice HB m hd]) (by simp [results, Try.results16, go_sem, z0, z1, z2, z3, z4, z5, z6, z7, z8, z9, hzR]) rfl ⟨FA, fc, HB, hd, by rw [HPAD.out]; rfl, sF.ten (fun ad h => by have := hFb ad h; omega) _ _ _ _ _ _ _ _ _ _, hH0.ten (fun ad h => by have := hHb ad h; omega) _ _ _ _ _ _ _ _ _ _, (New.same (w := W3)).ten _ _ _ _ _ _ _ _ _ _ _, (New.same (w := W3)).ten _ _ _ _ _ _ _ _ _ _ _, below_ten kb (by omega) _ _ _ _ _ _ _ _ _ _⟩
set_option maxHeartbeats 4000000 in
set_option maxRecDepth 100000 in
theorem rdo_back_zb {w : World} {FA HB RA : Option Addr} {n fc m hd rn rc : Nat} {frames : List Fr} {hs rl : List Int} (hF : Sl frc w FA n fc frames) (hH : Sl us w HB m hd hs) (hr : Sl us w RA rn rc rl) (hn : n ≤ 10000) (hm : m ≤ 10000) (hrn : rn ≤ 10000) (hFb : ∀ ad, FA = some ad → ad.block < w.heap.size) (hHb : ∀ ad, HB = some ad → ad.block < w.heap.size) (a0 a1 a2 a3 a4 a5 a6 a7 : Int) (hRb : ∀ ad, RA = some ad → rl ≠ [] → ad.block < w.heap.size) (nn : Int) (hrc : 8 < rn) (hn0 : n = 0) : Calls Try.prog 16 #[.agg #[.int .u64 a0, .int .u64 a1, .int .u64 a2, .int .u64 a3, .int .u64 a4, .int .u64 a5, .int .u64 a6, .int .u64 a7, .slice FA n fc, .slice HB m hd], .agg #[.int .i64 1, .int .i64 nn, .slice RA rn rc]] w fun e w' => ∃ FA' fc' HB' hd', e = .returned (.agg (tvc (pad 8 rl) (.slice FA' n fc') (.slice HB' m hd'))) ∧ Sl frc w' FA' n fc' (frames) ∧ Sl us w' HB' m hd' hs ∧ New w w' FA FA' ∧ New w w' HB HB' ∧ Below w.heap.size w w' := by
  have t0 : ¬ ((0 : Int) < (n : Int)) := by omega
  clear hn0
  go_enter Try.func16, Try.ntmps16
  go_upto_region 1 with (fail)
  obtain ⟨W0, hW0, hP, hO, hR, hF0, hH0, hr0, kb⟩ : ∃ W0, ((w.alloc (.cells #[.int .u64 a0, .int .u64 a1, .int .u64 a2, .int .u64 a3, .int .u64 a4, .int .u64 a5, .int .u64 a6, .int .u64 a7, .slice FA n fc, .slice HB m hd] 49)).alloc (.cells #[.int .i64 1, .int .i64 nn, .slice RA rn rc] 30)).alloc (.cells #[.int .u64 0, .int .u64 0, .int .u64 0, .int .u64 0, .int .u64 0, .int .u64 0, .int .u64 0, .int .u64 0, .slice none 0 0, .slice none 0 0] 49) = W0 ∧ Blk W0 w.heap.size 49 #[.int .u64 a0, .int .u64 a1, .int .u64 a2, .int .u64 a3, .int .u64 a4, .int .u64 a5, .int .u64 a6, .int .u64 a7, .slice FA n fc, .slice HB m hd] ∧ Blk W0 (w.heap.size + 1) 30 #[.int .i64 1, .int .i64 nn, .slice RA rn rc] ∧ Blk W0 (w.heap.size + 1 + 1) 49 #[.int .u64 0, .int .u64 0, .int .u64 0, .int .u64 0, .int .u64 0, .int .u64 0, .int .u64 0, .int .u64 0, .slice none 0 0, .slice none 0 0] ∧ Sl frc W0 FA n fc frames ∧ Sl us W0 HB m hd hs ∧ Sl us W0 RA rn rc rl ∧ Below w.heap.size w W0 :=
    ⟨_, rfl, ((Blk.new w _ _).alloc _).alloc _, (by have := Blk.new (w.alloc (.cells #[.int .u64 a0, .int .u64 a1, .int .u64 a2, .int .u64 a3, .int .u64 a4, .int .u64 a5, .int .u64 a6, .int .u64 a7, .slice FA n fc, .slice HB m hd] 49)) 30 #[.int .i64 1, .int .i64 nn, .slice RA rn rc]; rw [World.size_alloc] at this; exact this.alloc _), (by have := Blk.new ((w.alloc (.cells #[.int .u64 a0, .int .u64 a1, .int .u64 a2, .int .u64 a3, .int .u64 a4, .int .u64 a5, .int .u64 a6, .int .u64 a7, .slice FA n fc, .slice HB m hd] 49)).alloc (.cells #[.int .i64 1, .int .i64 nn, .slice RA rn rc] 30)) 49 #[.int .u64 0, .int .u64 0, .int .u64 0, .int .u64 0, .int .u64 0, .int .u64 0, .int .u64 0, .int .u64 0, .slice none 0 0, .slice none 0 0]; rw [World.size_alloc, World.size_alloc] at this; exact this), ((hF.alloc _).alloc _).alloc _, ((hH.alloc _).alloc _).alloc _, ((hr.alloc _).alloc _).alloc _, bnew (bnew (bnew (brefl w) _) _) _⟩
  rw [hW0]
  clear hW0 hF hH hr
  have p0 : W0.cell? ⟨w.heap.size, 0, none⟩ = some (.int .u64 a0) := hP.cell 0
  have p1 : W0.cell? ⟨w.heap.size, 1, none⟩ = some (.int .u64 a1) := hP.cell 1
  have p2 : W0.cell? ⟨w.heap.size, 2, none⟩ = some (.int .u64 a2) := hP.cell 2
  have p3 : W0.cell? ⟨w.heap.size, 3, none⟩ = some (.int .u64 a3) := hP.cell 3
  have p4 : W0.cell? ⟨w.heap.size, 4, none⟩ = some (.int .u64 a4) := hP.cell 4
  have p5 : W0.cell? ⟨w.heap.size, 5, none⟩ = some (.int .u64 a5) := hP.cell 5
  have p6 : W0.cell? ⟨w.heap.size, 6, none⟩ = some (.int .u64 a6) := hP.cell 6
  have p7 : W0.cell? ⟨w.heap.size, 7, none⟩ = some (.int .u64 a7) := hP.cell 7
  have p8 : W0.cell? ⟨w.heap.size, 8, none⟩ = some (.slice FA n fc) := hP.cell 8
  have p9 : W0.cell? ⟨w.heap.size, 9, none⟩ = some (.slice HB m hd) := hP.cell 9
  have o0 : W0.cell? ⟨w.heap.size + 1, 0, none⟩ = some (.int .i64 1) := hO.cell 0
  have o1 : W0.cell? ⟨w.heap.size + 1, 1, none⟩ = some (.int .i64 nn) := hO.cell 1
  have o2 : W0.cell? ⟨w.heap.size + 1, 2, none⟩ = some (.slice RA rn rc) := hO.cell 2
  have pf0 := hP.frozen 0
  have pf1 := hP.frozen 1
  have pf2 := hP.frozen 2
  have pf3 := hP.frozen 3
  have pf4 := hP.frozen 4
  have pf5 := hP.frozen 5
  have pf6 := hP.frozen 6
  have pf7 := hP.frozen 7
  have pf8 := hP.frozen 8
  have hzP := hP.lt
  have hzO := hO.lt
  have hzR := hR.lt
  go_upto_region 14 with (fail)
  have hwz := hP.lt
  obtain ⟨W1, hW1, hP, hk1⟩ : ∃ W1, ((((((((W0.setCell ⟨w.heap.size, 0, none⟩ (.int .u64 0)).setCell ⟨w.heap.size, 1, none⟩ (.int .u64 0)).setCell ⟨w.heap.size, 2, none⟩ (.int .u64 0)).setCell ⟨w.heap.size, 3, none⟩ (.int .u64 0)).setCell ⟨w.heap.size, 4, none⟩ (.int .u64 0)).setCell ⟨w.heap.size, 5, none⟩ (.int .u64 0)).setCell ⟨w.heap.size, 6, none⟩ (.int .u64 0)).setCell ⟨w.heap.size, 7, none⟩ (.int .u64 0)) = W1 ∧ Blk W1 w.heap.size 49 (tvc (pad 8 (rl.take 0)) (.slice FA n fc) (.slice HB m hd)) ∧ Keeps (fun b => b = w.heap.size) W0 W1 :=
    ⟨_, rfl, (by have e : tvc (pad 8 (rl.take 0)) (.slice FA n fc) (.slice HB m hd) = #[.int .u64 0, .int .u64 0, .int .u64 0, .int .u64 0, .int .u64 0, .int .u64 0, .int .u64 0, .int .u64 0, .slice FA n fc, .slice HB m hd] := rfl; rw [e]; simpa using ((((((((hP).set_ 0 _).set_ 1 _).set_ 2 _).set_ 3 _).set_ 4 _).set_ 5 _).set_ 6 _).set_ 7 _), keepq_set (keepq_set (keepq_set (keepq_set (keepq_set (keepq_set (keepq_set (keepq_set (Keeps.refl _ _))))))))⟩
  rw [hW1]
  clear hW1 p0 p1 p2 p3 p4 p5 p6 p7 p8 p9 o0 o1 o2 pf0 pf1 pf2 pf3 pf4 pf5 pf6 pf7 pf8
  have hO := hk1.blk hO (by omega)
  have hR := hk1.blk hR (by omega)
  have hF0 := hk1.sl hF0 (fun ad h => by have := hFb ad h; omega)
  have hH0 := hk1.sl hH0 (fun ad h => by have := hHb ad h; omega)
  have hr0 := slw hk1 hr0 (fun ad h hne => by have := hRb ad h hne; omega)
  have kb := hk1.below kb kb.size (fun x e _ => by subst e; exact Nat.le_refl _)
  clear hk1 hzP hzO hzR
  go_wp2_with fail
  go_loopg [8] (min rl.length 8) (fun gk i wr => ∃ k : Nat, k + gk = min rl.length 8 ∧ i = .int .i64 k ∧ Blk wr w.heap.size 49 (tvc (pad 8 (rl.take k)) (.slice FA n fc) (.slice HB m hd)) ∧ Keeps (fun b => b = w.heap.size) W1 wr)
  case atStart => exact ⟨0, by omega, rfl, hP, Keeps.refl _ _⟩
  case round =>
    obtain ⟨k, hk, rfl, hBk, hkp⟩ := hrel
    have hrl := hr0.len
    have o2 : W1.cell? ⟨w.heap.size + 1, 2, none⟩ = some (.slice RA rn rc) := hO.cell 2
    have o2k := hkp.cell o2 (by omega)
    by_cases hlt : k < min rl.length 8
    · obtain ⟨b, o', rfl, hbs, hc⟩ := hr0.base us_len (by decide) (by omega)
      obtain ⟨x, hx⟩ : ∃ x, rl[k]? = some x := ⟨rl[k]'(by omega), List.getElem?_eq_getElem (i := k) _⟩
      have c0 : W1.cell? ⟨b, o' + k, none⟩ = some (.int .u64 x) := by have h0 := hc k x 0 _ hx rfl; simpa using h0
      have c1 := hkp.cell c0 (by have := hRb _ rfl (by intro e; rw [e] at hx; simp at hx); dsimp only at this; omega)
      obtain ⟨y, hy⟩ := pad_lt 8 k (rl.take k) (by omega)
      have c2 : wr.cell? ⟨w.heap.size, k, none⟩ = some (.int .u64 y) := by
        rw [hBk.cell, tvc, List.getElem?_toArray, List.getElem?_append_left (by simp [pad_len]; omega), List.getElem?_map, hy]
        rfl
      have f2 := hBk.frozen k
      have hB9 : Blk (wr.setCell ⟨w.heap.size, k, none⟩ (.int .u64 x)) w.heap.size 49 (tvc (pad 8 (rl.take (k + 1))) (.slice FA n fc) (.slice HB m hd)) := by
        rw [← pad_step 8 k rl x hx (by omega), ← tvc_set k x (by rw [pad_len]; omega)]
        exact hBk.set_ _ _
      have hk9 : Keeps (fun b => b = w.heap.size) W1 (wr.setCell ⟨w.heap.size, k, none⟩ (.int .u64 x)) := keepq_set hkp
      have b0 : (0 : Int) ≤ (k : Int) := by omega
      have b1 : (k : Int) < (rn : Int) := by omega
      have b2 : (k : Int) < 8 := by omega
      have hzb := hBk.lt
      clear hc hx hy hF0 hH0 hr0 hBk hkp c0 hRb hP hO hR o2 
      go_wp2_with fail
      go_roundg (gk - 1)
      case measure => omega
      case rel => exact ⟨k + 1, by omega, by go_num, hB9, hk9⟩
    · have hke : k = min rl.length 8 := by omega
      have hBk : Blk wr w.heap.size 49 (tvc (pad 8 rl) (.slice FA n fc) (.slice HB m hd)) := by
        rw [hke, pad_take] at hBk
        exact hBk
      obtain ⟨r0, r1, r2, r3, r4, r5, r6, r7, hpad⟩ := len8 (pad_len 8 rl)
      have HPAD := Lib.hid hpad
      rw [hpad] at hBk
      have hP : Blk wr w.heap.size 49 #[.int .u64 r0, .int .u64 r1, .int .u64 r2, .int .u64 r3, .int .u64 r4, .int .u64 r5, .int .u64 r6, .int .u64 r7, .slice FA n fc, .slice HB m hd] := hBk
      have hO := hkp.blk hO (by omega)
      have hR := hkp.blk hR (by omega)
      have hF0 := hkp.sl hF0 (fun ad h => by have := hFb ad h; omega)
      have hH0 := hkp.sl hH0 (fun ad h => by have := hHb ad h; omega)
      have kb := hkp.below kb kb.size (fun x e _ => by subst e; exact Nat.le_refl _)
      have hk0 : (k : Int) < (rn : Int) := by omega
      have hk1 : ¬ ((k : Int) < 8) := by omega
      have sF : Sl frc wr FA n fc (frames) := hF0
      clear hkp hr0 hpad o2 hke hlt hk hBk 
      obtain ⟨W3, rfl⟩ : ∃ W3, W3 = wr := ⟨_, rfl⟩
      have p0 : W3.cell? ⟨w.heap.size, 0, none⟩ = some (.int .u64 r0) := hP.cell 0
      have p1 : W3.cell? ⟨w.heap.size, 1, none⟩ = some (.int .u64 r1) := hP.cell 1
      have p2 : W3.cell? ⟨w.heap.size, 2, none⟩ = some (.int .u64 r2) := hP.cell 2
      have p3 : W3.cell? ⟨w.heap.size, 3, none⟩ = some (.int .u64 r3) := hP.cell 3
      have p4 : W3.cell? ⟨w.heap.size, 4, none⟩ = some (.int .u64 r4) := hP.cell 4
      have p5 : W3.cell? ⟨w.heap.size, 5, none⟩ = some (.int .u64 r5) := hP.cell 5
      have p6 : W3.cell? ⟨w.heap.size, 6, none⟩ = some (.int .u64 r6) := hP.cell 6
      have p7 : W3.cell? ⟨w.heap.size, 7, none⟩ = some (.int .u64 r7) := hP.cell 7
      have p8 : W3.cell? ⟨w.heap.size, 8, none⟩ = some (.slice FA n fc) := hP.cell 8
      have p9 : W3.cell? ⟨w.heap.size, 9, none⟩ = some (.slice HB m hd) := hP.cell 9
      have o0 : W3.cell? ⟨w.heap.size + 1, 0, none⟩ = some (.int .i64 1) := hO.cell 0
      have o1 : W3.cell? ⟨w.heap.size + 1, 1, none⟩ = some (.int .i64 nn) := hO.cell 1
      have o2 : W3.cell? ⟨w.heap.size + 1, 2, none⟩ = some (.slice RA rn rc) := hO.cell 2
      have z0 : W3.cell? ⟨w.heap.size + 1 + 1, 0, none⟩ = some (.int .u64 0) := hR.cell 0
      have z1 : W3.cell? ⟨w.heap.size + 1 + 1, 1, none⟩ = some (.int .u64 0) := hR.cell 1
      have z2 : W3.cell? ⟨w.heap.size + 1 + 1, 2, none⟩ = some (.int .u64 0) := hR.cell 2
      have z3 : W3.cell? ⟨w.heap.size + 1 + 1, 3, none⟩ = some (.int .u64 0) := hR.cell 3
      have z4 : W3.cell? ⟨w.heap.size + 1 + 1, 4, none⟩ = some (.int .u64 0) := hR.cell 4
      have z5 : W3.cell? ⟨w.heap.size + 1 + 1, 5, none⟩ = some (.int .u64 0) := hR.cell 5
      have z6 : W3.cell? ⟨w.heap.size + 1 + 1, 6, none⟩ = some (.int .u64 0) := hR.cell 6
      have z7 : W3.cell? ⟨w.heap.size + 1 + 1, 7, none⟩ = some (.int .u64 0) := hR.cell 7
      have z8 : W3.cell? ⟨w.heap.size + 1 + 1, 8, none⟩ = some (.slice none 0 0) := hR.cell 8
      have z9 : W3.cell? ⟨w.heap.size + 1 + 1, 9, none⟩ = some (.slice none 0 0) := hR.cell 9
      have zf0 := hR.frozen 0
      have zf1 := hR.frozen 1
      have zf2 := hR.frozen 2
      have zf3 := hR.frozen 3
      have zf4 := hR.frozen 4
      have zf5 := hR.frozen 5
      have zf6 := hR.frozen 6
      have zf7 := hR.frozen 7
      have zf8 := hR.frozen 8
      have zf9 := hR.frozen 9
      have hzP := hP.lt
      have hzO := hO.lt
      have hzR := hR.lt
      go_wp2_with fail
      refine bodyPost_ret (v := .agg #[.int .u64 r0, .int .u64 r1, .int .u64 r2, .int .u64 r3, .int .u64 r4, .int .u64 r5, .int .u64 r6, .int .u64 r7, .slice FA n fc, .slice HB m hd]) (by simp [results, Try.results16, go_sem, z0, z1, z2, z3, z4, z5, z6, z7, z8, z9, hzR]) rfl ⟨FA, fc, HB, hd, by rw [HPAD.out]; rfl, sF.ten (fun ad h => by have := hFb ad h; omega) _ _ _ _ _ _ _ _ _ _, hH0.ten (fun ad h => by have := hHb ad h; omega) _ _ _ _ _ _ _ _ _ _, (New.same (w := W3)).ten _ _ _ _ _ _ _ _ _ _ _, (New.same (w := W3)).ten _ _ _ _ _ _ _ _ _ _ _, below_ten kb (by omega) _ _ _ _ _ _ _ _ _ _⟩
set_option maxHeartbeats 4000000 in
set_option maxRecDepth 100000 in
theorem rdo_back_sa {w : World} {FA HB RA : Option Addr} {n fc m hd rn rc : Nat} {frames : List Fr} {hs rl : List Int} (hF : Sl frc w FA n fc frames) (hH : Sl us w HB m hd hs) (hr : Sl us w RA rn rc rl) (hn : n ≤ 10000) (hm : m ≤ 10000) (hrn : rn ≤ 10000) (hFb : ∀ ad, FA = some ad → ad.block < w.heap.size) (hHb : ∀ ad, HB = some ad → ad.block < w.heap.size) (a0 a1 a2 a3 a4 a5 a6 a7 : Int) (hRb : ∀ ad, RA = some ad → rl ≠ [] → ad.block < w.heap.size) (nn : Int) (hrc : rn ≤ 8) (q : Nat) (hq : n = q + 1) (h16 : ∀ f, f ∈ frames → f.r.length = 16) : Calls Try.prog 16 #[.agg #[.int .u64 a0, .int .u64 a1, .int .u64 a2, .int .u64 a3, .int .u64 a4, .int .u64 a5, .int .u64 a6, .int .u64 a7, .slice FA n fc, .slice HB m hd], .agg #[.int .i64 1, .int .i64 nn, .slice RA rn rc]] w fun e w' => ∃ FA' fc' HB' hd', e = .returned (.agg (tvc (pad 8 rl) (.slice FA' q fc') (.slice HB' m hd'))) ∧ Sl frc w' FA' q fc' (frames.take q) ∧ Sl us w' HB' m hd' hs ∧ New w w' FA FA' ∧ New w w' HB HB' ∧ Below w.heap.size w w' := by
  have t0 : (0 : Int) < (n : Int) := by omega
  have hsub : (n : Int) - 1 = (q : Int) := by omega
  have hqc : (q : Int) ≤ (fc : Int) := by have := hF.cap; omega
  have hqn : q ≤ n := by omega
  clear hq
  go_enter Try.func16, Try.ntmps16
  go_upto_region 1 with (fail)
  obtain ⟨W0, hW0, hP, hO, hR, hF0, hH0, hr0, kb⟩ : ∃ W0, ((w.alloc (.cells #[.int .u64 a0, .int .u64 a1, .int .u64 a2, .int .u64 a3, .int .u64 a4, .int .u64 a5, .int .u64 a6, .int .u64 a7, .slice FA n fc, .slice HB m hd] 49)).alloc (.cells #[.int .i64 1, .int .i64 nn, .slice RA rn rc] 30)).alloc (.cells #[.int .u64 0, .int .u64 0, .int .u64 0, .int .u64 0, .int .u64 0, .int .u64 0, .int .u64 0, .int .u64 0, .slice none 0 0, .slice none 0 0] 49) = W0 ∧ Blk W0 w.heap.size 49 #[.int .u64 a0, .int .u64 a1, .int .u64 a2, .int .u64 a3, .int .u64 a4, .int .u64 a5, .int .u64 a6, .int .u64 a7, .slice FA n fc, .slice HB m hd] ∧ Blk W0 (w.heap.size + 1) 30 #[.int .i64 1, .int .i64 nn, .slice RA rn rc] ∧ Blk W0 (w.heap.size + 1 + 1) 49 #[.int .u64 0, .int .u64 0, .int .u64 0, .int .u64 0, .int .u64 0, .int .u64 0, .int .u64 0, .int .u64 0, .slice none 0 0, .slice none 0 0] ∧ Sl frc W0 FA n fc frames ∧ Sl us W0 HB m hd hs ∧ Sl us W0 RA rn rc rl ∧ Below w.heap.size w W0 :=
    ⟨_, rfl, ((Blk.new w _ _).alloc _).alloc _, (by have := Blk.new (w.alloc (.cells #[.int .u64 a0, .int .u64 a1, .int .u64 a2, .int .u64 a3, .int .u64 a4, .int .u64 a5, .int .u64 a6, .int .u64 a7, .slice FA n fc, .slice HB m hd] 49)) 30 #[.int .i64 1, .int .i64 nn, .slice RA rn rc]; rw [World.size_alloc] at this; exact this.alloc _), (by have := Blk.new ((w.alloc (.cells #[.int .u64 a0, .int .u64 a1, .int .u64 a2, .int .u64 a3, .int .u64 a4, .int .u64 a5, .int .u64 a6, .int .u64 a7, .slice FA n fc, .slice HB m hd] 49)).alloc (.cells #[.int .i64 1, .int .i64 nn, .slice RA rn rc] 30)) 49 #[.int .u64 0, .int .u64 0, .int .u64 0, .int .u64 0, .int .u64 0, .int .u64 0, .int .u64 0, .int .u64 0, .slice none 0 0, .slice none 0 0]; rw [World.size_alloc, World.size_alloc] at this; exact this), ((hF.alloc _).alloc _).alloc _, ((hH.alloc _).alloc _).alloc _, ((hr.alloc _).alloc _).alloc _, bnew (bnew (bnew (brefl w) _) _) _⟩
  rw [hW0]
  clear hW0 hF hH hr
  have p0 : W0.cell? ⟨w.heap.size, 0, none⟩ = some (.int .u64 a0) := hP.cell 0
  have p1 : W0.cell? ⟨w.heap.size, 1, none⟩ = some (.int .u64 a1) := hP.cell 1
  have p2 : W0.cell? ⟨w.heap.size, 2, none⟩ = some (.int .u64 a2) := hP.cell 2
  have p3 : W0.cell? ⟨w.heap.size, 3, none⟩ = some (.int .u64 a3) := hP.cell 3
  have p4 : W0.cell? ⟨w.heap.size, 4, none⟩ = some (.int .u64 a4) := hP.cell 4
  have p5 : W0.cell? ⟨w.heap.size, 5, none⟩ = some (.int .u64 a5) := hP.cell 5
  have p6 : W0.cell? ⟨w.heap.size, 6, none⟩ = some (.int .u64 a6) := hP.cell 6
  have p7 : W0.cell? ⟨w.heap.size, 7, none⟩ = some (.int .u64 a7) := hP.cell 7
  have p8 : W0.cell? ⟨w.heap.size, 8, none⟩ = some (.slice FA n fc) := hP.cell 8
  have p9 : W0.cell? ⟨w.heap.size, 9, none⟩ = some (.slice HB m hd) := hP.cell 9
  have o0 : W0.cell? ⟨w.heap.size + 1, 0, none⟩ = some (.int .i64 1) := hO.cell 0
  have o1 : W0.cell? ⟨w.heap.size + 1, 1, none⟩ = some (.int .i64 nn) := hO.cell 1
  have o2 : W0.cell? ⟨w.heap.size + 1, 2, none⟩ = some (.slice RA rn rc) := hO.cell 2
  have pf0 := hP.frozen 0
  have pf1 := hP.frozen 1
  have pf2 := hP.frozen 2
  have pf3 := hP.frozen 3
  have pf4 := hP.frozen 4
  have pf5 := hP.frozen 5
  have pf6 := hP.frozen 6
  have pf7 := hP.frozen 7
  have pf8 := hP.frozen 8
  have hzP := hP.lt
  have hzO := hO.lt
  have hzR := hR.lt
  go_upto_region 14 with (fail)
  have hwz := hP.lt
  obtain ⟨W1, hW1, hP, hk1⟩ : ∃ W1, (((((((((W0.setCell ⟨w.heap.size, 8, none⟩ (.slice FA q fc)).setCell ⟨w.heap.size, 0, none⟩ (.int .u64 0)).setCell ⟨w.heap.size, 1, none⟩ (.int .u64 0)).setCell ⟨w.heap.size, 2, none⟩ (.int .u64 0)).setCell ⟨w.heap.size, 3, none⟩ (.int .u64 0)).setCell ⟨w.heap.size, 4, none⟩ (.int .u64 0)).setCell ⟨w.heap.size, 5, none⟩ (.int .u64 0)).setCell ⟨w.heap.size, 6, none⟩ (.int .u64 0)).setCell ⟨w.heap.size, 7, none⟩ (.int .u64 0)) = W1 ∧ Blk W1 w.heap.size 49 (tvc (pad 8 (rl.take 0)) (.slice FA q fc) (.slice HB m hd)) ∧ Keeps (fun b => b = w.heap.size) W0 W1 :=
    ⟨_, rfl, (by have e : tvc (pad 8 (rl.take 0)) (.slice FA q fc) (.slice HB m hd) = #[.int .u64 0, .int .u64 0, .int .u64 0, .int .u64 0, .int .u64 0, .int .u64 0, .int .u64 0, .int .u64 0, .slice FA q fc, .slice HB m hd] := rfl; rw [e]; simpa using ((((((((hP.set_ 8 _).set_ 0 _).set_ 1 _).set_ 2 _).set_ 3 _).set_ 4 _).set_ 5 _).set_ 6 _).set_ 7 _), keepq_set (keepq_set (keepq_set (keepq_set (keepq_set (keepq_set (keepq_set (keepq_set (keepq_set (Keeps.refl _ _)))))))))⟩
  rw [hW1]
  clear hW1 p0 p1 p2 p3 p4 p5 p6 p7 p8 p9 o0 o1 o2 pf0 pf1 pf2 pf3 pf4 pf5 pf6 pf7 pf8
  have hO := hk1.blk hO (by omega)
  have hR := hk1.blk hR (by omega)
  have hF0 := hk1.sl hF0 (fun ad h => by have := hFb ad h; omega)
  have hH0 := hk1.sl hH0 (fun ad h => by have := hHb ad h; omega)
  have hr0 := slw hk1 hr0 (fun ad h hne => by have := hRb ad h hne; omega)
  have kb := hk1.below kb kb.size (fun x e _ => by subst e; exact Nat.le_refl _)
  clear hk1 hzP hzO hzR
  go_wp2_with fail
  go_loopg [8] (min rl.length 8) (fun gk i wr => ∃ k : Nat, k + gk = min rl.length 8 ∧ i = .int .i64 k ∧ Blk wr w.heap.size 49 (tvc (pad 8 (rl.take k)) (.slice FA q fc) (.slice HB m hd)) ∧ Keeps (fun b => b = w.heap.size) W1 wr)
  case atStart => exact ⟨0, by omega, rfl, hP, Keeps.refl _ _⟩
  case round =>
    obtain ⟨k, hk, rfl, hBk, hkp⟩ := hrel
    have hrl := hr0.len
    have o2 : W1.cell? ⟨w.heap.size + 1, 2, none⟩ = some (.slice RA rn rc) := hO.cell 2
    have o2k := hkp.cell o2 (by omega)
    by_cases hlt : k < min rl.length 8
    · obtain ⟨b, o', rfl, hbs, hc⟩ := hr0.base us_len (by decide) (by omega)
      obtain ⟨x, hx⟩ : ∃ x, rl[k]? = some x := ⟨rl[k]'(by omega), List.getElem?_eq_getElem (i := k) _⟩
      have c0 : W1.cell? ⟨b, o' + k, none⟩ = some (.int .u64 x) := by have h0 := hc k x 0 _ hx rfl; simpa using h0
      have c1 := hkp.cell c0 (by have := hRb _ rfl (by intro e; rw [e] at hx; simp at hx); dsimp only at this; omega)
      obtain ⟨y, hy⟩ := pad_lt 8 k (rl.take k) (by omega)
      have c2 : wr.cell? ⟨w.heap.size, k, none⟩ = some (.int .u64 y) := by
        rw [hBk.cell, tvc, List.getElem?_toArray, List.getElem?_append_left (by simp [pad_len]; omega), List.getElem?_map, hy]
        rfl
      have f2 := hBk.frozen k
      have hB9 : Blk (wr.setCell ⟨w.heap.size, k, none⟩ (.int .u64 x)) w.heap.size 49 (tvc (pad 8 (rl.take (k + 1))) (.slice FA q fc) (.slice HB m hd)) := by
        rw [← pad_step 8 k rl x hx (by omega), ← tvc_set k x (by rw [pad_len]; omega)]
        exact hBk.set_ _ _
      have hk9 : Keeps (fun b => b = w.heap.size) W1 (wr.setCell ⟨w.heap.size, k, none⟩ (.int .u64 x)) := keepq_set hkp
      have b0 : (0 : Int) ≤ (k : Int) := by omega
      have b1 : (k : Int) < (rn : Int) := by omega
      have b2 : (k : Int) < 8 := by omega
      have hzb := hBk.lt
      clear hc hx hy hF0 hH0 hr0 hBk hkp c0 hRb hP hO hR o2 hsub 
      go_wp2_with fail
      go_roundg (gk - 1)
      case measure => omega
      case rel => exact ⟨k + 1, by omega, by go_num, hB9, hk9⟩
    · have hke : k = min rl.length 8 := by omega
      have hBk : Blk wr w.heap.size 49 (tvc (pad 8 rl) (.slice FA q fc) (.slice HB m hd)) := by
        rw [hke, pad_take] at hBk
        exact hBk
      obtain ⟨r0, r1, r2, r3, r4, r5, r6, r7, hpad⟩ := len8 (pad_len 8 rl)
      have HPAD := Lib.hid hpad
      rw [hpad] at hBk
      have hP : Blk wr w.heap.size 49 #[.int .u64 r0, .int .u64 r1, .int .u64 r2, .int .u64 r3, .int .u64 r4, .int .u64 r5, .int .u64 r6, .int .u64 r7, .slice FA q fc, .slice HB m hd] := hBk
      have hO := hkp.blk hO (by omega)
      have hR := hkp.blk hR (by omega)
      have hF0 := hkp.sl hF0 (fun ad h => by have := hFb ad h; omega)
      have hH0 := hkp.sl hH0 (fun ad h => by have := hHb ad h; omega)
      have kb := hkp.below kb kb.size (fun x e _ => by subst e; exact Nat.le_refl _)
      have hk1 : ¬ ((k : Int) < (rn : Int)) := by omega
      skip
      have sF : Sl frc wr FA q fc (frames.take q) := Sl.upto (fun f hf => frc_len f (h16 f hf)) hF0 hqn
      clear hkp hr0 hpad o2 hke hlt hk hBk hsub 
      obtain ⟨W3, rfl⟩ : ∃ W3, W3 = wr := ⟨_, rfl⟩
      have p0 : W3.cell? ⟨w.heap.size, 0, none⟩ = some (.int .u64 r0) := hP.cell 0
      have p1 : W3.cell? ⟨w.heap.size, 1, none⟩ = some (.int .u64 r1) := hP.cell 1
      have p2 : W3.cell? ⟨w.heap.size, 2, none⟩ = some (.int .u64 r2) := hP.cell 2
      have p3 : W3.cell? ⟨w.heap.size, 3, none⟩ = some (.int .u64 r3) := hP.cell 3
      have p4 : W3.cell? ⟨w.heap.size, 4, none⟩ = some (.int .u64 r4) := hP.cell 4
      have p5 : W3.cell? ⟨w.heap.size, 5, none⟩ = some (.int .u64 r5) := hP.cell 5
      have p6 : W3.cell? ⟨w.heap.size, 6, none⟩ = some (.int .u64 r6) := hP.cell 6
      have p7 : W3.cell? ⟨w.heap.size, 7, none⟩ = some (.int .u64 r7) := hP.cell 7
      have p8 : W3.cell? ⟨w.heap.size, 8, none⟩ = some (.slice FA q fc) := hP.cell 8
      have p9 : W3.cell? ⟨w.heap.size, 9, none⟩ = some (.slice HB m hd) := hP.cell 9
      have o0 : W3.cell? ⟨w.heap.size + 1, 0, none⟩ = some (.int .i64 1) := hO.cell 0
      have o1 : W3.cell? ⟨w.heap.size + 1, 1, none⟩ = some (.int .i64 nn) := hO.cell 1
      have o2 : W3.cell? ⟨w.heap.size + 1, 2, none⟩ = some (.slice RA rn rc) := hO.cell 2
      have z0 : W3.cell? ⟨w.heap.size + 1 + 1, 0, none⟩ = some (.int .u64 0) := hR.cell 0
      have z1 : W3.cell? ⟨w.heap.size + 1 + 1, 1, none⟩ = some (.int .u64 0) := hR.cell 1
      have z2 : W3.cell? ⟨w.heap.size + 1 + 1, 2, none⟩ = some (.int .u64 0) := hR.cell 2
      have z3 : W3.cell? ⟨w.heap.size + 1 + 1, 3, none⟩ = some (.int .u64 0) := hR.cell 3
      have z4 : W3.cell? ⟨w.heap.size + 1 + 1, 4, none⟩ = some (.int .u64 0) := hR.cell 4
      have z5 : W3.cell? ⟨w.heap.size + 1 + 1, 5, none⟩ = some (.int .u64 0) := hR.cell 5
      have z6 : W3.cell? ⟨w.heap.size + 1 + 1, 6, none⟩ = some (.int .u64 0) := hR.cell 6
      have z7 : W3.cell? ⟨w.heap.size + 1 + 1, 7, none⟩ = some (.int .u64 0) := hR.cell 7
      have z8 : W3.cell? ⟨w.heap.size + 1 + 1, 8, none⟩ = some (.slice none 0 0) := hR.cell 8
      have z9 : W3.cell? ⟨w.heap.size + 1 + 1, 9, none⟩ = some (.slice none 0 0) := hR.cell 9
      have zf0 := hR.frozen 0
      have zf1 := hR.frozen 1
      have zf2 := hR.frozen 2
      have zf3 := hR.frozen 3
      have zf4 := hR.frozen 4
      have zf5 := hR.frozen 5
      have zf6 := hR.frozen 6
      have zf7 := hR.frozen 7
      have zf8 := hR.frozen 8
      have zf9 := hR.frozen 9
      have hzP := hP.lt
      have hzO := hO.lt
      have hzR := hR.lt
      go_wp2_with fail
      refine bodyPost_ret (v := .agg #[.int .u64 r0, .int .u64 r1, .int .u64 r2, .int .u64 r3, .int .u64 r4, .int .u64 r5, .int .u64 r6, .int .u64 r7, .slice FA q fc, .slice HB m hd]) (by simp [results, Try.results16, go_sem, z0, z1, z2, z3, z4, z5, z6, z7, z8, z9, hzR]) rfl ⟨FA, fc, HB, hd, by rw [HPAD.out]; rfl, sF.ten (fun ad h => by have := hFb ad h; omega) _ _ _ _ _ _ _ _ _ _, hH0.ten (fun ad h => by have := hHb ad h; omega) _ _ _ _ _ _ _ _ _ _, (New.same (w := W3)).ten _ _ _ _ _ _ _ _ _ _ _, (New.same (w := W3)).ten _ _ _ _ _ _ _ _ _ _ _, below_ten kb (by omega) _ _ _ _ _ _ _ _ _ _⟩
set_option maxHeartbeats 4000000 in
set_option maxRecDepth 100000 in
theorem rdo_back_sb {w : World} {FA HB RA : Option Addr} {n fc m hd rn rc : Nat} {frames : List Fr} {hs rl : List Int} (hF : Sl frc w FA n fc frames) (hH : Sl us w HB m hd hs) (hr : Sl us w RA rn rc rl) (hn : n ≤ 10000) (hm : m ≤ 10000) (hrn : rn ≤ 10000) (hFb : ∀ ad, FA = some ad → ad.block < w.heap.size) (hHb : ∀ ad, HB = some ad → ad.block < w.heap.size) (a0 a1 a2 a3 a4 a5 a6 a7 : Int) (hRb : ∀ ad, RA = some ad → rl ≠ [] → ad.block < w.heap.size) (nn : Int) (hrc : 8 < rn) (q : Nat) (hq : n = q + 1) (h16 : ∀ f, f ∈ frames → f.r.length = 16) : Calls Try.prog 16 #[.agg #[.int .u64 a0, .int .u64 a1, .int .u64 a2, .int .u64 a3, .int .u64 a4, .int .u64 a5, .int .u64 a6, .int .u64 a7, .slice FA n fc, .slice HB m hd], .agg #[.int .i64 1, .int .i64 nn, .slice RA rn rc]] w fun e w' => ∃ FA' fc' HB' hd', e = .returned (.agg (tvc (pad 8 rl) (.slice FA' q fc') (.slice HB' m hd'))) ∧ Sl frc w' FA' q fc' (frames.take q) ∧ Sl us w' HB' m hd' hs ∧ New w w' FA FA' ∧ New w w' HB HB' ∧ Below w.heap.size w w' := by
  have t0 : (0 : Int) < (n : Int) := by omega
  have hsub : (n : Int) - 1 = (q : Int) := by omega
  have hqc : (q : Int) ≤ (fc : Int) := by have := hF.cap; omega
  have hqn : q ≤ n := by omega
  clear hq
  go_enter Try.func16, Try.ntmps16
  go_upto_region 1 with (fail)
  obtain ⟨W0, hW0, hP, hO, hR, hF0, hH0, hr0, kb⟩ : ∃ W0, ((w.alloc (.cells #[.int .u64 a0, .int .u64 a1, .int .u64 a2, .int .u64 a3, .int .u64 a4, .int .u64 a5, .int .u64 a6, .int .u64 a7, .slice FA n fc, .slice HB m hd] 49)).alloc (.cells #[.int .i64 1, .int .i64 nn, .slice RA rn rc] 30)).alloc (.cells #[.int .u64 0, .int .u64 0, .int .u64 0, .int .u64 0, .int .u64 0, .int .u64 0, .int .u64 0, .int .u64 0, .slice none 0 0, .slice none 0 0] 49) = W0 ∧ Blk W0 w.heap.size 49 #[.int .u64 a0, .int .u64 a1, .int .u64 a2, .int .u64 a3, .int .u64 a4, .int .u64 a5, .int .u64 a6, .int .u64 a7, .slice FA n fc, .slice HB m hd] ∧ Blk W0 (w.heap.size + 1) 30 #[.int .i64 1, .int .i64 nn, .slice RA rn rc] ∧ Blk W0 (w.heap.size + 1 + 1) 49 #[.int .u64 0, .int .u64 0, .int .u64 0, .int .u64 0, .int .u64 0, .int .u64 0, .int .u64 0, .int .u64 0, .slice none 0 0, .slice none 0 0] ∧ Sl frc W0 FA n fc frames ∧ Sl us W0 HB m hd hs ∧ Sl us W0 RA rn rc rl ∧ Below w.heap.size w W0 :=
    ⟨_, rfl, ((Blk.new w _ _).alloc _).alloc _, (by have := Blk.new (w.alloc (.cells #[.int .u64 a0, .int .u64 a1, .int .u64 a2, .int .u64 a3, .int .u64 a4, .int .u64 a5, .int .u64 a6, .int .u64 a7, .slice FA n fc, .slice HB m hd] 49)) 30 #[.int .i64 1, .int .i64 nn, .slice RA rn rc]; rw [World.size_alloc] at this; exact this.alloc _), (by have := Blk.new ((w.alloc (.cells #[.int .u64 a0, .int .u64 a1, .int .u64 a2, .int .u64 a3, .int .u64 a4, .int .u64 a5, .int .u64 a6, .int .u64 a7, .slice FA n fc, .slice HB m hd] 49)).alloc (.cells #[.int .i64 1, .int .i64 nn, .slice RA rn rc] 30)) 49 #[.int .u64 0, .int .u64 0, .int .u64 0, .int .u64 0, .int .u64 0, .int .u64 0, .int .u64 0, .int .u64 0, .slice none 0 0, .slice none 0 0]; rw [World.size_alloc, World.size_alloc] at this; exact this), ((hF.alloc _).alloc _).alloc _, ((hH.alloc _).alloc _).alloc _, ((hr.alloc _).alloc _).alloc _, bnew (bnew (bnew (brefl w) _) _) _⟩
  rw [hW0]
  clear hW0 hF hH hr
  have p0 : W0.cell? ⟨w.heap.size, 0, none⟩ = some (.int .u64 a0) := hP.cell 0
  have p1 : W0.cell? ⟨w.heap.size, 1, none⟩ = some (.int .u64 a1) := hP.cell 1
  have p2 : W0.cell? ⟨w.heap.size, 2, none⟩ = some (.int .u64 a2) := hP.cell 2
  have p3 : W0.cell? ⟨w.heap.size, 3, none⟩ = some (.int .u64 a3) := hP.cell 3
  have p4 : W0.cell? ⟨w.heap.size, 4, none⟩ = some (.int .u64 a4) := hP.cell 4
  have p5 : W0.cell? ⟨w.heap.size, 5, none⟩ = some (.int .u64 a5) := hP.cell 5
  have p6 : W0.cell? ⟨w.heap.size, 6, none⟩ = some (.int .u64 a6) := hP.cell 6
  have p7 : W0.cell? ⟨w.heap.size, 7, none⟩ = some (.int .u64 a7) := hP.cell 7
  have p8 : W0.cell? ⟨w.heap.size, 8, none⟩ = some (.slice FA n fc) := hP.cell 8
  have p9 : W0.cell? ⟨w.heap.size, 9, none⟩ = some (.slice HB m hd) := hP.cell 9
  have o0 : W0.cell? ⟨w.heap.size + 1, 0, none⟩ = some (.int .i64 1) := hO.cell 0
  have o1 : W0.cell? ⟨w.heap.size + 1, 1, none⟩ = some (.int .i64 nn) := hO.cell 1
  have o2 : W0.cell? ⟨w.heap.size + 1, 2, none⟩ = some (.slice RA rn rc) := hO.cell 2
  have pf0 := hP.frozen 0
  have pf1 := hP.frozen 1
  have pf2 := hP.frozen 2
  have pf3 := hP.frozen 3
  have pf4 := hP.frozen 4
  have pf5 := hP.frozen 5
  have pf6 := hP.frozen 6
  have pf7 := hP.frozen 7
  have pf8 := hP.frozen 8
  have hzP := hP.lt
  have hzO := hO.lt
  have hzR := hR.lt
  go_upto_region 14 with (fail)
  have hwz := hP.lt
  obtain ⟨W1, hW1, hP, hk1⟩ : ∃ W1, (((((((((W0.setCell ⟨w.heap.size, 8, none⟩ (.slice FA q fc)).setCell ⟨w.heap.size, 0, none⟩ (.int .u64 0)).setCell ⟨w.heap.size, 1, none⟩ (.int .u64 0)).setCell ⟨w.heap.size, 2, none⟩ (.int .u64 0)).setCell ⟨w.heap.size, 3, none⟩ (.int .u64 0)).setCell ⟨w.heap.size, 4, none⟩ (.int .u64 0)).setCell ⟨w.heap.size, 5, none⟩ (.int .u64 0)).setCell ⟨w.heap.size, 6, none⟩ (.int .u64 0)).setCell ⟨w.heap.size, 7, none⟩ (.int .u64 0)) = W1 ∧ Blk W1 w.heap.size 49 (tvc (pad 8 (rl.take 0)) (.slice FA q fc) (.slice HB m hd)) ∧ Keeps (fun b => b = w.heap.size) W0 W1 :=
    ⟨_, rfl, (by have e : tvc (pad 8 (rl.take 0)) (.slice FA q fc) (.slice HB m hd) = #[.int .u64 0, .int .u64 0, .int .u64 0, .int .u64 0, .int .u64 0, .int .u64 0, .int .u64 0, .int .u64 0, .slice FA q fc, .slice HB m hd] := rfl; rw [e]; simpa using ((((((((hP.set_ 8 _).set_ 0 _).set_ 1 _).set_ 2 _).set_ 3 _).set_ 4 _).set_ 5 _).set_ 6 _).set_ 7 _), keepq_set (keepq_set (keepq_set (keepq_set (keepq_set (keepq_set (keepq_set (keepq_set (keepq_set (Keeps.refl _ _)))))))))⟩
  rw [hW1]
  clear hW1 p0 p1 p2 p3 p4 p5 p6 p7 p8 p9 o0 o1 o2 pf0 pf1 pf2 pf3 pf4 pf5 pf6 pf7 pf8
  have hO := hk1.blk hO (by omega)
  have hR := hk1.blk hR (by omega)
  have hF0 := hk1.sl hF0 (fun ad h => by have := hFb ad h; omega)
  have hH0 := hk1.sl hH0 (fun ad h => by have := hHb ad h; omega)
  have hr0 := slw hk1 hr0 (fun ad h hne => by have := hRb ad h hne; omega)
  have kb := hk1.below kb kb.size (fun x e _ => by subst e; exact Nat.le_refl _)
  clear hk1 hzP hzO hzR
  go_wp2_with fail
  go_loopg [8] (min rl.length 8) (fun gk i wr => ∃ k : Nat, k + gk = min rl.length 8 ∧ i = .int .i64 k ∧ Blk wr w.heap.size 49 (tvc (pad 8 (rl.take k)) (.slice FA q fc) (.slice HB m hd)) ∧ Keeps (fun b => b = w.heap.size) W1 wr)
  case atStart => exact ⟨0, by omega, rfl, hP, Keeps.refl _ _⟩
  case round =>
    obtain ⟨k, hk, rfl, hBk, hkp⟩ := hrel
    have hrl := hr0.len
    have o2 : W1.cell? ⟨w.heap.size + 1, 2, none⟩ = some (.slice RA rn rc) := hO.cell 2
    have o2k := hkp.cell o2 (by omega)
    by_cases hlt : k < min rl.length 8
    · obtain ⟨b, o', rfl, hbs, hc⟩ := hr0.base us_len (by decide) (by omega)
      obtain ⟨x, hx⟩ : ∃ x, rl[k]? = some x := ⟨rl[k]'(by omega), List.getElem?_eq_getElem (i := k) _⟩
      have c0 : W1.cell? ⟨b, o' + k, none⟩ = some (.int .u64 x) := by have h0 := hc k x 0 _ hx rfl; simpa using h0
      have c1 := hkp.cell c0 (by have := hRb _ rfl (by intro e; rw [e] at hx; simp at hx); dsimp only at this; omega)
      obtain ⟨y, hy⟩ := pad_lt 8 k (rl.take k) (by omega)
      have c2 : wr.cell? ⟨w.heap.size, k, none⟩ = some (.int .u64 y) := by
        rw [hBk.cell, tvc, List.getElem?_toArray, List.getElem?_append_left (by simp [pad_len]; omega), List.getElem?_map, hy]
        rfl
      have f2 := hBk.frozen k
      have hB9 : Blk (wr.setCell ⟨w.heap.size, k, none⟩ (.int .u64 x)) w.heap.size 49 (tvc (pad 8 (rl.take (k + 1))) (.slice FA q fc) (.slice HB m hd)) := by
        rw [← pad_step 8 k rl x hx (by omega), ← tvc_set k x (by rw [pad_len]; omega)]
        exact hBk.set_ _ _
      have hk9 : Keeps (fun b => b = w.heap.size) W1 (wr.setCell ⟨w.heap.size, k, none⟩ (.int .u64 x)) := keepq_set hkp
      have b0 : (0 : Int) ≤ (k : Int) := by omega
      have b1 : (k : Int) < (rn : Int) := by omega
      have b2 : (k : Int) < 8 := by omega
      have hzb := hBk.lt
      clear hc hx hy hF0 hH0 hr0 hBk hkp c0 hRb hP hO hR o2 hsub 
      go_wp2_with fail
      go_roundg (gk - 1)
      case measure => omega
      case rel => exact ⟨k + 1, by omega, by go_num, hB9, hk9⟩
    · have hke : k = min rl.length 8 := by omega
      have hBk : Blk wr w.heap.size 49 (tvc (pad 8 rl) (.slice FA q fc) (.slice HB m hd)) := by
        rw [hke, pad_take] at hBk
        exact hBk
      obtain ⟨r0, r1, r2, r3, r4, r5, r6, r7, hpad⟩ := len8 (pad_len 8 rl)
      have HPAD := Lib.hid hpad
      rw [hpad] at hBk
      have hP : Blk wr w.heap.size 49 #[.int .u64 r0, .int .u64 r1, .int .u64 r2, .int .u64 r3, .int .u64 r4, .int .u64 r5, .int .u64 r6, .int .u64 r7, .slice FA q fc, .slice HB m hd] := hBk
      have hO := hkp.blk hO (by omega)
      have hR := hkp.blk hR (by omega)
      have hF0 := hkp.sl hF0 (fun ad h => by have := hFb ad h; omega)
      have hH0 := hkp.sl hH0 (fun ad h => by have := hHb ad h; omega)
      have kb := hkp.below kb kb.size (fun x e _ => by subst e; exact Nat.le_refl _)
      have hk0 : (k : Int) < (rn : Int) := by omega
      have hk1 : ¬ ((k : Int) < 8) := by omega
      have sF : Sl frc wr FA q fc (frames.take q) := Sl.upto (fun f hf => frc_len f (h16 f hf)) hF0 hqn
      clear hkp hr0 hpad o2 hke hlt hk hBk hsub 
      obtain ⟨W3, rfl⟩ : ∃ W3, W3 = wr := ⟨_, rfl⟩
      have p0 : W3.cell? ⟨w.heap.size, 0, none⟩ = some (.int .u64 r0) := hP.cell 0
      have p1 : W3.cell? ⟨w.heap.size, 1, none⟩ = some (.int .u64 r1) := hP.cell 1
      have p2 : W3.cell? ⟨w.heap.size, 2, none⟩ = some (.int .u64 r2) := hP.cell 2
      have p3 : W3.cell? ⟨w.heap.size, 3, none⟩ = some (.int .u64 r3) := hP.cell 3
      have p4 : W3.cell? ⟨w.heap.size, 4, none⟩ = some (.int .u64 r4) := hP.cell 4
      have p5 : W3.cell? ⟨w.heap.size, 5, none⟩ = some (.int .u64 r5) := hP.cell 5
      have p6 : W3.cell? ⟨w.heap.size, 6, none⟩ = some (.int .u64 r6) := hP.cell 6
      have p7 : W3.cell? ⟨w.heap.size, 7, none⟩ = some (.int .u64 r7) := hP.cell 7
      have p8 : W3.cell? ⟨w.heap.size, 8, none⟩ = some (.slice FA q fc) := hP.cell 8
      have p9 : W3.cell? ⟨w.heap.size, 9, none⟩ = some (.slice HB m hd) := hP.cell 9
      have o0 : W3.cell? ⟨w.heap.size + 1, 0, none⟩ = some (.int .i64 1) := hO.cell 0
      have o1 : W3.cell? ⟨w.heap.size + 1, 1, none⟩ = some (.int .i64 nn) := hO.cell 1
      have o2 : W3.cell? ⟨w.heap.size + 1, 2, none⟩ = some (.slice RA rn rc) := hO.cell 2
      have z0 : W3.cell? ⟨w.heap.size + 1 + 1, 0, none⟩ = some (.int .u64 0) := hR.cell 0
      have z1 : W3.cell? ⟨w.heap.size + 1 + 1, 1, none⟩ = some (.int .u64 0) := hR.cell 1
      have z2 : W3.cell? ⟨w.heap.size + 1 + 1, 2, none⟩ = some (.int .u64 0) := hR.cell 2
      have z3 : W3.cell? ⟨w.heap.size + 1 + 1, 3, none⟩ = some (.int .u64 0) := hR.cell 3
      have z4 : W3.cell? ⟨w.heap.size + 1 + 1, 4, none⟩ = some (.int .u64 0) := hR.cell 4
      have z5 : W3.cell? ⟨w.heap.size + 1 + 1, 5, none⟩ = some (.int .u64 0) := hR.cell 5
      have z6 : W3.cell? ⟨w.heap.size + 1 + 1, 6, none⟩ = some (.int .u64 0) := hR.cell 6
      have z7 : W3.cell? ⟨w.heap.size + 1 + 1, 7, none⟩ = some (.int .u64 0) := hR.cell 7
      have z8 : W3.cell? ⟨w.heap.size + 1 + 1, 8, none⟩ = some (.slice none 0 0) := hR.cell 8
      have z9 : W3.cell? ⟨w.heap.size + 1 + 1, 9, none⟩ = some (.slice none 0 0) := hR.cell 9
      have zf0 := hR.frozen 0
      have zf1 := hR.frozen 1
      have zf2 := hR.frozen 2
      have zf3 := hR.frozen 3
      have zf4 := hR.frozen 4
      have zf5 := hR.frozen 5
      have zf6 := hR.frozen 6
      have zf7 := hR.frozen 7
      have zf8 := hR.frozen 8
      have zf9 := hR.frozen 9
      have hzP := hP.lt
      have hzO := hO.lt
      have hzR := hR.lt
      go_wp2_with fail
      refine bodyPost_ret (v := .agg #[.int .u64 r0, .int .u64 r1, .int .u64 r2, .int .u64 r3, .int .u64 r4, .int .u64 r5, .int .u64 r6, .int .u64 r7, .slice FA q fc, .slice HB m hd]) (by simp [results, Try.results16, go_sem, z0, z1, z2, z3, z4, z5, z6, z7, z8, z9, hzR]) rfl ⟨FA, fc, HB, hd, by rw [HPAD.out]; rfl, sF.ten (fun ad h => by have := hFb ad h; omega) _ _ _ _ _ _ _ _ _ _, hH0.ten (fun ad h => by have := hHb ad h; omega) _ _ _ _ _ _ _ _ _ _, (New.same (w := W3)).ten _ _ _ _ _ _ _ _ _ _ _, (New.same (w := W3)).ten _ _ _ _ _ _ _ _ _ _ _, below_ten kb (by omega) _ _ _ _ _ _ _ _ _ _⟩
end Go.Proofs.Ytclhlgeicfhdiaa
