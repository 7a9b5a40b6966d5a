/- Threads: the document's step: Call. -/
import Derived.Test.YtclhlgeicfhdiaaThreadJ
namespace Go.Proofs.Ytclhlgeicfhdiaa
set_option linter.unusedVariables false
set_option linter.unusedSimpArgs false
open Go.RowKit
set_option maxHeartbeats 4000000 in
set_option maxRecDepth 100000 in
theorem rdo_calla {w : World} {FA HB RA : Option Addr} {n fc m hd rn rc : Nat} {frames : List Fr} {hs rl : List Int} (hF : Sl frc w FA n fc frames) (hH : Sl us w HB m hd hs) (hr : Sl us w RA rn rc rl) (hn : n ≤ 10000) (hm : m ≤ 10000) (hrn : rn ≤ 10000) (hFb : ∀ ad, FA = some ad → ad.block < w.heap.size) (hHb : ∀ ad, HB = some ad → ad.block < w.heap.size) (a0 a1 a2 a3 a4 a5 a6 a7 : Int) (nn : Int) (hRb : ∀ ad, RA = some ad → rl ≠ [] → ad.block < w.heap.size) (h16 : ∀ f, f ∈ frames → f.r.length = 16) (hrc : rn ≤ 16) : Calls Try.prog 16 #[.agg #[.int .u64 a0, .int .u64 a1, .int .u64 a2, .int .u64 a3, .int .u64 a4, .int .u64 a5, .int .u64 a6, .int .u64 a7, .slice FA n fc, .slice HB m hd], .agg #[.int .i64 0, .int .i64 nn, .slice RA rn rc]] w fun e w' => ∃ FA' fc' HB' hd', e = .returned (.agg #[.int .u64 a0, .int .u64 a1, .int .u64 a2, .int .u64 a3, .int .u64 a4, .int .u64 a5, .int .u64 a6, .int .u64 a7, .slice FA' (n + 1) fc', .slice HB' (m) hd']) ∧ Sl frc w' FA' (n + 1) fc' (frames ++ [⟨nn, 0, pad 16 rl⟩]) ∧ Sl us w' HB' (m) hd' (hs) ∧ New w w' FA FA' ∧ New w w' HB HB' ∧ Below w.heap.size w w' := by
  obtain ⟨i0, E⟩ := elem_f
  go_enter Try.func16, Try.ntmps16
  go_upto_region 1 with (fail)
  obtain ⟨W0, hW0, hP, hO, hR, hF0, hH0, hr0, kb⟩ : ∃ W0, ((w.alloc (.cells #[.int .u64 a0, .int .u64 a1, .int .u64 a2, .int .u64 a3, .int .u64 a4, .int .u64 a5, .int .u64 a6, .int .u64 a7, .slice FA n fc, .slice HB m hd] 49)).alloc (.cells #[.int .i64 0, .int .i64 nn, .slice RA rn rc] 30)).alloc (.cells #[.int .u64 0, .int .u64 0, .int .u64 0, .int .u64 0, .int .u64 0, .int .u64 0, .int .u64 0, .int .u64 0, .slice none 0 0, .slice none 0 0] 49) = W0 ∧ Blk W0 w.heap.size 49 #[.int .u64 a0, .int .u64 a1, .int .u64 a2, .int .u64 a3, .int .u64 a4, .int .u64 a5, .int .u64 a6, .int .u64 a7, .slice FA n fc, .slice HB m hd] ∧ Blk W0 (w.heap.size + 1) 30 #[.int .i64 0, .int .i64 nn, .slice RA rn rc] ∧ Blk W0 (w.heap.size + 1 + 1) 49 #[.int .u64 0, .int .u64 0, .int .u64 0, .int .u64 0, .int .u64 0, .int .u64 0, .int .u64 0, .int .u64 0, .slice none 0 0, .slice none 0 0] ∧ Sl frc W0 FA n fc frames ∧ Sl us W0 HB m hd hs ∧ Sl us W0 RA rn rc rl ∧ Below w.heap.size w W0 :=
    ⟨_, rfl, ((Blk.new w _ _).alloc _).alloc _, (by have := Blk.new (w.alloc (.cells #[.int .u64 a0, .int .u64 a1, .int .u64 a2, .int .u64 a3, .int .u64 a4, .int .u64 a5, .int .u64 a6, .int .u64 a7, .slice FA n fc, .slice HB m hd] 49)) 30 #[.int .i64 0, .int .i64 nn, .slice RA rn rc]; rw [World.size_alloc] at this; exact this.alloc _), (by have := Blk.new ((w.alloc (.cells #[.int .u64 a0, .int .u64 a1, .int .u64 a2, .int .u64 a3, .int .u64 a4, .int .u64 a5, .int .u64 a6, .int .u64 a7, .slice FA n fc, .slice HB m hd] 49)).alloc (.cells #[.int .i64 0, .int .i64 nn, .slice RA rn rc] 30)) 49 #[.int .u64 0, .int .u64 0, .int .u64 0, .int .u64 0, .int .u64 0, .int .u64 0, .int .u64 0, .int .u64 0, .slice none 0 0, .slice none 0 0]; rw [World.size_alloc, World.size_alloc] at this; exact this), ((hF.alloc _).alloc _).alloc _, ((hH.alloc _).alloc _).alloc _, ((hr.alloc _).alloc _).alloc _, bnew (bnew (bnew (brefl w) _) _) _⟩
  rw [hW0]
  clear hW0 hF hH hr
  have p0 : W0.cell? ⟨w.heap.size, 0, none⟩ = some (.int .u64 a0) := hP.cell 0
  have p1 : W0.cell? ⟨w.heap.size, 1, none⟩ = some (.int .u64 a1) := hP.cell 1
  have p2 : W0.cell? ⟨w.heap.size, 2, none⟩ = some (.int .u64 a2) := hP.cell 2
  have p3 : W0.cell? ⟨w.heap.size, 3, none⟩ = some (.int .u64 a3) := hP.cell 3
  have p4 : W0.cell? ⟨w.heap.size, 4, none⟩ = some (.int .u64 a4) := hP.cell 4
  have p5 : W0.cell? ⟨w.heap.size, 5, none⟩ = some (.int .u64 a5) := hP.cell 5
  have p6 : W0.cell? ⟨w.heap.size, 6, none⟩ = some (.int .u64 a6) := hP.cell 6
  have p7 : W0.cell? ⟨w.heap.size, 7, none⟩ = some (.int .u64 a7) := hP.cell 7
  have p8 : W0.cell? ⟨w.heap.size, 8, none⟩ = some (.slice FA n fc) := hP.cell 8
  have p9 : W0.cell? ⟨w.heap.size, 9, none⟩ = some (.slice HB m hd) := hP.cell 9
  have o0 : W0.cell? ⟨w.heap.size + 1, 0, none⟩ = some (.int .i64 0) := hO.cell 0
  have o1 : W0.cell? ⟨w.heap.size + 1, 1, none⟩ = some (.int .i64 nn) := hO.cell 1
  have o2 : W0.cell? ⟨w.heap.size + 1, 2, none⟩ = some (.slice RA rn rc) := hO.cell 2
  have hzP := hP.lt
  have hzO := hO.lt
  have hzR := hR.lt
  go_upto_block 0 with (fail)
  go_cut [45] (fun v w9 => ∃ A8 c8, v = .slice A8 (n + 1) c8 ∧ Blk w9 w.heap.size 49 #[.int .u64 a0, .int .u64 a1, .int .u64 a2, .int .u64 a3, .int .u64 a4, .int .u64 a5, .int .u64 a6, .int .u64 a7, .slice A8 (n + 1) c8, .slice HB m hd] ∧ Blk w9 (w.heap.size + 1) 30 #[.int .i64 0, .int .i64 nn, .slice RA rn rc] ∧ Blk w9 (w.heap.size + 1 + 1) 49 #[.int .u64 0, .int .u64 0, .int .u64 0, .int .u64 0, .int .u64 0, .int .u64 0, .int .u64 0, .int .u64 0, .slice none 0 0, .slice none 0 0] ∧ Sl frc w9 A8 (n + 1) c8 (frames ++ [⟨nn, 0, pad 16 rl⟩]) ∧ Sl us w9 HB m hd hs ∧ New w w9 FA A8 ∧ (∀ ad, A8 = some ad → w.heap.size + 1 + 1 < ad.block) ∧ Below w.heap.size w w9)
  case rest =>
    obtain ⟨A8, c8, hv, hP, hO, hR, sF, sH, nF, n8, kb9⟩ := hcut
    have p0 : wc.cell? ⟨w.heap.size, 0, none⟩ = some (.int .u64 a0) := hP.cell 0
    have p1 : wc.cell? ⟨w.heap.size, 1, none⟩ = some (.int .u64 a1) := hP.cell 1
    have p2 : wc.cell? ⟨w.heap.size, 2, none⟩ = some (.int .u64 a2) := hP.cell 2
    have p3 : wc.cell? ⟨w.heap.size, 3, none⟩ = some (.int .u64 a3) := hP.cell 3
    have p4 : wc.cell? ⟨w.heap.size, 4, none⟩ = some (.int .u64 a4) := hP.cell 4
    have p5 : wc.cell? ⟨w.heap.size, 5, none⟩ = some (.int .u64 a5) := hP.cell 5
    have p6 : wc.cell? ⟨w.heap.size, 6, none⟩ = some (.int .u64 a6) := hP.cell 6
    have p7 : wc.cell? ⟨w.heap.size, 7, none⟩ = some (.int .u64 a7) := hP.cell 7
    have p8 : wc.cell? ⟨w.heap.size, 8, none⟩ = some (.slice A8 (n + 1) c8) := hP.cell 8
    have p9 : wc.cell? ⟨w.heap.size, 9, none⟩ = some (.slice HB (m) hd) := hP.cell 9
    have z0 : wc.cell? ⟨w.heap.size + 1 + 1, 0, none⟩ = some (.int .u64 0) := hR.cell 0
    have z1 : wc.cell? ⟨w.heap.size + 1 + 1, 1, none⟩ = some (.int .u64 0) := hR.cell 1
    have z2 : wc.cell? ⟨w.heap.size + 1 + 1, 2, none⟩ = some (.int .u64 0) := hR.cell 2
    have z3 : wc.cell? ⟨w.heap.size + 1 + 1, 3, none⟩ = some (.int .u64 0) := hR.cell 3
    have z4 : wc.cell? ⟨w.heap.size + 1 + 1, 4, none⟩ = some (.int .u64 0) := hR.cell 4
    have z5 : wc.cell? ⟨w.heap.size + 1 + 1, 5, none⟩ = some (.int .u64 0) := hR.cell 5
    have z6 : wc.cell? ⟨w.heap.size + 1 + 1, 6, none⟩ = some (.int .u64 0) := hR.cell 6
    have z7 : wc.cell? ⟨w.heap.size + 1 + 1, 7, none⟩ = some (.int .u64 0) := hR.cell 7
    have z8 : wc.cell? ⟨w.heap.size + 1 + 1, 8, none⟩ = some (.slice none 0 0) := hR.cell 8
    have z9 : wc.cell? ⟨w.heap.size + 1 + 1, 9, none⟩ = some (.slice none 0 0) := hR.cell 9
    have zf0 := hR.frozen 0
    have zf1 := hR.frozen 1
    have zf2 := hR.frozen 2
    have zf3 := hR.frozen 3
    have zf4 := hR.frozen 4
    have zf5 := hR.frozen 5
    have zf6 := hR.frozen 6
    have zf7 := hR.frozen 7
    have zf8 := hR.frozen 8
    have zf9 := hR.frozen 9
    have hzP := hP.lt
    have hzO := hO.lt
    have hzR := hR.lt
    go_wp2_with fail
    refine bodyPost_ret (v := .agg #[.int .u64 a0, .int .u64 a1, .int .u64 a2, .int .u64 a3, .int .u64 a4, .int .u64 a5, .int .u64 a6, .int .u64 a7, .slice A8 (n + 1) c8, .slice HB (m) hd]) (by simp [results, Try.results16, go_sem, z0, z1, z2, z3, z4, z5, z6, z7, z8, z9, hzR]) rfl ⟨A8, c8, HB, hd, rfl, sF.ten (fun ad h => by have := n8 ad h; omega) _ _ _ _ _ _ _ _ _ _, sH.ten (fun ad h => by have := hHb ad h; omega) _ _ _ _ _ _ _ _ _ _, nF.ten _ _ _ _ _ _ _ _ _ _ _, (New.same (w := wc)).ten _ _ _ _ _ _ _ _ _ _ _, below_ten kb9 (by omega) _ _ _ _ _ _ _ _ _ _⟩
  case first =>
  go_upto_region 5 with (fail)
  obtain ⟨W1, hW1, hP, hO, hR, hF0, hH0, hr0, kb, hB⟩ : ∃ W1, W0.alloc (.cells #[.int .i64 nn, .int .i64 0, .int .u64 0, .int .u64 0, .int .u64 0, .int .u64 0, .int .u64 0, .int .u64 0, .int .u64 0, .int .u64 0, .int .u64 0, .int .u64 0, .int .u64 0, .int .u64 0, .int .u64 0, .int .u64 0, .int .u64 0, .int .u64 0] 55) = W1 ∧ Blk W1 w.heap.size 49 #[.int .u64 a0, .int .u64 a1, .int .u64 a2, .int .u64 a3, .int .u64 a4, .int .u64 a5, .int .u64 a6, .int .u64 a7, .slice FA n fc, .slice HB m hd] ∧ Blk W1 (w.heap.size + 1) 30 #[.int .i64 0, .int .i64 nn, .slice RA rn rc] ∧ Blk W1 (w.heap.size + 1 + 1) 49 #[.int .u64 0, .int .u64 0, .int .u64 0, .int .u64 0, .int .u64 0, .int .u64 0, .int .u64 0, .int .u64 0, .slice none 0 0, .slice none 0 0] ∧ Sl frc W1 FA n fc frames ∧ Sl us W1 HB m hd hs ∧ Sl us W1 RA rn rc rl ∧ Below w.heap.size w W1 ∧ Blk W1 W0.heap.size 55 (frc ⟨nn, 0, pad 16 (rl.take 0)⟩).toArray :=
    ⟨_, rfl, ((hP.alloc _)), (hO.alloc _), (hR.alloc _), hF0.alloc _, hH0.alloc _, hr0.alloc _, bnew kb _, Blk.new _ _ _⟩
  rw [hW1]
  clear hW1 p0 p1 p2 p3 p4 p5 p6 p7 p8 p9 o0 o1 o2
  have hBz : w.heap.size + 1 + 1 < W0.heap.size := hzR
  clear hzP hzO hzR
  generalize W0.heap.size = B6 at *
  go_wp2_with fail
  go_loopg [7] (min rl.length 16) (fun gk i wr => ∃ k : Nat, k + gk = min rl.length 16 ∧ i = .int .i64 k ∧ Blk wr B6 55 (frc ⟨nn, 0, pad 16 (rl.take k)⟩).toArray ∧ Keeps (fun b => b = B6) W1 wr)
  case atStart => exact ⟨0, by omega, rfl, hB, Keeps.refl _ _⟩
  case round =>
    obtain ⟨k, hk, rfl, hBk, hkp⟩ := hrel
    have hrl := hr0.len
    have o2 : W1.cell? ⟨w.heap.size + 1, 2, none⟩ = some (.slice RA rn rc) := hO.cell 2
    have o2k := hkp.cell o2 (by omega)
    by_cases hlt : k < min rl.length 16
    · obtain ⟨b, o', rfl, hbs, hc⟩ := hr0.base us_len (by decide) (by omega)
      obtain ⟨x, hx⟩ : ∃ x, rl[k]? = some x := ⟨rl[k]'(by omega), List.getElem?_eq_getElem (i := k) _⟩
      have c0 : W1.cell? ⟨b, o' + k, none⟩ = some (.int .u64 x) := by have h0 := hc k x 0 _ hx rfl; simpa using h0
      have c1 := hkp.cell c0 (by have := hRb _ rfl (by intro e; rw [e] at hx; simp at hx); dsimp only at this; omega)
      obtain ⟨y, hy⟩ := pad_lt 16 k (rl.take k) (by omega)
      have c2 : wr.cell? ⟨B6, 2 + k, none⟩ = some (.int .u64 y) := by
        rw [hBk.cell]
        simp [frc, uc, List.getElem?_cons, hy, show 2 + k ≠ 0 by omega, show 2 + k - 1 ≠ 0 by omega, show 2 + k - 1 - 1 = k by omega]
      have f2 := hBk.frozen (2 + k)
      have hset : (frc ⟨nn, 0, pad 16 (rl.take k)⟩).toArray.setIfInBounds (2 + k) (.int .u64 x) = (frc ⟨nn, 0, pad 16 (rl.take (k + 1))⟩).toArray := by
        rw [← pad_step 16 k rl x hx (by omega)]
        simp only [frc, List.setIfInBounds_toArray, List.map_set]
        rw [show 2 + k = k + 1 + 1 by omega]
        simp [List.set_cons_succ, uc]
      have hB9 : Blk (wr.setCell ⟨B6, 2 + k, none⟩ (.int .u64 x)) B6 55 (frc ⟨nn, 0, pad 16 (rl.take (k + 1))⟩).toArray := by rw [← hset]; exact hBk.set_ _ _
      have hk9 : Keeps (fun b => b = B6) W1 (wr.setCell ⟨B6, 2 + k, none⟩ (.int .u64 x)) := keepq_set hkp
      have b0 : (0 : Int) ≤ (k : Int) := by omega
      have b1 : (k : Int) < (rn : Int) := by omega
      have b2 : (k : Int) < 16 := by omega
      have hzb := hBk.lt
      clear hc hx hy hset hF0 hH0 hr0 hB hBk hkp c0 hRb hP hO hR o2 E
      go_wp2_with fail
      go_roundg (gk - 1)
      case measure => omega
      case rel => exact ⟨k + 1, by omega, by go_num, hB9, hk9⟩
    · have hke : k = min rl.length 16 := by omega
      have hBk : Blk wr B6 55 (frc ⟨nn, 0, pad 16 rl⟩).toArray := by
        rw [hke, pad_take] at hBk
        exact hBk
      obtain ⟨r0, r1, r2, r3, r4, r5, r6, r7, r8, r9, r10, r11, r12, r13, r14, r15, hpad⟩ := len16 (pad_len 16 rl)
      have HPAD := Lib.hid hpad
      rw [hpad] at hBk
      have hP := hkp.blk hP (by omega)
      have hO := hkp.blk hO (by omega)
      have hR := hkp.blk hR (by omega)
      have hF0 := hkp.sl hF0 (fun ad h => by have := hFb ad h; omega)
      have hH0 := hkp.sl hH0 (fun ad h => by have := hHb ad h; omega)
      have kb := hkp.below kb kb.size (fun x e _ => by subst e; omega)
      have hk1 : ¬ ((k : Int) < (rn : Int)) := by omega
      
      clear hB hkp hr0 hpad o2 hke hlt hk
      obtain ⟨W3, rfl⟩ : ∃ W3, W3 = wr := ⟨_, rfl⟩
      have p0 : W3.cell? ⟨w.heap.size, 0, none⟩ = some (.int .u64 a0) := hP.cell 0
      have p1 : W3.cell? ⟨w.heap.size, 1, none⟩ = some (.int .u64 a1) := hP.cell 1
      have p2 : W3.cell? ⟨w.heap.size, 2, none⟩ = some (.int .u64 a2) := hP.cell 2
      have p3 : W3.cell? ⟨w.heap.size, 3, none⟩ = some (.int .u64 a3) := hP.cell 3
      have p4 : W3.cell? ⟨w.heap.size, 4, none⟩ = some (.int .u64 a4) := hP.cell 4
      have p5 : W3.cell? ⟨w.heap.size, 5, none⟩ = some (.int .u64 a5) := hP.cell 5
      have p6 : W3.cell? ⟨w.heap.size, 6, none⟩ = some (.int .u64 a6) := hP.cell 6
      have p7 : W3.cell? ⟨w.heap.size, 7, none⟩ = some (.int .u64 a7) := hP.cell 7
      have p8 : W3.cell? ⟨w.heap.size, 8, none⟩ = some (.slice FA n fc) := hP.cell 8
      have p9 : W3.cell? ⟨w.heap.size, 9, none⟩ = some (.slice HB m hd) := hP.cell 9
      have o0 : W3.cell? ⟨w.heap.size + 1, 0, none⟩ = some (.int .i64 0) := hO.cell 0
      have o1 : W3.cell? ⟨w.heap.size + 1, 1, none⟩ = some (.int .i64 nn) := hO.cell 1
      have o2 : W3.cell? ⟨w.heap.size + 1, 2, none⟩ = some (.slice RA rn rc) := hO.cell 2
      have pf8 := hP.frozen 8
      have hzP := hP.lt
      have hzO := hO.lt
      have hzR := hR.lt
      have hBk2 : Blk W3 B6 55 #[.int .i64 nn, .int .i64 0, .int .u64 r0, .int .u64 r1, .int .u64 r2, .int .u64 r3, .int .u64 r4, .int .u64 r5, .int .u64 r6, .int .u64 r7, .int .u64 r8, .int .u64 r9, .int .u64 r10, .int .u64 r11, .int .u64 r12, .int .u64 r13, .int .u64 r14, .int .u64 r15] := hBk
      have hrd := hF0.rd
      have hL : (frames.flatMap frc).length = n * 18 := by rw [frcs_len frames h16, hF0.len]
      have HL := Lib.hid hL
      have hRz : w.heap.size + 1 + 1 < W3.heap.size := hzR
      clear hL
      go_upto_region 9 with (fail)
      have hX := @Ext.cell W3
      have hzz0 := block_lt_of_cell p0
      have hzz1 := block_lt_of_cell o0
      refine wp_region_noPanic ?_
      refine wp_region_last (fun w' => ∃ x : Ext W3, w' = x.w) 8 (PG.two [1, 2, 4] 0 (PG.two [] 3 (PG.one [] 5 (PG.one [] 6 (PG.fin [7]))) 5 (PG.one [] 3 (PG.one [] 6 (PG.fin [7])))) 5 (PG.one [] 0 (PG.one [] 3 (PG.one [] 6 (PG.fin [7]))))) (by kernel_rfl) (by kernel_rfl) (by kernel_rfl) (fun _ _ _ _ _ h => h) ⟨⟨_, (brefl W3).drew⟩, rfl⟩ ?_
      refine wpG_two ?_
      simp only [pickOps, List.getElem?_cons_succ, List.getElem?_cons_zero, Option.elim_some]
      go_big_quiet_step (fail)
      go_big_quiet_step (fail)
      refine wpQuiet_load_row rfl 55 (.tmp 6) rfl B6 rfl 55 _ _ (blk_ext hBk2) Try.underlying55 rfl (by kernel_rfl) ?_
      refine wpQuiet_nil ?_
      refine ⟨?_, ?_⟩
      · refine planAct_some (fun K hK => ?_)
        go_simp
        refine hK.out _ _ (ext_mem (bnew (brefl W3).drew _)) ?_
        clear hK K
        refine wpG_two ?_
        simp only [pickOps, List.getElem?_cons_succ, List.getElem?_cons_zero, Option.elim_some]
        repeat (go_big_quiet_step (fail))
        refine wpQuiet_nil ?_
        refine ⟨?_, ?_⟩
        · refine planAct_some (fun K hK => ?_)
          refine step_fresh (W0 := W3) (ys := frames.flatMap frc) (m := n) E rfl (.tmp 39) (.tmp 41) rfl (bnew (brefl W3).drew _) rfl (own_empty (brefl W3).drew (by simp)) rfl (by rw [HL.out]) (hrd.below (bnew (brefl W3).drew _)) (frcs_one _) (by unfold maxLen; omega) (by omega) ?_
          intro A1 c1 w1 own1 hb1 hg1
          go_simp
          refine hK.out _ _ (ext_mem hb1) ?_
          clear hK K
          refine wpG_one ?_
          simp only [pickOps, List.getElem?_cons_succ, List.getElem?_cons_zero, Option.elim_some]
          repeat (go_big_quiet_step (fail))
          refine wpQuiet_nil ?_
          refine planAct_some (fun K hK => ?_)
          go_simp
          refine hK.out _ _ (ext_mem (bnew hb1 _)) ?_
          clear hK K
          refine wpG_one ?_
          simp only [pickOps, List.getElem?_cons_succ, List.getElem?_cons_zero, Option.elim_some]
          repeat (go_big_quiet_step (fail))
          refine wpQuiet_nil ?_
          refine planAct_some (fun K hK => ?_)
          refine step_onto (W0 := W3) (ys := [.int .i64 nn, .int .i64 0, .int .u64 r0, .int .u64 r1, .int .u64 r2, .int .u64 r3, .int .u64 r4, .int .u64 r5, .int .u64 r6, .int .u64 r7, .int .u64 r8, .int .u64 r9, .int .u64 r10, .int .u64 r11, .int .u64 r12, .int .u64 r13, .int .u64 r14, .int .u64 r15]) (m := 1) E rfl (.tmp 42) (.tmp 44) rfl (bnew hb1 _) rfl (own1.alloc _) rfl rfl (Rd.new _ _ _ (by simp)) (by simp [Value.oneCell']) (by unfold maxLen; omega) (by omega) ?_
          intro A8 c8 w8 own8 hb8 hg8
          go_simp
          refine hK.out _ _ (ext_mem hb8) ?_
          clear hK K
          have p8a := keep_below p8 hb8
          have p8f := keep_frozen pf8 hzP hb8
          have hz9 : w.heap.size < w8.heap.size := block_lt_of_cell p8a
          refine wpG_fin ?_
          simp only [pickOps, List.getElem?_cons_succ, List.getElem?_cons_zero, Option.elim_some]
          repeat (go_big_quiet_step (fail))
          refine wpQuiet_nil ?_
          refine lastG_some (fun K hK => ?_)
          go_simp
          refine hK.out _ _ ?_
          clear hK K
          refine NoPanic.normal ?_
          clear hX hzz0 hzz1
          have own8x : w8.ownsRow W3.heap.size 55 18 (.slice A8 (n + 1) c8) (n + 1) ((frames ++ [(⟨nn, 0, pad 16 rl⟩ : Fr)]).flatMap frc) := by
            rw [List.flatMap_append, List.flatMap_singleton, HPAD.out]
            exact own8
          have s8 : Sl frc w8 A8 (n + 1) c8 (frames ++ [(⟨nn, 0, pad 16 rl⟩ : Fr)]) := own_sl_fr (by simp [hF0.len]) own8x
          have n8 := own_blk18 own8x
          have hzW := kb.size
          go_wp2_with fail
          go_meet
          case rel => exact ⟨A8, c8, rfl, (hP.below_ hb8).set_ 8 _, (hO.below_ hb8).far (by simp) _, (hR.below_ hb8).far (by simp; omega) _, s8.setCell (fun ad h => by have := (n8 ad h).1; have := hP.lt; dsimp only; omega) _, (hH0.below hb8).setCell (fun ad h => by have := hHb ad h; dsimp only; omega) _, .inr fun ad h => ⟨by have := (n8 ad h).1; omega, by have := (n8 ad h).2; simpa [World.setCell] using this⟩, fun ad h => by have := (n8 ad h).1; have := hR.lt; omega, bset (bnext kb hb8) (Nat.le_refl _) _⟩
        · refine planAct_some (fun K hK => ?_)
          go_simp
          refine hK.out _ _ (ext_mem (bnew (bnew (brefl W3).drew _) _)) ?_
          clear hK K
          refine wpG_one ?_
          simp only [pickOps, List.getElem?_cons_succ, List.getElem?_cons_zero, Option.elim_some]
          repeat (go_big_quiet_step (fail))
          refine wpQuiet_nil ?_
          refine planAct_some (fun K hK => ?_)
          refine step_fresh (W0 := W3) (ys := frames.flatMap frc) (m := n) E rfl (.tmp 39) (.tmp 41) rfl (bnew (bnew (brefl W3).drew _) _) rfl ((own_empty (brefl W3).drew (by simp)).alloc _) rfl (by rw [HL.out]) (hrd.below (bnew (bnew (brefl W3).drew _) _)) (frcs_one _) (by unfold maxLen; omega) (by omega) ?_
          intro A1 c1 w1 own1 hb1 hg1
          go_simp
          refine hK.out _ _ (ext_mem hb1) ?_
          clear hK K
          refine wpG_one ?_
          simp only [pickOps, List.getElem?_cons_succ, List.getElem?_cons_zero, Option.elim_some]
          repeat (go_big_quiet_step (fail))
          refine wpQuiet_nil ?_
          refine planAct_some (fun K hK => ?_)
          refine step_onto (W0 := W3) (ys := [.int .i64 nn, .int .i64 0, .int .u64 r0, .int .u64 r1, .int .u64 r2, .int .u64 r3, .int .u64 r4, .int .u64 r5, .int .u64 r6, .int .u64 r7, .int .u64 r8, .int .u64 r9, .int .u64 r10, .int .u64 r11, .int .u64 r12, .int .u64 r13, .int .u64 r14, .int .u64 r15]) (m := 1) E rfl (.tmp 42) (.tmp 44) rfl hb1 rfl (own1) rfl rfl (Rd.grown_ hg1 (Rd.drew (Rd.new _ _ _ (by simp))) (fun ad h => by cases h; simp)) (by simp [Value.oneCell']) (by unfold maxLen; omega) (by omega) ?_
          intro A8 c8 w8 own8 hb8 hg8
          go_simp
          refine hK.out _ _ (ext_mem hb8) ?_
          clear hK K
          have p8a := keep_below p8 hb8
          have p8f := keep_frozen pf8 hzP hb8
          have hz9 : w.heap.size < w8.heap.size := block_lt_of_cell p8a
          refine wpG_fin ?_
          simp only [pickOps, List.getElem?_cons_succ, List.getElem?_cons_zero, Option.elim_some]
          repeat (go_big_quiet_step (fail))
          refine wpQuiet_nil ?_
          refine lastG_some (fun K hK => ?_)
          go_simp
          refine hK.out _ _ ?_
          clear hK K
          refine NoPanic.normal ?_
          clear hX hzz0 hzz1
          have own8x : w8.ownsRow W3.heap.size 55 18 (.slice A8 (n + 1) c8) (n + 1) ((frames ++ [(⟨nn, 0, pad 16 rl⟩ : Fr)]).flatMap frc) := by
            rw [List.flatMap_append, List.flatMap_singleton, HPAD.out]
            exact own8
          have s8 : Sl frc w8 A8 (n + 1) c8 (frames ++ [(⟨nn, 0, pad 16 rl⟩ : Fr)]) := own_sl_fr (by simp [hF0.len]) own8x
          have n8 := own_blk18 own8x
          have hzW := kb.size
          go_wp2_with fail
          go_meet
          case rel => exact ⟨A8, c8, rfl, (hP.below_ hb8).set_ 8 _, (hO.below_ hb8).far (by simp) _, (hR.below_ hb8).far (by simp; omega) _, s8.setCell (fun ad h => by have := (n8 ad h).1; have := hP.lt; dsimp only; omega) _, (hH0.below hb8).setCell (fun ad h => by have := hHb ad h; dsimp only; omega) _, .inr fun ad h => ⟨by have := (n8 ad h).1; omega, by have := (n8 ad h).2; simpa [World.setCell] using this⟩, fun ad h => by have := (n8 ad h).1; have := hR.lt; omega, bset (bnext kb hb8) (Nat.le_refl _) _⟩
      · refine planAct_some (fun K hK => ?_)
        go_simp
        refine hK.out _ _ (ext_mem (bnew (brefl W3).drew _)) ?_
        clear hK K
        refine wpG_one ?_
        simp only [pickOps, List.getElem?_cons_succ, List.getElem?_cons_zero, Option.elim_some]
        repeat (go_big_quiet_step (fail))
        refine wpQuiet_nil ?_
        refine planAct_some (fun K hK => ?_)
        go_simp
        refine hK.out _ _ (ext_mem (bnew (bnew (brefl W3).drew _) _)) ?_
        clear hK K
        refine wpG_one ?_
        simp only [pickOps, List.getElem?_cons_succ, List.getElem?_cons_zero, Option.elim_some]
        repeat (go_big_quiet_step (fail))
        refine wpQuiet_nil ?_
        refine planAct_some (fun K hK => ?_)
        refine step_fresh (W0 := W3) (ys := frames.flatMap frc) (m := n) E rfl (.tmp 39) (.tmp 41) rfl (bnew (bnew (brefl W3).drew _) _) rfl (own_empty (bnew (brefl W3).drew _) (by simp)) rfl (by rw [HL.out]) (hrd.below (bnew (bnew (brefl W3).drew _) _)) (frcs_one _) (by unfold maxLen; omega) (by omega) ?_
        intro A1 c1 w1 own1 hb1 hg1
        go_simp
        refine hK.out _ _ (ext_mem hb1) ?_
        clear hK K
        refine wpG_one ?_
        simp only [pickOps, List.getElem?_cons_succ, List.getElem?_cons_zero, Option.elim_some]
        repeat (go_big_quiet_step (fail))
        refine wpQuiet_nil ?_
        refine planAct_some (fun K hK => ?_)
        refine step_onto (W0 := W3) (ys := [.int .i64 nn, .int .i64 0, .int .u64 r0, .int .u64 r1, .int .u64 r2, .int .u64 r3, .int .u64 r4, .int .u64 r5, .int .u64 r6, .int .u64 r7, .int .u64 r8, .int .u64 r9, .int .u64 r10, .int .u64 r11, .int .u64 r12, .int .u64 r13, .int .u64 r14, .int .u64 r15]) (m := 1) E rfl (.tmp 42) (.tmp 44) rfl hb1 rfl (own1) rfl rfl (Rd.grown_ hg1 (Rd.drew (Rd.alloc (Rd.new _ _ _ (by simp)) _)) (fun ad h => by cases h; simp)) (by simp [Value.oneCell']) (by unfold maxLen; omega) (by omega) ?_
        intro A8 c8 w8 own8 hb8 hg8
        go_simp
        refine hK.out _ _ (ext_mem hb8) ?_
        clear hK K
        have p8a := keep_below p8 hb8
        have p8f := keep_frozen pf8 hzP hb8
        have hz9 : w.heap.size < w8.heap.size := block_lt_of_cell p8a
        refine wpG_fin ?_
        simp only [pickOps, List.getElem?_cons_succ, List.getElem?_cons_zero, Option.elim_some]
        repeat (go_big_quiet_step (fail))
        refine wpQuiet_nil ?_
        refine lastG_some (fun K hK => ?_)
        go_simp
        refine hK.out _ _ ?_
        clear hK K
        refine NoPanic.normal ?_
        clear hX hzz0 hzz1
        have own8x : w8.ownsRow W3.heap.size 55 18 (.slice A8 (n + 1) c8) (n + 1) ((frames ++ [(⟨nn, 0, pad 16 rl⟩ : Fr)]).flatMap frc) := by
          rw [List.flatMap_append, List.flatMap_singleton, HPAD.out]
          exact own8
        have s8 : Sl frc w8 A8 (n + 1) c8 (frames ++ [(⟨nn, 0, pad 16 rl⟩ : Fr)]) := own_sl_fr (by simp [hF0.len]) own8x
        have n8 := own_blk18 own8x
        have hzW := kb.size
        go_wp2_with fail
        go_meet
        case rel => exact ⟨A8, c8, rfl, (hP.below_ hb8).set_ 8 _, (hO.below_ hb8).far (by simp) _, (hR.below_ hb8).far (by simp; omega) _, s8.setCell (fun ad h => by have := (n8 ad h).1; have := hP.lt; dsimp only; omega) _, (hH0.below hb8).setCell (fun ad h => by have := hHb ad h; dsimp only; omega) _, .inr fun ad h => ⟨by have := (n8 ad h).1; omega, by have := (n8 ad h).2; simpa [World.setCell] using this⟩, fun ad h => by have := (n8 ad h).1; have := hR.lt; omega, bset (bnext kb hb8) (Nat.le_refl _) _⟩
set_option maxHeartbeats 4000000 in
set_option maxRecDepth 100000 in
theorem rdo_callb {w : World} {FA HB RA : Option Addr} {n fc m hd rn rc : Nat} {frames : List Fr} {hs rl : List Int} (hF : Sl frc w FA n fc frames) (hH : Sl us w HB m hd hs) (hr : Sl us w RA rn rc rl) (hn : n ≤ 10000) (hm : m ≤ 10000) (hrn : rn ≤ 10000) (hFb : ∀ ad, FA = some ad → ad.block < w.heap.size) (hHb : ∀ ad, HB = some ad → ad.block < w.heap.size) (a0 a1 a2 a3 a4 a5 a6 a7 : Int) (nn : Int) (hRb : ∀ ad, RA = some ad → rl ≠ [] → ad.block < w.heap.size) (h16 : ∀ f, f ∈ frames → f.r.length = 16) (hrc : 16 < rn) : Calls Try.prog 16 #[.agg #[.int .u64 a0, .int .u64 a1, .int .u64 a2, .int .u64 a3, .int .u64 a4, .int .u64 a5, .int .u64 a6, .int .u64 a7, .slice FA n fc, .slice HB m hd], .agg #[.int .i64 0, .int .i64 nn, .slice RA rn rc]] w fun e w' => ∃ FA' fc' HB' hd', e = .returned (.agg #[.int .u64 a0, .int .u64 a1, .int .u64 a2, .int .u64 a3, .int .u64 a4, .int .u64 a5, .int .u64 a6, .int .u64 a7, .slice FA' (n + 1) fc', .slice HB' (m) hd']) ∧ Sl frc w' FA' (n + 1) fc' (frames ++ [⟨nn, 0, pad 16 rl⟩]) ∧ Sl us w' HB' (m) hd' (hs) ∧ New w w' FA FA' ∧ New w w' HB HB' ∧ Below w.heap.size w w' := by
  obtain ⟨i0, E⟩ := elem_f
  go_enter Try.func16, Try.ntmps16
  go_upto_region 1 with (fail)
  obtain ⟨W0, hW0, hP, hO, hR, hF0, hH0, hr0, kb⟩ : ∃ W0, ((w.alloc (.cells #[.int .u64 a0, .int .u64 a1, .int .u64 a2, .int .u64 a3, .int .u64 a4, .int .u64 a5, .int .u64 a6, .int .u64 a7, .slice FA n fc, .slice HB m hd] 49)).alloc (.cells #[.int .i64 0, .int .i64 nn, .slice RA rn rc] 30)).alloc (.cells #[.int .u64 0, .int .u64 0, .int .u64 0, .int .u64 0, .int .u64 0, .int .u64 0, .int .u64 0, .int .u64 0, .slice none 0 0, .slice none 0 0] 49) = W0 ∧ Blk W0 w.heap.size 49 #[.int .u64 a0, .int .u64 a1, .int .u64 a2, .int .u64 a3, .int .u64 a4, .int .u64 a5, .int .u64 a6, .int .u64 a7, .slice FA n fc, .slice HB m hd] ∧ Blk W0 (w.heap.size + 1) 30 #[.int .i64 0, .int .i64 nn, .slice RA rn rc] ∧ Blk W0 (w.heap.size + 1 + 1) 49 #[.int .u64 0, .int .u64 0, .int .u64 0, .int .u64 0, .int .u64 0, .int .u64 0, .int .u64 0, .int .u64 0, .slice none 0 0, .slice none 0 0] ∧ Sl frc W0 FA n fc frames ∧ Sl us W0 HB m hd hs ∧ Sl us W0 RA rn rc rl ∧ Below w.heap.size w W0 :=
    ⟨_, rfl, ((Blk.new w _ _).alloc _).alloc _, (by have := Blk.new (w.alloc (.cells #[.int .u64 a0, .int .u64 a1, .int .u64 a2, .int .u64 a3, .int .u64 a4, .int .u64 a5, .int .u64 a6, .int .u64 a7, .slice FA n fc, .slice HB m hd] 49)) 30 #[.int .i64 0, .int .i64 nn, .slice RA rn rc]; rw [World.size_alloc] at this; exact this.alloc _), (by have := Blk.new ((w.alloc (.cells #[.int .u64 a0, .int .u64 a1, .int .u64 a2, .int .u64 a3, .int .u64 a4, .int .u64 a5, .int .u64 a6, .int .u64 a7, .slice FA n fc, .slice HB m hd] 49)).alloc (.cells #[.int .i64 0, .int .i64 nn, .slice RA rn rc] 30)) 49 #[.int .u64 0, .int .u64 0, .int .u64 0, .int .u64 0, .int .u64 0, .int .u64 0, .int .u64 0, .int .u64 0, .slice none 0 0, .slice none 0 0]; rw [World.size_alloc, World.size_alloc] at this; exact this), ((hF.alloc _).alloc _).alloc _, ((hH.alloc _).alloc _).alloc _, ((hr.alloc _).alloc _).alloc _, bnew (bnew (bnew (brefl w) _) _) _⟩
  rw [hW0]
  clear hW0 hF hH hr
  have p0 : W0.cell? ⟨w.heap.size, 0, none⟩ = some (.int .u64 a0) := hP.cell 0
  have p1 : W0.cell? ⟨w.heap.size, 1, none⟩ = some (.int .u64 a1) := hP.cell 1
  have p2 : W0.cell? ⟨w.heap.size, 2, none⟩ = some (.int .u64 a2) := hP.cell 2
  have p3 : W0.cell? ⟨w.heap.size, 3, none⟩ = some (.int .u64 a3) := hP.cell 3
  have p4 : W0.cell? ⟨w.heap.size, 4, none⟩ = some (.int .u64 a4) := hP.cell 4
  have p5 : W0.cell? ⟨w.heap.size, 5, none⟩ = some (.int .u64 a5) := hP.cell 5
  have p6 : W0.cell? ⟨w.heap.size, 6, none⟩ = some (.int .u64 a6) := hP.cell 6
  have p7 : W0.cell? ⟨w.heap.size, 7, none⟩ = some (.int .u64 a7) := hP.cell 7
  have p8 : W0.cell? ⟨w.heap.size, 8, none⟩ = some (.slice FA n fc) := hP.cell 8
  have p9 : W0.cell? ⟨w.heap.size, 9, none⟩ = some (.slice HB m hd) := hP.cell 9
  have o0 : W0.cell? ⟨w.heap.size + 1, 0, none⟩ = some (.int .i64 0) := hO.cell 0
  have o1 : W0.cell? ⟨w.heap.size + 1, 1, none⟩ = some (.int .i64 nn) := hO.cell 1
  have o2 : W0.cell? ⟨w.heap.size + 1, 2, none⟩ = some (.slice RA rn rc) := hO.cell 2
  have hzP := hP.lt
  have hzO := hO.lt
  have hzR := hR.lt
  go_upto_block 0 with (fail)
  go_cut [45] (fun v w9 => ∃ A8 c8, v = .slice A8 (n + 1) c8 ∧ Blk w9 w.heap.size 49 #[.int .u64 a0, .int .u64 a1, .int .u64 a2, .int .u64 a3, .int .u64 a4, .int .u64 a5, .int .u64 a6, .int .u64 a7, .slice A8 (n + 1) c8, .slice HB m hd] ∧ Blk w9 (w.heap.size + 1) 30 #[.int .i64 0, .int .i64 nn, .slice RA rn rc] ∧ Blk w9 (w.heap.size + 1 + 1) 49 #[.int .u64 0, .int .u64 0, .int .u64 0, .int .u64 0, .int .u64 0, .int .u64 0, .int .u64 0, .int .u64 0, .slice none 0 0, .slice none 0 0] ∧ Sl frc w9 A8 (n + 1) c8 (frames ++ [⟨nn, 0, pad 16 rl⟩]) ∧ Sl us w9 HB m hd hs ∧ New w w9 FA A8 ∧ (∀ ad, A8 = some ad → w.heap.size + 1 + 1 < ad.block) ∧ Below w.heap.size w w9)
  case rest =>
    obtain ⟨A8, c8, hv, hP, hO, hR, sF, sH, nF, n8, kb9⟩ := hcut
    have p0 : wc.cell? ⟨w.heap.size, 0, none⟩ = some (.int .u64 a0) := hP.cell 0
    have p1 : wc.cell? ⟨w.heap.size, 1, none⟩ = some (.int .u64 a1) := hP.cell 1
    have p2 : wc.cell? ⟨w.heap.size, 2, none⟩ = some (.int .u64 a2) := hP.cell 2
    have p3 : wc.cell? ⟨w.heap.size, 3, none⟩ = some (.int .u64 a3) := hP.cell 3
    have p4 : wc.cell? ⟨w.heap.size, 4, none⟩ = some (.int .u64 a4) := hP.cell 4
    have p5 : wc.cell? ⟨w.heap.size, 5, none⟩ = some (.int .u64 a5) := hP.cell 5
    have p6 : wc.cell? ⟨w.heap.size, 6, none⟩ = some (.int .u64 a6) := hP.cell 6
    have p7 : wc.cell? ⟨w.heap.size, 7, none⟩ = some (.int .u64 a7) := hP.cell 7
    have p8 : wc.cell? ⟨w.heap.size, 8, none⟩ = some (.slice A8 (n + 1) c8) := hP.cell 8
    have p9 : wc.cell? ⟨w.heap.size, 9, none⟩ = some (.slice HB (m) hd) := hP.cell 9
    have z0 : wc.cell? ⟨w.heap.size + 1 + 1, 0, none⟩ = some (.int .u64 0) := hR.cell 0
    have z1 : wc.cell? ⟨w.heap.size + 1 + 1, 1, none⟩ = some (.int .u64 0) := hR.cell 1
    have z2 : wc.cell? ⟨w.heap.size + 1 + 1, 2, none⟩ = some (.int .u64 0) := hR.cell 2
    have z3 : wc.cell? ⟨w.heap.size + 1 + 1, 3, none⟩ = some (.int .u64 0) := hR.cell 3
    have z4 : wc.cell? ⟨w.heap.size + 1 + 1, 4, none⟩ = some (.int .u64 0) := hR.cell 4
    have z5 : wc.cell? ⟨w.heap.size + 1 + 1, 5, none⟩ = some (.int .u64 0) := hR.cell 5
    have z6 : wc.cell? ⟨w.heap.size + 1 + 1, 6, none⟩ = some (.int .u64 0) := hR.cell 6
    have z7 : wc.cell? ⟨w.heap.size + 1 + 1, 7, none⟩ = some (.int .u64 0) := hR.cell 7
    have z8 : wc.cell? ⟨w.heap.size + 1 + 1, 8, none⟩ = some (.slice none 0 0) := hR.cell 8
    have z9 : wc.cell? ⟨w.heap.size + 1 + 1, 9, none⟩ = some (.slice none 0 0) := hR.cell 9
    have zf0 := hR.frozen 0
    have zf1 := hR.frozen 1
    have zf2 := hR.frozen 2
    have zf3 := hR.frozen 3
    have zf4 := hR.frozen 4
    have zf5 := hR.frozen 5
    have zf6 := hR.frozen 6
    have zf7 := hR.frozen 7
    have zf8 := hR.frozen 8
    have zf9 := hR.frozen 9
    have hzP := hP.lt
    have hzO := hO.lt
    have hzR := hR.lt
    go_wp2_with fail
    refine bodyPost_ret (v := .agg #[.int .u64 a0, .int .u64 a1, .int .u64 a2, .int .u64 a3, .int .u64 a4, .int .u64 a5, .int .u64 a6, .int .u64 a7, .slice A8 (n + 1) c8, .slice HB (m) hd]) (by simp [results, Try.results16, go_sem, z0, z1, z2, z3, z4, z5, z6, z7, z8, z9, hzR]) rfl ⟨A8, c8, HB, hd, rfl, sF.ten (fun ad h => by have := n8 ad h; omega) _ _ _ _ _ _ _ _ _ _, sH.ten (fun ad h => by have := hHb ad h; omega) _ _ _ _ _ _ _ _ _ _, nF.ten _ _ _ _ _ _ _ _ _ _ _, (New.same (w := wc)).ten _ _ _ _ _ _ _ _ _ _ _, below_ten kb9 (by omega) _ _ _ _ _ _ _ _ _ _⟩
  case first =>
  go_upto_region 5 with (fail)
  obtain ⟨W1, hW1, hP, hO, hR, hF0, hH0, hr0, kb, hB⟩ : ∃ W1, W0.alloc (.cells #[.int .i64 nn, .int .i64 0, .int .u64 0, .int .u64 0, .int .u64 0, .int .u64 0, .int .u64 0, .int .u64 0, .int .u64 0, .int .u64 0, .int .u64 0, .int .u64 0, .int .u64 0, .int .u64 0, .int .u64 0, .int .u64 0, .int .u64 0, .int .u64 0] 55) = W1 ∧ Blk W1 w.heap.size 49 #[.int .u64 a0, .int .u64 a1, .int .u64 a2, .int .u64 a3, .int .u64 a4, .int .u64 a5, .int .u64 a6, .int .u64 a7, .slice FA n fc, .slice HB m hd] ∧ Blk W1 (w.heap.size + 1) 30 #[.int .i64 0, .int .i64 nn, .slice RA rn rc] ∧ Blk W1 (w.heap.size + 1 + 1) 49 #[.int .u64 0, .int .u64 0, .int .u64 0, .int .u64 0, .int .u64 0, .int .u64 0, .int .u64 0, .int .u64 0, .slice none 0 0, .slice none 0 0] ∧ Sl frc W1 FA n fc frames ∧ Sl us W1 HB m hd hs ∧ Sl us W1 RA rn rc rl ∧ Below w.heap.size w W1 ∧ Blk W1 W0.heap.size 55 (frc ⟨nn, 0, pad 16 (rl.take 0)⟩).toArray :=
    ⟨_, rfl, ((hP.alloc _)), (hO.alloc _), (hR.alloc _), hF0.alloc _, hH0.alloc _, hr0.alloc _, bnew kb _, Blk.new _ _ _⟩
  rw [hW1]
  clear hW1 p0 p1 p2 p3 p4 p5 p6 p7 p8 p9 o0 o1 o2
  have hBz : w.heap.size + 1 + 1 < W0.heap.size := hzR
  clear hzP hzO hzR
  generalize W0.heap.size = B6 at *
  go_wp2_with fail
  go_loopg [7] (min rl.length 16) (fun gk i wr => ∃ k : Nat, k + gk = min rl.length 16 ∧ i = .int .i64 k ∧ Blk wr B6 55 (frc ⟨nn, 0, pad 16 (rl.take k)⟩).toArray ∧ Keeps (fun b => b = B6) W1 wr)
  case atStart => exact ⟨0, by omega, rfl, hB, Keeps.refl _ _⟩
  case round =>
    obtain ⟨k, hk, rfl, hBk, hkp⟩ := hrel
    have hrl := hr0.len
    have o2 : W1.cell? ⟨w.heap.size + 1, 2, none⟩ = some (.slice RA rn rc) := hO.cell 2
    have o2k := hkp.cell o2 (by omega)
    by_cases hlt : k < min rl.length 16
    · obtain ⟨b, o', rfl, hbs, hc⟩ := hr0.base us_len (by decide) (by omega)
      obtain ⟨x, hx⟩ : ∃ x, rl[k]? = some x := ⟨rl[k]'(by omega), List.getElem?_eq_getElem (i := k) _⟩
      have c0 : W1.cell? ⟨b, o' + k, none⟩ = some (.int .u64 x) := by have h0 := hc k x 0 _ hx rfl; simpa using h0
      have c1 := hkp.cell c0 (by have := hRb _ rfl (by intro e; rw [e] at hx; simp at hx); dsimp only at this; omega)
      obtain ⟨y, hy⟩ := pad_lt 16 k (rl.take k) (by omega)
      have c2 : wr.cell? ⟨B6, 2 + k, none⟩ = some (.int .u64 y) := by
        rw [hBk.cell]
        simp [frc, uc, List.getElem?_cons, hy, show 2 + k ≠ 0 by omega, show 2 + k - 1 ≠ 0 by omega, show 2 + k - 1 - 1 = k by omega]
      have f2 := hBk.frozen (2 + k)
      have hset : (frc ⟨nn, 0, pad 16 (rl.take k)⟩).toArray.setIfInBounds (2 + k) (.int .u64 x) = (frc ⟨nn, 0, pad 16 (rl.take (k + 1))⟩).toArray := by
        rw [← pad_step 16 k rl x hx (by omega)]
        simp only [frc, List.setIfInBounds_toArray, List.map_set]
        rw [show 2 + k = k + 1 + 1 by omega]
        simp [List.set_cons_succ, uc]
      have hB9 : Blk (wr.setCell ⟨B6, 2 + k, none⟩ (.int .u64 x)) B6 55 (frc ⟨nn, 0, pad 16 (rl.take (k + 1))⟩).toArray := by rw [← hset]; exact hBk.set_ _ _
      have hk9 : Keeps (fun b => b = B6) W1 (wr.setCell ⟨B6, 2 + k, none⟩ (.int .u64 x)) := keepq_set hkp
      have b0 : (0 : Int) ≤ (k : Int) := by omega
      have b1 : (k : Int) < (rn : Int) := by omega
      have b2 : (k : Int) < 16 := by omega
      have hzb := hBk.lt
      clear hc hx hy hset hF0 hH0 hr0 hB hBk hkp c0 hRb hP hO hR o2 E
      go_wp2_with fail
      go_roundg (gk - 1)
      case measure => omega
      case rel => exact ⟨k + 1, by omega, by go_num, hB9, hk9⟩
    · have hke : k = min rl.length 16 := by omega
      have hBk : Blk wr B6 55 (frc ⟨nn, 0, pad 16 rl⟩).toArray := by
        rw [hke, pad_take] at hBk
        exact hBk
      obtain ⟨r0, r1, r2, r3, r4, r5, r6, r7, r8, r9, r10, r11, r12, r13, r14, r15, hpad⟩ := len16 (pad_len 16 rl)
      have HPAD := Lib.hid hpad
      rw [hpad] at hBk
      have hP := hkp.blk hP (by omega)
      have hO := hkp.blk hO (by omega)
      have hR := hkp.blk hR (by omega)
      have hF0 := hkp.sl hF0 (fun ad h => by have := hFb ad h; omega)
      have hH0 := hkp.sl hH0 (fun ad h => by have := hHb ad h; omega)
      have kb := hkp.below kb kb.size (fun x e _ => by subst e; omega)
      have hk0 : (k : Int) < (rn : Int) := by omega
      have hk1 : ¬ ((k : Int) < 16) := by omega
      clear hB hkp hr0 hpad o2 hke hlt hk
      obtain ⟨W3, rfl⟩ : ∃ W3, W3 = wr := ⟨_, rfl⟩
      have p0 : W3.cell? ⟨w.heap.size, 0, none⟩ = some (.int .u64 a0) := hP.cell 0
      have p1 : W3.cell? ⟨w.heap.size, 1, none⟩ = some (.int .u64 a1) := hP.cell 1
      have p2 : W3.cell? ⟨w.heap.size, 2, none⟩ = some (.int .u64 a2) := hP.cell 2
      have p3 : W3.cell? ⟨w.heap.size, 3, none⟩ = some (.int .u64 a3) := hP.cell 3
      have p4 : W3.cell? ⟨w.heap.size, 4, none⟩ = some (.int .u64 a4) := hP.cell 4
      have p5 : W3.cell? ⟨w.heap.size, 5, none⟩ = some (.int .u64 a5) := hP.cell 5
      have p6 : W3.cell? ⟨w.heap.size, 6, none⟩ = some (.int .u64 a6) := hP.cell 6
      have p7 : W3.cell? ⟨w.heap.size, 7, none⟩ = some (.int .u64 a7) := hP.cell 7
      have p8 : W3.cell? ⟨w.heap.size, 8, none⟩ = some (.slice FA n fc) := hP.cell 8
      have p9 : W3.cell? ⟨w.heap.size, 9, none⟩ = some (.slice HB m hd) := hP.cell 9
      have o0 : W3.cell? ⟨w.heap.size + 1, 0, none⟩ = some (.int .i64 0) := hO.cell 0
      have o1 : W3.cell? ⟨w.heap.size + 1, 1, none⟩ = some (.int .i64 nn) := hO.cell 1
      have o2 : W3.cell? ⟨w.heap.size + 1, 2, none⟩ = some (.slice RA rn rc) := hO.cell 2
      have pf8 := hP.frozen 8
      have hzP := hP.lt
      have hzO := hO.lt
      have hzR := hR.lt
      have hBk2 : Blk W3 B6 55 #[.int .i64 nn, .int .i64 0, .int .u64 r0, .int .u64 r1, .int .u64 r2, .int .u64 r3, .int .u64 r4, .int .u64 r5, .int .u64 r6, .int .u64 r7, .int .u64 r8, .int .u64 r9, .int .u64 r10, .int .u64 r11, .int .u64 r12, .int .u64 r13, .int .u64 r14, .int .u64 r15] := hBk
      have hrd := hF0.rd
      have hL : (frames.flatMap frc).length = n * 18 := by rw [frcs_len frames h16, hF0.len]
      have HL := Lib.hid hL
      have hRz : w.heap.size + 1 + 1 < W3.heap.size := hzR
      clear hL
      go_upto_region 9 with (fail)
      have hX := @Ext.cell W3
      have hzz0 := block_lt_of_cell p0
      have hzz1 := block_lt_of_cell o0
      refine wp_region_noPanic ?_
      refine wp_region_last (fun w' => ∃ x : Ext W3, w' = x.w) 8 (PG.two [1, 2, 4] 0 (PG.two [] 3 (PG.one [] 5 (PG.one [] 6 (PG.fin [7]))) 5 (PG.one [] 3 (PG.one [] 6 (PG.fin [7])))) 5 (PG.one [] 0 (PG.one [] 3 (PG.one [] 6 (PG.fin [7]))))) (by kernel_rfl) (by kernel_rfl) (by kernel_rfl) (fun _ _ _ _ _ h => h) ⟨⟨_, (brefl W3).drew⟩, rfl⟩ ?_
      refine wpG_two ?_
      simp only [pickOps, List.getElem?_cons_succ, List.getElem?_cons_zero, Option.elim_some]
      go_big_quiet_step (fail)
      go_big_quiet_step (fail)
      refine wpQuiet_load_row rfl 55 (.tmp 6) rfl B6 rfl 55 _ _ (blk_ext hBk2) Try.underlying55 rfl (by kernel_rfl) ?_
      refine wpQuiet_nil ?_
      refine ⟨?_, ?_⟩
      · refine planAct_some (fun K hK => ?_)
        go_simp
        refine hK.out _ _ (ext_mem (bnew (brefl W3).drew _)) ?_
        clear hK K
        refine wpG_two ?_
        simp only [pickOps, List.getElem?_cons_succ, List.getElem?_cons_zero, Option.elim_some]
        repeat (go_big_quiet_step (fail))
        refine wpQuiet_nil ?_
        refine ⟨?_, ?_⟩
        · refine planAct_some (fun K hK => ?_)
          refine step_fresh (W0 := W3) (ys := frames.flatMap frc) (m := n) E rfl (.tmp 39) (.tmp 41) rfl (bnew (brefl W3).drew _) rfl (own_empty (brefl W3).drew (by simp)) rfl (by rw [HL.out]) (hrd.below (bnew (brefl W3).drew _)) (frcs_one _) (by unfold maxLen; omega) (by omega) ?_
          intro A1 c1 w1 own1 hb1 hg1
          go_simp
          refine hK.out _ _ (ext_mem hb1) ?_
          clear hK K
          refine wpG_one ?_
          simp only [pickOps, List.getElem?_cons_succ, List.getElem?_cons_zero, Option.elim_some]
          repeat (go_big_quiet_step (fail))
          refine wpQuiet_nil ?_
          refine planAct_some (fun K hK => ?_)
          go_simp
          refine hK.out _ _ (ext_mem (bnew hb1 _)) ?_
          clear hK K
          refine wpG_one ?_
          simp only [pickOps, List.getElem?_cons_succ, List.getElem?_cons_zero, Option.elim_some]
          repeat (go_big_quiet_step (fail))
          refine wpQuiet_nil ?_
          refine planAct_some (fun K hK => ?_)
          refine step_onto (W0 := W3) (ys := [.int .i64 nn, .int .i64 0, .int .u64 r0, .int .u64 r1, .int .u64 r2, .int .u64 r3, .int .u64 r4, .int .u64 r5, .int .u64 r6, .int .u64 r7, .int .u64 r8, .int .u64 r9, .int .u64 r10, .int .u64 r11, .int .u64 r12, .int .u64 r13, .int .u64 r14, .int .u64 r15]) (m := 1) E rfl (.tmp 42) (.tmp 44) rfl (bnew hb1 _) rfl (own1.alloc _) rfl rfl (Rd.new _ _ _ (by simp)) (by simp [Value.oneCell']) (by unfold maxLen; omega) (by omega) ?_
          intro A8 c8 w8 own8 hb8 hg8
          go_simp
          refine hK.out _ _ (ext_mem hb8) ?_
          clear hK K
          have p8a := keep_below p8 hb8
          have p8f := keep_frozen pf8 hzP hb8
          have hz9 : w.heap.size < w8.heap.size := block_lt_of_cell p8a
          refine wpG_fin ?_
          simp only [pickOps, List.getElem?_cons_succ, List.getElem?_cons_zero, Option.elim_some]
          repeat (go_big_quiet_step (fail))
          refine wpQuiet_nil ?_
          refine lastG_some (fun K hK => ?_)
          go_simp
          refine hK.out _ _ ?_
          clear hK K
          refine NoPanic.normal ?_
          clear hX hzz0 hzz1
          have own8x : w8.ownsRow W3.heap.size 55 18 (.slice A8 (n + 1) c8) (n + 1) ((frames ++ [(⟨nn, 0, pad 16 rl⟩ : Fr)]).flatMap frc) := by
            rw [List.flatMap_append, List.flatMap_singleton, HPAD.out]
            exact own8
          have s8 : Sl frc w8 A8 (n + 1) c8 (frames ++ [(⟨nn, 0, pad 16 rl⟩ : Fr)]) := own_sl_fr (by simp [hF0.len]) own8x
          have n8 := own_blk18 own8x
          have hzW := kb.size
          go_wp2_with fail
          go_meet
          case rel => exact ⟨A8, c8, rfl, (hP.below_ hb8).set_ 8 _, (hO.below_ hb8).far (by simp) _, (hR.below_ hb8).far (by simp; omega) _, s8.setCell (fun ad h => by have := (n8 ad h).1; have := hP.lt; dsimp only; omega) _, (hH0.below hb8).setCell (fun ad h => by have := hHb ad h; dsimp only; omega) _, .inr fun ad h => ⟨by have := (n8 ad h).1; omega, by have := (n8 ad h).2; simpa [World.setCell] using this⟩, fun ad h => by have := (n8 ad h).1; have := hR.lt; omega, bset (bnext kb hb8) (Nat.le_refl _) _⟩
        · refine planAct_some (fun K hK => ?_)
          go_simp
          refine hK.out _ _ (ext_mem (bnew (bnew (brefl W3).drew _) _)) ?_
          clear hK K
          refine wpG_one ?_
          simp only [pickOps, List.getElem?_cons_succ, List.getElem?_cons_zero, Option.elim_some]
          repeat (go_big_quiet_step (fail))
          refine wpQuiet_nil ?_
          refine planAct_some (fun K hK => ?_)
          refine step_fresh (W0 := W3) (ys := frames.flatMap frc) (m := n) E rfl (.tmp 39) (.tmp 41) rfl (bnew (bnew (brefl W3).drew _) _) rfl ((own_empty (brefl W3).drew (by simp)).alloc _) rfl (by rw [HL.out]) (hrd.below (bnew (bnew (brefl W3).drew _) _)) (frcs_one _) (by unfold maxLen; omega) (by omega) ?_
          intro A1 c1 w1 own1 hb1 hg1
          go_simp
          refine hK.out _ _ (ext_mem hb1) ?_
          clear hK K
          refine wpG_one ?_
          simp only [pickOps, List.getElem?_cons_succ, List.getElem?_cons_zero, Option.elim_some]
          repeat (go_big_quiet_step (fail))
          refine wpQuiet_nil ?_
          refine planAct_some (fun K hK => ?_)
          refine step_onto (W0 := W3) (ys := [.int .i64 nn, .int .i64 0, .int .u64 r0, .int .u64 r1, .int .u64 r2, .int .u64 r3, .int .u64 r4, .int .u64 r5, .int .u64 r6, .int .u64 r7, .int .u64 r8, .int .u64 r9, .int .u64 r10, .int .u64 r11, .int .u64 r12, .int .u64 r13, .int .u64 r14, .int .u64 r15]) (m := 1) E rfl (.tmp 42) (.tmp 44) rfl hb1 rfl (own1) rfl rfl (Rd.grown_ hg1 (Rd.drew (Rd.new _ _ _ (by simp))) (fun ad h => by cases h; simp)) (by simp [Value.oneCell']) (by unfold maxLen; omega) (by omega) ?_
          intro A8 c8 w8 own8 hb8 hg8
          go_simp
          refine hK.out _ _ (ext_mem hb8) ?_
          clear hK K
          have p8a := keep_below p8 hb8
          have p8f := keep_frozen pf8 hzP hb8
          have hz9 : w.heap.size < w8.heap.size := block_lt_of_cell p8a
          refine wpG_fin ?_
          simp only [pickOps, List.getElem?_cons_succ, List.getElem?_cons_zero, Option.elim_some]
          repeat (go_big_quiet_step (fail))
          refine wpQuiet_nil ?_
          refine lastG_some (fun K hK => ?_)
          go_simp
          refine hK.out _ _ ?_
          clear hK K
          refine NoPanic.normal ?_
          clear hX hzz0 hzz1
          have own8x : w8.ownsRow W3.heap.size 55 18 (.slice A8 (n + 1) c8) (n + 1) ((frames ++ [(⟨nn, 0, pad 16 rl⟩ : Fr)]).flatMap frc) := by
            rw [List.flatMap_append, List.flatMap_singleton, HPAD.out]
            exact own8
          have s8 : Sl frc w8 A8 (n + 1) c8 (frames ++ [(⟨nn, 0, pad 16 rl⟩ : Fr)]) := own_sl_fr (by simp [hF0.len]) own8x
          have n8 := own_blk18 own8x
          have hzW := kb.size
          go_wp2_with fail
          go_meet
          case rel => exact ⟨A8, c8, rfl, (hP.below_ hb8).set_ 8 _, (hO.below_ hb8).far (by simp) _, (hR.below_ hb8).far (by simp; omega) _, s8.setCell (fun ad h => by have := (n8 ad h).1; have := hP.lt; dsimp only; omega) _, (hH0.below hb8).setCell (fun ad h => by have := hHb ad h; dsimp only; omega) _, .inr fun ad h => ⟨by have := (n8 ad h).1; omega, by have := (n8 ad h).2; simpa [World.setCell] using this⟩, fun ad h => by have := (n8 ad h).1; have := hR.lt; omega, bset (bnext kb hb8) (Nat.le_refl _) _⟩
      · refine planAct_some (fun K hK => ?_)
        go_simp
        refine hK.out _ _ (ext_mem (bnew (brefl W3).drew _)) ?_
        clear hK K
        refine wpG_one ?_
        simp only [pickOps, List.getElem?_cons_succ, List.getElem?_cons_zero, Option.elim_some]
        repeat (go_big_quiet_step (fail))
        refine wpQuiet_nil ?_
        refine planAct_some (fun K hK => ?_)
        go_simp
        refine hK.out _ _ (ext_mem (bnew (bnew (brefl W3).drew _) _)) ?_
        clear hK K
        refine wpG_one ?_
        simp only [pickOps, List.getElem?_cons_succ, List.getElem?_cons_zero, Option.elim_some]
        repeat (go_big_quiet_step (fail))
        refine wpQuiet_nil ?_
        refine planAct_some (fun K hK => ?_)
        refine step_fresh (W0 := W3) (ys := frames.flatMap frc) (m := n) E rfl (.tmp 39) (.tmp 41) rfl (bnew (bnew (brefl W3).drew _) _) rfl (own_empty (bnew (brefl W3).drew _) (by simp)) rfl (by rw [HL.out]) (hrd.below (bnew (bnew (brefl W3).drew _) _)) (frcs_one _) (by unfold maxLen; omega) (by omega) ?_
        intro A1 c1 w1 own1 hb1 hg1
        go_simp
        refine hK.out _ _ (ext_mem hb1) ?_
        clear hK K
        refine wpG_one ?_
        simp only [pickOps, List.getElem?_cons_succ, List.getElem?_cons_zero, Option.elim_some]
        repeat (go_big_quiet_step (fail))
        refine wpQuiet_nil ?_
        refine planAct_some (fun K hK => ?_)
        refine step_onto (W0 := W3) (ys := [.int .i64 nn, .int .i64 0, .int .u64 r0, .int .u64 r1, .int .u64 r2, .int .u64 r3, .int .u64 r4, .int .u64 r5, .int .u64 r6, .int .u64 r7, .int .u64 r8, .int .u64 r9, .int .u64 r10, .int .u64 r11, .int .u64 r12, .int .u64 r13, .int .u64 r14, .int .u64 r15]) (m := 1) E rfl (.tmp 42) (.tmp 44) rfl hb1 rfl (own1) rfl rfl (Rd.grown_ hg1 (Rd.drew (Rd.alloc (Rd.new _ _ _ (by simp)) _)) (fun ad h => by cases h; simp)) (by simp [Value.oneCell']) (by unfold maxLen; omega) (by omega) ?_
        intro A8 c8 w8 own8 hb8 hg8
        go_simp
        refine hK.out _ _ (ext_mem hb8) ?_
        clear hK K
        have p8a := keep_below p8 hb8
        have p8f := keep_frozen pf8 hzP hb8
        have hz9 : w.heap.size < w8.heap.size := block_lt_of_cell p8a
        refine wpG_fin ?_
        simp only [pickOps, List.getElem?_cons_succ, List.getElem?_cons_zero, Option.elim_some]
        repeat (go_big_quiet_step (fail))
        refine wpQuiet_nil ?_
        refine lastG_some (fun K hK => ?_)
        go_simp
        refine hK.out _ _ ?_
        clear hK K
        refine NoPanic.normal ?_
        clear hX hzz0 hzz1
        have own8x : w8.ownsRow W3.heap.size 55 18 (.slice A8 (n + 1) c8) (n + 1) ((frames ++ [(⟨nn, 0, pad 16 rl⟩ : Fr)]).flatMap frc) := by
          rw [List.flatMap_append, List.flatMap_singleton, HPAD.out]
          exact own8
        have s8 : Sl frc w8 A8 (n + 1) c8 (frames ++ [(⟨nn, 0, pad 16 rl⟩ : Fr)]) := own_sl_fr (by simp [hF0.len]) own8x
        have n8 := own_blk18 own8x
        have hzW := kb.size
        go_wp2_with fail
        go_meet
        case rel => exact ⟨A8, c8, rfl, (hP.below_ hb8).set_ 8 _, (hO.below_ hb8).far (by simp) _, (hR.below_ hb8).far (by simp; omega) _, s8.setCell (fun ad h => by have := (n8 ad h).1; have := hP.lt; dsimp only; omega) _, (hH0.below hb8).setCell (fun ad h => by have := hHb ad h; dsimp only; omega) _, .inr fun ad h => ⟨by have := (n8 ad h).1; omega, by have := (n8 ad h).2; simpa [World.setCell] using this⟩, fun ad h => by have := (n8 ad h).1; have := hR.lt; omega, bset (bnext kb hb8) (Nat.le_refl _) _⟩
end Go.Proofs.Ytclhlgeicfhdiaa
