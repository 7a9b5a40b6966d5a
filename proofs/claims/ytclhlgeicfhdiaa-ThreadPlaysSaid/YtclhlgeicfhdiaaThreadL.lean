/- Threads: the document's step: the top frame is touched. -/
import Derived.Test.YtclhlgeicfhdiaaThreadJ
namespace Go.Proofs.Ytclhlgeicfhdiaa
set_option linter.unusedVariables false
set_option linter.unusedSimpArgs false
open Go.RowKit

theorem flat_getm {α : Type} {f : α → List Value} {s : Nat} : ∀ (l : List α) (i j : Nat) (x : α) (u : Value), (∀ y, y ∈ l → (f y).length = s) → l[i]? = some x → (f x)[j]? = some u → (l.flatMap f)[i * s + j]? = some u
  | [], i, j, x, u, _, h, _ => by simp at h
  | y :: r, 0, j, x, u, hl, h, hj => by
    have hxy : y = x := by simpa using h
    rw [hxy, List.flatMap_cons, Nat.zero_mul, Nat.zero_add, List.getElem?_append_left (List.getElem?_eq_some_iff.1 hj).1]
    exact hj
  | y :: r, i + 1, j, x, u, hl, h, hj => by
    have h' := flat_getm r i j x u (fun z hz => hl z (List.mem_cons_of_mem _ hz)) (by simpa using h) hj
    have hy := hl y (List.mem_cons_self ..)
    have e : (i + 1) * s + j = s + (i * s + j) := by rw [Nat.add_mul]; omega
    rw [List.flatMap_cons, List.getElem?_append_right (by rw [hy, e]; omega), hy, e]
    rw [show s + (i * s + j) - s = i * s + j by omega]
    exact h'
theorem flat_set {α : Type} {f : α → List Value} {s : Nat} : ∀ (l : List α) (q i : Nat) (x x' : α) (v : Value), (∀ y, y ∈ l → (f y).length = s) → l[q]? = some x → i < s → f x' = (f x).set i v → (l.flatMap f).set (q * s + i) v = (l.set q x').flatMap f
  | [], q, i, x, x', v, _, h, _, _ => by simp at h
  | y :: r, 0, i, x, x', v, hl, h, hi, hx => by
    have hxy : y = x := by simpa using h
    subst hxy
    have hy := hl y (List.mem_cons_self ..)
    rw [List.flatMap_cons, Nat.zero_mul, Nat.zero_add, List.set_append_left _ _ (by rw [hy]; exact hi), List.set_cons_zero, List.flatMap_cons, hx]
  | y :: r, q + 1, i, x, x', v, hl, h, hi, hx => by
    have hy := hl y (List.mem_cons_self ..)
    have e : (q + 1) * s + i = s + (q * s + i) := by rw [Nat.add_mul]; omega
    rw [List.flatMap_cons, List.set_append_right _ _ (by rw [hy, e]; omega), hy, e, show s + (q * s + i) - s = q * s + i by omega,
      flat_set r q i x x' v (fun z hz => hl z (List.mem_cons_of_mem _ hz)) (by simpa using h) hi hx, List.set_cons_succ, List.flatMap_cons]
theorem own_forms {w : World} {base : Nat} {e : TypeId} {s n c : Nat} {A : Option Addr} {xs : List Value} (h : w.ownsRow base e s (.slice A n c) n xs) (hn : 0 < n) :
    ∃ g, A = some ⟨g, 0, none⟩ ∧ base ≤ g ∧ g < w.heap.size ∧ (∀ k, w.frozen? ⟨g, k, none⟩ = false) ∧ ∀ k u, xs[k]? = some u → w.cell? ⟨g, k, none⟩ = some u := by
  have hc := Rd.of_own h
  rcases h.2 with ⟨hv, h0⟩ | ⟨g, cap, cur, hv, hg, hh, _⟩
  · omega
  · cases hv
    refine ⟨g, rfl, hg, Blk.lt hh, fun k => Blk.frozen hh k, fun k u hk => ?_⟩
    have := hc.some_ k u hk
    rwa [ad_flat] at this
theorem own_puts {w : World} {base : Nat} {e : TypeId} {s g n c : Nat} {xs : List Value} (h : w.ownsRow base e s (.slice (some ⟨g, 0, none⟩) n c) n xs) (k : Nat) (u : Value) :
    (w.setCell ⟨g, k, none⟩ u).ownsRow base e s (.slice (some ⟨g, 0, none⟩) n c) n (xs.set k u) := by
  rcases h.2 with ⟨hv, _⟩ | ⟨g', cap, cur, hv, hg, hh, hn, hm, hs, hx⟩
  · cases hv
  · cases hv
    refine ⟨by rw [List.length_set]; exact h.1, .inr ⟨g, c, cur.setIfInBounds k u, rfl, hg, Blk.set_ hh k u, hn, hm, by simpa using hs, ?_⟩⟩
    rw [← hx, Array.toList_setIfInBounds, List.take_set]
set_option maxHeartbeats 4000000 in
set_option maxRecDepth 100000 in
theorem rdo_none {w : World} {FA HB RA : Option Addr} {n fc m hd rn rc : Nat} {frames : List Fr} {hs rl : List Int} (hF : Sl frc w FA n fc frames) (hH : Sl us w HB m hd hs) (hr : Sl us w RA rn rc rl) (hn : n ≤ 10000) (hm : m ≤ 10000) (hrn : rn ≤ 10000) (hFb : ∀ ad, FA = some ad → ad.block < w.heap.size) (hHb : ∀ ad, HB = some ad → ad.block < w.heap.size) (a0 a1 a2 a3 a4 a5 a6 a7 : Int) (nn : Int) (hn0 : n = 0) : Calls Try.prog 16 #[.agg #[.int .u64 a0, .int .u64 a1, .int .u64 a2, .int .u64 a3, .int .u64 a4, .int .u64 a5, .int .u64 a6, .int .u64 a7, .slice FA n fc, .slice HB m hd], .agg #[.int .i64 3, .int .i64 nn, .slice RA rn rc]] w fun e w' => ∃ FA' fc' HB' hd', e = .returned (.agg #[.int .u64 a0, .int .u64 a1, .int .u64 a2, .int .u64 a3, .int .u64 a4, .int .u64 a5, .int .u64 a6, .int .u64 a7, .slice FA' (n) fc', .slice HB' (m) hd']) ∧ Sl frc w' FA' (n) fc' (frames) ∧ Sl us w' HB' (m) hd' (hs) ∧ New w w' FA FA' ∧ New w w' HB HB' ∧ Below w.heap.size w w' := by
  have t0 : ¬ ((0 : Int) < (n : Int)) := by omega
  clear hn0
  go_enter Try.func16, Try.ntmps16
  go_upto_region 1 with (fail)
  obtain ⟨W0, hW0, hP, hO, hR, hF0, hH0, hr0, kb⟩ : ∃ W0, ((w.alloc (.cells #[.int .u64 a0, .int .u64 a1, .int .u64 a2, .int .u64 a3, .int .u64 a4, .int .u64 a5, .int .u64 a6, .int .u64 a7, .slice FA n fc, .slice HB m hd] 49)).alloc (.cells #[.int .i64 3, .int .i64 nn, .slice RA rn rc] 30)).alloc (.cells #[.int .u64 0, .int .u64 0, .int .u64 0, .int .u64 0, .int .u64 0, .int .u64 0, .int .u64 0, .int .u64 0, .slice none 0 0, .slice none 0 0] 49) = W0 ∧ Blk W0 w.heap.size 49 #[.int .u64 a0, .int .u64 a1, .int .u64 a2, .int .u64 a3, .int .u64 a4, .int .u64 a5, .int .u64 a6, .int .u64 a7, .slice FA n fc, .slice HB m hd] ∧ Blk W0 (w.heap.size + 1) 30 #[.int .i64 3, .int .i64 nn, .slice RA rn rc] ∧ Blk W0 (w.heap.size + 1 + 1) 49 #[.int .u64 0, .int .u64 0, .int .u64 0, .int .u64 0, .int .u64 0, .int .u64 0, .int .u64 0, .int .u64 0, .slice none 0 0, .slice none 0 0] ∧ Sl frc W0 FA n fc frames ∧ Sl us W0 HB m hd hs ∧ Sl us W0 RA rn rc rl ∧ Below w.heap.size w W0 :=
    ⟨_, rfl, ((Blk.new w _ _).alloc _).alloc _, (by have := Blk.new (w.alloc (.cells #[.int .u64 a0, .int .u64 a1, .int .u64 a2, .int .u64 a3, .int .u64 a4, .int .u64 a5, .int .u64 a6, .int .u64 a7, .slice FA n fc, .slice HB m hd] 49)) 30 #[.int .i64 3, .int .i64 nn, .slice RA rn rc]; rw [World.size_alloc] at this; exact this.alloc _), (by have := Blk.new ((w.alloc (.cells #[.int .u64 a0, .int .u64 a1, .int .u64 a2, .int .u64 a3, .int .u64 a4, .int .u64 a5, .int .u64 a6, .int .u64 a7, .slice FA n fc, .slice HB m hd] 49)).alloc (.cells #[.int .i64 3, .int .i64 nn, .slice RA rn rc] 30)) 49 #[.int .u64 0, .int .u64 0, .int .u64 0, .int .u64 0, .int .u64 0, .int .u64 0, .int .u64 0, .int .u64 0, .slice none 0 0, .slice none 0 0]; rw [World.size_alloc, World.size_alloc] at this; exact this), ((hF.alloc _).alloc _).alloc _, ((hH.alloc _).alloc _).alloc _, ((hr.alloc _).alloc _).alloc _, bnew (bnew (bnew (brefl w) _) _) _⟩
  rw [hW0]
  clear hW0 hF hH hr
  have p0 : W0.cell? ⟨w.heap.size, 0, none⟩ = some (.int .u64 a0) := hP.cell 0
  have p1 : W0.cell? ⟨w.heap.size, 1, none⟩ = some (.int .u64 a1) := hP.cell 1
  have p2 : W0.cell? ⟨w.heap.size, 2, none⟩ = some (.int .u64 a2) := hP.cell 2
  have p3 : W0.cell? ⟨w.heap.size, 3, none⟩ = some (.int .u64 a3) := hP.cell 3
  have p4 : W0.cell? ⟨w.heap.size, 4, none⟩ = some (.int .u64 a4) := hP.cell 4
  have p5 : W0.cell? ⟨w.heap.size, 5, none⟩ = some (.int .u64 a5) := hP.cell 5
  have p6 : W0.cell? ⟨w.heap.size, 6, none⟩ = some (.int .u64 a6) := hP.cell 6
  have p7 : W0.cell? ⟨w.heap.size, 7, none⟩ = some (.int .u64 a7) := hP.cell 7
  have p8 : W0.cell? ⟨w.heap.size, 8, none⟩ = some (.slice FA n fc) := hP.cell 8
  have p9 : W0.cell? ⟨w.heap.size, 9, none⟩ = some (.slice HB m hd) := hP.cell 9
  have o0 : W0.cell? ⟨w.heap.size + 1, 0, none⟩ = some (.int .i64 3) := hO.cell 0
  have o1 : W0.cell? ⟨w.heap.size + 1, 1, none⟩ = some (.int .i64 nn) := hO.cell 1
  have o2 : W0.cell? ⟨w.heap.size + 1, 2, none⟩ = some (.slice RA rn rc) := hO.cell 2
  have z0 : W0.cell? ⟨w.heap.size + 1 + 1, 0, none⟩ = some (.int .u64 0) := hR.cell 0
  have z1 : W0.cell? ⟨w.heap.size + 1 + 1, 1, none⟩ = some (.int .u64 0) := hR.cell 1
  have z2 : W0.cell? ⟨w.heap.size + 1 + 1, 2, none⟩ = some (.int .u64 0) := hR.cell 2
  have z3 : W0.cell? ⟨w.heap.size + 1 + 1, 3, none⟩ = some (.int .u64 0) := hR.cell 3
  have z4 : W0.cell? ⟨w.heap.size + 1 + 1, 4, none⟩ = some (.int .u64 0) := hR.cell 4
  have z5 : W0.cell? ⟨w.heap.size + 1 + 1, 5, none⟩ = some (.int .u64 0) := hR.cell 5
  have z6 : W0.cell? ⟨w.heap.size + 1 + 1, 6, none⟩ = some (.int .u64 0) := hR.cell 6
  have z7 : W0.cell? ⟨w.heap.size + 1 + 1, 7, none⟩ = some (.int .u64 0) := hR.cell 7
  have z8 : W0.cell? ⟨w.heap.size + 1 + 1, 8, none⟩ = some (.slice none 0 0) := hR.cell 8
  have z9 : W0.cell? ⟨w.heap.size + 1 + 1, 9, none⟩ = some (.slice none 0 0) := hR.cell 9
  have zf0 := hR.frozen 0
  have zf1 := hR.frozen 1
  have zf2 := hR.frozen 2
  have zf3 := hR.frozen 3
  have zf4 := hR.frozen 4
  have zf5 := hR.frozen 5
  have zf6 := hR.frozen 6
  have zf7 := hR.frozen 7
  have zf8 := hR.frozen 8
  have zf9 := hR.frozen 9
  have hzP := hP.lt
  have hzO := hO.lt
  have hzR := hR.lt
  go_wp2_with fail
  refine bodyPost_ret (v := .agg #[.int .u64 a0, .int .u64 a1, .int .u64 a2, .int .u64 a3, .int .u64 a4, .int .u64 a5, .int .u64 a6, .int .u64 a7, .slice FA n fc, .slice HB m hd]) (by simp [results, Try.results16, go_sem, z0, z1, z2, z3, z4, z5, z6, z7, z8, z9, hzR]) rfl ⟨FA, fc, HB, hd, rfl, hF0.ten (fun ad h => by have := hFb ad h; omega) _ _ _ _ _ _ _ _ _ _, hH0.ten (fun ad h => by have := hHb ad h; omega) _ _ _ _ _ _ _ _ _ _, (New.same (w := W0)).ten _ _ _ _ _ _ _ _ _ _ _, (New.same (w := W0)).ten _ _ _ _ _ _ _ _ _ _ _, below_ten kb (by omega) _ _ _ _ _ _ _ _ _ _⟩
set_option maxHeartbeats 4000000 in
set_option maxRecDepth 100000 in
theorem rdo_neg {w : World} {FA HB RA : Option Addr} {n fc m hd rn rc : Nat} {frames : List Fr} {hs rl : List Int} (hF : Sl frc w FA n fc frames) (hH : Sl us w HB m hd hs) (hr : Sl us w RA rn rc rl) (hn : n ≤ 10000) (hm : m ≤ 10000) (hrn : rn ≤ 10000) (hFb : ∀ ad, FA = some ad → ad.block < w.heap.size) (hHb : ∀ ad, HB = some ad → ad.block < w.heap.size) (a0 a1 a2 a3 a4 a5 a6 a7 : Int) (h16 : ∀ f, f ∈ frames → f.r.length = 16) (nn : Int) (q : Nat) (hq : n = q + 1) (f : Fr) (hfq : frames[q]? = some f) (hnn : nn < 0) : Calls Try.prog 16 #[.agg #[.int .u64 a0, .int .u64 a1, .int .u64 a2, .int .u64 a3, .int .u64 a4, .int .u64 a5, .int .u64 a6, .int .u64 a7, .slice FA n fc, .slice HB m hd], .agg #[.int .i64 3, .int .i64 nn, .slice RA rn rc]] w fun e w' => ∃ FA' fc' HB' hd', e = .returned (.agg #[.int .u64 a0, .int .u64 a1, .int .u64 a2, .int .u64 a3, .int .u64 a4, .int .u64 a5, .int .u64 a6, .int .u64 a7, .slice FA' (n) fc', .slice HB' (m) hd']) ∧ Sl frc w' FA' (n) fc' (frames.set q ⟨f.fn, nn, f.r⟩) ∧ Sl us w' HB' (m) hd' (hs) ∧ New w w' FA FA' ∧ New w w' HB HB' ∧ Below w.heap.size w w' := by
  obtain ⟨i0, E⟩ := elem_f
  have t0 : (0 : Int) < (n : Int) := by omega
  have hsub : (n : Int) - 1 = (q : Int) := by omega
  have hq0 : (0 : Int) ≤ (q : Int) := by omega
  have hqn : (q : Int) < (n : Int) := by omega
  have hn0 : 0 < n := by omega
  have tn : ¬ (0 ≤ nn) := by omega
  skip
  clear hq
  have HFQ := Lib.hid hfq
  clear hfq
  skip
  skip
  have HSB := Lib.hid hsub
  skip
  clear hsub 
  go_enter Try.func16, Try.ntmps16
  go_upto_region 1 with (fail)
  obtain ⟨W0, hW0, hP, hO, hR, hF0, hH0, hr0, kb⟩ : ∃ W0, ((w.alloc (.cells #[.int .u64 a0, .int .u64 a1, .int .u64 a2, .int .u64 a3, .int .u64 a4, .int .u64 a5, .int .u64 a6, .int .u64 a7, .slice FA n fc, .slice HB m hd] 49)).alloc (.cells #[.int .i64 3, .int .i64 nn, .slice RA rn rc] 30)).alloc (.cells #[.int .u64 0, .int .u64 0, .int .u64 0, .int .u64 0, .int .u64 0, .int .u64 0, .int .u64 0, .int .u64 0, .slice none 0 0, .slice none 0 0] 49) = W0 ∧ Blk W0 w.heap.size 49 #[.int .u64 a0, .int .u64 a1, .int .u64 a2, .int .u64 a3, .int .u64 a4, .int .u64 a5, .int .u64 a6, .int .u64 a7, .slice FA n fc, .slice HB m hd] ∧ Blk W0 (w.heap.size + 1) 30 #[.int .i64 3, .int .i64 nn, .slice RA rn rc] ∧ Blk W0 (w.heap.size + 1 + 1) 49 #[.int .u64 0, .int .u64 0, .int .u64 0, .int .u64 0, .int .u64 0, .int .u64 0, .int .u64 0, .int .u64 0, .slice none 0 0, .slice none 0 0] ∧ Sl frc W0 FA n fc frames ∧ Sl us W0 HB m hd hs ∧ Sl us W0 RA rn rc rl ∧ Below w.heap.size w W0 :=
    ⟨_, rfl, ((Blk.new w _ _).alloc _).alloc _, (by have := Blk.new (w.alloc (.cells #[.int .u64 a0, .int .u64 a1, .int .u64 a2, .int .u64 a3, .int .u64 a4, .int .u64 a5, .int .u64 a6, .int .u64 a7, .slice FA n fc, .slice HB m hd] 49)) 30 #[.int .i64 3, .int .i64 nn, .slice RA rn rc]; rw [World.size_alloc] at this; exact this.alloc _), (by have := Blk.new ((w.alloc (.cells #[.int .u64 a0, .int .u64 a1, .int .u64 a2, .int .u64 a3, .int .u64 a4, .int .u64 a5, .int .u64 a6, .int .u64 a7, .slice FA n fc, .slice HB m hd] 49)).alloc (.cells #[.int .i64 3, .int .i64 nn, .slice RA rn rc] 30)) 49 #[.int .u64 0, .int .u64 0, .int .u64 0, .int .u64 0, .int .u64 0, .int .u64 0, .int .u64 0, .int .u64 0, .slice none 0 0, .slice none 0 0]; rw [World.size_alloc, World.size_alloc] at this; exact this), ((hF.alloc _).alloc _).alloc _, ((hH.alloc _).alloc _).alloc _, ((hr.alloc _).alloc _).alloc _, bnew (bnew (bnew (brefl w) _) _) _⟩
  rw [hW0]
  clear hW0 hF hH hr
  have p0 : W0.cell? ⟨w.heap.size, 0, none⟩ = some (.int .u64 a0) := hP.cell 0
  have p1 : W0.cell? ⟨w.heap.size, 1, none⟩ = some (.int .u64 a1) := hP.cell 1
  have p2 : W0.cell? ⟨w.heap.size, 2, none⟩ = some (.int .u64 a2) := hP.cell 2
  have p3 : W0.cell? ⟨w.heap.size, 3, none⟩ = some (.int .u64 a3) := hP.cell 3
  have p4 : W0.cell? ⟨w.heap.size, 4, none⟩ = some (.int .u64 a4) := hP.cell 4
  have p5 : W0.cell? ⟨w.heap.size, 5, none⟩ = some (.int .u64 a5) := hP.cell 5
  have p6 : W0.cell? ⟨w.heap.size, 6, none⟩ = some (.int .u64 a6) := hP.cell 6
  have p7 : W0.cell? ⟨w.heap.size, 7, none⟩ = some (.int .u64 a7) := hP.cell 7
  have p8 : W0.cell? ⟨w.heap.size, 8, none⟩ = some (.slice FA n fc) := hP.cell 8
  have p9 : W0.cell? ⟨w.heap.size, 9, none⟩ = some (.slice HB m hd) := hP.cell 9
  have o0 : W0.cell? ⟨w.heap.size + 1, 0, none⟩ = some (.int .i64 3) := hO.cell 0
  have o1 : W0.cell? ⟨w.heap.size + 1, 1, none⟩ = some (.int .i64 nn) := hO.cell 1
  have o2 : W0.cell? ⟨w.heap.size + 1, 2, none⟩ = some (.slice RA rn rc) := hO.cell 2
  have pf8 := hP.frozen 8
  have hzP := hP.lt
  have hzO := hO.lt
  have hzR := hR.lt
  have hrd := hF0.rd
  have hL : (frames.flatMap frc).length = n * 18 := by rw [frcs_len frames h16, hF0.len]
  have HL := Lib.hid hL
  clear hL
  have hRlt := hR.lt
  go_upto_region 23 with (at_builtin; refine wpList_fresh (W0 := W0) (ys := frames.flatMap frc) (m := n) E rfl (.tmp 94) (.tmp 96) rfl (bnew (brefl W0) _) rfl (own_empty (brefl W0) rfl) rfl (by rw [HL.out]) (hrd.alloc _) (frcs_one _) (by unfold maxLen; omega) (by omega) ?_; intro A1 c1 w1 own1 hb1 _)
  have hP := hP.below_ hb1
  have hO := hO.below_ hb1
  have hR := hR.below_ hb1
  have hH0 := hH0.below hb1
  have kb := bnext kb hb1
  clear p0 p1 p2 p3 p4 p5 p6 p7 p8 p9 o0 o1 o2 pf8 hzP hzO hzR hrd hr0 hF0
  obtain ⟨g, rfl, hg1, hg2, hgf, hgc⟩ := own_forms own1 hn0
  have hl18 : ∀ y, y ∈ frames → (frc y).length = 18 := fun y hy => frc_len y (h16 y hy)
  have y1 : w1.cell? ⟨g, q * 18 + 1, none⟩ = some (.int .i64 f.at_) := hgc _ _ (flat_getm frames q 1 f _ hl18 HFQ.out rfl)
  have yf1 := hgf (q * 18 + 1)
  have hgW : w.heap.size + 1 + 1 < g := by omega
  have own2 := own_puts own1 (q * 18 + 1) (.int .i64 nn)
  rw [flat_set frames q 1 f ⟨f.fn, nn, f.r⟩ (.int .i64 nn) hl18 HFQ.out (by decide) (by simp [frc])] at own2
  have o1 : w1.cell? ⟨w.heap.size + 1, 1, none⟩ = some (.int .i64 nn) := hO.cell 1
  have hzO := hO.lt
  have hzP := hP.lt
  have hsub := HSB.out
  go_upto_region 24 with (fail)
  obtain ⟨W2, hW2, hP, hO, hR, hH0, kb, own2, hk2⟩ : ∃ W2, w1.setCell ⟨g, q * 18 + 1, none⟩ (.int .i64 nn) = W2 ∧ Blk W2 w.heap.size 49 #[.int .u64 a0, .int .u64 a1, .int .u64 a2, .int .u64 a3, .int .u64 a4, .int .u64 a5, .int .u64 a6, .int .u64 a7, .slice FA n fc, .slice HB m hd] ∧ Blk W2 (w.heap.size + 1) 30 #[.int .i64 3, .int .i64 nn, .slice RA rn rc] ∧ Blk W2 (w.heap.size + 1 + 1) 49 #[.int .u64 0, .int .u64 0, .int .u64 0, .int .u64 0, .int .u64 0, .int .u64 0, .int .u64 0, .int .u64 0, .slice none 0 0, .slice none 0 0] ∧ Sl us W2 HB m hd hs ∧ Below w.heap.size w W2 ∧ W2.ownsRow W0.heap.size 55 18 (.slice (some ⟨g, 0, none⟩) n c1) n ((frames.set q ⟨f.fn, nn, f.r⟩).flatMap frc) ∧ (g < W2.heap.size) :=
    ⟨_, rfl, hP.far (by dsimp only; omega) _, hO.far (by dsimp only; omega) _, hR.far (by dsimp only; omega) _, hH0.setCell (fun ad h => by have := hHb ad h; dsimp only; omega) _, bset kb (by dsimp only; omega) _, own2, by simpa [World.setCell] using hg2⟩
  rw [hW2]
  clear hW2 y1 yf1 o1 hzO hzP hgf hgc own1 hb1 hg2 hsub
  have o1 : W2.cell? ⟨w.heap.size + 1, 1, none⟩ = some (.int .i64 nn) := hO.cell 1
  have hzO := hO.lt
  have hln : (frames.set q ⟨f.fn, nn, f.r⟩).length = n := by have := own2.1; have h18 := frcs_len (frames.set q ⟨f.fn, nn, f.r⟩) (fun z hz => by rcases List.mem_or_eq_of_mem_set hz with hz | hz; exact h16 z hz; rw [hz]; exact h16 f (List.mem_of_getElem? HFQ.out)); omega
  go_upto_region 26 with (fail)
  obtain ⟨W3, rfl⟩ : ∃ W3, W3 = W2 := ⟨_, rfl⟩
  have own3 := own2
  clear o1 hzO own2
  have p0 : W3.cell? ⟨w.heap.size, 0, none⟩ = some (.int .u64 a0) := hP.cell 0
  have p1 : W3.cell? ⟨w.heap.size, 1, none⟩ = some (.int .u64 a1) := hP.cell 1
  have p2 : W3.cell? ⟨w.heap.size, 2, none⟩ = some (.int .u64 a2) := hP.cell 2
  have p3 : W3.cell? ⟨w.heap.size, 3, none⟩ = some (.int .u64 a3) := hP.cell 3
  have p4 : W3.cell? ⟨w.heap.size, 4, none⟩ = some (.int .u64 a4) := hP.cell 4
  have p5 : W3.cell? ⟨w.heap.size, 5, none⟩ = some (.int .u64 a5) := hP.cell 5
  have p6 : W3.cell? ⟨w.heap.size, 6, none⟩ = some (.int .u64 a6) := hP.cell 6
  have p7 : W3.cell? ⟨w.heap.size, 7, none⟩ = some (.int .u64 a7) := hP.cell 7
  have p8 : W3.cell? ⟨w.heap.size, 8, none⟩ = some (.slice FA n fc) := hP.cell 8
  have p9 : W3.cell? ⟨w.heap.size, 9, none⟩ = some (.slice HB m hd) := hP.cell 9
  have pf8 := hP.frozen 8
  have hzP := hP.lt
  have hzO := hO.lt
  have hzR := hR.lt
  go_upto_region 27 with (fail)
  obtain ⟨W9, hW9, hP, hO, hR, sF, sH, nF, n8, kb9⟩ : ∃ W9, W3.setCell ⟨w.heap.size, 8, none⟩ (.slice (some ⟨g, 0, none⟩) n c1) = W9 ∧ Blk W9 w.heap.size 49 #[.int .u64 a0, .int .u64 a1, .int .u64 a2, .int .u64 a3, .int .u64 a4, .int .u64 a5, .int .u64 a6, .int .u64 a7, .slice (some ⟨g, 0, none⟩) n c1, .slice HB m hd] ∧ Blk W9 (w.heap.size + 1) 30 #[.int .i64 3, .int .i64 nn, .slice RA rn rc] ∧ Blk W9 (w.heap.size + 1 + 1) 49 #[.int .u64 0, .int .u64 0, .int .u64 0, .int .u64 0, .int .u64 0, .int .u64 0, .int .u64 0, .int .u64 0, .slice none 0 0, .slice none 0 0] ∧ Sl frc W9 (some ⟨g, 0, none⟩) n c1 (frames.set q ⟨f.fn, nn, f.r⟩) ∧ Sl us W9 HB m hd hs ∧ New w W9 FA (some ⟨g, 0, none⟩) ∧ (∀ ad, (some (⟨g, 0, none⟩ : Addr)) = some ad → w.heap.size + 1 + 1 < ad.block) ∧ Below w.heap.size w W9 :=
    ⟨_, rfl, hP.set_ 8 _, hO.far (by simp) _, hR.far (by simp; omega) _, (own_sl_fr hln own3).setCell (fun ad h => by cases h; dsimp only; omega) _, hH0.setCell (fun ad h => by have := hHb ad h; dsimp only; omega) _, .inr fun ad h => ⟨by cases h; dsimp only; omega, by cases h; have := (own_blk18 own3 _ rfl).2; simpa [World.setCell] using this⟩, fun ad h => by cases h; exact hgW, bset kb (Nat.le_refl _) _⟩
  rw [hW9]
  clear hW9 p0 p1 p2 p3 p4 p5 p6 p7 p8 p9 pf8 hzP hzO hzR
  have p0 : W9.cell? ⟨w.heap.size, 0, none⟩ = some (.int .u64 a0) := hP.cell 0
  have p1 : W9.cell? ⟨w.heap.size, 1, none⟩ = some (.int .u64 a1) := hP.cell 1
  have p2 : W9.cell? ⟨w.heap.size, 2, none⟩ = some (.int .u64 a2) := hP.cell 2
  have p3 : W9.cell? ⟨w.heap.size, 3, none⟩ = some (.int .u64 a3) := hP.cell 3
  have p4 : W9.cell? ⟨w.heap.size, 4, none⟩ = some (.int .u64 a4) := hP.cell 4
  have p5 : W9.cell? ⟨w.heap.size, 5, none⟩ = some (.int .u64 a5) := hP.cell 5
  have p6 : W9.cell? ⟨w.heap.size, 6, none⟩ = some (.int .u64 a6) := hP.cell 6
  have p7 : W9.cell? ⟨w.heap.size, 7, none⟩ = some (.int .u64 a7) := hP.cell 7
  have p8 : W9.cell? ⟨w.heap.size, 8, none⟩ = some (.slice (some ⟨g, 0, none⟩) (n) c1) := hP.cell 8
  have p9 : W9.cell? ⟨w.heap.size, 9, none⟩ = some (.slice HB (m) hd) := hP.cell 9
  have z0 : W9.cell? ⟨w.heap.size + 1 + 1, 0, none⟩ = some (.int .u64 0) := hR.cell 0
  have z1 : W9.cell? ⟨w.heap.size + 1 + 1, 1, none⟩ = some (.int .u64 0) := hR.cell 1
  have z2 : W9.cell? ⟨w.heap.size + 1 + 1, 2, none⟩ = some (.int .u64 0) := hR.cell 2
  have z3 : W9.cell? ⟨w.heap.size + 1 + 1, 3, none⟩ = some (.int .u64 0) := hR.cell 3
  have z4 : W9.cell? ⟨w.heap.size + 1 + 1, 4, none⟩ = some (.int .u64 0) := hR.cell 4
  have z5 : W9.cell? ⟨w.heap.size + 1 + 1, 5, none⟩ = some (.int .u64 0) := hR.cell 5
  have z6 : W9.cell? ⟨w.heap.size + 1 + 1, 6, none⟩ = some (.int .u64 0) := hR.cell 6
  have z7 : W9.cell? ⟨w.heap.size + 1 + 1, 7, none⟩ = some (.int .u64 0) := hR.cell 7
  have z8 : W9.cell? ⟨w.heap.size + 1 + 1, 8, none⟩ = some (.slice none 0 0) := hR.cell 8
  have z9 : W9.cell? ⟨w.heap.size + 1 + 1, 9, none⟩ = some (.slice none 0 0) := hR.cell 9
  have zf0 := hR.frozen 0
  have zf1 := hR.frozen 1
  have zf2 := hR.frozen 2
  have zf3 := hR.frozen 3
  have zf4 := hR.frozen 4
  have zf5 := hR.frozen 5
  have zf6 := hR.frozen 6
  have zf7 := hR.frozen 7
  have zf8 := hR.frozen 8
  have zf9 := hR.frozen 9
  have hzP := hP.lt
  have hzO := hO.lt
  have hzR := hR.lt
  go_wp2_with fail
  refine bodyPost_ret (v := .agg #[.int .u64 a0, .int .u64 a1, .int .u64 a2, .int .u64 a3, .int .u64 a4, .int .u64 a5, .int .u64 a6, .int .u64 a7, .slice (some ⟨g, 0, none⟩) (n) c1, .slice HB (m) hd]) (by simp [results, Try.results16, go_sem, z0, z1, z2, z3, z4, z5, z6, z7, z8, z9, hzR]) rfl ⟨(some ⟨g, 0, none⟩), c1, HB, hd, rfl, sF.ten (fun ad h => by have := n8 ad h; omega) _ _ _ _ _ _ _ _ _ _, sH.ten (fun ad h => by have := hHb ad h; omega) _ _ _ _ _ _ _ _ _ _, nF.ten _ _ _ _ _ _ _ _ _ _ _, (New.same (w := W9)).ten _ _ _ _ _ _ _ _ _ _ _, below_ten kb9 (by omega) _ _ _ _ _ _ _ _ _ _⟩
set_option maxHeartbeats 4000000 in
set_option maxRecDepth 100000 in
theorem rdo_pos {w : World} {FA HB RA : Option Addr} {n fc m hd rn rc : Nat} {frames : List Fr} {hs rl : List Int} (hF : Sl frc w FA n fc frames) (hH : Sl us w HB m hd hs) (hr : Sl us w RA rn rc rl) (hn : n ≤ 10000) (hm : m ≤ 10000) (hrn : rn ≤ 10000) (hFb : ∀ ad, FA = some ad → ad.block < w.heap.size) (hHb : ∀ ad, HB = some ad → ad.block < w.heap.size) (a0 a1 a2 a3 a4 a5 a6 a7 : Int) (h16 : ∀ f, f ∈ frames → f.r.length = 16) (nn : Int) (q : Nat) (hq : n = q + 1) (f : Fr) (hfq : frames[q]? = some f) (hnn : 0 ≤ nn) (j : Nat) (x : Int) (hj : nn.tmod 16 = (j : Int)) (hj2 : j < 16) (hx : f.r[j]? = some x) : Calls Try.prog 16 #[.agg #[.int .u64 a0, .int .u64 a1, .int .u64 a2, .int .u64 a3, .int .u64 a4, .int .u64 a5, .int .u64 a6, .int .u64 a7, .slice FA n fc, .slice HB m hd], .agg #[.int .i64 3, .int .i64 nn, .slice RA rn rc]] w fun e w' => ∃ FA' fc' HB' hd', e = .returned (.agg #[.int .u64 a0, .int .u64 a1, .int .u64 a2, .int .u64 a3, .int .u64 a4, .int .u64 a5, .int .u64 a6, .int .u64 a7, .slice FA' (n) fc', .slice HB' (m) hd']) ∧ Sl frc w' FA' (n) fc' (frames.set q ⟨f.fn, nn, f.r.set j (IntKind.u64.wrap (x + 1))⟩) ∧ Sl us w' HB' (m) hd' (hs) ∧ New w w' FA FA' ∧ New w w' HB HB' ∧ Below w.heap.size w w' := by
  obtain ⟨i0, E⟩ := elem_f
  have t0 : (0 : Int) < (n : Int) := by omega
  have hsub : (n : Int) - 1 = (q : Int) := by omega
  have hq0 : (0 : Int) ≤ (q : Int) := by omega
  have hqn : (q : Int) < (n : Int) := by omega
  have hn0 : 0 < n := by omega
  have hj0 : (0 : Int) ≤ (j : Int) := by omega
  have hj1 : (j : Int) < 16 := by omega
  clear hq
  have HFQ := Lib.hid hfq
  clear hfq
  have HX := Lib.hid hx
  clear hx
  have HSB := Lib.hid hsub
  have HJ := Lib.hid hj
  clear hsub hj
  go_enter Try.func16, Try.ntmps16
  go_upto_region 1 with (fail)
  obtain ⟨W0, hW0, hP, hO, hR, hF0, hH0, hr0, kb⟩ : ∃ W0, ((w.alloc (.cells #[.int .u64 a0, .int .u64 a1, .int .u64 a2, .int .u64 a3, .int .u64 a4, .int .u64 a5, .int .u64 a6, .int .u64 a7, .slice FA n fc, .slice HB m hd] 49)).alloc (.cells #[.int .i64 3, .int .i64 nn, .slice RA rn rc] 30)).alloc (.cells #[.int .u64 0, .int .u64 0, .int .u64 0, .int .u64 0, .int .u64 0, .int .u64 0, .int .u64 0, .int .u64 0, .slice none 0 0, .slice none 0 0] 49) = W0 ∧ Blk W0 w.heap.size 49 #[.int .u64 a0, .int .u64 a1, .int .u64 a2, .int .u64 a3, .int .u64 a4, .int .u64 a5, .int .u64 a6, .int .u64 a7, .slice FA n fc, .slice HB m hd] ∧ Blk W0 (w.heap.size + 1) 30 #[.int .i64 3, .int .i64 nn, .slice RA rn rc] ∧ Blk W0 (w.heap.size + 1 + 1) 49 #[.int .u64 0, .int .u64 0, .int .u64 0, .int .u64 0, .int .u64 0, .int .u64 0, .int .u64 0, .int .u64 0, .slice none 0 0, .slice none 0 0] ∧ Sl frc W0 FA n fc frames ∧ Sl us W0 HB m hd hs ∧ Sl us W0 RA rn rc rl ∧ Below w.heap.size w W0 :=
    ⟨_, rfl, ((Blk.new w _ _).alloc _).alloc _, (by have := Blk.new (w.alloc (.cells #[.int .u64 a0, .int .u64 a1, .int .u64 a2, .int .u64 a3, .int .u64 a4, .int .u64 a5, .int .u64 a6, .int .u64 a7, .slice FA n fc, .slice HB m hd] 49)) 30 #[.int .i64 3, .int .i64 nn, .slice RA rn rc]; rw [World.size_alloc] at this; exact this.alloc _), (by have := Blk.new ((w.alloc (.cells #[.int .u64 a0, .int .u64 a1, .int .u64 a2, .int .u64 a3, .int .u64 a4, .int .u64 a5, .int .u64 a6, .int .u64 a7, .slice FA n fc, .slice HB m hd] 49)).alloc (.cells #[.int .i64 3, .int .i64 nn, .slice RA rn rc] 30)) 49 #[.int .u64 0, .int .u64 0, .int .u64 0, .int .u64 0, .int .u64 0, .int .u64 0, .int .u64 0, .int .u64 0, .slice none 0 0, .slice none 0 0]; rw [World.size_alloc, World.size_alloc] at this; exact this), ((hF.alloc _).alloc _).alloc _, ((hH.alloc _).alloc _).alloc _, ((hr.alloc _).alloc _).alloc _, bnew (bnew (bnew (brefl w) _) _) _⟩
  rw [hW0]
  clear hW0 hF hH hr
  have p0 : W0.cell? ⟨w.heap.size, 0, none⟩ = some (.int .u64 a0) := hP.cell 0
  have p1 : W0.cell? ⟨w.heap.size, 1, none⟩ = some (.int .u64 a1) := hP.cell 1
  have p2 : W0.cell? ⟨w.heap.size, 2, none⟩ = some (.int .u64 a2) := hP.cell 2
  have p3 : W0.cell? ⟨w.heap.size, 3, none⟩ = some (.int .u64 a3) := hP.cell 3
  have p4 : W0.cell? ⟨w.heap.size, 4, none⟩ = some (.int .u64 a4) := hP.cell 4
  have p5 : W0.cell? ⟨w.heap.size, 5, none⟩ = some (.int .u64 a5) := hP.cell 5
  have p6 : W0.cell? ⟨w.heap.size, 6, none⟩ = some (.int .u64 a6) := hP.cell 6
  have p7 : W0.cell? ⟨w.heap.size, 7, none⟩ = some (.int .u64 a7) := hP.cell 7
  have p8 : W0.cell? ⟨w.heap.size, 8, none⟩ = some (.slice FA n fc) := hP.cell 8
  have p9 : W0.cell? ⟨w.heap.size, 9, none⟩ = some (.slice HB m hd) := hP.cell 9
  have o0 : W0.cell? ⟨w.heap.size + 1, 0, none⟩ = some (.int .i64 3) := hO.cell 0
  have o1 : W0.cell? ⟨w.heap.size + 1, 1, none⟩ = some (.int .i64 nn) := hO.cell 1
  have o2 : W0.cell? ⟨w.heap.size + 1, 2, none⟩ = some (.slice RA rn rc) := hO.cell 2
  have pf8 := hP.frozen 8
  have hzP := hP.lt
  have hzO := hO.lt
  have hzR := hR.lt
  have hrd := hF0.rd
  have hL : (frames.flatMap frc).length = n * 18 := by rw [frcs_len frames h16, hF0.len]
  have HL := Lib.hid hL
  clear hL
  have hRlt := hR.lt
  go_upto_region 23 with (at_builtin; refine wpList_fresh (W0 := W0) (ys := frames.flatMap frc) (m := n) E rfl (.tmp 94) (.tmp 96) rfl (bnew (brefl W0) _) rfl (own_empty (brefl W0) rfl) rfl (by rw [HL.out]) (hrd.alloc _) (frcs_one _) (by unfold maxLen; omega) (by omega) ?_; intro A1 c1 w1 own1 hb1 _)
  have hP := hP.below_ hb1
  have hO := hO.below_ hb1
  have hR := hR.below_ hb1
  have hH0 := hH0.below hb1
  have kb := bnext kb hb1
  clear p0 p1 p2 p3 p4 p5 p6 p7 p8 p9 o0 o1 o2 pf8 hzP hzO hzR hrd hr0 hF0
  obtain ⟨g, rfl, hg1, hg2, hgf, hgc⟩ := own_forms own1 hn0
  have hl18 : ∀ y, y ∈ frames → (frc y).length = 18 := fun y hy => frc_len y (h16 y hy)
  have y1 : w1.cell? ⟨g, q * 18 + 1, none⟩ = some (.int .i64 f.at_) := hgc _ _ (flat_getm frames q 1 f _ hl18 HFQ.out rfl)
  have yf1 := hgf (q * 18 + 1)
  have hgW : w.heap.size + 1 + 1 < g := by omega
  have own2 := own_puts own1 (q * 18 + 1) (.int .i64 nn)
  rw [flat_set frames q 1 f ⟨f.fn, nn, f.r⟩ (.int .i64 nn) hl18 HFQ.out (by decide) (by simp [frc])] at own2
  have o1 : w1.cell? ⟨w.heap.size + 1, 1, none⟩ = some (.int .i64 nn) := hO.cell 1
  have hzO := hO.lt
  have hzP := hP.lt
  have hsub := HSB.out
  go_upto_region 24 with (fail)
  obtain ⟨W2, hW2, hP, hO, hR, hH0, kb, own2, hk2⟩ : ∃ W2, w1.setCell ⟨g, q * 18 + 1, none⟩ (.int .i64 nn) = W2 ∧ Blk W2 w.heap.size 49 #[.int .u64 a0, .int .u64 a1, .int .u64 a2, .int .u64 a3, .int .u64 a4, .int .u64 a5, .int .u64 a6, .int .u64 a7, .slice FA n fc, .slice HB m hd] ∧ Blk W2 (w.heap.size + 1) 30 #[.int .i64 3, .int .i64 nn, .slice RA rn rc] ∧ Blk W2 (w.heap.size + 1 + 1) 49 #[.int .u64 0, .int .u64 0, .int .u64 0, .int .u64 0, .int .u64 0, .int .u64 0, .int .u64 0, .int .u64 0, .slice none 0 0, .slice none 0 0] ∧ Sl us W2 HB m hd hs ∧ Below w.heap.size w W2 ∧ W2.ownsRow W0.heap.size 55 18 (.slice (some ⟨g, 0, none⟩) n c1) n ((frames.set q ⟨f.fn, nn, f.r⟩).flatMap frc) ∧ (g < W2.heap.size) :=
    ⟨_, rfl, hP.far (by dsimp only; omega) _, hO.far (by dsimp only; omega) _, hR.far (by dsimp only; omega) _, hH0.setCell (fun ad h => by have := hHb ad h; dsimp only; omega) _, bset kb (by dsimp only; omega) _, own2, by simpa [World.setCell] using hg2⟩
  rw [hW2]
  clear hW2 y1 yf1 o1 hzO hzP hgf hgc own1 hb1 hg2 hsub
  have o1 : W2.cell? ⟨w.heap.size + 1, 1, none⟩ = some (.int .i64 nn) := hO.cell 1
  have hzO := hO.lt
  have hln : (frames.set q ⟨f.fn, nn, f.r⟩).length = n := by have := own2.1; have h18 := frcs_len (frames.set q ⟨f.fn, nn, f.r⟩) (fun z hz => by rcases List.mem_or_eq_of_mem_set hz with hz | hz; exact h16 z hz; rw [hz]; exact h16 f (List.mem_of_getElem? HFQ.out)); omega
  obtain ⟨g', hgg, _, _, hgf, hgc⟩ := own_forms own2 hn0
  cases hgg
  have hl18' : ∀ y, y ∈ frames.set q ⟨f.fn, nn, f.r⟩ → (frc y).length = 18 := fun z hz => frc_len z (by rcases List.mem_or_eq_of_mem_set hz with hz | hz; exact h16 z hz; rw [hz]; exact h16 f (List.mem_of_getElem? HFQ.out))
  have hq18 : (frames.set q ⟨f.fn, nn, f.r⟩)[q]? = some ⟨f.fn, nn, f.r⟩ := List.getElem?_set_self (List.getElem?_eq_some_iff.1 HFQ.out).1
  have y2 : W2.cell? ⟨g, q * 18 + (2 + j), none⟩ = some (.int .u64 x) := hgc _ _ (flat_getm _ q (2 + j) _ _ hl18' hq18 (by simp [frc, uc, List.getElem?_cons, HX.out, show 2 + j ≠ 0 by omega, show 2 + j - 1 ≠ 0 by omega, show 2 + j - 1 - 1 = j by omega]))
  have y2' : W2.cell? ⟨g, q * 18 + 2 + j, none⟩ = some (.int .u64 x) := by rw [Nat.add_assoc]; exact y2
  have yf2 := hgf (q * 18 + 2 + j)
  have own3 := own_puts own2 (q * 18 + (2 + j)) (.int .u64 (IntKind.u64.wrap (x + 1)))
  rw [flat_set _ q (2 + j) ⟨f.fn, nn, f.r⟩ ⟨f.fn, nn, f.r.set j (IntKind.u64.wrap (x + 1))⟩ (.int .u64 (IntKind.u64.wrap (x + 1))) hl18' hq18 (by omega) (by simp only [frc, List.map_set]; rw [show 2 + j = j + 1 + 1 by omega]; simp [List.set_cons_succ, uc]), List.set_set, ← Nat.add_assoc] at own3
  have hsub := HSB.out
  have hsubw : IntKind.i64.wrap ((q : Nat) : Int) = (q : Int) := IntWalk.i64_in _ (by omega)
  have hj := HJ.out
  go_wp2_with fail
  refine wp_tail 14 (by kernel_rfl) (by kernel_rfl) ?_
  simp only [List.take_succ_cons, List.take_zero, List.drop_succ_cons, List.drop_zero]
  repeat still_step
  refine wpStill_nil ?_
  go_upto_region 26 with (fail)
  obtain ⟨W3, hW3, hP, hO, hR, hH0, kb, own3⟩ : ∃ W3, (W2.setCell ⟨g, q * 18 + 2 + j, none⟩ (.int .u64 (IntKind.u64.wrap (x + 1)))).drew = W3 ∧ Blk W3 w.heap.size 49 #[.int .u64 a0, .int .u64 a1, .int .u64 a2, .int .u64 a3, .int .u64 a4, .int .u64 a5, .int .u64 a6, .int .u64 a7, .slice FA n fc, .slice HB m hd] ∧ Blk W3 (w.heap.size + 1) 30 #[.int .i64 3, .int .i64 nn, .slice RA rn rc] ∧ Blk W3 (w.heap.size + 1 + 1) 49 #[.int .u64 0, .int .u64 0, .int .u64 0, .int .u64 0, .int .u64 0, .int .u64 0, .int .u64 0, .int .u64 0, .slice none 0 0, .slice none 0 0] ∧ Sl us W3 HB m hd hs ∧ Below w.heap.size w W3 ∧ W3.ownsRow W0.heap.size 55 18 (.slice (some ⟨g, 0, none⟩) n c1) n ((frames.set q ⟨f.fn, nn, f.r.set j (IntKind.u64.wrap (x + 1))⟩).flatMap frc) :=
    ⟨_, rfl, (hP.far (by dsimp only; omega) _).drew, (hO.far (by dsimp only; omega) _).drew, (hR.far (by dsimp only; omega) _).drew, (hH0.setCell (fun ad h => by have := hHb ad h; dsimp only; omega) _).drew, (bset kb (by dsimp only; omega) _).drew, own3⟩
  rw [hW3]
  clear hW3 y2 y2' yf2 o1 hzO hgf hgc own2 hsub hsubw hj
  have hln : (frames.set q ⟨f.fn, nn, f.r.set j (IntKind.u64.wrap (x + 1))⟩).length = n := by simpa using hln
  have p0 : W3.cell? ⟨w.heap.size, 0, none⟩ = some (.int .u64 a0) := hP.cell 0
  have p1 : W3.cell? ⟨w.heap.size, 1, none⟩ = some (.int .u64 a1) := hP.cell 1
  have p2 : W3.cell? ⟨w.heap.size, 2, none⟩ = some (.int .u64 a2) := hP.cell 2
  have p3 : W3.cell? ⟨w.heap.size, 3, none⟩ = some (.int .u64 a3) := hP.cell 3
  have p4 : W3.cell? ⟨w.heap.size, 4, none⟩ = some (.int .u64 a4) := hP.cell 4
  have p5 : W3.cell? ⟨w.heap.size, 5, none⟩ = some (.int .u64 a5) := hP.cell 5
  have p6 : W3.cell? ⟨w.heap.size, 6, none⟩ = some (.int .u64 a6) := hP.cell 6
  have p7 : W3.cell? ⟨w.heap.size, 7, none⟩ = some (.int .u64 a7) := hP.cell 7
  have p8 : W3.cell? ⟨w.heap.size, 8, none⟩ = some (.slice FA n fc) := hP.cell 8
  have p9 : W3.cell? ⟨w.heap.size, 9, none⟩ = some (.slice HB m hd) := hP.cell 9
  have pf8 := hP.frozen 8
  have hzP := hP.lt
  have hzO := hO.lt
  have hzR := hR.lt
  go_upto_region 27 with (fail)
  obtain ⟨W9, hW9, hP, hO, hR, sF, sH, nF, n8, kb9⟩ : ∃ W9, W3.setCell ⟨w.heap.size, 8, none⟩ (.slice (some ⟨g, 0, none⟩) n c1) = W9 ∧ Blk W9 w.heap.size 49 #[.int .u64 a0, .int .u64 a1, .int .u64 a2, .int .u64 a3, .int .u64 a4, .int .u64 a5, .int .u64 a6, .int .u64 a7, .slice (some ⟨g, 0, none⟩) n c1, .slice HB m hd] ∧ Blk W9 (w.heap.size + 1) 30 #[.int .i64 3, .int .i64 nn, .slice RA rn rc] ∧ Blk W9 (w.heap.size + 1 + 1) 49 #[.int .u64 0, .int .u64 0, .int .u64 0, .int .u64 0, .int .u64 0, .int .u64 0, .int .u64 0, .int .u64 0, .slice none 0 0, .slice none 0 0] ∧ Sl frc W9 (some ⟨g, 0, none⟩) n c1 (frames.set q ⟨f.fn, nn, f.r.set j (IntKind.u64.wrap (x + 1))⟩) ∧ Sl us W9 HB m hd hs ∧ New w W9 FA (some ⟨g, 0, none⟩) ∧ (∀ ad, (some (⟨g, 0, none⟩ : Addr)) = some ad → w.heap.size + 1 + 1 < ad.block) ∧ Below w.heap.size w W9 :=
    ⟨_, rfl, hP.set_ 8 _, hO.far (by simp) _, hR.far (by simp; omega) _, (own_sl_fr hln own3).setCell (fun ad h => by cases h; dsimp only; omega) _, hH0.setCell (fun ad h => by have := hHb ad h; dsimp only; omega) _, .inr fun ad h => ⟨by cases h; dsimp only; omega, by cases h; have := (own_blk18 own3 _ rfl).2; simpa [World.setCell] using this⟩, fun ad h => by cases h; exact hgW, bset kb (Nat.le_refl _) _⟩
  rw [hW9]
  clear hW9 p0 p1 p2 p3 p4 p5 p6 p7 p8 p9 pf8 hzP hzO hzR
  have p0 : W9.cell? ⟨w.heap.size, 0, none⟩ = some (.int .u64 a0) := hP.cell 0
  have p1 : W9.cell? ⟨w.heap.size, 1, none⟩ = some (.int .u64 a1) := hP.cell 1
  have p2 : W9.cell? ⟨w.heap.size, 2, none⟩ = some (.int .u64 a2) := hP.cell 2
  have p3 : W9.cell? ⟨w.heap.size, 3, none⟩ = some (.int .u64 a3) := hP.cell 3
  have p4 : W9.cell? ⟨w.heap.size, 4, none⟩ = some (.int .u64 a4) := hP.cell 4
  have p5 : W9.cell? ⟨w.heap.size, 5, none⟩ = some (.int .u64 a5) := hP.cell 5
  have p6 : W9.cell? ⟨w.heap.size, 6, none⟩ = some (.int .u64 a6) := hP.cell 6
  have p7 : W9.cell? ⟨w.heap.size, 7, none⟩ = some (.int .u64 a7) := hP.cell 7
  have p8 : W9.cell? ⟨w.heap.size, 8, none⟩ = some (.slice (some ⟨g, 0, none⟩) (n) c1) := hP.cell 8
  have p9 : W9.cell? ⟨w.heap.size, 9, none⟩ = some (.slice HB (m) hd) := hP.cell 9
  have z0 : W9.cell? ⟨w.heap.size + 1 + 1, 0, none⟩ = some (.int .u64 0) := hR.cell 0
  have z1 : W9.cell? ⟨w.heap.size + 1 + 1, 1, none⟩ = some (.int .u64 0) := hR.cell 1
  have z2 : W9.cell? ⟨w.heap.size + 1 + 1, 2, none⟩ = some (.int .u64 0) := hR.cell 2
  have z3 : W9.cell? ⟨w.heap.size + 1 + 1, 3, none⟩ = some (.int .u64 0) := hR.cell 3
  have z4 : W9.cell? ⟨w.heap.size + 1 + 1, 4, none⟩ = some (.int .u64 0) := hR.cell 4
  have z5 : W9.cell? ⟨w.heap.size + 1 + 1, 5, none⟩ = some (.int .u64 0) := hR.cell 5
  have z6 : W9.cell? ⟨w.heap.size + 1 + 1, 6, none⟩ = some (.int .u64 0) := hR.cell 6
  have z7 : W9.cell? ⟨w.heap.size + 1 + 1, 7, none⟩ = some (.int .u64 0) := hR.cell 7
  have z8 : W9.cell? ⟨w.heap.size + 1 + 1, 8, none⟩ = some (.slice none 0 0) := hR.cell 8
  have z9 : W9.cell? ⟨w.heap.size + 1 + 1, 9, none⟩ = some (.slice none 0 0) := hR.cell 9
  have zf0 := hR.frozen 0
  have zf1 := hR.frozen 1
  have zf2 := hR.frozen 2
  have zf3 := hR.frozen 3
  have zf4 := hR.frozen 4
  have zf5 := hR.frozen 5
  have zf6 := hR.frozen 6
  have zf7 := hR.frozen 7
  have zf8 := hR.frozen 8
  have zf9 := hR.frozen 9
  have hzP := hP.lt
  have hzO := hO.lt
  have hzR := hR.lt
  go_wp2_with fail
  refine bodyPost_ret (v := .agg #[.int .u64 a0, .int .u64 a1, .int .u64 a2, .int .u64 a3, .int .u64 a4, .int .u64 a5, .int .u64 a6, .int .u64 a7, .slice (some ⟨g, 0, none⟩) (n) c1, .slice HB (m) hd]) (by simp [results, Try.results16, go_sem, z0, z1, z2, z3, z4, z5, z6, z7, z8, z9, hzR]) rfl ⟨(some ⟨g, 0, none⟩), c1, HB, hd, rfl, sF.ten (fun ad h => by have := n8 ad h; omega) _ _ _ _ _ _ _ _ _ _, sH.ten (fun ad h => by have := hHb ad h; omega) _ _ _ _ _ _ _ _ _ _, nF.ten _ _ _ _ _ _ _ _ _ _ _, (New.same (w := W9)).ten _ _ _ _ _ _ _ _ _ _ _, below_ten kb9 (by omega) _ _ _ _ _ _ _ _ _ _⟩
end Go.Proofs.Ytclhlgeicfhdiaa
