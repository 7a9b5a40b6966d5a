/- Threads: the document's step. -/
import Derived.Test.YtclhlgeicfhdiaaThreadH
import Derived.Test.YtclhlgeicfhdiaaPlanS
namespace Go.Proofs.Ytclhlgeicfhdiaa
set_option linter.unusedVariables false
set_option linter.unusedSimpArgs false
open Go.RowKit

theorem Sl.ten {α : Type} {f : α → List Value} {w : World} {A : Option Addr} {n c q : Nat} {l : List α} (h : Sl f w A n c l) (hp : ∀ ad, A = some ad → ad.block ≠ q) (v0 v1 v2 v3 v4 v5 v6 v7 v8 v9 : Value) : Sl f ((((((((((w.setCell ⟨q, 0, none⟩ v0).setCell ⟨q, 1, none⟩ v1).setCell ⟨q, 2, none⟩ v2).setCell ⟨q, 3, none⟩ v3).setCell ⟨q, 4, none⟩ v4).setCell ⟨q, 5, none⟩ v5).setCell ⟨q, 6, none⟩ v6).setCell ⟨q, 7, none⟩ v7).setCell ⟨q, 8, none⟩ v8).setCell ⟨q, 9, none⟩ v9) A n c l :=
  (((((((((h.setCell (p := ⟨q, 0, none⟩) hp v0).setCell (p := ⟨q, 1, none⟩) hp v1).setCell (p := ⟨q, 2, none⟩) hp v2).setCell (p := ⟨q, 3, none⟩) hp v3).setCell (p := ⟨q, 4, none⟩) hp v4).setCell (p := ⟨q, 5, none⟩) hp v5).setCell (p := ⟨q, 6, none⟩) hp v6).setCell (p := ⟨q, 7, none⟩) hp v7).setCell (p := ⟨q, 8, none⟩) hp v8).setCell (p := ⟨q, 9, none⟩) hp v9
theorem below_ten {B q : Nat} {w0 w : World} (h : Below B w0 w) (hq : B ≤ q) (v0 v1 v2 v3 v4 v5 v6 v7 v8 v9 : Value) : Below B w0 ((((((((((w.setCell ⟨q, 0, none⟩ v0).setCell ⟨q, 1, none⟩ v1).setCell ⟨q, 2, none⟩ v2).setCell ⟨q, 3, none⟩ v3).setCell ⟨q, 4, none⟩ v4).setCell ⟨q, 5, none⟩ v5).setCell ⟨q, 6, none⟩ v6).setCell ⟨q, 7, none⟩ v7).setCell ⟨q, 8, none⟩ v8).setCell ⟨q, 9, none⟩ v9) :=
  (((((((((h.setCell (p := ⟨q, 0, none⟩) hq v0).setCell (p := ⟨q, 1, none⟩) hq v1).setCell (p := ⟨q, 2, none⟩) hq v2).setCell (p := ⟨q, 3, none⟩) hq v3).setCell (p := ⟨q, 4, none⟩) hq v4).setCell (p := ⟨q, 5, none⟩) hq v5).setCell (p := ⟨q, 6, none⟩) hq v6).setCell (p := ⟨q, 7, none⟩) hq v7).setCell (p := ⟨q, 8, none⟩) hq v8).setCell (p := ⟨q, 9, none⟩) hq v9
theorem Rd.grown_ {w w' : World} {row : Option Nat} {A : Option Addr} {xs : List Value} (hg : w.grownBy w' row) (h : Rd w A xs) (hr : ∀ ad, A = some ad → some ad.block ≠ row) : Rd w' A xs := h.grown hg hr
theorem own_sl_us {w : World} {base : Nat} {e : TypeId} {A : Option Addr} {n c : Nat} {l : List Int} (h : w.ownsRow base e 1 (.slice A n c) n (l.map uc)) : Sl us w A n c l := Sl.of_own us_len (by decide) (by rw [us_map]; exact h)
/-- A slice as it came, or a new one. -/
def New (w w' : World) (A A' : Option Addr) : Prop := A' = A ∨ ∀ ad, A' = some ad → w.heap.size ≤ ad.block ∧ ad.block < w'.heap.size
theorem New.same {w0 w : World} {A : Option Addr} : New w0 w A A := .inl rfl
theorem New.ten {w0 w : World} {A A' : Option Addr} (h : New w0 w A A') (q : Nat) (v0 v1 v2 v3 v4 v5 v6 v7 v8 v9 : Value) : New w0 ((((((((((w.setCell ⟨q, 0, none⟩ v0).setCell ⟨q, 1, none⟩ v1).setCell ⟨q, 2, none⟩ v2).setCell ⟨q, 3, none⟩ v3).setCell ⟨q, 4, none⟩ v4).setCell ⟨q, 5, none⟩ v5).setCell ⟨q, 6, none⟩ v6).setCell ⟨q, 7, none⟩ v7).setCell ⟨q, 8, none⟩ v8).setCell ⟨q, 9, none⟩ v9) A A' := h.imp id fun h ad ha => ⟨(h ad ha).1, by simpa [World.setCell] using (h ad ha).2⟩
theorem frc_len (f : Fr) (h : f.r.length = 16) : (frc f).length = 18 := by simp [frc, h]
theorem elem_f : ∃ i, Elem Try.prog 47 55 i (.agg #[.int .i64 0, .int .i64 0, .int .u64 0, .int .u64 0, .int .u64 0, .int .u64 0, .int .u64 0, .int .u64 0, .int .u64 0, .int .u64 0, .int .u64 0, .int .u64 0, .int .u64 0, .int .u64 0, .int .u64 0, .int .u64 0, .int .u64 0, .int .u64 0]) 18 144 := Elem.of Try.underlying47 (by kernel_rfl) rfl (by decide)
set_option maxHeartbeats 4000000 in
set_option maxRecDepth 100000 in
theorem rdo_else {w : World} {FA HB RA : Option Addr} {n fc m hd rn rc : Nat} {frames : List Fr} {hs rl : List Int} (hF : Sl frc w FA n fc frames) (hH : Sl us w HB m hd hs) (hr : Sl us w RA rn rc rl) (hn : n ≤ 10000) (hm : m ≤ 10000) (hrn : rn ≤ 10000) (hFb : ∀ ad, FA = some ad → ad.block < w.heap.size) (hHb : ∀ ad, HB = some ad → ad.block < w.heap.size) (a0 a1 a2 a3 a4 a5 a6 a7 : Int) (k nn : Int) (h0 : k ≠ 0) (h1 : k ≠ 1) (h2 : k ≠ 2) (h3 : k ≠ 3) : Calls Try.prog 16 #[.agg #[.int .u64 a0, .int .u64 a1, .int .u64 a2, .int .u64 a3, .int .u64 a4, .int .u64 a5, .int .u64 a6, .int .u64 a7, .slice FA n fc, .slice HB m hd], .agg #[.int .i64 k, .int .i64 nn, .slice RA rn rc]] w fun e w' => ∃ FA' fc' HB' hd', e = .returned (.agg #[.int .u64 a0, .int .u64 a1, .int .u64 a2, .int .u64 a3, .int .u64 a4, .int .u64 a5, .int .u64 a6, .int .u64 a7, .slice FA' (n) fc', .slice HB' (m) hd']) ∧ Sl frc w' FA' (n) fc' (frames) ∧ Sl us w' HB' (m) hd' (hs) ∧ New w w' FA FA' ∧ New w w' HB HB' ∧ Below w.heap.size w w' := by
  have t0 : (k == 0) = false := by simpa using h0
  have t1 : (k == 1) = false := by simpa using h1
  have t2 : (k == 2) = false := by simpa using h2
  have t3 : (k == 3) = false := by simpa using h3
  clear h0 h1 h2 h3
  go_enter Try.func16, Try.ntmps16
  go_upto_region 1 with (fail)
  obtain ⟨W0, hW0, p0, p1, p2, p3, p4, p5, p6, p7, p8, p9, o0, o1, o2, z0, z1, z2, z3, z4, z5, z6, z7, z8, z9, pf0, pf1, pf2, pf3, pf4, pf5, pf6, pf7, pf8, pf9, zf0, zf1, zf2, zf3, zf4, zf5, zf6, zf7, zf8, zf9, hzR, hF0, hH0, hr0, kb⟩ : ∃ W0, ((w.alloc (.cells #[.int .u64 a0, .int .u64 a1, .int .u64 a2, .int .u64 a3, .int .u64 a4, .int .u64 a5, .int .u64 a6, .int .u64 a7, .slice FA n fc, .slice HB m hd] 49)).alloc (.cells #[.int .i64 k, .int .i64 nn, .slice RA rn rc] 30)).alloc (.cells #[.int .u64 0, .int .u64 0, .int .u64 0, .int .u64 0, .int .u64 0, .int .u64 0, .int .u64 0, .int .u64 0, .slice none 0 0, .slice none 0 0] 49) = W0 ∧ W0.cell? ⟨w.heap.size, 0, none⟩ = some (.int .u64 a0) ∧ W0.cell? ⟨w.heap.size, 1, none⟩ = some (.int .u64 a1) ∧ W0.cell? ⟨w.heap.size, 2, none⟩ = some (.int .u64 a2) ∧ W0.cell? ⟨w.heap.size, 3, none⟩ = some (.int .u64 a3) ∧ W0.cell? ⟨w.heap.size, 4, none⟩ = some (.int .u64 a4) ∧ W0.cell? ⟨w.heap.size, 5, none⟩ = some (.int .u64 a5) ∧ W0.cell? ⟨w.heap.size, 6, none⟩ = some (.int .u64 a6) ∧ W0.cell? ⟨w.heap.size, 7, none⟩ = some (.int .u64 a7) ∧ W0.cell? ⟨w.heap.size, 8, none⟩ = some (.slice FA n fc) ∧ W0.cell? ⟨w.heap.size, 9, none⟩ = some (.slice HB m hd) ∧ W0.cell? ⟨w.heap.size + 1, 0, none⟩ = some (.int .i64 k) ∧ W0.cell? ⟨w.heap.size + 1, 1, none⟩ = some (.int .i64 nn) ∧ W0.cell? ⟨w.heap.size + 1, 2, none⟩ = some (.slice RA rn rc) ∧ W0.cell? ⟨w.heap.size + 1 + 1, 0, none⟩ = some (.int .u64 0) ∧ W0.cell? ⟨w.heap.size + 1 + 1, 1, none⟩ = some (.int .u64 0) ∧ W0.cell? ⟨w.heap.size + 1 + 1, 2, none⟩ = some (.int .u64 0) ∧ W0.cell? ⟨w.heap.size + 1 + 1, 3, none⟩ = some (.int .u64 0) ∧ W0.cell? ⟨w.heap.size + 1 + 1, 4, none⟩ = some (.int .u64 0) ∧ W0.cell? ⟨w.heap.size + 1 + 1, 5, none⟩ = some (.int .u64 0) ∧ W0.cell? ⟨w.heap.size + 1 + 1, 6, none⟩ = some (.int .u64 0) ∧ W0.cell? ⟨w.heap.size + 1 + 1, 7, none⟩ = some (.int .u64 0) ∧ W0.cell? ⟨w.heap.size + 1 + 1, 8, none⟩ = some (.slice none 0 0) ∧ W0.cell? ⟨w.heap.size + 1 + 1, 9, none⟩ = some (.slice none 0 0) ∧ W0.frozen? ⟨w.heap.size, 0, none⟩ = false ∧ W0.frozen? ⟨w.heap.size, 1, none⟩ = false ∧ W0.frozen? ⟨w.heap.size, 2, none⟩ = false ∧ W0.frozen? ⟨w.heap.size, 3, none⟩ = false ∧ W0.frozen? ⟨w.heap.size, 4, none⟩ = false ∧ W0.frozen? ⟨w.heap.size, 5, none⟩ = false ∧ W0.frozen? ⟨w.heap.size, 6, none⟩ = false ∧ W0.frozen? ⟨w.heap.size, 7, none⟩ = false ∧ W0.frozen? ⟨w.heap.size, 8, none⟩ = false ∧ W0.frozen? ⟨w.heap.size, 9, none⟩ = false ∧ W0.frozen? ⟨w.heap.size + 1 + 1, 0, none⟩ = false ∧ W0.frozen? ⟨w.heap.size + 1 + 1, 1, none⟩ = false ∧ W0.frozen? ⟨w.heap.size + 1 + 1, 2, none⟩ = false ∧ W0.frozen? ⟨w.heap.size + 1 + 1, 3, none⟩ = false ∧ W0.frozen? ⟨w.heap.size + 1 + 1, 4, none⟩ = false ∧ W0.frozen? ⟨w.heap.size + 1 + 1, 5, none⟩ = false ∧ W0.frozen? ⟨w.heap.size + 1 + 1, 6, none⟩ = false ∧ W0.frozen? ⟨w.heap.size + 1 + 1, 7, none⟩ = false ∧ W0.frozen? ⟨w.heap.size + 1 + 1, 8, none⟩ = false ∧ W0.frozen? ⟨w.heap.size + 1 + 1, 9, none⟩ = false ∧ w.heap.size + 1 + 1 < W0.heap.size ∧ Sl frc W0 FA n fc frames ∧ Sl us W0 HB m hd hs ∧ Sl us W0 RA rn rc rl ∧ Below w.heap.size w W0 :=
    ⟨_, rfl, by go_simp, by go_simp, by go_simp, by go_simp, by go_simp, by go_simp, by go_simp, by go_simp, by go_simp, by go_simp, by go_simp, by go_simp, by go_simp, by go_simp, by go_simp, by go_simp, by go_simp, by go_simp, by go_simp, by go_simp, by go_simp, by go_simp, by go_simp, by go_simp, by go_simp, by go_simp, by go_simp, by go_simp, by go_simp, by go_simp, by go_simp, by go_simp, by go_simp, by go_simp, by go_simp, by go_simp, by go_simp, by go_simp, by go_simp, by go_simp, by go_simp, by go_simp, by go_simp, by simp, ((hF.alloc _).alloc _).alloc _, ((hH.alloc _).alloc _).alloc _, ((hr.alloc _).alloc _).alloc _, bnew (bnew (bnew (brefl w) _) _) _⟩
  rw [hW0]
  clear hW0 hF hH hr
  go_wp2_with fail
  refine bodyPost_ret (v := .agg #[.int .u64 a0, .int .u64 a1, .int .u64 a2, .int .u64 a3, .int .u64 a4, .int .u64 a5, .int .u64 a6, .int .u64 a7, .slice FA (n) fc, .slice HB (m) hd]) (by simp [results, Try.results16, go_sem, z0, z1, z2, z3, z4, z5, z6, z7, z8, z9, hzR]) rfl ⟨FA, fc, HB, hd, rfl, (hF0).ten (fun ad h => by have := hFb ad h; omega) _ _ _ _ _ _ _ _ _ _, (hH0).ten (fun ad h => by have := hHb ad h; omega) _ _ _ _ _ _ _ _ _ _, (New.same (w := W0)).ten _ _ _ _ _ _ _ _ _ _ _, (New.same (w := W0)).ten _ _ _ _ _ _ _ _ _ _ _, below_ten (kb) (by omega) _ _ _ _ _ _ _ _ _ _⟩
set_option maxHeartbeats 4000000 in
set_option maxRecDepth 100000 in
theorem rdo_note {w : World} {FA HB RA : Option Addr} {n fc m hd rn rc : Nat} {frames : List Fr} {hs rl : List Int} (hF : Sl frc w FA n fc frames) (hH : Sl us w HB m hd hs) (hr : Sl us w RA rn rc rl) (hn : n ≤ 10000) (hm : m ≤ 10000) (hrn : rn ≤ 10000) (hFb : ∀ ad, FA = some ad → ad.block < w.heap.size) (hHb : ∀ ad, HB = some ad → ad.block < w.heap.size) (a0 a1 a2 a3 a4 a5 a6 a7 : Int) (nn : Int) : Calls Try.prog 16 #[.agg #[.int .u64 a0, .int .u64 a1, .int .u64 a2, .int .u64 a3, .int .u64 a4, .int .u64 a5, .int .u64 a6, .int .u64 a7, .slice FA n fc, .slice HB m hd], .agg #[.int .i64 2, .int .i64 nn, .slice RA rn rc]] w fun e w' => ∃ FA' fc' HB' hd', e = .returned (.agg #[.int .u64 a0, .int .u64 a1, .int .u64 a2, .int .u64 a3, .int .u64 a4, .int .u64 a5, .int .u64 a6, .int .u64 a7, .slice FA' (n) fc', .slice HB' (m + 1) hd']) ∧ Sl frc w' FA' (n) fc' (frames) ∧ Sl us w' HB' (m + 1) hd' (hs ++ [IntKind.u64.wrap nn]) ∧ New w w' FA FA' ∧ New w w' HB HB' ∧ Below w.heap.size w w' := by
  obtain ⟨i0, E⟩ := elem_u
  go_enter Try.func16, Try.ntmps16
  go_upto_region 1 with (fail)
  obtain ⟨W0, hW0, p0, p1, p2, p3, p4, p5, p6, p7, p8, p9, o0, o1, o2, z0, z1, z2, z3, z4, z5, z6, z7, z8, z9, pf0, pf1, pf2, pf3, pf4, pf5, pf6, pf7, pf8, pf9, zf0, zf1, zf2, zf3, zf4, zf5, zf6, zf7, zf8, zf9, hzR, hF0, hH0, hr0, kb⟩ : ∃ W0, ((w.alloc (.cells #[.int .u64 a0, .int .u64 a1, .int .u64 a2, .int .u64 a3, .int .u64 a4, .int .u64 a5, .int .u64 a6, .int .u64 a7, .slice FA n fc, .slice HB m hd] 49)).alloc (.cells #[.int .i64 2, .int .i64 nn, .slice RA rn rc] 30)).alloc (.cells #[.int .u64 0, .int .u64 0, .int .u64 0, .int .u64 0, .int .u64 0, .int .u64 0, .int .u64 0, .int .u64 0, .slice none 0 0, .slice none 0 0] 49) = W0 ∧ W0.cell? ⟨w.heap.size, 0, none⟩ = some (.int .u64 a0) ∧ W0.cell? ⟨w.heap.size, 1, none⟩ = some (.int .u64 a1) ∧ W0.cell? ⟨w.heap.size, 2, none⟩ = some (.int .u64 a2) ∧ W0.cell? ⟨w.heap.size, 3, none⟩ = some (.int .u64 a3) ∧ W0.cell? ⟨w.heap.size, 4, none⟩ = some (.int .u64 a4) ∧ W0.cell? ⟨w.heap.size, 5, none⟩ = some (.int .u64 a5) ∧ W0.cell? ⟨w.heap.size, 6, none⟩ = some (.int .u64 a6) ∧ W0.cell? ⟨w.heap.size, 7, none⟩ = some (.int .u64 a7) ∧ W0.cell? ⟨w.heap.size, 8, none⟩ = some (.slice FA n fc) ∧ W0.cell? ⟨w.heap.size, 9, none⟩ = some (.slice HB m hd) ∧ W0.cell? ⟨w.heap.size + 1, 0, none⟩ = some (.int .i64 2) ∧ W0.cell? ⟨w.heap.size + 1, 1, none⟩ = some (.int .i64 nn) ∧ W0.cell? ⟨w.heap.size + 1, 2, none⟩ = some (.slice RA rn rc) ∧ W0.cell? ⟨w.heap.size + 1 + 1, 0, none⟩ = some (.int .u64 0) ∧ W0.cell? ⟨w.heap.size + 1 + 1, 1, none⟩ = some (.int .u64 0) ∧ W0.cell? ⟨w.heap.size + 1 + 1, 2, none⟩ = some (.int .u64 0) ∧ W0.cell? ⟨w.heap.size + 1 + 1, 3, none⟩ = some (.int .u64 0) ∧ W0.cell? ⟨w.heap.size + 1 + 1, 4, none⟩ = some (.int .u64 0) ∧ W0.cell? ⟨w.heap.size + 1 + 1, 5, none⟩ = some (.int .u64 0) ∧ W0.cell? ⟨w.heap.size + 1 + 1, 6, none⟩ = some (.int .u64 0) ∧ W0.cell? ⟨w.heap.size + 1 + 1, 7, none⟩ = some (.int .u64 0) ∧ W0.cell? ⟨w.heap.size + 1 + 1, 8, none⟩ = some (.slice none 0 0) ∧ W0.cell? ⟨w.heap.size + 1 + 1, 9, none⟩ = some (.slice none 0 0) ∧ W0.frozen? ⟨w.heap.size, 0, none⟩ = false ∧ W0.frozen? ⟨w.heap.size, 1, none⟩ = false ∧ W0.frozen? ⟨w.heap.size, 2, none⟩ = false ∧ W0.frozen? ⟨w.heap.size, 3, none⟩ = false ∧ W0.frozen? ⟨w.heap.size, 4, none⟩ = false ∧ W0.frozen? ⟨w.heap.size, 5, none⟩ = false ∧ W0.frozen? ⟨w.heap.size, 6, none⟩ = false ∧ W0.frozen? ⟨w.heap.size, 7, none⟩ = false ∧ W0.frozen? ⟨w.heap.size, 8, none⟩ = false ∧ W0.frozen? ⟨w.heap.size, 9, none⟩ = false ∧ W0.frozen? ⟨w.heap.size + 1 + 1, 0, none⟩ = false ∧ W0.frozen? ⟨w.heap.size + 1 + 1, 1, none⟩ = false ∧ W0.frozen? ⟨w.heap.size + 1 + 1, 2, none⟩ = false ∧ W0.frozen? ⟨w.heap.size + 1 + 1, 3, none⟩ = false ∧ W0.frozen? ⟨w.heap.size + 1 + 1, 4, none⟩ = false ∧ W0.frozen? ⟨w.heap.size + 1 + 1, 5, none⟩ = false ∧ W0.frozen? ⟨w.heap.size + 1 + 1, 6, none⟩ = false ∧ W0.frozen? ⟨w.heap.size + 1 + 1, 7, none⟩ = false ∧ W0.frozen? ⟨w.heap.size + 1 + 1, 8, none⟩ = false ∧ W0.frozen? ⟨w.heap.size + 1 + 1, 9, none⟩ = false ∧ w.heap.size + 1 + 1 < W0.heap.size ∧ Sl frc W0 FA n fc frames ∧ Sl us W0 HB m hd hs ∧ Sl us W0 RA rn rc rl ∧ Below w.heap.size w W0 :=
    ⟨_, rfl, by go_simp, by go_simp, by go_simp, by go_simp, by go_simp, by go_simp, by go_simp, by go_simp, by go_simp, by go_simp, by go_simp, by go_simp, by go_simp, by go_simp, by go_simp, by go_simp, by go_simp, by go_simp, by go_simp, by go_simp, by go_simp, by go_simp, by go_simp, by go_simp, by go_simp, by go_simp, by go_simp, by go_simp, by go_simp, by go_simp, by go_simp, by go_simp, by go_simp, by go_simp, by go_simp, by go_simp, by go_simp, by go_simp, by go_simp, by go_simp, by go_simp, by go_simp, by go_simp, by simp, ((hF.alloc _).alloc _).alloc _, ((hH.alloc _).alloc _).alloc _, ((hr.alloc _).alloc _).alloc _, bnew (bnew (bnew (brefl w) _) _) _⟩
  rw [hW0]
  clear hW0 hF hH hr
  have hrd := hH0.rd
  rw [us_map] at hrd
  have hL : (hs.map uc).length = m := by rw [List.length_map]; exact hH0.len
  have HL := Lib.hid hL
  clear hL
  have hzP := block_lt_of_cell p0
  have hzO := block_lt_of_cell o0
  go_upto_region 19 with (fail)
  have hX := @Ext.cell W0
  have hzz0 := block_lt_of_cell p0
  have hzz1 := block_lt_of_cell o0
  refine wp_region_noPanic ?_
  refine wp_region_last (fun w' => ∃ x : Ext W0, w' = x.w) 10 (PG.two [1, 2, 4, 5, 6] 0 (PG.two [] 3 (PG.one [] 7 (PG.one [] 8 (PG.fin [9]))) 7 (PG.one [] 3 (PG.one [] 8 (PG.fin [9])))) 7 (PG.one [] 0 (PG.one [] 3 (PG.one [] 8 (PG.fin [9]))))) (by kernel_rfl) (by kernel_rfl) (by kernel_rfl) (fun _ _ _ _ _ h => h) ⟨⟨_, (brefl W0).drew⟩, rfl⟩ ?_
  refine wpG_two ?_
  simp only [pickOps, List.getElem?_cons_succ, List.getElem?_cons_zero, Option.elim_some]
  repeat (go_big_quiet_step (fail))
  refine wpQuiet_nil ?_
  refine ⟨?_, ?_⟩
  · refine planAct_some (fun K hK => ?_)
    go_simp
    refine hK.out _ _ (ext_mem (bnew (brefl W0).drew _)) ?_
    clear hK K
    refine wpG_two ?_
    simp only [pickOps, List.getElem?_cons_succ, List.getElem?_cons_zero, Option.elim_some]
    repeat (go_big_quiet_step (fail))
    refine wpQuiet_nil ?_
    refine ⟨?_, ?_⟩
    · refine planAct_some (fun K hK => ?_)
      refine step_fresh (W0 := W0) (ys := hs.map uc) (m := m) E rfl (.tmp 80) (.tmp 82) rfl (bnew (brefl W0).drew _) rfl (own_empty (brefl W0).drew (by simp)) rfl (by rw [HL.out]; omega) (hrd.below (bnew (brefl W0).drew _)) (uc_one _) (by unfold maxLen; omega) (by omega) ?_
      intro A1 c1 w1 own1 hb1 hg1
      go_simp
      refine hK.out _ _ (ext_mem hb1) ?_
      clear hK K
      refine wpG_one ?_
      simp only [pickOps, List.getElem?_cons_succ, List.getElem?_cons_zero, Option.elim_some]
      repeat (go_big_quiet_step (fail))
      refine wpQuiet_nil ?_
      refine planAct_some (fun K hK => ?_)
      go_simp
      refine hK.out _ _ (ext_mem (bnew hb1 _)) ?_
      clear hK K
      refine wpG_one ?_
      simp only [pickOps, List.getElem?_cons_succ, List.getElem?_cons_zero, Option.elim_some]
      repeat (go_big_quiet_step (fail))
      refine wpQuiet_nil ?_
      refine planAct_some (fun K hK => ?_)
      refine step_onto (W0 := W0) (ys := [.int .u64 (IntKind.u64.wrap nn)]) (m := 1) E rfl (.tmp 83) (.tmp 87) rfl (bnew hb1 _) rfl (own1.alloc _) rfl rfl (Rd.new _ _ _ (by simp)) (by simp [Value.oneCell']) (by unfold maxLen; omega) (by omega) ?_
      intro A8 c8 w8 own8 hb8 hg8
      go_simp
      refine hK.out _ _ (ext_mem hb8) ?_
      clear hK K
      have own8x : w8.ownsRow W0.heap.size 33 1 (.slice A8 (m + 1) c8) (m + 1) ((hs ++ [IntKind.u64.wrap nn]).map uc) := by rw [List.map_append]; exact own8
      have p9a := keep_below p9 hb8
      have p9f := keep_frozen pf9 (block_lt_of_cell p9) hb8
      have hz9 : w.heap.size < w8.heap.size := block_lt_of_cell p9a
      refine wpG_fin ?_
      simp only [pickOps, List.getElem?_cons_succ, List.getElem?_cons_zero, Option.elim_some]
      repeat (go_big_quiet_step (fail))
      refine wpQuiet_nil ?_
      refine lastG_some (fun K hK => ?_)
      go_simp
      refine hK.out _ _ ?_
      clear hK K
      refine NoPanic.normal ?_
      clear hX hzz0 hzz1
      have s8 := own_sl_us own8x
      have n8 := fun (ad : Addr) (h : A8 = some ad) => (own_block own8x ad h).2
      have q0 := keep_below p0 hb8
      have q1 := keep_below p1 hb8
      have q2 := keep_below p2 hb8
      have q3 := keep_below p3 hb8
      have q4 := keep_below p4 hb8
      have q5 := keep_below p5 hb8
      have q6 := keep_below p6 hb8
      have q7 := keep_below p7 hb8
      have q8 := keep_below p8 hb8
      have q9 := keep_below p9 hb8
      have qf := keep_frozen pf9 (block_lt_of_cell p9) hb8
      have hz8 : w.heap.size < w8.heap.size := block_lt_of_cell q0
      obtain ⟨W9, hW9, y0, y1, y2, y3, y4, y5, y6, y7, y8, y9, x0, x1, x2, x3, x4, x5, x6, x7, x8, x9, xf0, xf1, xf2, xf3, xf4, xf5, xf6, xf7, xf8, xf9, hzR9, sF, sH, nF, nH, kb9⟩ : ∃ W9, w8.setCell ⟨w.heap.size, 9, none⟩ (.slice A8 (m + 1) c8) = W9 ∧ W9.cell? ⟨w.heap.size, 0, none⟩ = some (.int .u64 a0) ∧ W9.cell? ⟨w.heap.size, 1, none⟩ = some (.int .u64 a1) ∧ W9.cell? ⟨w.heap.size, 2, none⟩ = some (.int .u64 a2) ∧ W9.cell? ⟨w.heap.size, 3, none⟩ = some (.int .u64 a3) ∧ W9.cell? ⟨w.heap.size, 4, none⟩ = some (.int .u64 a4) ∧ W9.cell? ⟨w.heap.size, 5, none⟩ = some (.int .u64 a5) ∧ W9.cell? ⟨w.heap.size, 6, none⟩ = some (.int .u64 a6) ∧ W9.cell? ⟨w.heap.size, 7, none⟩ = some (.int .u64 a7) ∧ W9.cell? ⟨w.heap.size, 8, none⟩ = some (.slice FA n fc) ∧ W9.cell? ⟨w.heap.size, 9, none⟩ = some (.slice A8 (m + 1) c8) ∧ W9.cell? ⟨w.heap.size + 1 + 1, 0, none⟩ = some (.int .u64 0) ∧ W9.cell? ⟨w.heap.size + 1 + 1, 1, none⟩ = some (.int .u64 0) ∧ W9.cell? ⟨w.heap.size + 1 + 1, 2, none⟩ = some (.int .u64 0) ∧ W9.cell? ⟨w.heap.size + 1 + 1, 3, none⟩ = some (.int .u64 0) ∧ W9.cell? ⟨w.heap.size + 1 + 1, 4, none⟩ = some (.int .u64 0) ∧ W9.cell? ⟨w.heap.size + 1 + 1, 5, none⟩ = some (.int .u64 0) ∧ W9.cell? ⟨w.heap.size + 1 + 1, 6, none⟩ = some (.int .u64 0) ∧ W9.cell? ⟨w.heap.size + 1 + 1, 7, none⟩ = some (.int .u64 0) ∧ W9.cell? ⟨w.heap.size + 1 + 1, 8, none⟩ = some (.slice none 0 0) ∧ W9.cell? ⟨w.heap.size + 1 + 1, 9, none⟩ = some (.slice none 0 0) ∧ W9.frozen? ⟨w.heap.size + 1 + 1, 0, none⟩ = false ∧ W9.frozen? ⟨w.heap.size + 1 + 1, 1, none⟩ = false ∧ W9.frozen? ⟨w.heap.size + 1 + 1, 2, none⟩ = false ∧ W9.frozen? ⟨w.heap.size + 1 + 1, 3, none⟩ = false ∧ W9.frozen? ⟨w.heap.size + 1 + 1, 4, none⟩ = false ∧ W9.frozen? ⟨w.heap.size + 1 + 1, 5, none⟩ = false ∧ W9.frozen? ⟨w.heap.size + 1 + 1, 6, none⟩ = false ∧ W9.frozen? ⟨w.heap.size + 1 + 1, 7, none⟩ = false ∧ W9.frozen? ⟨w.heap.size + 1 + 1, 8, none⟩ = false ∧ W9.frozen? ⟨w.heap.size + 1 + 1, 9, none⟩ = false ∧ w.heap.size + 1 + 1 < W9.heap.size ∧ Sl frc W9 FA n fc frames ∧ Sl us W9 A8 (m + 1) c8 (hs ++ [IntKind.u64.wrap nn]) ∧ New w W9 FA FA ∧ New w W9 HB A8 ∧ Below w.heap.size w W9 :=
        ⟨_, rfl, by go_simp, by go_simp, by go_simp, by go_simp, by go_simp, by go_simp, by go_simp, by go_simp, by go_simp, by go_simp, keep_set (keep_below z0 hb8) (by dsimp only; omega), keep_set (keep_below z1 hb8) (by dsimp only; omega), keep_set (keep_below z2 hb8) (by dsimp only; omega), keep_set (keep_below z3 hb8) (by dsimp only; omega), keep_set (keep_below z4 hb8) (by dsimp only; omega), keep_set (keep_below z5 hb8) (by dsimp only; omega), keep_set (keep_below z6 hb8) (by dsimp only; omega), keep_set (keep_below z7 hb8) (by dsimp only; omega), keep_set (keep_below z8 hb8) (by dsimp only; omega), keep_set (keep_below z9 hb8) (by dsimp only; omega), (World.frozen?_setCell _ _ _ _).trans (keep_frozen zf0 hzR hb8), (World.frozen?_setCell _ _ _ _).trans (keep_frozen zf1 hzR hb8), (World.frozen?_setCell _ _ _ _).trans (keep_frozen zf2 hzR hb8), (World.frozen?_setCell _ _ _ _).trans (keep_frozen zf3 hzR hb8), (World.frozen?_setCell _ _ _ _).trans (keep_frozen zf4 hzR hb8), (World.frozen?_setCell _ _ _ _).trans (keep_frozen zf5 hzR hb8), (World.frozen?_setCell _ _ _ _).trans (keep_frozen zf6 hzR hb8), (World.frozen?_setCell _ _ _ _).trans (keep_frozen zf7 hzR hb8), (World.frozen?_setCell _ _ _ _).trans (keep_frozen zf8 hzR hb8), (World.frozen?_setCell _ _ _ _).trans (keep_frozen zf9 hzR hb8), (by have := hb8.size; simp [World.setCell]; omega), (hF0.below hb8).setCell (fun ad h => by have := hFb ad h; dsimp only; omega) _, s8.setCell (fun ad h => by have := (n8 ad h).1; dsimp only; omega) _, New.same, (.inr fun ad h => ⟨by have := (n8 ad h).1; have := kb.size; omega, by have := (n8 ad h).2; simpa [World.setCell] using this⟩), bset (bnext kb hb8) (Nat.le_refl _) _⟩
      rw [hW9]
      clear hW9 q0 q1 q2 q3 q4 q5 q6 q7 q8 q9 qf p0 z0 zf0 p1 z1 zf1 p2 z2 zf2 p3 z3 zf3 p4 z4 zf4 p5 z5 zf5 p6 z6 zf6 p7 z7 zf7 p8 z8 zf8 p9 z9 zf9
      go_wp2_with fail
      refine bodyPost_ret (v := .agg #[.int .u64 a0, .int .u64 a1, .int .u64 a2, .int .u64 a3, .int .u64 a4, .int .u64 a5, .int .u64 a6, .int .u64 a7, .slice FA (n) fc, .slice A8 (m + 1) c8]) (by simp [results, Try.results16, go_sem, x0, x1, x2, x3, x4, x5, x6, x7, x8, x9, hzR9]) rfl ⟨FA, fc, A8, c8, rfl, sF.ten (fun ad h => by have := hFb ad h; omega) _ _ _ _ _ _ _ _ _ _, sH.ten (fun ad h => by have := (n8 ad h).1; omega) _ _ _ _ _ _ _ _ _ _, nF.ten _ _ _ _ _ _ _ _ _ _ _, nH.ten _ _ _ _ _ _ _ _ _ _ _, below_ten kb9 (by omega) _ _ _ _ _ _ _ _ _ _⟩
    · refine planAct_some (fun K hK => ?_)
      go_simp
      refine hK.out _ _ (ext_mem (bnew (bnew (brefl W0).drew _) _)) ?_
      clear hK K
      refine wpG_one ?_
      simp only [pickOps, List.getElem?_cons_succ, List.getElem?_cons_zero, Option.elim_some]
      repeat (go_big_quiet_step (fail))
      refine wpQuiet_nil ?_
      refine planAct_some (fun K hK => ?_)
      refine step_fresh (W0 := W0) (ys := hs.map uc) (m := m) E rfl (.tmp 80) (.tmp 82) rfl (bnew (bnew (brefl W0).drew _) _) rfl ((own_empty (brefl W0).drew (by simp)).alloc _) rfl (by rw [HL.out]; omega) (hrd.below (bnew (bnew (brefl W0).drew _) _)) (uc_one _) (by unfold maxLen; omega) (by omega) ?_
      intro A1 c1 w1 own1 hb1 hg1
      go_simp
      refine hK.out _ _ (ext_mem hb1) ?_
      clear hK K
      refine wpG_one ?_
      simp only [pickOps, List.getElem?_cons_succ, List.getElem?_cons_zero, Option.elim_some]
      repeat (go_big_quiet_step (fail))
      refine wpQuiet_nil ?_
      refine planAct_some (fun K hK => ?_)
      refine step_onto (W0 := W0) (ys := [.int .u64 (IntKind.u64.wrap nn)]) (m := 1) E rfl (.tmp 83) (.tmp 87) rfl hb1 rfl (own1) rfl rfl (Rd.grown_ hg1 (Rd.drew (Rd.new _ _ _ (by simp))) (fun ad h => by cases h; simp)) (by simp [Value.oneCell']) (by unfold maxLen; omega) (by omega) ?_
      intro A8 c8 w8 own8 hb8 hg8
      go_simp
      refine hK.out _ _ (ext_mem hb8) ?_
      clear hK K
      have own8x : w8.ownsRow W0.heap.size 33 1 (.slice A8 (m + 1) c8) (m + 1) ((hs ++ [IntKind.u64.wrap nn]).map uc) := by rw [List.map_append]; exact own8
      have p9a := keep_below p9 hb8
      have p9f := keep_frozen pf9 (block_lt_of_cell p9) hb8
      have hz9 : w.heap.size < w8.heap.size := block_lt_of_cell p9a
      refine wpG_fin ?_
      simp only [pickOps, List.getElem?_cons_succ, List.getElem?_cons_zero, Option.elim_some]
      repeat (go_big_quiet_step (fail))
      refine wpQuiet_nil ?_
      refine lastG_some (fun K hK => ?_)
      go_simp
      refine hK.out _ _ ?_
      clear hK K
      refine NoPanic.normal ?_
      clear hX hzz0 hzz1
      have s8 := own_sl_us own8x
      have n8 := fun (ad : Addr) (h : A8 = some ad) => (own_block own8x ad h).2
      have q0 := keep_below p0 hb8
      have q1 := keep_below p1 hb8
      have q2 := keep_below p2 hb8
      have q3 := keep_below p3 hb8
      have q4 := keep_below p4 hb8
      have q5 := keep_below p5 hb8
      have q6 := keep_below p6 hb8
      have q7 := keep_below p7 hb8
      have q8 := keep_below p8 hb8
      have q9 := keep_below p9 hb8
      have qf := keep_frozen pf9 (block_lt_of_cell p9) hb8
      have hz8 : w.heap.size < w8.heap.size := block_lt_of_cell q0
      obtain ⟨W9, hW9, y0, y1, y2, y3, y4, y5, y6, y7, y8, y9, x0, x1, x2, x3, x4, x5, x6, x7, x8, x9, xf0, xf1, xf2, xf3, xf4, xf5, xf6, xf7, xf8, xf9, hzR9, sF, sH, nF, nH, kb9⟩ : ∃ W9, w8.setCell ⟨w.heap.size, 9, none⟩ (.slice A8 (m + 1) c8) = W9 ∧ W9.cell? ⟨w.heap.size, 0, none⟩ = some (.int .u64 a0) ∧ W9.cell? ⟨w.heap.size, 1, none⟩ = some (.int .u64 a1) ∧ W9.cell? ⟨w.heap.size, 2, none⟩ = some (.int .u64 a2) ∧ W9.cell? ⟨w.heap.size, 3, none⟩ = some (.int .u64 a3) ∧ W9.cell? ⟨w.heap.size, 4, none⟩ = some (.int .u64 a4) ∧ W9.cell? ⟨w.heap.size, 5, none⟩ = some (.int .u64 a5) ∧ W9.cell? ⟨w.heap.size, 6, none⟩ = some (.int .u64 a6) ∧ W9.cell? ⟨w.heap.size, 7, none⟩ = some (.int .u64 a7) ∧ W9.cell? ⟨w.heap.size, 8, none⟩ = some (.slice FA n fc) ∧ W9.cell? ⟨w.heap.size, 9, none⟩ = some (.slice A8 (m + 1) c8) ∧ W9.cell? ⟨w.heap.size + 1 + 1, 0, none⟩ = some (.int .u64 0) ∧ W9.cell? ⟨w.heap.size + 1 + 1, 1, none⟩ = some (.int .u64 0) ∧ W9.cell? ⟨w.heap.size + 1 + 1, 2, none⟩ = some (.int .u64 0) ∧ W9.cell? ⟨w.heap.size + 1 + 1, 3, none⟩ = some (.int .u64 0) ∧ W9.cell? ⟨w.heap.size + 1 + 1, 4, none⟩ = some (.int .u64 0) ∧ W9.cell? ⟨w.heap.size + 1 + 1, 5, none⟩ = some (.int .u64 0) ∧ W9.cell? ⟨w.heap.size + 1 + 1, 6, none⟩ = some (.int .u64 0) ∧ W9.cell? ⟨w.heap.size + 1 + 1, 7, none⟩ = some (.int .u64 0) ∧ W9.cell? ⟨w.heap.size + 1 + 1, 8, none⟩ = some (.slice none 0 0) ∧ W9.cell? ⟨w.heap.size + 1 + 1, 9, none⟩ = some (.slice none 0 0) ∧ W9.frozen? ⟨w.heap.size + 1 + 1, 0, none⟩ = false ∧ W9.frozen? ⟨w.heap.size + 1 + 1, 1, none⟩ = false ∧ W9.frozen? ⟨w.heap.size + 1 + 1, 2, none⟩ = false ∧ W9.frozen? ⟨w.heap.size + 1 + 1, 3, none⟩ = false ∧ W9.frozen? ⟨w.heap.size + 1 + 1, 4, none⟩ = false ∧ W9.frozen? ⟨w.heap.size + 1 + 1, 5, none⟩ = false ∧ W9.frozen? ⟨w.heap.size + 1 + 1, 6, none⟩ = false ∧ W9.frozen? ⟨w.heap.size + 1 + 1, 7, none⟩ = false ∧ W9.frozen? ⟨w.heap.size + 1 + 1, 8, none⟩ = false ∧ W9.frozen? ⟨w.heap.size + 1 + 1, 9, none⟩ = false ∧ w.heap.size + 1 + 1 < W9.heap.size ∧ Sl frc W9 FA n fc frames ∧ Sl us W9 A8 (m + 1) c8 (hs ++ [IntKind.u64.wrap nn]) ∧ New w W9 FA FA ∧ New w W9 HB A8 ∧ Below w.heap.size w W9 :=
        ⟨_, rfl, by go_simp, by go_simp, by go_simp, by go_simp, by go_simp, by go_simp, by go_simp, by go_simp, by go_simp, by go_simp, keep_set (keep_below z0 hb8) (by dsimp only; omega), keep_set (keep_below z1 hb8) (by dsimp only; omega), keep_set (keep_below z2 hb8) (by dsimp only; omega), keep_set (keep_below z3 hb8) (by dsimp only; omega), keep_set (keep_below z4 hb8) (by dsimp only; omega), keep_set (keep_below z5 hb8) (by dsimp only; omega), keep_set (keep_below z6 hb8) (by dsimp only; omega), keep_set (keep_below z7 hb8) (by dsimp only; omega), keep_set (keep_below z8 hb8) (by dsimp only; omega), keep_set (keep_below z9 hb8) (by dsimp only; omega), (World.frozen?_setCell _ _ _ _).trans (keep_frozen zf0 hzR hb8), (World.frozen?_setCell _ _ _ _).trans (keep_frozen zf1 hzR hb8), (World.frozen?_setCell _ _ _ _).trans (keep_frozen zf2 hzR hb8), (World.frozen?_setCell _ _ _ _).trans (keep_frozen zf3 hzR hb8), (World.frozen?_setCell _ _ _ _).trans (keep_frozen zf4 hzR hb8), (World.frozen?_setCell _ _ _ _).trans (keep_frozen zf5 hzR hb8), (World.frozen?_setCell _ _ _ _).trans (keep_frozen zf6 hzR hb8), (World.frozen?_setCell _ _ _ _).trans (keep_frozen zf7 hzR hb8), (World.frozen?_setCell _ _ _ _).trans (keep_frozen zf8 hzR hb8), (World.frozen?_setCell _ _ _ _).trans (keep_frozen zf9 hzR hb8), (by have := hb8.size; simp [World.setCell]; omega), (hF0.below hb8).setCell (fun ad h => by have := hFb ad h; dsimp only; omega) _, s8.setCell (fun ad h => by have := (n8 ad h).1; dsimp only; omega) _, New.same, (.inr fun ad h => ⟨by have := (n8 ad h).1; have := kb.size; omega, by have := (n8 ad h).2; simpa [World.setCell] using this⟩), bset (bnext kb hb8) (Nat.le_refl _) _⟩
      rw [hW9]
      clear hW9 q0 q1 q2 q3 q4 q5 q6 q7 q8 q9 qf p0 z0 zf0 p1 z1 zf1 p2 z2 zf2 p3 z3 zf3 p4 z4 zf4 p5 z5 zf5 p6 z6 zf6 p7 z7 zf7 p8 z8 zf8 p9 z9 zf9
      go_wp2_with fail
      refine bodyPost_ret (v := .agg #[.int .u64 a0, .int .u64 a1, .int .u64 a2, .int .u64 a3, .int .u64 a4, .int .u64 a5, .int .u64 a6, .int .u64 a7, .slice FA (n) fc, .slice A8 (m + 1) c8]) (by simp [results, Try.results16, go_sem, x0, x1, x2, x3, x4, x5, x6, x7, x8, x9, hzR9]) rfl ⟨FA, fc, A8, c8, rfl, sF.ten (fun ad h => by have := hFb ad h; omega) _ _ _ _ _ _ _ _ _ _, sH.ten (fun ad h => by have := (n8 ad h).1; omega) _ _ _ _ _ _ _ _ _ _, nF.ten _ _ _ _ _ _ _ _ _ _ _, nH.ten _ _ _ _ _ _ _ _ _ _ _, below_ten kb9 (by omega) _ _ _ _ _ _ _ _ _ _⟩
  · refine planAct_some (fun K hK => ?_)
    go_simp
    refine hK.out _ _ (ext_mem (bnew (brefl W0).drew _)) ?_
    clear hK K
    refine wpG_one ?_
    simp only [pickOps, List.getElem?_cons_succ, List.getElem?_cons_zero, Option.elim_some]
    repeat (go_big_quiet_step (fail))
    refine wpQuiet_nil ?_
    refine planAct_some (fun K hK => ?_)
    go_simp
    refine hK.out _ _ (ext_mem (bnew (bnew (brefl W0).drew _) _)) ?_
    clear hK K
    refine wpG_one ?_
    simp only [pickOps, List.getElem?_cons_succ, List.getElem?_cons_zero, Option.elim_some]
    repeat (go_big_quiet_step (fail))
    refine wpQuiet_nil ?_
    refine planAct_some (fun K hK => ?_)
    refine step_fresh (W0 := W0) (ys := hs.map uc) (m := m) E rfl (.tmp 80) (.tmp 82) rfl (bnew (bnew (brefl W0).drew _) _) rfl (own_empty (bnew (brefl W0).drew _) (by simp)) rfl (by rw [HL.out]; omega) (hrd.below (bnew (bnew (brefl W0).drew _) _)) (uc_one _) (by unfold maxLen; omega) (by omega) ?_
    intro A1 c1 w1 own1 hb1 hg1
    go_simp
    refine hK.out _ _ (ext_mem hb1) ?_
    clear hK K
    refine wpG_one ?_
    simp only [pickOps, List.getElem?_cons_succ, List.getElem?_cons_zero, Option.elim_some]
    repeat (go_big_quiet_step (fail))
    refine wpQuiet_nil ?_
    refine planAct_some (fun K hK => ?_)
    refine step_onto (W0 := W0) (ys := [.int .u64 (IntKind.u64.wrap nn)]) (m := 1) E rfl (.tmp 83) (.tmp 87) rfl hb1 rfl (own1) rfl rfl (Rd.grown_ hg1 (Rd.drew (Rd.alloc (Rd.new _ _ _ (by simp)) _)) (fun ad h => by cases h; simp)) (by simp [Value.oneCell']) (by unfold maxLen; omega) (by omega) ?_
    intro A8 c8 w8 own8 hb8 hg8
    go_simp
    refine hK.out _ _ (ext_mem hb8) ?_
    clear hK K
    have own8x : w8.ownsRow W0.heap.size 33 1 (.slice A8 (m + 1) c8) (m + 1) ((hs ++ [IntKind.u64.wrap nn]).map uc) := by rw [List.map_append]; exact own8
    have p9a := keep_below p9 hb8
    have p9f := keep_frozen pf9 (block_lt_of_cell p9) hb8
    have hz9 : w.heap.size < w8.heap.size := block_lt_of_cell p9a
    refine wpG_fin ?_
    simp only [pickOps, List.getElem?_cons_succ, List.getElem?_cons_zero, Option.elim_some]
    repeat (go_big_quiet_step (fail))
    refine wpQuiet_nil ?_
    refine lastG_some (fun K hK => ?_)
    go_simp
    refine hK.out _ _ ?_
    clear hK K
    refine NoPanic.normal ?_
    clear hX hzz0 hzz1
    have s8 := own_sl_us own8x
    have n8 := fun (ad : Addr) (h : A8 = some ad) => (own_block own8x ad h).2
    have q0 := keep_below p0 hb8
    have q1 := keep_below p1 hb8
    have q2 := keep_below p2 hb8
    have q3 := keep_below p3 hb8
    have q4 := keep_below p4 hb8
    have q5 := keep_below p5 hb8
    have q6 := keep_below p6 hb8
    have q7 := keep_below p7 hb8
    have q8 := keep_below p8 hb8
    have q9 := keep_below p9 hb8
    have qf := keep_frozen pf9 (block_lt_of_cell p9) hb8
    have hz8 : w.heap.size < w8.heap.size := block_lt_of_cell q0
    obtain ⟨W9, hW9, y0, y1, y2, y3, y4, y5, y6, y7, y8, y9, x0, x1, x2, x3, x4, x5, x6, x7, x8, x9, xf0, xf1, xf2, xf3, xf4, xf5, xf6, xf7, xf8, xf9, hzR9, sF, sH, nF, nH, kb9⟩ : ∃ W9, w8.setCell ⟨w.heap.size, 9, none⟩ (.slice A8 (m + 1) c8) = W9 ∧ W9.cell? ⟨w.heap.size, 0, none⟩ = some (.int .u64 a0) ∧ W9.cell? ⟨w.heap.size, 1, none⟩ = some (.int .u64 a1) ∧ W9.cell? ⟨w.heap.size, 2, none⟩ = some (.int .u64 a2) ∧ W9.cell? ⟨w.heap.size, 3, none⟩ = some (.int .u64 a3) ∧ W9.cell? ⟨w.heap.size, 4, none⟩ = some (.int .u64 a4) ∧ W9.cell? ⟨w.heap.size, 5, none⟩ = some (.int .u64 a5) ∧ W9.cell? ⟨w.heap.size, 6, none⟩ = some (.int .u64 a6) ∧ W9.cell? ⟨w.heap.size, 7, none⟩ = some (.int .u64 a7) ∧ W9.cell? ⟨w.heap.size, 8, none⟩ = some (.slice FA n fc) ∧ W9.cell? ⟨w.heap.size, 9, none⟩ = some (.slice A8 (m + 1) c8) ∧ W9.cell? ⟨w.heap.size + 1 + 1, 0, none⟩ = some (.int .u64 0) ∧ W9.cell? ⟨w.heap.size + 1 + 1, 1, none⟩ = some (.int .u64 0) ∧ W9.cell? ⟨w.heap.size + 1 + 1, 2, none⟩ = some (.int .u64 0) ∧ W9.cell? ⟨w.heap.size + 1 + 1, 3, none⟩ = some (.int .u64 0) ∧ W9.cell? ⟨w.heap.size + 1 + 1, 4, none⟩ = some (.int .u64 0) ∧ W9.cell? ⟨w.heap.size + 1 + 1, 5, none⟩ = some (.int .u64 0) ∧ W9.cell? ⟨w.heap.size + 1 + 1, 6, none⟩ = some (.int .u64 0) ∧ W9.cell? ⟨w.heap.size + 1 + 1, 7, none⟩ = some (.int .u64 0) ∧ W9.cell? ⟨w.heap.size + 1 + 1, 8, none⟩ = some (.slice none 0 0) ∧ W9.cell? ⟨w.heap.size + 1 + 1, 9, none⟩ = some (.slice none 0 0) ∧ W9.frozen? ⟨w.heap.size + 1 + 1, 0, none⟩ = false ∧ W9.frozen? ⟨w.heap.size + 1 + 1, 1, none⟩ = false ∧ W9.frozen? ⟨w.heap.size + 1 + 1, 2, none⟩ = false ∧ W9.frozen? ⟨w.heap.size + 1 + 1, 3, none⟩ = false ∧ W9.frozen? ⟨w.heap.size + 1 + 1, 4, none⟩ = false ∧ W9.frozen? ⟨w.heap.size + 1 + 1, 5, none⟩ = false ∧ W9.frozen? ⟨w.heap.size + 1 + 1, 6, none⟩ = false ∧ W9.frozen? ⟨w.heap.size + 1 + 1, 7, none⟩ = false ∧ W9.frozen? ⟨w.heap.size + 1 + 1, 8, none⟩ = false ∧ W9.frozen? ⟨w.heap.size + 1 + 1, 9, none⟩ = false ∧ w.heap.size + 1 + 1 < W9.heap.size ∧ Sl frc W9 FA n fc frames ∧ Sl us W9 A8 (m + 1) c8 (hs ++ [IntKind.u64.wrap nn]) ∧ New w W9 FA FA ∧ New w W9 HB A8 ∧ Below w.heap.size w W9 :=
      ⟨_, rfl, by go_simp, by go_simp, by go_simp, by go_simp, by go_simp, by go_simp, by go_simp, by go_simp, by go_simp, by go_simp, keep_set (keep_below z0 hb8) (by dsimp only; omega), keep_set (keep_below z1 hb8) (by dsimp only; omega), keep_set (keep_below z2 hb8) (by dsimp only; omega), keep_set (keep_below z3 hb8) (by dsimp only; omega), keep_set (keep_below z4 hb8) (by dsimp only; omega), keep_set (keep_below z5 hb8) (by dsimp only; omega), keep_set (keep_below z6 hb8) (by dsimp only; omega), keep_set (keep_below z7 hb8) (by dsimp only; omega), keep_set (keep_below z8 hb8) (by dsimp only; omega), keep_set (keep_below z9 hb8) (by dsimp only; omega), (World.frozen?_setCell _ _ _ _).trans (keep_frozen zf0 hzR hb8), (World.frozen?_setCell _ _ _ _).trans (keep_frozen zf1 hzR hb8), (World.frozen?_setCell _ _ _ _).trans (keep_frozen zf2 hzR hb8), (World.frozen?_setCell _ _ _ _).trans (keep_frozen zf3 hzR hb8), (World.frozen?_setCell _ _ _ _).trans (keep_frozen zf4 hzR hb8), (World.frozen?_setCell _ _ _ _).trans (keep_frozen zf5 hzR hb8), (World.frozen?_setCell _ _ _ _).trans (keep_frozen zf6 hzR hb8), (World.frozen?_setCell _ _ _ _).trans (keep_frozen zf7 hzR hb8), (World.frozen?_setCell _ _ _ _).trans (keep_frozen zf8 hzR hb8), (World.frozen?_setCell _ _ _ _).trans (keep_frozen zf9 hzR hb8), (by have := hb8.size; simp [World.setCell]; omega), (hF0.below hb8).setCell (fun ad h => by have := hFb ad h; dsimp only; omega) _, s8.setCell (fun ad h => by have := (n8 ad h).1; dsimp only; omega) _, New.same, (.inr fun ad h => ⟨by have := (n8 ad h).1; have := kb.size; omega, by have := (n8 ad h).2; simpa [World.setCell] using this⟩), bset (bnext kb hb8) (Nat.le_refl _) _⟩
    rw [hW9]
    clear hW9 q0 q1 q2 q3 q4 q5 q6 q7 q8 q9 qf p0 z0 zf0 p1 z1 zf1 p2 z2 zf2 p3 z3 zf3 p4 z4 zf4 p5 z5 zf5 p6 z6 zf6 p7 z7 zf7 p8 z8 zf8 p9 z9 zf9
    go_wp2_with fail
    refine bodyPost_ret (v := .agg #[.int .u64 a0, .int .u64 a1, .int .u64 a2, .int .u64 a3, .int .u64 a4, .int .u64 a5, .int .u64 a6, .int .u64 a7, .slice FA (n) fc, .slice A8 (m + 1) c8]) (by simp [results, Try.results16, go_sem, x0, x1, x2, x3, x4, x5, x6, x7, x8, x9, hzR9]) rfl ⟨FA, fc, A8, c8, rfl, sF.ten (fun ad h => by have := hFb ad h; omega) _ _ _ _ _ _ _ _ _ _, sH.ten (fun ad h => by have := (n8 ad h).1; omega) _ _ _ _ _ _ _ _ _ _, nF.ten _ _ _ _ _ _ _ _ _ _ _, nH.ten _ _ _ _ _ _ _ _ _ _ _, below_ten kb9 (by omega) _ _ _ _ _ _ _ _ _ _⟩
end Go.Proofs.Ytclhlgeicfhdiaa
