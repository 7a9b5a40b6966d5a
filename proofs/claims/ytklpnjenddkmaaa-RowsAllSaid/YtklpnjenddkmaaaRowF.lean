/- Rows: a row put into a list of the call's own, where there is no room. -/
import Derived.Test.YtklpnjenddkmaaaRowE
namespace Go.Proofs.Ytklpnjenddkmaaa
set_option linter.unusedVariables false
set_option linter.unusedSimpArgs false
open Go.RowKit

theorem two_splices2 {α : Type} (R X D : List α) (a : Nat) (hX : X.length = 3) (hR : a + 3 + D.length ≤ R.length) :
    (splice (splice R a X) (a + 3) D).take (a + 3 + D.length) = R.take a ++ X ++ D := by
  have hta : (R.take a).length = a := by rw [List.length_take]; omega
  have e1 : (splice R a X).take (a + 3) = R.take a ++ X := by
    unfold splice
    rw [← List.append_assoc]
    exact List.take_left' (by rw [List.length_append, hta, hX])
  have e2 : splice (splice R a X) (a + 3) D = (splice R a X).take (a + 3) ++ (D ++ (splice R a X).drop (a + 3 + D.length)) := rfl
  rw [e2, e1, ← List.append_assoc]
  exact List.take_left' (by rw [List.length_append, List.length_append, hta, hX])
set_option maxHeartbeats 4000000 in
set_option maxRecDepth 100000 in
theorem insert_grow {W0 w : World} {g n c i vb : Nat} {l : List RV} {x : RV} (hB : W0.heap.size ≤ g) {cur : List Value} (hg : Blk w g 29 cur.toArray) (hcur : cur.length = c * 3) (hx0 : cur.take (n * 3) = l.flatMap rvc) (hl : l.length = n) (hi : i < n) (hnc : n ≤ c) (hroom : c < n + 1) (hb : Below W0.heap.size W0 w) (hn : n ≤ 1000000) (hv : Blk w vb 29 (rvc x).toArray) :
    Calls Try.prog 20 #[.slice (some ⟨g, 0, none⟩) n c, .int .i64 i, .slice (some ⟨vb, 0, none⟩) 1 1] w fun e w' => ∃ A' c', e = .returned (.slice A' (n + 1) c') ∧ Sl rvc w' A' (n + 1) c' (insL l i x) ∧ Below W0.heap.size W0 w' := by
  have hsz : (Try.prog.info? 29).map (·.size) = some 3 := by kernel_rfl
  obtain ⟨i0, hi0, hz0, hzs, hzb⟩ := info_parts (show (Try.prog.info? 29).map (fun i => (i.zero, i.size, i.bytes)) = some (some (Value.agg #[.int .i64 0, .int .u64 0, .int .u64 0]), 3, 24) by kernel_rfl)
  have h1 := rvc_one [x]
  rw [List.flatMap_cons, List.flatMap_nil, List.append_nil] at h1
  have hgw := hg.lt
  have hvw := hv.lt
  have hold : (Builtin.firstCells i0.size i (.slice (some ⟨g, 0, none⟩) i c)).run Try.prog w.drew = .ok ((l.flatMap rvc).take (i * 3)).toArray w.drew := by
    rw [hzs]
    exact run_firstCells_some w.drew 3 i ⟨g, 0, none⟩ i c ((l.flatMap rvc).take (i * 3)) (by rw [List.length_take, flat_len rvc_len]; omega) (fun j v hj => by
      rw [Addr.add_lit, Nat.zero_add]
      show w.cell? _ = _
      rw [hg.cell, List.getElem?_toArray]
      rw [← hx0, List.getElem?_take, List.getElem?_take] at hj
      split at hj
      · split at hj
        · exact hj
        · cases hj
      · cases hj)
  have hkk : (n : Int) + 1 - (i : Int) = ((n + 1 - i : Nat) : Int) := by omega
  have hik : i + (n + 1 - i) = n + 1 := by omega
  have hrz : ∀ ty, (Builtin.append_ #[22, 3] ty #[.slice (some ⟨g, 0, none⟩) i c, .int .i64 ((n : Int) + 1 - (i : Int))]).run Try.prog w =
      .ok (.slice (some ⟨w.heap.size, 0, none⟩) (n + 1) (grownCap w (n + 1) c 29)) (w.drew.alloc (.cells (((l.flatMap rvc).take (i * 3)).toArray ++ Builtin.zeroCells (Value.agg #[.int .i64 0, .int .u64 0, .int .u64 0]).cells (n + 1 - i) ++ Builtin.zeroCells (Value.agg #[.int .i64 0, .int .u64 0, .int .u64 0]).cells (grownCap w (n + 1) c 29 - (n + 1))) 29)) := fun ty => by
    have h := Lib.run_append_grow_zeros w 22 3 ty 29 i0 _ .i64 .i64 Try.underlying22 Try.underlying3 hi0 hz0 (some ⟨g, 0, none⟩) i c ((l.flatMap rvc).take (i * 3)) hold (n + 1 - i) (by omega) (by omega) (by omega) (by omega) (by rw [hzb]; omega) (by rw [hzb, hik]; exact growslice_fits hroom (by omega))
    rw [hik] at h
    rw [hkk]
    exact h
  have hGn : n + 1 ≤ grownCap w (n + 1) c 29 := grownCap_ge w _ _ _
  have hG63 := grownCap_le_maxLen w (n + 1) c 29 (by unfold maxLen; omega)
  have hzc : (Value.agg #[.int .i64 0, .int .u64 0, .int .u64 0]).cells.size = 3 := by kernel_rfl
  obtain ⟨G, hG⟩ : ∃ G, G = grownCap w (n + 1) c 29 := ⟨_, rfl⟩
  rw [← hG] at hrz hGn hG63
  obtain ⟨ROW, hROW⟩ : ∃ ROW : Array Value, ROW = ((l.flatMap rvc).take (i * 3)).toArray ++ Builtin.zeroCells (Value.agg #[.int .i64 0, .int .u64 0, .int .u64 0]).cells (n + 1 - i) ++ Builtin.zeroCells (Value.agg #[.int .i64 0, .int .u64 0, .int .u64 0]).cells (G - (n + 1)) := ⟨_, rfl⟩
  rw [← hROW] at hrz
  have hFl : ((l.flatMap rvc).take (i * 3)).length = i * 3 := by rw [List.length_take, flat_len rvc_len]; omega
  have hRs : ROW.size = G * 3 := by
    rw [hROW, Array.size_append, Array.size_append, List.size_toArray, hFl, size_zeroCells, size_zeroCells, hzc]
    omega
  have hRt : ROW.toList.take (i * 3) = (l.flatMap rvc).take (i * 3) := by
    rw [hROW, Array.toList_append, Array.toList_append, List.append_assoc]
    exact List.take_left' hFl
  obtain ⟨W1, hW1, N1, V1, O1, kb1⟩ : ∃ W1, w.drew.alloc (.cells ROW 29) = W1 ∧ Blk W1 w.heap.size 29 ROW.toList.toArray ∧ Blk W1 vb 29 (rvc x).toArray ∧ Blk W1 g 29 cur.toArray ∧ Below W0.heap.size W0 W1 := ⟨_, rfl, by have := Blk.new w.drew 29 ROW; simpa using this, hv.drew.alloc _, hg.drew.alloc _, bnew hb.drew _⟩
  rw [hW1] at hrz
  have HB1 : W0.heap.size ≤ w.heap.size := hb.size
  unfold maxLen at hG63
  have hGi : ¬ (G = i) := by omega
  have hGim : ¬ (G = i + 1) := by omega
  have hci : ¬ (c = i) := by omega
  have hz2 : ¬ ((i : Int) = (n : Int)) := by omega
  have hw1 : IntKind.i64.wrap ((i : Int) + 1) = (i : Int) + 1 := by rw [IntKind.wrap_i64]; omega
  have hb1 : (0 : Int) ≤ (i : Int) + 1 := by omega
  have hin : i ≤ n := by omega
  have htn : ((i : Int) + 1).toNat = i + 1 := by omega
  have hb3 : (i : Int) ≤ (n : Int) := by omega
  have hx1 : ∀ (j : Nat) (v : Value), (rvc x)[j]? = some v → W1.cell? ((⟨vb, 0, none⟩ : Addr).add j) = some v := fun j v hj => by
    rw [Addr.add_lit, V1.cell, Nat.zero_add, List.getElem?_toArray]
    exact hj
  have HRt := Lib.hid hRt
  have HRs := Lib.hid (show ROW.toList.length = G * 3 by simpa using hRs)
  have hgN : g ≠ w.heap.size := by omega
  clear hRt hRs hROW hG hold hkk hik hg hv hb hFl
  generalize ROW.toList = R at *
  generalize w.heap.size = N at *
  have HX1 := Lib.hid hx1
  have H1 := Lib.hid h1
  have HSZ := Lib.hid hsz
  have HRZ := Lib.hid hrz
  have HCUR := Lib.hid hcur
  have HX0 := Lib.hid hx0
  clear hx1 h1 hsz hrz hcur hx0 hl hW1 hi0 hz0 hzs hzb hzc
  obtain ⟨w2, hcp, hB2, hg2⟩ := copy_blkS (P := Try.prog) W1 22 22 29 3 N (i * 3) (n + 1 - i) (G - i) ⟨vb, 0, none⟩ 1 1 R 29 (rvc x) Try.underlying22 HSZ.out N1 1 (Nat.min_eq_left (by omega)).symm rfl HX1.out (by rw [HRs.out, rvc_len]; omega) H1.out
  have tok1 : True := trivial
  go_enter Try.func20, Try.ntmps20
  go_wp2_with ((have _t := tok1; at_builtin; refine Lib.wpList_append_run _ rfl _ _ _ _ rfl _ _ rfl rfl _ _ (HRZ.out _) ?_; clear tok1 _t))
  have O2 := (O1.grown hg2 (by simpa using hgN)).drew
  have kb2 : Below W0.heap.size W0 w2 := bgrown kb1 hg2 (fun k q => by cases q; exact HB1)
  have hcur := HCUR.out
  have hx0 := HX0.out
  have hsz := HSZ.out
  have hd1 : ((cur.take (n * 3)).drop (i * 3)).length = (n - i) * 3 := by rw [List.length_drop, List.length_take, hcur]; omega
  have hone1 : ∀ v ∈ (cur.take (n * 3)).drop (i * 3), v.oneCell' = true := fun v hv => rvc_one l v (by rw [← hx0]; exact List.mem_of_mem_drop hv)
  have hsrc1 : ∀ (j : Nat) (v : Value), ((cur.take (n * 3)).drop (i * 3))[j]? = some v → w2.drew.cell? ((⟨g, i * 3, none⟩ : Addr).add j) = some v := fun j v hj => by
    rw [Addr.add_lit, O2.cell, List.getElem?_toArray]
    rw [List.getElem?_drop, List.getElem?_take] at hj
    split at hj
    · exact hj
    · cases hj
  have hl1 : (splice R (i * 3) (rvc x)).length = G * 3 := by rw [splice_len _ _ _ (by rw [HRs.out, rvc_len]; omega), HRs.out]
  have HX : Hid ((splice (splice R (i * 3) (rvc x)) ((i + 1) * 3) ((cur.take (n * 3)).drop (i * 3))).take ((n + 1) * 3) = (insL l i x).flatMap rvc) := by
    rw [Hid, insL_flat, ← HRt.out, ← hx0, show (i + 1) * 3 = i * 3 + 3 by omega, show (n + 1) * 3 = i * 3 + 3 + ((cur.take (n * 3)).drop (i * 3)).length by rw [hd1]; omega]
    exact two_splices2 R (rvc x) _ (i * 3) rfl (by rw [hd1, HRs.out]; omega)
  have HZ : Hid ((splice (splice R (i * 3) (rvc x)) ((i + 1) * 3) ((cur.take (n * 3)).drop (i * 3))).length = G * 3) := by rw [Hid, splice_len _ _ _ (by rw [hl1, hd1]; omega), hl1]
  have hB2 := hB2.out
  generalize splice R (i * 3) (rvc x) = R1 at *
  clear HRZ N1 V1 O1 HRt HRs HX1
  go_region_law (refine step_copy_blkS rfl (.tmp 50) (.tmp 53) 22 22 rfl 29 Try.underlying22 3 hsz N ((i + 1) * 3) (n - i) (G - (i + 1)) ⟨g, i * 3, none⟩ (n - i) (c - i) (by simp [Act.eval, Act.put]) (by simp [Act.eval, Act.put]) R1 29 (Blk.drew hB2) ((cur.take (n * 3)).drop (i * 3)) (n - i) (Nat.min_self _).symm hd1 hsrc1 (by rw [hd1, hl1]; omega) hone1 ?_; intro w3 hB3 hg3)
  have kb3 : Below W0.heap.size W0 w3 := bgrown kb2.drew hg3 (fun k q => by cases q; exact HB1)
  go_wp2
  go_ret
  exact ⟨some ⟨N, 0, none⟩, G, rfl, Sl.of_own rvc_len (by decide) (Blk.own hB3.out HB1 (by omega) (by unfold maxLen; omega) (by rw [List.size_toArray]; exact HZ.out) HX.out), kb3⟩

theorem insert_any {W0 w : World} {A : Option Addr} {n c i vb : Nat} {l : List RV} {x : RV} (own : w.ownsRow W0.heap.size 29 3 (.slice A n c) n (l.flatMap rvc)) (hl : l.length = n) (hi : i ≤ n) (hb : Below W0.heap.size W0 w) (hn : n ≤ 1000000) (hv : Blk w vb 29 (rvc x).toArray) (hvg : ∀ ad, A = some ad → vb ≠ ad.block) :
    Calls Try.prog 20 #[.slice A n c, .int .i64 i, .slice (some ⟨vb, 0, none⟩) 1 1] w fun e w' => ∃ A' c', e = .returned (.slice A' (n + 1) c') ∧ Sl rvc w' A' (n + 1) c' (insL l i x) ∧ Below W0.heap.size W0 w' := by
  rcases own.2 with ⟨hv', h0⟩ | ⟨g, cap, cur, hv', hg, hh, hnc, hm, hs, hx⟩
  · cases hv'
    obtain rfl : i = 0 := by omega
    obtain rfl : l = [] := List.eq_nil_of_length_eq_zero hl
    exact insert_nil hb hv
  · cases hv'
    by_cases hin : i = n
    · subst hin
      exact insert_end own hl hnc hb hn hv
    · have hvg' : vb ≠ g := hvg _ rfl
      have hbk : Blk w g 29 cur.toList.toArray := by rw [Array.toArray_toList]; exact hh
      by_cases hroom : n + 1 ≤ c
      · exact insert_room hg hbk (by simpa using hs) hx hm hl (by omega) hroom hb hn hv hvg'
      · exact insert_grow hg hbk (by simpa using hs) hx hl (by omega) hnc (by omega) hb hn hv
end Go.Proofs.Ytklpnjenddkmaaa
