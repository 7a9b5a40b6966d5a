/- Rows: a row put into a list of the call's own: the library's Insert. -/
import Derived.Test.YtklpnjenddkmaaaRowD
namespace Go.Proofs.Ytklpnjenddkmaaa
set_option linter.unusedVariables false
set_option linter.unusedSimpArgs false
open Go.RowKit

theorem insL_end {l : List RV} {n : Nat} (h : l.length = n) (x : RV) : (insL l n x) = l ++ [x] := by
  unfold insL
  rw [List.take_of_length_le (by omega), List.drop_eq_nil_of_le (by omega)]
set_option maxHeartbeats 4000000 in
set_option maxRecDepth 100000 in
theorem insert_nil {W0 w : World} {vb : Nat} {x : RV} (hb : Below W0.heap.size W0 w) (hv : Blk w vb 29 (rvc x).toArray) :
    Calls Try.prog 20 #[.slice none 0 0, .int .i64 0, .slice (some ⟨vb, 0, none⟩) 1 1] w fun e w' => ∃ A' c', e = .returned (.slice A' 1 c') ∧ Sl rvc w' A' 1 c' (insL [] 0 x) ∧ Below W0.heap.size W0 w' := by
  obtain ⟨i0, E⟩ := elem_r
  have own : w.ownsRow W0.heap.size 29 3 (.slice none 0 0) 0 [] := World.ownsRow_nil _ _ _ _
  have hrd : Rd w (some ⟨vb, 0, none⟩) (rvc x) := by simpa using hv.rd
  have h1 := rvc_one [x]
  have HR : Hid ([] ++ rvc x = (insL [] 0 x).flatMap rvc) := by unfold insL; rfl
  rw [List.flatMap_cons, List.flatMap_nil, List.append_nil] at h1
  have HL : Hid ((rvc x).length = 1 * 3) := rfl
  generalize rvc x = ys at *
  go_enter Try.func20, Try.ntmps20
  go_wp2_with (at_builtin; refine wpList_onto (W0 := W0) (ys := ys) (m := 1) E rfl (.tmp 23) (.tmp 24) rfl hb rfl own rfl HL.out hrd h1 (by unfold maxLen; omega) (by omega) ?_; intro A8 c8 w8 own8 hb8 _)
  go_ret
  exact ⟨A8, c8, rfl, Sl.of_own rvc_len (by decide) (by rw [← HR.out]; exact own8), hb8⟩
set_option maxHeartbeats 4000000 in
set_option maxRecDepth 100000 in
theorem insert_end {W0 w : World} {g n c vb : Nat} {l : List RV} {x : RV} (own : w.ownsRow W0.heap.size 29 3 (.slice (some ⟨g, 0, none⟩) n c) n (l.flatMap rvc)) (hl : l.length = n) (hnc : n ≤ c) (hb : Below W0.heap.size W0 w) (hn : n ≤ 1000000) (hv : Blk w vb 29 (rvc x).toArray) :
    Calls Try.prog 20 #[.slice (some ⟨g, 0, none⟩) n c, .int .i64 n, .slice (some ⟨vb, 0, none⟩) 1 1] w fun e w' => ∃ A' c', e = .returned (.slice A' (n + 1) c') ∧ Sl rvc w' A' (n + 1) c' (insL l n x) ∧ Below W0.heap.size W0 w' := by
  obtain ⟨i0, E⟩ := elem_r
  have hrd : Rd w (some ⟨vb, 0, none⟩) (rvc x) := by simpa using hv.rd
  have h1 := rvc_one [x]
  have HR : Hid (l.flatMap rvc ++ rvc x = (insL l n x).flatMap rvc) := by rw [insL_end hl, List.flatMap_append]; rfl
  rw [List.flatMap_cons, List.flatMap_nil, List.append_nil] at h1
  have HL : Hid ((rvc x).length = 1 * 3) := rfl
  clear hl
  generalize rvc x = ys at *
  generalize l.flatMap rvc = xs at *
  by_cases hcn : c = n
  · subst hcn
    go_enter Try.func20, Try.ntmps20
    go_wp2_with (at_builtin; refine wpList_onto (W0 := W0) (ys := ys) (m := 1) E rfl (.tmp 23) (.tmp 24) rfl hb rfl own rfl HL.out hrd h1 (by unfold maxLen; omega) (by omega) ?_; intro A8 c8 w8 own8 hb8 _)
    go_ret
    exact ⟨A8, c8, rfl, Sl.of_own rvc_len (by decide) (by rw [← HR.out]; exact own8), hb8⟩
  · go_enter Try.func20, Try.ntmps20
    go_wp2_with (at_builtin; refine wpList_onto (W0 := W0) (ys := ys) (m := 1) E rfl (.tmp 23) (.tmp 24) rfl hb rfl own rfl HL.out hrd h1 (by unfold maxLen; omega) (by omega) ?_; intro A8 c8 w8 own8 hb8 _)
    go_ret
    exact ⟨A8, c8, rfl, Sl.of_own rvc_len (by decide) (by rw [← HR.out]; exact own8), hb8⟩
set_option maxHeartbeats 4000000 in
set_option maxRecDepth 100000 in
theorem insert_room {W0 w : World} {g n c i vb : Nat} {l : List RV} {x : RV} (hB : W0.heap.size ≤ g) {cur : List Value} (hg : Blk w g 29 cur.toArray) (hcur : cur.length = c * 3) (hx0 : cur.take (n * 3) = l.flatMap rvc) (hm : c ≤ maxLen) (hl : l.length = n) (hi : i < n) (hroom : n + 1 ≤ c) (hb : Below W0.heap.size W0 w) (hn : n ≤ 1000000) (hv : Blk w vb 29 (rvc x).toArray) (hvg : vb ≠ g) :
    Calls Try.prog 20 #[.slice (some ⟨g, 0, none⟩) n c, .int .i64 i, .slice (some ⟨vb, 0, none⟩) 1 1] w fun e w' => ∃ A' c', e = .returned (.slice A' (n + 1) c') ∧ Sl rvc w' A' (n + 1) c' (insL l i x) ∧ Below W0.heap.size W0 w' := by
  unfold maxLen at hm
  have hsz : (Try.prog.info? 29).map (·.size) = some 3 := by kernel_rfl
  have h1 := rvc_one [x]
  rw [List.flatMap_cons, List.flatMap_nil, List.append_nil] at h1
  have hov : ∀ lb cb, (callFunc 24 #[.slice (some ⟨vb, 0, none⟩) 1 1, .slice (some ⟨g, (i + 1) * 3, none⟩) lb cb]).run Try.prog w = .ok (.value (.bool false)) w := fun lb cb => by
    rw [run_callFunc_extern Try.func24 (by kernel_rfl) (by kernel_rfl) (by kernel_rfl) (e := Extern.SlicesOverlaps.overlaps #[22, 22] #[4]) (by kernel_rfl),
      Lib.run_overlaps_apart w 22 4 29 Try.underlying22 3 (fun w => by kernel_rfl) ⟨vb, 0, none⟩ ⟨g, (i + 1) * 3, none⟩ 1 1 lb cb hvg 29 29 3 (c * 3) (by show w.shape? vb = _; unfold World.shape?; rw [show w.heap[vb]? = _ from hv]; rfl) (by show w.shape? g = _; unfold World.shape?; rw [show w.heap[g]? = _ from hg]; simp [hcur]) (by omega) (hv.frozen 0) (hv.frozen 3)]
    rfl
  have hz2 : ¬ ((i : Int) = (n : Int)) := by omega
  have hw1 : IntKind.i64.wrap ((i : Int) + 1) = (i : Int) + 1 := by rw [IntKind.wrap_i64]; omega
  have hb1 : (0 : Int) ≤ (i : Int) + 1 := by omega
  have hin : i ≤ n := by omega
  have htn : ((i : Int) + 1).toNat = i + 1 := by omega
  have hb2 : ¬ (c = i + 1) := by omega
  have hb3 : (i : Int) ≤ (n : Int) + 1 := by omega
  have hb4 : ¬ (c = i) := by omega
  go_enter Try.func20, Try.ntmps20
  go_wp2_with (simp only [hov])
  have hd1 : ((cur.take (n * 3)).drop (i * 3)).length = (n - i) * 3 := by rw [List.length_drop, List.length_take, hcur]; omega
  have hone1 : ∀ v ∈ (cur.take (n * 3)).drop (i * 3), v.oneCell' = true := fun v hv => rvc_one l v (by rw [← hx0]; exact List.mem_of_mem_drop hv)
  have hsrc1 : ∀ (j : Nat) (v : Value), ((cur.take (n * 3)).drop (i * 3))[j]? = some v → w.drew.cell? ((⟨g, i * 3, none⟩ : Addr).add j) = some v := fun j v hj => by
    rw [Addr.add_lit]
    show w.cell? _ = _
    rw [hg.cell, List.getElem?_toArray]
    rw [List.getElem?_drop, List.getElem?_take] at hj
    split at hj
    · exact hj
    · cases hj
  go_region_law (refine step_copy_blkS rfl (.tmp 73) (.tmp 76) 22 22 rfl 29 Try.underlying22 3 hsz g ((i + 1) * 3) (n - i) (c - (i + 1)) ⟨g, i * 3, none⟩ (n + 1 - i) (c - i) (by simp [Act.eval, Act.put]) (by simp [Act.eval, Act.put]) cur 29 hg.drew ((cur.take (n * 3)).drop (i * 3)) (n - i) (Nat.min_eq_right (by omega)).symm hd1 hsrc1 (by rw [hd1, hcur]; omega) hone1 ?_; intro w1 hB1 hg1)
  have hv1 := hv.drew.grown hg1 (by simpa using hvg)
  have hx1 : ∀ (j : Nat) (v : Value), (rvc x)[j]? = some v → w1.cell? ((⟨vb, 0, none⟩ : Addr).add j) = some v := fun j v hj => by
    rw [Addr.add_lit, hv1.cell, Nat.zero_add, List.getElem?_toArray]
    exact hj
  have hl1 : (splice cur ((i + 1) * 3) ((cur.take (n * 3)).drop (i * 3))).length = c * 3 := by rw [splice_len _ _ _ (by rw [hd1, hcur]; omega), hcur]
  have HX : Hid ((splice (splice cur ((i + 1) * 3) ((cur.take (n * 3)).drop (i * 3))) (i * 3) (rvc x)).take ((n + 1) * 3) = (insL l i x).flatMap rvc) := by
    rw [Hid, insL_flat, ← hx0, show (i + 1) * 3 = i * 3 + 3 by omega, show (n + 1) * 3 = n * 3 + 3 by omega]
    exact two_splices cur (rvc x) (i * 3) (n * 3) rfl (by omega) (by omega)
  have HZ : Hid ((splice (splice cur ((i + 1) * 3) ((cur.take (n * 3)).drop (i * 3))) (i * 3) (rvc x)).length = c * 3) := by rw [Hid, splice_len _ _ _ (by rw [hl1, rvc_len]; omega), hl1]
  have kb1 : Below W0.heap.size W0 w1 := bgrown hb.drew hg1 (fun k q => by cases q; exact hB)
  generalize splice cur ((i + 1) * 3) ((cur.take (n * 3)).drop (i * 3)) = cur1 at *
  have HX1 := Lib.hid hx1
  have HL1 := Lib.hid hl1
  have H1 := Lib.hid h1
  have HSZ := Lib.hid hsz
  clear hx1 hl1 h1 hsz hl
  clear hg hv hd1 hone1 hsrc1 hov hcur hx0 hb
  obtain ⟨w2, hcp, hB2, hg2⟩ := copy_blkS (P := Try.prog) w1 22 22 29 3 g (i * 3) (n + 1 - i) (c - i) ⟨vb, 0, none⟩ 1 1 cur1 29 (rvc x) Try.underlying22 HSZ.out hB1.out 1 (Nat.min_eq_left (by omega)).symm rfl HX1.out (by rw [HL1.out, rvc_len]; omega) H1.out
  go_wp2
  have kb2 : Below W0.heap.size W0 w2 := bgrown kb1 hg2 (fun k q => by cases q; exact hB)
  go_ret
  exact ⟨some ⟨g, 0, none⟩, c, rfl, Sl.of_own rvc_len (by decide) (Blk.own hB2.out hB (by omega) (by unfold maxLen; omega) (by rw [List.size_toArray]; exact HZ.out) HX.out), kb2⟩
end Go.Proofs.Ytklpnjenddkmaaa
