/- Rows: a row taken out of a list of the call's own: the library's Delete. -/
import Derived.Test.YtklpnjenddkmaaaRowF
namespace Go.Proofs.Ytklpnjenddkmaaa
set_option linter.unusedVariables false
set_option linter.unusedSimpArgs false
open Go.RowKit

theorem step_append_run {P : Program} {ops : Array Oper} {o : Oper} {a : Act} {w : World} {K : Act → World → Prop} {Q : Exit → Act → World → Prop} {E : Prop}
    (hg : o.guard = none) (d x : Operand) (dT sT : TypeId) (hop : o.op = Op.call { callee := Callee.builtin Builtin.append, args := #[d, x], argTypes := #[dT, sT] })
    (v u : Value) (hd : a.eval d = v) (hx : a.eval x = u) {v' : Value} {w' : World} (hr : (Builtin.append_ #[dT, sT] o.type #[v, u]).run P w = .ok v' w') (hK : K (a.put o.dst v') w') :
    if Region.wanted o (yielded ops a.tmps) = true then Oper.wp P o a w K Q else E := by
  have hw : Region.wanted o (yielded ops a.tmps) = true := by simp [Region.wanted, hg]
  rw [if_pos hw]
  unfold Oper.wp
  simp [execOp, hop, resolve, invoke, builtin, hd, hx, hr, Result.andThen]
  exact hK
def delL (l : List RV) (i : Nat) : List RV := l.take i ++ l.drop (i + 1)
theorem delL_len (l : List RV) (i : Nat) (h : i < l.length) : (delL l i).length = l.length - 1 := by
  unfold delL
  rw [List.length_append, List.length_take, List.length_drop]
  omega
theorem delL_flat (l : List RV) (i : Nat) : (delL l i).flatMap rvc = (l.flatMap rvc).take (i * 3) ++ (l.flatMap rvc).drop ((i + 1) * 3) := by
  unfold delL
  rw [List.flatMap_append, flat_take rvc_len, flat_drop rvc_len]
set_option maxHeartbeats 4000000 in
set_option maxRecDepth 100000 in
theorem delete_any {W0 w : World} {g n c i : Nat} {l : List RV} (hB : W0.heap.size ≤ g) {cur : List Value} (hg : Blk w g 29 cur.toArray) (hcur : cur.length = c * 3) (hx0 : cur.take (n * 3) = l.flatMap rvc) (hm : c ≤ maxLen) (hl : l.length = n) (hi : i < n) (hnc : n ≤ c) (hb : Below W0.heap.size W0 w) (hn : n ≤ 1000000) :
    Calls Try.prog 22 #[.slice (some ⟨g, 0, none⟩) n c, .int .i64 i, .int .i64 ((i : Int) + 1)] w fun e w' => e = .returned (.slice (some ⟨g, 0, none⟩) (n - 1) c) ∧ Sl rvc w' (some ⟨g, 0, none⟩) (n - 1) c (delL l i) ∧ Below W0.heap.size W0 w' := by
  unfold maxLen at hm
  obtain ⟨i0, hi0, hz0, hzs, hzb⟩ := info_parts (show (Try.prog.info? 29).map (fun i => (i.zero, i.size, i.bytes)) = some (some (Value.agg #[.int .i64 0, .int .u64 0, .int .u64 0]), 3, 24) by kernel_rfl)
  obtain ⟨N1, hN1⟩ : ∃ N1, n = N1 + 1 := ⟨n - 1, by omega⟩
  have hd1 : ((l.flatMap rvc).drop ((i + 1) * 3)).length = (n - (i + 1)) * 3 := by rw [List.length_drop, flat_len rvc_len]; omega
  have hone1 : ∀ v ∈ (l.flatMap rvc).drop ((i + 1) * 3), v.oneCell' = true := fun v hv => rvc_one l v (List.mem_of_mem_drop hv)
  have hsrc1 : ∀ (j : Nat) (v : Value), ((l.flatMap rvc).drop ((i + 1) * 3))[j]? = some v → w.drew.cell? ((⟨g, (i + 1) * 3, none⟩ : Addr).add j) = some v := fun j v hj => by
    rw [Addr.add_lit]
    show w.cell? _ = _
    rw [hg.cell, List.getElem?_toArray]
    rw [← hx0, List.getElem?_drop, List.getElem?_take] at hj
    split at hj
    · exact hj
    · cases hj
  obtain ⟨W1, hB1, kb1, hap⟩ : ∃ W1, Blk W1 g 29 (splice cur (i * 3) ((l.flatMap rvc).drop ((i + 1) * 3))).toArray ∧ Below W0.heap.size W0 W1 ∧ ∀ ty (a : Addr) c', (n = i + 1 ∨ a = ⟨g, (i + 1) * 3, none⟩) → (Builtin.append_ #[22, 22] ty #[.slice (some ⟨g, 0, none⟩) i c, .slice (some a) (n - (i + 1)) c']).run Try.prog w.drew = .ok (.slice (some ⟨g, 0, none⟩) N1 c) W1 := by
    refine ⟨w.drew.setRow g (splice cur (i * 3) ((l.flatMap rvc).drop ((i + 1) * 3))).toArray, setRow_heap w.drew g _ _ 29 _ hg, bgrown hb.drew (grown_setRow w.drew g _) (fun k q => by cases q; exact hB), fun ty a c' ha => ?_⟩
    have h := run_append_room (P := Try.prog) (w := w.drew) 22 ty 29 i0 Try.underlying22 hi0 g i c cur.toArray hg a (n - (i + 1)) c' ((l.flatMap rvc).drop ((i + 1) * 3)) (by rw [hd1, hzs]) (fun j v hj => by
      rcases ha with rfl | rfl
      · exfalso
        have := (List.getElem?_eq_some_iff.1 hj).1
        omega
      · exact hsrc1 j v hj) hone1 (by omega) (by rw [hzs, hd1, List.size_toArray, hcur]; omega)
    rw [hzs, show i + (n - (i + 1)) = N1 by omega] at h
    rw [h]
    unfold splice
    simp
  have hl1 : (splice cur (i * 3) ((l.flatMap rvc).drop ((i + 1) * 3))).length = c * 3 := by rw [splice_len _ _ _ (by rw [hd1, hcur]; omega), hcur]
  have hx1 : (splice cur (i * 3) ((l.flatMap rvc).drop ((i + 1) * 3))).take (N1 * 3) = (delL l i).flatMap rvc := by
    rw [delL_flat]
    unfold splice
    rw [← List.append_assoc, List.take_left' (by rw [List.length_append, List.length_take, hcur, hd1]; omega), ← hx0, List.take_take, Nat.min_eq_left (by omega)]
  generalize splice cur (i * 3) ((l.flatMap rvc).drop ((i + 1) * 3)) = cur1 at *
  have hzl : (Builtin.zeroCells (Value.agg #[.int .i64 0, .int .u64 0, .int .u64 0]).cells 1).toList = [.int .i64 0, .int .u64 0, .int .u64 0] := by kernel_rfl
  obtain ⟨W2, hB2, kb2, hclr⟩ : ∃ W2, Blk W2 g 29 (splice cur1 (N1 * 3) [.int .i64 0, .int .u64 0, .int .u64 0]).toArray ∧ Below W0.heap.size W0 W2 ∧ ∀ ty c', (Builtin.clear_ #[22] ty #[.slice (some ⟨g, N1 * 3, none⟩) (n - N1) c']).run Try.prog W1 = .ok (.tuple #[]) W2 := by
    refine ⟨W1.setRow g (splice cur1 (N1 * 3) [.int .i64 0, .int .u64 0, .int .u64 0]).toArray, setRow_heap W1 g _ _ 29 _ hB1, bgrown kb1 (grown_setRow W1 g _) (fun k q => by cases q; exact hB), fun ty c' => ?_⟩
    have hst := run_storeCells_at Try.prog g (N1 * 3) 29 ([.int .i64 0, .int .u64 0, .int .u64 0] : List Value) 0 cur1.toArray W1 hB1 (by rw [List.size_toArray, hl1]; simp; omega) (by simp [Value.oneCell'])
    have hzv : ∀ w, (zeroValue 29).run Try.prog w = .ok (Value.agg #[.int .i64 0, .int .u64 0, .int .u64 0]) w := fun w => by kernel_rfl
    rw [show n - N1 = 1 by omega]
    unfold splice
    rw [← List.append_assoc]
    simp only [Nat.add_zero] at hst
    simp [Builtin.clear_, run_underlying Try.underlying22, hzv, hzl, hst]
  have hl2 : (splice cur1 (N1 * 3) [.int .i64 0, .int .u64 0, .int .u64 0]).length = c * 3 := by rw [splice_len _ _ _ (by rw [hl1]; simp; omega), hl1]
  have hx2 : (splice cur1 (N1 * 3) [.int .i64 0, .int .u64 0, .int .u64 0]).take (N1 * 3) = (delL l i).flatMap rvc := by
    rw [← hx1]
    unfold splice
    exact List.take_left' (by rw [List.length_take, hl1]; omega)
  have HSL : Hid (Sl rvc W2 (some ⟨g, 0, none⟩) N1 c (delL l i)) := Sl.of_own rvc_len (by decide) (Blk.own hB2 hB (by omega) (by unfold maxLen; omega) (by rw [List.size_toArray]; exact hl2) hx2)
  have HN1 := Lib.hid hN1
  have hz1 : ¬ ((i : Int) = (i : Int) + 1) := by omega
  have hb1 : (0 : Int) ≤ (i : Int) + 1 := by omega
  have htn : ((i : Int) + 1).toNat = i + 1 := by omega
  have hb3 : (i : Int) + 1 ≤ (n : Int) := by omega
  have hb4 : ¬ (c = i) := by omega
  have hb5 : ¬ (n = i) := by omega
  have hb6 : ¬ (c = N1) := by omega
  have hb7 : N1 ≤ n := by omega
  have hb8 : (N1 : Int) ≤ (n : Int) := by omega
  have hb9 : i ≤ n := by omega
  have hb11 : i ≤ c := by omega
  have hb12 : (i : Int) ≤ (i : Int) + 1 := by omega
  have hb13 : (i : Int) ≤ (c : Int) := by omega
  have hb14 : i + 1 ≤ c := by omega
  have hb10 : i + 1 ≤ n := by omega
  have HAP := Lib.hid hap
  clear hx1 hl1 hx2 hl2 hB1 hB2 hsrc1 hone1 hd1 hx0 hcur hg hl hN1 hi0 hz0 hzs hzb hap hb
  by_cases hci : c = i + 1
  · have hni : Hid (n = i + 1) := by show n = i + 1; omega
    subst hci
    go_enter Try.func22, Try.ntmps22
    go_wp2_with fail
    go_region_law (go_loud (refine step_append_run rfl (.tmp 22) (.tmp 25) 22 22 rfl (.slice (some ⟨g, 0, none⟩) i (i + 1)) (.slice (some ⟨g, 0, none⟩) (n - (i + 1)) 0) (by simp [Act.eval, Act.put]) (by simp [Act.eval, Act.put]; have := hni.out; omega) (HAP.out _ _ _ (.inl hni.out)) ?_))
    go_wp2
    go_ret
    exact ⟨by rw [HN1.out]; rfl, by rw [HN1.out]; exact HSL.out, kb2⟩
  · go_enter Try.func22, Try.ntmps22
    go_wp2_with fail
    go_region_law (go_loud (refine step_append_run rfl (.tmp 22) (.tmp 25) 22 22 rfl (.slice (some ⟨g, 0, none⟩) i c) (.slice (some ⟨g, (i + 1) * 3, none⟩) (n - (i + 1)) (c - (i + 1))) (by simp [Act.eval, Act.put]) (by simp [Act.eval, Act.put]) (HAP.out _ _ _ (.inr rfl)) ?_))
    go_wp2
    go_ret
    exact ⟨by rw [HN1.out]; rfl, by rw [HN1.out]; exact HSL.out, kb2⟩
end Go.Proofs.Ytklpnjenddkmaaa
