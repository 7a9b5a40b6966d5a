/- Rows: a copy of a list; a row put into one of the call's own. -/
import Derived.Test.YtklpnjenddkmaaaRowA
import Derived.Shelf.Spec.SlicesInsertGrow
namespace Go.Proofs.Ytklpnjenddkmaaa
set_option linter.unusedVariables false
set_option linter.unusedSimpArgs false
open Go.RowKit

theorem run_copy_rowS {P : Program} (w : World) (dT sT ty elem : TypeId) (s g o dLen dCap : Nat) (a : Addr) (sLen sCap : Nat) (cur : Array Value) (t : TypeId) (cs : List Value)
    (hu : P.underlying dT = some (.slice elem)) (hs : (P.info? elem).map (·.size) = some s)
    (hg : w.heap[g]? = some (.cells cur t (0, 0))) (m : Nat) (hm : m = Nat.min sLen dLen) (hn : cs.length = m * s)
    (hsrc : ∀ j v, cs[j]? = some v → w.cell? (a.add j) = some v) (hfit : o + cs.length ≤ cur.size) (h1 : ∀ v ∈ cs, v.oneCell' = true) :
    (Builtin.copy_ #[dT, sT] ty #[.slice (some ⟨g, o, none⟩) dLen dCap, .slice (some a) sLen sCap]).run P w =
      .ok (goInt m) (w.setRow g (splice cur.toList o cs).toArray) := by
  have hl := run_loadCells_list (P := P) w a cs hsrc
  have hst := run_storeCells_at P g o t cs 0 cur w hg (by simpa using hfit) h1
  rw [Nat.add_zero] at hst
  unfold splice
  rw [← List.append_assoc]
  cases hq : P.info? elem with
  | none => simp [hq] at hs
  | some i =>
    have hi : i.size = s := by simpa [hq] using hs
    simp [Builtin.copy_, run_underlying hu, Builtin.lenOf, Builtin.firstCells, sizeOf, typeInfo, hq, hi, ← hm, ← hn, hl, hst]
theorem copy_blkS {P : Program} (w : World) (dT sT elem : TypeId) (s g o dLen dCap : Nat) (a : Addr) (sLen sCap : Nat) (cur : List Value) (t : TypeId) (cs : List Value)
    (hu : P.underlying dT = some (.slice elem)) (hs : (P.info? elem).map (·.size) = some s)
    (hg : Blk w g t cur.toArray) (m : Nat) (hm : m = Nat.min sLen dLen) (hn : cs.length = m * s)
    (hsrc : ∀ j v, cs[j]? = some v → w.cell? (a.add j) = some v) (hfit : o + cs.length ≤ cur.length) (h1 : ∀ v ∈ cs, v.oneCell' = true) :
    ∃ w', (∀ ty, (Builtin.copy_ #[dT, sT] ty #[.slice (some ⟨g, o, none⟩) dLen dCap, .slice (some a) sLen sCap]).run P w = .ok (goInt m) w') ∧ Hid (Blk w' g t (splice cur o cs).toArray) ∧ w.grownBy w' (some g) :=
  ⟨_, fun ty => run_copy_rowS (P := P) w dT sT ty elem s g o dLen dCap a sLen sCap cur.toArray t cs hu hs hg m hm hn hsrc (by simpa using hfit) h1, (show _ = _ by simpa using setRow_heap w g _ _ t _ hg), grown_setRow w g _⟩
/-- copy, rows of s cells each, into block g: of the world behind it the block, and that all others are as they were. -/
theorem wp_copy_blkS {P : Program} {w : World} {o : Oper} {a : Act} {K : Act → World → Prop} {Q : Exit → Act → World → Prop} (d s : Operand) (dT sT : TypeId)
    (ho : o.op = .call { callee := .builtin .copy, args := #[d, s], argTypes := #[dT, sT] }) (elem : TypeId) (hu : P.underlying dT = some (.slice elem)) (sz : Nat) (hsz : (P.info? elem).map (·.size) = some sz)
    (g off dLen dCap : Nat) (ad : Addr) (sLen sCap : Nat) (hd : a.eval d = .slice (some ⟨g, off, none⟩) dLen dCap) (hs : a.eval s = .slice (some ad) sLen sCap)
    (cur : List Value) (t : TypeId) (hg : Blk w g t cur.toArray) (cs : List Value) (m : Nat) (hm : m = Nat.min sLen dLen) (hn : cs.length = m * sz)
    (hsrc : ∀ j v, cs[j]? = some v → w.cell? (ad.add j) = some v) (hfit : off + cs.length ≤ cur.length) (h1 : ∀ v ∈ cs, v.oneCell' = true)
    (h : ∀ w', Hid (Blk w' g t (splice cur off cs).toArray) → w.grownBy w' (some g) → K (a.put o.dst (goInt m)) w') : o.wp P a w K Q := by
  have hrun := run_copy_rowS (P := P) w dT sT o.type elem sz g off dLen dCap ad sLen sCap cur.toArray t cs hu hsz hg m hm hn hsrc (by simpa using hfit) h1
  unfold Oper.wp execOp
  simp only [ho, resolve, invoke, builtin, Sem.run_bind, Sem.run_pure, Result.andThen_ok, List.map_toArray, List.map_cons, List.map_nil, hd, hs, hrun]
  exact h _ (show _ = _ by simpa using setRow_heap w g _ _ t _ hg) (grown_setRow w g _)
theorem wpList_copy_blkS {P : Program} {w : World} {ops : Array Oper} {rest : List Oper} {o : Oper} {a : Act} {Q : Exit → Act → World → Prop} (hgd : o.guard = none) (d s : Operand) (dT sT : TypeId)
    (ho : o.op = .call { callee := .builtin .copy, args := #[d, s], argTypes := #[dT, sT] }) (elem : TypeId) (hu : P.underlying dT = some (.slice elem)) (sz : Nat) (hsz : (P.info? elem).map (·.size) = some sz)
    (g off dLen dCap : Nat) (ad : Addr) (sLen sCap : Nat) (hd : a.eval d = .slice (some ⟨g, off, none⟩) dLen dCap) (hs : a.eval s = .slice (some ad) sLen sCap)
    (cur : List Value) (t : TypeId) (hg : Blk w g t cur.toArray) (cs : List Value) (m : Nat) (hm : m = Nat.min sLen dLen) (hn : cs.length = m * sz)
    (hsrc : ∀ j v, cs[j]? = some v → w.cell? (ad.add j) = some v) (hfit : off + cs.length ≤ cur.length) (h1 : ∀ v ∈ cs, v.oneCell' = true)
    (h : ∀ w', Hid (Blk w' g t (splice cur off cs).toArray) → w.grownBy w' (some g) → wpList P ops Q rest (a.put o.dst (goInt m)) w') : wpList P ops Q (o :: rest) a w :=
  wpList_plain hgd fun _ hK => wp_copy_blkS d s dT sT ho elem hu sz hsz g off dLen dCap ad sLen sCap hd hs cur t hg cs m hm hn hsrc hfit h1 fun w' k1 k2 => hK _ _ (h w' k1 k2)
theorem step_copy_blkS {P : Program} {w : World} {ops : Array Oper} {o : Oper} {a : Act} {K : Act → World → Prop} {Q : Exit → Act → World → Prop} {L : Prop} (hgd : o.guard = none) (d s : Operand) (dT sT : TypeId)
    (ho : o.op = .call { callee := .builtin .copy, args := #[d, s], argTypes := #[dT, sT] }) (elem : TypeId) (hu : P.underlying dT = some (.slice elem)) (sz : Nat) (hsz : (P.info? elem).map (·.size) = some sz)
    (g off dLen dCap : Nat) (ad : Addr) (sLen sCap : Nat) (hd : a.eval d = .slice (some ⟨g, off, none⟩) dLen dCap) (hs : a.eval s = .slice (some ad) sLen sCap)
    (cur : List Value) (t : TypeId) (hg : Blk w g t cur.toArray) (cs : List Value) (m : Nat) (hm : m = Nat.min sLen dLen) (hn : cs.length = m * sz)
    (hsrc : ∀ j v, cs[j]? = some v → w.cell? (ad.add j) = some v) (hfit : off + cs.length ≤ cur.length) (h1 : ∀ v ∈ cs, v.oneCell' = true)
    (h : ∀ w', Hid (Blk w' g t (splice cur off cs).toArray) → w.grownBy w' (some g) → K (a.put o.dst (goInt m)) w') :
    if Region.wanted o (yielded ops a.tmps) = true then Oper.wp P o a w K Q else L := by
  rw [if_pos (by simp [Region.wanted, hgd])]
  exact wp_copy_blkS d s dT sT ho elem hu sz hsz g off dLen dCap ad sLen sCap hd hs cur t hg cs m hm hn hsrc hfit h1 h
theorem eq_nil (w : World) : (binOp .eql 22 (.slice none 0 0) (.slice none 0 0)).run Try.prog w = .ok (.bool true) w := by rfl
theorem eq_some (ad : Addr) (n c : Nat) (w : World) : (binOp .eql 22 (.slice (some ad) n c) (.slice none 0 0)).run Try.prog w = .ok (.bool false) w := by rfl
set_option maxHeartbeats 4000000 in
set_option maxRecDepth 100000 in
theorem clone_any {w : World} {A : Option Addr} {n c : Nat} {l : List RV} (h : Sl rvc w A n c l) (hn : n ≤ 1000000) : Calls Try.prog 21 #[.slice A n c] w fun e w' => ∃ A' c', e = .returned (.slice A' n c') ∧ w'.ownsRow w.heap.size 29 3 (.slice A' n c') n (l.flatMap rvc) ∧ Below w.heap.size w w' := by
  obtain ⟨i0, E⟩ := elem_r
  cases A with
  | none =>
    obtain ⟨rfl, rfl⟩ := h.nil_ rfl
    have hl0 : l = [] := List.eq_nil_of_length_eq_zero h.len
    subst hl0
    have q1 := eq_nil
    go_enter Try.func21, Try.ntmps21
    go_wp2
    go_ret
    exact ⟨none, 0, rfl, World.ownsRow_nil _ _ _ _, brefl w⟩
  | some ad =>
    have hrd := h.rd
    have hone := rvc_one l
    have hlen := h.len
    have HL : Hid ((l.flatMap rvc).length = n * 3) := by rw [Hid, flat_len rvc_len, hlen]
    clear h hlen
    generalize l.flatMap rvc = ys at *
    have q1 := eq_some ad
    go_enter Try.func21, Try.ntmps21
    go_wp2_with (at_builtin; (refine wpList_fresh (W0 := w) (ys := ys) (m := n) E rfl (.tmp 5) (.tmp 6) rfl (bnew (brefl w) _) rfl (own_empty (brefl w) rfl) rfl HL.out (hrd.alloc _) hone (by unfold maxLen; omega) (by omega) ?_; intro A8 c8 w8 own8 hb8 _))
    go_ret
    exact ⟨A8, c8, rfl, own8, hb8⟩
/-- A row, put in at a place. -/
def insL (l : List RV) (i : Nat) (x : RV) : List RV := l.take i ++ x :: l.drop i
theorem insL_len (l : List RV) (i : Nat) (x : RV) (h : i ≤ l.length) : (insL l i x).length = l.length + 1 := by
  unfold insL
  rw [List.length_append, List.length_take, List.length_cons, List.length_drop]
  omega
theorem insL_flat (l : List RV) (i : Nat) (x : RV) : (insL l i x).flatMap rvc = (l.flatMap rvc).take (i * 3) ++ rvc x ++ (l.flatMap rvc).drop (i * 3) := by
  unfold insL
  rw [List.flatMap_append, List.flatMap_cons, flat_take rvc_len, flat_drop rvc_len, List.append_assoc]
theorem splice_len {α : Type} (L : List α) (k : Nat) (cs : List α) (h : k + cs.length ≤ L.length) : (splice L k cs).length = L.length := length_splice L k cs h
/-- What two copies leave: the first one lays what stood from a on at b, the second one lays X at a. -/
theorem two_splices {α : Type} (L X : List α) (a N : Nat) (hX : X.length = 3) (ha : a ≤ N) (hN : N + 3 ≤ L.length) :
    (splice (splice L (a + 3) ((L.take N).drop a)) a X).take (N + 3) = (L.take N).take a ++ X ++ (L.take N).drop a := by
  have h1 : ((L.take N).drop a).length = N - a := by rw [List.length_drop, List.length_take]; omega
  have h2 : (L.take N).length = N := by rw [List.length_take]; omega
  unfold splice
  have e1 : (L.take (a + 3) ++ ((L.take N).drop a ++ L.drop (a + 3 + ((L.take N).drop a).length))).take a = L.take a := by
    rw [List.take_append, List.take_take, List.length_take, Nat.min_eq_left (by omega), show a - min (a + 3) L.length = 0 by omega, List.take_zero, List.append_nil]
  have e2 : (L.take (a + 3) ++ ((L.take N).drop a ++ L.drop (a + 3 + ((L.take N).drop a).length))).drop (a + X.length) = (L.take N).drop a ++ L.drop (a + 3 + ((L.take N).drop a).length) := by
    rw [hX]
    exact List.drop_left' (by rw [List.length_take]; omega)
  rw [e1, e2, List.take_take, Nat.min_eq_left ha, ← List.append_assoc, ← List.append_assoc, List.take_append_of_le_length (by rw [List.length_append, List.length_append, List.length_take, hX, h1]; omega), List.take_of_length_le (by rw [List.length_append, List.length_append, List.length_take, hX, h1]; omega)]
end Go.Proofs.Ytklpnjenddkmaaa
