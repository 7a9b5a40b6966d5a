/- A configuration is written. -/
import Derived.Test.YtjjgngccgjpnaaaGreatDoorTxuH
import Derived.Test.YtjjgngccgjpnaaaGreatDoorTxtG
namespace Go.Proofs.YtjjgngccgjpnaaaGreatDoor
set_option linter.unusedVariables false
set_option linter.unusedSimpArgs false
open Go.RowKit

theorem join_le (K : Nat) (sep : List UInt8) (hs : sep.length = 1) : ∀ ws : List (List UInt8), (∀ x, x ∈ ws → x.length ≤ K) → (Lib.join ws sep).length ≤ ws.length * (K + 1)
  | [], _ => by rw [Lib.join_nil]; exact Nat.zero_le _
  | x :: r, h => by
    rw [Lib.join_cons, List.length_append]
    have h0 := h x (List.mem_cons_self ..)
    have h1 : ∀ r : List (List UInt8), (∀ y, y ∈ r → y.length ≤ K) → (Lib.joinTail sep r).length ≤ r.length * (K + 1) := by
      intro r
      induction r with
      | nil => intro _; exact Nat.zero_le _
      | cons y t ih =>
        intro hy
        have := ih (fun z hz => hy z (List.mem_cons_of_mem _ hz))
        have h2 := hy y (List.mem_cons_self ..)
        unfold Lib.joinTail at this ⊢
        rw [List.map_cons, List.flatten_cons, List.length_append, List.length_append, hs, List.length_cons, Nat.succ_mul]
        omega
    have := h1 r (fun y hy => h y (List.mem_cons_of_mem _ hy))
    rw [List.length_cons, Nat.succ_mul]
    omega
theorem itoas_le {ns : List Int} (h : ∀ x, x ∈ ns → I64 x) : ∀ x, x ∈ ns.map Lib.itoa → x.length ≤ 21 := by
  intro x hx
  obtain ⟨n, hn, rfl⟩ := List.mem_map.1 hx
  exact itoa_len (h n hn)
theorem swc_one (l : List (List UInt8)) : ∀ u ∈ l.flatMap swc, u.oneCell' = true := by
  intro u hu
  obtain ⟨x, _, hx⟩ := List.mem_flatMap.1 hu
  simp only [swc, swv, List.mem_cons, List.not_mem_nil, or_false] at hx
  subst hx
  rfl
theorem swc_ll (l : List (List UInt8)) {n : Nat} (h : l.length = n) : (l.flatMap swc).length = n * 1 := by rw [flat_len swc_len, h]
theorem slic_blk {w : World} {b o n c : Nat} {ns : List Int} (h : ∀ (j : Nat) (x : Int), ns[j]? = some x → w.cell? ⟨b, o + j, none⟩ = some (.int .i64 x)) (hn : ns.length = n) (hc : n ≤ c) : Sl ic w (some ⟨b, o, none⟩) n c ns :=
  ⟨hn, hc, Rd.mk_ fun j u hj => by
    obtain ⟨x, hx, rfl⟩ : ∃ x, ns[j]? = some x ∧ Value.int .i64 x = u := by
      have e : ∀ l : List Int, l.flatMap ic = l.map (Value.int .i64) := fun l => by
        induction l with
        | nil => rfl
        | cons a t ih => rw [List.flatMap_cons, ih]; rfl
      rw [e] at hj
      simpa using hj
    have e1 : ((⟨b, o, none⟩ : Addr).add j) = ⟨b, o + j, none⟩ := by
      unfold Addr.add
      split
      · rename_i h0
        rw [h0, Nat.add_zero]
      · rfl
    rw [e1]
    exact h j x hx, fun q => by cases q⟩
theorem slic_new (w : World) (ns : List Int) (t : TypeId) {n : Nat} (hn : ns.length = n) : Sl ic (w.alloc (.cells (ns.map (Value.int .i64)).toArray t)) (some ⟨w.heap.size, 0, none⟩) n n ns :=
  slic_blk (fun j x hx => by
    rw [Nat.zero_add]
    refine (Blk.new w _ _).cell_ ?_
    simp [hx]) hn (Nat.le_refl _)
theorem own_one (w : World) (B : Nat) (hB : B ≤ w.heap.size) (x : List UInt8) : (w.alloc (.cells #[.string (bstr x)] 9)).ownsRow B 9 1 (.slice (some ⟨w.heap.size, 0, none⟩) 1 1) 1 ([x].flatMap swc) :=
  own_new w hB (by unfold maxLen; omega) (Nat.le_refl _) rfl
theorem slsw_own {w : World} {B n c : Nat} {A : Option Addr} {l : List (List UInt8)} (h : w.ownsRow B 9 1 (.slice A n c) n (l.flatMap swc)) : Sl swc w A n c l := Sl.of_own swc_len (by decide) h
def conB : List UInt8 := [99, 111, 110, 102]
def ofL (c : Cf) : List Int := [c.o0, c.o1, c.o2, c.o3, c.o4, c.o5, c.o6, c.o7]
theorem ofL_get (c : Cf) {j : Nat} {x : Int} (h : (ofL c)[j]? = some x) : j < 8 ∧ (cfc c)[2 + j]? = some (.int .i64 x) := by
  have hj : j < 8 := by
    obtain ⟨h1, _⟩ := List.getElem?_eq_some_iff.1 h
    exact h1
  refine ⟨hj, ?_⟩
  rcases (by omega : j = 0 ∨ j = 1 ∨ j = 2 ∨ j = 3 ∨ j = 4 ∨ j = 5 ∨ j = 6 ∨ j = 7) with rfl | rfl | rfl | rfl | rfl | rfl | rfl | rfl <;> (simp only [ofL, List.getElem?_cons_succ, List.getElem?_cons_zero, Option.some.injEq] at h; subst h; rfl)
theorem ofL_i (c : Cf) (m : c.May) : ∀ x, x ∈ ofL c → 0 ≤ x ∧ x < 4 := by
  intro x hx
  obtain ⟨j, hj, he⟩ := List.getElem_of_mem hx
  have hj8 : j < 8 := hj
  have h1 := m.r j hj8
  have h2 := m.l2
  have : c.of j = x := by
    rw [← he]
    rcases (by omega : j = 0 ∨ j = 1 ∨ j = 2 ∨ j = 3 ∨ j = 4 ∨ j = 5 ∨ j = 6 ∨ j = 7) with rfl | rfl | rfl | rfl | rfl | rfl | rfl | rfl <;> rfl
  omega
def confN (c : Cf) : List Int := [c.lv, c.th] ++ (ofL c).take c.th.toNat ++ [c.sl, c.li, c.ge, c.qu]
def confT (c : Cf) : List (List UInt8) := conB :: (confN c).map Lib.itoa
theorem confN_i (c : Cf) (m : c.May) : ∀ x, x ∈ confN c → I64 x := by
  intro x hx
  have h1 := m.l1; have h2 := m.l2; have h3 := m.t1; have h4 := m.t2; have h5 := m.s1; have h6 := m.s2; have h7 := m.m1; have h8 := m.m2; have h9 := m.g1; have h10 := m.g2; have h11 := m.q1; have h12 := m.q2
  simp only [confN, List.mem_append, List.mem_cons, List.not_mem_nil, or_false] at hx
  rcases hx with ((rfl | rfl) | hx) | rfl | rfl | rfl | rfl
  · unfold I64; omega
  · unfold I64; omega
  · have := ofL_i c m x (List.mem_of_mem_take hx)
    unfold I64; omega
  · unfold I64; omega
  · unfold I64; omega
  · unfold I64; omega
  · unfold I64; omega
theorem confN_len (c : Cf) (m : c.May) : (confN c).length = c.th.toNat + 6 := by
  have h3 := m.t1; have h4 := m.t2
  simp only [confN, List.length_append, List.length_take, List.length_cons, List.length_nil, ofL]
  omega
theorem confT_len (c : Cf) (m : c.May) : (lineW (confT c)).length ≤ 1000 := by
  have h0 := confN_len c m
  have h4 := m.t2
  have h := join_le 21 [32] rfl (confT c) (by
    intro x hx
    rcases List.mem_cons.1 hx with rfl | hx
    · decide
    · exact itoas_le (confN_i c m) x hx)
  rw [lineW, List.length_append]
  rw [confT, List.length_cons, List.length_map, h0] at h
  have : ([10] : List UInt8).length = 1 := rfl
  unfold confT
  omega
def WroteR (w : World) (B b : Nat) (l : List UInt8) (e : Ending) (w' : World) : Prop := e = .returned (.tuple #[]) ∧ WT B b l w' ∧ Below B w w' ∧ w.heap.size ≤ w'.heap.size
set_option maxHeartbeats 4000000 in
set_option maxRecDepth 100000 in
theorem wtconf_any {w : World} {B b : Nat} {l : List UInt8} (c : Cf) (hW : WT B b l w) (m : c.May) (hl : l.length ≤ 900000000) (hv : LV w) (hB : B ≤ w.heap.size) :
    Calls Tryz.prog 36 #[.pointer (some ⟨b, 0, none⟩), .agg #[.int .i64 c.lv, .int .i64 c.th, .int .i64 c.o0, .int .i64 c.o1, .int .i64 c.o2, .int .i64 c.o3, .int .i64 c.o4, .int .i64 c.o5, .int .i64 c.o6, .int .i64 c.o7, .int .i64 c.sl, .int .i64 c.li, .int .i64 c.ge, .int .i64 c.qu]] w (WroteR w B b (l ++ lineW (confT c))) := by
  obtain ⟨i0, E⟩ := elem_sw
  have t1 := m.t1
  have t2 := m.t2
  have HI := Lib.hid (confN_i c m)
  have HL := Lib.hid (confT_len c m)
  have HTL : Hid (((ofL c).take c.th.toNat).length = c.th.toNat) := by rw [Hid, List.length_take]; show min _ 8 = _; omega
  have i1 : ∀ x, x ∈ [c.lv, c.th] → I64 x := fun x hx => HI.out x (by unfold confN; simp only [List.mem_append]; exact .inl (.inl hx))
  have i2 : ∀ x, x ∈ (ofL c).take c.th.toNat → I64 x := fun x hx => HI.out x (by unfold confN; simp only [List.mem_append]; exact .inl (.inr hx))
  have i3 : ∀ x, x ∈ [c.sl, c.li, c.ge, c.qu] → I64 x := fun x hx => HI.out x (by unfold confN; simp only [List.mem_append]; exact .inr hx)
  have I1 := Lib.hid i1; have I2 := Lib.hid i2; have I3 := Lib.hid i3
  obtain ⟨W0, hW0, hBk, kb, hW1, hv1⟩ : ∃ W0, w.alloc (.cells #[.int .i64 c.lv, .int .i64 c.th, .int .i64 c.o0, .int .i64 c.o1, .int .i64 c.o2, .int .i64 c.o3, .int .i64 c.o4, .int .i64 c.o5, .int .i64 c.o6, .int .i64 c.o7, .int .i64 c.sl, .int .i64 c.li, .int .i64 c.ge, .int .i64 c.qu] 25) = W0 ∧ Blk W0 w.heap.size 25 #[.int .i64 c.lv, .int .i64 c.th, .int .i64 c.o0, .int .i64 c.o1, .int .i64 c.o2, .int .i64 c.o3, .int .i64 c.o4, .int .i64 c.o5, .int .i64 c.o6, .int .i64 c.o7, .int .i64 c.sl, .int .i64 c.li, .int .i64 c.ge, .int .i64 c.qu] ∧ Below w.heap.size w W0 ∧ WT B b l W0 ∧ LV W0 := ⟨_, rfl, Blk.new _ _ _, bnew (brefl w) _, hW.below (bnew (brefl w) _), hv.below (bnew (brefl w) _)⟩
  have hB1 : B ≤ W0.heap.size := Nat.le_trans hB kb.size
  have x0 := hBk.cell 0
  have x1 := hBk.cell 1
  have hz := hBk.lt
  have HV := Lib.hid hv1
  have HW := Lib.hid hW1
  have HBK := Lib.hid hBk
  clear hW hBk i1 i2 i3 hv hv1 hW1 m HI
  go_enter Tryz.func36, Tryz.ntmps36
  go_upto_region 1 with (fail)
  clear hW0
  obtain ⟨W1, hW1, own1, kb1⟩ : ∃ W1, W0.alloc (.cells #[.string ⟨#[99, 111, 110, 102]⟩] 9) = W1 ∧ W1.ownsRow W0.heap.size 9 1 (.slice (some ⟨W0.heap.size, 0, none⟩) 1 1) 1 ([conB].flatMap swc) ∧ Below W0.heap.size W0 W1 := ⟨_, rfl, own_one W0 W0.heap.size (Nat.le_refl _) conB, bnew (brefl _) _⟩
  have y0 := keep_below x0 kb1
  have y1 := keep_below x1 kb1
  have yz := block_lt_of_cell y0
  obtain ⟨W2, hW2, own2, kb2, sl2⟩ : ∃ W2, W1.alloc (.cells #[.int .i64 c.lv, .int .i64 c.th] 3) = W2 ∧ W2.ownsRow W0.heap.size 9 1 (.slice (some ⟨W0.heap.size, 0, none⟩) 1 1) 1 ([conB].flatMap swc) ∧ Below W0.heap.size W0 W2 ∧ Sl ic W2 (some ⟨W1.heap.size, 0, none⟩) 2 2 [c.lv, c.th] := ⟨_, rfl, own1.alloc _, bnew kb1 _, slic_new W1 [c.lv, c.th] _ rfl⟩
  have hc1 := tnums_any sl2 (by omega) I1.out (HV.out.below kb2)
  clear x0 x1 hz own1 sl2
  have tok1 : True := trivial
  go_upto_region 2 with (first | (have _t := tok1; go_at_call 74; refine hc1.mono ?_; rintro e w1 ⟨hb1, A1, c1, rfl, ow1⟩; clear tok1 _t) | (at_builtin; refine wpList_onto (W0 := W0) E rfl (.tmp 5) (.tmp 11) rfl (bnext kb2 hb1) rfl (own_below own2 hb1) rfl (swc_ll _ rfl) (Rd.of_own ow1) (swc_one _) (by unfold maxLen; omega) (by omega) ?_; intro A2 c2 w2 own3 kb3 _))
  clear own2 kb2 hc1 y0 y1 yz kb1
  have y1 : w2.cell? ⟨w.heap.size, 1, none⟩ = some (.int .i64 c.th) := keep_below (HBK.out.cell 1) kb3
  have yz := block_lt_of_cell y1
  have sl3 : Sl ic w2 (some ⟨w.heap.size, 2, none⟩) c.th.toNat 8 ((ofL c).take c.th.toNat) := slic_blk (fun j x hx => by
    have hx2 : (ofL c)[j]? = some x := by
      rw [List.getElem?_take] at hx
      split at hx
      · exact hx
      · cases hx
    exact keep_below (HBK.out.cell_ (by rw [List.getElem?_toArray]; exact (ofL_get c hx2).2)) kb3) HTL.out (by omega)
  have hal : Tryz.prog.arrayLen 23 = 8 := by simp [Program.arrayLen, Tryz.underlying23]
  have hsl1 : ∀ W, (Instr.sliceAt 23 (.pointer (some ⟨w.heap.size, 2, none⟩)) none (some (.int .i64 c.th)) none).run Tryz.prog W = .ok (.slice (some ⟨w.heap.size, 2, none⟩) c.th.toNat 8) W := fun W => by
    rw [run_sliceAt_array_h W 23 ⟨w.heap.size, 2, none⟩ (by simp [Program.arrayLen, Program.elem, Tryz.underlying23]) .i64 c.th (by omega) (by rw [hal]; omega)]
    go_simp
  clear hal
  have hc2 := tnums_any sl3 (by omega) I2.out (HV.out.below kb3)
  clear sl3
  have tok1 : True := trivial
  go_upto_region 3 with (first | (have _t := tok1; go_at_call 74; refine hc2.mono ?_; rintro e w3 ⟨hb3, A3, c3, rfl, ow3⟩; clear tok1 _t) | (at_builtin; refine wpList_onto (W0 := W0) E rfl (.tmp 13) (.tmp 18) rfl (bnext kb3 hb3) rfl (own_below own3 hb3) rfl (swc_ll _ (by rw [List.length_map]; exact HTL.out)) (Rd.of_own ow3) (swc_one _) (by unfold maxLen; omega) (by omega) ?_; intro A4 c4 w4 own4 kb4 _))
  clear own3 kb3 hc2 y1 yz
  have y0 : w4.cell? ⟨w.heap.size, 10, none⟩ = some (.int .i64 c.sl) := keep_below (HBK.out.cell 10) kb4
  have y1 : w4.cell? ⟨w.heap.size, 11, none⟩ = some (.int .i64 c.li) := keep_below (HBK.out.cell 11) kb4
  have y2 : w4.cell? ⟨w.heap.size, 12, none⟩ = some (.int .i64 c.ge) := keep_below (HBK.out.cell 12) kb4
  have y3 : w4.cell? ⟨w.heap.size, 13, none⟩ = some (.int .i64 c.qu) := keep_below (HBK.out.cell 13) kb4
  have yz := block_lt_of_cell y1
  obtain ⟨W5, hW5, own5, kb5, sl5⟩ : ∃ W5, w4.alloc (.cells #[.int .i64 c.sl, .int .i64 c.li, .int .i64 c.ge, .int .i64 c.qu] 3) = W5 ∧ W5.ownsRow W0.heap.size 9 1 (.slice A4 (1 + 2 + c.th.toNat) c4) (1 + 2 + c.th.toNat) ([conB].flatMap swc ++ ([c.lv, c.th].map Lib.itoa).flatMap swc ++ (((ofL c).take c.th.toNat).map Lib.itoa).flatMap swc) ∧ Below W0.heap.size W0 W5 ∧ Sl ic W5 (some ⟨w4.heap.size, 0, none⟩) 4 4 [c.sl, c.li, c.ge, c.qu] := ⟨_, rfl, own4.alloc _, bnew kb4 _, slic_new w4 [c.sl, c.li, c.ge, c.qu] _ rfl⟩
  have hc3 := tnums_any sl5 (by omega) I3.out (HV.out.below kb5)
  have HF : Hid ([conB].flatMap swc ++ ([c.lv, c.th].map Lib.itoa).flatMap swc ++ (((ofL c).take c.th.toNat).map Lib.itoa).flatMap swc ++ ([c.sl, c.li, c.ge, c.qu].map Lib.itoa).flatMap swc = (confT c).flatMap swc) := by
    rw [Hid, confT, confN]
    simp only [List.map_append, List.flatMap_append, List.flatMap_cons, List.flatMap_nil, List.append_nil, List.append_assoc]
  clear sl5 own4 kb4
  have tok1 : True := trivial
  have tok2 : True := trivial
  go_wp2_with (first | (have _t := tok1; go_at_call 74; refine hc3.mono ?_; rintro e w5 ⟨hb5, A5, c5, rfl, ow5⟩; clear tok1 _t) | (have _t := tok2; at_builtin; refine wpList_onto (W0 := W0) E rfl (.tmp 21) (.tmp 31) rfl (bnext kb5 hb5) rfl (own_below own5 hb5) rfl (swc_ll _ rfl) (Rd.of_own ow5) (swc_one _) (by unfold maxLen; omega) (by omega) ?_; intro A6 c6 w6 own6 kb6 _; rw [HF.out] at own6; clear tok2 _t) | (go_at_call 37; refine (wline_any (HW.out.below kb6) (slsw_own own6) (by omega) (by omega) (Nat.le_trans HL.out (by omega)) (by omega) (Nat.le_trans hB1 kb6.size)).mono ?_; rintro e w7 ⟨rfl, hW7, hb7, hs7⟩))
  go_end0
  exact ⟨rfl, hW7, ((kb.mono hB).trans (kb6.mono hB1)).trans hb7, by have := kb6.size; have := kb.size; omega⟩

end Go.Proofs.YtjjgngccgjpnaaaGreatDoor
namespace Go.Proofs.YtjjgngccgjpnaaaGreatDoor
set_option linter.unusedVariables false
set_option linter.unusedSimpArgs false
open Go.RowKit

def nameB (k : Int) : List UInt8 := if k = 0 then [112, 105, 99, 107] else if k = 1 then [115, 116, 97, 108, 108] else if k = 2 then [119, 97, 107, 101] else [107, 105, 108, 108]
theorem nameB_len (k : Int) : (nameB k).length ≤ 21 := by
  unfold nameB
  split
  · decide
  · split
    · decide
    · split <;> decide
theorem idxW (k : Int) (h0 : 0 ≤ k) (h1 : k < 4) (W : World) : (Instr.index 109 (.agg W4) (.int .i64 k)).run Tryz.prog W = .ok (.string (bstr (nameB k))) W := by
  rcases (by omega : k = 0 ∨ k = 1 ∨ k = 2 ∨ k = 3) with rfl | rfl | rfl | rfl <;> kernel_rfl
theorem eqEn (x y : En) (w : World) : (binOp .eql 61 (.agg (enc_ x).toArray) (.agg (enc_ y).toArray)).run Tryz.prog w = .ok (.bool (decide (x = y))) w := by
  obtain ⟨a0, a1⟩ := x
  obtain ⟨b0, b1⟩ := y
  by_cases h0 : a0 = b0
  · subst h0
    by_cases h1 : a1 = b1
    · subst h1
      rw [show decide (_ = _) = true from decide_eq_true rfl]
      simp [go_sem, enc_]
    · rw [decide_eq_false (by intro e; injection e; exact h1 (by assumption))]
      simp [go_sem, enc_, h1]
  · rw [decide_eq_false (by intro e; injection e; exact h0 (by assumption))]
    simp [go_sem, enc_, h0]
def runL (e : En) : List En → Nat
  | [] => 0
  | x :: t => if x = e then runL e t + 1 else 0
theorem runL_le (e : En) : ∀ t, runL e t ≤ t.length
  | [] => Nat.le_refl _
  | x :: t => by
    have := runL_le e t
    rw [runL]
    split
    · rw [List.length_cons]; omega
    · exact Nat.zero_le _
theorem runL_in (e : En) : ∀ (t : List En) (j : Nat), j < runL e t → t[j]? = some e
  | [], j, h => by cases h
  | x :: t, j, h => by
    rw [runL] at h
    split at h
    · rename_i hx
      cases j with
      | zero => rw [hx]; rfl
      | succ j => exact runL_in e t j (by omega)
    · cases h
theorem runL_end (e : En) : ∀ t : List En, t[runL e t]? ≠ some e
  | [] => by simp
  | x :: t => by
    rw [runL]
    split
    · exact runL_end e t
    · rename_i hx
      intro h
      exact hx (Option.some.inj h)
def pickT (e : En) (n : Nat) : List (List UInt8) := [nameB 0, Lib.itoa e.th, Lib.itoa n]
def stopT (e : En) : List (List UInt8) := [nameB e.wh, Lib.itoa e.th]
def entW : List En → List UInt8
  | [] => []
  | e :: t => if e.wh = 0 then lineW (pickT e (1 + runL e t)) ++ entW (t.drop (runL e t)) else lineW (stopT e) ++ entW t
termination_by l => l.length
decreasing_by
  all_goals simp only [List.length_drop, List.length_cons]
  all_goals omega
theorem entW_nil : entW [] = [] := by rw [entW]
theorem entW_pick {e : En} {t : List En} (h : e.wh = 0) : entW (e :: t) = lineW (pickT e (1 + runL e t)) ++ entW (t.drop (runL e t)) := by rw [entW, if_pos h]
theorem entW_stop {e : En} {t : List En} (h : e.wh ≠ 0) : entW (e :: t) = lineW (stopT e) ++ entW t := by rw [entW, if_neg h]
theorem pickT_len (e : En) (n : Nat) (h : I64 e.th) (hn : n ≤ 1000000000) : (lineW (pickT e n)).length ≤ 100 := by
  have := join_le 21 [32] rfl (pickT e n) (by
    intro x hx
    simp only [pickT, List.mem_cons, List.not_mem_nil, or_false] at hx
    rcases hx with rfl | rfl | rfl
    · exact nameB_len _
    · exact itoa_len h
    · exact itoa_len (by unfold I64; omega))
  rw [lineW, List.length_append]
  have h1 : ([10] : List UInt8).length = 1 := rfl
  have h2 : (pickT e n).length = 3 := rfl
  omega
theorem stopT_len (e : En) (h : I64 e.th) : (lineW (stopT e)).length ≤ 100 := by
  have := join_le 21 [32] rfl (stopT e) (by
    intro x hx
    simp only [stopT, List.mem_cons, List.not_mem_nil, or_false] at hx
    rcases hx with rfl | rfl
    · exact nameB_len _
    · exact itoa_len h)
  rw [lineW, List.length_append]
  have h1 : ([10] : List UInt8).length = 1 := rfl
  have h2 : (stopT e).length = 2 := rfl
  omega

end Go.Proofs.YtjjgngccgjpnaaaGreatDoor
namespace Go.Proofs.YtjjgngccgjpnaaaGreatDoor
set_option linter.unusedVariables false
set_option linter.unusedSimpArgs false
open Go.RowKit

set_option maxHeartbeats 4000000 in
set_option maxRecDepth 100000 in
theorem wents_any {W0 w : World} {B b en ec : Nat} {EA : Option Addr} {l : List UInt8} {es : List En} (hW : WT B b l w) (hE : Sl enc_ W0 EA en ec es) (hen : en ≤ 100000) (hT : ∀ x, x ∈ es → (0 ≤ x.th ∧ x.th < 8) ∧ 0 ≤ x.wh ∧ x.wh < 4) (hl : l.length ≤ 600000000) (hv : LV W0) (K0 : Below W0.heap.size W0 w) (hWB : W0.heap.size ≤ B) (hB : B ≤ w.heap.size) :
    Calls Tryz.prog 39 #[.pointer (some ⟨b, 0, none⟩), .slice EA en ec] w (WroteR w B b (l ++ entW es)) := by
  obtain ⟨i0, E⟩ := elem_sw
  have HE := Lib.hid hE
  have HT := Lib.hid hT
  have HV := Lib.hid hv
  have hlen := Lib.hid hE.len
  have HIX := Lib.hid idxW
  clear hE hT hv
  go_enter Tryz.func39, Tryz.ntmps39
  go_wp2_with fail
  go_loopg [4] en (fun gk i wr => ∃ (k : Nat) (cur : List UInt8), k + gk = en ∧ i = .int .i64 k ∧ WT B b cur wr ∧ Below W0.heap.size W0 wr ∧ Below B w wr ∧ w.heap.size ≤ wr.heap.size ∧ Hid (l ++ entW es = cur ++ entW (es.drop k)) ∧ Hid (cur.length ≤ 600000000 + k * 100))
  case atStart => exact ⟨0, l, by omega, rfl, hW, K0, Below.refl _ _, Nat.le_refl _, by simp [Hid], by rw [Hid]; omega⟩
  case round =>
    clear hW K0
    obtain ⟨k, cur, hk, rfl, hW, K0, KB, kz, hX, hcl⟩ := hrel
    by_cases hlt : k < en
    · have b0 : (0 : Int) ≤ (k : Int) := by omega
      have b1 : (k : Int) < (en : Int) := by omega
      obtain ⟨eb, o', rfl, hbb, hcc⟩ := HE.out.base enc__len (by decide) (by omega)
      obtain ⟨x, hx⟩ : ∃ x, es[k]? = some x := ⟨_, List.getElem?_eq_getElem (by rw [hlen.out]; exact hlt)⟩
      have hxt := HT.out x (List.mem_of_getElem? hx)
      have hd : es.drop k = x :: es.drop (k + 1) := by
        obtain ⟨h1, h2⟩ := List.getElem?_eq_some_iff.1 hx
        rw [List.drop_eq_getElem_cons h1, h2]
      obtain ⟨R, hR⟩ : ∃ R, (if x.wh = 0 then runL x (es.drop (k + 1)) else 0) = R := ⟨_, rfl⟩
      have hRl : k + 1 + R ≤ en := by
        have := runL_le x (es.drop (k + 1))
        rw [List.length_drop, hlen.out] at this
        rw [← hR]
        split <;> omega
      have hIt : I64 x.th := by unfold I64; omega
      have HI1 := Lib.hid hIt
      have HR := Lib.hid hR
      have HD := Lib.hid hd
      have C0 : Hid (∀ W, Below W0.heap.size W0 W → W.cell? ⟨eb, o' + k * 2, none⟩ = some (.int .i64 x.th) ∧ W.cell? ⟨eb, o' + k * 2 + 1, none⟩ = some (.int .i64 x.wh)) := fun W hW => ⟨keep_below (hcc k x 0 _ hx rfl) hW, keep_below (hcc k x 1 _ hx rfl) hW⟩
      have C1 : Hid (∀ (m : Nat) (y : En), es[m]? = some y → ∀ W, Below W0.heap.size W0 W → W.cell? ⟨eb, o' + m * 2, none⟩ = some (.int .i64 y.th) ∧ W.cell? ⟨eb, o' + m * 2 + 1, none⟩ = some (.int .i64 y.wh)) := fun m y hy W hW => ⟨keep_below (hcc m y 0 _ hy rfl) hW, keep_below (hcc m y 1 _ hy rfl) hW⟩
      clear hR hx hd hcc hbb hIt
      obtain ⟨gr, hgr⟩ : ∃ g, g = gk := ⟨_, rfl⟩
      subst hgr
      go_wp2_with fail
      go_loopg [5] R (fun gk i w3 => ∃ m : Nat, m + gk = R + 1 ∧ 1 ≤ m ∧ i = .int .i64 (m : Int) ∧ WT B b cur w3 ∧ Below W0.heap.size W0 w3 ∧ Below B w w3 ∧ w.heap.size ≤ w3.heap.size)
      case atStart => exact ⟨1, by omega, Nat.le_refl _, rfl, hW, K0, KB, kz⟩
      case round =>
        clear hW K0 KB kz
        obtain ⟨m, hm, hm1, rfl, hW, K0, KB, kz⟩ := hrel
        obtain ⟨q, hqm⟩ : ∃ q, k + m = q := ⟨_, rfl⟩
        obtain ⟨v0, v1⟩ := C0.out _ K0
        by_cases hwh : x.wh = 0
        · have t0 : (x.wh == 0) = true := by rw [beq_iff_eq]; exact hwh
          have ck : IntKind.i64.wrap ((k : Int) + (m : Int)) = (q : Int) := by rw [IntWalk.i64_in _ (by omega)]; omega
          have HWH := Lib.hid hwh
          clear hwh
          have hRr : runL x (es.drop (k + 1)) = R := by rw [← HR.out, if_pos HWH.out]
          by_cases hend : q < en
          · obtain ⟨y, hy⟩ : ∃ y, es[q]? = some y := ⟨_, List.getElem?_eq_getElem (by rw [hlen.out]; exact hend)⟩
            have t1 : decide ((q : Int) < (en : Int)) = true := decide_eq_true (by omega)
            have i0 : (0 : Int) ≤ (q : Int) := by omega
            have i1 : (q : Int) < (en : Int) := by omega
            obtain ⟨v2, v3⟩ := C1.out _ _ hy _ K0
            have hyj : (es.drop (k + 1))[m - 1]? = some y := by rw [List.getElem?_drop, ← hy]; congr 1; omega
            by_cases hjR : m ≤ R
            · have hyx : y = x := by
                have h1 := runL_in x (es.drop (k + 1)) (m - 1) (by omega)
                rw [hyj] at h1
                exact Option.some.inj h1
              subst hyx
              have hq : ∀ W : World, (binOp .eql 61 (.agg #[.int .i64 y.th, .int .i64 y.wh]) (.agg #[.int .i64 y.th, .int .i64 y.wh])).run Tryz.prog W = .ok (.bool true) W := fun W => by have := eqEn y y W; rw [decide_eq_true rfl] at this; exact this
              clear hy hyj hRr
              go_upto_region 3 with fail
              have hX := @Ext.cell wr
              have hzz0 := block_lt_of_cell v0
              refine wp_region_noPanic ?_
              refine NC.wp_region_plan (fun w' => ∃ x : Ext wr, w' = x.w) [] [0, 1, 2, 3, 4, 5, 6, 7, 8, 9, 10, 11, 12, 13, 14, 15, 16, 17, 18, 19, 20, 21, 22, 23, 24, 25, 26] (by kernel_rfl) (by kernel_rfl) (by kernel_rfl) (fun _ _ _ _ _ h => h) ⟨⟨_, (brefl wr).drew⟩, rfl⟩ ?_
              refine NC.wpPlan_last ?_
              simp only [NC.pickOps, List.getElem?_cons_succ, List.getElem?_cons_zero, Option.elim_some]
              repeat (go_big_quiet_step (fail))
              refine wpQuiet_nil ?_
              refine NoPanic.normal ?_
              clear hX hzz0
              go_wp2_with fail
              go_roundg (gk - 1)
              case measure => omega
              case rel => exact ⟨m + 1, by omega, by omega, by first | rfl | go_num, hW, K0.drew, KB.drew, kz⟩
            · have hyx : y ≠ x := by
                intro he
                have h1 := runL_end x (es.drop (k + 1))
                rw [hRr, show R = m - 1 by omega, hyj, he] at h1
                exact h1 rfl
              have hq : ∀ W : World, (binOp .eql 61 (.agg #[.int .i64 y.th, .int .i64 y.wh]) (.agg #[.int .i64 x.th, .int .i64 x.wh])).run Tryz.prog W = .ok (.bool false) W := fun W => by have := eqEn y x W; rw [decide_eq_false hyx] at this; exact this
              clear hy hyj
              go_upto_region 3 with fail
              have hX := @Ext.cell wr
              have hzz0 := block_lt_of_cell v0
              refine wp_region_noPanic ?_
              refine NC.wp_region_plan (fun w' => ∃ x : Ext wr, w' = x.w) [] [0, 1, 2, 3, 4, 5, 6, 7, 8, 9, 10, 11, 12, 13, 14, 15, 16, 17, 18, 19, 20, 21, 22, 23, 24, 25, 26] (by kernel_rfl) (by kernel_rfl) (by kernel_rfl) (fun _ _ _ _ _ h => h) ⟨⟨_, (brefl wr).drew⟩, rfl⟩ ?_
              refine NC.wpPlan_last ?_
              simp only [NC.pickOps, List.getElem?_cons_succ, List.getElem?_cons_zero, Option.elim_some]
              repeat (go_big_quiet_step (fail))
              refine wpQuiet_nil ?_
              refine NoPanic.normal ?_
              clear hX hzz0
              obtain ⟨w5, hw5, hW5, K5, KB5, hz5, hB5⟩ : ∃ w5, wr.drew = w5 ∧ WT B b cur w5 ∧ Below W0.heap.size W0 w5 ∧ Below B w w5 ∧ W0.heap.size ≤ w5.heap.size ∧ B ≤ w5.heap.size := ⟨_, rfl, hW, K0.drew, KB.drew, K0.size, Nat.le_trans hB kz⟩
              have kz5 : w.heap.size ≤ w5.heap.size := by rw [← hw5]; exact kz
              rw [hw5]
              clear hw5 v0 v1 K0 KB kz hW
              obtain ⟨v0, v1⟩ := C0.out _ K5
              have hz0 := block_lt_of_cell v0
              have HN : Hid (l ++ entW es = (cur ++ lineW (pickT x m)) ++ entW (es.drop (k + m))) := by
                rw [Hid, hX.out, HD.out, entW_pick HWH.out, hRr, show 1 + R = m by omega, List.drop_drop, show k + 1 + R = k + m by omega, List.append_assoc]
              have hL := pickT_len x m HI1.out (by omega)
              have HL6 := Lib.hid hL
              have HL5 : Hid ((lineW (pickT x m)).length ≤ 1000000) := by rw [Hid]; omega
              have HI : Hid (∀ z, z ∈ [x.th, (m : Int)] → I64 z) := fun z hz => by
                simp only [List.mem_cons, List.not_mem_nil, or_false] at hz
                rcases hz with rfl | rfl
                · exact HI1.out
                · unfold I64; omega
              have hix : ∀ W, (Instr.index 109 (.agg W4) (.int .i64 0)).run Tryz.prog W = .ok (.string (bstr (nameB 0))) W := fun W => HIX.out 0 (by omega) (by omega) W
              clear hL hRr ck
              go_upto_region 6 with fail
              have hX := @Ext.cell w5
              have hzz0 := block_lt_of_cell v0
              refine wp_region_noPanic ?_
              refine NC.wp_region_lastU (fun w' => ∃ x : Ext w5, w' = x.w) 13 (NC.PG.two [0, 4, 5, 6, 7, 8, 9] 1 (NC.PG.two [2] 3 (NC.PG.one [] 10 (NC.PG.one [] 11 (NC.PG.one [] 12 (NC.PG.fin [])))) 10 (NC.PG.two [] 3 (NC.PG.one [] 11 (NC.PG.one [] 12 (NC.PG.fin []))) 11 (NC.PG.one [] 3 (NC.PG.one [] 12 (NC.PG.fin []))))) 10 (NC.PG.one [] 1 (NC.PG.two [2] 3 (NC.PG.one [] 11 (NC.PG.one [] 12 (NC.PG.fin []))) 11 (NC.PG.one [] 3 (NC.PG.one [] 12 (NC.PG.fin [])))))) (by kernel_rfl) (by kernel_rfl) (by kernel_rfl) (fun _ _ _ _ _ h => h) ⟨⟨_, (brefl w5).drew⟩, rfl⟩ ?_
              refine NC.wpG_two ?_
              simp only [NC.pickOps, List.getElem?_cons_succ, List.getElem?_cons_zero, Option.elim_some]
              repeat (go_big_quiet_step (fail))
              refine wpQuiet_nil ?_
              refine ⟨?_, ?_⟩
              · refine NC.planAct_some (fun K hK => ?_)
                go_simp
                refine twords_any.mono ?_
                rintro e wA ⟨rfl, hbA⟩
                go_wp2_with fail
                refine hK.out _ _ ⟨⟨_, (bnext (brefl w5).drew hbA)⟩, rfl⟩ ?_
                clear hK K
                have kbA := bnext (brefl w5).drew hbA
                refine NC.wpG_two ?_
                simp only [NC.pickOps, List.getElem?_cons_succ, List.getElem?_cons_zero, Option.elim_some]
                repeat (go_big_quiet_step (fail))
                refine wpQuiet_nil ?_
                refine ⟨?_, ?_⟩
                · refine NC.planAct_some (fun K hK => ?_)
                  go_simp
                  refine hK.out _ _ (ext_mem (bnew kbA _)) ?_
                  clear hK K
                  obtain ⟨W3, hW3, kb3, ow3⟩ : ∃ W3, wA.alloc (.cells #[.string (bstr (nameB 0))] 9) = W3 ∧ Below w5.heap.size w5 W3 ∧ W3.ownsRow w5.heap.size 9 1 (.slice (some ⟨wA.heap.size, 0, none⟩) 1 1) 1 ([nameB 0].flatMap swc) := ⟨_, rfl, bnew kbA _, own_one wA _ kbA.size (nameB 0)⟩
                  rw [hW3]
                  clear hW3
                  refine NC.wpG_one ?_
                  simp only [NC.pickOps, List.getElem?_cons_succ, List.getElem?_cons_zero, Option.elim_some]
                  repeat (go_big_quiet_step (fail))
                  refine wpQuiet_nil ?_
                  refine NC.planAct_some (fun K hK => ?_)
                  go_simp
                  refine hK.out _ _ (ext_mem (bnew kb3 _)) ?_
                  clear hK K
                  obtain ⟨W4, hW4, kb4, sl4, ow4⟩ : ∃ W4, W3.alloc (.cells #[.int .i64 x.th, .int .i64 (m : Int)] 3) = W4 ∧ Below w5.heap.size w5 W4 ∧ Sl ic W4 (some ⟨W3.heap.size, 0, none⟩) 2 2 [x.th, (m : Int)] ∧ W4.ownsRow w5.heap.size 9 1 (.slice (some ⟨wA.heap.size, 0, none⟩) 1 1) 1 ([nameB 0].flatMap swc) := ⟨_, rfl, bnew kb3 _, slic_new W3 [x.th, (m : Int)] _ rfl, ow3.alloc _⟩
                  rw [hW4]
                  clear hW4
                  refine NC.wpG_one ?_
                  simp only [NC.pickOps, List.getElem?_cons_succ, List.getElem?_cons_zero, Option.elim_some]
                  repeat (go_big_quiet_step (fail))
                  refine wpQuiet_nil ?_
                  refine NC.planAct_some (fun K hK => ?_)
                  go_simp
                  refine (tnums_any sl4 (by omega) HI.out (HV.out.below (K5.trans (kb4.mono hz5)))).mono ?_
                  rintro e w6 ⟨hb6, A6, c6, rfl, ow6⟩
                  go_wp2_with fail
                  refine hK.out _ _ ⟨⟨_, (bnext kb4 hb6)⟩, rfl⟩ ?_
                  clear hK K
                  have kb6 := bnext kb4 hb6
                  have ow6 := own_base ow6 kb4.size
                  have ow6s := own_below ow4 hb6
                  refine NC.wpG_one ?_
                  simp only [NC.pickOps, List.getElem?_cons_succ, List.getElem?_cons_zero, Option.elim_some]
                  repeat (go_big_quiet_step (fail))
                  refine wpQuiet_nil ?_
                  refine NC.planAct_some (fun K hK => ?_)
                  refine step_onto (W0 := w5) (ys := ([x.th, (m : Int)].map Lib.itoa).flatMap swc) (m := 2) E rfl (.tmp 48) (.tmp 56) rfl kb6 rfl ow6s rfl rfl (Rd.of_own ow6) (swc_one _) (by unfold maxLen; omega) (by omega) ?_
                  intro A8 c8 w8 own8 hb8 _
                  go_simp
                  refine hK.out _ _ ⟨⟨_, hb8⟩, rfl⟩ ?_
                  clear hK K
                  refine NC.wpG_fin ?_
                  simp only [NC.pickOps, List.getElem?_cons_succ, List.getElem?_cons_zero, Option.elim_some]
                  repeat (go_big_quiet_step (fail))
                  refine wpQuiet_nil ?_
                  refine NC.lastG_some (fun K hK => ?_)
                  go_simp
                  refine (wline_any (ws := pickT x m) (hW5.below hb8) (slsw_own own8) (by omega) (by omega) HL5.out (by have := hcl.out; omega) (Nat.le_trans hB5 hb8.size)).mono ?_
                  rintro e w9 ⟨rfl, hW9, hb9, hs9⟩
                  go_wp2_with fail
                  refine hK.out _ _ ?_
                  clear hK K
                  refine NoPanic.normal ?_
                  clear hX hzz0
                  have kb9 := (hb8.mono hB5).trans hb9
                  go_wp2_with fail
                  go_roundg (gr - m)
                  case measure => omega
                  case rel => exact ⟨k + m, cur ++ lineW (pickT x m), by omega, by first | rfl | go_num, hW9, K5.trans (kb9.mono hWB), KB5.trans kb9, by have := hb8.size; omega, HN.out, by rw [Hid, List.length_append]; have := hcl.out; have := HL6.out; omega⟩
                · refine NC.planAct_some (fun K hK => ?_)
                  go_simp
                  refine hK.out _ _ (ext_mem (bnew kbA _)) ?_
                  clear hK K
                  obtain ⟨W4, hW4, kb4, sl4⟩ : ∃ W4, wA.alloc (.cells #[.int .i64 x.th, .int .i64 (m : Int)] 3) = W4 ∧ Below w5.heap.size w5 W4 ∧ Sl ic W4 (some ⟨wA.heap.size, 0, none⟩) 2 2 [x.th, (m : Int)] := ⟨_, rfl, bnew kbA _, slic_new wA [x.th, (m : Int)] _ rfl⟩
                  rw [hW4]
                  clear hW4
                  refine NC.wpG_two ?_
                  simp only [NC.pickOps, List.getElem?_cons_succ, List.getElem?_cons_zero, Option.elim_some]
                  repeat (go_big_quiet_step (fail))
                  refine wpQuiet_nil ?_
                  refine ⟨?_, ?_⟩
                  · refine NC.planAct_some (fun K hK => ?_)
                    go_simp
                    refine hK.out _ _ (ext_mem (bnew kb4 _)) ?_
                    clear hK K
                    obtain ⟨W3, hW3, kb3, ow3, sl3⟩ : ∃ W3, W4.alloc (.cells #[.string (bstr (nameB 0))] 9) = W3 ∧ Below w5.heap.size w5 W3 ∧ W3.ownsRow w5.heap.size 9 1 (.slice (some ⟨W4.heap.size, 0, none⟩) 1 1) 1 ([nameB 0].flatMap swc) ∧ Sl ic W3 (some ⟨wA.heap.size, 0, none⟩) 2 2 [x.th, (m : Int)] := ⟨_, rfl, bnew kb4 _, own_one W4 _ kb4.size (nameB 0), sl4.alloc _⟩
                    rw [hW3]
                    clear hW3
                    refine NC.wpG_one ?_
                    simp only [NC.pickOps, List.getElem?_cons_succ, List.getElem?_cons_zero, Option.elim_some]
                    repeat (go_big_quiet_step (fail))
                    refine wpQuiet_nil ?_
                    refine NC.planAct_some (fun K hK => ?_)
                    go_simp
                    refine (tnums_any sl3 (by omega) HI.out (HV.out.below (K5.trans (kb3.mono hz5)))).mono ?_
                    rintro e w6 ⟨hb6, A6, c6, rfl, ow6⟩
                    go_wp2_with fail
                    refine hK.out _ _ ⟨⟨_, (bnext kb3 hb6)⟩, rfl⟩ ?_
                    clear hK K
                    have kb6 := bnext kb3 hb6
                    have ow6 := own_base ow6 kb3.size
                    have ow6s := own_below ow3 hb6
                    refine NC.wpG_one ?_
                    simp only [NC.pickOps, List.getElem?_cons_succ, List.getElem?_cons_zero, Option.elim_some]
                    repeat (go_big_quiet_step (fail))
                    refine wpQuiet_nil ?_
                    refine NC.planAct_some (fun K hK => ?_)
                    refine step_onto (W0 := w5) (ys := ([x.th, (m : Int)].map Lib.itoa).flatMap swc) (m := 2) E rfl (.tmp 48) (.tmp 56) rfl kb6 rfl ow6s rfl rfl (Rd.of_own ow6) (swc_one _) (by unfold maxLen; omega) (by omega) ?_
                    intro A8 c8 w8 own8 hb8 _
                    go_simp
                    refine hK.out _ _ ⟨⟨_, hb8⟩, rfl⟩ ?_
                    clear hK K
                    refine NC.wpG_fin ?_
                    simp only [NC.pickOps, List.getElem?_cons_succ, List.getElem?_cons_zero, Option.elim_some]
                    repeat (go_big_quiet_step (fail))
                    refine wpQuiet_nil ?_
                    refine NC.lastG_some (fun K hK => ?_)
                    go_simp
                    refine (wline_any (ws := pickT x m) (hW5.below hb8) (slsw_own own8) (by omega) (by omega) HL5.out (by have := hcl.out; omega) (Nat.le_trans hB5 hb8.size)).mono ?_
                    rintro e w9 ⟨rfl, hW9, hb9, hs9⟩
                    go_wp2_with fail
                    refine hK.out _ _ ?_
                    clear hK K
                    refine NoPanic.normal ?_
                    clear hX hzz0
                    have kb9 := (hb8.mono hB5).trans hb9
                    go_wp2_with fail
                    go_roundg (gr - m)
                    case measure => omega
                    case rel => exact ⟨k + m, cur ++ lineW (pickT x m), by omega, by first | rfl | go_num, hW9, K5.trans (kb9.mono hWB), KB5.trans kb9, by have := hb8.size; omega, HN.out, by rw [Hid, List.length_append]; have := hcl.out; have := HL6.out; omega⟩
                  · refine NC.planAct_some (fun K hK => ?_)
                    go_simp
                    refine (tnums_any sl4 (by omega) HI.out (HV.out.below (K5.trans (kb4.mono hz5)))).mono ?_
                    rintro e w6 ⟨hb6, A6, c6, rfl, ow6⟩
                    go_wp2_with fail
                    refine hK.out _ _ ⟨⟨_, (bnext kb4 hb6)⟩, rfl⟩ ?_
                    clear hK K
                    have kb6 := bnext kb4 hb6
                    have ow6 := own_base ow6 kb4.size
                    refine NC.wpG_one ?_
                    simp only [NC.pickOps, List.getElem?_cons_succ, List.getElem?_cons_zero, Option.elim_some]
                    repeat (go_big_quiet_step (fail))
                    refine wpQuiet_nil ?_
                    refine NC.planAct_some (fun K hK => ?_)
                    go_simp
                    refine hK.out _ _ (ext_mem (bnew kb6 _)) ?_
                    clear hK K
                    obtain ⟨W3, hW3, kb3, ow3, ow3n⟩ : ∃ W3, w6.alloc (.cells #[.string (bstr (nameB 0))] 9) = W3 ∧ Below w5.heap.size w5 W3 ∧ W3.ownsRow w5.heap.size 9 1 (.slice (some ⟨w6.heap.size, 0, none⟩) 1 1) 1 ([nameB 0].flatMap swc) ∧ W3.ownsRow w5.heap.size 9 1 (.slice A6 2 c6) 2 (([x.th, (m : Int)].map Lib.itoa).flatMap swc) := ⟨_, rfl, bnew kb6 _, own_one w6 _ kb6.size (nameB 0), ow6.alloc _⟩
                    rw [hW3]
                    clear hW3
                    refine NC.wpG_one ?_
                    simp only [NC.pickOps, List.getElem?_cons_succ, List.getElem?_cons_zero, Option.elim_some]
                    repeat (go_big_quiet_step (fail))
                    refine wpQuiet_nil ?_
                    refine NC.planAct_some (fun K hK => ?_)
                    refine step_onto (W0 := w5) (ys := ([x.th, (m : Int)].map Lib.itoa).flatMap swc) (m := 2) E rfl (.tmp 48) (.tmp 56) rfl kb3 rfl ow3 rfl rfl (Rd.of_own ow3n) (swc_one _) (by unfold maxLen; omega) (by omega) ?_
                    intro A8 c8 w8 own8 hb8 _
                    go_simp
                    refine hK.out _ _ ⟨⟨_, hb8⟩, rfl⟩ ?_
                    clear hK K
                    refine NC.wpG_fin ?_
                    simp only [NC.pickOps, List.getElem?_cons_succ, List.getElem?_cons_zero, Option.elim_some]
                    repeat (go_big_quiet_step (fail))
                    refine wpQuiet_nil ?_
                    refine NC.lastG_some (fun K hK => ?_)
                    go_simp
                    refine (wline_any (ws := pickT x m) (hW5.below hb8) (slsw_own own8) (by omega) (by omega) HL5.out (by have := hcl.out; omega) (Nat.le_trans hB5 hb8.size)).mono ?_
                    rintro e w9 ⟨rfl, hW9, hb9, hs9⟩
                    go_wp2_with fail
                    refine hK.out _ _ ?_
                    clear hK K
                    refine NoPanic.normal ?_
                    clear hX hzz0
                    have kb9 := (hb8.mono hB5).trans hb9
                    go_wp2_with fail
                    go_roundg (gr - m)
                    case measure => omega
                    case rel => exact ⟨k + m, cur ++ lineW (pickT x m), by omega, by first | rfl | go_num, hW9, K5.trans (kb9.mono hWB), KB5.trans kb9, by have := hb8.size; omega, HN.out, by rw [Hid, List.length_append]; have := hcl.out; have := HL6.out; omega⟩
              · refine NC.planAct_some (fun K hK => ?_)
                go_simp
                refine hK.out _ _ (ext_mem (bnew (brefl w5).drew _)) ?_
                clear hK K
                obtain ⟨W4, hW4, kb4, sl4⟩ : ∃ W4, (w5.alloc (.cells #[.int .i64 x.th, .int .i64 (m : Int)] 3)).drew = W4 ∧ Below w5.heap.size w5 W4 ∧ Sl ic W4 (some ⟨w5.heap.size, 0, none⟩) 2 2 [x.th, (m : Int)] := ⟨_, rfl, (bnew (brefl w5) _).drew, (slic_new w5 [x.th, (m : Int)] _ rfl).drew⟩
                rw [hW4]
                clear hW4
                refine NC.wpG_one ?_
                simp only [NC.pickOps, List.getElem?_cons_succ, List.getElem?_cons_zero, Option.elim_some]
                repeat (go_big_quiet_step (fail))
                refine wpQuiet_nil ?_
                refine NC.planAct_some (fun K hK => ?_)
                go_simp
                refine twords_any.mono ?_
                rintro e wA ⟨rfl, hbA⟩
                go_wp2_with fail
                refine hK.out _ _ ⟨⟨_, (bnext kb4 hbA)⟩, rfl⟩ ?_
                clear hK K
                have kbA := bnext kb4 hbA
                have slA := sl4.below hbA
                refine NC.wpG_two ?_
                simp only [NC.pickOps, List.getElem?_cons_succ, List.getElem?_cons_zero, Option.elim_some]
                repeat (go_big_quiet_step (fail))
                refine wpQuiet_nil ?_
                refine ⟨?_, ?_⟩
                · refine NC.planAct_some (fun K hK => ?_)
                  go_simp
                  refine hK.out _ _ (ext_mem (bnew kbA _)) ?_
                  clear hK K
                  obtain ⟨W3, hW3, kb3, ow3, sl3⟩ : ∃ W3, wA.alloc (.cells #[.string (bstr (nameB 0))] 9) = W3 ∧ Below w5.heap.size w5 W3 ∧ W3.ownsRow w5.heap.size 9 1 (.slice (some ⟨wA.heap.size, 0, none⟩) 1 1) 1 ([nameB 0].flatMap swc) ∧ Sl ic W3 (some ⟨w5.heap.size, 0, none⟩) 2 2 [x.th, (m : Int)] := ⟨_, rfl, bnew kbA _, own_one wA _ kbA.size (nameB 0), slA.alloc _⟩
                  rw [hW3]
                  clear hW3
                  refine NC.wpG_one ?_
                  simp only [NC.pickOps, List.getElem?_cons_succ, List.getElem?_cons_zero, Option.elim_some]
                  repeat (go_big_quiet_step (fail))
                  refine wpQuiet_nil ?_
                  refine NC.planAct_some (fun K hK => ?_)
                  go_simp
                  refine (tnums_any sl3 (by omega) HI.out (HV.out.below (K5.trans (kb3.mono hz5)))).mono ?_
                  rintro e w6 ⟨hb6, A6, c6, rfl, ow6⟩
                  go_wp2_with fail
                  refine hK.out _ _ ⟨⟨_, (bnext kb3 hb6)⟩, rfl⟩ ?_
                  clear hK K
                  have kb6 := bnext kb3 hb6
                  have ow6 := own_base ow6 kb3.size
                  have ow6s := own_below ow3 hb6
                  refine NC.wpG_one ?_
                  simp only [NC.pickOps, List.getElem?_cons_succ, List.getElem?_cons_zero, Option.elim_some]
                  repeat (go_big_quiet_step (fail))
                  refine wpQuiet_nil ?_
                  refine NC.planAct_some (fun K hK => ?_)
                  refine step_onto (W0 := w5) (ys := ([x.th, (m : Int)].map Lib.itoa).flatMap swc) (m := 2) E rfl (.tmp 48) (.tmp 56) rfl kb6 rfl ow6s rfl rfl (Rd.of_own ow6) (swc_one _) (by unfold maxLen; omega) (by omega) ?_
                  intro A8 c8 w8 own8 hb8 _
                  go_simp
                  refine hK.out _ _ ⟨⟨_, hb8⟩, rfl⟩ ?_
                  clear hK K
                  refine NC.wpG_fin ?_
                  simp only [NC.pickOps, List.getElem?_cons_succ, List.getElem?_cons_zero, Option.elim_some]
                  repeat (go_big_quiet_step (fail))
                  refine wpQuiet_nil ?_
                  refine NC.lastG_some (fun K hK => ?_)
                  go_simp
                  refine (wline_any (ws := pickT x m) (hW5.below hb8) (slsw_own own8) (by omega) (by omega) HL5.out (by have := hcl.out; omega) (Nat.le_trans hB5 hb8.size)).mono ?_
                  rintro e w9 ⟨rfl, hW9, hb9, hs9⟩
                  go_wp2_with fail
                  refine hK.out _ _ ?_
                  clear hK K
                  refine NoPanic.normal ?_
                  clear hX hzz0
                  have kb9 := (hb8.mono hB5).trans hb9
                  go_wp2_with fail
                  go_roundg (gr - m)
                  case measure => omega
                  case rel => exact ⟨k + m, cur ++ lineW (pickT x m), by omega, by first | rfl | go_num, hW9, K5.trans (kb9.mono hWB), KB5.trans kb9, by have := hb8.size; omega, HN.out, by rw [Hid, List.length_append]; have := hcl.out; have := HL6.out; omega⟩
                · refine NC.planAct_some (fun K hK => ?_)
                  go_simp
                  refine (tnums_any slA (by omega) HI.out (HV.out.below (K5.trans (kbA.mono hz5)))).mono ?_
                  rintro e w6 ⟨hb6, A6, c6, rfl, ow6⟩
                  go_wp2_with fail
                  refine hK.out _ _ ⟨⟨_, (bnext kbA hb6)⟩, rfl⟩ ?_
                  clear hK K
                  have kb6 := bnext kbA hb6
                  have ow6 := own_base ow6 kbA.size
                  refine NC.wpG_one ?_
                  simp only [NC.pickOps, List.getElem?_cons_succ, List.getElem?_cons_zero, Option.elim_some]
                  repeat (go_big_quiet_step (fail))
                  refine wpQuiet_nil ?_
                  refine NC.planAct_some (fun K hK => ?_)
                  go_simp
                  refine hK.out _ _ (ext_mem (bnew kb6 _)) ?_
                  clear hK K
                  obtain ⟨W3, hW3, kb3, ow3, ow3n⟩ : ∃ W3, w6.alloc (.cells #[.string (bstr (nameB 0))] 9) = W3 ∧ Below w5.heap.size w5 W3 ∧ W3.ownsRow w5.heap.size 9 1 (.slice (some ⟨w6.heap.size, 0, none⟩) 1 1) 1 ([nameB 0].flatMap swc) ∧ W3.ownsRow w5.heap.size 9 1 (.slice A6 2 c6) 2 (([x.th, (m : Int)].map Lib.itoa).flatMap swc) := ⟨_, rfl, bnew kb6 _, own_one w6 _ kb6.size (nameB 0), ow6.alloc _⟩
                  rw [hW3]
                  clear hW3
                  refine NC.wpG_one ?_
                  simp only [NC.pickOps, List.getElem?_cons_succ, List.getElem?_cons_zero, Option.elim_some]
                  repeat (go_big_quiet_step (fail))
                  refine wpQuiet_nil ?_
                  refine NC.planAct_some (fun K hK => ?_)
                  refine step_onto (W0 := w5) (ys := ([x.th, (m : Int)].map Lib.itoa).flatMap swc) (m := 2) E rfl (.tmp 48) (.tmp 56) rfl kb3 rfl ow3 rfl rfl (Rd.of_own ow3n) (swc_one _) (by unfold maxLen; omega) (by omega) ?_
                  intro A8 c8 w8 own8 hb8 _
                  go_simp
                  refine hK.out _ _ ⟨⟨_, hb8⟩, rfl⟩ ?_
                  clear hK K
                  refine NC.wpG_fin ?_
                  simp only [NC.pickOps, List.getElem?_cons_succ, List.getElem?_cons_zero, Option.elim_some]
                  repeat (go_big_quiet_step (fail))
                  refine wpQuiet_nil ?_
                  refine NC.lastG_some (fun K hK => ?_)
                  go_simp
                  refine (wline_any (ws := pickT x m) (hW5.below hb8) (slsw_own own8) (by omega) (by omega) HL5.out (by have := hcl.out; omega) (Nat.le_trans hB5 hb8.size)).mono ?_
                  rintro e w9 ⟨rfl, hW9, hb9, hs9⟩
                  go_wp2_with fail
                  refine hK.out _ _ ?_
                  clear hK K
                  refine NoPanic.normal ?_
                  clear hX hzz0
                  have kb9 := (hb8.mono hB5).trans hb9
                  go_wp2_with fail
                  go_roundg (gr - m)
                  case measure => omega
                  case rel => exact ⟨k + m, cur ++ lineW (pickT x m), by omega, by first | rfl | go_num, hW9, K5.trans (kb9.mono hWB), KB5.trans kb9, by have := hb8.size; omega, HN.out, by rw [Hid, List.length_append]; have := hcl.out; have := HL6.out; omega⟩
          · have t1 : decide ((q : Int) < (en : Int)) = false := decide_eq_false (by omega)
            have hjR : ¬ m ≤ R := by omega
            go_upto_region 3 with fail
            have hX := @Ext.cell wr
            have hzz0 := block_lt_of_cell v0
            refine wp_region_noPanic ?_
            refine NC.wp_region_plan (fun w' => ∃ x : Ext wr, w' = x.w) [] [0, 1, 2, 3, 4, 5, 6, 7, 8, 9, 10, 11, 12, 13, 14, 15, 16, 17, 18, 19, 20, 21, 22, 23, 24, 25, 26] (by kernel_rfl) (by kernel_rfl) (by kernel_rfl) (fun _ _ _ _ _ h => h) ⟨⟨_, (brefl wr).drew⟩, rfl⟩ ?_
            refine NC.wpPlan_last ?_
            simp only [NC.pickOps, List.getElem?_cons_succ, List.getElem?_cons_zero, Option.elim_some]
            repeat (go_big_quiet_step (fail))
            refine wpQuiet_nil ?_
            refine NoPanic.normal ?_
            clear hX hzz0
            obtain ⟨w5, hw5, hW5, K5, KB5, hz5, hB5⟩ : ∃ w5, wr.drew = w5 ∧ WT B b cur w5 ∧ Below W0.heap.size W0 w5 ∧ Below B w w5 ∧ W0.heap.size ≤ w5.heap.size ∧ B ≤ w5.heap.size := ⟨_, rfl, hW, K0.drew, KB.drew, K0.size, Nat.le_trans hB kz⟩
            have kz5 : w.heap.size ≤ w5.heap.size := by rw [← hw5]; exact kz
            rw [hw5]
            clear hw5 v0 v1 K0 KB kz hW
            obtain ⟨v0, v1⟩ := C0.out _ K5
            have hz0 := block_lt_of_cell v0
            have HN : Hid (l ++ entW es = (cur ++ lineW (pickT x m)) ++ entW (es.drop (k + m))) := by
              rw [Hid, hX.out, HD.out, entW_pick HWH.out, hRr, show 1 + R = m by omega, List.drop_drop, show k + 1 + R = k + m by omega, List.append_assoc]
            have hL := pickT_len x m HI1.out (by omega)
            have HL6 := Lib.hid hL
            have HL5 : Hid ((lineW (pickT x m)).length ≤ 1000000) := by rw [Hid]; omega
            have HI : Hid (∀ z, z ∈ [x.th, (m : Int)] → I64 z) := fun z hz => by
              simp only [List.mem_cons, List.not_mem_nil, or_false] at hz
              rcases hz with rfl | rfl
              · exact HI1.out
              · unfold I64; omega
            have hix : ∀ W, (Instr.index 109 (.agg W4) (.int .i64 0)).run Tryz.prog W = .ok (.string (bstr (nameB 0))) W := fun W => HIX.out 0 (by omega) (by omega) W
            clear hL hRr ck
            go_upto_region 6 with fail
            have hX := @Ext.cell w5
            have hzz0 := block_lt_of_cell v0
            refine wp_region_noPanic ?_
            refine NC.wp_region_lastU (fun w' => ∃ x : Ext w5, w' = x.w) 13 (NC.PG.two [0, 4, 5, 6, 7, 8, 9] 1 (NC.PG.two [2] 3 (NC.PG.one [] 10 (NC.PG.one [] 11 (NC.PG.one [] 12 (NC.PG.fin [])))) 10 (NC.PG.two [] 3 (NC.PG.one [] 11 (NC.PG.one [] 12 (NC.PG.fin []))) 11 (NC.PG.one [] 3 (NC.PG.one [] 12 (NC.PG.fin []))))) 10 (NC.PG.one [] 1 (NC.PG.two [2] 3 (NC.PG.one [] 11 (NC.PG.one [] 12 (NC.PG.fin []))) 11 (NC.PG.one [] 3 (NC.PG.one [] 12 (NC.PG.fin [])))))) (by kernel_rfl) (by kernel_rfl) (by kernel_rfl) (fun _ _ _ _ _ h => h) ⟨⟨_, (brefl w5).drew⟩, rfl⟩ ?_
            refine NC.wpG_two ?_
            simp only [NC.pickOps, List.getElem?_cons_succ, List.getElem?_cons_zero, Option.elim_some]
            repeat (go_big_quiet_step (fail))
            refine wpQuiet_nil ?_
            refine ⟨?_, ?_⟩
            · refine NC.planAct_some (fun K hK => ?_)
              go_simp
              refine twords_any.mono ?_
              rintro e wA ⟨rfl, hbA⟩
              go_wp2_with fail
              refine hK.out _ _ ⟨⟨_, (bnext (brefl w5).drew hbA)⟩, rfl⟩ ?_
              clear hK K
              have kbA := bnext (brefl w5).drew hbA
              refine NC.wpG_two ?_
              simp only [NC.pickOps, List.getElem?_cons_succ, List.getElem?_cons_zero, Option.elim_some]
              repeat (go_big_quiet_step (fail))
              refine wpQuiet_nil ?_
              refine ⟨?_, ?_⟩
              · refine NC.planAct_some (fun K hK => ?_)
                go_simp
                refine hK.out _ _ (ext_mem (bnew kbA _)) ?_
                clear hK K
                obtain ⟨W3, hW3, kb3, ow3⟩ : ∃ W3, wA.alloc (.cells #[.string (bstr (nameB 0))] 9) = W3 ∧ Below w5.heap.size w5 W3 ∧ W3.ownsRow w5.heap.size 9 1 (.slice (some ⟨wA.heap.size, 0, none⟩) 1 1) 1 ([nameB 0].flatMap swc) := ⟨_, rfl, bnew kbA _, own_one wA _ kbA.size (nameB 0)⟩
                rw [hW3]
                clear hW3
                refine NC.wpG_one ?_
                simp only [NC.pickOps, List.getElem?_cons_succ, List.getElem?_cons_zero, Option.elim_some]
                repeat (go_big_quiet_step (fail))
                refine wpQuiet_nil ?_
                refine NC.planAct_some (fun K hK => ?_)
                go_simp
                refine hK.out _ _ (ext_mem (bnew kb3 _)) ?_
                clear hK K
                obtain ⟨W4, hW4, kb4, sl4, ow4⟩ : ∃ W4, W3.alloc (.cells #[.int .i64 x.th, .int .i64 (m : Int)] 3) = W4 ∧ Below w5.heap.size w5 W4 ∧ Sl ic W4 (some ⟨W3.heap.size, 0, none⟩) 2 2 [x.th, (m : Int)] ∧ W4.ownsRow w5.heap.size 9 1 (.slice (some ⟨wA.heap.size, 0, none⟩) 1 1) 1 ([nameB 0].flatMap swc) := ⟨_, rfl, bnew kb3 _, slic_new W3 [x.th, (m : Int)] _ rfl, ow3.alloc _⟩
                rw [hW4]
                clear hW4
                refine NC.wpG_one ?_
                simp only [NC.pickOps, List.getElem?_cons_succ, List.getElem?_cons_zero, Option.elim_some]
                repeat (go_big_quiet_step (fail))
                refine wpQuiet_nil ?_
                refine NC.planAct_some (fun K hK => ?_)
                go_simp
                refine (tnums_any sl4 (by omega) HI.out (HV.out.below (K5.trans (kb4.mono hz5)))).mono ?_
                rintro e w6 ⟨hb6, A6, c6, rfl, ow6⟩
                go_wp2_with fail
                refine hK.out _ _ ⟨⟨_, (bnext kb4 hb6)⟩, rfl⟩ ?_
                clear hK K
                have kb6 := bnext kb4 hb6
                have ow6 := own_base ow6 kb4.size
                have ow6s := own_below ow4 hb6
                refine NC.wpG_one ?_
                simp only [NC.pickOps, List.getElem?_cons_succ, List.getElem?_cons_zero, Option.elim_some]
                repeat (go_big_quiet_step (fail))
                refine wpQuiet_nil ?_
                refine NC.planAct_some (fun K hK => ?_)
                refine step_onto (W0 := w5) (ys := ([x.th, (m : Int)].map Lib.itoa).flatMap swc) (m := 2) E rfl (.tmp 48) (.tmp 56) rfl kb6 rfl ow6s rfl rfl (Rd.of_own ow6) (swc_one _) (by unfold maxLen; omega) (by omega) ?_
                intro A8 c8 w8 own8 hb8 _
                go_simp
                refine hK.out _ _ ⟨⟨_, hb8⟩, rfl⟩ ?_
                clear hK K
                refine NC.wpG_fin ?_
                simp only [NC.pickOps, List.getElem?_cons_succ, List.getElem?_cons_zero, Option.elim_some]
                repeat (go_big_quiet_step (fail))
                refine wpQuiet_nil ?_
                refine NC.lastG_some (fun K hK => ?_)
                go_simp
                refine (wline_any (ws := pickT x m) (hW5.below hb8) (slsw_own own8) (by omega) (by omega) HL5.out (by have := hcl.out; omega) (Nat.le_trans hB5 hb8.size)).mono ?_
                rintro e w9 ⟨rfl, hW9, hb9, hs9⟩
                go_wp2_with fail
                refine hK.out _ _ ?_
                clear hK K
                refine NoPanic.normal ?_
                clear hX hzz0
                have kb9 := (hb8.mono hB5).trans hb9
                go_wp2_with fail
                go_roundg (gr - m)
                case measure => omega
                case rel => exact ⟨k + m, cur ++ lineW (pickT x m), by omega, by first | rfl | go_num, hW9, K5.trans (kb9.mono hWB), KB5.trans kb9, by have := hb8.size; omega, HN.out, by rw [Hid, List.length_append]; have := hcl.out; have := HL6.out; omega⟩
              · refine NC.planAct_some (fun K hK => ?_)
                go_simp
                refine hK.out _ _ (ext_mem (bnew kbA _)) ?_
                clear hK K
                obtain ⟨W4, hW4, kb4, sl4⟩ : ∃ W4, wA.alloc (.cells #[.int .i64 x.th, .int .i64 (m : Int)] 3) = W4 ∧ Below w5.heap.size w5 W4 ∧ Sl ic W4 (some ⟨wA.heap.size, 0, none⟩) 2 2 [x.th, (m : Int)] := ⟨_, rfl, bnew kbA _, slic_new wA [x.th, (m : Int)] _ rfl⟩
                rw [hW4]
                clear hW4
                refine NC.wpG_two ?_
                simp only [NC.pickOps, List.getElem?_cons_succ, List.getElem?_cons_zero, Option.elim_some]
                repeat (go_big_quiet_step (fail))
                refine wpQuiet_nil ?_
                refine ⟨?_, ?_⟩
                · refine NC.planAct_some (fun K hK => ?_)
                  go_simp
                  refine hK.out _ _ (ext_mem (bnew kb4 _)) ?_
                  clear hK K
                  obtain ⟨W3, hW3, kb3, ow3, sl3⟩ : ∃ W3, W4.alloc (.cells #[.string (bstr (nameB 0))] 9) = W3 ∧ Below w5.heap.size w5 W3 ∧ W3.ownsRow w5.heap.size 9 1 (.slice (some ⟨W4.heap.size, 0, none⟩) 1 1) 1 ([nameB 0].flatMap swc) ∧ Sl ic W3 (some ⟨wA.heap.size, 0, none⟩) 2 2 [x.th, (m : Int)] := ⟨_, rfl, bnew kb4 _, own_one W4 _ kb4.size (nameB 0), sl4.alloc _⟩
                  rw [hW3]
                  clear hW3
                  refine NC.wpG_one ?_
                  simp only [NC.pickOps, List.getElem?_cons_succ, List.getElem?_cons_zero, Option.elim_some]
                  repeat (go_big_quiet_step (fail))
                  refine wpQuiet_nil ?_
                  refine NC.planAct_some (fun K hK => ?_)
                  go_simp
                  refine (tnums_any sl3 (by omega) HI.out (HV.out.below (K5.trans (kb3.mono hz5)))).mono ?_
                  rintro e w6 ⟨hb6, A6, c6, rfl, ow6⟩
                  go_wp2_with fail
                  refine hK.out _ _ ⟨⟨_, (bnext kb3 hb6)⟩, rfl⟩ ?_
                  clear hK K
                  have kb6 := bnext kb3 hb6
                  have ow6 := own_base ow6 kb3.size
                  have ow6s := own_below ow3 hb6
                  refine NC.wpG_one ?_
                  simp only [NC.pickOps, List.getElem?_cons_succ, List.getElem?_cons_zero, Option.elim_some]
                  repeat (go_big_quiet_step (fail))
                  refine wpQuiet_nil ?_
                  refine NC.planAct_some (fun K hK => ?_)
                  refine step_onto (W0 := w5) (ys := ([x.th, (m : Int)].map Lib.itoa).flatMap swc) (m := 2) E rfl (.tmp 48) (.tmp 56) rfl kb6 rfl ow6s rfl rfl (Rd.of_own ow6) (swc_one _) (by unfold maxLen; omega) (by omega) ?_
                  intro A8 c8 w8 own8 hb8 _
                  go_simp
                  refine hK.out _ _ ⟨⟨_, hb8⟩, rfl⟩ ?_
                  clear hK K
                  refine NC.wpG_fin ?_
                  simp only [NC.pickOps, List.getElem?_cons_succ, List.getElem?_cons_zero, Option.elim_some]
                  repeat (go_big_quiet_step (fail))
                  refine wpQuiet_nil ?_
                  refine NC.lastG_some (fun K hK => ?_)
                  go_simp
                  refine (wline_any (ws := pickT x m) (hW5.below hb8) (slsw_own own8) (by omega) (by omega) HL5.out (by have := hcl.out; omega) (Nat.le_trans hB5 hb8.size)).mono ?_
                  rintro e w9 ⟨rfl, hW9, hb9, hs9⟩
                  go_wp2_with fail
                  refine hK.out _ _ ?_
                  clear hK K
                  refine NoPanic.normal ?_
                  clear hX hzz0
                  have kb9 := (hb8.mono hB5).trans hb9
                  go_wp2_with fail
                  go_roundg (gr - m)
                  case measure => omega
                  case rel => exact ⟨k + m, cur ++ lineW (pickT x m), by omega, by first | rfl | go_num, hW9, K5.trans (kb9.mono hWB), KB5.trans kb9, by have := hb8.size; omega, HN.out, by rw [Hid, List.length_append]; have := hcl.out; have := HL6.out; omega⟩
                · refine NC.planAct_some (fun K hK => ?_)
                  go_simp
                  refine (tnums_any sl4 (by omega) HI.out (HV.out.below (K5.trans (kb4.mono hz5)))).mono ?_
                  rintro e w6 ⟨hb6, A6, c6, rfl, ow6⟩
                  go_wp2_with fail
                  refine hK.out _ _ ⟨⟨_, (bnext kb4 hb6)⟩, rfl⟩ ?_
                  clear hK K
                  have kb6 := bnext kb4 hb6
                  have ow6 := own_base ow6 kb4.size
                  refine NC.wpG_one ?_
                  simp only [NC.pickOps, List.getElem?_cons_succ, List.getElem?_cons_zero, Option.elim_some]
                  repeat (go_big_quiet_step (fail))
                  refine wpQuiet_nil ?_
                  refine NC.planAct_some (fun K hK => ?_)
                  go_simp
                  refine hK.out _ _ (ext_mem (bnew kb6 _)) ?_
                  clear hK K
                  obtain ⟨W3, hW3, kb3, ow3, ow3n⟩ : ∃ W3, w6.alloc (.cells #[.string (bstr (nameB 0))] 9) = W3 ∧ Below w5.heap.size w5 W3 ∧ W3.ownsRow w5.heap.size 9 1 (.slice (some ⟨w6.heap.size, 0, none⟩) 1 1) 1 ([nameB 0].flatMap swc) ∧ W3.ownsRow w5.heap.size 9 1 (.slice A6 2 c6) 2 (([x.th, (m : Int)].map Lib.itoa).flatMap swc) := ⟨_, rfl, bnew kb6 _, own_one w6 _ kb6.size (nameB 0), ow6.alloc _⟩
                  rw [hW3]
                  clear hW3
                  refine NC.wpG_one ?_
                  simp only [NC.pickOps, List.getElem?_cons_succ, List.getElem?_cons_zero, Option.elim_some]
                  repeat (go_big_quiet_step (fail))
                  refine wpQuiet_nil ?_
                  refine NC.planAct_some (fun K hK => ?_)
                  refine step_onto (W0 := w5) (ys := ([x.th, (m : Int)].map Lib.itoa).flatMap swc) (m := 2) E rfl (.tmp 48) (.tmp 56) rfl kb3 rfl ow3 rfl rfl (Rd.of_own ow3n) (swc_one _) (by unfold maxLen; omega) (by omega) ?_
                  intro A8 c8 w8 own8 hb8 _
                  go_simp
                  refine hK.out _ _ ⟨⟨_, hb8⟩, rfl⟩ ?_
                  clear hK K
                  refine NC.wpG_fin ?_
                  simp only [NC.pickOps, List.getElem?_cons_succ, List.getElem?_cons_zero, Option.elim_some]
                  repeat (go_big_quiet_step (fail))
                  refine wpQuiet_nil ?_
                  refine NC.lastG_some (fun K hK => ?_)
                  go_simp
                  refine (wline_any (ws := pickT x m) (hW5.below hb8) (slsw_own own8) (by omega) (by omega) HL5.out (by have := hcl.out; omega) (Nat.le_trans hB5 hb8.size)).mono ?_
                  rintro e w9 ⟨rfl, hW9, hb9, hs9⟩
                  go_wp2_with fail
                  refine hK.out _ _ ?_
                  clear hK K
                  refine NoPanic.normal ?_
                  clear hX hzz0
                  have kb9 := (hb8.mono hB5).trans hb9
                  go_wp2_with fail
                  go_roundg (gr - m)
                  case measure => omega
                  case rel => exact ⟨k + m, cur ++ lineW (pickT x m), by omega, by first | rfl | go_num, hW9, K5.trans (kb9.mono hWB), KB5.trans kb9, by have := hb8.size; omega, HN.out, by rw [Hid, List.length_append]; have := hcl.out; have := HL6.out; omega⟩
            · refine NC.planAct_some (fun K hK => ?_)
              go_simp
              refine hK.out _ _ (ext_mem (bnew (brefl w5).drew _)) ?_
              clear hK K
              obtain ⟨W4, hW4, kb4, sl4⟩ : ∃ W4, (w5.alloc (.cells #[.int .i64 x.th, .int .i64 (m : Int)] 3)).drew = W4 ∧ Below w5.heap.size w5 W4 ∧ Sl ic W4 (some ⟨w5.heap.size, 0, none⟩) 2 2 [x.th, (m : Int)] := ⟨_, rfl, (bnew (brefl w5) _).drew, (slic_new w5 [x.th, (m : Int)] _ rfl).drew⟩
              rw [hW4]
              clear hW4
              refine NC.wpG_one ?_
              simp only [NC.pickOps, List.getElem?_cons_succ, List.getElem?_cons_zero, Option.elim_some]
              repeat (go_big_quiet_step (fail))
              refine wpQuiet_nil ?_
              refine NC.planAct_some (fun K hK => ?_)
              go_simp
              refine twords_any.mono ?_
              rintro e wA ⟨rfl, hbA⟩
              go_wp2_with fail
              refine hK.out _ _ ⟨⟨_, (bnext kb4 hbA)⟩, rfl⟩ ?_
              clear hK K
              have kbA := bnext kb4 hbA
              have slA := sl4.below hbA
              refine NC.wpG_two ?_
              simp only [NC.pickOps, List.getElem?_cons_succ, List.getElem?_cons_zero, Option.elim_some]
              repeat (go_big_quiet_step (fail))
              refine wpQuiet_nil ?_
              refine ⟨?_, ?_⟩
              · refine NC.planAct_some (fun K hK => ?_)
                go_simp
                refine hK.out _ _ (ext_mem (bnew kbA _)) ?_
                clear hK K
                obtain ⟨W3, hW3, kb3, ow3, sl3⟩ : ∃ W3, wA.alloc (.cells #[.string (bstr (nameB 0))] 9) = W3 ∧ Below w5.heap.size w5 W3 ∧ W3.ownsRow w5.heap.size 9 1 (.slice (some ⟨wA.heap.size, 0, none⟩) 1 1) 1 ([nameB 0].flatMap swc) ∧ Sl ic W3 (some ⟨w5.heap.size, 0, none⟩) 2 2 [x.th, (m : Int)] := ⟨_, rfl, bnew kbA _, own_one wA _ kbA.size (nameB 0), slA.alloc _⟩
                rw [hW3]
                clear hW3
                refine NC.wpG_one ?_
                simp only [NC.pickOps, List.getElem?_cons_succ, List.getElem?_cons_zero, Option.elim_some]
                repeat (go_big_quiet_step (fail))
                refine wpQuiet_nil ?_
                refine NC.planAct_some (fun K hK => ?_)
                go_simp
                refine (tnums_any sl3 (by omega) HI.out (HV.out.below (K5.trans (kb3.mono hz5)))).mono ?_
                rintro e w6 ⟨hb6, A6, c6, rfl, ow6⟩
                go_wp2_with fail
                refine hK.out _ _ ⟨⟨_, (bnext kb3 hb6)⟩, rfl⟩ ?_
                clear hK K
                have kb6 := bnext kb3 hb6
                have ow6 := own_base ow6 kb3.size
                have ow6s := own_below ow3 hb6
                refine NC.wpG_one ?_
                simp only [NC.pickOps, List.getElem?_cons_succ, List.getElem?_cons_zero, Option.elim_some]
                repeat (go_big_quiet_step (fail))
                refine wpQuiet_nil ?_
                refine NC.planAct_some (fun K hK => ?_)
                refine step_onto (W0 := w5) (ys := ([x.th, (m : Int)].map Lib.itoa).flatMap swc) (m := 2) E rfl (.tmp 48) (.tmp 56) rfl kb6 rfl ow6s rfl rfl (Rd.of_own ow6) (swc_one _) (by unfold maxLen; omega) (by omega) ?_
                intro A8 c8 w8 own8 hb8 _
                go_simp
                refine hK.out _ _ ⟨⟨_, hb8⟩, rfl⟩ ?_
                clear hK K
                refine NC.wpG_fin ?_
                simp only [NC.pickOps, List.getElem?_cons_succ, List.getElem?_cons_zero, Option.elim_some]
                repeat (go_big_quiet_step (fail))
                refine wpQuiet_nil ?_
                refine NC.lastG_some (fun K hK => ?_)
                go_simp
                refine (wline_any (ws := pickT x m) (hW5.below hb8) (slsw_own own8) (by omega) (by omega) HL5.out (by have := hcl.out; omega) (Nat.le_trans hB5 hb8.size)).mono ?_
                rintro e w9 ⟨rfl, hW9, hb9, hs9⟩
                go_wp2_with fail
                refine hK.out _ _ ?_
                clear hK K
                refine NoPanic.normal ?_
                clear hX hzz0
                have kb9 := (hb8.mono hB5).trans hb9
                go_wp2_with fail
                go_roundg (gr - m)
                case measure => omega
                case rel => exact ⟨k + m, cur ++ lineW (pickT x m), by omega, by first | rfl | go_num, hW9, K5.trans (kb9.mono hWB), KB5.trans kb9, by have := hb8.size; omega, HN.out, by rw [Hid, List.length_append]; have := hcl.out; have := HL6.out; omega⟩
              · refine NC.planAct_some (fun K hK => ?_)
                go_simp
                refine (tnums_any slA (by omega) HI.out (HV.out.below (K5.trans (kbA.mono hz5)))).mono ?_
                rintro e w6 ⟨hb6, A6, c6, rfl, ow6⟩
                go_wp2_with fail
                refine hK.out _ _ ⟨⟨_, (bnext kbA hb6)⟩, rfl⟩ ?_
                clear hK K
                have kb6 := bnext kbA hb6
                have ow6 := own_base ow6 kbA.size
                refine NC.wpG_one ?_
                simp only [NC.pickOps, List.getElem?_cons_succ, List.getElem?_cons_zero, Option.elim_some]
                repeat (go_big_quiet_step (fail))
                refine wpQuiet_nil ?_
                refine NC.planAct_some (fun K hK => ?_)
                go_simp
                refine hK.out _ _ (ext_mem (bnew kb6 _)) ?_
                clear hK K
                obtain ⟨W3, hW3, kb3, ow3, ow3n⟩ : ∃ W3, w6.alloc (.cells #[.string (bstr (nameB 0))] 9) = W3 ∧ Below w5.heap.size w5 W3 ∧ W3.ownsRow w5.heap.size 9 1 (.slice (some ⟨w6.heap.size, 0, none⟩) 1 1) 1 ([nameB 0].flatMap swc) ∧ W3.ownsRow w5.heap.size 9 1 (.slice A6 2 c6) 2 (([x.th, (m : Int)].map Lib.itoa).flatMap swc) := ⟨_, rfl, bnew kb6 _, own_one w6 _ kb6.size (nameB 0), ow6.alloc _⟩
                rw [hW3]
                clear hW3
                refine NC.wpG_one ?_
                simp only [NC.pickOps, List.getElem?_cons_succ, List.getElem?_cons_zero, Option.elim_some]
                repeat (go_big_quiet_step (fail))
                refine wpQuiet_nil ?_
                refine NC.planAct_some (fun K hK => ?_)
                refine step_onto (W0 := w5) (ys := ([x.th, (m : Int)].map Lib.itoa).flatMap swc) (m := 2) E rfl (.tmp 48) (.tmp 56) rfl kb3 rfl ow3 rfl rfl (Rd.of_own ow3n) (swc_one _) (by unfold maxLen; omega) (by omega) ?_
                intro A8 c8 w8 own8 hb8 _
                go_simp
                refine hK.out _ _ ⟨⟨_, hb8⟩, rfl⟩ ?_
                clear hK K
                refine NC.wpG_fin ?_
                simp only [NC.pickOps, List.getElem?_cons_succ, List.getElem?_cons_zero, Option.elim_some]
                repeat (go_big_quiet_step (fail))
                refine wpQuiet_nil ?_
                refine NC.lastG_some (fun K hK => ?_)
                go_simp
                refine (wline_any (ws := pickT x m) (hW5.below hb8) (slsw_own own8) (by omega) (by omega) HL5.out (by have := hcl.out; omega) (Nat.le_trans hB5 hb8.size)).mono ?_
                rintro e w9 ⟨rfl, hW9, hb9, hs9⟩
                go_wp2_with fail
                refine hK.out _ _ ?_
                clear hK K
                refine NoPanic.normal ?_
                clear hX hzz0
                have kb9 := (hb8.mono hB5).trans hb9
                go_wp2_with fail
                go_roundg (gr - m)
                case measure => omega
                case rel => exact ⟨k + m, cur ++ lineW (pickT x m), by omega, by first | rfl | go_num, hW9, K5.trans (kb9.mono hWB), KB5.trans kb9, by have := hb8.size; omega, HN.out, by rw [Hid, List.length_append]; have := hcl.out; have := HL6.out; omega⟩
        · have t0 : (x.wh == 0) = false := by rw [beq_eq_false_iff_ne]; exact hwh
          have hR0 : R = 0 := by rw [← HR.out, if_neg hwh]
          have hj0 : m = 1 := by omega
          subst hj0
          go_upto_region 3 with fail
          have hX := @Ext.cell wr
          have hzz0 := block_lt_of_cell v0
          refine wp_region_noPanic ?_
          refine NC.wp_region_plan (fun w' => ∃ x : Ext wr, w' = x.w) [] [0, 1, 2, 3, 4, 5, 6, 7, 8, 9, 10, 11, 12, 13, 14, 15, 16, 17, 18, 19, 20, 21, 22, 23, 24, 25, 26] (by kernel_rfl) (by kernel_rfl) (by kernel_rfl) (fun _ _ _ _ _ h => h) ⟨⟨_, (brefl wr).drew⟩, rfl⟩ ?_
          refine NC.wpPlan_last ?_
          simp only [NC.pickOps, List.getElem?_cons_succ, List.getElem?_cons_zero, Option.elim_some]
          repeat (go_big_quiet_step (fail))
          refine wpQuiet_nil ?_
          refine NoPanic.normal ?_
          clear hX hzz0
          obtain ⟨w5, hw5, hW5, K5, KB5, hz5, hB5⟩ : ∃ w5, wr.drew = w5 ∧ WT B b cur w5 ∧ Below W0.heap.size W0 w5 ∧ Below B w w5 ∧ W0.heap.size ≤ w5.heap.size ∧ B ≤ w5.heap.size := ⟨_, rfl, hW, K0.drew, KB.drew, K0.size, Nat.le_trans hB kz⟩
          have kz5 : w.heap.size ≤ w5.heap.size := by rw [← hw5]; exact kz
          rw [hw5]
          clear hw5 v0 v1 K0 KB kz hW
          obtain ⟨v0, v1⟩ := C0.out _ K5
          have hz0 := block_lt_of_cell v0
          have HN : Hid (l ++ entW es = (cur ++ lineW (stopT x)) ++ entW (es.drop (k + 1))) := by
            rw [Hid, hX.out, HD.out, entW_stop hwh, List.append_assoc]
          have hL := stopT_len x HI1.out
          have HL6 := Lib.hid hL
          have HL5 : Hid ((lineW (stopT x)).length ≤ 1000000) := by rw [Hid]; omega
          have hix : ∀ W, (Instr.index 109 (.agg W4) (.int .i64 x.wh)).run Tryz.prog W = .ok (.string (bstr (nameB x.wh))) W := fun W => HIX.out x.wh hxt.2.1 hxt.2.2 W
          clear hL
          go_upto_region 7 with fail
          have hX := @Ext.cell w5
          have hzz0 := block_lt_of_cell v0
          refine wp_region_noPanic ?_
          refine NC.wp_region_lastU (fun w' => ∃ x : Ext w5, w' = x.w) 15 (NC.PG.one [0, 2, 3, 4, 5, 6, 8, 9, 10, 11, 12] 1 (NC.PG.one [7] 13 (NC.PG.one [] 14 (NC.PG.fin [])))) (by kernel_rfl) (by kernel_rfl) (by kernel_rfl) (fun _ _ _ _ _ h => h) ⟨⟨_, (brefl w5).drew⟩, rfl⟩ ?_
          refine NC.wpG_one ?_
          simp only [NC.pickOps, List.getElem?_cons_succ, List.getElem?_cons_zero, Option.elim_some]
          repeat (go_big_quiet_step (fail))
          refine wpQuiet_nil ?_
          refine NC.planAct_some (fun K hK => ?_)
          go_simp
          refine (twords_any).mono ?_
          rintro e wA ⟨rfl, hbA⟩
          go_wp2_with fail
          refine hK.out _ _ ⟨⟨_, (bnext (brefl w5).drew hbA)⟩, rfl⟩ ?_
          clear hK K
          refine NC.wpG_one ?_
          simp only [NC.pickOps, List.getElem?_cons_succ, List.getElem?_cons_zero, Option.elim_some]
          repeat (go_big_quiet_step (fail))
          refine wpQuiet_nil ?_
          refine NC.planAct_some (fun K hK => ?_)
          go_simp
          refine (itoa_any x.th HI1.out (HV.out.below (K5.trans ((bnext (brefl w5).drew hbA).mono hz5)))).mono ?_
          rintro e wB ⟨rfl, hbB⟩
          go_wp2_with fail
          refine hK.out _ _ ⟨⟨_, (bnext (bnext (brefl w5).drew hbA) hbB)⟩, rfl⟩ ?_
          clear hK K
          refine NC.wpG_one ?_
          simp only [NC.pickOps, List.getElem?_cons_succ, List.getElem?_cons_zero, Option.elim_some]
          repeat (go_big_quiet_step (fail))
          refine wpQuiet_nil ?_
          refine NC.planAct_some (fun K hK => ?_)
          go_simp
          refine hK.out _ _ (ext_mem (bnew (bnext (bnext (brefl w5).drew hbA) hbB) _)) ?_
          clear hK K
          obtain ⟨W3, hW3, kb3, sl3⟩ : ∃ W3, wB.alloc (.cells #[.string (bstr (nameB x.wh)), .string (bstr (Lib.itoa x.th))] 9) = W3 ∧ Below w5.heap.size w5 W3 ∧ Sl swc W3 (some ⟨wB.heap.size, 0, none⟩) 2 2 (stopT x) := ⟨_, rfl, bnew (bnext (bnext (brefl w5).drew hbA) hbB) _, slsw_own (own_new wB (Nat.le_refl _) (by unfold maxLen; omega) (Nat.le_refl 2) rfl)⟩
          rw [hW3]
          clear hW3
          refine NC.wpG_fin ?_
          simp only [NC.pickOps, List.getElem?_cons_succ, List.getElem?_cons_zero, Option.elim_some]
          repeat (go_big_quiet_step (fail))
          refine wpQuiet_nil ?_
          refine NC.lastG_some (fun K hK => ?_)
          go_simp
          refine (wline_any (ws := stopT x) (hW5.below kb3) sl3 (by omega) (by omega) HL5.out (by have := hcl.out; omega) (Nat.le_trans hB5 kb3.size)).mono ?_
          rintro e w9 ⟨rfl, hW9, hb9, hs9⟩
          go_wp2_with fail
          refine hK.out _ _ ?_
          clear hK K
          refine NoPanic.normal ?_
          clear hX hzz0
          have kb9 := (kb3.mono hB5).trans hb9
          go_wp2_with fail
          go_roundg (gr - 1)
          case measure => omega
          case rel => exact ⟨k + 1, cur ++ lineW (stopT x), by omega, by first | rfl | go_num, hW9, K5.trans (kb9.mono hWB), KB5.trans kb9, by have := kb3.size; omega, HN.out, by rw [Hid, List.length_append]; have := hcl.out; have := HL6.out; omega⟩
    · have u0 : decide ((k : Int) < (en : Int)) = false := decide_eq_false (by omega)
      obtain rfl : k = en := by omega
      rw [List.drop_eq_nil_of_le (by rw [hlen.out]; omega), entW_nil, List.append_nil] at hX
      go_wp2_with fail
      go_end0
      exact ⟨rfl, by rw [hX.out]; exact hW, KB, kz⟩

end Go.Proofs.YtjjgngccgjpnaaaGreatDoor
