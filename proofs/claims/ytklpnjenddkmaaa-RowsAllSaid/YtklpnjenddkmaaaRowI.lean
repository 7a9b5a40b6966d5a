/- Rows: the document's Put and Drop. -/
import Derived.Test.YtklpnjenddkmaaaRowH
namespace Go.Proofs.Ytklpnjenddkmaaa
set_option linter.unusedVariables false
set_option linter.unusedSimpArgs false
open Go.RowKit

set_option maxHeartbeats 4000000 in
set_option maxRecDepth 100000 in
theorem rput_no {w : World} {A : Option Addr} {n c : Nat} {l : List RV} (h : Sl rvc w A n c l) (hn : n ≤ 1000000) (x : RV) (ht : thr l x.k = true) :
    Calls Try.prog 12 #[.slice A n c, .agg #[.int .i64 x.k, .int .u64 x.a, .int .u64 x.b]] w fun e w' => e = .returned (.tuple #[.slice A n c, .bool false]) ∧ Below w.heap.size w w' := by
  have hcall := rat_any (h.alloc (.cells #[.int .i64 x.k, .int .u64 x.a, .int .u64 x.b] 29)) hn x.k
  rw [ht] at hcall
  go_enter Try.func12, Try.ntmps12
  go_wp2_with (go_at_call 16; refine hcall.mono ?_; rintro e w1 ⟨rfl, hb1⟩)
  go_ret2
  exact ⟨rfl, bnext (bnew (brefl w) _) hb1⟩
theorem flat3 (l : List RV) (i : Nat) (x : RV) : (l.flatMap rvc).take (i * 3) ++ rvc x ++ (l.flatMap rvc).drop (i * 3) = (insL l i x).flatMap rvc := (insL_flat l i x).symm
set_option maxHeartbeats 4000000 in
set_option maxRecDepth 100000 in
theorem rput_yes {w : World} {A : Option Addr} {n c : Nat} {l : List RV} (h : Sl rvc w A n c l) (hn : n ≤ 1000000) (x : RV) (ht : thr l x.k = false) :
    Calls Try.prog 12 #[.slice A n c, .agg #[.int .i64 x.k, .int .u64 x.a, .int .u64 x.b]] w fun e w' => ∃ A' c', e = .returned (.tuple #[.slice A' (n + 1) c', .bool true]) ∧ Sl rvc w' A' (n + 1) c' (insL l (idx l x.k) x) ∧ Below w.heap.size w w' := by
  have hcall := rat_any (h.alloc (.cells #[.int .i64 x.k, .int .u64 x.a, .int .u64 x.b] 29)) hn x.k
  obtain ⟨i0, E⟩ := elem_r
  have hlen := h.len
  have hcap := h.cap
  have hil := idx_le x.k l
  rw [hlen] at hil
  rw [ht] at hcall
  obtain ⟨i, hi⟩ : ∃ i, idx l x.k = i := ⟨_, rfl⟩
  rw [hi] at hcall hil
  have HI := Lib.hid hi
  clear hi ht
  go_enter Try.func12, Try.ntmps12
  go_upto_region 4 with (go_at_call 16; refine hcall.mono ?_; rintro e w1 ⟨rfl, hb1⟩)
  have hx1 := (Blk.new w 29 #[.int .i64 x.k, .int .u64 x.a, .int .u64 x.b]).below_ hb1
  have hS := (h.alloc (.cells #[.int .i64 x.k, .int .u64 x.a, .int .u64 x.b] 29)).below hb1
  have kb1 := bnext (bnew (brefl w) _) hb1
  have d0 : w1.cell? ⟨w.heap.size, 0, none⟩ = some (.int .i64 x.k) := hx1.cell 0
  have d1 : w1.cell? ⟨w.heap.size, 1, none⟩ = some (.int .u64 x.a) := hx1.cell 1
  have d2 : w1.cell? ⟨w.heap.size, 2, none⟩ = some (.int .u64 x.b) := hx1.cell 2
  have hq := hx1.lt
  obtain ⟨W1, hW1⟩ : ∃ W1, W1 = w1 := ⟨_, rfl⟩
  subst hW1
  have HT : Hid (((l.flatMap rvc).take (i * 3)).length = i * 3) := by rw [Hid, List.length_take, flat_len rvc_len]; omega
  have HD : Hid (((l.flatMap rvc).drop (i * 3)).length = (n - i) * 3) := by rw [Hid, List.length_drop, flat_len rvc_len]; omega
  have HR1 := Lib.hid (hS.rd.take (i * 3))
  have HR2 : Hid (Rd W1 (if c = i then A else A.map (·.add (i * 3))) ((l.flatMap rvc).drop (i * 3))) := by
    have := (hS.from_ rvc_len hil).rd
    rw [← flat_drop rvc_len] at this
    exact this
  have H1 : Hid (∀ u ∈ (l.flatMap rvc).take (i * 3), u.oneCell' = true) := fun u hu => rvc_one l u (List.mem_of_mem_take hu)
  have H2 : Hid (∀ u ∈ (l.flatMap rvc).drop (i * 3), u.oneCell' = true) := fun u hu => rvc_one l u (List.mem_of_mem_drop hu)
  have HF : Hid ((l.flatMap rvc).take (i * 3) ++ rvc x ++ (l.flatMap rvc).drop (i * 3) = (insL l i x).flatMap rvc) := flat3 l i x
  have hic : i ≤ c := by omega
  clear hcall hb1 h hx1 hS hlen hcap
  generalize (l.flatMap rvc).take (i * 3) = ys1 at *
  generalize (l.flatMap rvc).drop (i * 3) = ys2 at *
  by_cases hci : c = i
  · have HR3 : Hid (Rd W1 A ys2) := by have h0 := HR2.out; rw [if_pos hci] at h0; exact h0
    obtain rfl : i = c := hci.symm
    have tok1 : True := trivial; have tok2 : True := trivial; have tok3 : True := trivial
    go_wp2_with (first
      | (have _t := tok1; at_builtin; refine wpList_fresh (W0 := W1) (ys := ys1) (m := i) E rfl (.tmp 18) (.tmp 21) rfl (bnew (brefl W1) _) rfl (own_empty (brefl W1) rfl) rfl HT.out (HR1.out.alloc _) H1.out (by unfold maxLen; omega) (by omega) ?_; intro A8 c8 w8 own8 hb8 _; have e0 := keep_below d0 hb8; have e1 := keep_below d1 hb8; have e2 := keep_below d2 hb8; have hq8 := block_lt_of_cell e0; clear tok1 _t)
      | (have _t := tok2; at_builtin; refine wpList_onto (W0 := W1) (ys := rvc x) (m := 1) E rfl (.tmp 23) (.tmp 25) rfl (bnew hb8 _) rfl (own8.alloc _) rfl rfl (Rd.new _ _ _ rfl) (by simp [rvc, Value.oneCell']) (by unfold maxLen; omega) (by omega) ?_; intro A9 c9 w9 own9 hb9 _; clear tok2 _t)
      | (have _t := tok3; at_builtin; refine wpList_onto (W0 := W1) (ys := ys2) (m := n - i) E rfl (.tmp 27) (.tmp 30) rfl hb9 rfl own9 rfl HD.out (HR3.out.below hb9) H2.out (by unfold maxLen; omega) (by omega) ?_; intro A7 c7 w7 own7 hb7 _; clear tok3 _t))
    go_ret2
    have hni : i + 1 + (n - i) = n + 1 := by omega
    rw [hni] at own7 ⊢
    exact ⟨A7, c7, rfl, by rw [HI.out]; exact Sl.of_own rvc_len (by decide) (by rw [← HF.out]; exact own7), bnext kb1 hb7⟩
  · have HR3 : Hid (Rd W1 (A.map (·.add (i * 3))) ys2) := by have h0 := HR2.out; rw [if_neg hci] at h0; exact h0
    have tok1 : True := trivial; have tok2 : True := trivial; have tok3 : True := trivial
    go_wp2_with (first
      | (have _t := tok1; at_builtin; refine wpList_fresh (W0 := W1) (ys := ys1) (m := i) E rfl (.tmp 18) (.tmp 21) rfl (bnew (brefl W1) _) rfl (own_empty (brefl W1) rfl) rfl HT.out (HR1.out.alloc _) H1.out (by unfold maxLen; omega) (by omega) ?_; intro A8 c8 w8 own8 hb8 _; have e0 := keep_below d0 hb8; have e1 := keep_below d1 hb8; have e2 := keep_below d2 hb8; have hq8 := block_lt_of_cell e0; clear tok1 _t)
      | (have _t := tok2; at_builtin; refine wpList_onto (W0 := W1) (ys := rvc x) (m := 1) E rfl (.tmp 23) (.tmp 25) rfl (bnew hb8 _) rfl (own8.alloc _) rfl rfl (Rd.new _ _ _ rfl) (by simp [rvc, Value.oneCell']) (by unfold maxLen; omega) (by omega) ?_; intro A9 c9 w9 own9 hb9 _; clear tok2 _t)
      | (have _t := tok3; at_builtin; refine wpList_onto (W0 := W1) (ys := ys2) (m := n - i) E rfl (.tmp 27) (.tmp 30) rfl hb9 rfl own9 rfl HD.out (HR3.out.below hb9) H2.out (by unfold maxLen; omega) (by omega) ?_; intro A7 c7 w7 own7 hb7 _; clear tok3 _t))
    go_ret2
    have hni : i + 1 + (n - i) = n + 1 := by omega
    rw [hni] at own7 ⊢
    exact ⟨A7, c7, rfl, by rw [HI.out]; exact Sl.of_own rvc_len (by decide) (by rw [← HF.out]; exact own7), bnext kb1 hb7⟩
theorem rput_any {w : World} {A : Option Addr} {n c : Nat} {l : List RV} (h : Sl rvc w A n c l) (hn : n ≤ 1000000) (x : RV) :
    Calls Try.prog 12 #[.slice A n c, .agg #[.int .i64 x.k, .int .u64 x.a, .int .u64 x.b]] w fun e w' => ∃ A' n' c', e = .returned (.tuple #[.slice A' n' c', .bool (!thr l x.k)]) ∧ Sl rvc w' A' n' c' (putL l x) ∧ n' ≤ n + 1 ∧ Below w.heap.size w w' := by
  unfold putL
  cases ht : thr l x.k with
  | true => exact (rput_no h hn x ht).mono fun e w' ⟨h1, h2⟩ => ⟨A, n, c, h1, by simpa using h.below h2, by omega, h2⟩
  | false => exact (rput_yes h hn x ht).mono fun e w' ⟨A', c', h1, h2, h3⟩ => ⟨A', n + 1, c', h1, by simpa using h2, by omega, h3⟩

set_option maxHeartbeats 4000000 in
set_option maxRecDepth 100000 in
theorem rdrop_no {w : World} {A : Option Addr} {n c : Nat} {l : List RV} (h : Sl rvc w A n c l) (hn : n ≤ 1000000) (key : Int) (ht : thr l key = false) :
    Calls Try.prog 14 #[.slice A n c, .int .i64 key] w fun e w' => e = .returned (.tuple #[.slice A n c, .agg #[.int .i64 0, .int .u64 0, .int .u64 0], .bool false]) ∧ Below w.heap.size w w' := by
  have hcall := rat_any (h.alloc (.cells #[.int .i64 0, .int .u64 0, .int .u64 0] 29)) hn key
  rw [ht] at hcall
  go_enter Try.func14, Try.ntmps14
  go_wp2_with (go_at_call 16; refine hcall.mono ?_; rintro e w1 ⟨rfl, hb1⟩; have hx1 := (Blk.new w 29 #[.int .i64 0, .int .u64 0, .int .u64 0]).below_ hb1; have d0 : w1.cell? ⟨w.heap.size, 0, none⟩ = some (.int .i64 0) := hx1.cell 0; have d1 : w1.cell? ⟨w.heap.size, 1, none⟩ = some (.int .u64 0) := hx1.cell 1; have d2 : w1.cell? ⟨w.heap.size, 2, none⟩ = some (.int .u64 0) := hx1.cell 2; have g0 := hx1.frozen 0; have g1 := hx1.frozen 1; have g2 := hx1.frozen 2; have hq := hx1.lt)
  refine bodyPost_ret (v := .tuple #[.slice A n c, .agg #[.int .i64 0, .int .u64 0, .int .u64 0], .bool false]) (by simp [results, Try.results14, go_sem, d0, d1, d2, hq]) rfl ⟨rfl, bset (bset (bset (bnext (bnew (brefl w) _) hb1) (Nat.le_refl _) _) (Nat.le_refl _) _) (Nat.le_refl _) _⟩
structure ExtH (q B : Nat) (W : World) where
  w : World
  k : Keeps (fun b => b = q ∨ B ≤ b) W w
instance instNonemptyExtH (q B : Nat) (W : World) : Nonempty (ExtH q B W) := ⟨⟨W, Keeps.refl _ W⟩⟩
theorem ExtH.cell {q B : Nat} {W : World} (x : ExtH q B W) (b o : Nat) (h : b < W.heap.size) (h1 : b ≠ q) (h2 : b < B) : x.w.cell? ⟨b, o, none⟩ = W.cell? ⟨b, o, none⟩ := World.cell?_of_block (w := W) (x.k.block b h (fun q => by rcases q with q | q <;> omega))
theorem exth_mem {q B : Nat} {W w' : World} (h : Keeps (fun b => b = q ∨ B ≤ b) W w') : ∃ x : ExtH q B W, w' = x.w := ⟨⟨w', h⟩, rfl⟩
set_option maxHeartbeats 4000000 in
set_option maxRecDepth 100000 in
theorem rdrop_yes {w : World} {A : Option Addr} {n c : Nat} {l : List RV} (h : Sl rvc w A n c l) (hn : n ≤ 1000000) (key : Int) (ht : thr l key = true) {r : RV} (hr : l[idx l key]? = some r) :
    Calls Try.prog 14 #[.slice A n c, .int .i64 key] w fun e w' => ∃ A' c', e = .returned (.tuple #[.slice A' (n - 1) c', .agg #[.int .i64 r.k, .int .u64 r.a, .int .u64 r.b], .bool true]) ∧ Sl rvc w' A' (n - 1) c' (delL l (idx l key)) ∧ Below w.heap.size w w' := by
  have hcall := rat_any (h.alloc (.cells #[.int .i64 0, .int .u64 0, .int .u64 0] 29)) hn key
  obtain ⟨i0, E⟩ := elem_r
  have hlen := h.len
  have hcap := h.cap
  have hin := (List.getElem?_eq_some_iff.1 hr).1
  rw [hlen] at hin
  rw [ht] at hcall
  obtain ⟨i, hi⟩ : ∃ i, idx l key = i := ⟨_, rfl⟩
  rw [hi] at hcall hin hr
  have HI := Lib.hid hi
  have hAq : ∀ ad, A = some ad → ad.block < w.heap.size := h.rd.lt (by intro e; have := congrArg List.length e; rw [flat_len rvc_len] at this; simp at this; omega)
  clear hi ht
  go_enter Try.func14, Try.ntmps14
  go_upto_region 4 with (go_at_call 16; refine hcall.mono ?_; rintro e w1 ⟨rfl, hb1⟩)
  have hx1 := (Blk.new w 29 #[.int .i64 0, .int .u64 0, .int .u64 0]).below_ hb1
  have hS := (h.alloc (.cells #[.int .i64 0, .int .u64 0, .int .u64 0] 29)).below hb1
  have kb1 := bnext (bnew (brefl w) _) hb1
  have d0 : w1.cell? ⟨w.heap.size, 0, none⟩ = some (.int .i64 0) := hx1.cell 0
  have d1 : w1.cell? ⟨w.heap.size, 1, none⟩ = some (.int .u64 0) := hx1.cell 1
  have d2 : w1.cell? ⟨w.heap.size, 2, none⟩ = some (.int .u64 0) := hx1.cell 2
  have g0 := hx1.frozen 0
  have g1 := hx1.frozen 1
  have g2 := hx1.frozen 2
  have hq := hx1.lt
  obtain ⟨W1, hW1⟩ : ∃ W1, W1 = w1 := ⟨_, rfl⟩
  subst hW1
  have HT : Hid (((l.flatMap rvc).take (i * 3)).length = i * 3) := by rw [Hid, List.length_take, flat_len rvc_len]; omega
  have HD : Hid (((l.flatMap rvc).drop ((i + 1) * 3)).length = (n - (i + 1)) * 3) := by rw [Hid, List.length_drop, flat_len rvc_len]; omega
  have HR1 := Lib.hid (hS.rd.take (i * 3))
  have HR2 : Hid (Rd W1 (if c = i + 1 then A else A.map (·.add ((i + 1) * 3))) ((l.flatMap rvc).drop ((i + 1) * 3))) := by
    have := (hS.from_ rvc_len hin).rd
    rw [← flat_drop rvc_len] at this
    exact this
  have H1 : Hid (∀ u ∈ (l.flatMap rvc).take (i * 3), u.oneCell' = true) := fun u hu => rvc_one l u (List.mem_of_mem_take hu)
  have H2 : Hid (∀ u ∈ (l.flatMap rvc).drop ((i + 1) * 3), u.oneCell' = true) := fun u hu => rvc_one l u (List.mem_of_mem_drop hu)
  have HF : Hid ((l.flatMap rvc).take (i * 3) ++ (l.flatMap rvc).drop ((i + 1) * 3) = (delL l i).flatMap rvc) := (delL_flat l i).symm
  obtain ⟨b, o, rfl, _, hc⟩ := hS.base rvc_len (by decide) (by omega)
  have hbq : b ≠ w.heap.size := by have := hAq _ rfl; dsimp only at this; omega
  have s0 : W1.cell? ⟨b, o + i * 3, none⟩ = some (.int .i64 r.k) := by have h0 := hc i r 0 _ hr rfl; simpa using h0
  have s1 : W1.cell? ⟨b, o + i * 3 + 1, none⟩ = some (.int .u64 r.a) := by have h0 := hc i r 1 _ hr rfl; simpa [Nat.add_assoc] using h0
  have s2 : W1.cell? ⟨b, o + i * 3 + 2, none⟩ = some (.int .u64 r.b) := by have h0 := hc i r 2 _ hr rfl; simpa [Nat.add_assoc] using h0
  have hbz := block_lt_of_cell s0
  have b0 : (0 : Int) ≤ (i : Int) := by omega
  have b1 : (i : Int) < (n : Int) := by omega
  have b2 : (i : Int) + 1 ≤ (n : Int) := by omega
  have b3 : i + 1 ≤ n := by omega
  have b4 : (0 : Int) ≤ (i : Int) + 1 := by omega
  have b5 : ((i : Int) + 1).toNat = i + 1 := by omega
  have hic : i ≤ c := by omega
  have hin' : i ≤ n := by omega
  have hw1 : IntKind.i64.wrap ((i : Int) + 1) = (i : Int) + 1 := by rw [IntKind.wrap_i64]; omega
  clear hcall hb1 h hx1 hc hr hAq hS hlen hcap
  generalize (l.flatMap rvc).take (i * 3) = ys1 at *
  generalize (l.flatMap rvc).drop ((i + 1) * 3) = ys2 at *
  by_cases hci : c = i + 1
  · have HR3 : Hid (Rd W1 (some ⟨b, o, none⟩) ys2) := by have h0 := HR2.out; rw [if_pos hci] at h0; exact h0
    clear HR2
    subst hci
    go_upto_region 5 with (at_builtin; refine wpList_fresh (W0 := W1) (ys := ys1) (m := i) E rfl (.tmp 20) (.tmp 23) rfl (bnew (brefl W1) _) rfl (own_empty (brefl W1) rfl) rfl HT.out (HR1.out.alloc _) H1.out (by unfold maxLen; omega) (by omega) ?_; intro A8 c8 w8 own8 hb8 _)
    have t0 := keep_below s0 hb8
    have t1 := keep_below s1 hb8
    have t2 := keep_below s2 hb8
    have hX := @ExtH.cell w.heap.size (W1.heap.size) w8
    have hzz0 := block_lt_of_cell t0
    have hzz1 := block_lt_of_cell d0
    refine wp_region_noPanic ?_
    refine wp_region_tree (fun w' => ∃ x : ExtH w.heap.size (W1.heap.size) w8, w' = x.w) (PT.one [0, 1, 2, 3, 4, 6, 7, 8, 9] 5 (PT.one [10] 11 (PT.fin [12]))) (by kernel_rfl) (by kernel_rfl) (by kernel_rfl) (fun _ _ _ _ _ h => h) ⟨⟨_, (Keeps.refl _ w8).drew⟩, rfl⟩ ?_
    refine wpTree_one ?_
    simp only [pickOps, List.getElem?_cons_succ, List.getElem?_cons_zero, Option.elim_some]
    repeat (go_big_quiet_step (fail))
    refine wpQuiet_nil ?_
    refine planAct_some (fun K hK => ?_)
    refine step_onto (W0 := W1) (ys := ys2) (m := n - (i + 1)) E rfl (.tmp 25) (.tmp 29) rfl hb8.drew rfl (own_drew own8) rfl HD.out (Rd.drew (HR3.out.below hb8)) H2.out (by unfold maxLen; omega) (by omega) ?_
    intro A7 c7 w7 own7 hb7 hg7
    have e0 := keep_below d0 hb7
    have e1 := keep_below d1 hb7
    have e2 := keep_below d2 hb7
    have f0 := keep_frozen g0 hq hb7
    have f1 := keep_frozen g1 hq hb7
    have f2 := keep_frozen g2 hq hb7
    have hq3 := block_lt_of_cell e0
    go_simp
    refine hK.out _ _ (exth_mem ((Keeps.refl _ w8).drew.grown hg7 (fun k q1 _ => .inr (own_ge own8 k q1)))) ?_
    clear hK K
    refine wpTree_one ?_
    simp only [pickOps, List.getElem?_cons_succ, List.getElem?_cons_zero, Option.elim_some]
    repeat (go_big_quiet_step (fail))
    refine wpQuiet_nil ?_
    refine planAct_some (fun K hK => ?_)
    go_simp
    refine hK.out _ _ (exth_mem (((((Keeps.refl _ w8).drew.grown hg7 (fun k q1 _ => .inr (own_ge own8 k q1))).setCell (fun _ => .inl rfl) _).setCell (fun _ => .inl rfl) _).setCell (fun _ => .inl rfl) _)) ?_
    clear hK K
    refine wpTree_fin ?_
    simp only [pickOps, List.getElem?_cons_succ, List.getElem?_cons_zero, Option.elim_some]
    repeat (go_big_quiet_step (fail))
    refine wpQuiet_nil ?_
    refine NoPanic.normal ?_
    clear hX hzz0 hzz1
    go_wp2_with fail
    have kk : Keeps (fun b => b = w.heap.size) w7 (((w7.setCell ⟨w.heap.size, 0, none⟩ (.int .i64 r.k)).setCell ⟨w.heap.size, 1, none⟩ (.int .u64 r.a)).setCell ⟨w.heap.size, 2, none⟩ (.int .u64 r.b)) := keepq_set (keepq_set (keepq_set (Keeps.refl _ _)))
    have hz3 : W1.heap.size ≤ w7.heap.size := hb7.size
    have hni : i + (n - (i + 1)) = n - 1 := by omega
    have S7 : Sl rvc w7 A7 (i + (n - (i + 1))) c7 (delL l i) := Sl.of_own rvc_len (by decide) (by rw [← HF.out]; exact own7)
    have N7 := fun ad (e : A7 = some ad) => (own_block own7 ad e).2.1
    refine bodyPost_ret (v := .tuple #[.slice A7 (i + (n - (i + 1))) c7, .agg #[.int .i64 r.k, .int .u64 r.a, .int .u64 r.b], .bool true]) (by simp [results, Try.results14, go_sem, e0, e1, e2, hq3]) rfl ⟨A7, c7, by rw [hni], by rw [← hni, HI.out]; exact kk.sl S7 (fun ad e q => by have h4 := N7 ad e; omega), kk.below (bnext kb1 hb7) (by have := kb1.size; omega) (fun y hy _ => by omega)⟩
  · have HR3 : Hid (Rd W1 (some ⟨b, o + (i + 1) * 3, none⟩) ys2) := by have h0 := HR2.out; rw [if_neg hci, Option.map_some, Addr.add_mid] at h0; exact h0
    clear HR2
    go_upto_region 5 with (at_builtin; refine wpList_fresh (W0 := W1) (ys := ys1) (m := i) E rfl (.tmp 20) (.tmp 23) rfl (bnew (brefl W1) _) rfl (own_empty (brefl W1) rfl) rfl HT.out (HR1.out.alloc _) H1.out (by unfold maxLen; omega) (by omega) ?_; intro A8 c8 w8 own8 hb8 _)
    have t0 := keep_below s0 hb8
    have t1 := keep_below s1 hb8
    have t2 := keep_below s2 hb8
    have hX := @ExtH.cell w.heap.size (W1.heap.size) w8
    have hzz0 := block_lt_of_cell t0
    have hzz1 := block_lt_of_cell d0
    refine wp_region_noPanic ?_
    refine wp_region_tree (fun w' => ∃ x : ExtH w.heap.size (W1.heap.size) w8, w' = x.w) (PT.one [0, 1, 2, 3, 4, 6, 7, 8, 9] 5 (PT.one [10] 11 (PT.fin [12]))) (by kernel_rfl) (by kernel_rfl) (by kernel_rfl) (fun _ _ _ _ _ h => h) ⟨⟨_, (Keeps.refl _ w8).drew⟩, rfl⟩ ?_
    refine wpTree_one ?_
    simp only [pickOps, List.getElem?_cons_succ, List.getElem?_cons_zero, Option.elim_some]
    repeat (go_big_quiet_step (fail))
    refine wpQuiet_nil ?_
    refine planAct_some (fun K hK => ?_)
    refine step_onto (W0 := W1) (ys := ys2) (m := n - (i + 1)) E rfl (.tmp 25) (.tmp 29) rfl hb8.drew rfl (own_drew own8) rfl HD.out (Rd.drew (HR3.out.below hb8)) H2.out (by unfold maxLen; omega) (by omega) ?_
    intro A7 c7 w7 own7 hb7 hg7
    have e0 := keep_below d0 hb7
    have e1 := keep_below d1 hb7
    have e2 := keep_below d2 hb7
    have f0 := keep_frozen g0 hq hb7
    have f1 := keep_frozen g1 hq hb7
    have f2 := keep_frozen g2 hq hb7
    have hq3 := block_lt_of_cell e0
    go_simp
    refine hK.out _ _ (exth_mem ((Keeps.refl _ w8).drew.grown hg7 (fun k q1 _ => .inr (own_ge own8 k q1)))) ?_
    clear hK K
    refine wpTree_one ?_
    simp only [pickOps, List.getElem?_cons_succ, List.getElem?_cons_zero, Option.elim_some]
    repeat (go_big_quiet_step (fail))
    refine wpQuiet_nil ?_
    refine planAct_some (fun K hK => ?_)
    go_simp
    refine hK.out _ _ (exth_mem (((((Keeps.refl _ w8).drew.grown hg7 (fun k q1 _ => .inr (own_ge own8 k q1))).setCell (fun _ => .inl rfl) _).setCell (fun _ => .inl rfl) _).setCell (fun _ => .inl rfl) _)) ?_
    clear hK K
    refine wpTree_fin ?_
    simp only [pickOps, List.getElem?_cons_succ, List.getElem?_cons_zero, Option.elim_some]
    repeat (go_big_quiet_step (fail))
    refine wpQuiet_nil ?_
    refine NoPanic.normal ?_
    clear hX hzz0 hzz1
    go_wp2_with fail
    have kk : Keeps (fun b => b = w.heap.size) w7 (((w7.setCell ⟨w.heap.size, 0, none⟩ (.int .i64 r.k)).setCell ⟨w.heap.size, 1, none⟩ (.int .u64 r.a)).setCell ⟨w.heap.size, 2, none⟩ (.int .u64 r.b)) := keepq_set (keepq_set (keepq_set (Keeps.refl _ _)))
    have hz3 : W1.heap.size ≤ w7.heap.size := hb7.size
    have hni : i + (n - (i + 1)) = n - 1 := by omega
    have S7 : Sl rvc w7 A7 (i + (n - (i + 1))) c7 (delL l i) := Sl.of_own rvc_len (by decide) (by rw [← HF.out]; exact own7)
    have N7 := fun ad (e : A7 = some ad) => (own_block own7 ad e).2.1
    refine bodyPost_ret (v := .tuple #[.slice A7 (i + (n - (i + 1))) c7, .agg #[.int .i64 r.k, .int .u64 r.a, .int .u64 r.b], .bool true]) (by simp [results, Try.results14, go_sem, e0, e1, e2, hq3]) rfl ⟨A7, c7, by rw [hni], by rw [← hni, HI.out]; exact kk.sl S7 (fun ad e q => by have h4 := N7 ad e; omega), kk.below (bnext kb1 hb7) (by have := kb1.size; omega) (fun y hy _ => by omega)⟩
end Go.Proofs.Ytklpnjenddkmaaa
