/- Rows: a row put in, and taken out. -/
import Derived.Test.YtklpnjenddkmaaaRowC
import Derived.Test.YtklpnjenddkmaaaRowG
namespace Go.Proofs.Ytklpnjenddkmaaa
set_option linter.unusedVariables false
set_option linter.unusedSimpArgs false
open Go.RowKit

theorem delete_own {W0 w : World} {A : Option Addr} {n c i : Nat} {l : List RV} (own : w.ownsRow W0.heap.size 29 3 (.slice A n c) n (l.flatMap rvc)) (hl : l.length = n) (hi : i < n) (hb : Below W0.heap.size W0 w) (hn : n ≤ 1000000) :
    Calls Try.prog 22 #[.slice A n c, .int .i64 i, .int .i64 ((i : Int) + 1)] w fun e w' => ∃ A', e = .returned (.slice A' (n - 1) c) ∧ Sl rvc w' A' (n - 1) c (delL l i) ∧ (∀ ad, A' = some ad → W0.heap.size ≤ ad.block) ∧ Below W0.heap.size W0 w' := by
  rcases own.2 with ⟨hv', h0⟩ | ⟨g, cap, cur, hv', hg, hh, hnc, hm, hs, hx⟩
  · omega
  · cases hv'
    exact (delete_any hg (show Blk w g 29 cur.toList.toArray by rw [Array.toArray_toList]; exact hh) (by simpa using hs) hx hm hl hi hnc hb hn).mono fun e w' ⟨h1, h2, h3⟩ => ⟨_, h1, h2, fun ad e => by cases e; exact hg, h3⟩
set_option maxHeartbeats 4000000 in
set_option maxRecDepth 100000 in
theorem put_no {w : World} {A : Option Addr} {n c : Nat} {l : List RV} (h : Sl rvc w A n c l) (hn : n ≤ 1000000) (x : RV) (ht : thr l x.k = true) :
    Calls Try.prog 11 #[.slice A n c, .agg #[.int .i64 x.k, .int .u64 x.a, .int .u64 x.b]] w fun e w' => e = .returned (.tuple #[.slice A n c, .bool false]) ∧ Below w.heap.size w w' := by
  have hcall := at_any (h.alloc (.cells #[.int .i64 x.k, .int .u64 x.a, .int .u64 x.b] 29)) hn x.k
  rw [ht] at hcall
  go_enter Try.func11, Try.ntmps11
  go_wp2_with (go_at_call 15; refine hcall.mono ?_; rintro e w1 ⟨rfl, hb1⟩)
  go_ret2
  exact ⟨rfl, bnext (bnew (brefl w) _) hb1⟩
set_option maxHeartbeats 4000000 in
set_option maxRecDepth 100000 in
theorem put_yes {w : World} {A : Option Addr} {n c : Nat} {l : List RV} (h : Sl rvc w A n c l) (hn : n ≤ 1000000) (x : RV) (ht : thr l x.k = false) :
    Calls Try.prog 11 #[.slice A n c, .agg #[.int .i64 x.k, .int .u64 x.a, .int .u64 x.b]] w fun e w' => ∃ A' c', e = .returned (.tuple #[.slice A' (n + 1) c', .bool true]) ∧ Sl rvc w' A' (n + 1) c' (insL l (idx l x.k) x) ∧ Below w.heap.size w w' := by
  have hcall := at_any (h.alloc (.cells #[.int .i64 x.k, .int .u64 x.a, .int .u64 x.b] 29)) hn x.k
  have hlen := h.len
  have hil := idx_le x.k l
  rw [hlen] at hil
  rw [ht] at hcall
  obtain ⟨i, hi⟩ : ∃ i, idx l x.k = i := ⟨_, rfl⟩
  rw [hi] at hcall hil
  have HI := Lib.hid hi
  clear hi ht
  go_enter Try.func11, Try.ntmps11
  go_upto_region 4 with (go_at_call 15; refine hcall.mono ?_; rintro e w1 ⟨rfl, hb1⟩)
  have hx1 := (Blk.new w 29 #[.int .i64 x.k, .int .u64 x.a, .int .u64 x.b]).below_ hb1
  have hS := (h.alloc (.cells #[.int .i64 x.k, .int .u64 x.a, .int .u64 x.b] 29)).below hb1
  have kb1 := bnext (bnew (brefl w) _) hb1
  have d0 : w1.cell? ⟨w.heap.size, 0, none⟩ = some (.int .i64 x.k) := hx1.cell 0
  have d1 : w1.cell? ⟨w.heap.size, 1, none⟩ = some (.int .u64 x.a) := hx1.cell 1
  have d2 : w1.cell? ⟨w.heap.size, 2, none⟩ = some (.int .u64 x.b) := hx1.cell 2
  have hq := hx1.lt
  clear hcall hb1 h hx1
  obtain ⟨W1, hW1⟩ : ∃ W1, W1 = w1 := ⟨_, rfl⟩
  subst hW1
  have hX := @Ext.cell W1
  have hzz0 := block_lt_of_cell d0
  refine wp_region_noPanic ?_
  refine wp_region_tree (fun w' => ∃ x : Ext W1, w' = x.w) (PT.two [0, 2, 3] 1 (PT.one [] 4 (PT.one [] 5 (PT.fin [6, 7]))) 4 (PT.one [] 1 (PT.one [] 5 (PT.fin [6, 7])))) (by kernel_rfl) (by kernel_rfl) (by kernel_rfl) (fun _ _ _ _ _ h => h) ⟨⟨_, (brefl W1).drew⟩, rfl⟩ ?_
  refine wpTree_two ?_
  simp only [pickOps, List.getElem?_cons_succ, List.getElem?_cons_zero, Option.elim_some]
  repeat (go_big_quiet_step (fail))
  refine wpQuiet_nil ?_
  refine ⟨?_, ?_⟩
  · refine planAct_some (fun K hK => ?_)
    go_simp
    refine (clone_any (hS.below (brefl W1).drew) hn).mono ?_
    rintro e w2 ⟨A2, c2, rfl, own2, hb2⟩
    have hvb := fun ad (e : A2 = some ad) => (own_block own2 ad e).2
    go_wp2_with fail
    refine hK.out _ _ ⟨⟨_, (bnext (brefl W1).drew hb2)⟩, rfl⟩ ?_
    clear hK K
    refine wpTree_one ?_
    simp only [pickOps, List.getElem?_cons_succ, List.getElem?_cons_zero, Option.elim_some]
    repeat (go_big_quiet_step (fail))
    refine wpQuiet_nil ?_
    refine planAct_some (fun K hK => ?_)
    go_simp
    refine hK.out _ _ (ext_mem (bnew (bnext (brefl W1).drew hb2) _)) ?_
    clear hK K
    refine wpTree_one ?_
    simp only [pickOps, List.getElem?_cons_succ, List.getElem?_cons_zero, Option.elim_some]
    repeat (go_big_quiet_step (fail))
    refine wpQuiet_nil ?_
    refine planAct_some (fun K hK => ?_)
    go_simp
    refine (insert_any (W0 := W1.drew) (own2.alloc _) hlen hil (bnew hb2 _) hn (Blk.new w2 29 (rvc x).toArray) (fun ad e => by have := (hvb ad e).2; omega)).mono ?_
    rintro e w3 ⟨A3, c3, rfl, S3, hb3⟩
    go_wp2_with fail
    refine hK.out _ _ ⟨⟨_, (bnext (brefl W1).drew hb3)⟩, rfl⟩ ?_
    clear hK K
    refine wpTree_fin ?_
    simp only [pickOps, List.getElem?_cons_succ, List.getElem?_cons_zero, Option.elim_some]
    repeat (go_big_quiet_step (fail))
    refine wpQuiet_nil ?_
    refine NoPanic.normal ?_
    clear hX hzz0
    go_wp2
    go_ret2
    exact ⟨A3, c3, rfl, by rw [HI.out]; exact S3, bnext kb1 (bnext (brefl W1).drew hb3)⟩
  · refine planAct_some (fun K hK => ?_)
    go_simp
    refine hK.out _ _ (ext_mem (bnew (brefl W1).drew _)) ?_
    clear hK K
    refine wpTree_one ?_
    simp only [pickOps, List.getElem?_cons_succ, List.getElem?_cons_zero, Option.elim_some]
    repeat (go_big_quiet_step (fail))
    refine wpQuiet_nil ?_
    refine planAct_some (fun K hK => ?_)
    go_simp
    refine (clone_any (hS.below (bnew (brefl W1).drew _)) hn).mono ?_
    rintro e w2 ⟨A2, c2, rfl, own2, hb2⟩
    have hvb := fun ad (e : A2 = some ad) => (own_block own2 ad e).2
    have hv2 := (Blk.new W1.drew 29 (rvc x).toArray).below_ hb2
    go_wp2_with fail
    refine hK.out _ _ ⟨⟨_, (bnext (bnew (brefl W1).drew _) hb2)⟩, rfl⟩ ?_
    clear hK K
    refine wpTree_one ?_
    simp only [pickOps, List.getElem?_cons_succ, List.getElem?_cons_zero, Option.elim_some]
    repeat (go_big_quiet_step (fail))
    refine wpQuiet_nil ?_
    refine planAct_some (fun K hK => ?_)
    go_simp
    refine (insert_any (W0 := W1.drew.alloc (.cells #[.int .i64 x.k, .int .u64 x.a, .int .u64 x.b] 29)) own2 hlen hil hb2 hn hv2 (fun ad e => by have h3 := (hvb ad e).1; rw [World.size_alloc] at h3; have h4 : W1.drew.heap.size = W1.heap.size := rfl; omega)).mono ?_
    rintro e w3 ⟨A3, c3, rfl, S3, hb3⟩
    go_wp2_with fail
    refine hK.out _ _ ⟨⟨_, (bnext (bnew (brefl W1).drew _) hb3)⟩, rfl⟩ ?_
    clear hK K
    refine wpTree_fin ?_
    simp only [pickOps, List.getElem?_cons_succ, List.getElem?_cons_zero, Option.elim_some]
    repeat (go_big_quiet_step (fail))
    refine wpQuiet_nil ?_
    refine NoPanic.normal ?_
    clear hX hzz0
    go_wp2
    go_ret2
    exact ⟨A3, c3, rfl, by rw [HI.out]; exact S3, bnext kb1 (bnext (bnew (brefl W1).drew _) hb3)⟩
def putL (l : List RV) (x : RV) : List RV := if thr l x.k = true then l else insL l (idx l x.k) x
theorem put_any {w : World} {A : Option Addr} {n c : Nat} {l : List RV} (h : Sl rvc w A n c l) (hn : n ≤ 1000000) (x : RV) :
    Calls Try.prog 11 #[.slice A n c, .agg #[.int .i64 x.k, .int .u64 x.a, .int .u64 x.b]] w fun e w' => ∃ A' n' c', e = .returned (.tuple #[.slice A' n' c', .bool (!thr l x.k)]) ∧ Sl rvc w' A' n' c' (putL l x) ∧ n' ≤ n + 1 ∧ Below w.heap.size w w' := by
  unfold putL
  cases ht : thr l x.k with
  | true => exact (put_no h hn x ht).mono fun e w' ⟨h1, h2⟩ => ⟨A, n, c, h1, by simpa using h.below h2, by omega, h2⟩
  | false => exact (put_yes h hn x ht).mono fun e w' ⟨A', c', h1, h2, h3⟩ => ⟨A', n + 1, c', h1, by simpa using h2, by omega, h3⟩

set_option maxHeartbeats 4000000 in
set_option maxRecDepth 100000 in
theorem drop_no {w : World} {A : Option Addr} {n c : Nat} {l : List RV} (h : Sl rvc w A n c l) (hn : n ≤ 1000000) (key : Int) (ht : thr l key = false) :
    Calls Try.prog 13 #[.slice A n c, .int .i64 key] w fun e w' => e = .returned (.tuple #[.slice A n c, .agg #[.int .i64 0, .int .u64 0, .int .u64 0], .bool false]) ∧ Below w.heap.size w w' := by
  have hcall := at_any (h.alloc (.cells #[.int .i64 0, .int .u64 0, .int .u64 0] 29)) hn key
  rw [ht] at hcall
  go_enter Try.func13, Try.ntmps13
  go_wp2_with (go_at_call 15; refine hcall.mono ?_; rintro e w1 ⟨rfl, hb1⟩; have hx1 := (Blk.new w 29 #[.int .i64 0, .int .u64 0, .int .u64 0]).below_ hb1; have d0 : w1.cell? ⟨w.heap.size, 0, none⟩ = some (.int .i64 0) := hx1.cell 0; have d1 : w1.cell? ⟨w.heap.size, 1, none⟩ = some (.int .u64 0) := hx1.cell 1; have d2 : w1.cell? ⟨w.heap.size, 2, none⟩ = some (.int .u64 0) := hx1.cell 2; have g0 := hx1.frozen 0; have g1 := hx1.frozen 1; have g2 := hx1.frozen 2; have hq := hx1.lt)
  refine bodyPost_ret (v := .tuple #[.slice A n c, .agg #[.int .i64 0, .int .u64 0, .int .u64 0], .bool false]) (by simp [results, Try.results13, go_sem, d0, d1, d2, hq]) rfl ⟨rfl, bset (bset (bset (bnext (bnew (brefl w) _) hb1) (Nat.le_refl _) _) (Nat.le_refl _) _) (Nat.le_refl _) _⟩
set_option maxHeartbeats 4000000 in
set_option maxRecDepth 100000 in
theorem drop_yes {w : World} {A : Option Addr} {n c : Nat} {l : List RV} (h : Sl rvc w A n c l) (hn : n ≤ 1000000) (key : Int) (ht : thr l key = true) {r : RV} (hr : l[idx l key]? = some r) :
    Calls Try.prog 13 #[.slice A n c, .int .i64 key] w fun e w' => ∃ A' c', e = .returned (.tuple #[.slice A' (n - 1) c', .agg #[.int .i64 r.k, .int .u64 r.a, .int .u64 r.b], .bool true]) ∧ Sl rvc w' A' (n - 1) c' (delL l (idx l key)) ∧ Below w.heap.size w w' := by
  have hcall := at_any (h.alloc (.cells #[.int .i64 0, .int .u64 0, .int .u64 0] 29)) hn key
  have hlen := h.len
  have hin := (List.getElem?_eq_some_iff.1 hr).1
  rw [hlen] at hin
  rw [ht] at hcall
  obtain ⟨i, hi⟩ : ∃ i, idx l key = i := ⟨_, rfl⟩
  rw [hi] at hcall hin hr
  have HI := Lib.hid hi
  have hAq : ∀ ad, A = some ad → ad.block < w.heap.size := h.rd.lt (by intro e; have := congrArg List.length e; rw [flat_len rvc_len] at this; simp at this; omega)
  clear hi ht
  go_enter Try.func13, Try.ntmps13
  go_upto_region 4 with (go_at_call 15; refine hcall.mono ?_; rintro e w1 ⟨rfl, hb1⟩)
  have hx1 := (Blk.new w 29 #[.int .i64 0, .int .u64 0, .int .u64 0]).below_ hb1
  have hS := (h.alloc (.cells #[.int .i64 0, .int .u64 0, .int .u64 0] 29)).below hb1
  have kb1 := bnext (bnew (brefl w) _) hb1
  have d0 : w1.cell? ⟨w.heap.size, 0, none⟩ = some (.int .i64 0) := hx1.cell 0
  have d1 : w1.cell? ⟨w.heap.size, 1, none⟩ = some (.int .u64 0) := hx1.cell 1
  have d2 : w1.cell? ⟨w.heap.size, 2, none⟩ = some (.int .u64 0) := hx1.cell 2
  have g0 := hx1.frozen 0
  have g1 := hx1.frozen 1
  have g2 := hx1.frozen 2
  have hq := hx1.lt
  obtain ⟨b, o, rfl, _, hc⟩ := hS.base rvc_len (by decide) (by omega)
  have hbq : b ≠ w.heap.size := by have := hAq _ rfl; dsimp only at this; omega
  have r0 : w1.cell? ⟨b, o + i * 3, none⟩ = some (.int .i64 r.k) := by have h0 := hc i r 0 _ hr rfl; simpa using h0
  have r1 : w1.cell? ⟨b, o + i * 3 + 1, none⟩ = some (.int .u64 r.a) := by have h0 := hc i r 1 _ hr rfl; simpa [Nat.add_assoc] using h0
  have r2 : w1.cell? ⟨b, o + i * 3 + 2, none⟩ = some (.int .u64 r.b) := by have h0 := hc i r 2 _ hr rfl; simpa [Nat.add_assoc] using h0
  have b0 : (0 : Int) ≤ (i : Int) := by omega
  have b1 : (i : Int) < (n : Int) := by omega
  have hw1 : IntKind.i64.wrap ((i : Int) + 1) = (i : Int) + 1 := by rw [IntKind.wrap_i64]; omega
  clear hcall hb1 h hx1 hc hr hAq
  obtain ⟨W1, hW1⟩ : ∃ W1, W1 = w1 := ⟨_, rfl⟩
  subst hW1
  have hX := @ExtK.cell (w.heap.size) W1
  have hzz0 := block_lt_of_cell d0
  have hzz1 := block_lt_of_cell r0
  refine wp_region_noPanic ?_
  refine wp_region_tree (fun w' => ∃ x : ExtK (w.heap.size) W1, w' = x.w) (PT.one [0, 2, 3, 4, 6, 7, 8, 9] 1 (PT.one [] 5 (PT.one [10] 11 (PT.fin [12])))) (by kernel_rfl) (by kernel_rfl) (by kernel_rfl) (fun _ _ _ _ _ h => h) ⟨⟨_, (Keeps.refl _ W1).drew⟩, rfl⟩ ?_
  refine wpTree_one ?_
  simp only [pickOps, List.getElem?_cons_succ, List.getElem?_cons_zero, Option.elim_some]
  repeat (go_big_quiet_step (fail))
  refine wpQuiet_nil ?_
  refine planAct_some (fun K hK => ?_)
  go_simp
  refine (clone_any hS.drew hn).mono ?_
  rintro e w2 ⟨A2, c2, rfl, own2, hb2⟩
  go_wp2_with fail
  refine hK.out _ _ ⟨⟨_, (Keeps.of_below (of_drew hb2))⟩, rfl⟩ ?_
  clear hK K
  refine wpTree_one ?_
  simp only [pickOps, List.getElem?_cons_succ, List.getElem?_cons_zero, Option.elim_some]
  repeat (go_big_quiet_step (fail))
  refine wpQuiet_nil ?_
  refine planAct_some (fun K hK => ?_)
  go_simp
  refine (delete_own (W0 := W1.drew) own2 hlen hin hb2 hn).mono ?_
  rintro e w3 ⟨A3, rfl, S3, N3, hb3⟩
  have kw3 := of_drew hb3
  have e0 := keep_below d0 kw3
  have e1 := keep_below d1 kw3
  have e2 := keep_below d2 kw3
  have f0 := keep_frozen g0 hq kw3
  have f1 := keep_frozen g1 hq kw3
  have f2 := keep_frozen g2 hq kw3
  have hq3 := block_lt_of_cell e0
  go_wp2_with fail
  refine hK.out _ _ ⟨⟨_, (Keeps.of_below (of_drew hb3))⟩, rfl⟩ ?_
  clear hK K
  refine wpTree_one ?_
  simp only [pickOps, List.getElem?_cons_succ, List.getElem?_cons_zero, Option.elim_some]
  repeat (go_big_quiet_step (fail))
  refine wpQuiet_nil ?_
  refine planAct_some (fun K hK => ?_)
  go_simp
  refine hK.out _ _ (extk_mem (by repeat (first | (with_reducible exact (Keeps.of_below (of_drew hb3))) | (with_reducible exact Keeps.refl _ _) | (with_reducible refine keepq_set ?_) | (with_reducible refine keepq_drew ?_)))) ?_
  clear hK K
  refine wpTree_fin ?_
  simp only [pickOps, List.getElem?_cons_succ, List.getElem?_cons_zero, Option.elim_some]
  repeat (go_big_quiet_step (fail))
  refine wpQuiet_nil ?_
  refine NoPanic.normal ?_
  clear hX hzz0 hzz1
  go_wp2_with fail
  have kk : Keeps (fun b => b = w.heap.size) w3 (((w3.setCell ⟨w.heap.size, 0, none⟩ (.int .i64 r.k)).setCell ⟨w.heap.size, 1, none⟩ (.int .u64 r.a)).setCell ⟨w.heap.size, 2, none⟩ (.int .u64 r.b)) := keepq_set (keepq_set (keepq_set (Keeps.refl _ _)))
  have hz3 : W1.heap.size ≤ w3.heap.size := kw3.size
  refine bodyPost_ret (v := .tuple #[.slice A3 (n - 1) c2, .agg #[.int .i64 r.k, .int .u64 r.a, .int .u64 r.b], .bool true]) (by simp [results, Try.results13, go_sem, e0, e1, e2, hq3]) rfl ⟨A3, c2, rfl, by rw [HI.out]; exact kk.sl S3 (fun ad e q => by have h4 := N3 ad e; have h5 : W1.drew.heap.size = W1.heap.size := rfl; omega), kk.below (bnext kb1 kw3) (by have := kb1.size; omega) (fun y hy _ => by omega)⟩
end Go.Proofs.Ytklpnjenddkmaaa
