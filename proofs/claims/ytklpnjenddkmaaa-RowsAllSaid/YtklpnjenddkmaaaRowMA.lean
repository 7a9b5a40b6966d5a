/- Rows: all rows from a key on, told one by one. -/
import Derived.Test.YtklpnjenddkmaaaRowL
namespace Go.Proofs.Ytklpnjenddkmaaa
set_option linter.unusedVariables false
set_option linter.unusedSimpArgs false
open Go.RowKit

theorem own_q {w : World} {B : Nat} {e : TypeId} {size n : Nat} {v : Value} {xs : List Value} (h : w.ownsRow B e size v n xs) : ∃ q, B ≤ q ∧ ∀ k, v.ownBlock = some k → k = q := by
  cases hk : v.ownBlock with
  | none => exact ⟨B, Nat.le_refl _, fun k h => by cases h⟩
  | some q => exact ⟨q, own_ge h q hk, fun k h => by cases h; rfl⟩
theorem Sl.keepS {α : Type} {f : α → List Value} {s : Nat} (hf : ∀ x, (f x).length = s) {w w' : World} {A : Option Addr} {n c : Nat} {l : List α} {S : Nat → Prop} (h : Sl f w A n c l) (hk : Keeps S w w') (hA : l ≠ [] → ∀ ad, A = some ad → ad.block < w.heap.size → ¬ S ad.block) (hs : 0 < s) : Sl f w' A n c l := by
  by_cases he : l = []
  · subst he
    exact ⟨h.len, h.cap, Rd.nil _ _, h.nil_⟩
  · refine h.mono (h.rd.keep fun p hp hlt => ?_)
    have hne : l.flatMap f ≠ [] := fun e => by
      have := congrArg List.length e
      rw [flat_len hf] at this
      rcases Nat.mul_eq_zero.1 (by simpa using this) with q | q
      · exact he (List.eq_nil_of_length_eq_zero q)
      · omega
    obtain ⟨ad, ha⟩ := h.rd.ne_nil hne
    have hb := h.rd.lt hne ad ha
    have := hA he ad ha hb
    rw [← hp ad ha] at this
    exact World.cell?_of_block (w := w) (hk.block p.block hlt this)
theorem sl_lt {w : World} {A : Option Addr} {n c : Nat} {l : List RV} (h : Sl rvc w A n c l) : l ≠ [] → ∀ ad, A = some ad → ad.block < w.heap.size := fun hne => h.rd.lt (fun e => by
  have := congrArg List.length e
  rw [flat_len rvc_len] at this
  have := List.length_pos_iff.2 hne
  simp at *
  omega)
set_option maxHeartbeats 4000000 in
set_option maxRecDepth 100000 in
theorem yield_any {w : World} {r : RV} {q11 q10 q7 q5 : Nat} {A : Option Addr} {n c m : Nat} {want : List RV} {x0 x1 : Int} {go : Bool}
    (h11 : Blk w q11 4 #[.bool true]) (h10 : Blk w q10 2 #[.int .i64 m]) (h7 : Blk w q7 22 #[.slice A n c]) (h5 : Blk w q5 23 #[.int .i64 x0, .int .i64 x1]) (hS : Sl rvc w A n c want) (hr : want[m]? = some r) (hn : n ≤ 1000) (hgo : ((m : Int) + 1 != x1) = go) (hA : ∀ ad, A = some ad → ad.block ≠ q11 ∧ ad.block ≠ q10) :
    Calls Try.prog 8 #[.agg #[.int .i64 r.k, .int .u64 r.a, .int .u64 r.b], .pointer (some ⟨q11, 0, none⟩), .pointer (some ⟨q10, 0, none⟩), .pointer (some ⟨q7, 0, none⟩), .pointer (some ⟨q5, 0, none⟩)] w fun e w' => e = .returned (.bool go) ∧ Blk w' q11 4 #[.bool true] ∧ Blk w' q10 2 #[.int .i64 ((m + 1 : Nat))] ∧ Keeps (fun b => b = q11 ∨ b = q10) w w' := by
  have hmn := (List.getElem?_eq_some_iff.1 hr).1
  rw [hS.len] at hmn
  have n1 : q11 ≠ q10 := h11.ne_ h10 (by decide)
  have n2 : q11 ≠ q7 := h11.ne_ h7 (by decide)
  have n3 : q11 ≠ q5 := h11.ne_ h5 (by decide)
  have n4 : q10 ≠ q7 := h10.ne_ h7 (by decide)
  have n5 : q10 ≠ q5 := h10.ne_ h5 (by decide)
  obtain ⟨W1, hW1⟩ : ∃ W1, w.alloc (.cells #[.int .i64 r.k, .int .u64 r.a, .int .u64 r.b] 29) = W1 := ⟨_, rfl⟩
  have hz1 : w.heap.size < W1.heap.size := by rw [← hW1]; simp
  have hx : Blk W1 w.heap.size 29 #[.int .i64 r.k, .int .u64 r.a, .int .u64 r.b] := by rw [← hW1]; exact Blk.new _ _ _
  have m1 : q11 ≠ w.heap.size := Nat.ne_of_lt h11.lt
  have m2 : q10 ≠ w.heap.size := Nat.ne_of_lt h10.lt
  have kw : Keeps (fun b => b = q11 ∨ b = q10) w W1 := by rw [← hW1]; exact (Keeps.refl _ _).alloc _
  have g11 : Blk W1 q11 4 #[.bool true] := by rw [← hW1]; exact h11.alloc _
  have g10 : Blk W1 q10 2 #[.int .i64 m] := by rw [← hW1]; exact h10.alloc _
  have g7 : Blk W1 q7 22 #[.slice A n c] := by rw [← hW1]; exact h7.alloc _
  have g5 : Blk W1 q5 23 #[.int .i64 x0, .int .i64 x1] := by rw [← hW1]; exact h5.alloc _
  have hS := hS.alloc (.cells #[.int .i64 r.k, .int .u64 r.a, .int .u64 r.b] 29)
  rw [hW1] at hS
  obtain ⟨b, o, rfl, _, hc⟩ := hS.base rvc_len (by decide) (by omega)
  obtain ⟨nb1, nb2⟩ := hA _ rfl
  dsimp only at nb1 nb2
  have d0 : W1.cell? ⟨w.heap.size, 0, none⟩ = some (.int .i64 r.k) := hx.cell 0
  have d1 : W1.cell? ⟨w.heap.size, 1, none⟩ = some (.int .u64 r.a) := hx.cell 1
  have d2 : W1.cell? ⟨w.heap.size, 2, none⟩ = some (.int .u64 r.b) := hx.cell 2
  have v11 : W1.cell? ⟨q11, 0, none⟩ = some (.bool true) := g11.cell 0
  have f11 := g11.frozen 0
  have v10 : W1.cell? ⟨q10, 0, none⟩ = some (.int .i64 m) := g10.cell 0
  have f10 := g10.frozen 0
  have v7 : W1.cell? ⟨q7, 0, none⟩ = some (.slice (some ⟨b, o, none⟩) n c) := g7.cell 0
  have v51 : W1.cell? ⟨q5, 1, none⟩ = some (.int .i64 x1) := g5.cell 1
  have c0 : W1.cell? ⟨b, o + m * 3, none⟩ = some (.int .i64 r.k) := by have h0 := hc m r 0 _ hr rfl; simpa using h0
  have c1 : W1.cell? ⟨b, o + m * 3 + 1, none⟩ = some (.int .u64 r.a) := by have h0 := hc m r 1 _ hr rfl; simpa [Nat.add_assoc] using h0
  have c2 : W1.cell? ⟨b, o + m * 3 + 2, none⟩ = some (.int .u64 r.b) := by have h0 := hc m r 2 _ hr rfl; simpa [Nat.add_assoc] using h0
  have z11 := g11.lt
  have z10 := g10.lt
  have z7 := g7.lt
  have z5 := g5.lt
  have b0 : (0 : Int) ≤ (m : Int) := by omega
  have b1 : (m : Int) < (n : Int) := by omega
  have hq := eqR_self r
  have HGO := Lib.hid hgo
  clear h11 h10 h7 h5 hS hr hgo hA hc hx
  go_enter Try.func8, Try.ntmps8
  go_upto_region 1 with (fail)
  have hX := @Ext.cell W1
  have hzz0 := block_lt_of_cell c0
  refine wp_region_noPanic ?_
  refine wp_region_last (fun w' => ∃ x : Ext W1, w' = x.w) 15 (PG.fin [0, 1, 2, 3, 4, 5, 6, 7, 8, 9, 10, 11, 12, 13, 14]) (by kernel_rfl) (by kernel_rfl) (by kernel_rfl) (fun _ _ _ _ _ h => h) ⟨⟨_, (brefl W1).drew⟩, rfl⟩ ?_
  refine wpG_fin ?_
  simp only [pickOps, List.getElem?_cons_succ, List.getElem?_cons_zero, Option.elim_some]
  repeat (go_big_quiet_step (fail))
  refine wpQuiet_nil ?_
  refine lastG_some (fun K hK => ?_)
  go_simp
  refine hK.out _ _ ?_
  clear hK K
  refine NoPanic.normal ?_
  clear hX hzz0
  have hgo := HGO.out
  go_wp2
  go_ret
  have k1 : Keeps (fun b => b = q11 ∨ b = q10) w ((W1.drew.setCell ⟨q11, 0, none⟩ (.bool true)).setCell ⟨q10, 0, none⟩ (.int .i64 ((m : Int) + 1))) := (kw.drew.setCell (p := ⟨q11, 0, none⟩) (fun _ => .inl rfl) _).setCell (p := ⟨q10, 0, none⟩) (fun _ => .inr rfl) _
  refine ⟨rfl, ?_, ?_, k1⟩
  · exact (g11.drew.set_ 0 (.bool true)).far (p := ⟨q10, 0, none⟩) n1 _
  · exact (g10.drew.far (p := ⟨q11, 0, none⟩) n1.symm _).set_ 0 (.int .i64 ((m : Int) + 1))
/-- The rows from a key on. -/
def filR (l : List RV) (x0 : Int) : List RV := l.filter fun r => decide (x0 ≤ r.k)
def cntR (l : List RV) (x0 : Int) (k : Nat) : Nat := (filR (l.take k) x0).length
theorem filR_snoc {l : List RV} {x0 : Int} {k : Nat} {e : RV} (h : l[k]? = some e) : filR (l.take (k + 1)) x0 = filR (l.take k) x0 ++ (if x0 ≤ e.k then [e] else []) := by
  unfold filR
  rw [List.take_add_one, h, Option.toList_some, List.filter_append]
  congr 1
  by_cases hx : x0 ≤ e.k <;> simp [hx]
theorem filR_at {l : List RV} {x0 : Int} {k : Nat} {e : RV} (h : l[k]? = some e) (hx : x0 ≤ e.k) : (filR l x0)[cntR l x0 k]? = some e := by
  have h1 := filR_snoc (x0 := x0) h
  rw [if_pos hx] at h1
  have h2 : filR l x0 = filR (l.take (k + 1)) x0 ++ filR (l.drop (k + 1)) x0 := by
    unfold filR
    rw [← List.filter_append, List.take_append_drop]
  rw [h2, h1, List.append_assoc]
  unfold cntR
  rw [List.getElem?_append_right (Nat.le_refl _), Nat.sub_self]
  rfl
theorem cntR_yes {l : List RV} {x0 : Int} {k : Nat} {e : RV} (h : l[k]? = some e) (hx : x0 ≤ e.k) : cntR l x0 (k + 1) = cntR l x0 k + 1 := by
  unfold cntR
  rw [filR_snoc h, if_pos hx, List.length_append]
  rfl
theorem cntR_no {l : List RV} {x0 : Int} {k : Nat} {e : RV} (h : l[k]? = some e) (hx : ¬ x0 ≤ e.k) : cntR l x0 (k + 1) = cntR l x0 k := by
  unfold cntR
  rw [filR_snoc h, if_neg hx, List.append_nil]
theorem cntR_le (l : List RV) (x0 : Int) (k : Nat) : cntR l x0 k ≤ k := by
  unfold cntR filR
  exact Nat.le_trans (List.length_filter_le _ _) (List.length_take_le _ _)
def finR (nw x1 : Int) : Int := if 0 < x1 ∧ x1 < nw then x1 else nw
theorem finR_all {nw x1 : Int} (h : ¬ (0 < x1 ∧ x1 ≤ nw)) : finR nw x1 = nw := by unfold finR; rw [if_neg (by omega)]
theorem finR_stop {nw x1 : Int} (h0 : 0 < x1) (h : x1 ≤ nw) : finR nw x1 = x1 := by
  unfold finR
  by_cases h2 : x1 < nw
  · rw [if_pos ⟨h0, h2⟩]
  · rw [if_neg (by omega)]
    omega
set_option maxHeartbeats 4000000 in
set_option maxRecDepth 100000 in
theorem all_any {w : World} (A : Option Addr) (n c : Nat) (x0 : Int) : Calls Try.prog 7 #[.slice A n c, .int .i64 x0] w fun e w' => e = .returned (.func (.func 18) #[] #[.pointer (some ⟨w.heap.size, 0, none⟩), .pointer (some ⟨w.heap.size + 1, 0, none⟩)]) ∧ w' = (w.alloc (.cells #[.slice A n c] 22)).alloc (.cells #[.int .i64 x0] 2) := by
  go_enter Try.func7, Try.ntmps7
  go_wp2
  go_ret
  exact ⟨rfl, rfl⟩
set_option maxHeartbeats 4000000 in
set_option maxRecDepth 100000 in
theorem all1_any {w : World} {ql qf q11 q10 q7 q5 : Nat} {A A' : Option Addr} {n c n' c' : Nat} {l : List RV} {x0 x1 : Int}
    (hl : Sl rvc w A n c l) (hn : n ≤ 200) (bl : Blk w ql 22 #[.slice A n c]) (bf : Blk w qf 2 #[.int .i64 x0]) (hqf : qf ≠ q10)
    (h11 : Blk w q11 4 #[.bool true]) (h10 : Blk w q10 2 #[.int .i64 0]) (h7 : Blk w q7 22 #[.slice A' n' c']) (h5 : Blk w q5 23 #[.int .i64 x0, .int .i64 x1]) (hw : Sl rvc w A' n' c' (filR l x0)) (hA : l ≠ [] → ∀ ad, A = some ad → ad.block ≠ q11 ∧ ad.block ≠ q10) (hA' : ∀ ad, A' = some ad → ad.block ≠ q11 ∧ ad.block ≠ q10) :
    Calls Try.prog 18 #[(.func (.func 8) #[] #[.pointer (some ⟨q11, 0, none⟩), .pointer (some ⟨q10, 0, none⟩), .pointer (some ⟨q7, 0, none⟩), .pointer (some ⟨q5, 0, none⟩)]), .pointer (some ⟨ql, 0, none⟩), .pointer (some ⟨qf, 0, none⟩)] w fun e w' => e = .returned (.tuple #[]) ∧ Blk w' q11 4 #[.bool true] ∧ Blk w' q10 2 #[.int .i64 (finR n' x1)] ∧ Keeps (fun b => b = q11 ∨ b = q10) w w' := by
  have hlen := hl.len
  have n1 : q11 ≠ q10 := h11.ne_ h10 (by decide)
  have n2 : q11 ≠ ql := h11.ne_ bl (by decide)
  have n3 : q11 ≠ qf := h11.ne_ bf (by decide)
  have n4 : q10 ≠ ql := h10.ne_ bl (by decide)
  have n5 : q11 ≠ q7 := h11.ne_ h7 (by decide)
  have n6 : q10 ≠ q7 := h10.ne_ h7 (by decide)
  have n7 : q11 ≠ q5 := h11.ne_ h5 (by decide)
  have n8 : q10 ≠ q5 := h10.ne_ h5 (by decide)
  have hx0 : w.cell? ⟨ql, 0, none⟩ = some (.slice A n c) := bl.cell 0
  have hnw := hw.len
  have hcl := cntR_le l x0 n
  have hcn : cntR l x0 n = n' := by rw [← hnw]; unfold cntR; rw [List.take_of_length_le (by omega)]
  go_enter Try.func18, Try.ntmps18
  go_wp2_with fail
  clear hx0
  go_loopg [8] n (fun gk i wr => ∃ k : Nat, k + gk = n ∧ i = .int .i64 k ∧ Blk wr q11 4 #[.bool true] ∧ Blk wr q10 2 #[.int .i64 (cntR l x0 k : Nat)] ∧ Hid (¬ (0 < x1 ∧ x1 ≤ (cntR l x0 k : Nat))) ∧ Keeps (fun b => b = q11 ∨ b = q10) w wr)
  case atStart => exact ⟨0, by omega, rfl, h11, h10, fun h => by have := cntR_le l x0 0; omega, Keeps.refl _ _⟩
  case round =>
    obtain ⟨k, hk, rfl, g11, g10, hst, kk⟩ := hrel
    by_cases hlt : k < n
    · obtain ⟨e, he⟩ : ∃ e, l[k]? = some e := ⟨l[k]'(by omega), List.getElem?_eq_getElem (i := k) _⟩
      have S := hl.keepS rvc_len kk (fun hne ad e _ q => by have := hA hne ad e; omega) (by decide)
      obtain ⟨b, o, rfl, _, hc⟩ := S.base rvc_len (by decide) (by omega)
      have c0 : wr.cell? ⟨b, o + k * 3, none⟩ = some (.int .i64 e.k) := by have h0 := hc k e 0 _ he rfl; simpa using h0
      have c1 : wr.cell? ⟨b, o + k * 3 + 1, none⟩ = some (.int .u64 e.a) := by have h0 := hc k e 1 _ he rfl; simpa [Nat.add_assoc] using h0
      have c2 : wr.cell? ⟨b, o + k * 3 + 2, none⟩ = some (.int .u64 e.b) := by have h0 := hc k e 2 _ he rfl; simpa [Nat.add_assoc] using h0
      have b0 : (0 : Int) ≤ (k : Int) := by omega
      have b1 : (k : Int) < (n : Int) := by omega
      clear hc S
      go_upto_region 3 with (fail)
      obtain ⟨W1, hW1, hE1, k1⟩ : ∃ W1, wr.alloc (.cells #[.int .i64 e.k, .int .u64 e.a, .int .u64 e.b] 29) = W1 ∧ Blk W1 wr.heap.size 29 #[.int .i64 e.k, .int .u64 e.a, .int .u64 e.b] ∧ Keeps (fun b => b = q11 ∨ b = q10) w W1 := ⟨_, rfl, Blk.new _ _ _, kk.alloc _⟩
      have g11 : Blk W1 q11 4 #[.bool true] := by rw [← hW1]; exact g11.alloc _
      have g10 : Blk W1 q10 2 #[.int .i64 (cntR l x0 k : Nat)] := by rw [← hW1]; exact g10.alloc _
      rw [hW1]
      clear hW1 c0 c1 c2 kk
      generalize wr.heap.size = q at *
      have d0 : W1.cell? ⟨q, 0, none⟩ = some (.int .i64 e.k) := hE1.cell 0
      have d1 : W1.cell? ⟨q, 1, none⟩ = some (.int .u64 e.a) := hE1.cell 1
      have d2 : W1.cell? ⟨q, 2, none⟩ = some (.int .u64 e.b) := hE1.cell 2
      have hqz := hE1.lt
      have bfw := k1.blk bf (by intro h; rcases h with h | h <;> omega)
      have vf : W1.cell? ⟨qf, 0, none⟩ = some (.int .i64 x0) := bfw.cell 0
      have zf := bfw.lt
      by_cases hx : x0 ≤ e.k
      · have HR := Lib.hid (filR_at he hx)
        have HC := Lib.hid (cntR_yes he hx)
        have hcm := cntR_le l x0 k
        have hmn : cntR l x0 k < n' := by have := (List.getElem?_eq_some_iff.1 HR.out).1; omega
        have g7 := k1.blk h7 (by intro h; rcases h with h | h <;> omega)
        have g5 := k1.blk h5 (by intro h; rcases h with h | h <;> omega)
        have Sw := k1.sl hw (fun ad e q => by have := hA' ad e; rcases q with q | q <;> omega)
        by_cases hst2 : ((cntR l x0 k : Nat) : Int) + 1 = x1
        · have hy := yield_any (go := false) g11 g10 g7 g5 Sw HR.out (by omega) (by rw [hst2]; exact bne_self_eq_false _) hA'
          have HF : Hid (finR n' x1 = ((cntR l x0 k + 1 : Nat) : Int)) := by
            rw [Hid, finR_stop (by omega) (by omega)]
            omega
          clear hst2 he HR HC hst hE1 g11 g10 g7 g5 Sw bfw
          generalize cntR l x0 k = m at *
          go_wp2_with (go_at_call 8; refine hy.mono ?_; rintro e1 w2 ⟨rfl, y11, y10, ky⟩)
          refine bodyPost_ret (results_none rfl _ _ _) rfl ?_
          exact ⟨rfl, y11, by rw [HF.out]; exact y10, k1.trans_ ky⟩
        · have hy := yield_any (go := true) g11 g10 g7 g5 Sw HR.out (by omega) (by rw [bne_iff_ne]; exact hst2) hA'
          have HST : Hid (¬ (0 < x1 ∧ x1 ≤ ((cntR l x0 (k + 1) : Nat) : Int))) := fun h => by
            rw [HC.out] at h
            have := hst.out
            omega
          clear hst2 he HR hst hE1 g11 g10 g7 g5 Sw bfw
          have HC2 : Hid (∃ m', cntR l x0 (k + 1) = m' ∧ m' = cntR l x0 k + 1) := ⟨_, rfl, HC.out⟩
          generalize cntR l x0 k = m at *
          go_wp2_with (go_at_call 8; refine hy.mono ?_; rintro e1 w2 ⟨rfl, y11, y10, ky⟩)
          go_roundg (gk - 1)
          case measure => omega
          case rel => exact ⟨k + 1, by omega, by go_num, y11, by rw [HC.out]; exact y10, HST, k1.trans_ ky⟩
      · have HC := Lib.hid (cntR_no he hx)
        have HST : Hid (¬ (0 < x1 ∧ x1 ≤ ((cntR l x0 (k + 1) : Nat) : Int))) := by rw [HC.out]; exact hst
        clear he hst hE1
        go_wp2
        go_roundg (gk - 1)
        case measure => omega
        case rel => exact ⟨k + 1, by omega, by go_num, g11, by rw [HC.out]; exact g10, HST, k1⟩
    · have hge : ¬ ((k : Int) < (n : Int)) := by omega
      obtain rfl : n = k := by omega
      have HF : Hid (finR n' x1 = ((cntR l x0 n : Nat) : Int)) := by
        rw [Hid, finR_all (by have := hst.out; rw [hcn] at this; exact this), hcn]
      go_wp2
      go_end0
      first | exact ⟨rfl, g11, by rw [HF.out]; exact g10, kk⟩ | exact ⟨g11, by rw [HF.out]; exact g10, kk⟩
end Go.Proofs.Ytklpnjenddkmaaa
