/- Rows: the law RowsAll. -/
import Derived.Test.YtklpnjenddkmaaaRowMA
namespace Go.Proofs.Ytklpnjenddkmaaa
set_option linter.unusedVariables false
set_option linter.unusedSimpArgs false
open Go.RowKit

/-- The state of the gathering: what has been gathered, in a row of its own; the box q holds it. -/
structure Wst (W4 : World) (q : Nat) (out : List RV) (A' : Option Addr) (m c' : Nat) (W : World) : Prop where
  own : W.ownsRow W4.heap.size 29 3 (.slice A' m c') m (out.flatMap rvc)
  b : Blk W q 22 #[.slice A' m c']
  kk : Keeps (fun b => b = q ∨ W4.heap.size ≤ b) W4 W
section
variable {W4 W w8 : World} {q : Nat} {out : List RV} {A' A8 : Option Addr} {m c' c8 : Nat}
theorem Wst.alloc (h : Wst W4 q out A' m c' W) (o : Obj) : Wst W4 q out A' m c' (W.alloc o) := ⟨h.own.alloc _, h.b.alloc _, h.kk.alloc _⟩
theorem Wst.drew (h : Wst W4 q out A' m c' W) : Wst W4 q out A' m c' W.drew := ⟨h.own, h.b.drew, h.kk.drew⟩
theorem Wst.drewN (h : Wst W4 q out A' m c' W) (k : Nat) : Wst W4 q out A' m c' (W.drewN k) := ⟨h.own, h.b.drewN k, h.kk.drewN k⟩
theorem Wst.grown (h : Wst W4 q out A' m c' W) (hg : W.grownBy w8 (Value.slice A' m c').ownBlock) : Blk w8 q 22 #[.slice A' m c'] ∧ Keeps (fun b => b = q ∨ W4.heap.size ≤ b) W4 w8 :=
  ⟨h.b.grown hg (fun q => own_ne_blk h.own h.b (by decide) q.symm), h.kk.trans_ (((Keeps.refl _ W).grown hg (fun k q _ => .inr (own_ge h.own k q))).mono fun b hb _ => hb)⟩
theorem Wst.push {l : List RV} {n' : Nat} (h : Wst W4 q out A' m c' W) (hg : W.grownBy w8 (Value.slice A' m c').ownBlock) (own8 : w8.ownsRow W4.heap.size 29 3 (.slice A8 n' c8) n' (out.flatMap rvc ++ l.flatMap rvc)) : Wst W4 q (out ++ l) A8 n' c8 (w8.setCell ⟨q, 0, none⟩ (.slice A8 n' c8)) := by
  have g2 := h.b.grown hg (fun q => own_ne_blk h.own h.b (by decide) q.symm)
  refine ⟨?_, g2.set_ 0 _, ?_⟩
  · rw [List.flatMap_append]
    exact ((Keeps.refl (fun b => b = q) w8).setCell (p := ⟨q, 0, none⟩) (fun _ => rfl) _).own own8 (fun k' q1 q2 => own_ne_blk own8 g2 (by decide) (by rw [q1, q2]))
  · exact ((h.kk.trans_ ((Keeps.refl _ W).grown hg (fun k q _ => .inr (own_ge h.own k q)))).setCell (p := ⟨q, 0, none⟩) (fun _ => .inl rfl) _)
end
set_option maxHeartbeats 4000000 in
set_option maxRecDepth 100000 in
theorem rowsall_long {w : World} {A A2 : Option Addr} {n c n2 c2 : Nat} {l l2 : List RV} (h : Sl rvc w A n c l) (h2 : Sl rvc w A2 n2 c2 l2) (x0 x1 : Int) (hn : 200 < n ∨ 200 < n2) :
    Calls Try.prog 3 #[.slice A n c, .slice A2 n2 c2, .agg #[.int .i64 x0, .int .i64 x1]] w fun e w' => e = .returned (.bool true) ∧ Below w.heap.size w w' := by
  by_cases hn1 : 200 < n
  · go_enter Try.func3, Try.ntmps3
    go_wp2_with (go_at_call 6; refine (lives10 _).mono ?_; rintro e w1 ⟨rfl, hb1⟩)
    go_ret
    exact ⟨rfl, bnext (bnew (brefl w) _) hb1⟩
  · have hn2 : 200 < n2 := by omega
    have t1 : decide (200 < n) = false := decide_eq_false hn1
    go_enter Try.func3, Try.ntmps3
    go_wp2_with (go_at_call 6; refine (lives10 _).mono ?_; rintro e w1 ⟨rfl, hb1⟩)
    go_ret
    exact ⟨rfl, bnext (bnew (brefl w) _) hb1⟩
set_option maxHeartbeats 4000000 in
set_option maxRecDepth 100000 in
theorem rowsall_any {w : World} {A A2 : Option Addr} {n c n2 c2 : Nat} {l l2 : List RV} (h : Sl rvc w A n c l) (h2 : Sl rvc w A2 n2 c2 l2) (x0 x1 : Int) :
    Calls Try.prog 3 #[.slice A n c, .slice A2 n2 c2, .agg #[.int .i64 x0, .int .i64 x1]] w fun e w' => e = .returned (.bool true) ∧ Below w.heap.size w w' := by
  by_cases hn0 : 200 < n ∨ 200 < n2
  · exact rowsall_long h h2 x0 x1 hn0
  have hn : n ≤ 200 := by omega
  have hn2 : n2 ≤ 200 := by omega
  have t1 : decide (200 < n) = false := decide_eq_false (by omega)
  have t2 : decide (200 < n2) = false := decide_eq_false (by omega)
  obtain ⟨i0, E⟩ := elem_r
  have hlen := Lib.hid h.len
  have hAw := sl_lt h
  obtain ⟨q5, hq5⟩ : ∃ q, q = w.heap.size := ⟨_, rfl⟩
  obtain ⟨q7, hq7⟩ : ∃ q, q = w.heap.size + 1 := ⟨_, rfl⟩
  clear hn0
  go_enter Try.func3, Try.ntmps3
  go_upto_region 4 with (fail)
  rw [← hq7, ← hq5]
  obtain ⟨W3, hW3, B5, B7, S1, S2, kb3, hz3⟩ : ∃ W3, (w.alloc (.cells #[.int .i64 x0, .int .i64 x1] 23)).alloc (.cells #[.slice none 0 0] 22) = W3 ∧ Blk W3 q5 23 #[.int .i64 x0, .int .i64 x1] ∧ Blk W3 q7 22 #[.slice none 0 0] ∧ Sl rvc W3 A n c l ∧ Sl rvc W3 A2 n2 c2 l2 ∧ Below w.heap.size w W3 ∧ W3.heap.size = w.heap.size + 2 := ⟨_, rfl, by rw [hq5]; exact (Blk.new _ _ _).alloc _, by rw [hq7]; have := Blk.new (w.alloc (.cells #[.int .i64 x0, .int .i64 x1] 23)) 22 #[.slice none 0 0]; rwa [World.size_alloc] at this, (h.alloc _).alloc _, (h2.alloc _).alloc _, bnew (bnew (brefl w) _) _, by simp⟩
  rw [hW3]
  have hq57 : q5 < q7 := by omega
  have hq73 : q7 < W3.heap.size := by omega
  have hAw' : l ≠ [] → ∀ ad, A = some ad → ad.block < q5 := fun hne ad e => by have := hAw hne ad e; omega
  have hA2w : l2 ≠ [] → ∀ ad, A2 = some ad → ad.block < q5 := fun hne ad e => by have := sl_lt h2 hne ad e; omega
  have kb3w := Lib.hid hz3
  have hq5w : w.heap.size ≤ q5 := by omega
  clear hW3 h h2 hq5 hq7 hz3 hAw t1 t2
  go_wp2_with fail
  go_loopg [8] n (fun gk i wr => ∃ (k m c' : Nat) (A' : Option Addr), k + gk = n ∧ i = .int .i64 k ∧ m ≤ k ∧ Wst W3 q7 (filR (l.take k) x0) A' m c' wr)
  case atStart => exact ⟨0, 0, 0, none, by omega, rfl, Nat.le_refl _, World.ownsRow_nil _ _ _ _, B7, Keeps.refl _ _⟩
  case round =>
    obtain ⟨k, m, c', A', hk, rfl, hmk, st⟩ := hrel
    by_cases hlt : k < n
    · have S := S1.keepS rvc_len st.kk (fun hne ad e hlt q => by have := hAw' hne ad e; omega) (by decide)
      have G5 := st.kk.blk B5 (by intro q; omega)
      obtain ⟨b, o, rfl, hbw, hc⟩ := S.base rvc_len (by decide) (by omega)
      obtain ⟨e, he⟩ : ∃ e, l[k]? = some e := ⟨l[k]'(by have := hlen.out; omega), List.getElem?_eq_getElem (i := k) _⟩
      have hbq : b < q5 := hAw' (by intro h0; rw [h0] at he; simp at he) _ rfl
      have c0 : wr.cell? ⟨b, o + k * 3, none⟩ = some (.int .i64 e.k) := by have h0 := hc k e 0 _ he rfl; simpa using h0
      have c1 : wr.cell? ⟨b, o + k * 3 + 1, none⟩ = some (.int .u64 e.a) := by have h0 := hc k e 1 _ he rfl; simpa [Nat.add_assoc] using h0
      have c2' : wr.cell? ⟨b, o + k * 3 + 2, none⟩ = some (.int .u64 e.b) := by have h0 := hc k e 2 _ he rfl; simpa [Nat.add_assoc] using h0
      have v50 : wr.cell? ⟨q5, 0, none⟩ = some (.int .i64 x0) := G5.cell 0
      have z5 := G5.lt
      have b0 : (0 : Int) ≤ (k : Int) := by omega
      have b1 : (k : Int) < (n : Int) := by omega
      have HS := Lib.hid (filR_snoc (x0 := x0) he)
      clear hc he S G5
      by_cases hx : x0 ≤ e.k
      · go_wp2
        go_quiet (fail)
        obtain ⟨W7, hW7, st, c0, c1, c2'⟩ : ∃ W7, wr.drewN nq = W7 ∧ Wst W3 q7 (filR (l.take k) x0) A' m c' W7 ∧ W7.cell? ⟨b, o + k * 3, none⟩ = some (.int .i64 e.k) ∧ W7.cell? ⟨b, o + k * 3 + 1, none⟩ = some (.int .u64 e.a) ∧ W7.cell? ⟨b, o + k * 3 + 2, none⟩ = some (.int .u64 e.b) := ⟨_, rfl, st.drewN _, c0, c1, c2'⟩
        rw [hW7]
        clear hW7 v50 z5
        go_upto_region 8 with (fail)
        have x7 : W7.cell? ⟨q7, 0, none⟩ = some (.slice A' m c') := st.b.cell 0
        have st7 := st.drew
        have hkz := st.kk.size
        obtain ⟨q, hqB, hq⟩ := own_q st.own
        have hnb : b ≠ q := by omega
        have hn3 : q7 ≠ q := by omega
        have hbz := block_lt_of_cell c0
        have hX := @ExtK.cell (q) W7
        have hzz0 := block_lt_of_cell x7
        refine wp_region_noPanic ?_
        refine wp_region_last (fun w' => ∃ x : ExtK (q) W7, w' = x.w) 7 (PG.one [0, 1, 2, 3, 4] 5 (PG.one [] 6 (PG.fin []))) (by kernel_rfl) (by kernel_rfl) (by kernel_rfl) (fun _ _ _ _ _ h => h) ⟨⟨_, (Keeps.refl _ W7).drew⟩, rfl⟩ ?_
        refine wpG_one ?_
        simp only [pickOps, List.getElem?_cons_succ, List.getElem?_cons_zero, Option.elim_some]
        repeat (go_big_quiet_step (fail))
        refine wpQuiet_nil ?_
        refine planAct_some (fun K hK => ?_)
        go_simp
        refine hK.out _ _ (extk_mem ((Keeps.refl _ W7).drew.alloc _)) ?_
        clear hK K
        refine wpG_one ?_
        simp only [pickOps, List.getElem?_cons_succ, List.getElem?_cons_zero, Option.elim_some]
        repeat (go_big_quiet_step (fail))
        refine wpQuiet_nil ?_
        refine planAct_some (fun K hK => ?_)
        refine step_app (ys := [.int .i64 e.k, .int .u64 e.a, .int .u64 e.b]) (m := 1) E rfl (.tmp 36) (.tmp 41) rfl W3.heap.size rfl (st7.own.alloc _ :) rfl rfl (Rd.new _ _ _ rfl) (by simp [Value.oneCell']) (by unfold maxLen; omega) (by omega) (by simp; omega) ?_
        intro A8 c8 w8 own8 hg8 ho8
        clear ho8
        go_simp
        refine hK.out _ _ (extk_mem (((Keeps.refl _ W7).drew.alloc _).grown hg8 (fun k' q1 _ => hq k' q1))) ?_
        clear hK K
        obtain ⟨g2, kk8⟩ := (st.alloc (.cells #[.int .i64 e.k, .int .u64 e.a, .int .u64 e.b] 29)).drew.grown hg8
        have f8 := g2.frozen 0
        have v8 : w8.cell? ⟨q7, 0, none⟩ = some (.slice A' m c') := g2.cell 0
        have z8 := g2.lt
        clear g2 kk8
        refine wpG_fin ?_
        simp only [pickOps, List.getElem?_cons_succ, List.getElem?_cons_zero, Option.elim_some]
        repeat (go_big_quiet_step (fail))
        refine wpQuiet_nil ?_
        refine lastG_some (fun K hK => ?_)
        go_simp
        refine hK.out _ _ ?_
        clear hK K
        refine NoPanic.normal ?_
        clear hX hzz0
        have st8 := (st.alloc (.cells #[.int .i64 e.k, .int .u64 e.a, .int .u64 e.b] 29)).drew.push (l := [e]) hg8 own8
        have HSS : Hid (filR (l.take (k + 1)) x0 = filR (l.take k) x0 ++ [e]) := by rw [Hid, HS.out, if_pos hx]
        clear st st7 x7 hnb hn3 hq c0 c1 c2' HS
        go_wp2_with fail
        go_roundg (gk - 1)
        case measure => omega
        case rel => exact ⟨k + 1, m + 1, c8, A8, by omega, by go_num, by omega, by rw [HSS.out]; exact st8⟩
      · have HSS : Hid (filR (l.take (k + 1)) x0 = filR (l.take k) x0) := by rw [Hid, HS.out, if_neg hx, List.append_nil]
        have t3 : decide (x0 ≤ e.k) = false := decide_eq_false hx
        clear HS hx
        go_wp2
        go_quiet (fail)
        obtain ⟨W7, hW7, st⟩ : ∃ W7, wr.drewN nq = W7 ∧ Wst W3 q7 (filR (l.take k) x0) A' m c' W7 := ⟨_, rfl, st.drewN _⟩
        rw [hW7]
        clear hW7 v50 c0 c1 c2' z5
        go_wp2
        go_roundg (gk - 1)
        case measure => omega
        case rel => exact ⟨k + 1, m, c', A', by omega, by go_num, by omega, by rw [HSS.out]; exact st⟩
    · have hge2 : ¬ ((k : Int) < (n : Int)) := by omega
      obtain ⟨W5, hW5⟩ : ∃ W5, W5 = wr := ⟨_, rfl⟩
      subst hW5
      have hfl : filR (l.take k) x0 = filR l x0 := by rw [List.take_of_length_le (by have := hlen.out; omega)]
      rw [hfl] at st
      have hkz := st.kk.size
      have S := S1.keepS rvc_len st.kk (fun hne ad e hlt q => by have := hAw' hne ad e; omega) (by decide)
      have T := S2.keepS rvc_len st.kk (fun hne ad e hlt q => by have := hA2w hne ad e; omega) (by decide)
      have G5 := st.kk.blk B5 (by intro q; omega)
      have Sw := Sl.of_own rvc_len (by decide) st.own
      have hown := fun ad (e : A' = some ad) => (own_block st.own ad e).2
      have v50 : W5.cell? ⟨q5, 0, none⟩ = some (.int .i64 x0) := G5.cell 0
      have z5 := G5.lt
      have hfn : ∀ (a b : Nat) w, (binOp .eql 31 (.func (.func 18) #[] #[.pointer (some ⟨a, 0, none⟩), .pointer (some ⟨b, 0, none⟩)]) .nilFunc).run Try.prog w = .ok (.bool false) w := fun a b w => by rfl
      have kb5 : Below w.heap.size w W5 := st.kk.below kb3 kb3.size (fun x hx _ => by have := kb3.size; rcases hx with hx | hx <;> omega)
      have hcall := all_any (w := W5) A n c x0
      clear hfl S1 S2 B5 B7 hk hlt kb3
      have tok1 : True := trivial
      go_upto_region 14 with (have _t := tok1; go_at_call 7; refine hcall.mono ?_; rintro e1 w1 ⟨rfl, rfl⟩; clear tok1 _t)
      obtain ⟨ql, hql⟩ : ∃ q, q = W5.heap.size := ⟨_, rfl⟩
      obtain ⟨qf, hqf⟩ : ∃ q, q = W5.heap.size + 1 := ⟨_, rfl⟩
      obtain ⟨q10, hq10⟩ : ∃ q, q = W5.heap.size + 1 + 1 := ⟨_, rfl⟩
      obtain ⟨q11, hq11⟩ : ∃ q, q = W5.heap.size + 1 + 1 + 1 := ⟨_, rfl⟩
      obtain ⟨W6, hW6, kW6, L, F, G10, G11, hz6⟩ : ∃ W6, (((W5.alloc (.cells #[.slice A n c] 22)).alloc (.cells #[.int .i64 x0] 2)).alloc (.cells #[.int .i64 0] 2)).alloc (.cells #[.bool true] 4) = W6 ∧ Below W5.heap.size W5 W6 ∧ Blk W6 ql 22 #[.slice A n c] ∧ Blk W6 qf 2 #[.int .i64 x0] ∧ Blk W6 q10 2 #[.int .i64 0] ∧ Blk W6 q11 4 #[.bool true] ∧ W6.heap.size = W5.heap.size + 4 := by
        refine ⟨_, rfl, bnew (bnew (bnew (bnew (brefl W5) _) _) _) _, by rw [hql]; exact (((Blk.new _ _ _).alloc _).alloc _).alloc _, ?_, ?_, ?_, by simp⟩
        · rw [hqf]
          have := ((Blk.new (W5.alloc (.cells #[.slice A n c] 22)) 2 #[.int .i64 x0]).alloc (.cells #[.int .i64 0] 2)).alloc (.cells #[.bool true] 4)
          rwa [World.size_alloc] at this
        · rw [hq10]
          have := (Blk.new ((W5.alloc (.cells #[.slice A n c] 22)).alloc (.cells #[.int .i64 x0] 2)) 2 #[.int .i64 0]).alloc (.cells #[.bool true] 4)
          rwa [World.size_alloc, World.size_alloc] at this
        · rw [hq11]
          have := Blk.new (((W5.alloc (.cells #[.slice A n c] 22)).alloc (.cells #[.int .i64 x0] 2)).alloc (.cells #[.int .i64 0] 2)) 4 #[.bool true]
          rwa [World.size_alloc, World.size_alloc, World.size_alloc] at this
      have n1 : qf ≠ q10 := by omega
      have Sl6 := S.below kW6
      have T6 := T.below kW6
      have Sw6 := Sw.below kW6
      have B56 := G5.below_ kW6
      have B76 := st.b.below_ kW6
      have hA6 : l ≠ [] → ∀ ad, A = some ad → ad.block ≠ q11 ∧ ad.block ≠ q10 := fun hne ad e => by have := hAw' hne ad e; omega
      have hA26 : l2 ≠ [] → ∀ ad, A2 = some ad → ad.block ≠ q11 ∧ ad.block ≠ q10 := fun hne ad e => by have := hA2w hne ad e; omega
      have hA6' : ∀ ad, A' = some ad → ad.block ≠ q11 ∧ ad.block ≠ q10 := fun ad e => by have := hown ad e; omega
      have hall := all1_any (x1 := x1) Sl6 hn L F n1 G11 G10 B76 B56 Sw6 hA6 hA6'
      have kb6 := bnext kb5 kW6
      have hw10 : w.heap.size ≤ q10 := by have := kb5.size; omega
      have hw11 : w.heap.size ≤ q11 := by have := kb5.size; omega
      have h57 : q5 ≠ q11 ∧ q5 ≠ q10 := by omega
      have h77 : q7 ≠ q11 ∧ q7 ≠ q10 := by omega
      rw [hW6]
      rw [← hq11, ← hq10, ← hqf, ← hql]
      clear hql hqf hq10 hq11 hz6
      clear hW6 kW6 L F S T Sw G5 st kb5 hcall hfn hown v50 z5 hAw' hA2w kb3w
      have tok1 : True := trivial
      go_upto_region 15 with (have _t := tok1; go_at_call 18; refine hall.mono ?_; rintro e1 W7 ⟨rfl, R11, R10, k7⟩; clear tok1 _t)
      have B57 := k7.blk B56 (by intro q; omega)
      have B77 := k7.blk B76 (by intro q; omega)
      have S7 := Sl6.keepS rvc_len k7 (fun hne ad e hlt q => by have := hA6 hne ad e; omega) (by decide)
      have T7 := T6.keepS rvc_len k7 (fun hne ad e hlt q => by have := hA26 hne ad e; omega) (by decide)
      have kb7 := k7.below kb6 kb6.size (fun x hx _ => by rcases hx with hx | hx <;> omega)
      have u7 : W7.cell? ⟨q7, 0, none⟩ = some (.slice A' m c') := B77.cell 0
      have u51 : W7.cell? ⟨q5, 1, none⟩ = some (.int .i64 x1) := B57.cell 1
      have u11 : W7.cell? ⟨q11, 0, none⟩ = some (.bool true) := R11.cell 0
      have zz7 := B77.lt
      have zz5 := B57.lt
      have zz11 := R11.lt
      have zz10 := R10.lt
      have hsm := same_any S7 T7 (by omega) (by omega)
      have hrs := fun (W : World) (hW : Below W7.heap.size W7 W) => rsame_any (S7.below hW) (T7.below hW) (by omega) (by omega)
      generalize decide (l = l2) = bb at *
      have R10c : W7.cell? ⟨q10, 0, none⟩ = some (.int .i64 (finR m x1)) := R10.cell 0
      clear hall k7 Sl6 T6 Sw6 B56 B76 hA6 hA26 hA6' R10 R11 G10 G11 S7 T7 B57 B77 kb6
      by_cases hx1 : 0 < x1
      · by_cases hx2 : x1 < (m : Int)
        · have HFI : finR m x1 = x1 := by unfold finR; rw [if_pos ⟨hx1, hx2⟩]
          rw [HFI] at R10c
          clear HFI
          have tok1 : True := trivial; have tok2 : True := trivial; have tok3 : True := trivial
          go_wp2_with (first
            | (have _t := tok1; go_at_call 9; refine (hsm).mono ?_; rintro e1 w8 ⟨rfl, hb8⟩; clear tok1 _t)
            | (have _t := tok2; go_at_call 10; refine (hrs _ hb8).mono ?_; rintro e2 w9 ⟨rfl, hb9⟩; clear tok2 _t)
            | (have _t := tok3; go_at_call 6; refine (lives10 _).mono ?_; rintro e3 w10 ⟨rfl, hb10⟩; clear tok3 _t))
          go_ret
          exact ⟨rfl, bnext (bnext (bnext kb7 hb8) hb9) hb10⟩
        · have HFI : finR m x1 = m := by unfold finR; rw [if_neg (by omega)]
          have t4 : decide (x1 < (m : Int)) = false := decide_eq_false hx2
          rw [HFI] at R10c
          clear HFI
          have tok1 : True := trivial; have tok2 : True := trivial; have tok3 : True := trivial
          go_wp2_with (first
            | (have _t := tok1; go_at_call 9; refine (hsm).mono ?_; rintro e1 w8 ⟨rfl, hb8⟩; clear tok1 _t)
            | (have _t := tok2; go_at_call 10; refine (hrs _ hb8).mono ?_; rintro e2 w9 ⟨rfl, hb9⟩; clear tok2 _t)
            | (have _t := tok3; go_at_call 6; refine (lives10 _).mono ?_; rintro e3 w10 ⟨rfl, hb10⟩; clear tok3 _t))
          go_ret
          exact ⟨rfl, bnext (bnext (bnext kb7 hb8) hb9) hb10⟩
      · have HFI : finR m x1 = m := by unfold finR; rw [if_neg (by omega)]
        have t4 : decide (0 < x1) = false := decide_eq_false hx1
        rw [HFI] at R10c
        clear HFI
        have tok1 : True := trivial; have tok2 : True := trivial; have tok3 : True := trivial
        go_wp2_with (first
          | (have _t := tok1; go_at_call 9; refine (hsm).mono ?_; rintro e1 w8 ⟨rfl, hb8⟩; clear tok1 _t)
          | (have _t := tok2; go_at_call 10; refine (hrs _ hb8).mono ?_; rintro e2 w9 ⟨rfl, hb9⟩; clear tok2 _t)
          | (have _t := tok3; go_at_call 6; refine (lives10 _).mono ?_; rintro e3 w10 ⟨rfl, hb10⟩; clear tok3 _t))
        go_ret
        exact ⟨rfl, bnext (bnext (bnext kb7 hb8) hb9) hb10⟩
end Go.Proofs.Ytklpnjenddkmaaa
