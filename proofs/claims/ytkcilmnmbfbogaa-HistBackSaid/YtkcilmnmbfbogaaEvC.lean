/- The events of opers: the document's answer, time by time. -/
import Derived.Test.YtkcilmnmbfbogaaEvB
namespace Go.Proofs.Ytkcilmnmbfbogaa
set_option linter.unusedVariables false
set_option linter.unusedSimpArgs false
open Go.RowKit

theorem range_sub {w : World} {b o : Nat} {cs cs' : List Value} (h : w.rangeAt b o cs) (j : Nat) (hl : (cs.drop j).take cs'.length = cs') : w.rangeAt b (o + j) cs' := fun i v hi => by
  rw [Nat.add_assoc]
  refine h (j + i) v ?_
  rw [← hl, List.getElem?_take] at hi
  split at hi
  · rwa [List.getElem?_drop] at hi
  · cases hi
/-- What is read of an oper. -/
structure OpAt (w : World) (b o : Nat) (x : Opp) : Prop where
  th : w.cell? ⟨b, o, none⟩ = some (.int .i64 x.th)
  fr : w.cell? ⟨b, o + 14, none⟩ = some (.int .i64 x.fr)
  fin : w.cell? ⟨b, o + 15, none⟩ = some (.int .i64 x.fin)
  c : w.rangeAt b (o + 1) [.int .i64 x.c.op, .int .i64 x.c.lv, .int .i64 x.c.key, .int .u64 x.c.a, .int .u64 x.c.b, .int .u64 x.c.h, .int .i64 x.c.rg]
  a : w.rangeAt b (o + 8) [.int .i64 x.a.er, .int .u64 x.a.ra, .int .u64 x.a.rb, .int .u64 x.a.rh, .int .i64 x.a.n, .int .i64 x.a.k]
theorem op_at {w : World} {b o n c k : Nat} {l : List Opp} {x : Opp} (h : Sl opc w (some ⟨b, o, none⟩) n c l) (hx : l[k]? = some x) : OpAt w b (o + k * 16) x := by
  have hr := range_sl opc_len h hx
  exact ⟨hr 0 _ rfl, hr 14 _ rfl, hr 15 _ rfl, range_sub hr 1 rfl, range_sub hr 8 rfl⟩
theorem at0_len (M : List Mk) (t : Int) : (at0 M t).length ≤ M.length := List.length_filter_le _ _
theorem at1_len (M : List Mk) (t : Int) : (at1 M t).length ≤ M.length := List.length_filter_le _ _
theorem gat_len (M : List Mk) (t : Int) : (gat M t).length ≤ M.length := List.length_filter_le _ _
theorem ic_one (T : List Int) : ∀ u ∈ T.flatMap ic, u.oneCell' = true := by
  intro u hu
  obtain ⟨y, _, hy⟩ := List.mem_flatMap.1 hu
  unfold ic at hy
  obtain rfl := List.mem_singleton.1 hy
  rfl
def RofR (w : World) (S : List Mk) (e : Ending) (w' : World) : Prop := ∃ (A' : Option Addr) (c' : Nat), e = .returned (.slice A' S.length c') ∧ w'.ownsRow w.heap.size 45 15 (.slice A' S.length c') S.length (((S).map Mk.e).flatMap evc) ∧ Below w.heap.size w w'

set_option maxHeartbeats 4000000 in
set_option maxRecDepth 100000 in
theorem rof_any {w : World} {A : Option Addr} {n c : Nat} {l : List Opp} {S : List Mk} (h : Sl opc w A n c l) (hn : n ≤ 1000) (hp : S.Perm (mks l n)) (hs : S.Pairwise mlt) : Calls Try.prog 15 #[.slice A n c] w (RofR w S) := by
  obtain ⟨i0, E0⟩ := elem_i
  obtain ⟨i1, E1⟩ := elem_e
  have HLEN := Lib.hid h.len
  have HP := Lib.hid (And.intro hp hs)
  have hSL : S.length ≤ 2 * n := by rw [hp.length_eq]; exact mks_len l n
  clear hp hs
  go_enter Try.func15, Try.ntmps15
  go_wp2_with fail
  go_loopg [4, 5] n (fun gk s4 i wr => ∃ (k m : Nat) (A' : Option Addr) (c' : Nat), k + gk = n ∧ i = .int .i64 k ∧ s4 = .slice A' m c' ∧ Hid (m = (tms l k).length) ∧ wr.ownsRow w.heap.size 3 1 (.slice A' m c') m ((tms l k).flatMap ic) ∧ Below w.heap.size w wr)
  case atStart => exact ⟨0, 0, none, 0, by omega, rfl, rfl, rfl, World.ownsRow_nil _ _ _ _, brefl w⟩
  case round =>
    obtain ⟨k, m, A', c', hk, rfl, rfl, hm, own, kb⟩ := hrel
    by_cases hlt : k < n
    · obtain ⟨b, o', rfl, _, _⟩ := h.base opc_len (by decide) (by omega)
      obtain ⟨x, hx⟩ : ∃ x, l[k]? = some x := ⟨l[k]'(by have := HLEN.out; omega), List.getElem?_eq_getElem (i := k) _⟩
      have HR := Lib.hid (op_at h hx)
      have c0 := HR.out.th
      have c14 := HR.out.fr
      have c15 := HR.out.fin
      have b0 : (0 : Int) ≤ (k : Int) := by omega
      have b1 : (k : Int) < (n : Int) := by omega
      have v14 := keep_below c14 kb
      have v15 := keep_below c15 kb
      have HX := Lib.hid hx
      clear hx
      have hmk : m ≤ 2 * k := by have := hm.out; have := tms_len l k; omega
      have HS : Hid (tms l (k + 1) = tms l k ++ (if x.fr < 0 then [] else [x.fr, x.fin])) := by rw [Hid, tms, HX.out]
      by_cases hf : x.fr < 0
      · have tf : decide (0 ≤ x.fr) = false := decide_eq_false (by omega)
        have HM : Hid (tms l (k + 1) = tms l k) := by rw [Hid, HS.out, if_pos hf, List.append_nil]
        clear hf
        go_wp2_with fail
        go_roundg (gk - 1)
        case measure => omega
        case rel =>
          refine ⟨k + 1, m, A', c', by omega, by go_num, rfl, ?_, ?_, kb⟩
          · rw [Hid, HM.out]; exact hm.out
          · rw [HM.out]; exact own
      · have tf : decide (0 ≤ x.fr) = true := decide_eq_true (by omega)
        have HM : Hid (tms l (k + 1) = tms l k ++ [x.fr, x.fin]) := by rw [Hid, HS.out, if_neg hf]
        clear hf
        go_upto_region 7 with (fail)
        have hX := @Ext.cell w
        have hzz0 := block_lt_of_cell c0
        refine wp_region_noPanic ?_
        refine wp_region_tree (fun w' => ∃ x : Ext w, w' = x.w) (PT.one [0, 1, 2, 3, 4, 5, 6, 7, 8, 9, 10] 11 (PT.one [] 12 (PT.fin [13]))) (by kernel_rfl) (by kernel_rfl) (by kernel_rfl) (fun _ _ _ _ _ h => h) ⟨⟨_, kb.drew⟩, rfl⟩ ?_
        refine wpTree_one ?_
        simp only [pickOps, List.getElem?_cons_succ, List.getElem?_cons_zero, Option.elim_some]
        repeat (go_big_quiet_step (fail))
        refine wpQuiet_nil ?_
        refine planAct_some (fun K hK => ?_)
        go_simp
        refine hK.out _ _ (ext_mem (bnew kb.drew _)) ?_
        clear hK K
        refine wpTree_one ?_
        simp only [pickOps, List.getElem?_cons_succ, List.getElem?_cons_zero, Option.elim_some]
        repeat (go_big_quiet_step (fail))
        refine wpQuiet_nil ?_
        refine planAct_some (fun K hK => ?_)
        refine step_onto (W0 := w) (ys := [.int .i64 x.fr, .int .i64 x.fin]) (m := 2) E0 rfl (.tmp 23) (.tmp 34) rfl (bnew kb.drew _) rfl (own.alloc _ :) rfl rfl (Rd.new _ _ _ rfl) (by simp [Value.oneCell']) (by unfold maxLen; omega) (by omega) ?_
        intro A8 c8 w8 own8 hb8 hg8
        go_simp
        refine hK.out _ _ ⟨⟨_, hb8⟩, rfl⟩ ?_
        clear hK K
        refine wpTree_fin ?_
        simp only [pickOps, List.getElem?_cons_succ, List.getElem?_cons_zero, Option.elim_some]
        repeat (go_big_quiet_step (fail))
        refine wpQuiet_nil ?_
        refine NoPanic.normal ?_
        clear hX hzz0
        go_wp2_with fail
        go_roundg (gk - 1)
        case measure => omega
        case rel =>
          refine ⟨k + 1, m + 2, A8, c8, by omega, by go_num, rfl, ?_, ?_, hb8⟩
          · rw [Hid, HM.out, hm.out]; simp
          · rw [HM.out, List.flatMap_append]
            exact own8
    · have t9 : decide (k < n) = false := decide_eq_false (by omega)
      obtain rfl : k = n := by omega
      have hmk : m ≤ 2 * k := by have := hm.out; have := tms_len l k; omega
      have sT := Sl.of_own (l := tms l k) (f := ic) (fun _ => rfl) (by decide) own
      have HT := Lib.hid hm.out
      obtain ⟨W1, rfl⟩ : ∃ W1, W1 = wr := ⟨_, rfl⟩
      have kb1 := kb
      have h1 := h.below kb
      clear own hm kb
      go_wp2_with fail
      go_loopg [3, 6] (left_ (tms l k) (-1)) (fun gk s3 s6 wr => ∃ (last : Int) (m3 : Nat) (A3 : Option Addr) (c3 : Nat), gk = left_ (tms l k) last ∧ -1 ≤ last ∧ s6 = .int .i64 last ∧ s3 = .slice A3 m3 c3 ∧ Hid (m3 = (gat S last).length) ∧ wr.ownsRow W1.heap.size 45 15 (.slice A3 m3 c3) m3 (((gat S last).map Mk.e).flatMap evc) ∧ Below W1.heap.size W1 wr)
      case atStart => exact ⟨-1, 0, none, 0, rfl, by omega, rfl, rfl, by rw [Hid, gat_none HP.out.1 (fun x hx => (mks_bk hx).2)]; rfl, by rw [gat_none HP.out.1 (fun x hx => (mks_bk hx).2)]; exact World.ownsRow_nil _ _ _ _, brefl _⟩
      case round =>
        obtain ⟨last, m3, A3, c3, hgk, hl1, rfl, rfl, hm3, own, kq⟩ := hrel
        have HGK := Lib.hid hgk
        have hm3b : m3 ≤ 2 * k := by have := hm3.out; have := gat_len S last; omega
        have sT3 := sT.below kq
        obtain ⟨gr, hgr⟩ : ∃ g, g = gk := ⟨_, rfl⟩
        subst hgr
        clear hgk
        go_wp2_with fail
        go_loopg [7, 8] m (fun g3 s7 s8 w3 => ∃ (j : Nat), j + g3 = m ∧ s8 = .int .i64 j ∧ s7 = .int .i64 (nxt (tms l k) last j) ∧ w3 = wr)
        case atStart => exact ⟨0, by omega, rfl, rfl, rfl⟩
        case round =>
          obtain ⟨j, hj, rfl, rfl, rfl⟩ := hrel
          by_cases hjm : j < m
          · obtain ⟨bt, ot, rfl, _, hct⟩ := sT3.base (s := 1) (fun _ => rfl) (by decide) (by omega)
            obtain ⟨t, ht⟩ : ∃ t, (tms l k)[j]? = some t := ⟨(tms l k)[j]'(by have := HT.out; omega), List.getElem?_eq_getElem (i := j) _⟩
            have v0 : wr.cell? ⟨bt, ot + j, none⟩ = some (.int .i64 t) := by have h0 := hct j t 0 _ ht rfl; simpa using h0
            have q0 : (0 : Int) ≤ (j : Int) := by omega
            have q1 : (j : Int) < (m : Int) := by omega
            have vz := block_lt_of_cell v0
            have HN0 : Hid (nxt (tms l k) last (j + 1) = if last < t ∧ (nxt (tms l k) last j < 0 ∨ t < nxt (tms l k) last j) then t else nxt (tms l k) last j) := by rw [Hid, nxt, ht]
            generalize nxt (tms l k) last j = N at *
            clear ht hct sT3
            by_cases k1 : last < t
            · by_cases k2 : N < 0
              · have HN : Hid (nxt (tms l k) last (j + 1) = t) := by rw [Hid, HN0.out, if_pos ⟨k1, .inl k2⟩]
                go_wp2_with fail
                go_roundg (gk - 1)
                case measure => omega
                case rel => exact ⟨j + 1, by omega, by go_num, by rw [HN.out], rfl⟩
              · by_cases k3 : t < N
                · have HN : Hid (nxt (tms l k) last (j + 1) = t) := by rw [Hid, HN0.out, if_pos ⟨k1, .inr k3⟩]
                  have u2 : decide (N < 0) = false := decide_eq_false k2
                  clear k2
                  go_wp2_with fail
                  go_roundg (gk - 1)
                  case measure => omega
                  case rel => exact ⟨j + 1, by omega, by go_num, by rw [HN.out], rfl⟩
                · have HN : Hid (nxt (tms l k) last (j + 1) = N) := by rw [Hid, HN0.out, if_neg (by omega)]
                  have u2 : decide (N < 0) = false := decide_eq_false k2
                  have u3 : decide (t < N) = false := decide_eq_false k3
                  clear k2 k3
                  go_wp2_with fail
                  go_roundg (gk - 1)
                  case measure => omega
                  case rel => exact ⟨j + 1, by omega, by go_num, by rw [HN.out], rfl⟩
            · have HN : Hid (nxt (tms l k) last (j + 1) = N) := by rw [Hid, HN0.out, if_neg (by omega)]
              have u1 : decide (last < t) = false := decide_eq_false k1
              clear k1
              go_wp2_with fail
              go_roundg (gk - 1)
              case measure => omega
              case rel => exact ⟨j + 1, by omega, by go_num, by rw [HN.out], rfl⟩
          · have t8 : decide (j < m) = false := decide_eq_false (by omega)
            obtain rfl : j = m := by omega
            obtain ⟨nx, hnx⟩ : ∃ nx, nxt (tms l k) last j = nx := ⟨_, rfl⟩
            rw [hnx]
            have HNX : Hid (nxt (tms l k) last (tms l k).length = nx) := by rw [Hid, ← HT.out]; exact hnx
            clear hnx sT3
            by_cases k0 : nx < 0
            · have HG : Hid (gat S last = S) := gat_end HP.out.1 hl1 (by rw [HNX.out]; exact k0)
              have hmS : m3 = S.length := by rw [hm3.out, HG.out]
              rw [HG.out] at own
              subst hmS
              go_wp2_with fail
              go_ret
              exact ⟨A3, c3, rfl, own_base own kb1.size, bnext kb1 kq⟩
            · have u0 : decide (nx < 0) = false := decide_eq_false k0
              have HG := Lib.hid (gat_next HP.out.1 HP.out.2 hl1 HNX.out (by omega))
              have hnx0 : 0 ≤ nx := by omega
              have t9' := t9
              clear k0 t8
              go_wp2_with fail
              go_loopg [3, 9] k (fun g4 s3 s9 w4 => ∃ (j m4 : Nat) (A4 : Option Addr) (c4 : Nat), j + g4 = k ∧ s9 = .int .i64 j ∧ s3 = .slice A4 m4 c4 ∧ Hid (m4 = (gat S last ++ at0 (mks l j) nx).length) ∧ w4.ownsRow W1.heap.size 45 15 (.slice A4 m4 c4) m4 (((gat S last ++ at0 (mks l j) nx).map Mk.e).flatMap evc) ∧ Below W1.heap.size W1 w4)
              case atStart => exact ⟨0, m3, A3, c3, by omega, rfl, rfl, by rw [Hid, show at0 (mks l 0) nx = [] from rfl, List.append_nil]; exact hm3.out, by rw [show at0 (mks l 0) nx = [] from rfl, List.append_nil]; exact own, kq⟩
              case round =>
                clear own kq hm3
                obtain ⟨j, m4, A4, c4, hj, rfl, rfl, hm4, own, kq⟩ := hrel
                by_cases hlt : j < k
                · obtain ⟨b, o', rfl, _, _⟩ := h1.base opc_len (by decide) (by omega)
                  obtain ⟨x, hx⟩ : ∃ x, l[j]? = some x := ⟨l[j]'(by have := HLEN.out; omega), List.getElem?_eq_getElem (i := j) _⟩
                  have HR := Lib.hid (op_at h1 hx)
                  have c0 := HR.out.th
                  have c14 := HR.out.fr
                  have c15 := HR.out.fin
                  have b0 : (0 : Int) ≤ (j : Int) := by omega
                  have b1 : (j : Int) < (k : Int) := by omega
                  have v14 := keep_below c14 kq
                  have v15 := keep_below c15 kq
                  have HX := Lib.hid hx
                  clear hx
                  have hmb : m4 ≤ 6 * k := by have h1 := hm4.out; rw [List.length_append] at h1; have := gat_len S last; have := at0_len (mks l j) nx; have := mks_len l j; omega
                  have HS := Lib.hid (at0_snoc HX.out hnx0)
                  by_cases he : x.fr = nx
                  · have te : (x.fr == nx) = true := by simp [he]
                    have HM : Hid (at0 (mks l (j + 1)) nx = at0 (mks l j) nx ++ [⟨x.fr, 0, j, ⟨x.th, false, x.c, av0⟩⟩]) := by rw [Hid, HS.out, if_pos he]
                    clear he
                    go_upto_region 21 with (fail)
                    have hX := @Ext.cell W1
                    have hzz0 := block_lt_of_cell c0
                    refine wp_region_noPanic ?_
                    refine wp_region_tree (fun w' => ∃ x : Ext W1, w' = x.w) (PT.one [0, 1, 2, 3, 4, 5, 6, 7, 8, 9, 10, 11] 12 (PT.one [] 13 (PT.fin [14]))) (by kernel_rfl) (by kernel_rfl) (by kernel_rfl) (fun _ _ _ _ _ h => h) ⟨⟨_, kq.drew⟩, rfl⟩ ?_
                    refine wpTree_one ?_
                    simp only [pickOps, List.getElem?_cons_succ, List.getElem?_cons_zero, Option.elim_some]
                    go_big_quiet_step (fail)
                    go_big_quiet_step (fail)
                    go_big_quiet_step (fail)
                    go_big_quiet_step (fail)
                    go_big_quiet_step (fail)
                    go_big_quiet_step (fail)
                    go_big_quiet_step (fail)
                    go_big_quiet_step (fail)
                    go_big_quiet_step (fail)
                    go_big_quiet_step (fail)
                    refine wpQuiet_load_mid rfl 34 (.tmp 89) rfl b (o' + j * 16 + 1) rfl [.int .i64 x.c.op, .int .i64 x.c.lv, .int .i64 x.c.key, .int .u64 x.c.a, .int .u64 x.c.b, .int .u64 x.c.h, .int .i64 x.c.rg] _ (range_ext HR.out.c) Try.underlying34 rfl (by kernel_rfl) ?_; simp only [Act.put, List.setIfInBounds_toArray, List.set_cons_succ, List.set_cons_zero]
                    go_big_quiet_step (fail)
                    refine wpQuiet_nil ?_
                    refine planAct_some (fun K hK => ?_)
                    go_simp
                    refine hK.out _ _ (ext_mem (bnew kq.drew _)) ?_
                    clear hK K
                    refine wpTree_one ?_
                    simp only [pickOps, List.getElem?_cons_succ, List.getElem?_cons_zero, Option.elim_some]
                    repeat (go_big_quiet_step (fail))
                    refine wpQuiet_nil ?_
                    refine planAct_some (fun K hK => ?_)
                    refine step_onto (W0 := W1) (ys := [.int .i64 x.th, .bool false, .int .i64 x.c.op, .int .i64 x.c.lv, .int .i64 x.c.key, .int .u64 x.c.a, .int .u64 x.c.b, .int .u64 x.c.h, .int .i64 x.c.rg, .int .i64 0, .int .u64 0, .int .u64 0, .int .u64 0, .int .i64 0, .int .i64 0]) (m := 1) E1 rfl (.tmp 80) (.tmp 92) rfl (bnew kq.drew _) rfl (own.alloc _ :) rfl rfl (Rd.new _ _ _ rfl) (by simp [Value.oneCell']) (by unfold maxLen; omega) (by omega) ?_
                    intro A8 c8 w8 own8 hb8 hg8
                    go_simp
                    refine hK.out _ _ ⟨⟨_, hb8⟩, rfl⟩ ?_
                    clear hK K
                    refine wpTree_fin ?_
                    simp only [pickOps, List.getElem?_cons_succ, List.getElem?_cons_zero, Option.elim_some]
                    repeat (go_big_quiet_step (fail))
                    refine wpQuiet_nil ?_
                    refine NoPanic.normal ?_
                    clear hX hzz0
                    go_wp2_with fail
                    go_roundg (gk - 1)
                    case measure => omega
                    case rel =>
                      refine ⟨j + 1, m4 + 1, A8, c8, by omega, by go_num, rfl, ?_, ?_, hb8⟩
                      · rw [Hid, HM.out, ← List.append_assoc, List.length_append, ← hm4.out]; rfl
                      · rw [HM.out, ← List.append_assoc, List.map_append, List.flatMap_append]
                        exact own8
                  · have te : (x.fr == nx) = false := by simp [he]
                    have HM : Hid (at0 (mks l (j + 1)) nx = at0 (mks l j) nx) := by rw [Hid, HS.out, if_neg he, List.append_nil]
                    clear he
                    go_wp2_with fail
                    go_roundg (gk - 1)
                    case measure => omega
                    case rel => exact ⟨j + 1, m4, A4, c4, by omega, by go_num, rfl, by rw [Hid, HM.out]; exact hm4.out, by rw [HM.out]; exact own, kq⟩
                · have t7 : decide (j < k) = false := decide_eq_false (by omega)
                  obtain rfl : j = k := by omega
                  have hmb : m4 ≤ 6 * j := by have h1 := hm4.out; rw [List.length_append] at h1; have := gat_len S last; have := at0_len (mks l j) nx; have := mks_len l j; omega
                  go_wp2_with fail
                  go_loopg [3, 10] j (fun g5 s3 s10 w5 => ∃ (i m5 : Nat) (A5 : Option Addr) (c5 : Nat), i + g5 = j ∧ s10 = .int .i64 i ∧ s3 = .slice A5 m5 c5 ∧ Hid (m5 = (gat S last ++ at0 (mks l j) nx ++ at1 (mks l i) nx).length) ∧ w5.ownsRow W1.heap.size 45 15 (.slice A5 m5 c5) m5 (((gat S last ++ at0 (mks l j) nx ++ at1 (mks l i) nx).map Mk.e).flatMap evc) ∧ Below W1.heap.size W1 w5)
                  case atStart => exact ⟨0, m4, A4, c4, by omega, rfl, rfl, by rw [Hid, show at1 (mks l 0) nx = [] from rfl, List.append_nil]; exact hm4.out, by rw [show at1 (mks l 0) nx = [] from rfl, List.append_nil]; exact own, kq⟩
                  case round =>
                    clear own kq hm4
                    obtain ⟨i, m5, A5, c5, hi, rfl, rfl, hm5, own, kq⟩ := hrel
                    by_cases hlt : i < j
                    · obtain ⟨b, o', rfl, _, _⟩ := h1.base opc_len (by decide) (by omega)
                      obtain ⟨x, hx⟩ : ∃ x, l[i]? = some x := ⟨l[i]'(by have := HLEN.out; omega), List.getElem?_eq_getElem (i := i) _⟩
                      have HR := Lib.hid (op_at h1 hx)
                      have c0 := HR.out.th
                      have c14 := HR.out.fr
                      have c15 := HR.out.fin
                      have b0 : (0 : Int) ≤ (i : Int) := by omega
                      have b1 : (i : Int) < (j : Int) := by omega
                      have v14 := keep_below c14 kq
                      have v15 := keep_below c15 kq
                      have HX := Lib.hid hx
                      clear hx
                      have hmb : m5 ≤ 6 * j := by have h1 := hm5.out; rw [List.length_append, List.length_append] at h1; have := gat_len S last; have := at0_len (mks l j) nx; have := mks_len l j; have := at1_len (mks l i) nx; have := mks_len l i; omega
                      have HS := Lib.hid (at1_snoc HX.out hnx0)
                      by_cases hf : x.fr < 0
                      · have te : decide (0 ≤ x.fr) = false := decide_eq_false (by omega)
                        have HM : Hid (at1 (mks l (i + 1)) nx = at1 (mks l i) nx) := by rw [Hid, HS.out, if_neg (by omega), List.append_nil]
                        clear hf
                        go_wp2_with fail
                        go_roundg (gk - 1)
                        case measure => omega
                        case rel => exact ⟨i + 1, m5, A5, c5, by omega, by go_num, rfl, by rw [Hid, HM.out]; exact hm5.out, by rw [HM.out]; exact own, kq⟩
                      · have te : decide (0 ≤ x.fr) = true := decide_eq_true (by omega)
                        by_cases he : x.fin = nx
                        · have te2 : (x.fin == nx) = true := by simp [he]
                          have HM : Hid (at1 (mks l (i + 1)) nx = at1 (mks l i) nx ++ [⟨x.fin, 1, i, ⟨x.th, true, cv0, x.a⟩⟩]) := by rw [Hid, HS.out, if_pos (by omega)]
                          clear he hf
                          go_upto_region 26 with (fail)
                          have hX := @Ext.cell W1
                          have hzz0 := block_lt_of_cell c0
                          refine wp_region_noPanic ?_
                          refine wp_region_tree (fun w' => ∃ x : Ext W1, w' = x.w) (PT.one [0, 1, 2, 3, 4, 5, 6, 7, 8, 9, 10, 11] 12 (PT.one [] 13 (PT.fin [14]))) (by kernel_rfl) (by kernel_rfl) (by kernel_rfl) (fun _ _ _ _ _ h => h) ⟨⟨_, kq.drew⟩, rfl⟩ ?_
                          refine wpTree_one ?_
                          simp only [pickOps, List.getElem?_cons_succ, List.getElem?_cons_zero, Option.elim_some]
                          go_big_quiet_step (fail)
                          go_big_quiet_step (fail)
                          go_big_quiet_step (fail)
                          go_big_quiet_step (fail)
                          go_big_quiet_step (fail)
                          go_big_quiet_step (fail)
                          go_big_quiet_step (fail)
                          go_big_quiet_step (fail)
                          go_big_quiet_step (fail)
                          go_big_quiet_step (fail)
                          refine wpQuiet_load_mid rfl 37 (.tmp 124) rfl b (o' + i * 16 + 8) rfl [.int .i64 x.a.er, .int .u64 x.a.ra, .int .u64 x.a.rb, .int .u64 x.a.rh, .int .i64 x.a.n, .int .i64 x.a.k] _ (range_ext HR.out.a) Try.underlying37 rfl (by kernel_rfl) ?_; simp only [Act.put, List.setIfInBounds_toArray, List.set_cons_succ, List.set_cons_zero]
                          go_big_quiet_step (fail)
                          refine wpQuiet_nil ?_
                          refine planAct_some (fun K hK => ?_)
                          go_simp
                          refine hK.out _ _ (ext_mem (bnew kq.drew _)) ?_
                          clear hK K
                          refine wpTree_one ?_
                          simp only [pickOps, List.getElem?_cons_succ, List.getElem?_cons_zero, Option.elim_some]
                          repeat (go_big_quiet_step (fail))
                          refine wpQuiet_nil ?_
                          refine planAct_some (fun K hK => ?_)
                          refine step_onto (W0 := W1) (ys := [.int .i64 x.th, .bool true, .int .i64 0, .int .i64 0, .int .i64 0, .int .u64 0, .int .u64 0, .int .u64 0, .int .i64 0, .int .i64 x.a.er, .int .u64 x.a.ra, .int .u64 x.a.rb, .int .u64 x.a.rh, .int .i64 x.a.n, .int .i64 x.a.k]) (m := 1) E1 rfl (.tmp 115) (.tmp 127) rfl (bnew kq.drew _) rfl (own.alloc _ :) rfl rfl (Rd.new _ _ _ rfl) (by simp [Value.oneCell']) (by unfold maxLen; omega) (by omega) ?_
                          intro A8 c8 w8 own8 hb8 hg8
                          go_simp
                          refine hK.out _ _ ⟨⟨_, hb8⟩, rfl⟩ ?_
                          clear hK K
                          refine wpTree_fin ?_
                          simp only [pickOps, List.getElem?_cons_succ, List.getElem?_cons_zero, Option.elim_some]
                          repeat (go_big_quiet_step (fail))
                          refine wpQuiet_nil ?_
                          refine NoPanic.normal ?_
                          clear hX hzz0
                          go_wp2_with fail
                          go_roundg (gk - 1)
                          case measure => omega
                          case rel =>
                            refine ⟨i + 1, m5 + 1, A8, c8, by omega, by go_num, rfl, ?_, ?_, hb8⟩
                            · rw [Hid, HM.out, ← List.append_assoc, List.length_append, ← hm5.out]; rfl
                            · rw [HM.out, ← List.append_assoc, List.map_append, List.flatMap_append]
                              exact own8
                        · have te2 : (x.fin == nx) = false := by simp [he]
                          have HM : Hid (at1 (mks l (i + 1)) nx = at1 (mks l i) nx) := by rw [Hid, HS.out, if_neg (by omega), List.append_nil]
                          clear he hf
                          go_wp2_with fail
                          go_roundg (gk - 1)
                          case measure => omega
                          case rel => exact ⟨i + 1, m5, A5, c5, by omega, by go_num, rfl, by rw [Hid, HM.out]; exact hm5.out, by rw [HM.out]; exact own, kq⟩
                    · have t6 : decide (i < j) = false := decide_eq_false (by omega)
                      obtain rfl : i = j := by omega
                      have HG1 := HG.out.1
                      have HG2 := HG.out.2.1
                      have HG3 := HG.out.2.2
                      rw [← HG1] at own
                      have hm6 : Hid (m5 = (gat S nx).length) := by rw [Hid, HG1]; exact hm5.out
                      clear HG1 t7 t9 t9'
                      go_wp2_with fail
                      go_roundg (left_ (tms l i) nx)
                      case measure => rw [HGK.out]; exact HG3
                      case rel => exact ⟨nx, m5, A5, c5, rfl, by omega, rfl, rfl, hm6, own, kq⟩
end Go.Proofs.Ytkcilmnmbfbogaa
