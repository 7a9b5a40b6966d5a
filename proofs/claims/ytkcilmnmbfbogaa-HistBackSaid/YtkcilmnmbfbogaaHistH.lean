/- Histories: the document's opers of a history. -/
import Derived.Test.YtkcilmnmbfbogaaHistG
namespace Go.Proofs.Ytkcilmnmbfbogaa
set_option linter.unusedVariables false
set_option linter.unusedSimpArgs false
open Go.RowKit

theorem blk_setCells {g : Nat} {t : TypeId} : ∀ (vs : List Value) (k : Nat) (w : World) (cs : List Value), Blk w g t cs.toArray → Blk (w.setCells g k vs) g t (setL cs k vs).toArray
  | [], _, _, _, h => h
  | v :: r, k, w, cs, h => blk_setCells r (k + 1) (w.setCell ⟨g, k, none⟩ v) (cs.set k v) (by have := h.set_ k v; rwa [List.setIfInBounds_toArray] at this)
theorem below_setCells {B : Nat} {w0 : World} {g : Nat} (hg : B ≤ g) : ∀ (vs : List Value) (k : Nat) (w : World), Below B w0 w → Below B w0 (w.setCells g k vs)
  | [], _, _, h => h
  | v :: r, k, w, h => below_setCells hg r (k + 1) _ (h.setCell (p := ⟨g, k, none⟩) hg v)
theorem own_ltb {w : World} {base : Nat} {e : TypeId} {size n : Nat} {v : Value} {xs : List Value} (h : w.ownsRow base e size v n xs) : ∀ k, v.ownBlock = some k → k < w.heap.size := by
  intro k hk
  rcases h.2 with ⟨rfl, _⟩ | ⟨g, cap, cur, rfl, _, hh, _⟩
  · simp [Value.ownBlock] at hk
  · have : g = k := by simpa [Value.ownBlock] using hk
    subst this
    exact Blk.lt hh
theorem filled (e : Ev) (k : Nat) (a : AV) (z : Int) : setL ((opc (mkO e k none)).set 15 (.int .i64 z)) 8 (avc a) = opc ⟨e.th, e.c, a, k, z⟩ := rfl
set_option maxHeartbeats 4000000 in
set_option maxRecDepth 100000 in
theorem ropers_no {w : World} {A : Option Addr} {n c : Nat} {l : List Ev} (h : Sl evc w A n c l) (hn : n ≤ 100000) (hm : mayB l = false) : Calls Try.prog 8 #[.slice A n c] w fun r w' => r = .returned (.slice none 0 0) ∧ Below w.heap.size w w' := by
  have hc := rmay_any h (by omega)
  rw [hm] at hc
  clear hm
  go_enter Try.func8, Try.ntmps8
  go_wp2_with (go_at_call 10; refine hc.mono ?_; rintro e w1 ⟨rfl, hb1⟩)
  go_ret
  exact ⟨rfl, hb1⟩
set_option maxHeartbeats 4000000 in
set_option maxRecDepth 100000 in
theorem ropers_yes {w : World} {A : Option Addr} {n c : Nat} {l : List Ev} (h : Sl evc w A n c l) (hn : n ≤ 100000) (hm : mayB l = true) : Calls Try.prog 8 #[.slice A n c] w fun r w' => ∃ A' c', r = .returned (.slice A' (opersR l 0).length c') ∧ w'.ownsRow w.heap.size 39 16 (.slice A' (opersR l 0).length c') (opersR l 0).length ((opersR l 0).flatMap opc) ∧ Below w.heap.size w w' := by
  obtain ⟨i0, E⟩ := elem_o
  have hlen := h.len
  have hc := rmay_any h (by omega)
  rw [hm] at hc
  clear hm
  go_enter Try.func8, Try.ntmps8
  go_wp2_with (go_at_call 10; refine hc.mono ?_; rintro e w1 ⟨rfl, hb1⟩)
  clear hc
  go_loopg [3, 4] n (fun gk out i wr => ∃ (k m : Nat) (A' : Option Addr) (c' : Nat), k + gk = n ∧ i = .int .i64 k ∧ out = .slice A' m c' ∧ Hid (m = (opP l k).length) ∧ wr.ownsRow w.heap.size 39 16 (.slice A' m c') m ((opP l k).flatMap opc) ∧ Below w.heap.size w wr)
  case atStart => exact ⟨0, 0, none, 0, by omega, rfl, rfl, rfl, World.ownsRow_nil _ _ _ _, hb1⟩
  case round =>
    clear hb1
    obtain ⟨k, m, A', c', hk, rfl, rfl, hm, own, kb⟩ := hrel
    obtain ⟨gr, hgr⟩ : ∃ g, g = gk := ⟨_, rfl⟩
    subst hgr
    by_cases hlt : k < n
    · obtain ⟨b, o', rfl, _, hc⟩ := h.base evc_len (by decide) (by omega)
      obtain ⟨e, he⟩ : ∃ e, l[k]? = some e := ⟨l[k]'(by omega), List.getElem?_eq_getElem (i := k) _⟩
      have c0 : wr.cell? ⟨b, o' + k * 15, none⟩ = some (.int .i64 e.th) := keep_below (by have h0 := hc k e 0 _ he rfl; simpa [Nat.add_assoc] using h0) kb
      have c1 : wr.cell? ⟨b, o' + k * 15 + 1, none⟩ = some (.bool e.bk) := keep_below (by have h0 := hc k e 1 _ he rfl; simpa [Nat.add_assoc] using h0) kb
      have hrg : wr.rangeAt b (o' + k * 15 + 2) [.int .i64 e.c.op, .int .i64 e.c.lv, .int .i64 e.c.key, .int .u64 e.c.a, .int .u64 e.c.b, .int .u64 e.c.h, .int .i64 e.c.rg] := fun j v hj => keep_below (by
        have h0 := hc k e (2 + j) v he (by
          have : j < 7 := (List.getElem?_eq_some_iff.1 hj).1
          rw [← hj]
          show ([_, _] ++ ([_, _, _, _, _, _, _] ++ [_, _, _, _, _, _]) : List Value)[2 + j]? = _
          rw [List.getElem?_append_right (by simp), List.getElem?_append_left (by simp; omega)]
          simp)
        simpa [Nat.add_assoc] using h0) kb
      have b0 : (0 : Int) ≤ (k : Int) := by omega
      have b1 : (k : Int) < (n : Int) := by omega
      have hmk : m ≤ k := by have := hm.out; have := opP_len l k; omega
      have HE := Lib.hid he
      cases hb : e.bk with
      | true =>
        rw [hb] at c1
        have HO : Hid (opP l (k + 1) = opP l k) := by rw [Hid, opP, he]; simp [hb]
        clear hb he hc hrg c0
        go_wp2_with fail
        go_roundg (gr - 1)
        case measure => omega
        case rel => exact ⟨k + 1, m, A', c', by omega, by go_num, rfl, by rw [Hid, HO.out]; exact hm.out, by rw [HO.out]; exact own, kb⟩
      | false =>
        rw [hb] at c1
        have HO : Hid (opP l (k + 1) = opP l k ++ [mkO e k (ansr e.th (l.drop (k + 1)) (k + 1))]) := by rw [Hid, opP, he]; simp [hb]
        clear hb he
        go_upto_region 8 with (fail)
        obtain ⟨W3, hW3⟩ : ∃ W3, W3 = wr := ⟨_, rfl⟩
        subst hW3
        have hX := @Ext.cell W3
        have hzz0 := block_lt_of_cell c0
        refine wp_region_noPanic ?_
        refine wp_region_plan (fun w' => ∃ x : Ext W3, w' = x.w) [([0, 1, 2, 3, 4, 5, 6, 7, 8, 9, 10, 11], 12), ([], 13)] [] (by kernel_rfl) (by kernel_rfl) (by kernel_rfl) (fun _ _ _ _ _ h => h) ⟨⟨_, (brefl W3).drew⟩, rfl⟩ ?_
        refine wpPlan_cons ?_
        simp only [pickOps, List.getElem?_cons_succ, List.getElem?_cons_zero, Option.elim_some]
        go_big_quiet_step (fail)
        go_big_quiet_step (fail)
        go_big_quiet_step (fail)
        go_big_quiet_step (fail)
        go_big_quiet_step (fail)
        go_big_quiet_step (fail)
        go_big_quiet_step (fail)
        go_big_quiet_step (fail)
        go_big_quiet_step (fail)
        refine wpQuiet_load_mid rfl 34 (.tmp 30) rfl b (o' + k * 15 + 2) rfl [.int .i64 e.c.op, .int .i64 e.c.lv, .int .i64 e.c.key, .int .u64 e.c.a, .int .u64 e.c.b, .int .u64 e.c.h, .int .i64 e.c.rg] _ (range_ext hrg) Try.underlying34 rfl (by kernel_rfl) ?_; simp only [Act.put, List.setIfInBounds_toArray, List.set_cons_succ, List.set_cons_zero]
        go_big_quiet_step (fail)
        go_big_quiet_step (fail)
        refine wpQuiet_nil ?_
        refine planAct_some (fun K hK => ?_)
        go_simp
        refine hK.out _ _ ⟨⟨_, (bnew (brefl W3).drew _)⟩, rfl⟩ ?_
        clear hK K
        refine wpPlan_cons ?_
        simp only [pickOps, List.getElem?_cons_succ, List.getElem?_cons_zero, Option.elim_some]
        repeat (go_big_quiet_step (fail))
        refine wpQuiet_nil ?_
        refine planAct_some (fun K hK => ?_)
        go_simp
        refine hK.out _ _ ⟨⟨_, (bnew (brefl W3).drew _)⟩, rfl⟩ ?_
        clear hK K
        refine wpPlan_last ?_
        simp only [pickOps, List.getElem?_cons_succ, List.getElem?_cons_zero, Option.elim_some]
        repeat (go_big_quiet_step (fail))
        refine wpQuiet_nil ?_
        refine NoPanic.normal ?_
        clear hX hzz0
        obtain ⟨W1, hW1, hBx, ownx, kbx⟩ : ∃ W1, (W3.alloc (.cells #[.int .i64 e.th, .int .i64 e.c.op, .int .i64 e.c.lv, .int .i64 e.c.key, .int .u64 e.c.a, .int .u64 e.c.b, .int .u64 e.c.h, .int .i64 e.c.rg, .int .i64 0, .int .u64 0, .int .u64 0, .int .u64 0, .int .i64 0, .int .i64 0, .int .i64 (k : Int), .int .i64 (-1)] 39)).drew = W1 ∧ Blk W1 W3.heap.size 39 (opc (mkO e k (ansr e.th ((l.drop (k + 1)).take 0) (k + 1)))).toArray ∧ W1.ownsRow w.heap.size 39 16 (.slice A' m c') m ((opP l k).flatMap opc) ∧ Below w.heap.size w W1 := ⟨_, rfl, Blk.new W3 _ _, (own.alloc _ :), (bnew kb _).drew⟩
        rw [hW1]
        have hxw := kb.size
        have HAX : Hid (∀ kk, (Value.slice A' m c').ownBlock = some kk → kk ≠ W3.heap.size) := fun kk hk => by have := own_ltb own kk hk; omega
        have hbw : b < w.heap.size := h.rd.lt (by intro e; have := congrArg List.length e; rw [flat_len evc_len] at this; simp at this; omega) _ rfl
        clear hW1 own kb c0 c1 hrg
        generalize W3.heap.size = x at *
        go_wp2_with fail
        go_loopg [6] (n - (k + 1)) (fun gj jj wr => ∃ d : Nat, k + 1 + d + gj = n ∧ jj = .int .i64 ((k : Int) + 1 + (d : Int)) ∧ Blk wr x 39 (opc (mkO e k (ansr e.th ((l.drop (k + 1)).take d) (k + 1)))).toArray ∧ wr.ownsRow w.heap.size 39 16 (.slice A' m c') m ((opP l k).flatMap opc) ∧ Below w.heap.size w wr)
        case atStart => exact ⟨0, by omega, by go_num, hBx, ownx, kbx⟩
        case round =>
          clear hBx ownx kbx
          obtain ⟨d, hd, rfl, hBx, ownx, kbx⟩ := hrel
          have hmz := kbx.size
          by_cases hd2 : k + 1 + d < n
          · cases hX : ansr e.th ((l.drop (k + 1)).take d) (k + 1) with
            | some y =>
              obtain ⟨r, av⟩ := y
              have HEND : ansr e.th ((l.drop (k + 1)).take d) (k + 1) = ansr e.th (l.drop (k + 1)) (k + 1) := by rw [hX, ansr_take _ _ _ _ _ hX]
              have c15 : wr.cell? ⟨x, 15, none⟩ = some (.int .i64 (r : Int)) := by rw [hX] at hBx; exact hBx.cell 15
              have t1 : decide ((r : Int) < 0) = false := decide_eq_false (by omega)
              have t2 : (k : Int) + 1 + (d : Int) < (n : Int) := by omega
              have zx := hBx.lt
              clear hX
              have hB' := Lib.hid hBx
              have HXX : Hid (ansr e.th ((l.drop (k + 1)).take d) (k + 1) = ansr e.th (l.drop (k + 1)) (k + 1)) := HEND
              have hinf : (Try.prog.info? 39).map (·.size) = some 16 := by kernel_rfl
              generalize hcs : mkO e k (ansr e.th ((l.drop (k + 1)).take d) (k + 1)) = O at *
              have HCS := Lib.hid hcs
              clear hcs
              go_wp2_with (first | (refine wpList_load_row (o := ⟨some 64, _, _, _, _, _⟩) rfl 39 (.tmp 5) rfl x rfl 39 #[.int .i64 O.th, .int .i64 O.c.op, .int .i64 O.c.lv, .int .i64 O.c.key, .int .u64 O.c.a, .int .u64 O.c.b, .int .u64 O.c.h, .int .i64 O.c.rg, .int .i64 O.a.er, .int .u64 O.a.ra, .int .u64 O.a.rb, .int .u64 O.a.rh, .int .i64 O.a.n, .int .i64 O.a.k, .int .i64 O.fr, .int .i64 O.fin] _ _ hB'.out Try.underlying39 rfl hinf ?_) | (at_builtin; refine wpList_onto (W0 := w) (ys := [.int .i64 O.th, .int .i64 O.c.op, .int .i64 O.c.lv, .int .i64 O.c.key, .int .u64 O.c.a, .int .u64 O.c.b, .int .u64 O.c.h, .int .i64 O.c.rg, .int .i64 O.a.er, .int .u64 O.a.ra, .int .u64 O.a.rb, .int .u64 O.a.rh, .int .i64 O.a.n, .int .i64 O.a.k, .int .i64 O.fr, .int .i64 O.fin]) (m := 1) E rfl (.tmp 63) (.tmp 65) rfl (bnew kbx _) rfl (ownx.alloc _) rfl rfl (Rd.new _ _ _ rfl) (by simp [Value.oneCell']) (by unfold maxLen; omega) (by omega) ?_; intro A8 c8 w8 own8 hb8 hg8))
              go_roundg (gr - 1)
              case measure => omega
              case rel =>
                refine ⟨k + 1, m + 1, A8, c8, by omega, by go_num, rfl, ?_, ?_, hb8⟩
                · rw [Hid, HO.out, hm.out]; simp
                · rw [HO.out, List.flatMap_append]
                  simp only [List.flatMap_cons, List.flatMap_nil, List.append_nil]
                  rw [← HXX.out, HCS.out]
                  exact own8

            | none =>
              have c15 : wr.cell? ⟨x, 15, none⟩ = some (.int .i64 (-1)) := by rw [hX] at hBx; exact hBx.cell 15
              have c00 : wr.cell? ⟨x, 0, none⟩ = some (.int .i64 e.th) := by rw [hX] at hBx; exact hBx.cell 0
              have f15 := hBx.frozen 15
              have zx := hBx.lt
              have t2 : (k : Int) + 1 + (d : Int) < (n : Int) := by omega
              have t3 : (0 : Int) ≤ (k : Int) + 1 + (d : Int) := by omega
              have t4 : ((k : Int) + 1 + (d : Int)).toNat = k + 1 + d := by omega
              obtain ⟨u, hu⟩ : ∃ u, l[k + 1 + d]? = some u := ⟨l[k + 1 + d]'(by omega), List.getElem?_eq_getElem (i := k + 1 + d) _⟩
              have e0 : wr.cell? ⟨b, o' + (k + 1 + d) * 15, none⟩ = some (.int .i64 u.th) := keep_below (by have h0 := hc (k + 1 + d) u 0 _ hu rfl; simpa [Nat.add_assoc] using h0) kbx
              have hrg : wr.rangeAt b (o' + (k + 1 + d) * 15 + 9) [.int .i64 u.a.er, .int .u64 u.a.ra, .int .u64 u.a.rb, .int .u64 u.a.rh, .int .i64 u.a.n, .int .i64 u.a.k] := fun j v hj => keep_below (by
                have h0 := hc (k + 1 + d) u (9 + j) v hu (by
                  rw [← hj]
                  show ([_, _, _, _, _, _, _, _, _] ++ [_, _, _, _, _, _] : List Value)[9 + j]? = _
                  rw [List.getElem?_append_right (by simp)]
                  simp)
                simpa [Nat.add_assoc] using h0) kbx
              have HX2 : Hid (ansr e.th ((l.drop (k + 1)).take (d + 1)) (k + 1) = if u.th = e.th then some (k + 1 + d, u.a) else none) := by
                rw [Hid, List.take_add_one, List.getElem?_drop, hu, Option.toList_some, ansr_snoc, hX]
                simp only [List.length_take, List.length_drop]
                rw [Nat.min_eq_left (by omega)]
              rw [hX] at hBx
              clear hX hu
              by_cases hth : u.th = e.th
              · rw [if_pos hth] at HX2
                rw [hth] at e0
                have tt : (e.th == e.th) = true := by simp
                clear hth
                go_upto_region 12 with (fail)
                go_quiet (fail)
                go_upto_region 14 with (fail)
                obtain ⟨W6, hW6, hk6, hB6, own6, kb6⟩ : ∃ W6, (wr.drewN nq).setCell ⟨x, 15, none⟩ (.int .i64 ((k : Int) + 1 + (d : Int))) = W6 ∧ (∀ b0 o0 u0, (wr.drewN nq).cell? ⟨b0, o0, none⟩ = some u0 → b0 ≠ x → W6.cell? ⟨b0, o0, none⟩ = some u0) ∧ Blk W6 x 39 ((opc (mkO e k none)).set 15 (.int .i64 ((k : Int) + 1 + (d : Int)))).toArray ∧ W6.ownsRow w.heap.size 39 16 (.slice A' m c') m ((opP l k).flatMap opc) ∧ Below w.heap.size w W6 := ⟨_, rfl, fun b0 o0 u0 hc0 hn0 => ((Keeps.refl (fun b => b = x) (wr.drewN nq)).setCell (p := ⟨x, 15, none⟩) (fun _ => rfl) _).cell hc0 hn0, (hBx.drewN nq).set_ 15 _, ((Keeps.refl (fun b => b = x) (wr.drewN nq)).setCell (p := ⟨x, 15, none⟩) (fun _ => rfl) _).own (ownx :) (fun kk e q => HAX.out kk e q), bset (below_drewN kbx nq) (p := ⟨x, 15, none⟩) (by dsimp only; omega) _⟩
                rw [hW6]
                have hr6 : W6.rangeAt b (o' + (k + 1 + d) * 15 + 9) [.int .i64 u.a.er, .int .u64 u.a.ra, .int .u64 u.a.rb, .int .u64 u.a.rh, .int .i64 u.a.n, .int .i64 u.a.k] := fun j v hj => hk6 _ _ _ (hrg j v hj) (by omega)
                have hth6 : W6.there x 8 6 := fun i hi => ⟨by
                  rw [hB6.cell, List.getElem?_toArray, List.getElem?_eq_getElem (by rw [List.length_set, opc_len]; omega)]; rfl, hB6.frozen _⟩
                have HB6 := Lib.hid hB6
                have zx6 := hB6.lt
                clear hW6 hk6 hB6 hrg c15 c00 f15 e0 hBx zx kbx ownx
                go_wp2_with (first | (refine wpList_load_mid (op := ⟨some 61, _, _, _, _, _⟩) rfl 37 (.tmp 60) rfl b (o' + (k + 1 + d) * 15 + 9) rfl [.int .i64 u.a.er, .int .u64 u.a.ra, .int .u64 u.a.rb, .int .u64 u.a.rh, .int .i64 u.a.n, .int .i64 u.a.k] _ hr6 Try.underlying37 rfl (by kernel_rfl) ?_) | (refine wpList_store_mid (op := ⟨none, .store 37 (.tmp 62) (.tmp 61), _, _, _, _⟩) rfl 37 (.tmp 62) (.tmp 61) rfl x 8 #[.int .i64 u.a.er, .int .u64 u.a.ra, .int .u64 u.a.rb, .int .u64 u.a.rh, .int .i64 u.a.n, .int .i64 u.a.k] rfl rfl hth6 (by kernel_rfl) (by simp [Value.oneCell']) ?_; obtain ⟨W7, hW7⟩ : ∃ W7, W6.setCells x 8 (#[.int .i64 u.a.er, .int .u64 u.a.ra, .int .u64 u.a.rb, .int .u64 u.a.rh, .int .i64 u.a.n, .int .i64 u.a.k] : Array Value).toList = W7 := ⟨_, rfl⟩; rw [hW7]; have HW7 := Lib.hid hW7; clear hW7))
                go_roundg (gk - 1)
                case measure => omega
                case rel =>
                  have hc7 : ((k + 1 + d : Nat) : Int) = (k : Int) + 1 + (d : Int) := by omega
                  refine ⟨d + 1, by omega, by go_num, ?_, ?_, ?_⟩
                  · rw [HX2.out, ← HW7.out]
                    show Blk _ x _ (opc ⟨e.th, e.c, u.a, k, ((k + 1 + d : Nat) : Int)⟩).toArray
                    rw [hc7, ← filled]
                    exact blk_setCells (avc u.a) 8 W6 _ HB6.out
                  · rw [← HW7.out]
                    exact (keeps_setCells (S := fun b => b = x) rfl _ _ _ _ (Keeps.refl _ _)).own own6 (fun kk e q => HAX.out kk e q)
                  · rw [← HW7.out]
                    exact below_setCells (by omega) _ _ _ kb6
              · rw [if_neg hth] at HX2
                have tt : (u.th == e.th) = false := by simpa using hth
                clear hth
                go_upto_region 12 with (fail)
                go_quiet (fail)
                go_wp2_with fail
                go_roundg (gk - 1)
                case measure => omega
                case rel => exact ⟨d + 1, by omega, by go_num, by rw [HX2.out]; exact hBx.drewN nq, (ownx :), below_drewN kbx nq⟩
          · have HEND : ansr e.th ((l.drop (k + 1)).take d) (k + 1) = ansr e.th (l.drop (k + 1)) (k + 1) := by rw [List.take_of_length_le (by rw [List.length_drop]; omega)]
            have t2 : ¬ ((k : Int) + 1 + (d : Int) < (n : Int)) := by omega
            have zx := hBx.lt
            have hB' := Lib.hid hBx
            have HXX : Hid (ansr e.th ((l.drop (k + 1)).take d) (k + 1) = ansr e.th (l.drop (k + 1)) (k + 1)) := HEND
            have hinf : (Try.prog.info? 39).map (·.size) = some 16 := by kernel_rfl
            generalize hcs : mkO e k (ansr e.th ((l.drop (k + 1)).take d) (k + 1)) = O at *
            have HCS := Lib.hid hcs
            clear hcs
            go_wp2_with (first | (refine wpList_load_row (o := ⟨some 64, _, _, _, _, _⟩) rfl 39 (.tmp 5) rfl x rfl 39 #[.int .i64 O.th, .int .i64 O.c.op, .int .i64 O.c.lv, .int .i64 O.c.key, .int .u64 O.c.a, .int .u64 O.c.b, .int .u64 O.c.h, .int .i64 O.c.rg, .int .i64 O.a.er, .int .u64 O.a.ra, .int .u64 O.a.rb, .int .u64 O.a.rh, .int .i64 O.a.n, .int .i64 O.a.k, .int .i64 O.fr, .int .i64 O.fin] _ _ hB'.out Try.underlying39 rfl hinf ?_) | (at_builtin; refine wpList_onto (W0 := w) (ys := [.int .i64 O.th, .int .i64 O.c.op, .int .i64 O.c.lv, .int .i64 O.c.key, .int .u64 O.c.a, .int .u64 O.c.b, .int .u64 O.c.h, .int .i64 O.c.rg, .int .i64 O.a.er, .int .u64 O.a.ra, .int .u64 O.a.rb, .int .u64 O.a.rh, .int .i64 O.a.n, .int .i64 O.a.k, .int .i64 O.fr, .int .i64 O.fin]) (m := 1) E rfl (.tmp 63) (.tmp 65) rfl (bnew kbx _) rfl (ownx.alloc _) rfl rfl (Rd.new _ _ _ rfl) (by simp [Value.oneCell']) (by unfold maxLen; omega) (by omega) ?_; intro A8 c8 w8 own8 hb8 hg8))
            go_roundg (gr - 1)
            case measure => omega
            case rel =>
              refine ⟨k + 1, m + 1, A8, c8, by omega, by go_num, rfl, ?_, ?_, hb8⟩
              · rw [Hid, HO.out, hm.out]; simp
              · rw [HO.out, List.flatMap_append]
                simp only [List.flatMap_cons, List.flatMap_nil, List.append_nil]
                rw [← HXX.out, HCS.out]
                exact own8

    · have hge : ¬ ((k : Int) < (n : Int)) := by omega
      obtain rfl : k = n := by omega
      have hm' := hm.out
      rw [opP_end hlen] at hm' own
      subst hm'
      clear h
      go_wp2
      go_ret
      exact ⟨A', c', rfl, own, kb⟩
end Go.Proofs.Ytkcilmnmbfbogaa
