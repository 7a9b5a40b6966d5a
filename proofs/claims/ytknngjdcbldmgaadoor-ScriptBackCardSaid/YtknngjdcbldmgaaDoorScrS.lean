/- The bytes of a script, by the document. -/
import Derived.Test.YtknngjdcbldmgaaDoorScrR
namespace Go.Proofs.YtknngjdcbldmgaaDoor
set_option linter.unusedVariables false
set_option linter.unusedSimpArgs false
open Go.RowKit

theorem ub1 (x : Int) : ub 1 x = [x % 256] := by
  simp only [ub, num, IntKind.wrap_u64]
  simp
theorem num1 (x : Int) : num 1 x = [x % 256] := by simp [num]
def EnOk (e : En) : Prop := 0 ≤ e.th ∧ e.th < 8 ∧ 0 ≤ e.wh ∧ e.wh ≤ 3
theorem ent1 {e : En} (h : EnOk e) : num 1 (entN e) = [e.th + 8 * e.wh] := by
  obtain ⟨h1, h2, h3, h4⟩ := h
  have e1 : (IntKind.u64.wrap e.th).toNat = e.th.toNat := by rw [IntKind.wrap_u64]; congr 1; omega
  have e2 : (IntKind.u64.wrap e.wh).toNat = e.wh.toNat := by rw [IntKind.wrap_u64]; congr 1; omega
  have e3 := Fld.set_put (w := e.th.toNat) (n := e.wh.toNat) (a := 3) (s := 2) (by omega) (by omega) (by omega)
  rw [num1, entN, e1, e2]
  have e4 : ((3 : Nat) : Int) = 3 := rfl
  have e5 : ((2 : Nat) : Int) = 2 := rfl
  rw [e4, e5] at e3
  rw [e3]
  congr 1
  omega
def CVk (x : CV) : Prop := CVu x ∧ I64 x.key
theorem ite_pos_ {c : Prop} [Decidable c] {p q : Prop} (h : c) (hp : p) : if c then p else q := by rw [if_pos h]; exact hp
theorem own_qb {w : World} {B : Nat} {e : TypeId} {size n : Nat} {v : Value} {xs : List Value} (h : w.ownsRow B e size v n xs) : ∃ q, B ≤ q ∧ ∀ k, v.ownBlock = some k → k = q := by
  cases hv : v.ownBlock with
  | none => exact ⟨B, Nat.le_refl _, fun k h => by cases h⟩
  | some q => exact ⟨q, own_ge h q hv, fun k h => by cases h; rfl⟩
set_option maxHeartbeats 4000000 in
set_option maxRecDepth 100000 in
theorem rput_any {w : World} {c : Cf} {us : List Value} {ps : List (List CV)} {EA : Option Addr} {en ec : Nat} {es : List En} (hP : PIn (fun _ => False) w us ps) (hE : Sl enc_ w EA en ec es) (hm : mayB c = true) (hen : en ≤ 1000000) (hps : ∀ l, l ∈ ps → l.length ≤ 1000000) (hU : ∀ l, l ∈ ps → ∀ x, x ∈ l → CVk x) (hO : ∀ x, x ∈ es → EnOk x) :
    Calls Tryd.prog 17 #[.agg (scc c us (.slice EA en ec)).toArray] w fun e w' => ∃ A n d, e = .returned (.slice A n d) ∧ Below w.heap.size w w' ∧ w'.ownsRow w.heap.size 5 1 (.slice A n d) n ((scriptW c ps es).map b8) := by
  obtain ⟨i1, E2⟩ := elem_b
  have h8 := hP.u8
  have m : c.May := of_decide_eq_true hm
  have HTH : Hid (1 ≤ c.th ∧ c.th ≤ 8) := ⟨m.t1, m.t2⟩
  have hi := info_scc (c := c) (ev := .slice EA en ec) h8
  obtain ⟨W0, hW0, hB, kb⟩ : ∃ W0, w.alloc (.cells (scc c us (.slice EA en ec)).toArray 29) = W0 ∧ Blk W0 w.heap.size 29 (scc c us (.slice EA en ec)).toArray ∧ Below w.heap.size w W0 := ⟨_, rfl, Blk.new _ _ _, bnew (brefl w) _⟩
  have hP0 := hP.below kb
  have hE0 := hE.below kb
  have r0 : W0.rangeAt w.heap.size 0 [.int .i64 c.lv, .int .i64 c.th, .int .i64 c.o0, .int .i64 c.o1, .int .i64 c.o2, .int .i64 c.o3, .int .i64 c.o4, .int .i64 c.o5, .int .i64 c.o6, .int .i64 c.o7, .int .i64 c.sl, .int .i64 c.li, .int .i64 c.ge, .int .i64 c.qu] := range_blk hB 0 (scc_conf c us _)
  have HPL := Lib.hid (progsW_len hps hP.p8)
  have HPS := Lib.hid hps
  have HU := Lib.hid hU
  have HO := Lib.hid hO
  clear hP hE m hU hO hm hps
  go_enter Tryd.func17, Tryd.ntmps17
  go_upto_region 1 with (fail)
  generalize hV : Value.agg (scc c us (.slice EA en ec)).toArray = V at *
  have tok1 : True := trivial
  go_upto_region 2 with (have _t := tok1; refine wpList_load_mid (op := ⟨some 11, _, _, _, _, _⟩) rfl 24 (.tmp 10) rfl w.heap.size (0) rfl [.int .i64 c.lv, .int .i64 c.th, .int .i64 c.o0, .int .i64 c.o1, .int .i64 c.o2, .int .i64 c.o3, .int .i64 c.o4, .int .i64 c.o5, .int .i64 c.o6, .int .i64 c.o7, .int .i64 c.sl, .int .i64 c.li, .int .i64 c.ge, .int .i64 c.qu] _ r0 Tryd.underlying24 rfl (by kernel_rfl) ?_; clear tok1 _t)
  generalize Value.agg #[.int .i64 c.lv, .int .i64 c.th, .int .i64 c.o0, .int .i64 c.o1, .int .i64 c.o2, .int .i64 c.o3, .int .i64 c.o4, .int .i64 c.o5, .int .i64 c.o6, .int .i64 c.o7, .int .i64 c.sl, .int .i64 c.li, .int .i64 c.ge, .int .i64 c.qu] = V1 at *
  obtain ⟨q1, hq1⟩ : ∃ q1, W0.heap.size = q1 := ⟨_, rfl⟩
  obtain ⟨W1, hW1, BC, K1⟩ : ∃ W1, W0.alloc (.cells #[.int .i64 c.lv, .int .i64 c.th, .int .i64 c.o0, .int .i64 c.o1, .int .i64 c.o2, .int .i64 c.o3, .int .i64 c.o4, .int .i64 c.o5, .int .i64 c.o6, .int .i64 c.o7, .int .i64 c.sl, .int .i64 c.li, .int .i64 c.ge, .int .i64 c.qu] 24) = W1 ∧ Blk W1 q1 24 #[.int .i64 c.lv, .int .i64 c.th, .int .i64 c.o0, .int .i64 c.o1, .int .i64 c.o2, .int .i64 c.o3, .int .i64 c.o4, .int .i64 c.o5, .int .i64 c.o6, .int .i64 c.o7, .int .i64 c.sl, .int .i64 c.li, .int .i64 c.ge, .int .i64 c.qu] ∧ Below W0.heap.size W0 W1 := ⟨_, rfl, by rw [← hq1]; exact Blk.new _ _ _, bnew (brefl W0) _⟩
  rw [hW1, hq1]
  have hBB := hB.below_ K1
  have x22 : W1.cell? ⟨w.heap.size, 22, none⟩ = some (.slice EA en ec) := (hBB.cell 22).trans (by rw [List.getElem?_toArray]; exact scc_last h8)
  have xk : ∀ (k : Nat) (v : Value), us[k]? = some v → W1.cell? ⟨w.heap.size, 14 + k, none⟩ = some v := fun k v hk => (hBB.cell _).trans (by rw [List.getElem?_toArray]; exact scc_get hk)
  have HP := Lib.hid (hP0.below K1)
  have HE := Lib.hid (hE0.below K1)
  have HBC := Lib.hid BC
  have XK := Lib.hid xk
  have X22 := Lib.hid x22
  have xo : ∀ k : Nat, k < 8 → W1.cell? ⟨q1, 2 + k, none⟩ = some (.int .i64 (c.of k)) := fun k hk => by
    rcases (by omega : k = 0 ∨ k = 1 ∨ k = 2 ∨ k = 3 ∨ k = 4 ∨ k = 5 ∨ k = 6 ∨ k = 7) with rfl | rfl | rfl | rfl | rfl | rfl | rfl | rfl <;> exact BC.cell _
  have XO := Lib.hid xo
  have KW := Lib.hid (bnext kb K1)
  have y0 := BC.cell 0
  have y1 := BC.cell 1
  have zq := BC.lt
  clear hW1 hq1 hB r0 hP0 hE0 K1 kb hBB xk x22 BC xo
  go_upto_region 4 with (fail)
  have own0 : (W1.alloc (.cells #[.int .u8 (c.lv % 256), .int .u8 (c.th % 256)] 5)).ownsRow W1.heap.size 5 1 (.slice (some ⟨W1.heap.size, 0, none⟩) 2 2) 2 (([c.lv, c.th].flatMap (ub 1)).map b8) := (Blk.new W1 5 _).own (Nat.le_refl _) (Nat.le_refl _) (by decide) rfl (by simp [ub1, b8])
  have kr0 := bnew (brefl W1) (.cells #[.int .u8 (c.lv % 256), .int .u8 (c.th % 256)] 5)
  clear y0 y1 zq
  go_loopg [4, 5] 8 (fun gk s4 i wr => ∃ (k : Nat) (A : Option Addr) (c' : Nat), k + gk = 8 ∧ i = .int .i64 k ∧ s4 = .slice A (2 + k) c' ∧ wr.ownsRow W1.heap.size 5 1 (.slice A (2 + k) c') (2 + k) (([c.lv, c.th].flatMap (ub 1) ++ ofW c k).map b8) ∧ Below W1.heap.size W1 wr)
  case atStart => exact ⟨0, _, _, by omega, rfl, rfl, by simpa [ofW] using own0, kr0⟩
  case round =>
    clear own0 kr0
    obtain ⟨k, A, c', hk, rfl, rfl, own, kr⟩ := hrel
    by_cases hlt : k < 8
    · have b0 : (0 : Int) ≤ (k : Int) := by omega
      have b1 : (k : Int) < 8 := by omega
      have yo := keep_below (XO.out k hlt) kr
      have yz := block_lt_of_cell yo
      have HN : Hid (([c.lv, c.th].flatMap (ub 1) ++ ofW c (k + 1)).map b8 = ([c.lv, c.th].flatMap (ub 1) ++ ofW c k).map b8 ++ [b8 (c.of k % 256)]) := by rw [Hid, ofW_step, ← List.append_assoc, List.map_append]; simp [ub1]
      generalize c.of k = ok at *
      have tok1 : True := trivial
      go_wp2_with (have _t := tok1; at_builtin; refine wpList_onto (o := ⟨some 30, _, _, _, _, _⟩) (W0 := W1) (ys := [b8 (ok % 256)]) (m := 1) E2 rfl (.tmp 23) (.tmp 29) rfl (bnew kr _) rfl (own.alloc _) rfl (by simp) (Rd.new _ _ _ rfl) (by simp [Value.oneCell', b8]) (by unfold maxLen; omega) (by omega) ?_; intro X1 cX1 wX1 oo1 kk1 gg1; clear tok1 _t)
      go_roundg (gk - 1)
      case measure => omega
      case rel => exact ⟨k + 1, X1, cX1, by omega, by go_num, rfl, by rw [HN.out]; exact oo1, kk1⟩
    · have t9 : decide (k < 8) = false := decide_eq_false (by omega)
      obtain rfl : k = 8 := by omega
      have D := HBC.out.below_ kr
      have y3 := D.cell 10
      have y4 := D.cell 11
      have zq := D.lt
      have tok1 : True := trivial
      go_upto_region 8 with (have _t := tok1; at_builtin; refine wpList_onto (o := ⟨some 39, _, _, _, _, _⟩) (W0 := W1) (ys := [b8 (c.sl % 256), b8 (c.li % 256)]) (m := 2) E2 rfl (.tmp 31) (.tmp 38) rfl (bnew kr _) rfl (own.alloc _) rfl (by simp) (Rd.new _ _ _ rfl) (by simp [Value.oneCell', b8]) (by unfold maxLen; omega) (by omega) ?_; intro X1 cX1 wX1 oo1 kk1 gg1; clear tok1 _t)
      have D := HBC.out.below_ kk1
      have y5 := D.cell 12
      have zq := D.lt
      have tok1 : True := trivial
      clear y3 y4 gg1 own kr
      go_upto_region 9 with (first | (go_at_call 35; refine (num_any (x := IntKind.u64.wrap c.ge) (wrap_u _) (sz := 3) (by omega) _).mono ?_; rintro e wn2 ⟨An2, cn2, rfl, on2, hn2⟩; have ob2 := own_below oo1 hn2; have kb2 := bnext kk1 hn2) | (have _t := tok1; at_builtin; refine wpList_onto (o := ⟨some 45, _, _, _, _, _⟩) (W0 := W1) (ys := ((num 3 (IntKind.u64.wrap c.ge)).map b8)) (m := 3) E2 rfl (.tmp 40) (.tmp 44) rfl (kb2) rfl (ob2) rfl (by simp [num_len]) (Rd.of_own on2) (by simp [Value.oneCell', b8]) (by unfold maxLen; omega) (by omega) ?_; intro X2 cX2 wX2 oo2 kk2 gg2; clear tok1 _t))
      have D := HBC.out.below_ kk2
      have y6 := D.cell 13
      have zq := D.lt
      have tok1 : True := trivial
      clear y5 gg2 oo1 kk1 on2 hn2 ob2 kb2
      go_upto_region 11 with (have _t := tok1; at_builtin; refine wpList_onto (o := ⟨some 51, _, _, _, _, _⟩) (W0 := W1) (ys := [b8 (c.qu % 256)]) (m := 1) E2 rfl (.tmp 46) (.tmp 50) rfl (bnew kk2 _) rfl (oo2.alloc _) rfl (by simp) (Rd.new _ _ _ rfl) (by simp [Value.oneCell', b8]) (by unfold maxLen; omega) (by omega) ?_; intro X3 cX3 wX3 oo3 kk3 gg3; clear tok1 _t)
      have own1 : wX3.ownsRow W1.heap.size 5 1 (.slice X3 16 cX3) 16 ((confW c ++ progsW ps 0).map b8) := by
        have h := oo3
        simp only [confW, progsW, List.range_zero, List.flatMap_nil, List.append_nil, List.map_append, List.flatMap_cons, ub1] at h ⊢
        simpa [ub, ub1, List.append_assoc] using h
      have D := HBC.out.below_ kk3
      have y1 := D.cell 1
      have zq := D.lt
      have HC16 := Lib.hid (confW_len c)
      clear oo3 oo2 kk2 gg3 y6 hlt hk
      obtain ⟨hth1, hth2⟩ := HTH.out
      go_loopg [4, 6] c.th.toNat (fun gk s4 i wr => ∃ (k m : Nat) (A : Option Addr) (c' : Nat), k + gk = c.th.toNat ∧ i = .int .i64 k ∧ s4 = .slice A m c' ∧ wr.ownsRow W1.heap.size 5 1 (.slice A m c') m ((confW c ++ progsW ps k).map b8) ∧ Below W1.heap.size W1 wr)
      case atStart => exact ⟨0, 16, X3, cX3, by omega, rfl, rfl, own1, kk3⟩
      case round =>
        clear own1 kk3 D y1 zq
        obtain ⟨k, m, A, c', hk, rfl, rfl, own, kr⟩ := hrel
        have D := HBC.out.below_ kr
        have y1 := D.cell 1
        have zq := D.lt
        by_cases hlt : (k : Int) < c.th
        · have hk8 : k < 8 := by omega
          obtain ⟨l, hl⟩ : ∃ l, ps[k]? = some l := ⟨ps[k]'(by have := HP.out.p8; omega), List.getElem?_eq_getElem (i := k) _⟩
          obtain ⟨A', n, d', hu, hs, _⟩ := HP.out.at_ k l hl
          have v00 := Lib.hid (XK.out k _ hu)
          have v0 := keep_below v00.out kr
          have hzv := block_lt_of_cell v0
          have b0 : (0 : Int) ≤ (k : Int) := by omega
          have b1 : (k : Int) < 8 := by omega
          have hlen : l.length ≤ 1000000 := HPS.out l (List.mem_of_getElem? hl)
          have hn : n ≤ 1000000 := by have := hs.len; omega
          have HN := Lib.hid hs.len
          have HS := Lib.hid hs
          have HCU := Lib.hid (HU.out l (List.mem_of_getElem? hl))
          have HPG := Lib.hid (progsW_succ (ps := ps) (k := k) hl)
          have hm1 : m ≤ 300000000 := by
            have h1 := own.1
            have hpl := HPL.out k (by omega)
            rw [List.length_map, List.length_append, HC16.out] at h1
            omega
          obtain ⟨bt, hbt⟩ : ∃ bt, confW c ++ progsW ps k = bt := ⟨_, rfl⟩
          rw [hbt] at own
          have HBT := Lib.hid hbt
          clear hl hu hbt hlen hs
          obtain ⟨gr, hgr⟩ : ∃ g, g = gk := ⟨_, rfl⟩
          subst hgr
          have tok1 : True := trivial
          go_upto_region 15 with (have _t := tok1; at_builtin; refine wpList_onto (o := ⟨some 66, _, _, _, _, _⟩) (W0 := W1) (ys := [b8 ((n : Int) % 256)]) (m := 1) E2 rfl (.tmp 58) (.tmp 65) rfl (bnew kr _) rfl (own.alloc _) rfl (by simp) (Rd.new _ _ _ rfl) (by simp [Value.oneCell', b8]) (by unfold maxLen; omega) (by omega) ?_; intro X1 cX1 wX1 oo1 kk1 gg1; clear tok1 _t)
          have own2 : wX1.ownsRow W1.heap.size 5 1 (.slice X1 (m + 1) cX1) (m + 1) ((bt ++ [(n : Int)].flatMap (num 1)).map b8) := by
            have h := oo1
            simpa [num1, b8] using h
          clear oo1 gg1 own kr D y1 zq v0 hzv
          go_loopg [4, 7] n (fun gk s4 i w4 => ∃ (j m2 : Nat) (A : Option Addr) (c' : Nat), j + gk = n ∧ i = .int .i64 j ∧ s4 = .slice A m2 c' ∧ w4.ownsRow W1.heap.size 5 1 (.slice A m2 c') m2 (((bt ++ [(n : Int)].flatMap (num 1)) ++ (l.take j).flatMap callW).map b8) ∧ Below W1.heap.size W1 w4 ∧ Hid (m2 = m + 1 + j * 35))
          case atStart => exact ⟨0, m + 1, X1, cX1, by omega, rfl, rfl, by simpa using own2, kk1, by show _ = _; omega⟩
          case round =>
            clear own2 kk1
            obtain ⟨j, m2, A, c', hj, rfl, rfl, own, kr, hm2⟩ := hrel
            have v0 := keep_below v00.out kr
            have hzv := block_lt_of_cell v0
            have hm3 : m2 ≤ 400000000 := by have := hm2.out; omega
            by_cases hjn : j < n
            · obtain ⟨b, o', rfl, _, _⟩ := HS.out.base cvc_len (by decide) (by omega)
              obtain ⟨x, hx⟩ : ∃ x, l[j]? = some x := ⟨l[j]'(by have := HN.out; omega), List.getElem?_eq_getElem (i := j) _⟩
              have r1 : wr.rangeAt b (o' + j * 7) [.int .i64 x.op, .int .i64 x.lv, .int .i64 x.key, .int .u64 x.a, .int .u64 x.b, .int .u64 x.h, .int .i64 x.rg] := range_sl cvc_len (HS.out.below kr) hx
              have j0 : (0 : Int) ≤ (j : Int) := by omega
              have j1 : (j : Int) < (n : Int) := by omega
              have HXK := Lib.hid (HCU.out x (List.mem_of_getElem? hx))
              have HT : Hid ((bt ++ [(n : Int)].flatMap (num 1)) ++ (l.take (j + 1)).flatMap callW = ((bt ++ [(n : Int)].flatMap (num 1)) ++ (l.take j).flatMap callW) ++ callW x) := by rw [Hid, List.take_add_one, hx]; simp
              obtain ⟨bu, hbu⟩ : ∃ bu, (bt ++ [(n : Int)].flatMap (num 1)) ++ (l.take j).flatMap callW = bu := ⟨_, rfl⟩
              rw [hbu] at own HT
              clear hbu hx
              have tok2 : True := trivial
              go_upto_region 18 with (have _t := tok2; refine wpList_load_mid (op := ⟨some 82, _, _, _, _, _⟩) rfl 63 (.tmp 81) rfl b (o' + j * 7) rfl [.int .i64 x.op, .int .i64 x.lv, .int .i64 x.key, .int .u64 x.a, .int .u64 x.b, .int .u64 x.h, .int .i64 x.rg] _ r1 Tryd.underlying63 rfl (by kernel_rfl) ?_; clear tok2 _t)
              obtain ⟨q5, hq5⟩ : ∃ q5, wr.heap.size = q5 := ⟨_, rfl⟩
              obtain ⟨W5, hW5, hB5, K5, own5⟩ : ∃ W5, wr.alloc (.cells #[.int .i64 x.op, .int .i64 x.lv, .int .i64 x.key, .int .u64 x.a, .int .u64 x.b, .int .u64 x.h, .int .i64 x.rg] 63) = W5 ∧ Blk W5 q5 63 #[.int .i64 x.op, .int .i64 x.lv, .int .i64 x.key, .int .u64 x.a, .int .u64 x.b, .int .u64 x.h, .int .i64 x.rg] ∧ Below W1.heap.size W1 W5 ∧ W5.ownsRow W1.heap.size 5 1 (.slice A m2 c') m2 (bu.map b8) := ⟨_, rfl, by rw [← hq5]; exact Blk.new _ _ _, bnew kr _, own.alloc _⟩
              rw [hW5, hq5]
              have c0 := hB5.cell 0
              have c1 := hB5.cell 1
              have c6 := hB5.cell 6
              have zq := hB5.lt
              clear hW5 hq5 r1 own kr v0 hzv
              have tok1 : True := trivial
              go_upto_region 19 with (have _t := tok1; at_builtin; refine wpList_onto (o := ⟨some 94, _, _, _, _, _⟩) (W0 := W1) (ys := [b8 (x.op % 256), b8 (x.lv % 256), b8 (x.rg % 256)]) (m := 3) E2 rfl (.tmp 83) (.tmp 93) rfl (bnew K5 _) rfl (own5.alloc _) rfl (by simp) (Rd.new _ _ _ rfl) (by simp [Value.oneCell', b8]) (by unfold maxLen; omega) (by omega) ?_; intro X1 cX1 wX1 oo1 kk1 gg1; clear tok1 _t)
              have hB6 := (hB5.alloc (.cells #[.int .u8 (x.op % 256), .int .u8 (x.lv % 256), .int .u8 (x.rg % 256)] 5)).grown gg1 (fun q => own_ne_blk own5 hB5 (by decide) q.symm)
              have c2 := hB6.cell 2
              have zq6 := hB6.lt
              clear c0 c1 c6 zq own5 hB5 K5 gg1
              have tok1 : True := trivial
              go_upto_region 20 with (first | (go_at_call 36; refine (rbits_any HXK.out.2 _).mono ?_; rintro e wz ⟨rfl, rfl⟩) | (go_at_call 35; refine (num_any (x := IntKind.u64.wrap x.key) (wrap_u _) (sz := 8) (by omega) _).mono ?_; rintro e wn2 ⟨An2, cn2, rfl, on2, hn2⟩; have ob2 := own_below oo1 hn2; have kb2 := bnext kk1 hn2) | (have _t := tok1; at_builtin; refine wpList_onto (o := ⟨some 100, _, _, _, _, _⟩) (W0 := W1) (ys := ((num 8 (IntKind.u64.wrap x.key)).map b8)) (m := 8) E2 rfl (.tmp 95) (.tmp 99) rfl (kb2) rfl (ob2) rfl (by simp [num_len]) (Rd.of_own on2) (by simp [Value.oneCell', b8]) (by unfold maxLen; omega) (by omega) ?_; intro X2 cX2 wX2 oo2 kk2 gg2; clear tok1 _t))
              have hB7 := ((hB6.below_ hn2).grown gg2 (fun q => own_ne_blk ob2 (hB6.below_ hn2) (by decide) q.symm))
              have c3 := hB7.cell 3
              have zq7 := hB7.lt
              clear zq6 c2 hB6 on2 hn2 ob2 kb2 gg2 oo1 kk1
              have tok1 : True := trivial
              go_upto_region 21 with (first | (go_at_call 35; refine (num_any (x := x.a) HXK.out.1.1 (sz := 8) (by omega) _).mono ?_; rintro e wn3 ⟨An3, cn3, rfl, on3, hn3⟩; have ob3 := own_below oo2 hn3; have kb3 := bnext kk2 hn3) | (have _t := tok1; at_builtin; refine wpList_onto (o := ⟨some 106, _, _, _, _, _⟩) (W0 := W1) (ys := ((num 8 (x.a)).map b8)) (m := 8) E2 rfl (.tmp 101) (.tmp 105) rfl (kb3) rfl (ob3) rfl (by simp [num_len]) (Rd.of_own on3) (by simp [Value.oneCell', b8]) (by unfold maxLen; omega) (by omega) ?_; intro X3 cX3 wX3 oo3 kk3 gg3; clear tok1 _t))
              have hB8 := ((hB7.below_ hn3).grown gg3 (fun q => own_ne_blk ob3 (hB7.below_ hn3) (by decide) q.symm))
              have c4 := hB8.cell 4
              have zq8 := hB8.lt
              clear zq7 c3 hB7 on3 hn3 ob3 kb3 gg3 oo2 kk2
              have tok1 : True := trivial
              go_upto_region 22 with (first | (go_at_call 35; refine (num_any (x := x.b) HXK.out.1.2.1 (sz := 8) (by omega) _).mono ?_; rintro e wn4 ⟨An4, cn4, rfl, on4, hn4⟩; have ob4 := own_below oo3 hn4; have kb4 := bnext kk3 hn4) | (have _t := tok1; at_builtin; refine wpList_onto (o := ⟨some 112, _, _, _, _, _⟩) (W0 := W1) (ys := ((num 8 (x.b)).map b8)) (m := 8) E2 rfl (.tmp 107) (.tmp 111) rfl (kb4) rfl (ob4) rfl (by simp [num_len]) (Rd.of_own on4) (by simp [Value.oneCell', b8]) (by unfold maxLen; omega) (by omega) ?_; intro X4 cX4 wX4 oo4 kk4 gg4; clear tok1 _t))
              have hB9 := ((hB8.below_ hn4).grown gg4 (fun q => own_ne_blk ob4 (hB8.below_ hn4) (by decide) q.symm))
              have c5 := hB9.cell 5
              have zq9 := hB9.lt
              clear zq8 c4 hB8 on4 hn4 ob4 kb4 gg4 oo3 kk3
              have tok1 : True := trivial
              go_wp2_with (first | (go_at_call 35; refine (num_any (x := x.h) HXK.out.1.2.2 (sz := 8) (by omega) _).mono ?_; rintro e wn5 ⟨An5, cn5, rfl, on5, hn5⟩; have ob5 := own_below oo4 hn5; have kb5 := bnext kk4 hn5) | (have _t := tok1; at_builtin; refine wpList_onto (o := ⟨some 117, _, _, _, _, _⟩) (W0 := W1) (ys := ((num 8 (x.h)).map b8)) (m := 8) E2 rfl (.tmp 113) (.tmp 116) rfl (kb5) rfl (ob5) rfl (by simp [num_len]) (Rd.of_own on5) (by simp [Value.oneCell', b8]) (by unfold maxLen; omega) (by omega) ?_; intro X5 cX5 wX5 oo5 kk5 gg5; clear tok1 _t))
              go_roundg (gk - 1)
              case measure => omega
              case rel =>
                refine ⟨j + 1, _, X5, cX5, by omega, by go_num, rfl, ?_, kk5, by have := hm2.out; show _ = _; omega⟩
                rw [HT.out, List.map_append]
                have h := oo5
                simpa [callW, ub1, b8, List.append_assoc] using h
            · have t8 : decide (j < n) = false := decide_eq_false (by omega)
              obtain rfl : j = n := by omega
              rw [List.take_of_length_le (by have := HN.out; omega), List.append_assoc] at own
              go_wp2_with fail
              go_roundg (gr - 1)
              case measure => omega
              case rel => exact ⟨k + 1, m2, A, c', by omega, by go_num, rfl, by rw [HPG.out, ← List.append_assoc, HBT.out, progW, HN.out]; exact own, kr⟩
        · have t8 : decide ((k : Int) < c.th) = false := decide_eq_false hlt
          have HK : Hid (k = c.th.toNat) := by show _ = _; omega
          have hk8 : k ≤ 8 := by omega
          have hm1 : m ≤ 300000000 := by
            have h1 := own.1
            have hpl := HPL.out k (by omega)
            rw [List.length_map, List.length_append, HC16.out] at h1
            omega
          obtain ⟨bt, hbt⟩ : ∃ bt, confW c ++ progsW ps k = bt := ⟨_, rfl⟩
          rw [hbt] at own
          have HBT := Lib.hid hbt
          have HELN := Lib.hid HE.out.len
          clear hbt hlt hk
          go_upto_region 24 with (fail)
          go_loopg [4, 9] en (fun gk s4 i w4 => ∃ (j m2 : Nat) (A : Option Addr) (c' : Nat), j + gk = en ∧ i = .int .i64 j ∧ s4 = .slice A m2 c' ∧ w4.ownsRow W1.heap.size 5 1 (.slice A m2 c') m2 ((bt ++ entsW (es.take j)).map b8) ∧ Below W1.heap.size W1 w4)
          case atStart => exact ⟨0, m, A, c', by omega, rfl, rfl, by simpa [entsW] using own, kr⟩
          case round =>
            clear own kr D y1 zq
            obtain ⟨j, m2, A, c', hj, rfl, rfl, own, kr⟩ := hrel
            have x22 := keep_below X22.out kr
            have hz22 := block_lt_of_cell x22
            have hm2 : m2 ≤ 400000000 := by
              have h1 := own.1
              have h2 : bt.length ≤ 300000000 := by
                have hpl := HPL.out k (by omega)
                rw [← HBT.out, List.length_append, HC16.out]
                omega
              rw [List.length_map, List.length_append, entsW_len, List.length_take] at h1
              omega
            by_cases hjn : j < en
            · obtain ⟨b, o', rfl, hbw, _⟩ := HE.out.base enc__len (by decide) (by omega)
              obtain ⟨x, hx⟩ : ∃ x, es[j]? = some x := ⟨es[j]'(by have := HELN.out; omega), List.getElem?_eq_getElem (i := j) _⟩
              have r1 : wr.rangeAt b (o' + j * 2) [.int .i64 x.th, .int .i64 x.wh] := range_sl enc__len (HE.out.below kr) hx
              have e0 := r1 0 _ rfl
              have e1 := r1 1 _ rfl
              rw [Nat.add_zero] at e0
              have HOK := HO.out x (List.mem_of_getElem? hx)
              have HE1 := Lib.hid (ent1 HOK)
              obtain ⟨g1, g2, g3, g4⟩ := HOK
              have j0 : (0 : Int) ≤ (j : Int) := by omega
              have j1 : (j : Int) < (en : Int) := by omega
              have HT : Hid ((bt ++ entsW (es.take (j + 1))).map b8 = (bt ++ entsW (es.take j)).map b8 ++ [.int .u8 (x.th + 8 * x.wh)]) := by
                have e1 : entsW (es.take (j + 1)) = entsW (es.take j) ++ [x.th + 8 * x.wh] := by
                  rw [List.take_add_one, hx, entsW, entsW, List.flatMap_append, ← HE1.out]
                  simp
                rw [Hid, e1, ← List.append_assoc, List.map_append (l₂ := [x.th + 8 * x.wh])]
                rfl
              have hw1 : IntKind.i64.wrap (8 * x.wh) = 8 * x.wh := IntWalk.i64_in _ (by omega)
              have hw2 : IntKind.i64.wrap (x.th + 8 * x.wh) = x.th + 8 * x.wh := IntWalk.i64_in _ (by omega)
              have hw3 : IntKind.u8.wrap (x.th + 8 * x.wh) = x.th + 8 * x.wh := IntWalk.u8_in _ (by omega)
              obtain ⟨q, hqB, hq⟩ := own_qb own
              have z0 : w.heap.size < W1.heap.size := block_lt_of_cell X22.out
              have hn0 : w.heap.size ≠ q := by omega
              have hn1 : b ≠ q := by omega
              clear hx r1 HE1
              obtain ⟨W4, hW4⟩ : ∃ W4, W4 = wr := ⟨_, rfl⟩
              subst hW4
              have own4 := own
              have k4 := kr
              clear own kr
              go_upto_region 26 with (fail)
              have hX := @ExtK.cell (q) W4
              have hzz0 := block_lt_of_cell x22
              have hzz1 := block_lt_of_cell e0
              have hzz2 := block_lt_of_cell e1
              refine wp_region_noPanic ?_
              refine wp_region_tree (fun w' => ∃ x : ExtK (q) W4, w' = x.w) (PT.one [0, 1, 2, 3, 4, 5, 6, 7, 8, 9, 10, 11, 12, 13, 14, 15] 16 (PT.one [] 17 (PT.fin [18]))) (by kernel_rfl) (by kernel_rfl) (by kernel_rfl) (fun _ _ _ _ _ h => h) ⟨⟨_, (Keeps.refl _ W4).drew⟩, rfl⟩ ?_
              refine wpTree_one ?_
              simp only [pickOps, List.getElem?_cons_succ, List.getElem?_cons_zero, Option.elim_some]
              repeat (go_big_quiet_step (fail))
              refine wpQuiet_nil ?_
              refine planAct_some (fun K hK => ?_)
              refine (ite_pos_ (by rfl) ?_)
              go_big_op
              refine hK.out _ _ (extk_mem ((Keeps.refl _ W4).drew.alloc _)) ?_
              clear hK K
              refine wpTree_one ?_
              simp only [pickOps, List.getElem?_cons_succ, List.getElem?_cons_zero, Option.elim_some]
              repeat (go_big_quiet_step (fail))
              refine wpQuiet_nil ?_
              refine planAct_some (fun K hK => ?_)
              refine step_app (ys := [.int .u8 (x.th + 8 * x.wh)]) (m := 1) E2 rfl (.tmp 125) (.tmp 141) rfl W1.heap.size rfl (own4.alloc _ :) rfl rfl (Rd.new _ _ _ rfl) (by simp [Value.oneCell']) (by unfold maxLen; omega) (by omega) (Nat.le_trans k4.size (by simp)) ?_
              intro A8 c8 w8 own8 hg8 _
              simp only [Act.put, List.setIfInBounds_toArray, List.set_cons_succ, List.set_cons_zero]
              refine hK.out _ _ (extk_mem (((Keeps.refl _ W4).drew.alloc _).grown hg8 (fun k' q1 _ => hq k' q1))) ?_
              clear hK K
              refine wpTree_fin ?_
              simp only [pickOps, List.getElem?_cons_succ, List.getElem?_cons_zero, Option.elim_some]
              repeat (go_big_quiet_step (fail))
              refine wpQuiet_nil ?_
              refine NoPanic.normal ?_
              clear hX hzz0 hzz1 hzz2
              have hb8 := ((k4.alloc k4.size (.cells #[.int .u8 (x.th + 8 * x.wh)] 5)).drew.grown hg8 (Nat.le_trans k4.size (by simp)) (fun k' q1 => own_ge own4 k' q1))
              go_wp2_with fail
              go_roundg (gk - 1)
              case measure => omega
              case rel => exact ⟨j + 1, m2 + 1, A8, c8, by omega, by go_num, rfl, by rw [HT.out]; exact own8, hb8⟩
            · have t8 : decide (j < en) = false := decide_eq_false (by omega)
              obtain rfl : j = en := by omega
              rw [List.take_of_length_le (by have := HELN.out; omega), ← HBT.out, List.append_assoc] at own
              have KE := KW.out.trans (kr.mono KW.out.size)
              have own' := own_weak own KW.out.size
              rw [HK.out] at own'
              go_wp2_with fail
              go_ret
              exact ⟨A, m2, c', rfl, KE, own'⟩
end Go.Proofs.YtknngjdcbldmgaaDoor
