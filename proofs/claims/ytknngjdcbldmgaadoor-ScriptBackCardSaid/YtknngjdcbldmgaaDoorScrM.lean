/- The bytes of a script. -/
import Derived.Test.YtknngjdcbldmgaaDoorScrL
namespace Go.Proofs.YtknngjdcbldmgaaDoor
set_option linter.unusedVariables false
set_option linter.unusedSimpArgs false
open Go.RowKit

def entN (e : En) : Int := ((Fld.set (IntKind.u64.wrap e.th).toNat 3 2 (IntKind.u64.wrap e.wh).toNat : Nat) : Int)
theorem entN_u (e : En) : U64 (entN e) := U64.nat (Fld.set_lt _ _ _ _)
def progW (l : List CV) : List Int := [(l.length : Int)].flatMap (num 1) ++ l.flatMap callW
def progsW (ps : List (List CV)) (k : Nat) : List Int := (List.range k).flatMap fun t => progW (ps.getD t [])
theorem progsW_succ {ps : List (List CV)} {k : Nat} {l : List CV} (hl : ps[k]? = some l) : progsW ps (k + 1) = progsW ps k ++ progW l := by
  unfold progsW
  rw [List.range_succ, List.flatMap_append, List.flatMap_cons, List.flatMap_nil, List.append_nil, List.getD_eq_getElem?_getD, hl, Option.getD_some]
theorem calls_len (l : List CV) : (l.flatMap callW).length = l.length * 35 := by
  induction l with
  | nil => simp
  | cons a t ih => rw [List.flatMap_cons, List.length_append, ih, callW_len, List.length_cons]; omega
theorem progW_len (l : List CV) : (progW l).length = 1 + l.length * 35 := by rw [progW, List.length_append, nums_len, calls_len]; rfl
theorem progsW_len {ps : List (List CV)} (hps : ∀ l, l ∈ ps → l.length ≤ 1000000) (h8 : ps.length = 8) : ∀ k, k ≤ 8 → (progsW ps k).length ≤ k * 35000001
  | 0, _ => by simp [progsW]
  | k + 1, hk => by
    have hl : ps[k]? = some (ps[k]'(by omega)) := List.getElem?_eq_getElem _
    have h1 := hps _ (List.mem_of_getElem? hl)
    have h2 := progsW_len hps h8 k (by omega)
    rw [progsW_succ hl, List.length_append, progW_len]
    omega
def entsW (es : List En) : List Int := es.flatMap fun e => num 1 (entN e)
theorem entsW_len (l : List En) : (entsW l).length = l.length := by
  unfold entsW
  induction l with
  | nil => simp
  | cons a t ih => rw [List.flatMap_cons, List.length_append, ih, num_len, List.length_cons]; omega
def scriptW (c : Cf) (ps : List (List CV)) (es : List En) : List Int := confW c ++ (progsW ps c.th.toNat ++ entsW es)
theorem own_weak {w : World} {B B' : Nat} {e : TypeId} {size n : Nat} {v : Value} {xs : List Value} (h : w.ownsRow B e size v n xs) (hB : B' ≤ B) : w.ownsRow B' e size v n xs :=
  ⟨h.1, h.2.imp id fun ⟨g, cap, cur, h1, h2, h3⟩ => ⟨g, cap, cur, h1, Nat.le_trans hB h2, h3⟩⟩
set_option maxHeartbeats 4000000 in
set_option maxRecDepth 100000 in
theorem sput_yes {w : World} {c : Cf} {us : List Value} {ps : List (List CV)} {EA : Option Addr} {en ec : Nat} {es : List En} (hP : PIn (fun _ => False) w us ps) (hE : Sl enc_ w EA en ec es) (hen : en ≤ 1000000) (hps : ∀ l, l ∈ ps → l.length ≤ 1000000) (hU : ∀ l, l ∈ ps → ∀ x, x ∈ l → CVu x) (hR : rightN c ps es (c.lv - 1) = 0) :
    Calls Tryd.prog 14 #[.agg (scc c us (.slice EA en ec)).toArray] w fun e w' => ∃ A n d, e = .returned (.tuple #[.slice A n d, .nilIface]) ∧ Below w.heap.size w w' ∧ w'.ownsRow w.heap.size 5 1 (.slice A n d) n ((scriptW c ps es).map b8) := by
  have h8 := hP.u8
  have hm : mayB c = true := by
    by_cases h : mayB c = true
    · exact h
    · rw [rightN, if_pos (by simpa using h)] at hR
      exact absurd hR (by decide)
  have m : c.May := of_decide_eq_true hm
  have hth1 := m.t1
  have hth2 := m.t2
  have hlv1 := m.l1
  have hlv2 := m.l2
  have hi := info_scc (c := c) (ev := .slice EA en ec) h8
  obtain ⟨W0, hW0, hB, kb⟩ : ∃ W0, w.alloc (.cells (scc c us (.slice EA en ec)).toArray 29) = W0 ∧ Blk W0 w.heap.size 29 (scc c us (.slice EA en ec)).toArray ∧ Below w.heap.size w W0 := ⟨_, rfl, Blk.new _ _ _, bnew (brefl w) _⟩
  have x0 : W0.cell? ⟨w.heap.size, 0, none⟩ = some (.int .i64 c.lv) := hB.cell 0
  have hr : Calls Tryd.prog 9 #[.agg (scc c us (.slice EA en ec)).toArray, .int .i64 (c.lv - 1)] W0 fun e w' => e = .returned .nilIface ∧ Below W0.heap.size W0 w' := (right_any (w := W0) (c := c) (hP.below kb) (hE.below kb) hen hps (c.lv - 1)).mono fun e w' ⟨v, h1, h2, h3⟩ => by
    rcases h2 with ⟨_, rfl⟩ | ⟨a, _⟩
    · exact ⟨h1, h3⟩
    · exact absurd hR a
  have hP0 := hP.below kb
  have hE0 := hE.below kb
  have x1 : W0.cell? ⟨w.heap.size, 1, none⟩ = some (.int .i64 c.th) := hB.cell 1
  have x22 : W0.cell? ⟨w.heap.size, 22, none⟩ = some (.slice EA en ec) := (hB.cell 22).trans (by rw [List.getElem?_toArray]; exact scc_last h8)
  have xk : ∀ (k : Nat) (v : Value), us[k]? = some v → W0.cell? ⟨w.heap.size, 14 + k, none⟩ = some v := fun k v hk => (hB.cell _).trans (by rw [List.getElem?_toArray]; exact scc_get hk)
  have r0 : W0.rangeAt w.heap.size 0 [.int .i64 c.lv, .int .i64 c.th, .int .i64 c.o0, .int .i64 c.o1, .int .i64 c.o2, .int .i64 c.o3, .int .i64 c.o4, .int .i64 c.o5, .int .i64 c.o6, .int .i64 c.o7, .int .i64 c.sl, .int .i64 c.li, .int .i64 c.ge, .int .i64 c.qu] := range_blk hB 0 (scc_conf c us _)
  have hz := hB.lt
  have HPL := Lib.hid (progsW_len hps hP.p8)
  have HP := Lib.hid hP0
  have HE := Lib.hid hE0
  have XK := Lib.hid xk
  have X1 := Lib.hid x1
  have X22 := Lib.hid x22
  have R0 := Lib.hid r0
  have HU := Lib.hid hU
  clear xk hP hE h8 hm m hR hP0 hE0 x1 x22 r0 hU
  generalize scc c us (.slice EA en ec) = cs at *
  go_enter Tryd.func14, Tryd.ntmps14
  go_upto_region 1 with (fail)
  have tok1 : True := trivial
  go_upto_region 4 with (first | (have _t := tok1; refine wpList_load_row (o := ⟨some 11, _, _, _, _, _⟩) rfl 29 (.tmp 1) rfl w.heap.size rfl 29 _ _ _ hB Tryd.underlying29 rfl hi ?_; clear tok1 _t) | (go_at_call 9; refine hr.mono ?_; rintro e w1 ⟨rfl, hb1⟩))
  go_upto_region 5 with (fail)
  obtain ⟨B, hBq⟩ : ∃ B, w1.heap.size = B := ⟨_, rfl⟩
  have hWB : W0.heap.size ≤ B := by rw [← hBq]; exact hb1.size
  obtain ⟨W2, hW2, K0, hW, hB2⟩ : ∃ W2, w1.alloc (.cells #[.slice none 0 0] 68) = W2 ∧ Below W0.heap.size W0 W2 ∧ WB W2 B B [] ∧ B ≤ W2.heap.size := ⟨_, rfl, bnew hb1 _, by rw [← hBq]; exact ⟨none, 0, 0, Blk.new _ _ _, World.ownsRow_nil _ _ _ _, Nat.le_refl _⟩, by rw [← hBq]; simp⟩
  rw [hW2, hBq]
  clear hW2 hBq hb1 hB hr
  have rq : W2.rangeAt w.heap.size 0 [.int .i64 c.lv, .int .i64 c.th, .int .i64 c.o0, .int .i64 c.o1, .int .i64 c.o2, .int .i64 c.o3, .int .i64 c.o4, .int .i64 c.o5, .int .i64 c.o6, .int .i64 c.o7, .int .i64 c.sl, .int .i64 c.li, .int .i64 c.ge, .int .i64 c.qu] := fun j v hj => keep_below (R0.out j v hj) K0
  have tok1 : True := trivial
  go_upto_region 6 with (first | (have _t := tok1; refine wpList_load_mid (op := ⟨some 24, _, _, _, _, _⟩) rfl 24 (.tmp 23) rfl w.heap.size (0) rfl [.int .i64 c.lv, .int .i64 c.th, .int .i64 c.o0, .int .i64 c.o1, .int .i64 c.o2, .int .i64 c.o3, .int .i64 c.o4, .int .i64 c.o5, .int .i64 c.o6, .int .i64 c.o7, .int .i64 c.sl, .int .i64 c.li, .int .i64 c.ge, .int .i64 c.qu] _ rq Tryd.underlying24 rfl (by kernel_rfl) ?_; clear tok1 _t) | (go_at_call 28; refine (wconf_any c hW (by simp) hB2).mono ?_; rintro e w3 ⟨rfl, hW3, kp3⟩))
  have K3 := K0.trans (kp3.b.mono hWB)
  have s3 := Nat.le_trans hB2 kp3.s
  have y1 := keep_below X1.out K3
  have hz3 := block_lt_of_cell y1
  clear K0 hW rq hB2 kp3 hz x0
  generalize hV : Value.agg cs.toArray = V at *
  generalize Value.agg #[.int .i64 c.lv, .int .i64 c.th, .int .i64 c.o0, .int .i64 c.o1, .int .i64 c.o2, .int .i64 c.o3, .int .i64 c.o4, .int .i64 c.o5, .int .i64 c.o6, .int .i64 c.o7, .int .i64 c.sl, .int .i64 c.li, .int .i64 c.ge, .int .i64 c.qu] = V1 at *
  go_wp2_with fail
  clear y1 hz3
  have HC16 := Lib.hid (confW_len c)
  go_loopg [29] c.th.toNat (fun gk i wr => ∃ k : Nat, k + gk = c.th.toNat ∧ i = .int .i64 k ∧ WB wr B B (confW c ++ progsW ps k) ∧ Below W0.heap.size W0 wr ∧ B ≤ wr.heap.size)
  case atStart => exact ⟨0, by omega, rfl, by simpa [progsW] using hW3, K3, s3⟩
  case round =>
    clear hW3 K3 s3
    obtain ⟨k, hk, rfl, hW, K0, hBr⟩ := hrel
    by_cases hlt : (k : Int) < c.th
    · have hk8 : k < 8 := by omega
      obtain ⟨l, hl⟩ : ∃ l, ps[k]? = some l := ⟨ps[k]'(by have := HP.out.p8; omega), List.getElem?_eq_getElem (i := k) _⟩
      obtain ⟨A, n, c', hu, hs, _⟩ := HP.out.at_ k l hl
      have v00 := XK.out k _ hu
      have v0 := keep_below v00 K0
      have hzv := block_lt_of_cell v0
      have b0 : (0 : Int) ≤ (k : Int) := by omega
      have b1 : (k : Int) < 8 := by omega
      have hlen : l.length ≤ 1000000 := hps l (List.mem_of_getElem? hl)
      have hn : n ≤ 1000000 := by have := hs.len; omega
      have HN := Lib.hid hs.len
      have HCU := Lib.hid (HU.out l (List.mem_of_getElem? hl))
      have HPS := Lib.hid (progsW_succ (ps := ps) (k := k) hl)
      have hpl := HPL.out k (by omega)
      have hl1 : (confW c ++ progsW ps k).length ≤ 700000000 := by rw [List.length_append, HC16.out]; omega
      have HUN : ∀ y, y ∈ [(n : Int)] → U64 y := by intro y hy; simp only [List.mem_cons, List.not_mem_nil, or_false] at hy; subst hy; unfold U64; omega
      have HUN := Lib.hid HUN
      obtain ⟨bt, hbt⟩ : ∃ bt, confW c ++ progsW ps k = bt := ⟨_, rfl⟩
      rw [hbt] at hW hl1
      have HBT := Lib.hid hbt
      clear hl hu hbt hpl hlen
      obtain ⟨gr, hgr⟩ : ∃ g, g = gk := ⟨_, rfl⟩
      subst hgr
      go_upto_region 10 with (go_at_call 29; refine (put_new 1 1 [(n : Int)] hW rfl HUN.out (by omega) (by omega) (by omega) hBr).mono ?_; rintro e w2 ⟨rfl, hW2, kp2⟩)
      have K2 := K0.trans (kp2.b.mono hWB)
      have s2 := Nat.le_trans hBr kp2.s
      have v2 := keep_below (v00) K2
      have hz2 := block_lt_of_cell v2
      have hl2 : (bt ++ [(n : Int)].flatMap (num 1)).length ≤ 700000001 := by rw [List.length_append, nums_len]; simp only [List.length_cons, List.length_nil]; omega
      clear v0 hzv HUN kp2 hW
      go_wp2_with fail
      clear v2 hz2
      go_loopg [46] n (fun gk i w4 => ∃ j : Nat, j + gk = n ∧ i = .int .i64 j ∧ WB w4 B B ((bt ++ [(n : Int)].flatMap (num 1)) ++ (l.take j).flatMap callW) ∧ Below W0.heap.size W0 w4 ∧ B ≤ w4.heap.size)
      case atStart => exact ⟨0, by omega, rfl, by simpa using hW2, K2, s2⟩
      case round =>
        clear hW2 K2 s2 K0 hBr
        obtain ⟨j, hj, rfl, hW, K0, hBr⟩ := hrel
        by_cases hjn : j < n
        · obtain ⟨b, o', rfl, _, _⟩ := hs.base cvc_len (by decide) (by omega)
          obtain ⟨x, hx⟩ : ∃ x, l[j]? = some x := ⟨l[j]'(by have := HN.out; omega), List.getElem?_eq_getElem (i := j) _⟩
          have r1 : wr.rangeAt b (o' + j * 7) [.int .i64 x.op, .int .i64 x.lv, .int .i64 x.key, .int .u64 x.a, .int .u64 x.b, .int .u64 x.h, .int .i64 x.rg] := range_sl cvc_len (hs.below K0) hx
          have j0 : (0 : Int) ≤ (j : Int) := by omega
          have j1 : (j : Int) < (n : Int) := by omega
          have HX := Lib.hid (HCU.out x (List.mem_of_getElem? hx))
          have HT : Hid ((bt ++ [(n : Int)].flatMap (num 1)) ++ (l.take (j + 1)).flatMap callW = ((bt ++ [(n : Int)].flatMap (num 1)) ++ (l.take j).flatMap callW) ++ callW x) := by rw [Hid, List.take_add_one, hx]; simp
          have hl3 : ((bt ++ [(n : Int)].flatMap (num 1)) ++ (l.take j).flatMap callW).length ≤ 800000000 := by rw [List.length_append, calls_len, List.length_take]; omega
          obtain ⟨bu, hbu⟩ : ∃ bu, (bt ++ [(n : Int)].flatMap (num 1)) ++ (l.take j).flatMap callW = bu := ⟨_, rfl⟩
          rw [hbu] at hW HT hl3
          clear hbu hx
          have tok2 : True := trivial
          go_upto_region 13 with (have _t := tok2; refine wpList_load_mid (op := ⟨some 49, _, _, _, _, _⟩) rfl 63 (.tmp 48) rfl b (o' + j * 7) rfl [.int .i64 x.op, .int .i64 x.lv, .int .i64 x.key, .int .u64 x.a, .int .u64 x.b, .int .u64 x.h, .int .i64 x.rg] _ r1 Tryd.underlying63 rfl (by kernel_rfl) ?_; clear tok2 _t)
          obtain ⟨W5, hW5, hB5, K5, hWB5, hBW5⟩ : ∃ W5, wr.alloc (.cells #[.int .i64 x.op, .int .i64 x.lv, .int .i64 x.key, .int .u64 x.a, .int .u64 x.b, .int .u64 x.h, .int .i64 x.rg] 63) = W5 ∧ Blk W5 wr.heap.size 63 #[.int .i64 x.op, .int .i64 x.lv, .int .i64 x.key, .int .u64 x.a, .int .u64 x.b, .int .u64 x.h, .int .i64 x.rg] ∧ Below W0.heap.size W0 W5 ∧ WB W5 B B bu ∧ B ≤ W5.heap.size := ⟨_, rfl, Blk.new _ _ _, bnew K0 _, hW.alloc _, Nat.le_trans hBr (by simp)⟩
          rw [hW5]
          have i7 : (Tryd.prog.info? 63).map (·.size) = some (#[.int .i64 x.op, .int .i64 x.lv, .int .i64 x.key, .int .u64 x.a, .int .u64 x.b, .int .u64 x.h, .int .i64 x.rg] : Array Value).size := by kernel_rfl
          clear hW5 r1 hW K0
          have tok3 : True := trivial
          go_wp2_with (first | (have _t := tok3; refine wpList_load_row (o := ⟨some 51, _, _, _, _, _⟩) rfl 63 (.tmp 8) rfl wr.heap.size rfl 63 _ _ _ hB5 Tryd.underlying63 rfl i7 ?_; clear tok3 _t) | (go_at_call 30; refine (wcall_any x HX.out hWB5 hl3 hBW5).mono ?_; rintro e w6 ⟨rfl, hW6, kp6⟩))
          go_roundg (gk - 1)
          case measure => omega
          case rel => exact ⟨j + 1, by omega, by go_num, by rw [HT.out]; exact hW6, K5.trans (kp6.b.mono hWB), Nat.le_trans hBW5 kp6.s⟩
        · have t8 : decide (j < n) = false := decide_eq_false (by omega)
          obtain rfl : j = n := by omega
          rw [List.take_of_length_le (by have := HN.out; omega), List.append_assoc] at hW
          go_wp2_with fail
          go_roundg (gr - 1)
          case measure => omega
          case rel => exact ⟨k + 1, by omega, by go_num, by rw [HPS.out, ← List.append_assoc, HBT.out, progW, HN.out]; exact hW, K0, hBr⟩
    · have t8 : decide ((k : Int) < c.th) = false := decide_eq_false hlt
      obtain rfl : k = c.th.toNat := by omega
      have v22 := keep_below X22.out K0
      have hz22 := block_lt_of_cell v22
      have hl1 : (confW c ++ progsW ps c.th.toNat).length ≤ 600000000 := by have := HPL.out c.th.toNat (by omega); rw [List.length_append, HC16.out]; omega
      obtain ⟨bt, hbt⟩ : ∃ bt, confW c ++ progsW ps c.th.toNat = bt := ⟨_, rfl⟩
      rw [hbt] at hW hl1
      have HBT := Lib.hid hbt
      have HELN := Lib.hid HE.out.len
      clear hbt hlt
      go_wp2_with fail
      clear v22 hz22
      go_loopg [58] en (fun gk i w4 => ∃ j : Nat, j + gk = en ∧ i = .int .i64 j ∧ WB w4 B B (bt ++ entsW (es.take j)) ∧ Below W0.heap.size W0 w4 ∧ B ≤ w4.heap.size)
      case atStart => exact ⟨0, by omega, rfl, by simpa [entsW] using hW, K0, hBr⟩
      case round =>
        clear hW K0 hBr
        obtain ⟨j, hj, rfl, hW, K0, hBr⟩ := hrel
        by_cases hjn : j < en
        · obtain ⟨b, o', rfl, _, _⟩ := HE.out.base enc__len (by decide) (by omega)
          obtain ⟨x, hx⟩ : ∃ x, es[j]? = some x := ⟨es[j]'(by have := HELN.out; omega), List.getElem?_eq_getElem (i := j) _⟩
          have r1 : wr.rangeAt b (o' + j * 2) [.int .i64 x.th, .int .i64 x.wh] := range_sl enc__len (HE.out.below K0) hx
          have j0 : (0 : Int) ≤ (j : Int) := by omega
          have j1 : (j : Int) < (en : Int) := by omega
          have HT : Hid (bt ++ entsW (es.take (j + 1)) = (bt ++ entsW (es.take j)) ++ [entN x].flatMap (num 1)) := by rw [Hid, List.take_add_one, hx, entsW, entsW, List.flatMap_append, List.append_assoc]; simp
          have hl3 : (bt ++ entsW (es.take j)).length ≤ 800000000 := by rw [List.length_append, entsW_len, List.length_take]; omega
          obtain ⟨bu, hbu⟩ : ∃ bu, bt ++ entsW (es.take j) = bu := ⟨_, rfl⟩
          rw [hbu] at hW HT hl3
          clear hbu hx
          have tok2 : True := trivial
          go_upto_region 19 with (have _t := tok2; refine wpList_load_mid (op := ⟨some 61, _, _, _, _, _⟩) rfl 51 (.tmp 60) rfl b (o' + j * 2) rfl [.int .i64 x.th, .int .i64 x.wh] _ r1 Tryd.underlying51 rfl (by kernel_rfl) ?_; clear tok2 _t)
          obtain ⟨W5, hW5, hB5, K5, hWB5, hBW5⟩ : ∃ W5, wr.alloc (.cells #[.int .i64 x.th, .int .i64 x.wh] 51) = W5 ∧ Blk W5 wr.heap.size 51 #[.int .i64 x.th, .int .i64 x.wh] ∧ Below W0.heap.size W0 W5 ∧ WB W5 B B bu ∧ B ≤ W5.heap.size := ⟨_, rfl, Blk.new _ _ _, bnew K0 _, hW.alloc _, Nat.le_trans hBr (by simp)⟩
          rw [hW5]
          have e0 : W5.cell? ⟨wr.heap.size, 0, none⟩ = some (.int .i64 x.th) := hB5.cell 0
          have e1 : W5.cell? ⟨wr.heap.size, 1, none⟩ = some (.int .i64 x.wh) := hB5.cell 1
          have ez := hB5.lt
          have hset := set_any (IntKind.u64.wrap x.th) 3 2 (IntKind.u64.wrap x.wh) W5 (wrap_u _) (by unfold I64; omega) (by unfold I64; omega) (wrap_u _)
          have HEN : Hid (((Fld.set (IntKind.u64.wrap x.th).toNat 3 2 (IntKind.u64.wrap x.wh).toNat : Nat) : Int) = entN x) := rfl
          rw [HEN.out] at hset
          have HUN : Hid (∀ y, y ∈ [entN x] → U64 y) := by intro y hy; simp only [List.mem_cons, List.not_mem_nil, or_false] at hy; subst hy; exact entN_u _
          generalize entN x = ex at *
          clear hW5 r1 hW K0 HEN
          go_wp2_with (first | (go_at_call 31; refine hset.mono ?_; rintro e w7 ⟨rfl, rfl⟩) | (go_at_call 29; refine (put_new 1 1 [ex] hWB5 rfl HUN.out (by omega) (by omega) (by omega) hBW5).mono ?_; rintro e w6 ⟨rfl, hW6, kp6⟩))
          go_roundg (gk - 1)
          case measure => omega
          case rel => exact ⟨j + 1, by omega, by go_num, by rw [HT.out]; exact hW6, K5.trans (kp6.b.mono hWB), Nat.le_trans hBW5 kp6.s⟩
        · have t8 : decide (j < en) = false := decide_eq_false (by omega)
          obtain rfl : j = en := by omega
          rw [List.take_of_length_le (by have := HELN.out; omega), ← HBT.out, List.append_assoc] at hW
          obtain ⟨A, n, d, D2, own, _⟩ := hW
          have v0 := D2.cell 0
          have vz := D2.lt
          have hwB : w.heap.size ≤ B := Nat.le_trans kb.size hWB
          have own' := own_weak own hwB
          have KE := bnext kb K0
          clear D2 own K0 HE
          go_wp2_with fail
          go_ret2
          exact ⟨A, n, d, rfl, KE, own'⟩
end Go.Proofs.YtknngjdcbldmgaaDoor
