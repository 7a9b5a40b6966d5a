/- A script as text: text.Put. -/
import Derived.Test.YtjjgngccgjpnaaaGreatDoorTxuKM
import Derived.Test.YtjjgngccgjpnaaaGreatDoorScrG
namespace Go.Proofs.YtjjgngccgjpnaaaGreatDoor
set_option linter.unusedVariables false
set_option linter.unusedSimpArgs false
open Go.RowKit

def EnOkT (e : En) : Prop := 0 ≤ e.th ∧ e.th < 8 ∧ 0 ≤ e.wh ∧ e.wh ≤ 3
theorem right_okT {c : Cf} {ps : List (List CV)} {es : List En} (h : rightN c ps es (c.lv - 1) = 0) : mayB c = true ∧ ∀ e, e ∈ es → EnOkT e := by
  unfold rightN at h
  by_cases hm : mayB c = false
  · rw [if_pos hm] at h; exact absurd h (by decide)
  rw [if_neg hm] at h
  have hm : mayB c = true := by simpa using hm
  have m : c.May := of_decide_eq_true hm
  by_cases ha : absB c ps es = true
  · rw [if_pos ha] at h; exact absurd h (by decide)
  rw [if_neg ha] at h
  by_cases hb : badB c ps es (c.lv - 1) = true
  · rw [if_pos hb] at h; exact absurd h (by decide)
  have ha : absB c ps es = false := by simpa using ha
  have hb : badB c ps es (c.lv - 1) = false := by simpa using hb
  refine ⟨hm, fun e he => ?_⟩
  rw [absB, Bool.or_eq_false_iff] at ha
  rw [badB, Bool.or_eq_false_iff] at hb
  have h1 : thB c e.th = true := by have := List.any_eq_false.1 ha.2 e he; simpa using this
  have h2 := List.any_eq_false.1 hb.2 e he
  have h3 : 0 ≤ e.th ∧ e.th < c.th := of_decide_eq_true h1
  have h4 := m.t2
  have h5 := m.r e.th.toNat (by omega)
  have h6 : eIn c (c.lv - 1) e = true := by
    refine decide_eq_true ?_
    unfold levelOf
    rw [if_pos ⟨hm, h3⟩]
    omega
  have h7 : ¬ (e.wh < 0 ∨ 3 < e.wh) := fun q => h2 (by rw [eBad, h6, decide_eq_true q]; rfl)
  exact ⟨h3.1, by omega, by omega, by omega⟩

def CVi (x : CV) : Prop := (I64 x.op ∧ I64 x.lv ∧ I64 x.key ∧ I64 x.rg) ∧ U64 x.a ∧ U64 x.b ∧ U64 x.h
def CW (x : CV) : List UInt8 := callW x.op x.lv x.key x.a.toNat x.b.toNat x.h.toNat x.rg
theorem CW_len (x : CV) (h : CVi x) : (CW x).length ≤ 200 := callW_len _ _ _ _ _ _ _ h.1.1 h.1.2.1 h.1.2.2.1 h.1.2.2.2 (by have := h.2.1; unfold U64 at this; omega) (by have := h.2.2.1; unfold U64 at this; omega) (by have := h.2.2.2; unfold U64 at this; omega)
theorem tcall_cv {w : World} (x : CV) (h : CVi x) (hv : LV w) : Calls Tryz.prog 20 #[.agg #[.int .i64 x.op, .int .i64 x.lv, .int .i64 x.key, .int .u64 x.a, .int .u64 x.b, .int .u64 x.h, .int .i64 x.rg]] w fun e w' => e = .returned (.string (bstr (CW x))) ∧ Below w.heap.size w w' := by
  have ha : ((x.a.toNat : Nat) : Int) = x.a := h.2.1.cast
  have hb : ((x.b.toNat : Nat) : Int) = x.b := h.2.2.1.cast
  have hh : ((x.h.toNat : Nat) : Int) = x.h := h.2.2.2.cast
  have q := tcall_any (w := w) x.op x.lv x.key x.a.toNat x.b.toNat x.h.toNat x.rg h.1.1 h.1.2.1 h.1.2.2.1 h.1.2.2.2 (by have := h.2.1; unfold U64 at this; omega) (by have := h.2.2.1; unfold U64 at this; omega) (by have := h.2.2.2; unfold U64 at this; omega) hv
  rw [ha, hb, hh] at q
  exact q
theorem rcall_cv {w : World} (x : CV) (h : CVi x) : Calls Tryz.prog 21 #[.agg #[.int .i64 x.op, .int .i64 x.lv, .int .i64 x.key, .int .u64 x.a, .int .u64 x.b, .int .u64 x.h, .int .i64 x.rg]] w fun e w' => e = .returned (.string (bstr (CW x))) ∧ Below w.heap.size w w' := by
  have ha : ((x.a.toNat : Nat) : Int) = x.a := h.2.1.cast
  have hb : ((x.b.toNat : Nat) : Int) = x.b := h.2.2.1.cast
  have hh : ((x.h.toNat : Nat) : Int) = x.h := h.2.2.2.cast
  have q := rcall_any (w := w) x.op x.lv x.key x.a.toNat x.b.toNat x.h.toNat x.rg h.1.1 h.1.2.1 h.1.2.2.1 h.1.2.2.2 (by have := h.2.1; unfold U64 at this; omega) (by have := h.2.2.1; unfold U64 at this; omega) (by have := h.2.2.2; unfold U64 at this; omega)
  rw [ha, hb, hh] at q
  exact q
def callT (k : Nat) (x : CV) : List (List UInt8) := [[99, 97, 108, 108], Lib.itoa (k : Int), CW x]
theorem callT_len (k : Nat) (x : CV) (h : CVi x) (hk : k ≤ 8) : (lineW (callT k x)).length ≤ 700 := by
  have h0 := CW_len x h
  have := join_le 200 [32] rfl (callT k x) (by
    intro y hy
    simp only [callT, List.mem_cons, List.not_mem_nil, or_false] at hy
    rcases hy with rfl | rfl | rfl
    · decide
    · exact Nat.le_trans (itoa_len (by unfold I64; omega)) (by decide)
    · exact h0)
  rw [lineW, List.length_append]
  have h1 : ([10] : List UInt8).length = 1 := rfl
  have h2 : (callT k x).length = 3 := rfl
  omega
def progT (k : Nat) (l : List CV) : List UInt8 := l.flatMap fun x => lineW (callT k x)
theorem progT_len (k : Nat) (l : List CV) (h : ∀ x, x ∈ l → CVi x) (hk : k ≤ 8) : (progT k l).length ≤ l.length * 700 := by
  unfold progT
  induction l with
  | nil => simp
  | cons a t ih =>
    have h1 := ih (fun x hx => h x (List.mem_cons_of_mem _ hx))
    have h2 := callT_len k a (h a (List.mem_cons_self ..)) hk
    rw [List.flatMap_cons, List.length_append, List.length_cons, Nat.succ_mul]
    omega
def progsT (ps : List (List CV)) (k : Nat) : List UInt8 := (List.range k).flatMap fun t => progT t (ps.getD t [])
theorem progsT_succ {ps : List (List CV)} {k : Nat} {l : List CV} (hl : ps[k]? = some l) : progsT ps (k + 1) = progsT ps k ++ progT k l := by
  unfold progsT
  rw [List.range_succ, List.flatMap_append, List.flatMap_cons, List.flatMap_nil, List.append_nil, List.getD_eq_getElem?_getD, hl, Option.getD_some]
theorem progsT_len {ps : List (List CV)} (hps : ∀ l, l ∈ ps → l.length ≤ 10000) (hU : ∀ l, l ∈ ps → ∀ x, x ∈ l → CVi x) (h8 : ps.length = 8) : ∀ k, k ≤ 8 → (progsT ps k).length ≤ k * 7000000
  | 0, _ => by simp [progsT]
  | k + 1, hk => by
    have hl : ps[k]? = some (ps[k]'(by omega)) := List.getElem?_eq_getElem _
    have h1 := hps _ (List.mem_of_getElem? hl)
    have h2 := progsT_len hps hU h8 k (by omega)
    have h3 := progT_len k _ (hU _ (List.mem_of_getElem? hl)) (by omega)
    rw [progsT_succ hl, List.length_append]
    omega
def putT (c : Cf) (ps : List (List CV)) (es : List En) : List UInt8 := lineW (confT c) ++ progsT ps 8 ++ entW es
theorem WT_new (w : World) : WT w.heap.size w.heap.size [] (w.alloc (.cells #[.pointer none, .slice none 0 0] 91)) := by
  refine .inl ⟨Nat.le_refl _, .slice none 0 0, heap_alloc_new w _, ⟨rfl, .inl ⟨rfl, rfl⟩⟩, ?_⟩
  simp [Value.ownBlock]
theorem vals8T {us : List Value} (h : us.length = 8) : ∃ a0 a1 a2 a3 a4 a5 a6 a7 : Value, us = [a0, a1, a2, a3, a4, a5, a6, a7] := by
  match us, h with
  | [a0, a1, a2, a3, a4, a5, a6, a7], _ => exact ⟨a0, a1, a2, a3, a4, a5, a6, a7, rfl⟩
set_option maxHeartbeats 4000000 in
set_option maxRecDepth 100000 in
theorem idx_usT {us : List Value} (h : us.length = 8) {k : Nat} {v : Value} (hv : us[k]? = some v) (w : World) : (Instr.index 27 (.agg us.toArray) (.int .i64 (k : Int))).run Tryz.prog w = .ok v w := by
  obtain ⟨a0, a1, a2, a3, a4, a5, a6, a7, rfl⟩ := vals8T h
  have hk : k < 8 := (List.getElem?_eq_some_iff.1 hv).1
  match k, hk with
  | 0, _ => cases hv; simp [Instr.index, go_sem]
  | 1, _ => cases hv; simp [Instr.index, go_sem]
  | 2, _ => cases hv; simp [Instr.index, go_sem]
  | 3, _ => cases hv; simp [Instr.index, go_sem]
  | 4, _ => cases hv; simp [Instr.index, go_sem]
  | 5, _ => cases hv; simp [Instr.index, go_sem]
  | 6, _ => cases hv; simp [Instr.index, go_sem]
  | 7, _ => cases hv; simp [Instr.index, go_sem]
set_option maxHeartbeats 4000000 in
set_option maxRecDepth 100000 in
theorem tput_yes {w : World} {c : Cf} {us : List Value} {ps : List (List CV)} {EA : Option Addr} {en ec : Nat} {es : List En} (hP : PIn (fun _ => False) w us ps) (hE : Sl enc_ w EA en ec es) (hen : en ≤ 100000) (hps : ∀ l, l ∈ ps → l.length ≤ 10000) (hU : ∀ l, l ∈ ps → ∀ x, x ∈ l → CVi x) (hR : rightN c ps es (c.lv - 1) = 0) (hv : LV w) :
    Calls Tryz.prog 13 #[.agg (scc c us (.slice EA en ec)).toArray] w fun e w' => e = .returned (.tuple #[.string (bstr (putT c ps es)), .nilIface]) ∧ Below w.heap.size w w' := by
  have h8 := hP.u8
  have hro := right_okT hR
  have m : c.May := of_decide_eq_true hro.1
  have hth1 := m.t1
  have hth2 := m.t2
  have hlv1 := m.l1
  have hlv2 := m.l2
  have hi := info_scc (c := c) (ev := .slice EA en ec) h8
  obtain ⟨W0, hW0, hB, kb⟩ : ∃ W0, w.alloc (.cells (scc c us (.slice EA en ec)).toArray 30) = W0 ∧ Blk W0 w.heap.size 30 (scc c us (.slice EA en ec)).toArray ∧ Below w.heap.size w W0 := ⟨_, rfl, Blk.new _ _ _, bnew (brefl w) _⟩
  have x0 : W0.cell? ⟨w.heap.size, 0, none⟩ = some (.int .i64 c.lv) := hB.cell 0
  have hr : Calls Tryz.prog 30 #[.agg (scc c us (.slice EA en ec)).toArray, .int .i64 (c.lv - 1)] W0 fun e w' => e = .returned .nilIface ∧ Below W0.heap.size W0 w' := (right_any (w := W0) (c := c) (hP.below kb) (hE.below kb) (by omega) (fun l hl => Nat.le_trans (hps l hl) (by omega)) (c.lv - 1)).mono fun e w' ⟨v, h1, h2, h3⟩ => by
    rcases h2 with ⟨_, rfl⟩ | ⟨a, _⟩
    · exact ⟨h1, h3⟩
    · exact absurd hR a
  have hP0 := hP.below kb
  have hE0 := hE.below kb
  have HV := Lib.hid (hv.below kb)
  have x22 : W0.cell? ⟨w.heap.size, 22, none⟩ = some (.slice EA en ec) := (hB.cell 22).trans (by rw [List.getElem?_toArray]; exact scc_last h8)
  have r0 : W0.rangeAt w.heap.size 0 [.int .i64 c.lv, .int .i64 c.th, .int .i64 c.o0, .int .i64 c.o1, .int .i64 c.o2, .int .i64 c.o3, .int .i64 c.o4, .int .i64 c.o5, .int .i64 c.o6, .int .i64 c.o7, .int .i64 c.sl, .int .i64 c.li, .int .i64 c.ge, .int .i64 c.qu] := range_blk hB 0 (scc_conf c us _)
  have r14 : W0.rangeAt w.heap.size 14 us := range_blk hB 14 scc_ps
  have hz := hB.lt
  have HPL := Lib.hid (fun k hk => progsT_len hps hU hP.p8 k hk)
  have HP := Lib.hid hP0
  have HE := Lib.hid hE0
  have X22 := Lib.hid x22
  have R0 := Lib.hid r0
  have R14 := Lib.hid r14
  have HU := Lib.hid hU
  have HM := Lib.hid m
  have HEO := Lib.hid hro.2
  have H8 := Lib.hid h8
  have hcl := confT_len c m
  have iA : (Tryz.prog.info? 27).map (·.size) = some us.length := by rw [h8]; kernel_rfl
  clear hP hE h8 m hR hP0 hE0 x22 r0 r14 hU hro hv
  generalize scc c us (.slice EA en ec) = cs at *
  go_enter Tryz.func13, Tryz.ntmps13
  go_upto_region 1 with (fail)
  have tok1 : True := trivial
  go_upto_region 4 with (first | (have _t := tok1; refine wpList_load_row (o := ⟨some 10, _, _, _, _, _⟩) rfl 30 (.tmp 1) rfl w.heap.size rfl 30 _ _ _ hB Tryz.underlying30 rfl hi ?_; clear tok1 _t) | (go_at_call 30; refine hr.mono ?_; rintro e w1 ⟨rfl, hb1⟩))
  go_upto_region 5 with (fail)
  obtain ⟨B, hBq⟩ : ∃ B, w1.heap.size = B := ⟨_, rfl⟩
  have hWB : W0.heap.size ≤ B := by rw [← hBq]; exact hb1.size
  obtain ⟨W2, hW2, K0, hW, hB2⟩ : ∃ W2, w1.alloc (.cells #[.pointer none, .slice none 0 0] 91) = W2 ∧ Below W0.heap.size W0 W2 ∧ WT B B [] W2 ∧ B ≤ W2.heap.size := ⟨_, rfl, bnew hb1 _, by rw [← hBq]; exact WT_new w1, by rw [← hBq]; simp⟩
  rw [hW2, hBq]
  clear hW2 hBq hb1 hB hr
  have rq : W2.rangeAt w.heap.size 0 [.int .i64 c.lv, .int .i64 c.th, .int .i64 c.o0, .int .i64 c.o1, .int .i64 c.o2, .int .i64 c.o3, .int .i64 c.o4, .int .i64 c.o5, .int .i64 c.o6, .int .i64 c.o7, .int .i64 c.sl, .int .i64 c.li, .int .i64 c.ge, .int .i64 c.qu] := fun j v hj => keep_below (R0.out j v hj) K0
  have tok1 : True := trivial
  go_upto_region 6 with (first | (have _t := tok1; refine wpList_load_mid (op := ⟨some 23, _, _, _, _, _⟩) rfl 25 (.tmp 22) rfl w.heap.size (0) rfl [.int .i64 c.lv, .int .i64 c.th, .int .i64 c.o0, .int .i64 c.o1, .int .i64 c.o2, .int .i64 c.o3, .int .i64 c.o4, .int .i64 c.o5, .int .i64 c.o6, .int .i64 c.o7, .int .i64 c.sl, .int .i64 c.li, .int .i64 c.ge, .int .i64 c.qu] _ rq Tryz.underlying25 rfl (by kernel_rfl) ?_; clear tok1 _t) | (go_at_call 36; refine (wtconf_any c hW HM.out (by simp) (HV.out.below K0) hB2).mono ?_; rintro e w3 ⟨rfl, hW3, kp3, ks3⟩))
  have K3 := K0.trans (kp3.mono hWB)
  have s3 := Nat.le_trans hB2 ks3
  have rq3 : w3.rangeAt w.heap.size 14 us := fun j v hj => keep_below (R14.out j v hj) K3
  clear K0 hW rq hB2 kp3 x0 ks3
  generalize hV : Value.agg cs.toArray = V at *
  generalize Value.agg #[.int .i64 c.lv, .int .i64 c.th, .int .i64 c.o0, .int .i64 c.o1, .int .i64 c.o2, .int .i64 c.o3, .int .i64 c.o4, .int .i64 c.o5, .int .i64 c.o6, .int .i64 c.o7, .int .i64 c.sl, .int .i64 c.li, .int .i64 c.ge, .int .i64 c.qu] = V1 at *
  have tok1 : True := trivial
  go_wp2_with (have _t := tok1; refine wpList_load_mid (op := ⟨some 26, _, _, _, _, _⟩) rfl 27 (.tmp 25) rfl w.heap.size (14) rfl us _ rq3 Tryz.underlying27 rfl iA ?_; clear tok1 _t)
  clear rq3
  have HIX := Lib.hid (fun (k : Nat) (v : Value) (hk : us[k]? = some v) (W : World) => idx_usT H8.out hk W)
  go_loopg [27] 8 (fun gk i wr => ∃ k : Nat, k + gk = 8 ∧ i = .int .i64 k ∧ WT B B (lineW (confT c) ++ progsT ps k) wr ∧ Below W0.heap.size W0 wr ∧ B ≤ wr.heap.size)
  case atStart => exact ⟨0, by omega, rfl, by simpa [progsT] using hW3, K3, s3⟩
  case round =>
    clear hW3 K3 s3
    obtain ⟨k, hk, rfl, hW, K0, hBr⟩ := hrel
    by_cases hlt : k < 8
    · have hlt' : (k : Int) < 8 := by omega
      have b0 : (0 : Int) ≤ (k : Int) := by omega
      obtain ⟨l, hl⟩ : ∃ l, ps[k]? = some l := ⟨ps[k]'(by have := HP.out.p8; omega), List.getElem?_eq_getElem (i := k) _⟩
      obtain ⟨A, n, c', hu, hs, _⟩ := HP.out.at_ k l hl
      have hix := HIX.out k _ hu
      have hlen : l.length ≤ 10000 := hps l (List.mem_of_getElem? hl)
      have hn : n ≤ 10000 := by have := hs.len; omega
      have HS := Lib.hid hs
      have HN := Lib.hid hs.len
      have HCU := Lib.hid (HU.out l (List.mem_of_getElem? hl))
      have HPS := Lib.hid (progsT_succ (ps := ps) (k := k) hl)
      have hpl := HPL.out k (by omega)
      have HIT : Hid (∀ W, Below W0.heap.size W0 W → Calls Tryz.prog 38 #[.int .i64 (k : Int)] W fun e w' => e = .returned (.string (bstr (Lib.itoa (k : Int)))) ∧ Below W.heap.size W w') := fun W hW => itoa_any _ (by unfold I64; omega) (HV.out.below hW)
      have hl1 : (lineW (confT c) ++ progsT ps k).length ≤ 400000000 := by rw [List.length_append]; omega
      obtain ⟨bt, hbt⟩ : ∃ bt, lineW (confT c) ++ progsT ps k = bt := ⟨_, rfl⟩
      rw [hbt] at hW hl1
      have HBT := Lib.hid hbt
      clear hl hu hbt hpl hlen hs
      obtain ⟨gr, hgr⟩ : ∃ g, g = gk := ⟨_, rfl⟩
      subst hgr
      go_wp2_with fail
      go_loopg [33] n (fun gk i w4 => ∃ j : Nat, j + gk = n ∧ i = .int .i64 j ∧ WT B B (bt ++ progT k (l.take j)) w4 ∧ Below W0.heap.size W0 w4 ∧ B ≤ w4.heap.size)
      case atStart => exact ⟨0, by omega, rfl, by simpa [progT] using hW, K0, hBr⟩
      case round =>
        clear hW K0 hBr
        obtain ⟨j, hj, rfl, hW, K0, hBr⟩ := hrel
        by_cases hjn : j < n
        · obtain ⟨b, o', rfl, _, _⟩ := HS.out.base cvc_len (by decide) (by omega)
          obtain ⟨x, hx⟩ : ∃ x, l[j]? = some x := ⟨l[j]'(by have := HN.out; omega), List.getElem?_eq_getElem (i := j) _⟩
          have r1 : wr.rangeAt b (o' + j * 7) [.int .i64 x.op, .int .i64 x.lv, .int .i64 x.key, .int .u64 x.a, .int .u64 x.b, .int .u64 x.h, .int .i64 x.rg] := range_sl cvc_len (HS.out.below K0) hx
          have j0 : (0 : Int) ≤ (j : Int) := by omega
          have j1 : (j : Int) < (n : Int) := by omega
          have hxi := HCU.out x (List.mem_of_getElem? hx)
          have HCC : Hid (∀ W, Below W0.heap.size W0 W → Calls Tryz.prog 20 #[.agg #[.int .i64 x.op, .int .i64 x.lv, .int .i64 x.key, .int .u64 x.a, .int .u64 x.b, .int .u64 x.h, .int .i64 x.rg]] W fun e w' => e = .returned (.string (bstr (CW x))) ∧ Below W.heap.size W w') := fun W hW => tcall_cv x hxi (HV.out.below hW)
          have HT : Hid (bt ++ progT k (l.take (j + 1)) = (bt ++ progT k (l.take j)) ++ lineW (callT k x)) := by rw [Hid, List.take_add_one, hx]; simp [progT]
          have hl3 : (bt ++ progT k (l.take j)).length ≤ 900000000 := by
            have h1 := progT_len k (l.take j) (fun y hy => HCU.out y (List.mem_of_mem_take hy)) (by omega)
            rw [List.length_append]
            rw [List.length_take] at h1
            omega
          have HL5 : Hid ((lineW (callT k x)).length ≤ 1000000) := Nat.le_trans (callT_len k x hxi (by omega)) (by omega)
          obtain ⟨bu, hbu⟩ : ∃ bu, bt ++ progT k (l.take j) = bu := ⟨_, rfl⟩
          rw [hbu] at hW HT hl3
          clear hbu hx hxi
          have tok2 : True := trivial
          go_upto_region 12 with (have _t := tok2; refine wpList_load_mid (op := ⟨some 36, _, _, _, _, _⟩) rfl 51 (.tmp 35) rfl b (o' + j * 7) rfl [.int .i64 x.op, .int .i64 x.lv, .int .i64 x.key, .int .u64 x.a, .int .u64 x.b, .int .u64 x.h, .int .i64 x.rg] _ r1 Tryz.underlying51 rfl (by kernel_rfl) ?_; clear tok2 _t)
          obtain ⟨q5, hq5⟩ : ∃ q5, wr.heap.size = q5 := ⟨_, rfl⟩
          obtain ⟨w5, hw5, hB5, K5, hWB5, hBW5, hz5⟩ : ∃ w5, wr.alloc (.cells #[.int .i64 x.op, .int .i64 x.lv, .int .i64 x.key, .int .u64 x.a, .int .u64 x.b, .int .u64 x.h, .int .i64 x.rg] 51) = w5 ∧ Blk w5 q5 51 #[.int .i64 x.op, .int .i64 x.lv, .int .i64 x.key, .int .u64 x.a, .int .u64 x.b, .int .u64 x.h, .int .i64 x.rg] ∧ Below W0.heap.size W0 w5 ∧ WT B B bu w5 ∧ B ≤ w5.heap.size ∧ W0.heap.size ≤ w5.heap.size := ⟨_, rfl, hq5 ▸ Blk.new _ _ _, bnew K0 _, hW.below (bnew (brefl wr) _), Nat.le_trans hBr (by simp), (bnew K0 _).size⟩
          rw [hw5, hq5]
          have i7 : (Tryz.prog.info? 51).map (·.size) = some (#[.int .i64 x.op, .int .i64 x.lv, .int .i64 x.key, .int .u64 x.a, .int .u64 x.b, .int .u64 x.h, .int .i64 x.rg] : Array Value).size := by kernel_rfl
          clear hw5 r1 hW K0
          have hX := @Ext.cell w5
          refine wp_region_noPanic ?_
          refine NC.wp_region_lastU (fun w' => ∃ x : Ext w5, w' = x.w) 6 (NC.PG.one [0, 1, 3] 2 (NC.PG.one [] 4 (NC.PG.one [] 5 (NC.PG.fin [])))) (by kernel_rfl) (by kernel_rfl) (by kernel_rfl) (fun _ _ _ _ _ h => h) ⟨⟨_, (brefl w5).drew⟩, rfl⟩ ?_
          refine NC.wpG_one ?_
          simp only [NC.pickOps, List.getElem?_cons_succ, List.getElem?_cons_zero, Option.elim_some]
          go_big_quiet_step (fail)
          go_big_quiet_step (fail)
          refine wpQuiet_load_row rfl 51 (.tmp 9) rfl q5 rfl 51 _ _ (fun w' ⟨y, e⟩ => e ▸ hB5.below_ y.b) Tryz.underlying51 rfl i7 ?_; simp only [Act.put, List.setIfInBounds_toArray, List.set_cons_succ, List.set_cons_zero]
          refine wpQuiet_nil ?_
          refine NC.planAct_some (fun K hK => ?_)
          go_simp
          refine (HIT.out _ (K5.trans ((brefl w5).drew.mono hz5))).mono ?_
          rintro e wA ⟨rfl, hbA⟩
          go_wp2_with fail
          refine hK.out _ _ ⟨⟨_, (bnext (brefl w5).drew hbA)⟩, rfl⟩ ?_
          clear hK K
          refine NC.wpG_one ?_
          simp only [NC.pickOps, List.getElem?_cons_succ, List.getElem?_cons_zero, Option.elim_some]
          repeat (go_big_quiet_step (fail))
          refine wpQuiet_nil ?_
          refine NC.planAct_some (fun K hK => ?_)
          go_simp
          refine (HCC.out _ (K5.trans ((bnext (brefl w5).drew hbA).mono hz5))).mono ?_
          rintro e wB ⟨rfl, hbB⟩
          go_wp2_with fail
          refine hK.out _ _ ⟨⟨_, (bnext (bnext (brefl w5).drew hbA) hbB)⟩, rfl⟩ ?_
          clear hK K
          refine NC.wpG_one ?_
          simp only [NC.pickOps, List.getElem?_cons_succ, List.getElem?_cons_zero, Option.elim_some]
          repeat (go_big_quiet_step (fail))
          refine wpQuiet_nil ?_
          refine NC.planAct_some (fun K hK => ?_)
          go_simp
          refine hK.out _ _ (ext_mem (bnew (bnext (bnext (brefl w5).drew hbA) hbB) _)) ?_
          clear hK K
          obtain ⟨W3, hW3, kb3, sl3⟩ : ∃ W3, wB.alloc (.cells #[.string ⟨#[99, 97, 108, 108]⟩, .string (bstr (Lib.itoa (k : Int))), .string (bstr (CW x))] 9) = W3 ∧ Below w5.heap.size w5 W3 ∧ Sl swc W3 (some ⟨wB.heap.size, 0, none⟩) 3 3 (callT k x) := ⟨_, rfl, bnew (bnext (bnext (brefl w5).drew hbA) hbB) _, slsw_own (own_new wB (Nat.le_refl _) (by unfold maxLen; omega) (Nat.le_refl 3) rfl)⟩
          rw [hW3]
          clear hW3
          refine NC.wpG_fin ?_
          simp only [NC.pickOps, List.getElem?_cons_succ, List.getElem?_cons_zero, Option.elim_some]
          repeat (go_big_quiet_step (fail))
          refine wpQuiet_nil ?_
          refine NC.lastG_some (fun K hK => ?_)
          go_simp
          refine (wline_any (ws := callT k x) (hWB5.below kb3) sl3 (by omega) (by omega) HL5.out (by omega) (Nat.le_trans hBW5 kb3.size)).mono ?_
          rintro e w9 ⟨rfl, hW9, hb9, hs9⟩
          go_wp2_with fail
          refine hK.out _ _ ?_
          clear hK K
          refine NoPanic.normal ?_
          clear hX
          go_wp2_with fail
          have kb9 := (kb3.mono hBW5).trans hb9
          go_roundg (gk - 1)
          case measure => omega
          case rel => exact ⟨j + 1, by omega, by go_num, by rw [HT.out]; exact hW9, K5.trans (kb9.mono hWB), by have := kb3.size; omega⟩
        · have t8 : decide (j < n) = false := decide_eq_false (by omega)
          obtain rfl : j = n := by omega
          rw [List.take_of_length_le (by have := HN.out; omega)] at hW
          go_wp2_with fail
          go_roundg (gr - 1)
          case measure => omega
          case rel => exact ⟨k + 1, by omega, by go_num, by rw [HPS.out, ← List.append_assoc, HBT.out]; exact hW, K0, hBr⟩
    · have t8 : decide (k < 8) = false := decide_eq_false (by omega)
      obtain rfl : k = 8 := by omega
      have v22 := keep_below X22.out K0
      have hl1 : (lineW (confT c) ++ progsT ps 8).length ≤ 400000000 := by have := HPL.out 8 (by omega); rw [List.length_append]; omega
      have hpos : 0 < (lineW (confT c)).length := by unfold lineW; rw [List.length_append]; exact Nat.lt_of_lt_of_le (Nat.zero_lt_one) (Nat.le_add_left _ _)
      have hHW := (wents_any (l := lineW (confT c) ++ progsT ps 8) hW HE.out hen (fun x hx => by have := HEO.out x hx; unfold EnOkT at this; omega) (by omega) HV.out K0 hWB hBr)
      go_upto_region 16 with (go_at_call 39; refine hHW.mono ?_; rintro e w7 ⟨rfl, hW7, hb7, hs7⟩)
      have hS := wr_string hW7 (by intro h0; have := congrArg List.length h0; rw [List.length_append, List.length_append] at this; simp only [List.length_nil] at this; omega)
      go_wp2_with (go_at_call 40; refine hS.mono ?_; rintro e w8 ⟨rfl, hb8⟩)
      go_ret2
      exact ⟨by rw [putT, List.append_assoc]; rfl, kb.trans (((K0.trans (hb7.mono hWB)).trans (hb8.mono hWB)).mono kb.size)⟩

end Go.Proofs.YtjjgngccgjpnaaaGreatDoor
namespace Go.Proofs.YtjjgngccgjpnaaaGreatDoor
set_option linter.unusedVariables false
set_option linter.unusedSimpArgs false
open Go.RowKit

set_option maxHeartbeats 4000000 in
set_option maxRecDepth 100000 in
theorem tput_no1 {w : World} {c : Cf} {us : List Value} {ps : List (List CV)} {EA : Option Addr} {en ec : Nat} {es : List En} (hP : PIn (fun _ => False) w us ps) (hE : Sl enc_ w EA en ec es) (hen : en ≤ 1000000) (hps : ∀ l, l ∈ ps → l.length ≤ 1000000) (hm : mayB c = true) {n : Int} (hn : n ≠ 0) (hR : ∀ lv, (mayB c = true → lv = c.lv - 1) → rightN c ps es lv = n) :
    Calls Tryz.prog 13 #[.agg (scc c us (.slice EA en ec)).toArray] w fun e w' => ∃ p : Nat, e = .returned (.tuple #[.string ⟨#[]⟩, .iface 153 (.pointer (some ⟨p, 0, none⟩))]) ∧ ErrAt w' (.iface 153 (.pointer (some ⟨p, 0, none⟩))) n ∧ Below w.heap.size w w' := by
  have h8 := hP.u8
  have m : c.May := of_decide_eq_true hm
  have hlv1 := m.l1
  have hlv2 := m.l2
  have hi := info_scc (c := c) (ev := .slice EA en ec) h8
  obtain ⟨W0, hW0, hB, kb⟩ : ∃ W0, w.alloc (.cells (scc c us (.slice EA en ec)).toArray 30) = W0 ∧ Blk W0 w.heap.size 30 (scc c us (.slice EA en ec)).toArray ∧ Below w.heap.size w W0 := ⟨_, rfl, Blk.new _ _ _, bnew (brefl w) _⟩
  have x0 : W0.cell? ⟨w.heap.size, 0, none⟩ = some (.int .i64 c.lv) := hB.cell 0
  have hr : ∀ lv, (mayB c = true → lv = c.lv - 1) → Calls Tryz.prog 30 #[.agg (scc c us (.slice EA en ec)).toArray, .int .i64 lv] W0 fun e w' => ∃ p : Nat, e = .returned (.iface 153 (.pointer (some ⟨p, 0, none⟩))) ∧ ErrAt w' (.iface 153 (.pointer (some ⟨p, 0, none⟩))) n ∧ Below W0.heap.size W0 w' := fun lv hl => (right_any (w := W0) (c := c) (hP.below kb) (hE.below kb) hen hps lv).mono fun e w' ⟨v, h1, h2, h3⟩ => by
    rw [hR lv hl] at h2
    rcases h2 with ⟨a, _⟩ | ⟨a, p, rfl, hc⟩
    · exact absurd a hn
    · exact ⟨p, h1, .inr ⟨a, p, rfl, hc⟩, h3⟩
  have hz := hB.lt
  have HM := Lib.hid hm
  have HRR := Lib.hid hr
  clear hP hE h8 hm hR hn hr m
  generalize scc c us (.slice EA en ec) = cs at *
  go_enter Tryz.func13, Tryz.ntmps13
  go_upto_region 1 with (fail)
  have tok1 : True := trivial
  go_wp2_with (first | (have _t := tok1; refine wpList_load_row (o := ⟨some 10, _, _, _, _, _⟩) rfl 30 (.tmp 1) rfl w.heap.size rfl 30 _ _ _ hB Tryz.underlying30 rfl hi ?_; clear tok1 _t) | (go_at_call 30; refine (HRR.out _ (fun _ => rfl)).mono ?_; rintro e w1 ⟨p, rfl, hv, hb1⟩))
  go_ret2
  exact ⟨p, rfl, hv, bnext kb hb1⟩
set_option maxHeartbeats 4000000 in
set_option maxRecDepth 100000 in
theorem tput_no2 {w : World} {c : Cf} {us : List Value} {ps : List (List CV)} {EA : Option Addr} {en ec : Nat} {es : List En} (hP : PIn (fun _ => False) w us ps) (hE : Sl enc_ w EA en ec es) (hen : en ≤ 1000000) (hps : ∀ l, l ∈ ps → l.length ≤ 1000000) (hm : mayB c = false) {n : Int} (hn : n ≠ 0) (hR : ∀ lv, (mayB c = true → lv = c.lv - 1) → rightN c ps es lv = n) :
    Calls Tryz.prog 13 #[.agg (scc c us (.slice EA en ec)).toArray] w fun e w' => ∃ p : Nat, e = .returned (.tuple #[.string ⟨#[]⟩, .iface 153 (.pointer (some ⟨p, 0, none⟩))]) ∧ ErrAt w' (.iface 153 (.pointer (some ⟨p, 0, none⟩))) n ∧ Below w.heap.size w w' := by
  have h8 := hP.u8
  
  
  
  have hi := info_scc (c := c) (ev := .slice EA en ec) h8
  obtain ⟨W0, hW0, hB, kb⟩ : ∃ W0, w.alloc (.cells (scc c us (.slice EA en ec)).toArray 30) = W0 ∧ Blk W0 w.heap.size 30 (scc c us (.slice EA en ec)).toArray ∧ Below w.heap.size w W0 := ⟨_, rfl, Blk.new _ _ _, bnew (brefl w) _⟩
  have x0 : W0.cell? ⟨w.heap.size, 0, none⟩ = some (.int .i64 c.lv) := hB.cell 0
  have hr : ∀ lv, (mayB c = true → lv = c.lv - 1) → Calls Tryz.prog 30 #[.agg (scc c us (.slice EA en ec)).toArray, .int .i64 lv] W0 fun e w' => ∃ p : Nat, e = .returned (.iface 153 (.pointer (some ⟨p, 0, none⟩))) ∧ ErrAt w' (.iface 153 (.pointer (some ⟨p, 0, none⟩))) n ∧ Below W0.heap.size W0 w' := fun lv hl => (right_any (w := W0) (c := c) (hP.below kb) (hE.below kb) hen hps lv).mono fun e w' ⟨v, h1, h2, h3⟩ => by
    rw [hR lv hl] at h2
    rcases h2 with ⟨a, _⟩ | ⟨a, p, rfl, hc⟩
    · exact absurd a hn
    · exact ⟨p, h1, .inr ⟨a, p, rfl, hc⟩, h3⟩
  have hz := hB.lt
  have HM := Lib.hid hm
  have HRR := Lib.hid hr
  clear hP hE h8 hm hR hn hr 
  generalize scc c us (.slice EA en ec) = cs at *
  go_enter Tryz.func13, Tryz.ntmps13
  go_upto_region 1 with (fail)
  have tok1 : True := trivial
  go_wp2_with (first | (have _t := tok1; refine wpList_load_row (o := ⟨some 10, _, _, _, _, _⟩) rfl 30 (.tmp 1) rfl w.heap.size rfl 30 _ _ _ hB Tryz.underlying30 rfl hi ?_; clear tok1 _t) | (go_at_call 30; refine (HRR.out _ (fun q => by rw [HM.out] at q; cases q)).mono ?_; rintro e w1 ⟨p, rfl, hv, hb1⟩))
  go_ret2
  exact ⟨p, rfl, hv, bnext kb hb1⟩

end Go.Proofs.YtjjgngccgjpnaaaGreatDoor
namespace Go.Proofs.YtjjgngccgjpnaaaGreatDoor
set_option linter.unusedVariables false
set_option linter.unusedSimpArgs false
open Go.RowKit

def sp (n : Int) : List UInt8 := 32 :: Lib.itoa n
theorem tail_sp : ∀ ns : List Int, Lib.joinTail [32] (ns.map Lib.itoa) = ns.flatMap sp
  | [] => rfl
  | x :: t => by
    have h := tail_sp t
    unfold Lib.joinTail at h ⊢
    rw [List.map_cons, List.map_cons, List.flatten_cons, h, List.flatMap_cons]
    rfl
theorem confT_sp (c : Cf) : lineW (confT c) = conB ++ ((confN c).flatMap sp ++ [10]) := by
  rw [lineW, confT, Lib.join_cons, tail_sp, List.append_assoc]
theorem callT_sp (k : Nat) (x : CV) : lineW (callT k x) = [99, 97, 108, 108, 32] ++ (Lib.itoa (k : Int) ++ (32 :: (CW x ++ [10]))) := by
  simp [lineW, callT, Lib.join_cons, Lib.joinTail]
theorem pickT_sp (e : En) (n : Nat) : lineW (pickT e n) = [112, 105, 99, 107, 32] ++ (Lib.itoa e.th ++ (32 :: (Lib.itoa (n : Int) ++ [10]))) := by
  simp [lineW, pickT, nameB, Lib.join_cons, Lib.joinTail]
theorem stopT_sp (e : En) : lineW (stopT e) = nameB e.wh ++ (32 :: (Lib.itoa e.th ++ [10])) := by
  simp [lineW, stopT, Lib.join_cons, Lib.joinTail]
/-- What is still to be written behind p. -/
def entR : Option En → List En → List UInt8
  | _, [] => []
  | p, e :: t => if e.wh = 0 then (if p = some e then entR (some e) t else lineW (pickT e (1 + runL e t)) ++ entR (some e) t) else lineW (stopT e) ++ entR (some e) t
theorem entR_run {e : En} (h : e.wh = 0) : ∀ t : List En, entR (some e) t = entR (some e) (t.drop (runL e t))
  | [] => rfl
  | x :: t => by
    rw [runL]
    split
    · rename_i hx
      subst hx
      rw [List.drop_succ_cons, ← entR_run h t]
      conv => lhs; rw [entR, if_pos h, if_pos rfl]
    · rfl
theorem entR_fresh {p : Option En} {l : List En} (h : ∀ e t, l = e :: t → e.wh = 0 → p ≠ some e) : entR p l = entW l := by
  induction hn : l.length using Nat.strongRecOn generalizing p l with
  | ind n ih =>
    cases l with
    | nil => rw [entR, entW_nil]
    | cons e t =>
      by_cases hw : e.wh = 0
      · rw [entR, if_pos hw, if_neg (h e t rfl hw), entW_pick hw, entR_run hw]
        rw [ih _ (by rw [← hn, List.length_drop, List.length_cons]; omega) (p := some e) (l := t.drop (runL e t)) (fun e' t' hl hw' he => ?_) rfl]
        have he' := Option.some.inj he
        subst he'
        have h1 := runL_end e t
        have h2 : (t.drop (runL e t))[0]? = some e := by rw [hl]; rfl
        rw [List.getElem?_drop, Nat.add_zero] at h2
        exact h1 h2
      · rw [entR, if_neg hw, entW_stop hw]
        rw [ih _ (by rw [← hn, List.length_cons]; omega) (p := some e) (l := t) (fun e' t' hl hw' he => ?_) rfl]
        have he' := Option.some.inj he
        subst he'
        exact hw hw'
theorem entR_none (l : List En) : entR none l = entW l := entR_fresh (fun _ _ _ _ h => by cases h)
def prv (es : List En) : Nat → Option En
  | 0 => none
  | k + 1 => es[k]?
theorem entR_nil (p : Option En) : entR p [] = [] := rfl
theorem entR_stop {e : En} {p : Option En} {t : List En} (h : e.wh ≠ 0) : entR p (e :: t) = lineW (stopT e) ++ entR (some e) t := by rw [entR, if_neg h]
theorem entR_same {e : En} {t : List En} (h : e.wh = 0) : entR (some e) (e :: t) = entR (some e) t := by
  conv => lhs; rw [entR, if_pos h, if_pos rfl]
theorem entR_pick {e : En} {p : Option En} {t : List En} (h : e.wh = 0) (hp : p ≠ some e) : entR p (e :: t) = lineW (pickT e (runL e (e :: t))) ++ entR (some e) t := by
  rw [entR, if_pos h, if_neg hp, runL, if_pos rfl, Nat.add_comm]
def bndE (k : Nat) : Nat := 60000000 + k * 100
theorem bndE_eq (k : Nat) : bndE k = 60000000 + k * 100 := rfl
theorem bndE_step {s s' k : Nat} (h : s ≤ bndE k) (h' : s' ≤ s + 100) : s' ≤ bndE (k + 1) := by
  have e1 := bndE_eq k
  have e2 := bndE_eq (k + 1)
  omega
theorem bndE_le {s k : Nat} (h : s ≤ bndE k) (hk : k ≤ 100000) : s ≤ 900000000 := by
  have e1 := bndE_eq k
  omega
theorem bnd_start {a b : Nat} (ha : a ≤ 2000) (hb : b ≤ 8 * 7000000) : a + b ≤ bndE 0 := by
  have e1 := bndE_eq 0
  omega

end Go.Proofs.YtjjgngccgjpnaaaGreatDoor
