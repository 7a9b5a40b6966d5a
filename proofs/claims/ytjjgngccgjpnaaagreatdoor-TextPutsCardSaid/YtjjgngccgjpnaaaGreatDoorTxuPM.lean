/- The text of a script by the document. -/
import Derived.Test.YtjjgngccgjpnaaaGreatDoorTxuNM
import Derived.Test.YtjjgngccgjpnaaaGreatDoorTxtR
import Derived.Test.YtjjgngccgjpnaaaGreatDoorScrI
import Derived.Test.YtjjgngccgjpnaaaGreatDoorScrG
namespace Go.Proofs.YtjjgngccgjpnaaaGreatDoor
set_option linter.unusedVariables false
set_option linter.unusedSimpArgs false
open Go.RowKit

def bndT (k j : Nat) : Nat := 2000 + k * 7000000 + j * 700
theorem bndT_eq (k j : Nat) : bndT k j = 2000 + k * 7000000 + j * 700 := rfl
theorem bndT_step {s k j : Nat} (h : s ≤ bndT k j) (hj : j ≤ 10000) : s ≤ bndT (k + 1) 0 := by
  have e1 := bndT_eq k j
  have e2 := bndT_eq (k + 1) 0
  omega
theorem keeps_rowT (w : World) (g : Nat) (cs : Array Value) : Keeps (fun b => b = g) w (w.setRow g cs) :=
  ⟨(grown_setRow w g cs).os, (grown_setRow w g cs).tape, (grown_setRow w g cs).output, (grown_setRow w g cs).size, fun b hb hn => (grown_setRow w g cs).block b hb (fun e => hn (by injection e))⟩
theorem blkRowT {w : World} {g : Nat} {t : TypeId} {cs : Array Value} (h : Blk w g t cs) (cs' : Array Value) : Blk (w.setRow g cs') g t cs' := setRow_heap w g _ _ t _ h
theorem sz1 : (⟨#[32]⟩ : ByteArray).size = 1 := rfl
theorem sz2 : (⟨#[10]⟩ : ByteArray).size = 1 := rfl
theorem sz3 : (⟨#[99, 111, 110, 102, 32]⟩ : ByteArray).size = 5 := rfl
theorem sz4 : (⟨#[99, 97, 108, 108, 32]⟩ : ByteArray).size = 5 := rfl
theorem sz5 : (⟨#[112, 105, 99, 107, 32]⟩ : ByteArray).size = 5 := rfl
set_option maxHeartbeats 4000000 in
set_option maxRecDepth 100000 in
theorem rtput_any {w : World} {c : Cf} {us : List Value} {ps : List (List CV)} {EA : Option Addr} {en ec : Nat} {es : List En} (hP : PIn (fun _ => False) w us ps) (hE : Sl enc_ w EA en ec es) (m : c.May) (hen : en ≤ 100000) (hps : ∀ l, l ∈ ps → l.length ≤ 10000) (hU : ∀ l, l ∈ ps → ∀ x, x ∈ l → CVi x) (hO : ∀ e, e ∈ es → EnOkT e) :
    Calls Tryz.prog 15 #[.agg (scc c us (.slice EA en ec)).toArray] w fun e w' => e = .returned (.string (bstr (putT c ps es))) ∧ Below w.heap.size w w' := by
  have h8 := hP.u8
  have hth1 := m.t1
  have hth2 := m.t2
  have hci := Lib.hid (confN_i c m)
  have ilv : I64 c.lv := by have := m.l1; have := m.l2; unfold I64; omega
  have ith : I64 c.th := by unfold I64; omega
  have isl : I64 c.sl := by have := m.s1; have := m.s2; unfold I64; omega
  have ili : I64 c.li := by have := m.m1; have := m.m2; unfold I64; omega
  have ige : I64 c.ge := by have := m.g1; have := m.g2; unfold I64; omega
  have iqu : I64 c.qu := by have := m.q1; have := m.q2; unfold I64; omega
  have s0 : (bstr (Lib.itoa c.lv)).size ≤ 21 := itoa_len ilv
  have s1 : (bstr (Lib.itoa c.th)).size ≤ 21 := itoa_len ith
  have s2 : (bstr (Lib.itoa c.sl)).size ≤ 21 := itoa_len isl
  have s3 : (bstr (Lib.itoa c.li)).size ≤ 21 := itoa_len ili
  have s4 : (bstr (Lib.itoa c.ge)).size ≤ 21 := itoa_len ige
  have s5 : (bstr (Lib.itoa c.qu)).size ≤ 21 := itoa_len iqu
  have I0 := Lib.hid ilv; have I1 := Lib.hid ith; have I2 := Lib.hid isl; have I3 := Lib.hid ili; have I4 := Lib.hid ige; have I5 := Lib.hid iqu
  have IO : Hid (∀ k : Nat, k < 8 → I64 (c.of k) ∧ (ofL c)[k]? = some (c.of k)) := fun k hk => ⟨by have := m.r k hk; have := m.l2; unfold I64; omega, by
    rcases (by omega : k = 0 ∨ k = 1 ∨ k = 2 ∨ k = 3 ∨ k = 4 ∨ k = 5 ∨ k = 6 ∨ k = 7) with rfl | rfl | rfl | rfl | rfl | rfl | rfl | rfl <;> rfl⟩
  have HNUM := Lib.hid (fun (n : Int) (hn : I64 n) (W : World) => num_any (w := W) n hn)
  obtain ⟨W0, hW0, hB, kb⟩ : ∃ W0, w.alloc (.cells (scc c us (.slice EA en ec)).toArray 30) = W0 ∧ Blk W0 w.heap.size 30 (scc c us (.slice EA en ec)).toArray ∧ Below w.heap.size w W0 := ⟨_, rfl, Blk.new _ _ _, bnew (brefl w) _⟩
  have hP0 := hP.below kb
  have hE0 := hE.below kb
  have x22 : W0.cell? ⟨w.heap.size, 22, none⟩ = some (.slice EA en ec) := (hB.cell 22).trans (by rw [List.getElem?_toArray]; exact scc_last h8)
  have xk : ∀ (k : Nat) (v : Value), us[k]? = some v → W0.cell? ⟨w.heap.size, 14 + k, none⟩ = some v := fun k v hk => (hB.cell _).trans (by rw [List.getElem?_toArray]; exact scc_get hk)
  have r0 : W0.rangeAt w.heap.size 0 [.int .i64 c.lv, .int .i64 c.th, .int .i64 c.o0, .int .i64 c.o1, .int .i64 c.o2, .int .i64 c.o3, .int .i64 c.o4, .int .i64 c.o5, .int .i64 c.o6, .int .i64 c.o7, .int .i64 c.sl, .int .i64 c.li, .int .i64 c.ge, .int .i64 c.qu] := range_blk hB 0 (scc_conf c us _)
  have hz := hB.lt
  have HP := Lib.hid hP0
  have HE := Lib.hid hE0
  have XK := Lib.hid xk
  have X22 := Lib.hid x22
  have HU := Lib.hid hU
  have HO := Lib.hid hO
  have HCL := Lib.hid (confT_len c m)
  have HPL := Lib.hid (progsT_len hps hU hP.p8 8 (by omega))
  clear xk hP hE h8 m hP0 hE0 x22 hU hO hci ilv ith isl ili ige iqu hB
  generalize (scc c us (.slice EA en ec)).toArray = V0 at *
  go_enter Tryz.func15, Tryz.ntmps15
  go_upto_region 1 with (fail)
  have tok1 : True := trivial
  have tok2 : True := trivial
  go_upto_region 2 with (first | (have _t := tok1; refine wpList_load_mid (op := ⟨some 13, _, _, _, _, _⟩) rfl 25 (.tmp 12) rfl w.heap.size (0) rfl [.int .i64 c.lv, .int .i64 c.th, .int .i64 c.o0, .int .i64 c.o1, .int .i64 c.o2, .int .i64 c.o3, .int .i64 c.o4, .int .i64 c.o5, .int .i64 c.o6, .int .i64 c.o7, .int .i64 c.sl, .int .i64 c.li, .int .i64 c.ge, .int .i64 c.qu] _ r0 Tryz.underlying25 rfl (by kernel_rfl) ?_; clear tok1 _t) | (have _t := tok2; refine wpList_store_row (o := ⟨none, .store 25 (.tmp 3) (.tmp 13), _, _, _, _⟩) rfl 25 (.tmp 3) (.tmp 13) rfl W0.heap.size _ rfl rfl 25 _ (Blk.new W0 25 #[.int .i64 0, .int .i64 0, .int .i64 0, .int .i64 0, .int .i64 0, .int .i64 0, .int .i64 0, .int .i64 0, .int .i64 0, .int .i64 0, .int .i64 0, .int .i64 0, .int .i64 0, .int .i64 0]) (by kernel_rfl) (by simp) (by simp [Value.oneCell']) ?_; clear tok2 _t))
  obtain ⟨qc, hqc⟩ : ∃ qc, W0.heap.size = qc := ⟨_, rfl⟩
  obtain ⟨W1, hW1, HB1, kb1⟩ : ∃ W1, (W0.alloc (.cells #[.int .i64 0, .int .i64 0, .int .i64 0, .int .i64 0, .int .i64 0, .int .i64 0, .int .i64 0, .int .i64 0, .int .i64 0, .int .i64 0, .int .i64 0, .int .i64 0, .int .i64 0, .int .i64 0] 25)).setRow W0.heap.size #[.int .i64 c.lv, .int .i64 c.th, .int .i64 c.o0, .int .i64 c.o1, .int .i64 c.o2, .int .i64 c.o3, .int .i64 c.o4, .int .i64 c.o5, .int .i64 c.o6, .int .i64 c.o7, .int .i64 c.sl, .int .i64 c.li, .int .i64 c.ge, .int .i64 c.qu] = W1 ∧ Hid (Blk W1 qc 25 #[.int .i64 c.lv, .int .i64 c.th, .int .i64 c.o0, .int .i64 c.o1, .int .i64 c.o2, .int .i64 c.o3, .int .i64 c.o4, .int .i64 c.o5, .int .i64 c.o6, .int .i64 c.o7, .int .i64 c.sl, .int .i64 c.li, .int .i64 c.ge, .int .i64 c.qu]) ∧ Below W0.heap.size W0 W1 := ⟨_, rfl, hqc ▸ blkRowT (Blk.new W0 _ _) _, (bnew (brefl _) _).trans (keeps_bel (keeps_rowT _ _ _) (by simp) (fun b e => by rw [e]; exact Nat.le_refl _))⟩
  rw [hW1, hqc]
  simp only [Act.put]
  clear hW1 hqc
  have x0 := HB1.out.cell 0
  have x1 := HB1.out.cell 1
  generalize Value.agg #[.int .i64 c.lv, .int .i64 c.th, .int .i64 c.o0, .int .i64 c.o1, .int .i64 c.o2, .int .i64 c.o3, .int .i64 c.o4, .int .i64 c.o5, .int .i64 c.o6, .int .i64 c.o7, .int .i64 c.sl, .int .i64 c.li, .int .i64 c.ge, .int .i64 c.qu] = V1 at *
  have hX := @Ext.cell W1
  have hzz0 := block_lt_of_cell x0
  refine wp_region_noPanic ?_
  refine wp_region_plan (fun w' => ∃ x : Ext W1, w' = x.w) [([0, 1, 5, 6], 2), ([3, 4], 7)] [8, 9] (by kernel_rfl) (by kernel_rfl) (by kernel_rfl) (fun _ _ _ _ _ h => h) ⟨⟨_, (brefl W1).drew⟩, rfl⟩ ?_
  refine wpPlan_cons ?_
  simp only [pickOps, List.getElem?_cons_succ, List.getElem?_cons_zero, Option.elim_some]
  repeat (go_big_quiet_step (fail))
  refine wpQuiet_nil ?_
  refine planAct_some (fun K hK => ?_)
  go_simp
  refine (HNUM.out c.lv I0.out _).mono ?_
  rintro e w' ⟨rfl, rfl⟩
  go_wp2_with fail
  refine hK.out _ _ ⟨⟨_, (brefl W1).drew⟩, rfl⟩ ?_
  clear hK K
  refine wpPlan_cons ?_
  simp only [pickOps, List.getElem?_cons_succ, List.getElem?_cons_zero, Option.elim_some]
  repeat (go_big_quiet_step (fail))
  refine wpQuiet_nil ?_
  refine planAct_some (fun K hK => ?_)
  go_simp
  refine (HNUM.out c.th I1.out _).mono ?_
  rintro e w' ⟨rfl, rfl⟩
  go_wp2_with fail
  refine hK.out _ _ ⟨⟨_, (brefl W1).drew⟩, rfl⟩ ?_
  clear hK K
  refine wpPlan_last ?_
  simp only [pickOps, List.getElem?_cons_succ, List.getElem?_cons_zero, Option.elim_some]
  repeat (go_big_quiet_step (fail))
  refine wpQuiet_nil ?_
  refine NoPanic.normal ?_
  clear hX hzz0
  clear x0 x1
  have HE2 : Hid ((⟨#[99, 111, 110, 102, 32]⟩ : ByteArray) ++ bstr (Lib.itoa c.lv) ++ ⟨#[32]⟩ ++ bstr (Lib.itoa c.th) = bstr (conB ++ ([c.lv, c.th] ++ (ofL c).take 0).flatMap sp)) := by
    rw [Hid, show (⟨#[99, 111, 110, 102, 32]⟩ : ByteArray) = bstr [99, 111, 110, 102, 32] from rfl, show (⟨#[32]⟩ : ByteArray) = bstr [32] from rfl]
    simp [bstr_app, conB, sp]
  go_wp2_with fail
  go_loopg [4, 5] c.th.toNat (fun gk t i wr => ∃ (k : Nat) (T : ByteArray), k + gk = c.th.toNat ∧ t = .string T ∧ i = .int .i64 k ∧ Hid (T = bstr (conB ++ ([c.lv, c.th] ++ (ofL c).take k).flatMap sp)) ∧ T.size ≤ 60 + k * 22 ∧ Below W1.heap.size W1 wr)
  case atStart => exact ⟨0, _, by omega, rfl, rfl, HE2, by simp only [ByteArray.size_append, sz1, sz2, sz3, sz4, sz5]; omega, (brefl W1).drew⟩
  case round =>
    obtain ⟨k, T, hk, rfl, rfl, hT, hTs, K1⟩ := hrel
    have y1 : wr.cell? ⟨qc, 1, none⟩ = some (.int .i64 c.th) := keep_below (HB1.out.cell 1) K1
    by_cases hlt : (k : Int) < c.th
    · have hk8 : k < 8 := by omega
      have b0 : (0 : Int) ≤ (k : Int) := by omega
      have b1 : (k : Int) < 8 := by omega
      obtain ⟨io, go⟩ := IO.out k hk8
      have yk : wr.cell? ⟨qc, 2 + k, none⟩ = some (.int .i64 (c.of k)) := keep_below (HB1.out.cell_ (by rw [List.getElem?_toArray]; exact (ofL_get c go).2)) K1
      have sk : (bstr (Lib.itoa (c.of k))).size ≤ 21 := itoa_len io
      have HT : Hid (T ++ ⟨#[32]⟩ ++ bstr (Lib.itoa (c.of k)) = bstr (conB ++ ([c.lv, c.th] ++ (ofL c).take (k + 1)).flatMap sp)) := by
        rw [Hid, hT.out, show (⟨#[32]⟩ : ByteArray) = bstr [32] from rfl, List.take_add_one, go]
        simp [bstr_app, sp]
      have hc := HNUM.out (c.of k) io
      clear io go
      go_wp2_with (go_at_call 44; refine (hc _).mono ?_; rintro e w' ⟨rfl, rfl⟩)
      go_roundg (gk - 1)
      case measure => omega
      case rel => exact ⟨k + 1, _, by omega, rfl, by go_num, HT, by simp only [ByteArray.size_append, sz1, sz2, sz3, sz4, sz5]; omega, K1⟩
    · have t8 : decide ((k : Int) < c.th) = false := decide_eq_false hlt
      obtain rfl : k = c.th.toNat := by omega
      have y10 : wr.cell? ⟨qc, 10, none⟩ = some (.int .i64 c.sl) := keep_below (HB1.out.cell 10) K1
      have y11 : wr.cell? ⟨qc, 11, none⟩ = some (.int .i64 c.li) := keep_below (HB1.out.cell 11) K1
      have y12 : wr.cell? ⟨qc, 12, none⟩ = some (.int .i64 c.ge) := keep_below (HB1.out.cell 12) K1
      have y13 : wr.cell? ⟨qc, 13, none⟩ = some (.int .i64 c.qu) := keep_below (HB1.out.cell 13) K1
      have hTs' : T.size ≤ 300 := by omega
      go_upto_region 7 with fail
      have hX := @Ext.cell wr
      have hzz0 := block_lt_of_cell y10
      refine wp_region_noPanic ?_
      refine wp_region_plan (fun w' => ∃ x : Ext wr, w' = x.w) [([0, 1, 2, 3, 7, 8, 12, 13, 17, 18], 4), ([5, 6], 9), ([10, 11], 14), ([15, 16], 19)] [20, 21, 22] (by kernel_rfl) (by kernel_rfl) (by kernel_rfl) (fun _ _ _ _ _ h => h) ⟨⟨_, (brefl wr).drew⟩, rfl⟩ ?_
      refine wpPlan_cons ?_
      simp only [pickOps, List.getElem?_cons_succ, List.getElem?_cons_zero, Option.elim_some]
      repeat (go_big_quiet_step (fail))
      refine wpQuiet_nil ?_
      refine planAct_some (fun K hK => ?_)
      go_simp
      refine (HNUM.out c.sl I2.out _).mono ?_
      rintro e w' ⟨rfl, rfl⟩
      go_wp2_with fail
      refine hK.out _ _ ⟨⟨_, (brefl wr).drew⟩, rfl⟩ ?_
      clear hK K
      refine wpPlan_cons ?_
      simp only [pickOps, List.getElem?_cons_succ, List.getElem?_cons_zero, Option.elim_some]
      repeat (go_big_quiet_step (fail))
      refine wpQuiet_nil ?_
      refine planAct_some (fun K hK => ?_)
      go_simp
      refine (HNUM.out c.li I3.out _).mono ?_
      rintro e w' ⟨rfl, rfl⟩
      go_wp2_with fail
      refine hK.out _ _ ⟨⟨_, (brefl wr).drew⟩, rfl⟩ ?_
      clear hK K
      refine wpPlan_cons ?_
      simp only [pickOps, List.getElem?_cons_succ, List.getElem?_cons_zero, Option.elim_some]
      repeat (go_big_quiet_step (fail))
      refine wpQuiet_nil ?_
      refine planAct_some (fun K hK => ?_)
      go_simp
      refine (HNUM.out c.ge I4.out _).mono ?_
      rintro e w' ⟨rfl, rfl⟩
      go_wp2_with fail
      refine hK.out _ _ ⟨⟨_, (brefl wr).drew⟩, rfl⟩ ?_
      clear hK K
      refine wpPlan_cons ?_
      simp only [pickOps, List.getElem?_cons_succ, List.getElem?_cons_zero, Option.elim_some]
      repeat (go_big_quiet_step (fail))
      refine wpQuiet_nil ?_
      refine planAct_some (fun K hK => ?_)
      go_simp
      refine (HNUM.out c.qu I5.out _).mono ?_
      rintro e w' ⟨rfl, rfl⟩
      go_wp2_with fail
      refine hK.out _ _ ⟨⟨_, (brefl wr).drew⟩, rfl⟩ ?_
      clear hK K
      refine wpPlan_last ?_
      simp only [pickOps, List.getElem?_cons_succ, List.getElem?_cons_zero, Option.elim_some]
      repeat (go_big_quiet_step (fail))
      refine wpQuiet_nil ?_
      refine NoPanic.normal ?_
      clear hX hzz0
      have HE7 : Hid (T ++ ⟨#[32]⟩ ++ bstr (Lib.itoa c.sl) ++ ⟨#[32]⟩ ++ bstr (Lib.itoa c.li) ++ ⟨#[32]⟩ ++ bstr (Lib.itoa c.ge) ++ ⟨#[32]⟩ ++ bstr (Lib.itoa c.qu) ++ ⟨#[10]⟩ = bstr (lineW (confT c) ++ progsT ps 0)) := by
        rw [Hid, hT.out, confT_sp, confN, show (⟨#[32]⟩ : ByteArray) = bstr [32] from rfl, show (⟨#[10]⟩ : ByteArray) = bstr [10] from rfl]
        simp [bstr_app, sp, progsT]
      have K2 := K1.drew
      have kk1 := kb.trans (kb1.mono kb.size)
      clear y1 y10 y11 y12 y13 K1 hlt hk
      go_wp2_with fail
      go_loopg [4, 6] 8 (fun gk t i wr => ∃ (k : Nat) (T : ByteArray), k + gk = 8 ∧ t = .string T ∧ i = .int .i64 k ∧ Hid (T = bstr (lineW (confT c) ++ progsT ps k)) ∧ Hid (T.size ≤ bndT k 0) ∧ Below W0.heap.size W0 wr)
      case atStart => exact ⟨0, _, by omega, rfl, rfl, HE7, by rw [Hid, HE7.out, bstr_size, List.length_append]; have := HCL.out; unfold bndT; simp [progsT]; omega, kb1.trans (K2.mono kb1.size)⟩
      case round =>
        clear hT hTs' hTs HE7
        obtain ⟨k, T, hk, rfl, rfl, hT, hTs, K1⟩ := hrel
        by_cases hlt : k < 8
        · have hlt' : (k : Int) < 8 := by omega
          have b0 : (0 : Int) ≤ (k : Int) := by omega
          obtain ⟨l, hl⟩ : ∃ l, ps[k]? = some l := ⟨ps[k]'(by have := HP.out.p8; omega), List.getElem?_eq_getElem (i := k) _⟩
          obtain ⟨A, n, c', hu, hs, _⟩ := HP.out.at_ k l hl
          have hlen : l.length ≤ 10000 := hps l (List.mem_of_getElem? hl)
          have hn : n ≤ 10000 := by have := hs.len; omega
          have HS := Lib.hid hs
          have HN := Lib.hid hs.len
          have HCU := Lib.hid (HU.out l (List.mem_of_getElem? hl))
          have HPS := Lib.hid (progsT_succ (ps := ps) (k := k) hl)
          have XV := Lib.hid (XK.out k _ hu)
          have ik : I64 (k : Int) := by unfold I64; omega
          have HIK := Lib.hid ik
          have sk : (bstr (Lib.itoa (k : Int))).size ≤ 21 := itoa_len ik
          clear hl hu hlen hs ik
          obtain ⟨gr, hgr⟩ : ∃ g, g = gk := ⟨_, rfl⟩
          subst hgr
          go_wp2_with fail
          go_loopg [4, 7] n (fun gk t i w4 => ∃ (j : Nat) (T : ByteArray), j + gk = n ∧ t = .string T ∧ i = .int .i64 j ∧ Hid (T = bstr (lineW (confT c) ++ progsT ps k ++ progT k (l.take j))) ∧ Hid (T.size ≤ bndT k j) ∧ Below W0.heap.size W0 w4)
          case atStart => exact ⟨0, T, by omega, rfl, rfl, by rw [Hid, hT.out]; simp [progT], hTs, K1⟩
          case round =>
            clear hT hTs K1
            obtain ⟨j, T, hj, rfl, rfl, hT, hTs, K1⟩ := hrel
            have y0 := keep_below XV.out K1
            have yz := block_lt_of_cell y0
            by_cases hjn : j < n
            · obtain ⟨b, o', rfl, _, _⟩ := HS.out.base cvc_len (by decide) (by omega)
              obtain ⟨x, hx⟩ : ∃ x, l[j]? = some x := ⟨l[j]'(by have := HN.out; omega), List.getElem?_eq_getElem (i := j) _⟩
              have r1 : wr.rangeAt b (o' + j * 7) [.int .i64 x.op, .int .i64 x.lv, .int .i64 x.key, .int .u64 x.a, .int .u64 x.b, .int .u64 x.h, .int .i64 x.rg] := range_sl cvc_len (HS.out.below K1) hx
              have j0 : (0 : Int) ≤ (j : Int) := by omega
              have j1 : (j : Int) < (n : Int) := by omega
              have hxi := HCU.out x (List.mem_of_getElem? hx)
              have HCC := Lib.hid (fun W : World => rcall_cv (w := W) x hxi)
              have sx : (bstr (CW x)).size ≤ 200 := by rw [bstr_size]; exact CW_len x hxi
              have HT : Hid (T ++ ⟨#[99, 97, 108, 108, 32]⟩ ++ bstr (Lib.itoa (k : Int)) ++ ⟨#[32]⟩ ++ bstr (CW x) ++ ⟨#[10]⟩ = bstr (lineW (confT c) ++ progsT ps k ++ progT k (l.take (j + 1)))) := by
                rw [Hid, hT.out, List.take_add_one, hx, progT, progT, List.flatMap_append, show (⟨#[99, 97, 108, 108, 32]⟩ : ByteArray) = bstr [99, 97, 108, 108, 32] from rfl, show (⟨#[32]⟩ : ByteArray) = bstr [32] from rfl, show (⟨#[10]⟩ : ByteArray) = bstr [10] from rfl]
                simp [bstr_app, callT_sp]
              have hT9 : T.size ≤ 900000000 := by have := hTs.out; unfold bndT at this; omega
              clear hx hxi
              go_upto_region 14 with fail
              have hX := @Ext.cell wr
              have hzz0 := block_lt_of_cell y0
              refine wp_region_noPanic ?_
              refine wp_region_plan (fun w' => ∃ x : Ext wr, w' = x.w) [([0, 1, 2, 6, 7, 8, 9, 10, 11, 12], 3), ([4, 5], 13)] [14, 15, 16] (by kernel_rfl) (by kernel_rfl) (by kernel_rfl) (fun _ _ _ _ _ h => h) ⟨⟨_, (brefl wr).drew⟩, rfl⟩ ?_
              refine wpPlan_cons ?_
              simp only [pickOps, List.getElem?_cons_succ, List.getElem?_cons_zero, Option.elim_some]
              go_big_quiet_step (fail)
              go_big_quiet_step (fail)
              go_big_quiet_step (fail)
              go_big_quiet_step (fail)
              go_big_quiet_step (fail)
              go_big_quiet_step (fail)
              go_big_quiet_step (fail)
              go_big_quiet_step (fail)
              go_big_quiet_step (fail)
              refine wpQuiet_load_mid rfl 51 (.tmp 83) rfl b (o' + j * 7) rfl [.int .i64 x.op, .int .i64 x.lv, .int .i64 x.key, .int .u64 x.a, .int .u64 x.b, .int .u64 x.h, .int .i64 x.rg] _ (range_ext r1) Tryz.underlying51 rfl (by kernel_rfl) ?_; simp only [Act.put, List.setIfInBounds_toArray, List.set_cons_succ, List.set_cons_zero]
              refine wpQuiet_nil ?_
              refine planAct_some (fun K hK => ?_)
              go_simp
              refine (HNUM.out (k : Int) HIK.out _).mono ?_
              rintro e w' ⟨rfl, rfl⟩
              go_wp2_with fail
              refine hK.out _ _ ⟨⟨_, (brefl wr).drew⟩, rfl⟩ ?_
              clear hK K
              refine wpPlan_cons ?_
              simp only [pickOps, List.getElem?_cons_succ, List.getElem?_cons_zero, Option.elim_some]
              repeat (go_big_quiet_step (fail))
              refine wpQuiet_nil ?_
              refine planAct_some (fun K hK => ?_)
              go_simp
              refine (HCC.out _).mono ?_
              rintro e w2 ⟨rfl, hb2⟩
              go_wp2_with fail
              refine hK.out _ _ ⟨⟨_, (bnext (brefl wr).drew hb2)⟩, rfl⟩ ?_
              clear hK K
              refine wpPlan_last ?_
              simp only [pickOps, List.getElem?_cons_succ, List.getElem?_cons_zero, Option.elim_some]
              repeat (go_big_quiet_step (fail))
              refine wpQuiet_nil ?_
              refine NoPanic.normal ?_
              clear hX hzz0
              go_wp2_with fail
              go_roundg (gk - 1)
              case measure => omega
              case rel => exact ⟨j + 1, _, by omega, rfl, by go_num, HT, by unfold Hid bndT; have := hTs.out; unfold bndT at this; simp only [ByteArray.size_append, sz1, sz2, sz3, sz4, sz5]; omega, K1.trans ((bnext (brefl wr).drew hb2).mono K1.size)⟩
            · have t8 : decide (j < n) = false := decide_eq_false (by omega)
              obtain rfl : j = n := by omega
              rw [List.take_of_length_le (by have := HN.out; omega)] at hT
              go_wp2_with fail
              go_roundg (gr - 1)
              case measure => omega
              case rel => exact ⟨k + 1, T, by omega, rfl, by go_num, by rw [Hid, hT.out, HPS.out, List.append_assoc], bndT_step hTs.out hn, K1⟩
        · have t8 : decide ((k : Int) < 8) = false := decide_eq_false (by omega)
          obtain rfl : k = 8 := by omega
          go_upto_region 16 with fail
          obtain ⟨q, hq⟩ : ∃ q, wr.heap.size = q := ⟨_, rfl⟩
          obtain ⟨W5, hW5, HNm, K5⟩ : ∃ W5, wr.alloc (.cells #[.string ⟨#[112, 105, 99, 107]⟩, .string ⟨#[115, 116, 97, 108, 108]⟩, .string ⟨#[119, 97, 107, 101]⟩, .string ⟨#[107, 105, 108, 108]⟩] 9) = W5 ∧ Hid (∀ j : Nat, j < 4 → W5.cell? ⟨q, j, none⟩ = some (.string (bstr (nameB (j : Int))))) ∧ Below W0.heap.size W0 W5 := by
            have h := Blk.new wr 9 #[.string ⟨#[112, 105, 99, 107]⟩, .string ⟨#[115, 116, 97, 108, 108]⟩, .string ⟨#[119, 97, 107, 101]⟩, .string ⟨#[107, 105, 108, 108]⟩]
            rw [hq] at h
            refine ⟨_, rfl, fun j hj => ?_, bnew K1 _⟩
            rw [h.cell j]
            rcases (by omega : j = 0 ∨ j = 1 ∨ j = 2 ∨ j = 3) with rfl | rfl | rfl | rfl <;> rfl
          rw [hW5, hq]
          have HE8 : Hid (T ++ bstr (entR (prv es 0) (es.drop 0)) = bstr (putT c ps es)) := by rw [Hid, hT.out, prv, List.drop_zero, entR_none, putT, bstr_app]
          have HS8 : Hid (T.size ≤ bndE 0) := by
            rw [Hid, hT.out, bstr_size, List.length_append]
            exact bnd_start (Nat.le_trans HCL.out (by omega)) HPL.out
          clear hW5 hq hT hTs K1 t8
          go_wp2_with fail
          go_loopg [4, 9] en (fun gk t i wr => ∃ (k : Nat) (T : ByteArray), k + gk = en ∧ t = .string T ∧ i = .int .i64 k ∧ Hid (T ++ bstr (entR (prv es k) (es.drop k)) = bstr (putT c ps es)) ∧ Hid (T.size ≤ bndE k) ∧ Below W5.heap.size W5 wr)
          case atStart => exact ⟨0, T, by omega, rfl, rfl, HE8, HS8, brefl W5⟩
          case round =>
            clear HE8 HS8
            obtain ⟨k, T, hk, rfl, rfl, hT, hTs, K1⟩ := hrel
            have KW := K5.trans (K1.mono K5.size)
            have y22 := keep_below X22.out KW
            by_cases hlt : k < en
            · have b0 : (0 : Int) ≤ (k : Int) := by omega
              have b1 : (k : Int) < (en : Int) := by omega
              obtain ⟨eb, o', rfl, hbb, hcc⟩ := HE.out.base enc__len (by decide) (by omega)
              obtain ⟨x, hx⟩ : ∃ x, es[k]? = some x := ⟨_, List.getElem?_eq_getElem (by rw [HE.out.len]; exact hlt)⟩
              have hO1 := HO.out x (List.mem_of_getElem? hx)
              unfold EnOkT at hO1
              have hd : es.drop k = x :: es.drop (k + 1) := by
                obtain ⟨h1, h2⟩ := List.getElem?_eq_some_iff.1 hx
                rw [List.drop_eq_getElem_cons h1, h2]
              have HD := Lib.hid hd
              have HX := Lib.hid hx
              have C1 : Hid (∀ (m : Nat) (y : En), es[m]? = some y → ∀ W, Below W0.heap.size W0 W → W.cell? ⟨eb, o' + m * 2, none⟩ = some (.int .i64 y.th) ∧ W.cell? ⟨eb, o' + m * 2 + 1, none⟩ = some (.int .i64 y.wh)) := fun m y hy W hW => ⟨keep_below (hcc m y 0 _ hy rfl) hW, keep_below (hcc m y 1 _ hy rfl) hW⟩
              obtain ⟨v0, v1⟩ := C1.out k x hx _ KW
              have hit : I64 x.th := by unfold I64; omega
              have HIT := Lib.hid hit
              have sx : (bstr (Lib.itoa x.th)).size ≤ 21 := itoa_len hit
              have hT9 := bndE_le hTs.out (by omega : k ≤ 100000)
              clear hcc hbb hx hd hit
              go_upto_region 20 with fail
              obtain ⟨a, ha⟩ : ∃ a, wr.heap.size = a := ⟨_, rfl⟩
              obtain ⟨W7, hW7, z0, z1, K7⟩ : ∃ W7, wr.alloc (.cells #[.int .i64 x.th, .int .i64 x.wh] 61) = W7 ∧ W7.cell? ⟨a, 0, none⟩ = some (.int .i64 x.th) ∧ W7.cell? ⟨a, 1, none⟩ = some (.int .i64 x.wh) ∧ Below W5.heap.size W5 W7 := by
                have h := Blk.new wr 61 #[.int .i64 x.th, .int .i64 x.wh]
                rw [ha] at h
                exact ⟨_, rfl, h.cell 0, h.cell 1, bnew K1 _⟩
              rw [hW7, ha]
              clear hW7 ha y22 v0 v1 K1 KW
              have KW := K5.trans (K7.mono K5.size)
              by_cases hwh : x.wh = 0
              · have t0 : (x.wh == 0) = true := by rw [beq_iff_eq]; exact hwh
                have t0' : (x.wh != 0) = false := by rw [bne, t0]; rfl
                have HWH := Lib.hid hwh
                clear hwh hO1
                go_upto_region 22 with fail
                go_cut [128] (fun s w' => ∃ b : Bool, s = .bool b ∧ Hid (b = true ↔ prv es k = some x) ∧ Below W7.heap.size W7 w')
                case first =>
                  by_cases hk0 : k = 0
                  · have hn : ¬ prv es k = some x := by rw [hk0]; simp [prv]
                    have u0 : decide (0 < k) = false := decide_eq_false (by omega)
                    have HN := Lib.hid hn
                    clear hk0 hn
                    have hX := @Ext.cell W7
                    have hzz0 := block_lt_of_cell z0
                    refine wp_region_noPanic ?_
                    refine wp_region_plan (fun w' => ∃ x : Ext W7, w' = x.w) [] [0, 1, 2, 3, 4, 5, 6, 7, 8, 9, 10, 11] (by kernel_rfl) (by kernel_rfl) (by kernel_rfl) (fun _ _ _ _ _ h => h) ⟨⟨_, (brefl W7).drew⟩, rfl⟩ ?_
                    refine wpPlan_last ?_
                    simp only [pickOps, List.getElem?_cons_succ, List.getElem?_cons_zero, Option.elim_some]
                    repeat (go_big_quiet_step (fail))
                    refine wpQuiet_nil ?_
                    refine NoPanic.normal ?_
                    clear hX hzz0
                    go_wp2_with fail
                    go_meet
                    case rel => exact ⟨false, rfl, by rw [Hid]; simp [HN.out], (brefl W7).drew⟩
                  · obtain ⟨p, hp⟩ : ∃ p, p + 1 = k := ⟨k - 1, by omega⟩
                    obtain ⟨y, hy⟩ : ∃ y, es[p]? = some y := ⟨_, List.getElem?_eq_getElem (by rw [HE.out.len]; omega)⟩
                    have u0 : decide (0 < k) = true := decide_eq_true (by omega)
                    have ck : IntKind.i64.wrap ((k : Int) - 1) = (p : Int) := by rw [IntWalk.i64_in _ (by omega)]; omega
                    have i0 : (0 : Int) ≤ (p : Int) := by omega
                    have i1 : (p : Int) < (en : Int) := by omega
                    obtain ⟨v2, v3⟩ := C1.out _ _ hy _ KW
                    have y22 := keep_below X22.out KW
                    obtain ⟨b2, hb2⟩ : ∃ b2, decide (y = x) = b2 := ⟨_, rfl⟩
                    have hB2 : Hid (b2 = true ↔ prv es k = some x) := by rw [Hid, ← hb2, ← hp, prv, hy]; simp
                    have hq : ∀ W : World, (binOp .eql 61 (.agg #[.int .i64 y.th, .int .i64 y.wh]) (.agg #[.int .i64 x.th, .int .i64 x.wh])).run Tryz.prog W = .ok (.bool b2) W := fun W => by rw [← hb2]; exact eqEn y x W
                    clear hy hb2 hp hk0
                    have hX := @Ext.cell W7
                    have hzz0 := block_lt_of_cell z0
                    have hzz1 := block_lt_of_cell v2
                    have hzz2 := block_lt_of_cell y22
                    refine wp_region_noPanic ?_
                    refine wp_region_plan (fun w' => ∃ x : Ext W7, w' = x.w) [] [0, 1, 2, 3, 4, 5, 6, 7, 8, 9, 10, 11] (by kernel_rfl) (by kernel_rfl) (by kernel_rfl) (fun _ _ _ _ _ h => h) ⟨⟨_, (brefl W7).drew⟩, rfl⟩ ?_
                    refine wpPlan_last ?_
                    simp only [pickOps, List.getElem?_cons_succ, List.getElem?_cons_zero, Option.elim_some]
                    repeat (go_big_quiet_step (fail))
                    refine wpQuiet_nil ?_
                    refine NoPanic.normal ?_
                    clear hX hzz0 hzz1 hzz2
                    go_wp2_with fail
                    go_meet
                    case rel => exact ⟨b2, rfl, hB2, (brefl W7).drew⟩
                case rest =>
                  obtain ⟨b, rfl, HB, K8⟩ := hcut
                  have KW8 := KW.trans (K8.mono KW.size)
                  have K78 := K7.trans (K8.mono K7.size)
                  cases b with
                  | true =>
                    have hpr := HB.out.1 rfl
                    have HR : Hid (T ++ bstr (entR (prv es (k + 1)) (es.drop (k + 1))) = bstr (putT c ps es)) := by
                      rw [Hid, ← hT.out, HD.out, hpr, entR_same HWH.out, prv, HX.out]
                    have HS : Hid (T.size ≤ bndE (k + 1)) := bndE_step hTs.out (by omega)
                    clear hpr hT hTs
                    go_wp2_with fail
                    go_roundg (gk - 1)
                    case measure => omega
                    case rel => exact ⟨k + 1, T, by omega, rfl, by go_num, HR, HS, K78⟩
                  | false =>
                    have HNP : Hid (prv es k ≠ some x) := fun h => by have := HB.out.2 h; cases this
                    obtain ⟨R, hR⟩ : ∃ R, runL x (es.drop k) = R := ⟨_, rfl⟩
                    have hRl : k + R ≤ en := by
                      have := runL_le x (es.drop k)
                      rw [List.length_drop, HE.out.len] at this
                      omega
                    have HR := Lib.hid hR
                    have y0 := keep_below z0 K8
                    have y1 := keep_below z1 K8
                    clear hR z0 z1 HB t0 t0'
                    obtain ⟨gr, hgr⟩ : ∃ g, g = gk := ⟨_, rfl⟩
                    subst hgr
                    obtain ⟨w8, hw8⟩ : ∃ w8, w8 = wc := ⟨_, rfl⟩
                    subst hw8
                    go_wp2_with fail
                    go_loopg [11] R (fun gk n w3 => ∃ m : Nat, m + gk = R ∧ n = .int .i64 (m : Int) ∧ Below w8.heap.size w8 w3)
                    case atStart => exact ⟨0, by omega, rfl, brefl w8⟩
                    case round =>
                      obtain ⟨m, hm, rfl, K9⟩ := hrel
                      obtain ⟨q9, hqm⟩ : ∃ q9, k + m = q9 := ⟨_, rfl⟩
                      have ck : IntKind.i64.wrap ((k : Int) + (m : Int)) = (q9 : Int) := by rw [IntWalk.i64_in _ (by omega)]; omega
                      have z0 := keep_below y0 K9
                      have z1 := keep_below y1 K9
                      have KW9 := KW8.trans (K9.mono KW8.size)
                      have y22 := keep_below X22.out KW9
                      go_upto_region 24 with fail
                      go_cut [146] (fun s w' => ∃ b : Bool, s = .bool b ∧ Hid (b = true ↔ m < R) ∧ Below w8.heap.size w8 w')
                      case first =>
                        by_cases hend : q9 < en
                        · obtain ⟨y, hy⟩ : ∃ y, es[q9]? = some y := ⟨_, List.getElem?_eq_getElem (by rw [HE.out.len]; exact hend)⟩
                          have t1 : decide ((q9 : Int) < (en : Int)) = true := decide_eq_true (by omega)
                          have i0 : (0 : Int) ≤ (q9 : Int) := by omega
                          have i1 : (q9 : Int) < (en : Int) := by omega
                          obtain ⟨v2, v3⟩ := C1.out _ _ hy _ KW9
                          obtain ⟨b2, hb2⟩ : ∃ b2, decide (y = x) = b2 := ⟨_, rfl⟩
                          have hB2 : Hid (b2 = true ↔ m < R) := by
                            have hyj : (es.drop k)[m]? = some y := by rw [List.getElem?_drop, ← hy, hqm]
                            rw [Hid, ← hb2, decide_eq_true_eq]
                            refine ⟨fun e => ?_, fun h => ?_⟩
                            · have h1 := runL_end x (es.drop k)
                              rw [HR.out] at h1
                              by_cases hmR : m = R
                              · subst hmR
                                rw [hyj, e] at h1
                                exact absurd rfl h1
                              · omega
                            · have h1 := runL_in x (es.drop k) m (by rw [HR.out]; exact h)
                              rw [hyj] at h1
                              exact Option.some.inj h1
                          have hq : ∀ W : World, (binOp .eql 61 (.agg #[.int .i64 y.th, .int .i64 y.wh]) (.agg #[.int .i64 x.th, .int .i64 x.wh])).run Tryz.prog W = .ok (.bool b2) W := fun W => by rw [← hb2]; exact eqEn y x W
                          clear hy hb2
                          have hX := @Ext.cell wr
                          have hzz0 := block_lt_of_cell z0
                          have hzz1 := block_lt_of_cell v2
                          have hzz2 := block_lt_of_cell y22
                          refine wp_region_noPanic ?_
                          refine wp_region_plan (fun w' => ∃ x : Ext wr, w' = x.w) [] [0, 1, 2, 3, 4, 5, 6, 7, 8, 9, 10, 11, 12, 13, 14, 15, 16, 17] (by kernel_rfl) (by kernel_rfl) (by kernel_rfl) (fun _ _ _ _ _ h => h) ⟨⟨_, (brefl wr).drew⟩, rfl⟩ ?_
                          refine wpPlan_last ?_
                          simp only [pickOps, List.getElem?_cons_succ, List.getElem?_cons_zero, Option.elim_some]
                          repeat (go_big_quiet_step (fail))
                          refine wpQuiet_nil ?_
                          refine NoPanic.normal ?_
                          clear hX hzz0 hzz1 hzz2
                          go_wp2_with fail
                          go_meet
                          case rel => exact ⟨b2, rfl, hB2, K9.drew⟩
                        · have t1 : decide ((q9 : Int) < (en : Int)) = false := decide_eq_false (by omega)
                          have HN : Hid (¬ m < R) := by rw [Hid]; omega
                          have hX := @Ext.cell wr
                          have hzz0 := block_lt_of_cell z0
                          have hzz1 := block_lt_of_cell y22
                          refine wp_region_noPanic ?_
                          refine wp_region_plan (fun w' => ∃ x : Ext wr, w' = x.w) [] [0, 1, 2, 3, 4, 5, 6, 7, 8, 9, 10, 11, 12, 13, 14, 15, 16, 17] (by kernel_rfl) (by kernel_rfl) (by kernel_rfl) (fun _ _ _ _ _ h => h) ⟨⟨_, (brefl wr).drew⟩, rfl⟩ ?_
                          refine wpPlan_last ?_
                          simp only [pickOps, List.getElem?_cons_succ, List.getElem?_cons_zero, Option.elim_some]
                          repeat (go_big_quiet_step (fail))
                          refine wpQuiet_nil ?_
                          refine NoPanic.normal ?_
                          clear hX hzz0 hzz1
                          go_wp2_with fail
                          go_meet
                          case rel => exact ⟨false, rfl, by rw [Hid]; simp [HN.out], K9.drew⟩
                      case rest =>
                        obtain ⟨b, rfl, HB, K10⟩ := hcut
                        cases b with
                        | true =>
                          have hmR := HB.out.1 rfl
                          clear z0 z1 KW9 y22 K9 HB
                          go_wp2_with fail
                          go_roundg (gk - 1)
                          case measure => omega
                          case rel => exact ⟨m + 1, by omega, by go_num, K10⟩
                        | false =>
                          obtain rfl : m = R := by
                            have : ¬ m < R := fun h => by have := HB.out.2 h; cases this
                            omega
                          have z0 := keep_below y0 K10
                          have im : I64 (m : Int) := by unfold I64; omega
                          have HIM := Lib.hid im
                          have sm : (bstr (Lib.itoa (m : Int))).size ≤ 21 := itoa_len im
                          have K11 := K78.trans (K10.mono K78.size)
                          have HN : Hid (T ++ ⟨#[112, 105, 99, 107, 32]⟩ ++ bstr (Lib.itoa x.th) ++ ⟨#[32]⟩ ++ bstr (Lib.itoa (m : Int)) ++ ⟨#[10]⟩ ++ bstr (entR (prv es (k + 1)) (es.drop (k + 1))) = bstr (putT c ps es)) := by
                            rw [Hid, ← hT.out, HD.out, entR_pick HWH.out HNP.out, ← HD.out, HR.out, prv, HX.out, pickT_sp, show (⟨#[112, 105, 99, 107, 32]⟩ : ByteArray) = bstr [112, 105, 99, 107, 32] from rfl, show (⟨#[32]⟩ : ByteArray) = bstr [32] from rfl, show (⟨#[10]⟩ : ByteArray) = bstr [10] from rfl]
                            simp [bstr_app, ByteArray.append_assoc]
                          clear z1 y22 KW9 K9 HB im ck hqm
                          have tok1 : True := trivial
                          go_wp2_with (first | (have _t := tok1; go_at_call 44; refine (HNUM.out x.th HIT.out _).mono ?_; rintro e w' ⟨rfl, rfl⟩; clear tok1 _t) | (go_at_call 44; refine (HNUM.out (m : Int) HIM.out _).mono ?_; rintro e w' ⟨rfl, rfl⟩))
                          go_roundg (gr - 1)
                          case measure => omega
                          case rel => exact ⟨k + 1, _, by omega, rfl, by go_num, HN, bndE_step hTs.out (by simp only [ByteArray.size_append, sz1, sz2, sz3, sz4, sz5]; omega), K11⟩
              · obtain ⟨j, hj⟩ : ∃ j : Nat, x.wh = (j : Int) := ⟨x.wh.toNat, by omega⟩
                have hj4 : j < 4 := by omega
                have i0 : (0 : Int) ≤ (j : Int) := by omega
                have i1 : (j : Int) < 4 := by omega
                have t0 : ((j : Int) == 0) = false := by rw [beq_eq_false_iff_ne]; omega
                have t0' : ((j : Int) != 0) = true := by rw [bne, t0]; rfl
                have sj : (bstr (nameB (j : Int))).size ≤ 21 := by rw [bstr_size]; exact nameB_len _
                have n0 := keep_below (HNm.out j hj4) K7
                have HN : Hid (T ++ bstr (nameB (j : Int)) ++ ⟨#[32]⟩ ++ bstr (Lib.itoa x.th) ++ ⟨#[10]⟩ ++ bstr (entR (prv es (k + 1)) (es.drop (k + 1))) = bstr (putT c ps es)) := by
                  rw [Hid, ← hT.out, HD.out, entR_stop hwh, prv, HX.out, stopT_sp, hj, show (⟨#[32]⟩ : ByteArray) = bstr [32] from rfl, show (⟨#[10]⟩ : ByteArray) = bstr [10] from rfl]
                  simp [bstr_app, ByteArray.append_assoc]
                rw [hj] at z1
                clear hj hwh hO1 hT
                go_upto_region 21 with fail
                have hX := @Ext.cell W7
                have hzz0 := block_lt_of_cell z0
                have hzz1 := block_lt_of_cell n0
                refine wp_region_noPanic ?_
                refine wp_region_plan (fun w' => ∃ x : Ext W7, w' = x.w) [([0, 1, 2, 3, 4, 5, 6, 7, 8, 9], 10)] [11, 12, 13] (by kernel_rfl) (by kernel_rfl) (by kernel_rfl) (fun _ _ _ _ _ h => h) ⟨⟨_, (brefl W7).drew⟩, rfl⟩ ?_
                refine wpPlan_cons ?_
                simp only [pickOps, List.getElem?_cons_succ, List.getElem?_cons_zero, Option.elim_some]
                repeat (go_big_quiet_step (fail))
                refine wpQuiet_nil ?_
                refine planAct_some (fun K hK => ?_)
                go_simp
                refine (HNUM.out x.th HIT.out _).mono ?_
                rintro e w' ⟨rfl, rfl⟩
                go_wp2_with fail
                refine hK.out _ _ ⟨⟨_, (brefl W7).drew⟩, rfl⟩ ?_
                clear hK K
                refine wpPlan_last ?_
                simp only [pickOps, List.getElem?_cons_succ, List.getElem?_cons_zero, Option.elim_some]
                repeat (go_big_quiet_step (fail))
                refine wpQuiet_nil ?_
                refine NoPanic.normal ?_
                clear hX hzz0 hzz1
                go_wp2_with fail
                go_roundg (gk - 1)
                case measure => omega
                case rel => exact ⟨k + 1, _, by omega, rfl, by go_num, HN, bndE_step hTs.out (by simp only [ByteArray.size_append, sz1, sz2, sz3, sz4, sz5]; omega), K7.drew⟩
            · have u0 : decide ((k : Int) < (en : Int)) = false := decide_eq_false (by omega)
              obtain rfl : k = en := by omega
              have HT : Hid (T = bstr (putT c ps es)) := by
                rw [Hid, ← hT.out, List.drop_eq_nil_of_le (by rw [HE.out.len]; omega), entR_nil, show bstr ([] : List UInt8) = ByteArray.empty from rfl, ByteArray.append_empty]
              clear hT
              go_wp2_with fail
              go_ret
              exact ⟨by rw [HT.out]; rfl, kb.trans (KW.mono kb.size)⟩

end Go.Proofs.YtjjgngccgjpnaaaGreatDoor
namespace Go.Proofs.YtjjgngccgjpnaaaGreatDoor
set_option linter.unusedVariables false
set_option linter.unusedSimpArgs false
open Go.RowKit

theorem wpList_load_row_g {P : Program} {ops : Array Oper} {rest : List Oper} {o : Oper} {a : Act} {w : World} {Q : Exit → Act → World → Prop} (hgd : Region.wanted o (yielded ops a.tmps) = true) (ty : TypeId) (x : Operand) (ho : o.op = .load ty x)
    (g : Nat) (hx : a.eval x = .pointer (some ⟨g, 0, none⟩)) (t : TypeId) (cs : Array Value) (fr : Nat × Nat) (d : TypeDesc) (hg : w.heap[g]? = some (.cells cs t fr))
    (hu : P.underlying ty = some d) (hd : (match d with | .struct _ | .array _ _ => true | _ => false) = true) (hi : (P.info? ty).map (·.size) = some cs.size)
    (h : wpList P ops Q rest (a.put o.dst (.agg cs)) w) : wpList P ops Q (o :: rest) a w :=
  wpList_step fun K hK => by
    rw [if_pos hgd]
    exact wp_load_row ty x ho g hx t cs fr d hg hu hd hi (hK _ _ h)
set_option maxHeartbeats 4000000 in
set_option maxRecDepth 100000 in
theorem textputs_any {w : World} {c : Cf} {us : List Value} {ps : List (List CV)} {EA : Option Addr} {en ec : Nat} {es : List En} (hP : PIn (fun _ => False) w us ps) (hE : Sl enc_ w EA en ec es) (hg : GV w) (hv : LV w) (hU : ∀ l, l ∈ ps → ∀ x, x ∈ l → CVi x) : Calls Tryz.prog 4 #[.agg (scc c us (.slice EA en ec)).toArray] w fun e w' => e = .returned (.bool true) ∧ Below w.heap.size w w' := by
  have h8 := hP.u8
  have hi := info_scc (c := c) (ev := .slice EA en ec) h8
  obtain ⟨W0, hW0, B0, kb⟩ : ∃ W0, w.alloc (.cells (scc c us (.slice EA en ec)).toArray 30) = W0 ∧ Blk W0 w.heap.size 30 (scc c us (.slice EA en ec)).toArray ∧ Below w.heap.size w W0 := ⟨_, rfl, Blk.new _ _ _, bnew (brefl w) _⟩
  have HG := Lib.hid (hg.below kb)
  have HV := Lib.hid (hv.below kb)
  have HP := Lib.hid (hP.below kb)
  have HE := Lib.hid (hE.below kb)
  have HU := Lib.hid hU
  have HLI := Lib.hid (fun (W : World) (hW : Below W0.heap.size W0 W) => lives40 (HV.out.below hW))
  have X0 : Hid (W0.cell? ⟨w.heap.size, 0, none⟩ = some (.int .i64 c.lv)) := B0.cell 0
  have hgr := great_any (w := W0) (c := c) HP.out HE.out 2000
  clear hP hE hU hg hv h8
  generalize hcs : scc c us (.slice EA en ec) = cs at *
  have HCS := Lib.hid hcs
  have HB0 := Lib.hid B0
  clear hcs
  cases hgb : greatB ps es 2000 with
  | true =>
    rw [hgb] at hgr
    clear hgb
    go_enter Tryz.func4, Tryz.ntmps4
    go_upto_region 1 with (fail)
    have tok1 : True := trivial
    go_wp2_with (first | (have _t := tok1; refine wpList_load_row (o := ⟨some 6, _, _, _, _, _⟩) rfl 30 (.tmp 1) rfl w.heap.size rfl 30 _ _ _ B0 Tryz.underlying30 rfl hi ?_; clear tok1 _t) | (go_at_call 12; refine hgr.mono ?_; rintro e w1 ⟨rfl, hb1⟩) | (go_at_call 7; refine (HLI.out _ hb1).mono ?_; rintro e w2 ⟨rfl, hb2⟩))
    go_ret
    exact ⟨rfl, bnext kb (bnext hb1 hb2)⟩
  | false =>
    rw [hgb] at hgr
    obtain ⟨hps, hen⟩ := great_no HP.out.p8 hgb
    have hl1 : ∀ l, l ∈ ps → l.length ≤ 1000000 := fun l hl => by have := hps l hl; omega
    have hl2 : ∀ l, l ∈ ps → l.length ≤ 10000 := fun l hl => by have := hps l hl; omega
    have hn1 : en ≤ 1000000 := by have := HE.out.len; omega
    have hn2 : en ≤ 100000 := by have := HE.out.len; omega
    have HRR0 := Lib.hid (fun (W : World) (hW : Below W0.heap.size W0 W) (lv : Int) => rright_any (w := W) (c := c) (HP.out.below hW) (HE.out.below hW) hn1 hl1 lv)
    rw [HCS.out] at HRR0
    clear hgb hps hen
    cases hm : mayB c with
    | false =>
      have hN : ∀ lv, (mayB c = true → lv = c.lv - 1) → rightN c ps es lv = 2 := fun lv _ => by rw [rightN, if_pos hm]
      have HPT := Lib.hid (fun (W : World) (hW : Below W0.heap.size W0 W) => tput_no2 (w := W) (c := c) (HP.out.below hW) (HE.out.below hW) hn1 hl1 hm (n := 2) (by decide) hN)
      rw [HCS.out] at HPT
      have HRR : Hid (∀ W, Below W0.heap.size W0 W → ∀ lv, (mayB c = true → lv = c.lv - 1) → Calls Tryz.prog 14 #[.agg cs.toArray, .int .i64 lv] W (RightR W 2)) := fun W hW lv hl => by have h := HRR0.out W hW lv; rwa [hN lv hl] at h
      have HMB := Lib.hid hm
      obtain ⟨n, hn⟩ : ∃ n : Int, n = 2 := ⟨_, rfl⟩
      have t0 : (n == 0) = false := by rw [hn]; decide
      rw [← hn] at HPT HRR
      clear hn HRR0 hm hN hl1 hl2 hn1 hn2
      go_enter Tryz.func4, Tryz.ntmps4
      go_upto_region 1 with (fail)
      have tok1 : True := trivial
      go_upto_region 3 with (first | (have _t := tok1; refine wpList_load_row (o := ⟨some 6, _, _, _, _, _⟩) rfl 30 (.tmp 1) rfl w.heap.size rfl 30 _ _ _ B0 Tryz.underlying30 rfl hi ?_; clear tok1 _t) | (go_at_call 12; refine hgr.mono ?_; rintro e w1 ⟨rfl, hb1⟩))
      have D0 := HB0.out.below_ hb1
      clear hgr B0
      have tok1 : True := trivial
      go_upto_region 4 with (first | (have _t := tok1; refine wpList_load_row (o := ⟨some 10, _, _, _, _, _⟩) rfl 30 (.tmp 1) rfl w.heap.size rfl 30 _ _ _ D0 Tryz.underlying30 rfl hi ?_; clear tok1 _t) | (go_at_call 13; refine (HPT.out _ hb1).mono ?_; rintro e w3 ⟨p, rfl, hv, hb2⟩))
      have k2 := bnext hb1 hb2
      have D2 := HB0.out.below_ k2
      have x0 := keep_below X0.out k2
      have xz := D2.lt
      clear D0 hb1 hb2 HPT
      have tok1 : True := trivial
      go_upto_region 5 with (first | (have _t := tok1; refine wpList_load_row (o := ⟨some 14, _, _, _, _, _⟩) rfl 30 (.tmp 1) rfl w.heap.size rfl 30 _ _ _ D2 Tryz.underlying30 rfl hi ?_; clear tok1 _t) | (go_at_call 14; refine (HRR.out _ k2 _ (fun q => by rw [HMB.out] at q; cases q)).mono ?_; rintro e W3 ⟨rfl, hb3⟩))
      have k3 := bnext k2 hb3
      have D3 := HB0.out.below_ k3
      have HCO := Lib.hid (code_any (hv.below hb3) (HG.out.below k3))
      clear D2 D3 x0 xz hb3 k2 HRR hv
      go_wp2_with (first | (go_at_call 11; refine HCO.out.mono ?_; rintro e w4 ⟨rfl, hb4⟩) | (go_at_call 7; refine (HLI.out _ (bnext k3 hb4)).mono ?_; rintro e w5 ⟨rfl, hb5⟩))
      go_ret
      exact ⟨rfl, bnext kb (bnext k3 (bnext hb4 hb5))⟩
    | true =>
      have m : c.May := of_decide_eq_true hm
      have hlv1 := m.l1
      have hlv2 := m.l2
      have HMB := Lib.hid hm
      by_cases hz : rightN c ps es (c.lv - 1) = 0
      · have HPT := Lib.hid (fun (W : World) (hW : Below W0.heap.size W0 W) => tput_yes (w := W) (c := c) (HP.out.below hW) (HE.out.below hW) hn2 hl2 HU.out hz (HV.out.below hW))
        have HRP := Lib.hid (fun (W : World) (hW : Below W0.heap.size W0 W) => rtput_any (w := W) (c := c) (HP.out.below hW) (HE.out.below hW) m hn2 hl2 HU.out (right_okT hz).2)
        rw [HCS.out] at HPT HRP
        obtain ⟨SB, hSB⟩ : ∃ SB, bstr (putT c ps es) = SB := ⟨_, rfl⟩
        rw [hSB] at HPT HRP
        have hss : (SB.toList == SB.toList) = true := beq_self_eq_true _
        have HRR : Hid (∀ W, Below W0.heap.size W0 W → ∀ lv, (mayB c = true → lv = c.lv - 1) → Calls Tryz.prog 14 #[.agg cs.toArray, .int .i64 lv] W (RightR W 0)) := fun W hW lv hl => by have h := HRR0.out W hW lv; rwa [hl HMB.out, hz, ← hl HMB.out] at h
        clear hz hSB HRR0 hm hl1 hl2 hn1 hn2 m
        go_enter Tryz.func4, Tryz.ntmps4
        go_upto_region 1 with (fail)
        have tok1 : True := trivial
        go_upto_region 3 with (first | (have _t := tok1; refine wpList_load_row (o := ⟨some 6, _, _, _, _, _⟩) rfl 30 (.tmp 1) rfl w.heap.size rfl 30 _ _ _ B0 Tryz.underlying30 rfl hi ?_; clear tok1 _t) | (go_at_call 12; refine hgr.mono ?_; rintro e w1 ⟨rfl, hb1⟩))
        have D0 := HB0.out.below_ hb1
        clear hgr B0
        have tok1 : True := trivial
        go_upto_region 4 with (first | (have _t := tok1; refine wpList_load_row (o := ⟨some 10, _, _, _, _, _⟩) rfl 30 (.tmp 1) rfl w.heap.size rfl 30 _ _ _ D0 Tryz.underlying30 rfl hi ?_; clear tok1 _t) | (go_at_call 13; refine (HPT.out _ hb1).mono ?_; rintro e w3 ⟨rfl, hb2⟩))
        have k2 := bnext hb1 hb2
        have D2 := HB0.out.below_ k2
        have x0 := keep_below X0.out k2
        have xz := D2.lt
        clear D0 hb1 hb2 HPT
        have tok1 : True := trivial
        go_upto_region 5 with (first | (have _t := tok1; refine wpList_load_row (o := ⟨some 14, _, _, _, _, _⟩) rfl 30 (.tmp 1) rfl w.heap.size rfl 30 _ _ _ D2 Tryz.underlying30 rfl hi ?_; clear tok1 _t) | (go_at_call 14; refine (HRR.out _ k2 _ (fun _ => rfl)).mono ?_; rintro e W3 ⟨rfl, hb3⟩))
        have k3 := bnext k2 hb3
        have D3 := HB0.out.below_ k3
        clear D2 x0 xz hb3 k2 HRR
        have tok1 : True := trivial
        go_wp2_with (first | (have _t := tok1; refine wpList_load_row_g (o := ⟨some 37, _, _, _, _, _⟩) rfl 30 (.tmp 1) rfl w.heap.size rfl 30 _ _ _ D3 Tryz.underlying30 rfl hi ?_; clear tok1 _t) | (go_at_call 15; refine (HRP.out _ k3).mono ?_; rintro e w4 ⟨rfl, hb4⟩) | (go_at_call 7; refine (HLI.out _ (bnext k3 hb4)).mono ?_; rintro e w5 ⟨rfl, hb5⟩))
        go_ret
        exact ⟨rfl, bnext kb (bnext k3 (bnext hb4 hb5))⟩
      · have hN : ∀ lv, (mayB c = true → lv = c.lv - 1) → rightN c ps es lv = rightN c ps es (c.lv - 1) := fun lv hl => by rw [hl hm]
        generalize rightN c ps es (c.lv - 1) = n at *
        have HPT := Lib.hid (fun (W : World) (hW : Below W0.heap.size W0 W) => tput_no1 (w := W) (c := c) (HP.out.below hW) (HE.out.below hW) hn1 hl1 hm hz hN)
        rw [HCS.out] at HPT
        have HRR : Hid (∀ W, Below W0.heap.size W0 W → ∀ lv, (mayB c = true → lv = c.lv - 1) → Calls Tryz.prog 14 #[.agg cs.toArray, .int .i64 lv] W (RightR W n)) := fun W hW lv hl => by have h := HRR0.out W hW lv; rwa [hN lv hl] at h
        have t0 : (n == 0) = false := by simpa using hz
        clear hz HRR0 hm hN hl1 hl2 hn1 hn2 m
        go_enter Tryz.func4, Tryz.ntmps4
        go_upto_region 1 with (fail)
        have tok1 : True := trivial
        go_upto_region 3 with (first | (have _t := tok1; refine wpList_load_row (o := ⟨some 6, _, _, _, _, _⟩) rfl 30 (.tmp 1) rfl w.heap.size rfl 30 _ _ _ B0 Tryz.underlying30 rfl hi ?_; clear tok1 _t) | (go_at_call 12; refine hgr.mono ?_; rintro e w1 ⟨rfl, hb1⟩))
        have D0 := HB0.out.below_ hb1
        clear hgr B0
        have tok1 : True := trivial
        go_upto_region 4 with (first | (have _t := tok1; refine wpList_load_row (o := ⟨some 10, _, _, _, _, _⟩) rfl 30 (.tmp 1) rfl w.heap.size rfl 30 _ _ _ D0 Tryz.underlying30 rfl hi ?_; clear tok1 _t) | (go_at_call 13; refine (HPT.out _ hb1).mono ?_; rintro e w3 ⟨p, rfl, hv, hb2⟩))
        have k2 := bnext hb1 hb2
        have D2 := HB0.out.below_ k2
        have x0 := keep_below X0.out k2
        have xz := D2.lt
        clear D0 hb1 hb2 HPT
        have tok1 : True := trivial
        go_upto_region 5 with (first | (have _t := tok1; refine wpList_load_row (o := ⟨some 14, _, _, _, _, _⟩) rfl 30 (.tmp 1) rfl w.heap.size rfl 30 _ _ _ D2 Tryz.underlying30 rfl hi ?_; clear tok1 _t) | (go_at_call 14; refine (HRR.out _ k2 _ (fun _ => rfl)).mono ?_; rintro e W3 ⟨rfl, hb3⟩))
        have k3 := bnext k2 hb3
        have D3 := HB0.out.below_ k3
        have HCO := Lib.hid (code_any (hv.below hb3) (HG.out.below k3))
        clear D2 D3 x0 xz hb3 k2 HRR hv
        go_wp2_with (first | (go_at_call 11; refine HCO.out.mono ?_; rintro e w4 ⟨rfl, hb4⟩) | (go_at_call 7; refine (HLI.out _ (bnext k3 hb4)).mono ?_; rintro e w5 ⟨rfl, hb5⟩))
        go_ret
        exact ⟨rfl, bnext kb (bnext k3 (bnext hb4 hb5))⟩

end Go.Proofs.YtjjgngccgjpnaaaGreatDoor
