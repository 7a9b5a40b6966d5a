/- A call as a line's words. -/
import Derived.Test.YtjjgngccgjpnaaaGreatDoorTxtE
namespace Go.Proofs.YtjjgngccgjpnaaaGreatDoor
set_option linter.unusedVariables false
set_option linter.unusedSimpArgs false
open Go.RowKit

def callL (op lv key : Int) (a b hd : Nat) (rg : Int) : List ByteArray := [wordS op, bstr (Lib.itoa lv), bstr (Lib.itoa key), bstr (Lib.decDigits a), bstr (Lib.decDigits b), bstr (Lib.decDigits hd), bstr (Lib.itoa rg)]
def callW (op lv key : Int) (a b hd : Nat) (rg : Int) : List UInt8 := Lib.join ((callL op lv key a b hd rg).map (·.data.toList)) [32]
theorem itoa_len {n : Int} (hn : I64 n) : (Lib.itoa n).length ≤ 21 := by
  rcases Int.le_total 0 n with h | h
  · obtain ⟨u, rfl⟩ : ∃ u : Nat, n = u := ⟨n.toNat, by omega⟩
    rw [Lib.itoa_nonneg]
    have := dec_len (u := u) (by have := hn.2; omega)
    omega
  · obtain ⟨u, rfl⟩ : ∃ u : Nat, n = -(u : Int) := ⟨n.natAbs, by omega⟩
    have := dec_len (u := u) (by have := hn.1; omega)
    rcases Nat.eq_zero_or_pos u with rfl | hp
    · exact Nat.le_trans (dec_len (u := 0) (by omega)) (by decide)
    · rw [Lib.itoa_neg u hp, List.length_cons]
      omega
theorem callW_eq (op lv key : Int) (a b hd : Nat) (rg : Int) : callW op lv key a b hd rg = (wordS op).data.toList ++ (32 :: (Lib.itoa lv ++ (32 :: (Lib.itoa key ++ (32 :: (Lib.decDigits a ++ (32 :: (Lib.decDigits b ++ (32 :: (Lib.decDigits hd ++ (32 :: Lib.itoa rg))))))))))) := by
  simp [callW, callL, Lib.join_cons, Lib.joinTail, bstr]
theorem callW_len (op lv key : Int) (a b hd : Nat) (rg : Int) (hop : I64 op) (hlv : I64 lv) (hkey : I64 key) (hrg : I64 rg) (ha : a < 18446744073709551616) (hb : b < 18446744073709551616) (hh : hd < 18446744073709551616) : (callW op lv key a b hd rg).length ≤ 200 := by
  rw [callW_eq]
  have h1 := wordS_len op
  have h2 := itoa_len hlv
  have h3 := itoa_len hkey
  have h4 := dec_len ha
  have h5 := dec_len hb
  have h6 := dec_len hh
  have h7 := itoa_len hrg
  simp only [List.length_append, List.length_cons]
  omega
set_option maxHeartbeats 4000000 in
set_option maxRecDepth 100000 in
theorem tcall_any {w : World} (op lv key : Int) (a b hd : Nat) (rg : Int) (hop : I64 op) (hlv : I64 lv) (hkey : I64 key) (hrg : I64 rg) (ha : a < 18446744073709551616) (hb : b < 18446744073709551616) (hh : hd < 18446744073709551616) (h : LV w) : Calls Tryz.prog 20 #[(.agg #[.int .i64 op, .int .i64 lv, .int .i64 key, .int .u64 a, .int .u64 b, .int .u64 hd, .int .i64 rg])] w fun e w' => e = .returned (.string (bstr (callW op lv key a b hd rg))) ∧ Below w.heap.size w w' := by
  obtain ⟨W0, hW0, hB, kb⟩ : ∃ W0, w.alloc (.cells #[.int .i64 op, .int .i64 lv, .int .i64 key, .int .u64 a, .int .u64 b, .int .u64 hd, .int .i64 rg] 51) = W0 ∧ Blk W0 w.heap.size 51 #[.int .i64 op, .int .i64 lv, .int .i64 key, .int .u64 a, .int .u64 b, .int .u64 hd, .int .i64 rg] ∧ Below w.heap.size w W0 := ⟨_, rfl, Blk.new _ _ _, bnew (brefl w) _⟩

  have q0 : W0.cell? ⟨w.heap.size, 0, none⟩ = some (.int .i64 op) := hB.cell 0
  have q1 : W0.cell? ⟨w.heap.size, 1, none⟩ = some (.int .i64 lv) := hB.cell 1
  have q2 : W0.cell? ⟨w.heap.size, 2, none⟩ = some (.int .i64 key) := hB.cell 2
  have q3 : W0.cell? ⟨w.heap.size, 3, none⟩ = some (.int .u64 a) := hB.cell 3
  have q4 : W0.cell? ⟨w.heap.size, 4, none⟩ = some (.int .u64 b) := hB.cell 4
  have q5 : W0.cell? ⟨w.heap.size, 5, none⟩ = some (.int .u64 hd) := hB.cell 5
  have q6 : W0.cell? ⟨w.heap.size, 6, none⟩ = some (.int .i64 rg) := hB.cell 6
  have h0 : LV W0 := h.below kb
  have HI1 := Lib.hid (fun W (hW : Below W0.heap.size W0 W) => itoa_any lv hlv (h0.below hW))
  have HI2 := Lib.hid (fun W (hW : Below W0.heap.size W0 W) => fmt_int key hkey (h0.below hW))
  have HI3 := Lib.hid (fun W (hW : Below W0.heap.size W0 W) => itoa_any rg hrg (h0.below hW))
  have HU1 := Lib.hid (fun W (hW : Below W0.heap.size W0 W) => tbits_any a ha (h0.below hW))
  have HU2 := Lib.hid (fun W (hW : Below W0.heap.size W0 W) => tbits_any b hb (h0.below hW))
  have HU3 := Lib.hid (fun W (hW : Below W0.heap.size W0 W) => tbits_any hd hh (h0.below hW))
  have HL := Lib.hid (callW_len op lv key a b hd rg hop hlv hkey hrg ha hb hh)
  clear h h0 hop hlv hkey hrg ha hb hh
  go_enter Tryz.func20, Tryz.ntmps20
  go_upto_region 1 with fail
  clear hW0
  have hX := @Ext.cell W0
  have hzz0 := block_lt_of_cell q0
  refine wp_region_noPanic ?_
  refine wp_region_plan (fun w' => ∃ x : Ext W0, w' = x.w) [([0, 1, 3, 4, 6, 7, 9, 10, 11, 13, 14, 15, 17, 18, 20, 21], 2), ([], 5), ([], 8), ([], 12), ([], 16), ([], 19), ([], 22), ([], 23)] [24] (by kernel_rfl) (by kernel_rfl) (by kernel_rfl) (fun _ _ _ _ _ h => h) ⟨⟨_, (brefl W0).drew⟩, rfl⟩ ?_
  refine wpPlan_cons ?_
  simp only [pickOps, List.getElem?_cons_succ, List.getElem?_cons_zero, Option.elim_some]
  repeat (go_big_quiet_step (fail))
  refine wpQuiet_nil ?_
  refine planAct_some (fun K hK => ?_)
  go_simp
  refine (cword_any op).mono ?_
  rintro e w1 ⟨rfl, hb1⟩
  go_wp2_with fail
  refine hK.out _ _ ⟨⟨_, (bnext ((brefl W0).drew) hb1)⟩, rfl⟩ ?_
  clear hK K
  refine wpPlan_cons ?_
  simp only [pickOps, List.getElem?_cons_succ, List.getElem?_cons_zero, Option.elim_some]
  repeat (go_big_quiet_step (fail))
  refine wpQuiet_nil ?_
  refine planAct_some (fun K hK => ?_)
  go_simp
  refine (HI1.out _ (bnext ((brefl W0).drew) hb1)).mono ?_
  rintro e w2 ⟨rfl, hb2⟩
  go_wp2_with fail
  refine hK.out _ _ ⟨⟨_, (bnext (bnext ((brefl W0).drew) hb1) hb2)⟩, rfl⟩ ?_
  clear hK K
  refine wpPlan_cons ?_
  simp only [pickOps, List.getElem?_cons_succ, List.getElem?_cons_zero, Option.elim_some]
  repeat (go_big_quiet_step (fail))
  refine wpQuiet_nil ?_
  refine planAct_some (fun K hK => ?_)
  go_simp
  refine (HI2.out _ (bnext (bnext ((brefl W0).drew) hb1) hb2)).mono ?_
  rintro e w3 ⟨rfl, hb3⟩
  go_wp2_with fail
  refine hK.out _ _ ⟨⟨_, (bnext (bnext (bnext ((brefl W0).drew) hb1) hb2) hb3)⟩, rfl⟩ ?_
  clear hK K
  refine wpPlan_cons ?_
  simp only [pickOps, List.getElem?_cons_succ, List.getElem?_cons_zero, Option.elim_some]
  repeat (go_big_quiet_step (fail))
  refine wpQuiet_nil ?_
  refine planAct_some (fun K hK => ?_)
  go_simp
  refine (HU1.out _ (bnext (bnext (bnext ((brefl W0).drew) hb1) hb2) hb3)).mono ?_
  rintro e w4 ⟨rfl, hb4⟩
  go_wp2_with fail
  refine hK.out _ _ ⟨⟨_, (bnext (bnext (bnext (bnext ((brefl W0).drew) hb1) hb2) hb3) hb4)⟩, rfl⟩ ?_
  clear hK K
  refine wpPlan_cons ?_
  simp only [pickOps, List.getElem?_cons_succ, List.getElem?_cons_zero, Option.elim_some]
  repeat (go_big_quiet_step (fail))
  refine wpQuiet_nil ?_
  refine planAct_some (fun K hK => ?_)
  go_simp
  refine (HU2.out _ (bnext (bnext (bnext (bnext ((brefl W0).drew) hb1) hb2) hb3) hb4)).mono ?_
  rintro e w5 ⟨rfl, hb5⟩
  go_wp2_with fail
  refine hK.out _ _ ⟨⟨_, (bnext (bnext (bnext (bnext (bnext ((brefl W0).drew) hb1) hb2) hb3) hb4) hb5)⟩, rfl⟩ ?_
  clear hK K
  refine wpPlan_cons ?_
  simp only [pickOps, List.getElem?_cons_succ, List.getElem?_cons_zero, Option.elim_some]
  repeat (go_big_quiet_step (fail))
  refine wpQuiet_nil ?_
  refine planAct_some (fun K hK => ?_)
  go_simp
  refine (HU3.out _ (bnext (bnext (bnext (bnext (bnext ((brefl W0).drew) hb1) hb2) hb3) hb4) hb5)).mono ?_
  rintro e w6 ⟨rfl, hb6⟩
  go_wp2_with fail
  refine hK.out _ _ ⟨⟨_, (bnext (bnext (bnext (bnext (bnext (bnext ((brefl W0).drew) hb1) hb2) hb3) hb4) hb5) hb6)⟩, rfl⟩ ?_
  clear hK K
  refine wpPlan_cons ?_
  simp only [pickOps, List.getElem?_cons_succ, List.getElem?_cons_zero, Option.elim_some]
  repeat (go_big_quiet_step (fail))
  refine wpQuiet_nil ?_
  refine planAct_some (fun K hK => ?_)
  go_simp
  refine (HI3.out _ (bnext (bnext (bnext (bnext (bnext (bnext ((brefl W0).drew) hb1) hb2) hb3) hb4) hb5) hb6)).mono ?_
  rintro e w7 ⟨rfl, hb7⟩
  go_wp2_with fail
  refine hK.out _ _ ⟨⟨_, (bnext (bnext (bnext (bnext (bnext (bnext (bnext ((brefl W0).drew) hb1) hb2) hb3) hb4) hb5) hb6) hb7)⟩, rfl⟩ ?_
  clear hK K
  refine wpPlan_cons ?_
  simp only [pickOps, List.getElem?_cons_succ, List.getElem?_cons_zero, Option.elim_some]
  repeat (go_big_quiet_step (fail))
  refine wpQuiet_nil ?_
  refine planAct_some (fun K hK => ?_)
  go_simp
  refine hK.out _ _ ⟨⟨_, (bnew (bnext (bnext (bnext (bnext (bnext (bnext (bnext ((brefl W0).drew) hb1) hb2) hb3) hb4) hb5) hb6) hb7) _)⟩, rfl⟩ ?_
  clear hK K
  refine wpPlan_last ?_
  simp only [pickOps, List.getElem?_cons_succ, List.getElem?_cons_zero, Option.elim_some]
  repeat (go_big_quiet_step (fail))
  refine wpQuiet_nil ?_
  refine NoPanic.normal ?_
  clear hX hzz0
  obtain ⟨W8, hW8, hB8, kb8⟩ : ∃ W8, w7.alloc (.cells #[.string (wordS op), .string (bstr (Lib.itoa lv)), .string (bstr (Lib.itoa key)), .string (bstr (Lib.decDigits a)), .string (bstr (Lib.decDigits b)), .string (bstr (Lib.decDigits hd)), .string (bstr (Lib.itoa rg))] 9) = W8 ∧ Blk W8 w7.heap.size 9 #[.string (wordS op), .string (bstr (Lib.itoa lv)), .string (bstr (Lib.itoa key)), .string (bstr (Lib.decDigits a)), .string (bstr (Lib.decDigits b)), .string (bstr (Lib.decDigits hd)), .string (bstr (Lib.itoa rg))] ∧ Below w.heap.size w W8 := ⟨_, rfl, Blk.new _ _ _, bnext kb (bnew (bnext (bnext (bnext (bnext (bnext (bnext (bnext ((brefl W0).drew) hb1) hb2) hb3) hb4) hb5) hb6) hb7) _)⟩
  rw [hW8]
  clear hW8
  have hJ : Calls Tryz.prog 50 #[.slice (some ⟨w7.heap.size, 0, none⟩) 7 7, .string ⟨#[32]⟩] W8 fun e w' => e = .returned (.string (bstr (callW op lv key a b hd rg))) ∧ Below W8.heap.size W8 w' :=
    Tryz.strings_Join w7.heap.size 0 7 (callL op lv key a b hd rg) ⟨#[32]⟩ W8 (fun j x hx => by
      rw [Nat.zero_add]
      refine hB8.cell_ ?_
      show ((callL op lv key a b hd rg).map Value.string).toArray[j]? = _
      simp [hx]) hB8.lt (by show 7 ≤ _; omega) (by show 7 ≤ 7; omega) (Nat.le_trans HL.out (by omega))
  go_wp2_with (go_at_call 50; refine hJ.mono ?_; rintro e w9 ⟨rfl, hb9⟩)
  go_ret
  exact ⟨rfl, bnext kb8 hb9⟩
set_option maxHeartbeats 4000000 in
set_option maxRecDepth 100000 in
theorem rcall_any {w : World} (op lv key : Int) (a b hd : Nat) (rg : Int) (hop : I64 op) (hlv : I64 lv) (hkey : I64 key) (hrg : I64 rg) (ha : a < 18446744073709551616) (hb : b < 18446744073709551616) (hh : hd < 18446744073709551616) : Calls Tryz.prog 21 #[(.agg #[.int .i64 op, .int .i64 lv, .int .i64 key, .int .u64 a, .int .u64 b, .int .u64 hd, .int .i64 rg])] w fun e w' => e = .returned (.string (bstr (callW op lv key a b hd rg))) ∧ Below w.heap.size w w' := by
  obtain ⟨W0, hW0, hB, kb⟩ : ∃ W0, w.alloc (.cells #[.int .i64 op, .int .i64 lv, .int .i64 key, .int .u64 a, .int .u64 b, .int .u64 hd, .int .i64 rg] 51) = W0 ∧ Blk W0 w.heap.size 51 #[.int .i64 op, .int .i64 lv, .int .i64 key, .int .u64 a, .int .u64 b, .int .u64 hd, .int .i64 rg] ∧ Below w.heap.size w W0 := ⟨_, rfl, Blk.new _ _ _, bnew (brefl w) _⟩

  have q0 : W0.cell? ⟨w.heap.size, 0, none⟩ = some (.int .i64 op) := hB.cell 0
  have q1 : W0.cell? ⟨w.heap.size, 1, none⟩ = some (.int .i64 lv) := hB.cell 1
  have q2 : W0.cell? ⟨w.heap.size, 2, none⟩ = some (.int .i64 key) := hB.cell 2
  have q3 : W0.cell? ⟨w.heap.size, 3, none⟩ = some (.int .u64 a) := hB.cell 3
  have q4 : W0.cell? ⟨w.heap.size, 4, none⟩ = some (.int .u64 b) := hB.cell 4
  have q5 : W0.cell? ⟨w.heap.size, 5, none⟩ = some (.int .u64 hd) := hB.cell 5
  have q6 : W0.cell? ⟨w.heap.size, 6, none⟩ = some (.int .i64 rg) := hB.cell 6
  have HE : Hid (((((((wordS op ++ ⟨#[32]⟩) ++ bstr (Lib.itoa lv) ++ ⟨#[32]⟩) ++ bstr (Lib.itoa key) ++ ⟨#[32]⟩) ++ bstr (Lib.decDigits a) ++ ⟨#[32]⟩) ++ bstr (Lib.decDigits b) ++ ⟨#[32]⟩) ++ bstr (Lib.decDigits hd) ++ ⟨#[32]⟩) ++ bstr (Lib.itoa rg) = bstr (callW op lv key a b hd rg)) := by
    rw [Hid, callW_eq, show wordS op = bstr (wordS op).data.toList from rfl, show (⟨#[32]⟩ : ByteArray) = bstr [32] from rfl]
    simp only [bstr_app, List.append_assoc, List.cons_append, List.nil_append]
    rfl
  have HW := Lib.hid (fun W => rword_any (w := W) op hop)
  have HI1 := Lib.hid (fun W => num_any (w := W) lv hlv)
  have HI2 := Lib.hid (fun W => r35num (w := W) key hkey)
  have HI3 := Lib.hid (fun W => num_any (w := W) rg hrg)
  have HU1 := Lib.hid (fun W => r35bits (w := W) a ha)
  have HU2 := Lib.hid (fun W => r35bits (w := W) b hb)
  have HU3 := Lib.hid (fun W => r35bits (w := W) hd hh)
  have s0 : (wordS op).size ≤ 6 := wordS_len op
  have s1 : (bstr (Lib.itoa lv)).size ≤ 21 := itoa_len hlv
  have s2 : (bstr (Lib.itoa key)).size ≤ 21 := itoa_len hkey
  have s3 : (bstr (Lib.decDigits a)).size ≤ 20 := dec_len ha
  have s4 : (bstr (Lib.decDigits b)).size ≤ 20 := dec_len hb
  have s5 : (bstr (Lib.decDigits hd)).size ≤ 20 := dec_len hh
  have s6 : (bstr (Lib.itoa rg)).size ≤ 21 := itoa_len hrg
  generalize bstr (callW op lv key a b hd rg) = R at *
  generalize wordS op = S0 at *
  generalize bstr (Lib.itoa lv) = S1 at *
  generalize bstr (Lib.itoa key) = S2 at *
  generalize bstr (Lib.decDigits a) = S3 at *
  generalize bstr (Lib.decDigits b) = S4 at *
  generalize bstr (Lib.decDigits hd) = S5 at *
  generalize bstr (Lib.itoa rg) = S6 at *
  clear hop hlv hkey hrg ha hb hh
  go_enter Tryz.func21, Tryz.ntmps21
  go_upto_region 1 with fail
  clear hW0
  have hX := @Ext.cell W0
  have hzz0 := block_lt_of_cell q0
  refine wp_region_noPanic ?_
  refine wp_region_plan (fun w' => ∃ x : Ext W0, w' = x.w) [([0, 1, 4, 5, 9, 10, 14, 15, 16, 20, 21, 22, 26, 27, 31, 32], 2), ([3], 6), ([7, 8], 11), ([12, 13], 17), ([18, 19], 23), ([24, 25], 28), ([29, 30], 33)] [34, 35] (by kernel_rfl) (by kernel_rfl) (by kernel_rfl) (fun _ _ _ _ _ h => h) ⟨⟨_, (brefl W0).drew⟩, rfl⟩ ?_
  refine wpPlan_cons ?_
  simp only [pickOps, List.getElem?_cons_succ, List.getElem?_cons_zero, Option.elim_some]
  repeat (go_big_quiet_step (fail))
  refine wpQuiet_nil ?_
  refine planAct_some (fun K hK => ?_)
  go_simp
  refine (HW.out _).mono ?_
  rintro e w1 ⟨rfl, hb1⟩
  go_wp2_with fail
  refine hK.out _ _ ⟨⟨_, (bnext ((brefl W0).drew) hb1)⟩, rfl⟩ ?_
  clear hK K
  refine wpPlan_cons ?_
  simp only [pickOps, List.getElem?_cons_succ, List.getElem?_cons_zero, Option.elim_some]
  repeat (go_big_quiet_step (fail))
  refine wpQuiet_nil ?_
  refine planAct_some (fun K hK => ?_)
  go_simp
  refine (HI1.out _).mono ?_
  rintro e w' ⟨rfl, rfl⟩
  go_wp2_with fail
  refine hK.out _ _ ⟨⟨_, (bnext ((brefl W0).drew) hb1)⟩, rfl⟩ ?_
  clear hK K
  refine wpPlan_cons ?_
  simp only [pickOps, List.getElem?_cons_succ, List.getElem?_cons_zero, Option.elim_some]
  repeat (go_big_quiet_step (fail))
  refine wpQuiet_nil ?_
  refine planAct_some (fun K hK => ?_)
  go_simp
  refine (HI2.out _).mono ?_
  rintro e w' ⟨rfl, rfl⟩
  go_wp2_with fail
  refine hK.out _ _ ⟨⟨_, (bnext ((brefl W0).drew) hb1)⟩, rfl⟩ ?_
  clear hK K
  refine wpPlan_cons ?_
  simp only [pickOps, List.getElem?_cons_succ, List.getElem?_cons_zero, Option.elim_some]
  repeat (go_big_quiet_step (fail))
  refine wpQuiet_nil ?_
  refine planAct_some (fun K hK => ?_)
  go_simp
  refine (HU1.out _).mono ?_
  rintro e w' ⟨rfl, rfl⟩
  go_wp2_with fail
  refine hK.out _ _ ⟨⟨_, (bnext ((brefl W0).drew) hb1)⟩, rfl⟩ ?_
  clear hK K
  refine wpPlan_cons ?_
  simp only [pickOps, List.getElem?_cons_succ, List.getElem?_cons_zero, Option.elim_some]
  repeat (go_big_quiet_step (fail))
  refine wpQuiet_nil ?_
  refine planAct_some (fun K hK => ?_)
  go_simp
  refine (HU2.out _).mono ?_
  rintro e w' ⟨rfl, rfl⟩
  go_wp2_with fail
  refine hK.out _ _ ⟨⟨_, (bnext ((brefl W0).drew) hb1)⟩, rfl⟩ ?_
  clear hK K
  refine wpPlan_cons ?_
  simp only [pickOps, List.getElem?_cons_succ, List.getElem?_cons_zero, Option.elim_some]
  repeat (go_big_quiet_step (fail))
  refine wpQuiet_nil ?_
  refine planAct_some (fun K hK => ?_)
  go_simp
  refine (HU3.out _).mono ?_
  rintro e w' ⟨rfl, rfl⟩
  go_wp2_with fail
  refine hK.out _ _ ⟨⟨_, (bnext ((brefl W0).drew) hb1)⟩, rfl⟩ ?_
  clear hK K
  refine wpPlan_cons ?_
  simp only [pickOps, List.getElem?_cons_succ, List.getElem?_cons_zero, Option.elim_some]
  repeat (go_big_quiet_step (fail))
  refine wpQuiet_nil ?_
  refine planAct_some (fun K hK => ?_)
  go_simp
  refine (HI3.out _).mono ?_
  rintro e w' ⟨rfl, rfl⟩
  go_wp2_with fail
  refine hK.out _ _ ⟨⟨_, (bnext ((brefl W0).drew) hb1)⟩, rfl⟩ ?_
  clear hK K
  refine wpPlan_last ?_
  simp only [pickOps, List.getElem?_cons_succ, List.getElem?_cons_zero, Option.elim_some]
  repeat (go_big_quiet_step (fail))
  refine wpQuiet_nil ?_
  refine NoPanic.normal ?_
  clear hX hzz0
  go_wp2_with fail
  go_ret
  exact ⟨by rw [← HE.out]; rfl, bnext kb.drew hb1⟩
end Go.Proofs.YtjjgngccgjpnaaaGreatDoor
