/- The law TextWords. -/
import Derived.Test.YtjjgngccgjpnaaaGreatDoorTxtR
namespace Go.Proofs.YtjjgngccgjpnaaaGreatDoor
set_option linter.unusedVariables false
set_option linter.unusedSimpArgs false
open Go.RowKit

set_option maxHeartbeats 4000000 in
set_option maxRecDepth 100000 in
theorem textwords_any {w : World} (op lv key : Int) (a b hd : Nat) (rg : Int) (s : ByteArray) (hop : I64 op) (hlv : I64 lv) (hkey : I64 key) (hrg : I64 rg) (ha : a < 18446744073709551616) (hb : b < 18446744073709551616) (hh : hd < 18446744073709551616) (hg : LV w) :
    Calls Tryz.prog 5 #[.agg #[.int .i64 op, .int .i64 lv, .int .i64 key, .int .u64 a, .int .u64 b, .int .u64 hd, .int .i64 rg], .string s] w fun e w' => e = .returned (.bool true) ∧ Below w.heap.size w w' := by
  have HG := Lib.hid hg
  have B0 := Blk.new w 51 #[.int .i64 op, .int .i64 lv, .int .i64 key, .int .u64 a, .int .u64 b, .int .u64 hd, .int .i64 rg]
  have b0 := bnew (brefl w) (.cells #[.int .i64 op, .int .i64 lv, .int .i64 key, .int .u64 a, .int .u64 b, .int .u64 hd, .int .i64 rg] 51)
  obtain ⟨W0, hW0⟩ : ∃ W0, w.alloc (.cells #[.int .i64 op, .int .i64 lv, .int .i64 key, .int .u64 a, .int .u64 b, .int .u64 hd, .int .i64 rg] 51) = W0 := ⟨_, rfl⟩
  rw [hW0] at B0 b0
  by_cases hs : 100 < s.size
  · have t0 : (100 : Int) < (s.size : Int) := by omega
    have hlv := Lib.hid (lives40 (hg.below b0))
    clear hg hop hkey hrg ha hb hh hs
    go_enter Tryz.func5, Tryz.ntmps5
    go_wp2_with (go_at_call 7; refine hlv.out.mono ?_; rintro e w1 ⟨rfl, hb1⟩)
    go_ret
    exact ⟨rfl, bnext b0 hb1⟩
  · have hsz : s.size ≤ 1000000 := by omega
    have t0 : decide ((100 : Int) < (s.size : Int)) = false := decide_eq_false (by omega)
    have H1 : Hid (∀ W : World, Below w.heap.size w W → Calls Tryz.prog 16 #[.string s] W fun e w' => Below W.heap.size W w' ∧ e = .returned (.tuple #[.int .i64 ((refI s.data.toList).getD 0), .bool (refI s.data.toList).isSome])) := fun W h => (number_any s hsz (HG.out.below h)).mono fun e w' q => by rw [NumR, numI_ref] at q; exact q
    have H2 : Hid (∀ W : World, Calls Tryz.prog 17 #[.string s] W fun e w' => W = w' ∧ e = .returned (.tuple #[.int .i64 ((refI s.data.toList).getD 0), .bool (refI s.data.toList).isSome])) := fun W => rnumber_any s hsz
    have H3 : Hid (∀ W : World, Below w.heap.size w W → Calls Tryz.prog 18 #[.string s] W fun e w' => Below W.heap.size W w' ∧ e = .returned (.tuple #[.int .u64 ((((refU s.data.toList).getD 0 : Nat) : Int)), .bool (refU s.data.toList).isSome])) := fun W h => (wbits_any s hsz (HG.out.below h)).mono fun e w' q => by rw [BitR, numU_ref] at q; exact q
    have H4 : Hid (∀ W : World, Calls Tryz.prog 19 #[.string s] W fun e w' => W = w' ∧ e = .returned (.tuple #[.int .u64 ((((refU s.data.toList).getD 0 : Nat) : Int)), .bool (refU s.data.toList).isSome])) := fun W => rbits_any s hsz
    have H5 := Lib.hid (fun (W : World) (h : Below w.heap.size w W) => tcall_any op lv key a b hd rg hop hlv hkey hrg ha hb hh (HG.out.below h))
    have H6 := Lib.hid (fun (W : World) => rcall_any (w := W) op lv key a b hd rg hop hlv hkey hrg ha hb hh)
    have H7 := Lib.hid (fun (W : World) (h : Below w.heap.size w W) => lives40 (HG.out.below h))
    obtain ⟨v1, hv1⟩ : ∃ v1, (refI s.data.toList).getD 0 = v1 := ⟨_, rfl⟩
    obtain ⟨o1, ho1⟩ : ∃ o1, (refI s.data.toList).isSome = o1 := ⟨_, rfl⟩
    obtain ⟨v2, hv2⟩ : ∃ v2 : Int, (((refU s.data.toList).getD 0 : Nat) : Int) = v2 := ⟨_, rfl⟩
    obtain ⟨o2, ho2⟩ : ∃ o2, (refU s.data.toList).isSome = o2 := ⟨_, rfl⟩
    obtain ⟨S, hS⟩ : ∃ S, bstr (callW op lv key a b hd rg) = S := ⟨_, rfl⟩
    rw [hv1, ho1] at H1 H2
    rw [hv2, ho2] at H3 H4
    rw [hS] at H5 H6
    have hSS : (S.toList == S.toList) = true := beq_self_eq_true _
    clear hv1 ho1 hv2 ho2 hS hop hlv hkey hrg ha hb hh hg hs hsz
    go_enter Tryz.func5, Tryz.ntmps5
    go_upto_region 7 with (first | (go_at_call 16; refine (H1.out _ b0).mono ?_; rintro e w1 ⟨hb1, rfl⟩) | (go_at_call 17; refine (H2.out _).mono ?_; rintro e w2 ⟨rfl, rfl⟩) | (go_at_call 18; refine (H3.out _ (bnext b0 hb1)).mono ?_; rintro e w3 ⟨hb3, rfl⟩) | (go_at_call 19; refine (H4.out _).mono ?_; rintro e w4 ⟨rfl, rfl⟩))
    have B3 := (B0.below_ hb1).below_ hb3
    have b3 := bnext (bnext b0 hb1) hb3
    have hi : (Tryz.prog.info? 51).map (·.size) = some (#[.int .i64 op, .int .i64 lv, .int .i64 key, .int .u64 a, .int .u64 b, .int .u64 hd, .int .i64 rg] : Array Value).size := by kernel_rfl
    clear B0 b0 hW0 hb1 hb3
    have hX := @Ext.cell w3
    refine wp_region_noPanic ?_
    refine NC.wp_region_plan (fun w' => ∃ x : Ext w3, w' = x.w) [([0, 2], 1), ([], 3), ([4, 5, 6, 7, 8, 9, 10, 11, 12, 13, 14, 15, 16, 17, 18, 19, 20, 21, 22, 23, 24, 25], 26)] [27, 28] (by kernel_rfl) (by kernel_rfl) (by kernel_rfl) (fun _ _ _ _ _ h => h) ⟨⟨_, (brefl w3).drew⟩, rfl⟩ ?_
    refine NC.wpPlan_cons ?_
    simp only [NC.pickOps, List.getElem?_cons_succ, List.getElem?_cons_zero, Option.elim_some]
    refine wpQuiet_load_row rfl 51 (.tmp 2) rfl w.heap.size rfl 51 _ _ (blk_ext B3) Tryz.underlying51 rfl hi ?_; simp only [Act.put, List.setIfInBounds_toArray, List.set_cons_succ, List.set_cons_zero]
    refine wpQuiet_load_row rfl 51 (.tmp 2) rfl w.heap.size rfl 51 _ _ (blk_ext B3) Tryz.underlying51 rfl hi ?_; simp only [Act.put, List.setIfInBounds_toArray, List.set_cons_succ, List.set_cons_zero]
    refine wpQuiet_nil ?_
    refine NC.planAct_some (fun K hK => ?_)
    go_simp
    refine (H5.out _ (bnext b3 (brefl w3).drew)).mono ?_
    rintro e w5 ⟨rfl, q1⟩; have m1 := bnext ((brefl w3).drew) q1
    go_wp2_with fail
    refine hK.out _ _ ⟨⟨_, m1⟩, rfl⟩ ?_
    clear hK K
    refine NC.wpPlan_cons ?_
    simp only [NC.pickOps, List.getElem?_cons_succ, List.getElem?_cons_zero, Option.elim_some]
    repeat (go_big_quiet_step (fail))
    refine wpQuiet_nil ?_
    refine NC.planAct_some (fun K hK => ?_)
    go_simp
    refine (H6.out _).mono ?_
    rintro e w6 ⟨rfl, q2⟩; have m2 := bnext m1 q2
    go_wp2_with fail
    refine hK.out _ _ ⟨⟨_, m2⟩, rfl⟩ ?_
    clear hK K
    refine NC.wpPlan_cons ?_
    simp only [NC.pickOps, List.getElem?_cons_succ, List.getElem?_cons_zero, Option.elim_some]
    repeat (go_big_quiet_step (fail))
    refine wpQuiet_nil ?_
    refine NC.planAct_some (fun K hK => ?_)
    go_simp
    refine (H7.out _ (bnext b3 m2)).mono ?_
    rintro e w7 ⟨rfl, q3⟩; have m3 := bnext m2 q3
    go_wp2_with fail
    refine hK.out _ _ ⟨⟨_, m3⟩, rfl⟩ ?_
    clear hK K
    refine NC.wpPlan_last ?_
    simp only [NC.pickOps, List.getElem?_cons_succ, List.getElem?_cons_zero, Option.elim_some]
    repeat (go_big_quiet_step (fail))
    refine wpQuiet_nil ?_
    refine NoPanic.normal ?_
    clear hX
    go_wp2_with fail
    go_ret
    exact ⟨rfl, bnext b3 m3⟩
end Go.Proofs.YtjjgngccgjpnaaaGreatDoor
