/- Proved: the law ScriptPuts, for every input: it returns true, and leaves all as it was. -/
import Derived.Test.YtknngjdcbldmgaaDoorRows
import Derived.Test.YtknngjdcbldmgaaDoorScrU
import Derived.Test.YtknngjdcbldmgaaDoorScrOpenK
import Derived.ProofKit
import Derived.OpenShut
import Derived.ShutString
import Derived.ChangeOld
import Derived.Below
import Derived.SizedLaws
import Derived.Test.YtknngjdcbldmgaaDoorTie
import Derived.Test.YtknngjdcbldmgaaDoorCards
import Derived.SevenTiedAt
namespace Go.Proofs.YtknngjdcbldmgaaDoor.lawScriptPuts
set_option linter.unusedVariables false
set_option linter.unusedSimpArgs false
open Go.ChangeShapes Go.WideShapes Go.ChangeAt Go.RowKit
open Go.ChangeMaps (open_string shut_string)


theorem own : ownKnob Tryd.prog.godebug = none := by kernel_rfl
theorem laidOut : laidOutB Tryd.prog = true := by kernel_rfl

set_option maxHeartbeats 1000000 in
set_option maxRecDepth 100000 in
theorem lifted (os : Os) (started : os.Started) (H : Type) (enc : TypeId × Value → H) :
    ReturnsInHanded {} Tryd.checked os 4 .any (fun w args => (Rows.scriptPutsSpec.pre enc Tryd.prog Tryd.f4 [] false w args ∧ laidMetH Tryd.prog [("errors.errorType", Rows.laid_errors_errorType)] w) ∧ sizedMet enc Tryd.prog Tryd.f4 (OpenSpec.ofChange Rows.scriptPutsSpec) false w args) (Rows.scriptPutsSpec.post enc Tryd.prog Tryd.f4 false true false false) := by
  refine returnsInHanded_of_change_and (C := Tryd.checked) (X := fun w _ => laidMetH Tryd.prog [("errors.errorType", Rows.laid_errors_errorType)] w) (fun _ _ _ hh h => h.of_heap hh) own started (by kernel_rfl) Tryd.func4
    (ChangeSpec.witness_at (enc := enc) (C := Tryd.checked) (os := os) (X := fun w _ => laidMetH Tryd.prog [("errors.errorType", Rows.laid_errors_errorType)] w) false (laidWorld os) #[.agg #[.int .i64 0, .int .i64 0, .int .i64 0, .int .i64 0, .int .i64 0, .int .i64 0, .int .i64 0, .int .i64 0, .int .i64 0, .int .i64 0, .int .i64 0, .int .i64 0, .int .i64 0, .int .i64 0, .slice none 0 0, .slice none 0 0, .slice none 0 0, .slice none 0 0, .slice none 0 0, .slice none 0 0, .slice none 0 0, .slice none 0 0, .slice none 0 0], .agg #[.int .i64 0, .int .i64 0, .int .i64 0, .int .i64 0, .int .i64 0, .int .i64 0, .int .i64 0, .int .i64 0, .int .i64 0, .int .i64 0, .int .i64 0, .int .i64 0, .int .i64 0, .int .i64 0, .slice none 0 0, .slice none 0 0, .slice none 0 0, .slice none 0 0, .slice none 0 0, .slice none 0 0, .slice none 0 0, .slice none 0 0, .slice none 0 0]] 8 rfl (by kernel_rfl) (by kernel_rfl) (by kernel_rfl) (by kernel_rfl) (by kernel_rfl) (laidWorld_met os _)) ?_
  intro W base args ds gs before hval0 hW hcnd hsz0 hL _
  have hg := handle_of_laid hL
  have hval : ∀ (j : Nat) t v, Tryd.f4.params[j]? = some t → args[j]? = some v → Value.okWide Tryd.prog W .any base t v := hval0
  have hW' := hW
  obtain ⟨p, q, hA0, hV, rfl, hfz, hnd⟩ := hW
  have hA : DataW.TrodAll enc Tryd.prog W 0 (fun _ => true) true Tryd.f4.params.toList args.toList ds p := hA0
  rw [Tryd.params4] at hA hval
  obtain ⟨v0, vs0, d0, ds0, p0, q0, hargs, rfl, rfl, h0, r0⟩ := trodAll_cons hA
  obtain ⟨v1, vs1, d1, ds1, p1, q1, rfl, rfl, rfl, h1, r1⟩ := trodAll_cons r0
  obtain ⟨rfl, rfl, rfl⟩ := trodAll_nil r1
  obtain rfl : args = #[v0, v1] := by cases args; simp_all
  obtain ⟨rfl, rfl⟩ := trodVars_none hV
  have hsz : (DataW.weightsEach Tryd.prog [29, 29] [d0, d1]).all (fun x => decide (x ≤ reachBytes)) = true := hsz0
  have k0 := h0
  have lt0 : ∀ x ∈ p0, x.block < W.heap.size := by obtain ⟨m, hm⟩ := k0; exact DataW.trod_lt m _ _ _ hm
  obtain ⟨cs0, rfl, _⟩ := okWide_struct Tryd.underlying29 (hval 0 29 v0 rfl rfl)
  obtain ⟨mm0, hm0⟩ := h0
  have hwt0 : ∀ n ∈ d0.weights Tryd.prog 29, n ≤ reachBytes := fun n hn => by have := List.all_eq_true.1 hsz _ (DataW.weights_mem_each (j := 0) rfl rfl n hn); simpa using this
  have L0_0 := leaves_ofR (P := Tryd.prog) 8 29 [3, 3, 3, 3, 3, 3, 3, 3, 3, 3, 3, 3, 3, 3, 25, 25, 25, 25, 25, 25, 25, 25, 27] _ _ _ (by kernel_rfl) hm0 hwt0
  obtain ⟨u0_0, rr0_0, ee0_0, ff0_0, L0_1⟩ := L0_0.cons_
  obtain ⟨x0_0, ux0_0, w0_0⟩ := ff0_0.leaf.int_ Tryd.underlying3
  obtain ⟨u0_1, rr0_1, ee0_1, ff0_1, L0_2⟩ := L0_1.cons_
  obtain ⟨x0_1, ux0_1, w0_1⟩ := ff0_1.leaf.int_ Tryd.underlying3
  obtain ⟨u0_2, rr0_2, ee0_2, ff0_2, L0_3⟩ := L0_2.cons_
  obtain ⟨x0_2, ux0_2, w0_2⟩ := ff0_2.leaf.int_ Tryd.underlying3
  obtain ⟨u0_3, rr0_3, ee0_3, ff0_3, L0_4⟩ := L0_3.cons_
  obtain ⟨x0_3, ux0_3, w0_3⟩ := ff0_3.leaf.int_ Tryd.underlying3
  obtain ⟨u0_4, rr0_4, ee0_4, ff0_4, L0_5⟩ := L0_4.cons_
  obtain ⟨x0_4, ux0_4, w0_4⟩ := ff0_4.leaf.int_ Tryd.underlying3
  obtain ⟨u0_5, rr0_5, ee0_5, ff0_5, L0_6⟩ := L0_5.cons_
  obtain ⟨x0_5, ux0_5, w0_5⟩ := ff0_5.leaf.int_ Tryd.underlying3
  obtain ⟨u0_6, rr0_6, ee0_6, ff0_6, L0_7⟩ := L0_6.cons_
  obtain ⟨x0_6, ux0_6, w0_6⟩ := ff0_6.leaf.int_ Tryd.underlying3
  obtain ⟨u0_7, rr0_7, ee0_7, ff0_7, L0_8⟩ := L0_7.cons_
  obtain ⟨x0_7, ux0_7, w0_7⟩ := ff0_7.leaf.int_ Tryd.underlying3
  obtain ⟨u0_8, rr0_8, ee0_8, ff0_8, L0_9⟩ := L0_8.cons_
  obtain ⟨x0_8, ux0_8, w0_8⟩ := ff0_8.leaf.int_ Tryd.underlying3
  obtain ⟨u0_9, rr0_9, ee0_9, ff0_9, L0_10⟩ := L0_9.cons_
  obtain ⟨x0_9, ux0_9, w0_9⟩ := ff0_9.leaf.int_ Tryd.underlying3
  obtain ⟨u0_10, rr0_10, ee0_10, ff0_10, L0_11⟩ := L0_10.cons_
  obtain ⟨x0_10, ux0_10, w0_10⟩ := ff0_10.leaf.int_ Tryd.underlying3
  obtain ⟨u0_11, rr0_11, ee0_11, ff0_11, L0_12⟩ := L0_11.cons_
  obtain ⟨x0_11, ux0_11, w0_11⟩ := ff0_11.leaf.int_ Tryd.underlying3
  obtain ⟨u0_12, rr0_12, ee0_12, ff0_12, L0_13⟩ := L0_12.cons_
  obtain ⟨x0_12, ux0_12, w0_12⟩ := ff0_12.leaf.int_ Tryd.underlying3
  obtain ⟨u0_13, rr0_13, ee0_13, ff0_13, L0_14⟩ := L0_13.cons_
  obtain ⟨x0_13, ux0_13, w0_13⟩ := ff0_13.leaf.int_ Tryd.underlying3
  obtain ⟨u0_14, rr0_14, ee0_14, ff0_14, L0_15⟩ := L0_14.cons_
  obtain ⟨A0_14, n0_14, c0_14, l0_14, ux0_14, s0_14, g0_14, mx0_14⟩ := ff0_14.leaf.slice_ cvc_len Tryd.underlying25 cells_ck hel_ck
  have fr0_14 := ff0_14; rw [ux0_14] at fr0_14
  have re0_14 := reach_cv s0_14.len (fr0_14.len_ Tryd.underlying25)
  obtain ⟨u0_15, rr0_15, ee0_15, ff0_15, L0_16⟩ := L0_15.cons_
  obtain ⟨A0_15, n0_15, c0_15, l0_15, ux0_15, s0_15, g0_15, mx0_15⟩ := ff0_15.leaf.slice_ cvc_len Tryd.underlying25 cells_ck hel_ck
  have fr0_15 := ff0_15; rw [ux0_15] at fr0_15
  have re0_15 := reach_cv s0_15.len (fr0_15.len_ Tryd.underlying25)
  obtain ⟨u0_16, rr0_16, ee0_16, ff0_16, L0_17⟩ := L0_16.cons_
  obtain ⟨A0_16, n0_16, c0_16, l0_16, ux0_16, s0_16, g0_16, mx0_16⟩ := ff0_16.leaf.slice_ cvc_len Tryd.underlying25 cells_ck hel_ck
  have fr0_16 := ff0_16; rw [ux0_16] at fr0_16
  have re0_16 := reach_cv s0_16.len (fr0_16.len_ Tryd.underlying25)
  obtain ⟨u0_17, rr0_17, ee0_17, ff0_17, L0_18⟩ := L0_17.cons_
  obtain ⟨A0_17, n0_17, c0_17, l0_17, ux0_17, s0_17, g0_17, mx0_17⟩ := ff0_17.leaf.slice_ cvc_len Tryd.underlying25 cells_ck hel_ck
  have fr0_17 := ff0_17; rw [ux0_17] at fr0_17
  have re0_17 := reach_cv s0_17.len (fr0_17.len_ Tryd.underlying25)
  obtain ⟨u0_18, rr0_18, ee0_18, ff0_18, L0_19⟩ := L0_18.cons_
  obtain ⟨A0_18, n0_18, c0_18, l0_18, ux0_18, s0_18, g0_18, mx0_18⟩ := ff0_18.leaf.slice_ cvc_len Tryd.underlying25 cells_ck hel_ck
  have fr0_18 := ff0_18; rw [ux0_18] at fr0_18
  have re0_18 := reach_cv s0_18.len (fr0_18.len_ Tryd.underlying25)
  obtain ⟨u0_19, rr0_19, ee0_19, ff0_19, L0_20⟩ := L0_19.cons_
  obtain ⟨A0_19, n0_19, c0_19, l0_19, ux0_19, s0_19, g0_19, mx0_19⟩ := ff0_19.leaf.slice_ cvc_len Tryd.underlying25 cells_ck hel_ck
  have fr0_19 := ff0_19; rw [ux0_19] at fr0_19
  have re0_19 := reach_cv s0_19.len (fr0_19.len_ Tryd.underlying25)
  obtain ⟨u0_20, rr0_20, ee0_20, ff0_20, L0_21⟩ := L0_20.cons_
  obtain ⟨A0_20, n0_20, c0_20, l0_20, ux0_20, s0_20, g0_20, mx0_20⟩ := ff0_20.leaf.slice_ cvc_len Tryd.underlying25 cells_ck hel_ck
  have fr0_20 := ff0_20; rw [ux0_20] at fr0_20
  have re0_20 := reach_cv s0_20.len (fr0_20.len_ Tryd.underlying25)
  obtain ⟨u0_21, rr0_21, ee0_21, ff0_21, L0_22⟩ := L0_21.cons_
  obtain ⟨A0_21, n0_21, c0_21, l0_21, ux0_21, s0_21, g0_21, mx0_21⟩ := ff0_21.leaf.slice_ cvc_len Tryd.underlying25 cells_ck hel_ck
  have fr0_21 := ff0_21; rw [ux0_21] at fr0_21
  have re0_21 := reach_cv s0_21.len (fr0_21.len_ Tryd.underlying25)
  obtain ⟨u0_22, rr0_22, ee0_22, ff0_22, L0_23⟩ := L0_22.cons_
  obtain ⟨A0_22, n0_22, c0_22, l0_22, ux0_22, s0_22, g0_22, mx0_22⟩ := ff0_22.leaf.slice_ enc__len Tryd.underlying27 cells_en hel_en
  have fr0_22 := ff0_22; rw [ux0_22] at fr0_22
  have ez0 := L0_23.nil_
  subst ez0
  subst ee0_22
  subst ee0_21
  subst ee0_20
  subst ee0_19
  subst ee0_18
  subst ee0_17
  subst ee0_16
  subst ee0_15
  subst ee0_14
  subst ee0_13
  subst ee0_12
  subst ee0_11
  subst ee0_10
  subst ee0_9
  subst ee0_8
  subst ee0_7
  subst ee0_6
  subst ee0_5
  subst ee0_4
  subst ee0_3
  subst ee0_2
  subst ee0_1
  subst ux0_0
  subst ux0_1
  subst ux0_2
  subst ux0_3
  subst ux0_4
  subst ux0_5
  subst ux0_6
  subst ux0_7
  subst ux0_8
  subst ux0_9
  subst ux0_10
  subst ux0_11
  subst ux0_12
  subst ux0_13
  subst ux0_14
  subst ux0_15
  subst ux0_16
  subst ux0_17
  subst ux0_18
  subst ux0_19
  subst ux0_20
  subst ux0_21
  subst ux0_22
  obtain rfl : cs0 = #[.int .i64 x0_0, .int .i64 x0_1, .int .i64 x0_2, .int .i64 x0_3, .int .i64 x0_4, .int .i64 x0_5, .int .i64 x0_6, .int .i64 x0_7, .int .i64 x0_8, .int .i64 x0_9, .int .i64 x0_10, .int .i64 x0_11, .int .i64 x0_12, .int .i64 x0_13, .slice A0_14 n0_14 c0_14, .slice A0_15 n0_15 c0_15, .slice A0_16 n0_16 c0_16, .slice A0_17 n0_17 c0_17, .slice A0_18 n0_18 c0_18, .slice A0_19 n0_19 c0_19, .slice A0_20 n0_20 c0_20, .slice A0_21 n0_21 c0_21, .slice A0_22 n0_22 c0_22] := by cases cs0; simpa [Value.cells] using ee0_0
  have SP0 := pin8 s0_14 s0_15 s0_16 s0_17 s0_18 s0_19 s0_20 s0_21
  have SR0 := all8 (p := fun l => l.length * 56 ≤ 140737488351232) re0_14 re0_15 re0_16 re0_17 re0_18 re0_19 re0_20 re0_21
  have SU0 := all8 (p := fun l => ∀ x, x ∈ l → CVk x) g0_14 g0_15 g0_16 g0_17 g0_18 g0_19 g0_20 g0_21
  have k1 := h1
  have lt1 : ∀ x ∈ p1, x.block < W.heap.size := by obtain ⟨m, hm⟩ := k1; exact DataW.trod_lt m _ _ _ hm
  obtain ⟨cs1, rfl, _⟩ := okWide_struct Tryd.underlying29 (hval 1 29 v1 rfl rfl)
  obtain ⟨mm1, hm1⟩ := h1
  have hwt1 : ∀ n ∈ d1.weights Tryd.prog 29, n ≤ reachBytes := fun n hn => by have := List.all_eq_true.1 hsz _ (DataW.weights_mem_each (j := 1) rfl rfl n hn); simpa using this
  have L1_0 := leaves_ofR (P := Tryd.prog) 8 29 [3, 3, 3, 3, 3, 3, 3, 3, 3, 3, 3, 3, 3, 3, 25, 25, 25, 25, 25, 25, 25, 25, 27] _ _ _ (by kernel_rfl) hm1 hwt1
  obtain ⟨u1_0, rr1_0, ee1_0, ff1_0, L1_1⟩ := L1_0.cons_
  obtain ⟨x1_0, ux1_0, w1_0⟩ := ff1_0.leaf.int_ Tryd.underlying3
  obtain ⟨u1_1, rr1_1, ee1_1, ff1_1, L1_2⟩ := L1_1.cons_
  obtain ⟨x1_1, ux1_1, w1_1⟩ := ff1_1.leaf.int_ Tryd.underlying3
  obtain ⟨u1_2, rr1_2, ee1_2, ff1_2, L1_3⟩ := L1_2.cons_
  obtain ⟨x1_2, ux1_2, w1_2⟩ := ff1_2.leaf.int_ Tryd.underlying3
  obtain ⟨u1_3, rr1_3, ee1_3, ff1_3, L1_4⟩ := L1_3.cons_
  obtain ⟨x1_3, ux1_3, w1_3⟩ := ff1_3.leaf.int_ Tryd.underlying3
  obtain ⟨u1_4, rr1_4, ee1_4, ff1_4, L1_5⟩ := L1_4.cons_
  obtain ⟨x1_4, ux1_4, w1_4⟩ := ff1_4.leaf.int_ Tryd.underlying3
  obtain ⟨u1_5, rr1_5, ee1_5, ff1_5, L1_6⟩ := L1_5.cons_
  obtain ⟨x1_5, ux1_5, w1_5⟩ := ff1_5.leaf.int_ Tryd.underlying3
  obtain ⟨u1_6, rr1_6, ee1_6, ff1_6, L1_7⟩ := L1_6.cons_
  obtain ⟨x1_6, ux1_6, w1_6⟩ := ff1_6.leaf.int_ Tryd.underlying3
  obtain ⟨u1_7, rr1_7, ee1_7, ff1_7, L1_8⟩ := L1_7.cons_
  obtain ⟨x1_7, ux1_7, w1_7⟩ := ff1_7.leaf.int_ Tryd.underlying3
  obtain ⟨u1_8, rr1_8, ee1_8, ff1_8, L1_9⟩ := L1_8.cons_
  obtain ⟨x1_8, ux1_8, w1_8⟩ := ff1_8.leaf.int_ Tryd.underlying3
  obtain ⟨u1_9, rr1_9, ee1_9, ff1_9, L1_10⟩ := L1_9.cons_
  obtain ⟨x1_9, ux1_9, w1_9⟩ := ff1_9.leaf.int_ Tryd.underlying3
  obtain ⟨u1_10, rr1_10, ee1_10, ff1_10, L1_11⟩ := L1_10.cons_
  obtain ⟨x1_10, ux1_10, w1_10⟩ := ff1_10.leaf.int_ Tryd.underlying3
  obtain ⟨u1_11, rr1_11, ee1_11, ff1_11, L1_12⟩ := L1_11.cons_
  obtain ⟨x1_11, ux1_11, w1_11⟩ := ff1_11.leaf.int_ Tryd.underlying3
  obtain ⟨u1_12, rr1_12, ee1_12, ff1_12, L1_13⟩ := L1_12.cons_
  obtain ⟨x1_12, ux1_12, w1_12⟩ := ff1_12.leaf.int_ Tryd.underlying3
  obtain ⟨u1_13, rr1_13, ee1_13, ff1_13, L1_14⟩ := L1_13.cons_
  obtain ⟨x1_13, ux1_13, w1_13⟩ := ff1_13.leaf.int_ Tryd.underlying3
  obtain ⟨u1_14, rr1_14, ee1_14, ff1_14, L1_15⟩ := L1_14.cons_
  obtain ⟨A1_14, n1_14, c1_14, l1_14, ux1_14, s1_14, g1_14, mx1_14⟩ := ff1_14.leaf.slice_ cvc_len Tryd.underlying25 cells_cv hel_cv
  have fr1_14 := ff1_14; rw [ux1_14] at fr1_14
  have re1_14 := reach_cv s1_14.len (fr1_14.len_ Tryd.underlying25)
  obtain ⟨u1_15, rr1_15, ee1_15, ff1_15, L1_16⟩ := L1_15.cons_
  obtain ⟨A1_15, n1_15, c1_15, l1_15, ux1_15, s1_15, g1_15, mx1_15⟩ := ff1_15.leaf.slice_ cvc_len Tryd.underlying25 cells_cv hel_cv
  have fr1_15 := ff1_15; rw [ux1_15] at fr1_15
  have re1_15 := reach_cv s1_15.len (fr1_15.len_ Tryd.underlying25)
  obtain ⟨u1_16, rr1_16, ee1_16, ff1_16, L1_17⟩ := L1_16.cons_
  obtain ⟨A1_16, n1_16, c1_16, l1_16, ux1_16, s1_16, g1_16, mx1_16⟩ := ff1_16.leaf.slice_ cvc_len Tryd.underlying25 cells_cv hel_cv
  have fr1_16 := ff1_16; rw [ux1_16] at fr1_16
  have re1_16 := reach_cv s1_16.len (fr1_16.len_ Tryd.underlying25)
  obtain ⟨u1_17, rr1_17, ee1_17, ff1_17, L1_18⟩ := L1_17.cons_
  obtain ⟨A1_17, n1_17, c1_17, l1_17, ux1_17, s1_17, g1_17, mx1_17⟩ := ff1_17.leaf.slice_ cvc_len Tryd.underlying25 cells_cv hel_cv
  have fr1_17 := ff1_17; rw [ux1_17] at fr1_17
  have re1_17 := reach_cv s1_17.len (fr1_17.len_ Tryd.underlying25)
  obtain ⟨u1_18, rr1_18, ee1_18, ff1_18, L1_19⟩ := L1_18.cons_
  obtain ⟨A1_18, n1_18, c1_18, l1_18, ux1_18, s1_18, g1_18, mx1_18⟩ := ff1_18.leaf.slice_ cvc_len Tryd.underlying25 cells_cv hel_cv
  have fr1_18 := ff1_18; rw [ux1_18] at fr1_18
  have re1_18 := reach_cv s1_18.len (fr1_18.len_ Tryd.underlying25)
  obtain ⟨u1_19, rr1_19, ee1_19, ff1_19, L1_20⟩ := L1_19.cons_
  obtain ⟨A1_19, n1_19, c1_19, l1_19, ux1_19, s1_19, g1_19, mx1_19⟩ := ff1_19.leaf.slice_ cvc_len Tryd.underlying25 cells_cv hel_cv
  have fr1_19 := ff1_19; rw [ux1_19] at fr1_19
  have re1_19 := reach_cv s1_19.len (fr1_19.len_ Tryd.underlying25)
  obtain ⟨u1_20, rr1_20, ee1_20, ff1_20, L1_21⟩ := L1_20.cons_
  obtain ⟨A1_20, n1_20, c1_20, l1_20, ux1_20, s1_20, g1_20, mx1_20⟩ := ff1_20.leaf.slice_ cvc_len Tryd.underlying25 cells_cv hel_cv
  have fr1_20 := ff1_20; rw [ux1_20] at fr1_20
  have re1_20 := reach_cv s1_20.len (fr1_20.len_ Tryd.underlying25)
  obtain ⟨u1_21, rr1_21, ee1_21, ff1_21, L1_22⟩ := L1_21.cons_
  obtain ⟨A1_21, n1_21, c1_21, l1_21, ux1_21, s1_21, g1_21, mx1_21⟩ := ff1_21.leaf.slice_ cvc_len Tryd.underlying25 cells_cv hel_cv
  have fr1_21 := ff1_21; rw [ux1_21] at fr1_21
  have re1_21 := reach_cv s1_21.len (fr1_21.len_ Tryd.underlying25)
  obtain ⟨u1_22, rr1_22, ee1_22, ff1_22, L1_23⟩ := L1_22.cons_
  obtain ⟨A1_22, n1_22, c1_22, l1_22, ux1_22, s1_22, g1_22, mx1_22⟩ := ff1_22.leaf.slice_ enc__len Tryd.underlying27 cells_en hel_en
  have fr1_22 := ff1_22; rw [ux1_22] at fr1_22
  have ez1 := L1_23.nil_
  subst ez1
  subst ee1_22
  subst ee1_21
  subst ee1_20
  subst ee1_19
  subst ee1_18
  subst ee1_17
  subst ee1_16
  subst ee1_15
  subst ee1_14
  subst ee1_13
  subst ee1_12
  subst ee1_11
  subst ee1_10
  subst ee1_9
  subst ee1_8
  subst ee1_7
  subst ee1_6
  subst ee1_5
  subst ee1_4
  subst ee1_3
  subst ee1_2
  subst ee1_1
  subst ux1_0
  subst ux1_1
  subst ux1_2
  subst ux1_3
  subst ux1_4
  subst ux1_5
  subst ux1_6
  subst ux1_7
  subst ux1_8
  subst ux1_9
  subst ux1_10
  subst ux1_11
  subst ux1_12
  subst ux1_13
  subst ux1_14
  subst ux1_15
  subst ux1_16
  subst ux1_17
  subst ux1_18
  subst ux1_19
  subst ux1_20
  subst ux1_21
  subst ux1_22
  obtain rfl : cs1 = #[.int .i64 x1_0, .int .i64 x1_1, .int .i64 x1_2, .int .i64 x1_3, .int .i64 x1_4, .int .i64 x1_5, .int .i64 x1_6, .int .i64 x1_7, .int .i64 x1_8, .int .i64 x1_9, .int .i64 x1_10, .int .i64 x1_11, .int .i64 x1_12, .int .i64 x1_13, .slice A1_14 n1_14 c1_14, .slice A1_15 n1_15 c1_15, .slice A1_16 n1_16 c1_16, .slice A1_17 n1_17 c1_17, .slice A1_18 n1_18 c1_18, .slice A1_19 n1_19 c1_19, .slice A1_20 n1_20 c1_20, .slice A1_21 n1_21 c1_21, .slice A1_22 n1_22 c1_22] := by cases cs1; simpa [Value.cells] using ee1_0
  have SP1 := pin8 s1_14 s1_15 s1_16 s1_17 s1_18 s1_19 s1_20 s1_21
  have SR1 := all8 (p := fun l => l.length * 56 ≤ 140737488351232) re1_14 re1_15 re1_16 re1_17 re1_18 re1_19 re1_20 re1_21
  clear hA0 hval0
  refine (scriptputs_any (c := ⟨x0_0, x0_1, x0_2, x0_3, x0_4, x0_5, x0_6, x0_7, x0_8, x0_9, x0_10, x0_11, x0_12, x0_13⟩) (c2 := ⟨x1_0, x1_1, x1_2, x1_3, x1_4, x1_5, x1_6, x1_7, x1_8, x1_9, x1_10, x1_11, x1_12, x1_13⟩) SP0 s0_22 SP1 s1_22 hg SU0).mono fun e W' ⟨he, bel⟩ => ?_
  subst he
  exact ⟨_, rfl, _, _, _, [], _, [], hW', trodAll_mk1 (shut_bool Tryd.underlying4 _), (trodAll_cons_mk (Below.trod laidOut (by kernel_rfl) (of_decide_eq_true (by kernel_rfl)) k0 bel lt0) (trodAll_cons_mk (Below.trod laidOut (by kernel_rfl) (of_decide_eq_true (by kernel_rfl)) k1 bel lt1) trodAll_mk0)), rfl, bel.frame _, fun h => by cases h⟩

theorem over : Rows.scriptPutsRow.holds Tryd.pinned (OpenSpec.ofChange Rows.scriptPutsSpec) :=
  OpenClaim.holds_of_wide 4 Tryd.f4 rfl rfl rfl rfl rfl rfl rfl ⟨rfl, rfl, rfl, rfl, rfl⟩ rfl rfl rfl rfl rfl (by kernel_rfl) Tryd.func4 (by kernel_rfl)
    (of_decide_eq_true (by kernel_rfl)) (by unfold Func.isWrapper; first | (rw [if_pos (by decide +kernel)]; kernel_rfl) | (rw [if_neg (by decide +kernel)]; exact ⟨rfl, rfl⟩))
    (fun os started H enc _ => lifted os started H enc)

/-- The statement: the tied card. -/
theorem proved : Rows.ScriptPutsCardSaid :=
  Claim7.holds_tied_plain_at .later [] [.handle] true (true, "bc1a78dbcea3104d169d8e0d82dfc02b291b5f2fb7169c07abc1c0b556058b45") true
    over (fun _ h => by cases h) (by kernel_rfl) (fun _ h => by cases h) scriptPuts_row_tie rfl ⟨rfl, rfl⟩ (by kernel_rfl) rfl
    (fun f fn hf hfn => by
      obtain rfl : f = 4 := Option.some.inj ((show Tryd.prog.funcNamed "burnbag/burnbaglaw18.ScriptPuts" = some 4 by kernel_rfl).symm.trans hf) |>.symm
      obtain rfl : fn = Tryd.f4 := (Option.some.inj (Tryd.func4.symm.trans hfn)).symm
      exact ⟨by kernel_rfl, fun j t ht => by
        rw [Tryd.params4] at ht
        have h3 : t = 29 := by
          have := List.mem_of_getElem? (l := [29, 29]) (by simpa using ht)
          simpa using this
        subst h3
        exact (show Tryd.prog.wantsStandIn 29 = false by kernel_rfl)⟩)
    (by kernel_rfl)
#print axioms proved
end Go.Proofs.YtknngjdcbldmgaaDoor.lawScriptPuts
