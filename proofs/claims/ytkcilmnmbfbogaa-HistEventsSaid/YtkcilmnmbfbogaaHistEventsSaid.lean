/- Proved: the law HistEvents, for every input: it returns true, and leaves all as it was. No condition. -/
import Derived.Test.YtkcilmnmbfbogaaRows
import Derived.Test.YtkcilmnmbfbogaaEvD
import Derived.Test.YtkcilmnmbfbogaaHistOpen
import Derived.ProofKit
import Derived.OpenShut
import Derived.ShutString
import Derived.ChangeOld
import Derived.Below
namespace Go.Proofs.Ytkcilmnmbfbogaa.lawHistEvents
set_option linter.unusedVariables false
set_option linter.unusedSimpArgs false
open Go.ChangeShapes Go.WideShapes Go.ChangeAt Go.RowKit
open Go.ChangeMaps (open_string shut_string)


theorem own : ownKnob Try.prog.godebug = none := by kernel_rfl
theorem laidOut : laidOutB Try.prog = true := by kernel_rfl

set_option maxHeartbeats 1000000 in
set_option maxRecDepth 100000 in
theorem lifted (os : Os) (started : os.Started) (H : Type) (enc : TypeId × Value → H) :
    ReturnsInHanded {} Try.checked os 4 .any (Rows.histEventsSpec.pre6 enc Try.prog Try.f4 Rows.histEventsRow.domain false) (Rows.histEventsSpec.post enc Try.prog Try.f4 false true false false) := by
  refine returnsInHanded_of_change (C := Try.checked) own started (by kernel_rfl) Try.func4
    (ChangeSpec.witness6 (enc := enc) (C := Try.checked) false ⟨#[], #[.slice none 0 0, .agg #[.int .i64 0, .int .i64 0, .int .i64 0, .int .i64 0, .int .u64 0, .int .u64 0, .int .u64 0, .int .i64 0, .int .i64 0, .int .u64 0, .int .u64 0, .int .u64 0, .int .i64 0, .int .i64 0, .int .i64 0, .int .i64 0], .agg #[.int .i64 0, .int .i64 0, .int .i64 0, .int .i64 0, .int .u64 0, .int .u64 0, .int .u64 0, .int .i64 0, .int .i64 0, .int .u64 0, .int .u64 0, .int .u64 0, .int .i64 0, .int .i64 0, .int .i64 0, .int .i64 0]], []⟩ 8 (by kernel_rfl) (by kernel_rfl) (by kernel_rfl) (by kernel_rfl)) ?_
  intro W base args ds gs before hval0 hW hcnd _
  have hval : ∀ (j : Nat) t v, Try.f4.params[j]? = some t → args[j]? = some v → Value.okWide Try.prog W .any base t v := hval0
  have hW' := hW
  obtain ⟨p, q, hA0, hV, rfl, hfz, hnd⟩ := hW
  have hA : DataW.TrodAll enc Try.prog W 0 (fun _ => true) true Try.f4.params.toList args.toList ds p := hA0
  rw [Try.params4] at hA hval
  obtain ⟨v0, vs0, d0, ds0, p0, q0, hargs, rfl, rfl, h0, r0⟩ := trodAll_cons hA
  obtain ⟨v1, vs1, d1, ds1, p1, q1, rfl, rfl, rfl, h1, r1⟩ := trodAll_cons r0
  obtain ⟨v2, vs2, d2, ds2, p2, q2, rfl, rfl, rfl, h2, r2⟩ := trodAll_cons r1
  obtain ⟨rfl, rfl, rfl⟩ := trodAll_nil r2
  obtain rfl : args = #[v0, v1, v2] := by cases args; simp_all
  obtain ⟨rfl, rfl⟩ := trodVars_none hV
  have k0 := h0
  have lt0 : ∀ x ∈ p0, x.block < W.heap.size := by obtain ⟨m, hm⟩ := k0; exact DataW.trod_lt m _ _ _ hm
  obtain ⟨a0, len0, cap0, rfl⟩ := okWide_slice Try.underlying24 (hval 0 24 v0 rfl rfl)
  obtain ⟨A0, n0, c0, l0, hv0, s0, g0, m0⟩ := (trod_leaf h0 rfl).slice_ opc_len Try.underlying24 cells_op hel_op
  cases hv0
  have k1 := h1
  have lt1 : ∀ x ∈ p1, x.block < W.heap.size := by obtain ⟨m, hm⟩ := k1; exact DataW.trod_lt m _ _ _ hm
  obtain ⟨cs1, rfl, _⟩ := okWide_struct Try.underlying39 (hval 1 39 v1 rfl rfl)
  obtain ⟨mm1, hm1⟩ := h1
  have L1_0 := leaves_of (P := Try.prog) 8 39 [3, 3, 3, 2, 30, 30, 30, 3, 35, 30, 30, 30, 3, 2, 3, 3] _ _ _ (by kernel_rfl) hm1
  obtain ⟨u1_0, rr1_0, ee1_0, ff1_0, L1_1⟩ := L1_0.cons_
  obtain ⟨x1_0, ux1_0, w1_0⟩ := ff1_0.int_ Try.underlying3
  obtain ⟨u1_1, rr1_1, ee1_1, ff1_1, L1_2⟩ := L1_1.cons_
  obtain ⟨x1_1, ux1_1, w1_1⟩ := ff1_1.int_ Try.underlying3
  obtain ⟨u1_2, rr1_2, ee1_2, ff1_2, L1_3⟩ := L1_2.cons_
  obtain ⟨x1_2, ux1_2, w1_2⟩ := ff1_2.int_ Try.underlying3
  obtain ⟨u1_3, rr1_3, ee1_3, ff1_3, L1_4⟩ := L1_3.cons_
  obtain ⟨x1_3, ux1_3, w1_3⟩ := ff1_3.int_ Try.underlying2
  obtain ⟨u1_4, rr1_4, ee1_4, ff1_4, L1_5⟩ := L1_4.cons_
  obtain ⟨x1_4, ux1_4, w1_4⟩ := ff1_4.int_ Try.underlying30
  obtain ⟨u1_5, rr1_5, ee1_5, ff1_5, L1_6⟩ := L1_5.cons_
  obtain ⟨x1_5, ux1_5, w1_5⟩ := ff1_5.int_ Try.underlying30
  obtain ⟨u1_6, rr1_6, ee1_6, ff1_6, L1_7⟩ := L1_6.cons_
  obtain ⟨x1_6, ux1_6, w1_6⟩ := ff1_6.int_ Try.underlying30
  obtain ⟨u1_7, rr1_7, ee1_7, ff1_7, L1_8⟩ := L1_7.cons_
  obtain ⟨x1_7, ux1_7, w1_7⟩ := ff1_7.int_ Try.underlying3
  obtain ⟨u1_8, rr1_8, ee1_8, ff1_8, L1_9⟩ := L1_8.cons_
  obtain ⟨x1_8, ux1_8, w1_8⟩ := ff1_8.int_ Try.underlying35
  obtain ⟨u1_9, rr1_9, ee1_9, ff1_9, L1_10⟩ := L1_9.cons_
  obtain ⟨x1_9, ux1_9, w1_9⟩ := ff1_9.int_ Try.underlying30
  obtain ⟨u1_10, rr1_10, ee1_10, ff1_10, L1_11⟩ := L1_10.cons_
  obtain ⟨x1_10, ux1_10, w1_10⟩ := ff1_10.int_ Try.underlying30
  obtain ⟨u1_11, rr1_11, ee1_11, ff1_11, L1_12⟩ := L1_11.cons_
  obtain ⟨x1_11, ux1_11, w1_11⟩ := ff1_11.int_ Try.underlying30
  obtain ⟨u1_12, rr1_12, ee1_12, ff1_12, L1_13⟩ := L1_12.cons_
  obtain ⟨x1_12, ux1_12, w1_12⟩ := ff1_12.int_ Try.underlying3
  obtain ⟨u1_13, rr1_13, ee1_13, ff1_13, L1_14⟩ := L1_13.cons_
  obtain ⟨x1_13, ux1_13, w1_13⟩ := ff1_13.int_ Try.underlying2
  obtain ⟨u1_14, rr1_14, ee1_14, ff1_14, L1_15⟩ := L1_14.cons_
  obtain ⟨x1_14, ux1_14, w1_14⟩ := ff1_14.int_ Try.underlying3
  obtain ⟨u1_15, rr1_15, ee1_15, ff1_15, L1_16⟩ := L1_15.cons_
  obtain ⟨x1_15, ux1_15, w1_15⟩ := ff1_15.int_ Try.underlying3
  have ez1 := L1_16.nil_
  subst ez1
  subst ee1_15
  subst ee1_14
  subst ee1_13
  subst ee1_12
  subst ee1_11
  subst ee1_10
  subst ee1_9
  subst ee1_8
  subst ee1_7
  subst ee1_6
  subst ee1_5
  subst ee1_4
  subst ee1_3
  subst ee1_2
  subst ee1_1
  subst ux1_0
  subst ux1_1
  subst ux1_2
  subst ux1_3
  subst ux1_4
  subst ux1_5
  subst ux1_6
  subst ux1_7
  subst ux1_8
  subst ux1_9
  subst ux1_10
  subst ux1_11
  subst ux1_12
  subst ux1_13
  subst ux1_14
  subst ux1_15
  obtain rfl : cs1 = #[.int .i64 x1_0, .int .i64 x1_1, .int .i64 x1_2, .int .i64 x1_3, .int .u64 x1_4, .int .u64 x1_5, .int .u64 x1_6, .int .i64 x1_7, .int .i64 x1_8, .int .u64 x1_9, .int .u64 x1_10, .int .u64 x1_11, .int .i64 x1_12, .int .i64 x1_13, .int .i64 x1_14, .int .i64 x1_15] := by cases cs1; simpa [Value.cells] using ee1_0
  have k2 := h2
  have lt2 : ∀ x ∈ p2, x.block < W.heap.size := by obtain ⟨m, hm⟩ := k2; exact DataW.trod_lt m _ _ _ hm
  obtain ⟨cs2, rfl, _⟩ := okWide_struct Try.underlying39 (hval 2 39 v2 rfl rfl)
  obtain ⟨mm2, hm2⟩ := h2
  have L2_0 := leaves_of (P := Try.prog) 8 39 [3, 3, 3, 2, 30, 30, 30, 3, 35, 30, 30, 30, 3, 2, 3, 3] _ _ _ (by kernel_rfl) hm2
  obtain ⟨u2_0, rr2_0, ee2_0, ff2_0, L2_1⟩ := L2_0.cons_
  obtain ⟨x2_0, ux2_0, w2_0⟩ := ff2_0.int_ Try.underlying3
  obtain ⟨u2_1, rr2_1, ee2_1, ff2_1, L2_2⟩ := L2_1.cons_
  obtain ⟨x2_1, ux2_1, w2_1⟩ := ff2_1.int_ Try.underlying3
  obtain ⟨u2_2, rr2_2, ee2_2, ff2_2, L2_3⟩ := L2_2.cons_
  obtain ⟨x2_2, ux2_2, w2_2⟩ := ff2_2.int_ Try.underlying3
  obtain ⟨u2_3, rr2_3, ee2_3, ff2_3, L2_4⟩ := L2_3.cons_
  obtain ⟨x2_3, ux2_3, w2_3⟩ := ff2_3.int_ Try.underlying2
  obtain ⟨u2_4, rr2_4, ee2_4, ff2_4, L2_5⟩ := L2_4.cons_
  obtain ⟨x2_4, ux2_4, w2_4⟩ := ff2_4.int_ Try.underlying30
  obtain ⟨u2_5, rr2_5, ee2_5, ff2_5, L2_6⟩ := L2_5.cons_
  obtain ⟨x2_5, ux2_5, w2_5⟩ := ff2_5.int_ Try.underlying30
  obtain ⟨u2_6, rr2_6, ee2_6, ff2_6, L2_7⟩ := L2_6.cons_
  obtain ⟨x2_6, ux2_6, w2_6⟩ := ff2_6.int_ Try.underlying30
  obtain ⟨u2_7, rr2_7, ee2_7, ff2_7, L2_8⟩ := L2_7.cons_
  obtain ⟨x2_7, ux2_7, w2_7⟩ := ff2_7.int_ Try.underlying3
  obtain ⟨u2_8, rr2_8, ee2_8, ff2_8, L2_9⟩ := L2_8.cons_
  obtain ⟨x2_8, ux2_8, w2_8⟩ := ff2_8.int_ Try.underlying35
  obtain ⟨u2_9, rr2_9, ee2_9, ff2_9, L2_10⟩ := L2_9.cons_
  obtain ⟨x2_9, ux2_9, w2_9⟩ := ff2_9.int_ Try.underlying30
  obtain ⟨u2_10, rr2_10, ee2_10, ff2_10, L2_11⟩ := L2_10.cons_
  obtain ⟨x2_10, ux2_10, w2_10⟩ := ff2_10.int_ Try.underlying30
  obtain ⟨u2_11, rr2_11, ee2_11, ff2_11, L2_12⟩ := L2_11.cons_
  obtain ⟨x2_11, ux2_11, w2_11⟩ := ff2_11.int_ Try.underlying30
  obtain ⟨u2_12, rr2_12, ee2_12, ff2_12, L2_13⟩ := L2_12.cons_
  obtain ⟨x2_12, ux2_12, w2_12⟩ := ff2_12.int_ Try.underlying3
  obtain ⟨u2_13, rr2_13, ee2_13, ff2_13, L2_14⟩ := L2_13.cons_
  obtain ⟨x2_13, ux2_13, w2_13⟩ := ff2_13.int_ Try.underlying2
  obtain ⟨u2_14, rr2_14, ee2_14, ff2_14, L2_15⟩ := L2_14.cons_
  obtain ⟨x2_14, ux2_14, w2_14⟩ := ff2_14.int_ Try.underlying3
  obtain ⟨u2_15, rr2_15, ee2_15, ff2_15, L2_16⟩ := L2_15.cons_
  obtain ⟨x2_15, ux2_15, w2_15⟩ := ff2_15.int_ Try.underlying3
  have ez2 := L2_16.nil_
  subst ez2
  subst ee2_15
  subst ee2_14
  subst ee2_13
  subst ee2_12
  subst ee2_11
  subst ee2_10
  subst ee2_9
  subst ee2_8
  subst ee2_7
  subst ee2_6
  subst ee2_5
  subst ee2_4
  subst ee2_3
  subst ee2_2
  subst ee2_1
  subst ux2_0
  subst ux2_1
  subst ux2_2
  subst ux2_3
  subst ux2_4
  subst ux2_5
  subst ux2_6
  subst ux2_7
  subst ux2_8
  subst ux2_9
  subst ux2_10
  subst ux2_11
  subst ux2_12
  subst ux2_13
  subst ux2_14
  subst ux2_15
  obtain rfl : cs2 = #[.int .i64 x2_0, .int .i64 x2_1, .int .i64 x2_2, .int .i64 x2_3, .int .u64 x2_4, .int .u64 x2_5, .int .u64 x2_6, .int .i64 x2_7, .int .i64 x2_8, .int .u64 x2_9, .int .u64 x2_10, .int .u64 x2_11, .int .i64 x2_12, .int .i64 x2_13, .int .i64 x2_14, .int .i64 x2_15] := by cases cs2; simpa [Value.cells] using ee2_0
  clear hA0 hval0
  refine (histevents_any s0 ⟨x1_0, ⟨x1_1, x1_2, x1_3, x1_4, x1_5, x1_6, x1_7⟩, ⟨x1_8, x1_9, x1_10, x1_11, x1_12, x1_13⟩, x1_14, x1_15⟩ ⟨x2_0, ⟨x2_1, x2_2, x2_3, x2_4, x2_5, x2_6, x2_7⟩, ⟨x2_8, x2_9, x2_10, x2_11, x2_12, x2_13⟩, x2_14, x2_15⟩).mono fun e W' ⟨he, bel⟩ => ?_
  subst he
  exact ⟨_, rfl, _, _, _, [], _, [], hW', trodAll_mk1 (shut_bool Try.underlying4 _), (trodAll_cons_mk (Below.trod laidOut (by kernel_rfl) (of_decide_eq_true (by kernel_rfl)) k0 bel lt0) (trodAll_cons_mk (Below.trod laidOut (by kernel_rfl) (of_decide_eq_true (by kernel_rfl)) k1 bel lt1) (trodAll_cons_mk (Below.trod laidOut (by kernel_rfl) (of_decide_eq_true (by kernel_rfl)) k2 bel lt2) trodAll_mk0))), rfl, bel.frame _, fun h => by cases h⟩

theorem over : Rows.histEventsRow.holds Try.pinned (OpenSpec.ofChange Rows.histEventsSpec) :=
  OpenClaim.holds_of_wide 4 Try.f4 rfl rfl rfl rfl rfl rfl rfl ⟨rfl, rfl, rfl, rfl, rfl⟩ rfl rfl rfl rfl rfl (by kernel_rfl) Try.func4 (by kernel_rfl)
    (of_decide_eq_true (by kernel_rfl)) (by unfold Func.isWrapper; first | (rw [if_pos (by decide +kernel)]; kernel_rfl) | (rw [if_neg (by decide +kernel)]; exact ⟨rfl, rfl⟩))
    (fun os started H enc _ => lifted os started H enc)

/-- The statement. -/
theorem proved : Rows.HistEventsSaid := over
#print axioms proved
end Go.Proofs.Ytkcilmnmbfbogaa.lawHistEvents
