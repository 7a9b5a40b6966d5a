/- Proved: the law PlanPlaces, for every input: it returns true, and leaves all as it was. No condition. -/
import Derived.Test.YtpnhpiniflcciaaRows
import Derived.Test.YtpnhpiniflcciaaPlanJ
import Derived.Test.YtpnhpiniflcciaaPlanM
import Derived.Test.YtpnhpiniflcciaaOpen
import Derived.ProofKit
import Derived.OpenShut
import Derived.ShutString
import Derived.ChangeOld
import Derived.Below
namespace Go.Proofs.Ytpnhpiniflcciaa.lawPlanPlaces
set_option linter.unusedVariables false
set_option linter.unusedSimpArgs false
open Go.ChangeShapes Go.WideShapes Go.ChangeAt Go.RowKit
open Go.ChangeMaps (open_string shut_string)

theorem wf_le {n : Int} (h : (Lit.int .i64 n).wf = true) : n ≤ 9223372036854775807 := by
  have h1 : IntKind.i64.min = -9223372036854775808 := by decide
  have h2 : IntKind.i64.max = 9223372036854775807 := by decide
  simp [Lit.wf, h1, h2] at h
  omega

theorem own : ownKnob Try.prog.godebug = none := by kernel_rfl
theorem laidOut : laidOutB Try.prog = true := by kernel_rfl

set_option maxHeartbeats 1000000 in
set_option maxRecDepth 100000 in
theorem lifted (os : Os) (started : os.Started) (H : Type) (enc : TypeId × Value → H) :
    ReturnsInHanded {} Try.checked os 12 .any (Rows.planPlacesSpec.pre6 enc Try.prog Try.f12 Rows.planPlacesRow.domain false) (Rows.planPlacesSpec.post enc Try.prog Try.f12 false true false false) := by
  refine returnsInHanded_of_change (C := Try.checked) own started (by kernel_rfl) Try.func12
    (ChangeSpec.witness6 (enc := enc) (C := Try.checked) false ⟨#[], #[.agg #[.int .i64 0, .int .i64 0, .int .i64 0, .int .i64 0, .int .i64 0, .int .i64 0, .int .i64 0, .int .i64 0, .int .i64 0, .int .i64 0, .int .i64 0, .int .i64 0, .int .i64 0, .int .i64 0], .agg #[.int .i64 0, .int .i64 0, .int .i64 0, .int .i64 0], .int .i64 0], []⟩ 8 (by kernel_rfl) (by kernel_rfl) (by kernel_rfl) (by kernel_rfl)) ?_
  intro W base args ds gs before hval0 hW hcnd _
  have hval : ∀ (j : Nat) t v, Try.f12.params[j]? = some t → args[j]? = some v → Value.okWide Try.prog W .any base t v := hval0
  have hW' := hW
  obtain ⟨p, q, hA0, hV, rfl, hfz, hnd⟩ := hW
  have hA : DataW.TrodAll enc Try.prog W 0 (fun _ => true) true Try.f12.params.toList args.toList ds p := hA0
  rw [Try.params12] at hA hval
  obtain ⟨v0, vs0, d0, ds0, p0, q0, hargs, rfl, rfl, h0, r0⟩ := trodAll_cons hA
  obtain ⟨v1, vs1, d1, ds1, p1, q1, rfl, rfl, rfl, h1, r1⟩ := trodAll_cons r0
  obtain ⟨v2, vs2, d2, ds2, p2, q2, rfl, rfl, rfl, h2, r2⟩ := trodAll_cons r1
  obtain ⟨rfl, rfl, rfl⟩ := trodAll_nil r2
  obtain rfl : args = #[v0, v1, v2] := by cases args; simp_all
  obtain ⟨rfl, rfl⟩ := trodVars_none hV
  have k0 := h0
  have lt0 : ∀ x ∈ p0, x.block < W.heap.size := by obtain ⟨m, hm⟩ := k0; exact DataW.trod_lt m _ _ _ hm
  obtain ⟨cs0, rfl, _⟩ := okWide_struct Try.underlying45 (hval 0 45 v0 rfl rfl)
  obtain ⟨mm0, hm0⟩ := h0
  have L0_0 := leaves_of (P := Try.prog) 8 45 [3, 3, 3, 3, 3, 3, 3, 3, 3, 3, 3, 3, 3, 3] _ _ _ (by kernel_rfl) hm0
  obtain ⟨u0_0, rr0_0, ee0_0, ff0_0, L0_1⟩ := L0_0.cons_
  obtain ⟨x0_0, ux0_0, w0_0⟩ := ff0_0.int_ Try.underlying3
  obtain ⟨u0_1, rr0_1, ee0_1, ff0_1, L0_2⟩ := L0_1.cons_
  obtain ⟨x0_1, ux0_1, w0_1⟩ := ff0_1.int_ Try.underlying3
  obtain ⟨u0_2, rr0_2, ee0_2, ff0_2, L0_3⟩ := L0_2.cons_
  obtain ⟨x0_2, ux0_2, w0_2⟩ := ff0_2.int_ Try.underlying3
  obtain ⟨u0_3, rr0_3, ee0_3, ff0_3, L0_4⟩ := L0_3.cons_
  obtain ⟨x0_3, ux0_3, w0_3⟩ := ff0_3.int_ Try.underlying3
  obtain ⟨u0_4, rr0_4, ee0_4, ff0_4, L0_5⟩ := L0_4.cons_
  obtain ⟨x0_4, ux0_4, w0_4⟩ := ff0_4.int_ Try.underlying3
  obtain ⟨u0_5, rr0_5, ee0_5, ff0_5, L0_6⟩ := L0_5.cons_
  obtain ⟨x0_5, ux0_5, w0_5⟩ := ff0_5.int_ Try.underlying3
  obtain ⟨u0_6, rr0_6, ee0_6, ff0_6, L0_7⟩ := L0_6.cons_
  obtain ⟨x0_6, ux0_6, w0_6⟩ := ff0_6.int_ Try.underlying3
  obtain ⟨u0_7, rr0_7, ee0_7, ff0_7, L0_8⟩ := L0_7.cons_
  obtain ⟨x0_7, ux0_7, w0_7⟩ := ff0_7.int_ Try.underlying3
  obtain ⟨u0_8, rr0_8, ee0_8, ff0_8, L0_9⟩ := L0_8.cons_
  obtain ⟨x0_8, ux0_8, w0_8⟩ := ff0_8.int_ Try.underlying3
  obtain ⟨u0_9, rr0_9, ee0_9, ff0_9, L0_10⟩ := L0_9.cons_
  obtain ⟨x0_9, ux0_9, w0_9⟩ := ff0_9.int_ Try.underlying3
  obtain ⟨u0_10, rr0_10, ee0_10, ff0_10, L0_11⟩ := L0_10.cons_
  obtain ⟨x0_10, ux0_10, w0_10⟩ := ff0_10.int_ Try.underlying3
  obtain ⟨u0_11, rr0_11, ee0_11, ff0_11, L0_12⟩ := L0_11.cons_
  obtain ⟨x0_11, ux0_11, w0_11⟩ := ff0_11.int_ Try.underlying3
  obtain ⟨u0_12, rr0_12, ee0_12, ff0_12, L0_13⟩ := L0_12.cons_
  obtain ⟨x0_12, ux0_12, w0_12⟩ := ff0_12.int_ Try.underlying3
  obtain ⟨u0_13, rr0_13, ee0_13, ff0_13, L0_14⟩ := L0_13.cons_
  obtain ⟨x0_13, ux0_13, w0_13⟩ := ff0_13.int_ Try.underlying3
  have ez0 := L0_14.nil_
  subst ez0
  subst ee0_13
  subst ee0_12
  subst ee0_11
  subst ee0_10
  subst ee0_9
  subst ee0_8
  subst ee0_7
  subst ee0_6
  subst ee0_5
  subst ee0_4
  subst ee0_3
  subst ee0_2
  subst ee0_1
  subst ux0_0
  subst ux0_1
  subst ux0_2
  subst ux0_3
  subst ux0_4
  subst ux0_5
  subst ux0_6
  subst ux0_7
  subst ux0_8
  subst ux0_9
  subst ux0_10
  subst ux0_11
  subst ux0_12
  subst ux0_13
  obtain rfl : cs0 = #[.int .i64 x0_0, .int .i64 x0_1, .int .i64 x0_2, .int .i64 x0_3, .int .i64 x0_4, .int .i64 x0_5, .int .i64 x0_6, .int .i64 x0_7, .int .i64 x0_8, .int .i64 x0_9, .int .i64 x0_10, .int .i64 x0_11, .int .i64 x0_12, .int .i64 x0_13] := by cases cs0; simpa [Value.cells] using ee0_0
  have k1 := h1
  have lt1 : ∀ x ∈ p1, x.block < W.heap.size := by obtain ⟨m, hm⟩ := k1; exact DataW.trod_lt m _ _ _ hm
  obtain ⟨cs1, rfl, _⟩ := okWide_struct Try.underlying63 (hval 1 63 v1 rfl rfl)
  obtain ⟨mm1, hm1⟩ := h1
  have L1_0 := leaves_of (P := Try.prog) 8 63 [3, 3, 3, 3] _ _ _ (by kernel_rfl) hm1
  obtain ⟨u1_0, rr1_0, ee1_0, ff1_0, L1_1⟩ := L1_0.cons_
  obtain ⟨x1_0, ux1_0, w1_0⟩ := ff1_0.int_ Try.underlying3
  obtain ⟨u1_1, rr1_1, ee1_1, ff1_1, L1_2⟩ := L1_1.cons_
  obtain ⟨x1_1, ux1_1, w1_1⟩ := ff1_1.int_ Try.underlying3
  obtain ⟨u1_2, rr1_2, ee1_2, ff1_2, L1_3⟩ := L1_2.cons_
  obtain ⟨x1_2, ux1_2, w1_2⟩ := ff1_2.int_ Try.underlying3
  obtain ⟨u1_3, rr1_3, ee1_3, ff1_3, L1_4⟩ := L1_3.cons_
  obtain ⟨x1_3, ux1_3, w1_3⟩ := ff1_3.int_ Try.underlying3
  have ez1 := L1_4.nil_
  subst ez1
  subst ee1_3
  subst ee1_2
  subst ee1_1
  subst ux1_0
  subst ux1_1
  subst ux1_2
  subst ux1_3
  obtain rfl : cs1 = #[.int .i64 x1_0, .int .i64 x1_1, .int .i64 x1_2, .int .i64 x1_3] := by cases cs1; simpa [Value.cells] using ee1_0
  have k2 := h2
  have lt2 : ∀ x ∈ p2, x.block < W.heap.size := by obtain ⟨m, hm⟩ := k2; exact DataW.trod_lt m _ _ _ hm
  obtain ⟨x2, rfl, rfl, rfl, w2⟩ := open_int Try.underlying3 (hval 2 3 v2 rfl rfl) h2
  clear hA0 hval0
  refine (planplaces_any ⟨x0_0, x0_1, x0_2, x0_3, x0_4, x0_5, x0_6, x0_7, x0_8, x0_9, x0_10, x0_11, x0_12, x0_13⟩ (fun hm w => all_any _ hm w) ⟨x1_0, x1_1, x1_2, x1_3⟩ x2 (wf_le w1_2) W).mono fun e W' ⟨he, bel⟩ => ?_
  subst he
  exact ⟨_, rfl, _, _, _, [], _, [], hW', trodAll_mk1 (shut_bool Try.underlying4 _), (trodAll_cons_mk (Below.trod laidOut (by kernel_rfl) (of_decide_eq_true (by kernel_rfl)) k0 bel lt0) (trodAll_cons_mk (Below.trod laidOut (by kernel_rfl) (of_decide_eq_true (by kernel_rfl)) k1 bel lt1) (trodAll_cons_mk (Below.trod laidOut (by kernel_rfl) (of_decide_eq_true (by kernel_rfl)) k2 bel lt2) trodAll_mk0))), rfl, bel.frame _, fun h => by cases h⟩

theorem over : Rows.planPlacesRow.holds Try.pinned (OpenSpec.ofChange Rows.planPlacesSpec) :=
  OpenClaim.holds_of_wide 12 Try.f12 rfl rfl rfl rfl rfl rfl rfl ⟨rfl, rfl, rfl, rfl, rfl⟩ rfl rfl rfl rfl rfl (by kernel_rfl) Try.func12 (by kernel_rfl)
    (of_decide_eq_true (by kernel_rfl)) (by unfold Func.isWrapper; first | (rw [if_pos (by decide +kernel)]; kernel_rfl) | (rw [if_neg (by decide +kernel)]; exact ⟨rfl, rfl⟩))
    (fun os started H enc _ => lifted os started H enc)

/-- The statement. -/
theorem proved : Rows.PlanPlacesSaid := over
#print axioms proved
end Go.Proofs.Ytpnhpiniflcciaa.lawPlanPlaces
