/- Proved: the law WardenParts, for every input: it returns true, and leaves all as it was. No condition. -/
import Derived.Test.YtlnnnaefmgikpaaRows
import Derived.Test.YtlnnnaefmgikpaaWarI
import Derived.Test.YtlnnnaefmgikpaaWarOpenO
import Derived.ProofKit
import Derived.OpenShut
import Derived.ShutString
import Derived.ChangeOld
import Derived.Below
namespace Go.Proofs.Ytlnnnaefmgikpaa.lawWardenParts
set_option linter.unusedVariables false
set_option linter.unusedSimpArgs false
open Go.ChangeShapes Go.WideShapes Go.ChangeAt Go.RowKit
open Go.ChangeMaps (open_string shut_string)


theorem own : ownKnob Try.prog.godebug = none := by kernel_rfl
theorem laidOut : laidOutB Try.prog = true := by kernel_rfl

set_option maxHeartbeats 1000000 in
set_option maxRecDepth 100000 in
theorem lifted (os : Os) (started : os.Started) (H : Type) (enc : TypeId × Value → H) :
    ReturnsInHanded {} Try.checked os 3 .any (Rows.wardenPartsSpec.pre6 enc Try.prog Try.f3 Rows.wardenPartsRow.domain false) (Rows.wardenPartsSpec.post enc Try.prog Try.f3 false true false false) := by
  refine returnsInHanded_of_change (C := Try.checked) own started (by kernel_rfl) Try.func3
    (ChangeSpec.witness6 (enc := enc) (C := Try.checked) false ⟨#[], #[.slice none 0 0, .agg #[.bool false, .int .i64 0, .int .i64 0], .agg #[.int .i64 0, .int .i64 0]], []⟩ 8 (by kernel_rfl) (by kernel_rfl) (by kernel_rfl) (by kernel_rfl)) ?_
  intro W base args ds gs before hval0 hW hcnd _
  have hval : ∀ (j : Nat) t v, Try.f3.params[j]? = some t → args[j]? = some v → Value.okWide Try.prog W .any base t v := hval0
  have hW' := hW
  obtain ⟨p, q, hA0, hV, rfl, hfz, hnd⟩ := hW
  have hA : DataW.TrodAll enc Try.prog W 0 (fun _ => true) true Try.f3.params.toList args.toList ds p := hA0
  rw [Try.params3] at hA hval
  obtain ⟨v0, vs0, d0, ds0, p0, q0, hargs, rfl, rfl, h0, r0⟩ := trodAll_cons hA
  obtain ⟨v1, vs1, d1, ds1, p1, q1, rfl, rfl, rfl, h1, r1⟩ := trodAll_cons r0
  obtain ⟨v2, vs2, d2, ds2, p2, q2, rfl, rfl, rfl, h2, r2⟩ := trodAll_cons r1
  obtain ⟨rfl, rfl, rfl⟩ := trodAll_nil r2
  obtain rfl : args = #[v0, v1, v2] := by cases args; simp_all
  obtain ⟨rfl, rfl⟩ := trodVars_none hV
  have k0 := h0
  have lt0 : ∀ x ∈ p0, x.block < W.heap.size := by obtain ⟨m, hm⟩ := k0; exact DataW.trod_lt m _ _ _ hm
  obtain ⟨a0, len0, cap0, rfl⟩ := okWide_slice Try.underlying22 (hval 0 22 v0 rfl rfl)
  obtain ⟨A0, n0, c0, l0, hv0, s0, g0, m0⟩ := (trod_leaf h0 rfl).slice_ opc_len Try.underlying22 cells_op hel_op
  cases hv0
  have k1 := h1
  have lt1 : ∀ x ∈ p1, x.block < W.heap.size := by obtain ⟨m, hm⟩ := k1; exact DataW.trod_lt m _ _ _ hm
  obtain ⟨cs1, rfl, _⟩ := okWide_struct Try.underlying24 (hval 1 24 v1 rfl rfl)
  obtain ⟨mm1, hm1⟩ := h1
  have L1_0 := leaves_of (P := Try.prog) 8 24 [4, 3, 3] _ _ _ (by kernel_rfl) hm1
  obtain ⟨u1_0, rr1_0, ee1_0, ff1_0, L1_1⟩ := L1_0.cons_
  obtain ⟨x1_0, ux1_0⟩ := ff1_0.bool_ Try.underlying4
  obtain ⟨u1_1, rr1_1, ee1_1, ff1_1, L1_2⟩ := L1_1.cons_
  obtain ⟨x1_1, ux1_1, w1_1⟩ := ff1_1.int_ Try.underlying3
  obtain ⟨u1_2, rr1_2, ee1_2, ff1_2, L1_3⟩ := L1_2.cons_
  obtain ⟨x1_2, ux1_2, w1_2⟩ := ff1_2.int_ Try.underlying3
  have ez1 := L1_3.nil_
  subst ez1
  subst ee1_2
  subst ee1_1
  subst ux1_0
  subst ux1_1
  subst ux1_2
  obtain rfl : cs1 = #[.bool x1_0, .int .i64 x1_1, .int .i64 x1_2] := by cases cs1; simpa [Value.cells] using ee1_0
  have k2 := h2
  have lt2 : ∀ x ∈ p2, x.block < W.heap.size := by obtain ⟨m, hm⟩ := k2; exact DataW.trod_lt m _ _ _ hm
  obtain ⟨cs2, rfl⟩ := okWide_array Try.underlying25 (hval 2 25 v2 rfl rfl)
  obtain ⟨mm2, hm2⟩ := h2
  have L2_0 := leaves_of (P := Try.prog) 8 25 [3, 3] _ _ _ (by kernel_rfl) hm2
  obtain ⟨u2_0, rr2_0, ee2_0, ff2_0, L2_1⟩ := L2_0.cons_
  obtain ⟨x2_0, ux2_0, w2_0⟩ := ff2_0.int_ Try.underlying3
  obtain ⟨u2_1, rr2_1, ee2_1, ff2_1, L2_2⟩ := L2_1.cons_
  obtain ⟨x2_1, ux2_1, w2_1⟩ := ff2_1.int_ Try.underlying3
  have ez2 := L2_2.nil_
  subst ez2
  subst ee2_1
  subst ux2_0
  subst ux2_1
  obtain rfl : cs2 = #[.int .i64 x2_0, .int .i64 x2_1] := by cases cs2; simpa [Value.cells] using ee2_0
  clear hA0 hval0
  refine (parts_any s0 x1_0 x1_1 x1_2 x2_0 x2_1 (wf_i w2_0)).mono fun e W' ⟨he, bel⟩ => ?_
  subst he
  exact ⟨_, rfl, _, _, _, [], _, [], hW', trodAll_mk1 (shut_bool Try.underlying4 _), (trodAll_cons_mk (Below.trod laidOut (by kernel_rfl) (of_decide_eq_true (by kernel_rfl)) k0 bel lt0) (trodAll_cons_mk (Below.trod laidOut (by kernel_rfl) (of_decide_eq_true (by kernel_rfl)) k1 bel lt1) (trodAll_cons_mk (Below.trod laidOut (by kernel_rfl) (of_decide_eq_true (by kernel_rfl)) k2 bel lt2) trodAll_mk0))), rfl, bel.frame _, fun h => by cases h⟩

theorem over : Rows.wardenPartsRow.holds Try.pinned (OpenSpec.ofChange Rows.wardenPartsSpec) :=
  OpenClaim.holds_of_wide 3 Try.f3 rfl rfl rfl rfl rfl rfl rfl ⟨rfl, rfl, rfl, rfl, rfl⟩ rfl rfl rfl rfl rfl (by kernel_rfl) Try.func3 (by kernel_rfl)
    (of_decide_eq_true (by kernel_rfl)) (by unfold Func.isWrapper; first | (rw [if_pos (by decide +kernel)]; kernel_rfl) | (rw [if_neg (by decide +kernel)]; exact ⟨rfl, rfl⟩))
    (fun os started H enc _ => lifted os started H enc)

/-- The statement. -/
theorem proved : Rows.WardenPartsSaid := over
#print axioms proved
end Go.Proofs.Ytlnnnaefmgikpaa.lawWardenParts
