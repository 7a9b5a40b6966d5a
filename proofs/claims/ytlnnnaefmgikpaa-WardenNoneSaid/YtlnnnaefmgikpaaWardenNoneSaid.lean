/- Proved: the law WardenNone, for every input: it returns true, and leaves all as it was. No condition. -/
import Derived.Test.YtlnnnaefmgikpaaRows
import Derived.Test.YtlnnnaefmgikpaaWarG
import Derived.Test.YtlnnnaefmgikpaaWarOpen
import Derived.ProofKit
import Derived.OpenShut
import Derived.ShutString
import Derived.ChangeOld
import Derived.Below
namespace Go.Proofs.Ytlnnnaefmgikpaa.lawWardenNone
set_option linter.unusedVariables false
set_option linter.unusedSimpArgs false
open Go.ChangeShapes Go.WideShapes Go.ChangeAt Go.RowKit
open Go.ChangeMaps (open_string shut_string)


theorem own : ownKnob Try.prog.godebug = none := by kernel_rfl
theorem laidOut : laidOutB Try.prog = true := by kernel_rfl

set_option maxHeartbeats 1000000 in
set_option maxRecDepth 100000 in
theorem lifted (os : Os) (started : os.Started) (H : Type) (enc : TypeId × Value → H) :
    ReturnsInHanded {} Try.checked os 5 .any (Rows.wardenNoneSpec.pre6 enc Try.prog Try.f5 Rows.wardenNoneRow.domain false) (Rows.wardenNoneSpec.post enc Try.prog Try.f5 false true false false) := by
  refine returnsInHanded_of_change (C := Try.checked) own started (by kernel_rfl) Try.func5
    (ChangeSpec.witness6 (enc := enc) (C := Try.checked) false ⟨#[], #[.agg #[.bool false, .int .i64 0, .int .i64 0], .int .u64 0], []⟩ 8 (by kernel_rfl) (by kernel_rfl) (by kernel_rfl) (by kernel_rfl)) ?_
  intro W base args ds gs before hval0 hW hcnd _
  have hval : ∀ (j : Nat) t v, Try.f5.params[j]? = some t → args[j]? = some v → Value.okWide Try.prog W .any base t v := hval0
  have hW' := hW
  obtain ⟨p, q, hA0, hV, rfl, hfz, hnd⟩ := hW
  have hA : DataW.TrodAll enc Try.prog W 0 (fun _ => true) true Try.f5.params.toList args.toList ds p := hA0
  rw [Try.params5] at hA hval
  obtain ⟨v0, vs0, d0, ds0, p0, q0, hargs, rfl, rfl, h0, r0⟩ := trodAll_cons hA
  obtain ⟨v1, vs1, d1, ds1, p1, q1, rfl, rfl, rfl, h1, r1⟩ := trodAll_cons r0
  obtain ⟨rfl, rfl, rfl⟩ := trodAll_nil r1
  obtain rfl : args = #[v0, v1] := by cases args; simp_all
  obtain ⟨rfl, rfl⟩ := trodVars_none hV
  have k0 := h0
  have lt0 : ∀ x ∈ p0, x.block < W.heap.size := by obtain ⟨m, hm⟩ := k0; exact DataW.trod_lt m _ _ _ hm
  obtain ⟨cs0, rfl, _⟩ := okWide_struct Try.underlying24 (hval 0 24 v0 rfl rfl)
  obtain ⟨mm0, hm0⟩ := h0
  have L0_0 := leaves_of (P := Try.prog) 8 24 [4, 3, 3] _ _ _ (by kernel_rfl) hm0
  obtain ⟨u0_0, rr0_0, ee0_0, ff0_0, L0_1⟩ := L0_0.cons_
  obtain ⟨x0_0, ux0_0⟩ := ff0_0.bool_ Try.underlying4
  obtain ⟨u0_1, rr0_1, ee0_1, ff0_1, L0_2⟩ := L0_1.cons_
  obtain ⟨x0_1, ux0_1, w0_1⟩ := ff0_1.int_ Try.underlying3
  obtain ⟨u0_2, rr0_2, ee0_2, ff0_2, L0_3⟩ := L0_2.cons_
  obtain ⟨x0_2, ux0_2, w0_2⟩ := ff0_2.int_ Try.underlying3
  have ez0 := L0_3.nil_
  subst ez0
  subst ee0_2
  subst ee0_1
  subst ux0_0
  subst ux0_1
  subst ux0_2
  obtain rfl : cs0 = #[.bool x0_0, .int .i64 x0_1, .int .i64 x0_2] := by cases cs0; simpa [Value.cells] using ee0_0
  have k1 := h1
  have lt1 : ∀ x ∈ p1, x.block < W.heap.size := by obtain ⟨m, hm⟩ := k1; exact DataW.trod_lt m _ _ _ hm
  obtain ⟨x1, rfl, rfl, rfl, w1⟩ := open_int Try.underlying30 (hval 1 30 v1 rfl rfl) h1
  clear hA0 hval0
  refine (wardennone_any x0_0 x0_1 x0_2 x1 (wf_i w0_1) (wf_u w1) _).mono fun e W' ⟨he, bel⟩ => ?_
  subst he
  exact ⟨_, rfl, _, _, _, [], _, [], hW', trodAll_mk1 (shut_bool Try.underlying4 _), (trodAll_cons_mk (Below.trod laidOut (by kernel_rfl) (of_decide_eq_true (by kernel_rfl)) k0 bel lt0) (trodAll_cons_mk (Below.trod laidOut (by kernel_rfl) (of_decide_eq_true (by kernel_rfl)) k1 bel lt1) trodAll_mk0)), rfl, bel.frame _, fun h => by cases h⟩

theorem over : Rows.wardenNoneRow.holds Try.pinned (OpenSpec.ofChange Rows.wardenNoneSpec) :=
  OpenClaim.holds_of_wide 5 Try.f5 rfl rfl rfl rfl rfl rfl rfl ⟨rfl, rfl, rfl, rfl, rfl⟩ rfl rfl rfl rfl rfl (by kernel_rfl) Try.func5 (by kernel_rfl)
    (of_decide_eq_true (by kernel_rfl)) (by unfold Func.isWrapper; first | (rw [if_pos (by decide +kernel)]; kernel_rfl) | (rw [if_neg (by decide +kernel)]; exact ⟨rfl, rfl⟩))
    (fun os started H enc _ => lifted os started H enc)

/-- The statement. -/
theorem proved : Rows.WardenNoneSaid := over
#print axioms proved
end Go.Proofs.Ytlnnnaefmgikpaa.lawWardenNone
