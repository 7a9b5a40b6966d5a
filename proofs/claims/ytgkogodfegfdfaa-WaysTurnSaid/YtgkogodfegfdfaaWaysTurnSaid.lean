/- Proved: the law WaysTurn, for every input: it returns true, and leaves all as it was. No condition. -/
import Derived.Test.YtgkogodfegfdfaaRows
import Derived.Test.YtgkogodfegfdfaaWaysK
import Derived.Test.YtgkogodfegfdfaaOpen
import Derived.ProofKit
import Derived.OpenShut
import Derived.ShutString
import Derived.ChangeOld
import Derived.Below
namespace Go.Proofs.Ytgkogodfegfdfaa.lawWaysTurn
set_option linter.unusedVariables false
set_option linter.unusedSimpArgs false
open Go.ChangeShapes Go.WideShapes Go.ChangeAt Go.RowKit
open Go.ChangeMaps (open_string shut_string)


theorem own : ownKnob Try.prog.godebug = none := by kernel_rfl
theorem laidOut : laidOutB Try.prog = true := by kernel_rfl

set_option maxHeartbeats 1000000 in
set_option maxRecDepth 100000 in
theorem lifted (os : Os) (started : os.Started) (H : Type) (enc : TypeId × Value → H) :
    ReturnsInHanded {} Try.checked os 3 .any (Rows.waysTurnSpec.pre6 enc Try.prog Try.f3 Rows.waysTurnRow.domain false) (Rows.waysTurnSpec.post enc Try.prog Try.f3 false true false false) := by
  refine returnsInHanded_of_change (C := Try.checked) own started (by kernel_rfl) Try.func3
    (ChangeSpec.witness6 (enc := enc) (C := Try.checked) false ⟨#[], #[.agg #[.int .i64 0, .bool false, .int .i64 0, .bool false, .int .i64 0, .bool false, .int .i64 0, .bool false, .int .i64 0, .int .u64 0], .int .i64 0, .int .i64 0], []⟩ 8 (by kernel_rfl) (by kernel_rfl) (by kernel_rfl) (by kernel_rfl)) ?_
  intro W base args ds gs before hval0 hW hcnd _
  have hval : ∀ (j : Nat) t v, Try.f3.params[j]? = some t → args[j]? = some v → Value.okWide Try.prog W .any base t v := hval0
  have hW' := hW
  obtain ⟨p, q, hA0, hV, rfl, hfz, hnd⟩ := hW
  have hA : DataW.TrodAll enc Try.prog W 0 (fun _ => true) true Try.f3.params.toList args.toList ds p := hA0
  rw [Try.params3] at hA hval
  obtain ⟨v0, vs0, d0, ds0, p0, q0, hargs, rfl, rfl, h0, r0⟩ := trodAll_cons hA
  obtain ⟨v1, vs1, d1, ds1, p1, q1, rfl, rfl, rfl, h1, r1⟩ := trodAll_cons r0
  obtain ⟨v2, vs2, d2, ds2, p2, q2, rfl, rfl, rfl, h2, r2⟩ := trodAll_cons r1
  obtain ⟨rfl, rfl, rfl⟩ := trodAll_nil r2
  obtain rfl : args = #[v0, v1, v2] := by cases args; simp_all
  obtain ⟨rfl, rfl⟩ := trodVars_none hV
  have k0 := h0
  have lt0 : ∀ x ∈ p0, x.block < W.heap.size := by obtain ⟨m, hm⟩ := k0; exact DataW.trod_lt m _ _ _ hm
  obtain ⟨cs0, rfl, _⟩ := okWide_struct Try.underlying27 (hval 0 27 v0 rfl rfl)
  obtain ⟨mm0, hm0⟩ := h0
  have L0_0 := leaves_of (P := Try.prog) 8 27 [3, 4, 3, 4, 3, 4, 3, 4, 3, 25] _ _ _ (by kernel_rfl) hm0
  obtain ⟨u0_0, rr0_0, ee0_0, ff0_0, L0_1⟩ := L0_0.cons_
  obtain ⟨x0_0, ux0_0, w0_0⟩ := ff0_0.int_ Try.underlying3
  obtain ⟨u0_1, rr0_1, ee0_1, ff0_1, L0_2⟩ := L0_1.cons_
  obtain ⟨x0_1, ux0_1⟩ := ff0_1.bool_ Try.underlying4
  obtain ⟨u0_2, rr0_2, ee0_2, ff0_2, L0_3⟩ := L0_2.cons_
  obtain ⟨x0_2, ux0_2, w0_2⟩ := ff0_2.int_ Try.underlying3
  obtain ⟨u0_3, rr0_3, ee0_3, ff0_3, L0_4⟩ := L0_3.cons_
  obtain ⟨x0_3, ux0_3⟩ := ff0_3.bool_ Try.underlying4
  obtain ⟨u0_4, rr0_4, ee0_4, ff0_4, L0_5⟩ := L0_4.cons_
  obtain ⟨x0_4, ux0_4, w0_4⟩ := ff0_4.int_ Try.underlying3
  obtain ⟨u0_5, rr0_5, ee0_5, ff0_5, L0_6⟩ := L0_5.cons_
  obtain ⟨x0_5, ux0_5⟩ := ff0_5.bool_ Try.underlying4
  obtain ⟨u0_6, rr0_6, ee0_6, ff0_6, L0_7⟩ := L0_6.cons_
  obtain ⟨x0_6, ux0_6, w0_6⟩ := ff0_6.int_ Try.underlying3
  obtain ⟨u0_7, rr0_7, ee0_7, ff0_7, L0_8⟩ := L0_7.cons_
  obtain ⟨x0_7, ux0_7⟩ := ff0_7.bool_ Try.underlying4
  obtain ⟨u0_8, rr0_8, ee0_8, ff0_8, L0_9⟩ := L0_8.cons_
  obtain ⟨x0_8, ux0_8, w0_8⟩ := ff0_8.int_ Try.underlying3
  obtain ⟨u0_9, rr0_9, ee0_9, ff0_9, L0_10⟩ := L0_9.cons_
  obtain ⟨x0_9, ux0_9, w0_9⟩ := ff0_9.int_ Try.underlying25
  have ez0 := L0_10.nil_
  subst ez0
  subst ee0_9
  subst ee0_8
  subst ee0_7
  subst ee0_6
  subst ee0_5
  subst ee0_4
  subst ee0_3
  subst ee0_2
  subst ee0_1
  subst ux0_0
  subst ux0_1
  subst ux0_2
  subst ux0_3
  subst ux0_4
  subst ux0_5
  subst ux0_6
  subst ux0_7
  subst ux0_8
  subst ux0_9
  obtain rfl : cs0 = #[.int .i64 x0_0, .bool x0_1, .int .i64 x0_2, .bool x0_3, .int .i64 x0_4, .bool x0_5, .int .i64 x0_6, .bool x0_7, .int .i64 x0_8, .int .u64 x0_9] := by cases cs0; simpa [Value.cells] using ee0_0
  have k1 := h1
  have lt1 : ∀ x ∈ p1, x.block < W.heap.size := by obtain ⟨m, hm⟩ := k1; exact DataW.trod_lt m _ _ _ hm
  obtain ⟨x1, rfl, rfl, rfl, w1⟩ := open_int Try.underlying3 (hval 1 3 v1 rfl rfl) h1
  have k2 := h2
  have lt2 : ∀ x ∈ p2, x.block < W.heap.size := by obtain ⟨m, hm⟩ := k2; exact DataW.trod_lt m _ _ _ hm
  obtain ⟨x2, rfl, rfl, rfl, w2⟩ := open_int Try.underlying3 (hval 2 3 v2 rfl rfl) h2
  clear hA0 hval0
  refine (waysturn_any ⟨x0_0, x0_2, x0_4, x0_6, x0_1, x0_3, x0_5, x0_7, x0_8, x0_9⟩ x1 x2 W).mono fun e W' ⟨he, bel⟩ => ?_
  subst he
  exact ⟨_, rfl, _, _, _, [], _, [], hW', trodAll_mk1 (shut_bool Try.underlying4 _), (trodAll_cons_mk (Below.trod laidOut (by kernel_rfl) (of_decide_eq_true (by kernel_rfl)) k0 bel lt0) (trodAll_cons_mk (Below.trod laidOut (by kernel_rfl) (of_decide_eq_true (by kernel_rfl)) k1 bel lt1) (trodAll_cons_mk (Below.trod laidOut (by kernel_rfl) (of_decide_eq_true (by kernel_rfl)) k2 bel lt2) trodAll_mk0))), rfl, bel.frame _, fun h => by cases h⟩

theorem over : Rows.waysTurnRow.holds Try.pinned (OpenSpec.ofChange Rows.waysTurnSpec) :=
  OpenClaim.holds_of_wide 3 Try.f3 rfl rfl rfl rfl rfl rfl rfl ⟨rfl, rfl, rfl, rfl, rfl⟩ rfl rfl rfl rfl rfl (by kernel_rfl) Try.func3 (by kernel_rfl)
    (of_decide_eq_true (by kernel_rfl)) (by unfold Func.isWrapper; first | (rw [if_pos (by decide +kernel)]; kernel_rfl) | (rw [if_neg (by decide +kernel)]; exact ⟨rfl, rfl⟩))
    (fun os started H enc _ => lifted os started H enc)

/-- The statement. -/
theorem proved : Rows.WaysTurnSaid := over
#print axioms proved
end Go.Proofs.Ytgkogodfegfdfaa.lawWaysTurn
