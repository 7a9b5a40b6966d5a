/- Proved: the law CellsNew, for every input: it returns true, and leaves all as it was. No condition. -/
import Derived.Test.YtkfdikbmcleaoaaRows
import Derived.Test.YtkfdikbmcleaoaaCellsG
import Derived.Test.YtkfdikbmcleaoaaCellsOpen
import Derived.ProofKit
import Derived.OpenShut
import Derived.ShutString
import Derived.ChangeOld
import Derived.Below
namespace Go.Proofs.Ytkfdikbmcleaoaa.lawCellsNew
set_option linter.unusedVariables false
set_option linter.unusedSimpArgs false
open Go.ChangeShapes Go.WideShapes Go.ChangeAt Go.RowKit
open Go.ChangeMaps (open_string shut_string)


theorem own : ownKnob Try.prog.godebug = none := by kernel_rfl
theorem laidOut : laidOutB Try.prog = true := by kernel_rfl

set_option maxHeartbeats 1000000 in
set_option maxRecDepth 100000 in
theorem lifted (os : Os) (started : os.Started) (H : Type) (enc : TypeId × Value → H) :
    ReturnsInHanded {} Try.checked os 4 .any (Rows.cellsNewSpec.pre6 enc Try.prog Try.f4 Rows.cellsNewRow.domain false) (Rows.cellsNewSpec.post enc Try.prog Try.f4 false true false false) := by
  refine returnsInHanded_of_change (C := Try.checked) own started (by kernel_rfl) Try.func4
    (ChangeSpec.witness6 (enc := enc) (C := Try.checked) false ⟨#[], #[.int .i64 0, .agg #[.int .i64 0, .int .i64 0, .int .u64 0, .int .u64 0]], []⟩ 8 (by kernel_rfl) (by kernel_rfl) (by kernel_rfl) (by kernel_rfl)) ?_
  intro W base args ds gs before hval0 hW hcnd _
  have hval : ∀ (j : Nat) t v, Try.f4.params[j]? = some t → args[j]? = some v → Value.okWide Try.prog W .any base t v := hval0
  have hW' := hW
  obtain ⟨p, q, hA0, hV, rfl, hfz, hnd⟩ := hW
  have hA : DataW.TrodAll enc Try.prog W 0 (fun _ => true) true Try.f4.params.toList args.toList ds p := hA0
  rw [Try.params4] at hA hval
  obtain ⟨v0, vs0, d0, ds0, p0, q0, hargs, rfl, rfl, h0, r0⟩ := trodAll_cons hA
  obtain ⟨v1, vs1, d1, ds1, p1, q1, rfl, rfl, rfl, h1, r1⟩ := trodAll_cons r0
  obtain ⟨rfl, rfl, rfl⟩ := trodAll_nil r1
  obtain rfl : args = #[v0, v1] := by cases args; simp_all
  obtain ⟨rfl, rfl⟩ := trodVars_none hV
  have k0 := h0
  have lt0 : ∀ x ∈ p0, x.block < W.heap.size := by obtain ⟨m, hm⟩ := k0; exact DataW.trod_lt m _ _ _ hm
  obtain ⟨x0, rfl, rfl, rfl, w0⟩ := open_int Try.underlying3 (hval 0 3 v0 rfl rfl) h0
  have k1 := h1
  have lt1 : ∀ x ∈ p1, x.block < W.heap.size := by obtain ⟨m, hm⟩ := k1; exact DataW.trod_lt m _ _ _ hm
  obtain ⟨cs1, rfl, _⟩ := okWide_struct Try.underlying34 (hval 1 34 v1 rfl rfl)
  obtain ⟨mm1, hm1⟩ := h1
  have L1_0 := leaves_of (P := Try.prog) 8 34 [3, 3, 24, 24] _ _ _ (by kernel_rfl) hm1
  obtain ⟨u1_0, rr1_0, ee1_0, ff1_0, L1_1⟩ := L1_0.cons_
  obtain ⟨x1_0, ux1_0, w1_0⟩ := ff1_0.int_ Try.underlying3
  obtain ⟨u1_1, rr1_1, ee1_1, ff1_1, L1_2⟩ := L1_1.cons_
  obtain ⟨x1_1, ux1_1, w1_1⟩ := ff1_1.int_ Try.underlying3
  obtain ⟨u1_2, rr1_2, ee1_2, ff1_2, L1_3⟩ := L1_2.cons_
  obtain ⟨x1_2, ux1_2, w1_2⟩ := ff1_2.int_ Try.underlying24
  obtain ⟨u1_3, rr1_3, ee1_3, ff1_3, L1_4⟩ := L1_3.cons_
  obtain ⟨x1_3, ux1_3, w1_3⟩ := ff1_3.int_ Try.underlying24
  have ez1 := L1_4.nil_
  subst ez1
  subst ee1_3
  subst ee1_2
  subst ee1_1
  subst ux1_0
  subst ux1_1
  subst ux1_2
  subst ux1_3
  obtain rfl : cs1 = #[.int .i64 x1_0, .int .i64 x1_1, .int .u64 x1_2, .int .u64 x1_3] := by cases cs1; simpa [Value.cells] using ee1_0
  clear hA0 hval0
  refine (cellsnew_any x0 ⟨x1_0, x1_1, x1_2, x1_3⟩ W).mono fun e W' ⟨he, bel⟩ => ?_
  subst he
  exact ⟨_, rfl, _, _, _, [], _, [], hW', trodAll_mk1 (shut_bool Try.underlying4 _), (trodAll_cons_mk (Below.trod laidOut (by kernel_rfl) (of_decide_eq_true (by kernel_rfl)) k0 bel lt0) (trodAll_cons_mk (Below.trod laidOut (by kernel_rfl) (of_decide_eq_true (by kernel_rfl)) k1 bel lt1) trodAll_mk0)), rfl, bel.frame _, fun h => by cases h⟩

theorem over : Rows.cellsNewRow.holds Try.pinned (OpenSpec.ofChange Rows.cellsNewSpec) :=
  OpenClaim.holds_of_wide 4 Try.f4 rfl rfl rfl rfl rfl rfl rfl ⟨rfl, rfl, rfl, rfl, rfl⟩ rfl rfl rfl rfl rfl (by kernel_rfl) Try.func4 (by kernel_rfl)
    (of_decide_eq_true (by kernel_rfl)) (by unfold Func.isWrapper; first | (rw [if_pos (by decide +kernel)]; kernel_rfl) | (rw [if_neg (by decide +kernel)]; exact ⟨rfl, rfl⟩))
    (fun os started H enc _ => lifted os started H enc)

/-- The statement. -/
theorem proved : Rows.CellsNewSaid := over
#print axioms proved
end Go.Proofs.Ytkfdikbmcleaoaa.lawCellsNew
