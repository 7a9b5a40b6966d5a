/- Proved: the law TextWords, for every input: it returns true, and leaves all as it was. -/
import Derived.Test.YtjjgngccgjpnaaaGreatDoorRows
import Derived.Test.YtjjgngccgjpnaaaGreatDoorTxtS
import Derived.Test.YtjjgngccgjpnaaaGreatDoorTxtOpen
import Derived.Test.YtjjgngccgjpnaaaGreatDoorOpen
import Derived.ProofKit
import Derived.OpenShut
import Derived.ShutString
import Derived.ChangeOld
import Derived.Below
import Derived.SizedLaws
import Derived.Test.YtjjgngccgjpnaaaGreatDoorTie
import Derived.Test.YtjjgngccgjpnaaaGreatDoorCards
import Derived.SevenTiedAt
namespace Go.Proofs.YtjjgngccgjpnaaaGreatDoor.lawTextWords
set_option linter.unusedVariables false
set_option linter.unusedSimpArgs false
open Go.ChangeShapes Go.WideShapes Go.ChangeAt Go.RowKit
open Go.ChangeMaps (open_string shut_string)


theorem own : ownKnob Tryz.prog.godebug = none := by kernel_rfl
theorem laidOut : laidOutB Tryz.prog = true := by kernel_rfl

set_option maxHeartbeats 1000000 in
set_option maxRecDepth 100000 in
theorem lifted (os : Os) (started : os.Started) (H : Type) (enc : TypeId × Value → H) :
    ReturnsInHanded {} Tryz.checked os 5 .any (fun w args => (Rows.textWordsSpec.pre enc Tryz.prog Tryz.f5 [] false w args ∧ laidMetH Tryz.prog [("math/bits.deBruijn32tab", Rows.laid_math_bits_deBruijn32tab), ("math/bits.deBruijn64tab", Rows.laid_math_bits_deBruijn64tab), ("internal/strconv.uint64pow10", Rows.laid_internal_strconv_uint64pow10), ("unicode/utf8.acceptRanges", Rows.laid_unicode_utf8_acceptRanges), ("strconv.ErrRange", Rows.laid_strconv_ErrRange), ("strconv.ErrSyntax", Rows.laid_strconv_ErrSyntax), ("unicode/utf8.first", Rows.laid_unicode_utf8_first)] w) ∧ sizedMet enc Tryz.prog Tryz.f5 (OpenSpec.ofChange Rows.textWordsSpec) false w args) (Rows.textWordsSpec.post enc Tryz.prog Tryz.f5 false true false false) := by
  refine returnsInHanded_both (C := Tryz.checked) (X := fun w _ => laidMetH Tryz.prog [("math/bits.deBruijn32tab", Rows.laid_math_bits_deBruijn32tab), ("math/bits.deBruijn64tab", Rows.laid_math_bits_deBruijn64tab), ("internal/strconv.uint64pow10", Rows.laid_internal_strconv_uint64pow10), ("unicode/utf8.acceptRanges", Rows.laid_unicode_utf8_acceptRanges), ("strconv.ErrRange", Rows.laid_strconv_ErrRange), ("strconv.ErrSyntax", Rows.laid_strconv_ErrSyntax), ("unicode/utf8.first", Rows.laid_unicode_utf8_first)] w) (fun _ _ _ hh h => h.of_heap hh) own started (by kernel_rfl) Tryz.func5
    (ChangeSpec.witness_shaped (enc := enc) (C := Tryz.checked) (os := os) (X := fun w _ => laidMetH Tryz.prog [("math/bits.deBruijn32tab", Rows.laid_math_bits_deBruijn32tab), ("math/bits.deBruijn64tab", Rows.laid_math_bits_deBruijn64tab), ("internal/strconv.uint64pow10", Rows.laid_internal_strconv_uint64pow10), ("unicode/utf8.acceptRanges", Rows.laid_unicode_utf8_acceptRanges), ("strconv.ErrRange", Rows.laid_strconv_ErrRange), ("strconv.ErrSyntax", Rows.laid_strconv_ErrSyntax), ("unicode/utf8.first", Rows.laid_unicode_utf8_first)] w) false (laidWorld7 os) #[.agg #[.int .i64 0, .int .i64 0, .int .i64 0, .int .u64 0, .int .u64 0, .int .u64 0, .int .i64 0], .string ⟨#[]⟩] 8 (laidWorld7_os os) (World.shaped_of_ZipB (by kernel_rfl) (by kernel_rfl)) (by kernel_rfl) (by kernel_rfl) (by kernel_rfl) (laidWorld7_met os _)) ?_
  intro W base args ds gs before hval0 hW hcnd hsz0 hL hsh _
  have hg := lv7 hL hsh
  have hval : ∀ (j : Nat) t v, Tryz.f5.params[j]? = some t → args[j]? = some v → Value.okWide Tryz.prog W .any base t v := hval0
  have hW' := hW
  obtain ⟨p, q, hA0, hV, rfl, hfz, hnd⟩ := hW
  have hA : DataW.TrodAll enc Tryz.prog W 0 (fun _ => true) true Tryz.f5.params.toList args.toList ds p := hA0
  rw [Tryz.params5] at hA hval
  obtain ⟨v0, vs0, d0, ds0, p0, q0, hargs, rfl, rfl, h0, r0⟩ := trodAll_cons hA
  obtain ⟨v1, vs1, d1, ds1, p1, q1, rfl, rfl, rfl, h1, r1⟩ := trodAll_cons r0
  obtain ⟨rfl, rfl, rfl⟩ := trodAll_nil r1
  obtain rfl : args = #[v0, v1] := by cases args; simp_all
  obtain ⟨rfl, rfl⟩ := trodVars_none hV
  have hsz : (DataW.weightsEach Tryz.prog [51, 9] [d0, d1]).all (fun x => decide (x ≤ reachBytes)) = true := hsz0
  have k0 := h0
  have lt0 : ∀ x ∈ p0, x.block < W.heap.size := by obtain ⟨m, hm⟩ := k0; exact DataW.trod_lt m _ _ _ hm
  obtain ⟨cs0, rfl, _⟩ := okWide_struct Tryz.underlying51 (hval 0 51 v0 rfl rfl)
  obtain ⟨mm0, hm0⟩ := h0
  have L0_0 := leaves_of (P := Tryz.prog) 8 51 [3, 3, 2, 47, 47, 47, 3] _ _ _ (by kernel_rfl) hm0
  obtain ⟨u0_0, rr0_0, ee0_0, ff0_0, L0_1⟩ := L0_0.cons_
  obtain ⟨x0_0, ux0_0, w0_0⟩ := ff0_0.int_ Tryz.underlying3
  obtain ⟨u0_1, rr0_1, ee0_1, ff0_1, L0_2⟩ := L0_1.cons_
  obtain ⟨x0_1, ux0_1, w0_1⟩ := ff0_1.int_ Tryz.underlying3
  obtain ⟨u0_2, rr0_2, ee0_2, ff0_2, L0_3⟩ := L0_2.cons_
  obtain ⟨x0_2, ux0_2, w0_2⟩ := ff0_2.int_ Tryz.underlying2
  obtain ⟨u0_3, rr0_3, ee0_3, ff0_3, L0_4⟩ := L0_3.cons_
  obtain ⟨x0_3, ux0_3, w0_3⟩ := ff0_3.int_ Tryz.underlying47
  obtain ⟨u0_4, rr0_4, ee0_4, ff0_4, L0_5⟩ := L0_4.cons_
  obtain ⟨x0_4, ux0_4, w0_4⟩ := ff0_4.int_ Tryz.underlying47
  obtain ⟨u0_5, rr0_5, ee0_5, ff0_5, L0_6⟩ := L0_5.cons_
  obtain ⟨x0_5, ux0_5, w0_5⟩ := ff0_5.int_ Tryz.underlying47
  obtain ⟨u0_6, rr0_6, ee0_6, ff0_6, L0_7⟩ := L0_6.cons_
  obtain ⟨x0_6, ux0_6, w0_6⟩ := ff0_6.int_ Tryz.underlying3
  have ez0 := L0_7.nil_
  subst ez0
  subst ee0_6
  subst ee0_5
  subst ee0_4
  subst ee0_3
  subst ee0_2
  subst ee0_1
  subst ux0_0
  subst ux0_1
  subst ux0_2
  subst ux0_3
  subst ux0_4
  subst ux0_5
  subst ux0_6
  obtain rfl : cs0 = #[.int .i64 x0_0, .int .i64 x0_1, .int .i64 x0_2, .int .u64 x0_3, .int .u64 x0_4, .int .u64 x0_5, .int .i64 x0_6] := by cases cs0; simpa [Value.cells] using ee0_0
  obtain ⟨y0_3, rfl, hy0_3⟩ := u_nat w0_3
  obtain ⟨y0_4, rfl, hy0_4⟩ := u_nat w0_4
  obtain ⟨y0_5, rfl, hy0_5⟩ := u_nat w0_5
  have k1 := h1
  have lt1 : ∀ x ∈ p1, x.block < W.heap.size := by obtain ⟨m, hm⟩ := k1; exact DataW.trod_lt m _ _ _ hm
  obtain ⟨s1, rfl, rfl, rfl, w1⟩ := open_string Tryz.underlying9 (hval 1 9 v1 rfl rfl) h1
  clear hA0 hval0
  refine (textwords_any x0_0 x0_1 x0_2 y0_3 y0_4 y0_5 x0_6 s1 (wf_i w0_0) (wf_i w0_1) (wf_i w0_2) (wf_i w0_6) hy0_3 hy0_4 hy0_5 hg).mono fun e W' ⟨he, bel⟩ => ?_
  subst he
  exact ⟨_, rfl, _, _, _, [], _, [], hW', trodAll_mk1 (shut_bool Tryz.underlying4 _), (trodAll_cons_mk (Below.trod laidOut (by kernel_rfl) (of_decide_eq_true (by kernel_rfl)) k0 bel lt0) (trodAll_cons_mk (Below.trod laidOut (by kernel_rfl) (of_decide_eq_true (by kernel_rfl)) k1 bel lt1) trodAll_mk0)), rfl, bel.frame _, fun h => by cases h⟩

theorem over : Rows.textWordsRow.holds Tryz.pinned (OpenSpec.ofChange Rows.textWordsSpec) :=
  OpenClaim.holds_of_wide 5 Tryz.f5 rfl rfl rfl rfl rfl rfl rfl ⟨rfl, rfl, rfl, rfl, rfl⟩ rfl rfl rfl rfl rfl (by kernel_rfl) Tryz.func5 (by kernel_rfl)
    (of_decide_eq_true (by kernel_rfl)) (by unfold Func.isWrapper; first | (rw [if_pos (by decide +kernel)]; kernel_rfl) | (rw [if_neg (by decide +kernel)]; exact ⟨rfl, rfl⟩))
    (fun os started H enc _ => lifted os started H enc)

/-- The statement: the tied card. -/
theorem proved : Rows.TextWordsCardSaid :=
  Claim7.holds_tied_plain_at .later [] [.data, .data, .data, .data, .sentinel, .sentinel, .pinned] true (true, "0d860923fe87bf03a7a1a9beb46f94f93c040d0a9022b26a6c9ef07d9005db49") true
    over (fun _ h => by cases h) (by kernel_rfl) (fun _ h => by cases h) textWords_row_tie rfl ⟨rfl, rfl⟩ (by kernel_rfl) rfl
    (fun f fn hf hfn => by
      obtain rfl : f = 5 := Option.some.inj ((show Tryz.prog.funcNamed "burnbag/burnbaglaw40.TextWords" = some 5 by kernel_rfl).symm.trans hf) |>.symm
      obtain rfl : fn = Tryz.f5 := (Option.some.inj (Tryz.func5.symm.trans hfn)).symm
      exact ⟨by kernel_rfl, fun j t ht => by
        rw [Tryz.params5] at ht
        have h3 : t = 51 ∨ t = 9 := by
          have := List.mem_of_getElem? (l := [51, 9]) (by simpa using ht)
          simpa using this
        rcases h3 with rfl | rfl
        · exact (show Tryz.prog.wantsStandIn 51 = false by kernel_rfl)
        · exact (show Tryz.prog.wantsStandIn 9 = false by kernel_rfl)⟩)
    (by kernel_rfl)
#print axioms proved
end Go.Proofs.YtjjgngccgjpnaaaGreatDoor.lawTextWords
