/- Proved: the law TextBack, for every input: it returns true, and leaves all as it was. -/
import Derived.Test.YtjjgngccgjpnaaaGreatDoorRows
import Derived.Test.YtjjgngccgjpnaaaGreatDoorOpenR
import Derived.Test.YtjjgngccgjpnaaaGreatDoorTxtOpen
import Derived.Test.YtjjgngccgjpnaaaGreatDoorTxuNM
import Derived.Test.YtjjgngccgjpnaaaGreatDoorTxuTM
import Derived.ProofKit
import Derived.OpenShut
import Derived.ShutString
import Derived.ChangeOld
import Derived.Below
import Derived.SizedLaws
import Derived.Test.YtjjgngccgjpnaaaGreatDoorTie
import Derived.Test.YtjjgngccgjpnaaaGreatDoorCards
import Derived.SevenTiedAt
namespace Go.Proofs.YtjjgngccgjpnaaaGreatDoor
set_option linter.unusedVariables false
open Go.RowKit Go.ChangeShapes Go.WideShapes
instance instInhabitedCV : Inhabited CV := ⟨⟨0, 0, 0, 0, 0, 0, 0⟩⟩
instance instInhabitedEn : Inhabited En := ⟨⟨0, 0⟩⟩
theorem cells_cv : Tryz.prog.cellsOf 51 = 7 := by kernel_rfl
theorem leaves_cv : leaves Tryz.prog 6 51 = some [3, 3, 2, 47, 47, 47, 3] := by kernel_rfl
theorem hel_cv {H : Type} {enc : TypeId × Value → H} {w : World} {base : Nat} {spare : Nat → Bool} {held : Bool} (m : Nat) (cs : List Value) (y : DataW H × List MemPlace)
    (h : DataW.trod enc Tryz.prog w base spare held m 51 cs = some y) : ∃ x : CV, cs = cvc x ∧ True := by
  have hl := leaves_of _ _ _ _ _ _ leaves_cv h
  obtain ⟨v0, r0, rfl, l0, hl⟩ := hl.cons_
  obtain ⟨v1, r1, rfl, l1, hl⟩ := hl.cons_
  obtain ⟨v2, r2, rfl, l2, hl⟩ := hl.cons_
  obtain ⟨v3, r3, rfl, l3, hl⟩ := hl.cons_
  obtain ⟨v4, r4, rfl, l4, hl⟩ := hl.cons_
  obtain ⟨v5, r5, rfl, l5, hl⟩ := hl.cons_
  obtain ⟨v6, r6, rfl, l6, hl⟩ := hl.cons_
  obtain rfl := hl.nil_
  obtain ⟨n0, rfl, w0⟩ := l0.int_ Tryz.underlying3
  obtain ⟨n1, rfl, w1⟩ := l1.int_ Tryz.underlying3
  obtain ⟨n2, rfl, w2⟩ := l2.int_ Tryz.underlying2
  obtain ⟨n3, rfl, w3⟩ := l3.int_ Tryz.underlying47
  obtain ⟨n4, rfl, w4⟩ := l4.int_ Tryz.underlying47
  obtain ⟨n5, rfl, w5⟩ := l5.int_ Tryz.underlying47
  obtain ⟨n6, rfl, w6⟩ := l6.int_ Tryz.underlying3
  exact ⟨⟨n0, n1, n2, n3, n4, n5, n6⟩, rfl, trivial⟩
theorem cells_en : Tryz.prog.cellsOf 61 = 2 := by kernel_rfl
theorem leaves_en : leaves Tryz.prog 6 61 = some [3, 3] := by kernel_rfl
theorem hel_en {H : Type} {enc : TypeId × Value → H} {w : World} {base : Nat} {spare : Nat → Bool} {held : Bool} (m : Nat) (cs : List Value) (y : DataW H × List MemPlace)
    (h : DataW.trod enc Tryz.prog w base spare held m 61 cs = some y) : ∃ x : En, cs = enc_ x ∧ True := by
  have hl := leaves_of _ _ _ _ _ _ leaves_en h
  obtain ⟨v0, r0, rfl, l0, hl⟩ := hl.cons_
  obtain ⟨v1, r1, rfl, l1, hl⟩ := hl.cons_
  obtain rfl := hl.nil_
  obtain ⟨n0, rfl, w0⟩ := l0.int_ Tryz.underlying3
  obtain ⟨n1, rfl, w1⟩ := l1.int_ Tryz.underlying3
  exact ⟨⟨n0, n1⟩, rfl, trivial⟩

theorem bytes_cv : Tryz.prog.bytesOf 51 = 56 := by kernel_rfl
theorem reach_cv {n : Nat} {l : List CV} (hl : l.length = n) (h : n * Tryz.prog.bytesOf 51 ≤ reachBytes) : l.length * 56 ≤ 140737488351232 := by
  rw [bytes_cv] at h
  have : reachBytes = 140737488351232 := by decide
  omega
theorem pin8 {W : World} {A0 : Option Addr} {n0 c0 : Nat} {l0 : List CV} (s0 : Sl cvc W A0 n0 c0 l0) {A1 : Option Addr} {n1 c1 : Nat} {l1 : List CV} (s1 : Sl cvc W A1 n1 c1 l1) {A2 : Option Addr} {n2 c2 : Nat} {l2 : List CV} (s2 : Sl cvc W A2 n2 c2 l2) {A3 : Option Addr} {n3 c3 : Nat} {l3 : List CV} (s3 : Sl cvc W A3 n3 c3 l3) {A4 : Option Addr} {n4 c4 : Nat} {l4 : List CV} (s4 : Sl cvc W A4 n4 c4 l4) {A5 : Option Addr} {n5 c5 : Nat} {l5 : List CV} (s5 : Sl cvc W A5 n5 c5 l5) {A6 : Option Addr} {n6 c6 : Nat} {l6 : List CV} (s6 : Sl cvc W A6 n6 c6 l6) {A7 : Option Addr} {n7 c7 : Nat} {l7 : List CV} (s7 : Sl cvc W A7 n7 c7 l7) : PIn (fun _ => False) W [.slice A0 n0 c0, .slice A1 n1 c1, .slice A2 n2 c2, .slice A3 n3 c3, .slice A4 n4 c4, .slice A5 n5 c5, .slice A6 n6 c6, .slice A7 n7 c7] [l0, l1, l2, l3, l4, l5, l6, l7] :=
  ⟨rfl, rfl, fun j l hl => by
    match j, hl with
    | 0, hl => cases hl; exact ⟨_, _, _, rfl, s0, fun _ _ _ q => q⟩
    | 1, hl => cases hl; exact ⟨_, _, _, rfl, s1, fun _ _ _ q => q⟩
    | 2, hl => cases hl; exact ⟨_, _, _, rfl, s2, fun _ _ _ q => q⟩
    | 3, hl => cases hl; exact ⟨_, _, _, rfl, s3, fun _ _ _ q => q⟩
    | 4, hl => cases hl; exact ⟨_, _, _, rfl, s4, fun _ _ _ q => q⟩
    | 5, hl => cases hl; exact ⟨_, _, _, rfl, s5, fun _ _ _ q => q⟩
    | 6, hl => cases hl; exact ⟨_, _, _, rfl, s6, fun _ _ _ q => q⟩
    | 7, hl => cases hl; exact ⟨_, _, _, rfl, s7, fun _ _ _ q => q⟩
    | j + 8, hl => simp at hl⟩
theorem all8 {p : List CV → Prop} {l0 : List CV} (h0 : p l0) {l1 : List CV} (h1 : p l1) {l2 : List CV} (h2 : p l2) {l3 : List CV} (h3 : p l3) {l4 : List CV} (h4 : p l4) {l5 : List CV} (h5 : p l5) {l6 : List CV} (h6 : p l6) {l7 : List CV} (h7 : p l7) : ∀ l, l ∈ [l0, l1, l2, l3, l4, l5, l6, l7] → p l := by
  intro l hl
  simp only [List.mem_cons, List.not_mem_nil, or_false] at hl
  rcases hl with rfl | rfl | rfl | rfl | rfl | rfl | rfl | rfl
  · exact h0
  · exact h1
  · exact h2
  · exact h3
  · exact h4
  · exact h5
  · exact h6
  · exact h7
theorem cells_ck : Tryz.prog.cellsOf 51 = 7 := by kernel_rfl
theorem leaves_ck : leaves Tryz.prog 6 51 = some [3, 3, 2, 47, 47, 47, 3] := by kernel_rfl
theorem hel_ck {H : Type} {enc : TypeId × Value → H} {w : World} {base : Nat} {spare : Nat → Bool} {held : Bool} (m : Nat) (cs : List Value) (y : DataW H × List MemPlace)
    (h : DataW.trod enc Tryz.prog w base spare held m 51 cs = some y) : ∃ x : CV, cs = cvc x ∧ CVi x := by
  have hl := leaves_of _ _ _ _ _ _ leaves_ck h
  obtain ⟨v0, r0, rfl, l0, hl⟩ := hl.cons_
  obtain ⟨v1, r1, rfl, l1, hl⟩ := hl.cons_
  obtain ⟨v2, r2, rfl, l2, hl⟩ := hl.cons_
  obtain ⟨v3, r3, rfl, l3, hl⟩ := hl.cons_
  obtain ⟨v4, r4, rfl, l4, hl⟩ := hl.cons_
  obtain ⟨v5, r5, rfl, l5, hl⟩ := hl.cons_
  obtain ⟨v6, r6, rfl, l6, hl⟩ := hl.cons_
  obtain rfl := hl.nil_
  obtain ⟨n0, rfl, w0⟩ := l0.int_ Tryz.underlying3
  obtain ⟨n1, rfl, w1⟩ := l1.int_ Tryz.underlying3
  obtain ⟨n2, rfl, w2⟩ := l2.int_ Tryz.underlying2
  obtain ⟨n3, rfl, w3⟩ := l3.int_ Tryz.underlying47
  obtain ⟨n4, rfl, w4⟩ := l4.int_ Tryz.underlying47
  obtain ⟨n5, rfl, w5⟩ := l5.int_ Tryz.underlying47
  obtain ⟨n6, rfl, w6⟩ := l6.int_ Tryz.underlying3
  exact ⟨⟨n0, n1, n2, n3, n4, n5, n6⟩, rfl, ⟨wf_i w0, wf_i w1, wf_i w2, wf_i w6⟩, wf_u w3, wf_u w4, wf_u w5⟩
end Go.Proofs.YtjjgngccgjpnaaaGreatDoor
namespace Go.Proofs.YtjjgngccgjpnaaaGreatDoor.lawTextBack
set_option linter.unusedVariables false
set_option linter.unusedSimpArgs false
open Go.ChangeShapes Go.WideShapes Go.ChangeAt Go.RowKit
open Go.ChangeMaps (open_string shut_string)


theorem own : ownKnob Tryz.prog.godebug = none := by kernel_rfl
theorem laidOut : laidOutB Tryz.prog = true := by kernel_rfl

set_option maxHeartbeats 1000000 in
set_option maxRecDepth 100000 in
theorem lifted (os : Os) (started : os.Started) (H : Type) (enc : TypeId × Value → H) :
    ReturnsInHanded {} Tryz.checked os 6 .any (fun w args => (Rows.textBackSpec.pre enc Tryz.prog Tryz.f6 [] false w args ∧ laidMetH Tryz.prog [("math/bits.deBruijn32tab", Rows.laid_math_bits_deBruijn32tab), ("math/bits.deBruijn64tab", Rows.laid_math_bits_deBruijn64tab), ("internal/strconv.uint64pow10", Rows.laid_internal_strconv_uint64pow10), ("unicode/utf8.acceptRanges", Rows.laid_unicode_utf8_acceptRanges), ("strconv.ErrRange", Rows.laid_strconv_ErrRange), ("strconv.ErrSyntax", Rows.laid_strconv_ErrSyntax), ("unicode/utf8.first", Rows.laid_unicode_utf8_first)] w) ∧ sizedMet enc Tryz.prog Tryz.f6 (OpenSpec.ofChange Rows.textBackSpec) false w args) (Rows.textBackSpec.post enc Tryz.prog Tryz.f6 false true false false) := by
  refine returnsInHanded_both (C := Tryz.checked) (X := fun w _ => laidMetH Tryz.prog [("math/bits.deBruijn32tab", Rows.laid_math_bits_deBruijn32tab), ("math/bits.deBruijn64tab", Rows.laid_math_bits_deBruijn64tab), ("internal/strconv.uint64pow10", Rows.laid_internal_strconv_uint64pow10), ("unicode/utf8.acceptRanges", Rows.laid_unicode_utf8_acceptRanges), ("strconv.ErrRange", Rows.laid_strconv_ErrRange), ("strconv.ErrSyntax", Rows.laid_strconv_ErrSyntax), ("unicode/utf8.first", Rows.laid_unicode_utf8_first)] w) (fun _ _ _ hh h => h.of_heap hh) own started (by kernel_rfl) Tryz.func6
    (ChangeSpec.witness_shaped (enc := enc) (C := Tryz.checked) (os := os) (X := fun w _ => laidMetH Tryz.prog [("math/bits.deBruijn32tab", Rows.laid_math_bits_deBruijn32tab), ("math/bits.deBruijn64tab", Rows.laid_math_bits_deBruijn64tab), ("internal/strconv.uint64pow10", Rows.laid_internal_strconv_uint64pow10), ("unicode/utf8.acceptRanges", Rows.laid_unicode_utf8_acceptRanges), ("strconv.ErrRange", Rows.laid_strconv_ErrRange), ("strconv.ErrSyntax", Rows.laid_strconv_ErrSyntax), ("unicode/utf8.first", Rows.laid_unicode_utf8_first)] w) false (laidWorld7 os) #[.agg #[.int .i64 0, .int .i64 0, .int .i64 0, .int .i64 0, .int .i64 0, .int .i64 0, .int .i64 0, .int .i64 0, .int .i64 0, .int .i64 0, .int .i64 0, .int .i64 0, .int .i64 0, .int .i64 0, .slice none 0 0, .slice none 0 0, .slice none 0 0, .slice none 0 0, .slice none 0 0, .slice none 0 0, .slice none 0 0, .slice none 0 0, .slice none 0 0], .string ⟨#[]⟩] 8 (laidWorld7_os os) (World.shaped_of_ZipB (by kernel_rfl) (by kernel_rfl)) (by kernel_rfl) (by kernel_rfl) (by kernel_rfl) (laidWorld7_met os _)) ?_
  intro W base args ds gs before hval0 hW hcnd hsz0 hL hsh _
  have hg := lv7 hL hsh
  have hval : ∀ (j : Nat) t v, Tryz.f6.params[j]? = some t → args[j]? = some v → Value.okWide Tryz.prog W .any base t v := hval0
  have hW' := hW
  obtain ⟨p, q, hA0, hV, rfl, hfz, hnd⟩ := hW
  have hA : DataW.TrodAll enc Tryz.prog W 0 (fun _ => true) true Tryz.f6.params.toList args.toList ds p := hA0
  rw [Tryz.params6] at hA hval
  obtain ⟨v0, vs0, d0, ds0, p0, q0, hargs, rfl, rfl, h0, r0⟩ := trodAll_cons hA
  obtain ⟨v1, vs1, d1, ds1, p1, q1, rfl, rfl, rfl, h1, r1⟩ := trodAll_cons r0
  obtain ⟨rfl, rfl, rfl⟩ := trodAll_nil r1
  obtain rfl : args = #[v0, v1] := by cases args; simp_all
  obtain ⟨rfl, rfl⟩ := trodVars_none hV
  have hsz : (DataW.weightsEach Tryz.prog [30, 9] [d0, d1]).all (fun x => decide (x ≤ reachBytes)) = true := hsz0
  have k0 := h0
  have lt0 : ∀ x ∈ p0, x.block < W.heap.size := by obtain ⟨m, hm⟩ := k0; exact DataW.trod_lt m _ _ _ hm
  obtain ⟨cs0, rfl, _⟩ := okWide_struct Tryz.underlying30 (hval 0 30 v0 rfl rfl)
  obtain ⟨mm0, hm0⟩ := h0
  have hwt0 : ∀ n ∈ d0.weights Tryz.prog 30, n ≤ reachBytes := fun n hn => by have := List.all_eq_true.1 hsz _ (DataW.weights_mem_each (j := 0) rfl rfl n hn); simpa using this
  have L0_0 := leaves_ofR (P := Tryz.prog) 8 30 [3, 3, 3, 3, 3, 3, 3, 3, 3, 3, 3, 3, 3, 3, 26, 26, 26, 26, 26, 26, 26, 26, 28] _ _ _ (by kernel_rfl) hm0 hwt0
  obtain ⟨u0_0, rr0_0, ee0_0, ff0_0, L0_1⟩ := L0_0.cons_
  obtain ⟨x0_0, ux0_0, w0_0⟩ := ff0_0.leaf.int_ Tryz.underlying3
  obtain ⟨u0_1, rr0_1, ee0_1, ff0_1, L0_2⟩ := L0_1.cons_
  obtain ⟨x0_1, ux0_1, w0_1⟩ := ff0_1.leaf.int_ Tryz.underlying3
  obtain ⟨u0_2, rr0_2, ee0_2, ff0_2, L0_3⟩ := L0_2.cons_
  obtain ⟨x0_2, ux0_2, w0_2⟩ := ff0_2.leaf.int_ Tryz.underlying3
  obtain ⟨u0_3, rr0_3, ee0_3, ff0_3, L0_4⟩ := L0_3.cons_
  obtain ⟨x0_3, ux0_3, w0_3⟩ := ff0_3.leaf.int_ Tryz.underlying3
  obtain ⟨u0_4, rr0_4, ee0_4, ff0_4, L0_5⟩ := L0_4.cons_
  obtain ⟨x0_4, ux0_4, w0_4⟩ := ff0_4.leaf.int_ Tryz.underlying3
  obtain ⟨u0_5, rr0_5, ee0_5, ff0_5, L0_6⟩ := L0_5.cons_
  obtain ⟨x0_5, ux0_5, w0_5⟩ := ff0_5.leaf.int_ Tryz.underlying3
  obtain ⟨u0_6, rr0_6, ee0_6, ff0_6, L0_7⟩ := L0_6.cons_
  obtain ⟨x0_6, ux0_6, w0_6⟩ := ff0_6.leaf.int_ Tryz.underlying3
  obtain ⟨u0_7, rr0_7, ee0_7, ff0_7, L0_8⟩ := L0_7.cons_
  obtain ⟨x0_7, ux0_7, w0_7⟩ := ff0_7.leaf.int_ Tryz.underlying3
  obtain ⟨u0_8, rr0_8, ee0_8, ff0_8, L0_9⟩ := L0_8.cons_
  obtain ⟨x0_8, ux0_8, w0_8⟩ := ff0_8.leaf.int_ Tryz.underlying3
  obtain ⟨u0_9, rr0_9, ee0_9, ff0_9, L0_10⟩ := L0_9.cons_
  obtain ⟨x0_9, ux0_9, w0_9⟩ := ff0_9.leaf.int_ Tryz.underlying3
  obtain ⟨u0_10, rr0_10, ee0_10, ff0_10, L0_11⟩ := L0_10.cons_
  obtain ⟨x0_10, ux0_10, w0_10⟩ := ff0_10.leaf.int_ Tryz.underlying3
  obtain ⟨u0_11, rr0_11, ee0_11, ff0_11, L0_12⟩ := L0_11.cons_
  obtain ⟨x0_11, ux0_11, w0_11⟩ := ff0_11.leaf.int_ Tryz.underlying3
  obtain ⟨u0_12, rr0_12, ee0_12, ff0_12, L0_13⟩ := L0_12.cons_
  obtain ⟨x0_12, ux0_12, w0_12⟩ := ff0_12.leaf.int_ Tryz.underlying3
  obtain ⟨u0_13, rr0_13, ee0_13, ff0_13, L0_14⟩ := L0_13.cons_
  obtain ⟨x0_13, ux0_13, w0_13⟩ := ff0_13.leaf.int_ Tryz.underlying3
  obtain ⟨u0_14, rr0_14, ee0_14, ff0_14, L0_15⟩ := L0_14.cons_
  obtain ⟨A0_14, n0_14, c0_14, l0_14, ux0_14, s0_14, g0_14, mx0_14⟩ := ff0_14.leaf.slice_ cvc_len Tryz.underlying26 cells_ck hel_ck
  have fr0_14 := ff0_14; rw [ux0_14] at fr0_14
  have re0_14 := reach_cv s0_14.len (fr0_14.len_ Tryz.underlying26)
  obtain ⟨u0_15, rr0_15, ee0_15, ff0_15, L0_16⟩ := L0_15.cons_
  obtain ⟨A0_15, n0_15, c0_15, l0_15, ux0_15, s0_15, g0_15, mx0_15⟩ := ff0_15.leaf.slice_ cvc_len Tryz.underlying26 cells_ck hel_ck
  have fr0_15 := ff0_15; rw [ux0_15] at fr0_15
  have re0_15 := reach_cv s0_15.len (fr0_15.len_ Tryz.underlying26)
  obtain ⟨u0_16, rr0_16, ee0_16, ff0_16, L0_17⟩ := L0_16.cons_
  obtain ⟨A0_16, n0_16, c0_16, l0_16, ux0_16, s0_16, g0_16, mx0_16⟩ := ff0_16.leaf.slice_ cvc_len Tryz.underlying26 cells_ck hel_ck
  have fr0_16 := ff0_16; rw [ux0_16] at fr0_16
  have re0_16 := reach_cv s0_16.len (fr0_16.len_ Tryz.underlying26)
  obtain ⟨u0_17, rr0_17, ee0_17, ff0_17, L0_18⟩ := L0_17.cons_
  obtain ⟨A0_17, n0_17, c0_17, l0_17, ux0_17, s0_17, g0_17, mx0_17⟩ := ff0_17.leaf.slice_ cvc_len Tryz.underlying26 cells_ck hel_ck
  have fr0_17 := ff0_17; rw [ux0_17] at fr0_17
  have re0_17 := reach_cv s0_17.len (fr0_17.len_ Tryz.underlying26)
  obtain ⟨u0_18, rr0_18, ee0_18, ff0_18, L0_19⟩ := L0_18.cons_
  obtain ⟨A0_18, n0_18, c0_18, l0_18, ux0_18, s0_18, g0_18, mx0_18⟩ := ff0_18.leaf.slice_ cvc_len Tryz.underlying26 cells_ck hel_ck
  have fr0_18 := ff0_18; rw [ux0_18] at fr0_18
  have re0_18 := reach_cv s0_18.len (fr0_18.len_ Tryz.underlying26)
  obtain ⟨u0_19, rr0_19, ee0_19, ff0_19, L0_20⟩ := L0_19.cons_
  obtain ⟨A0_19, n0_19, c0_19, l0_19, ux0_19, s0_19, g0_19, mx0_19⟩ := ff0_19.leaf.slice_ cvc_len Tryz.underlying26 cells_ck hel_ck
  have fr0_19 := ff0_19; rw [ux0_19] at fr0_19
  have re0_19 := reach_cv s0_19.len (fr0_19.len_ Tryz.underlying26)
  obtain ⟨u0_20, rr0_20, ee0_20, ff0_20, L0_21⟩ := L0_20.cons_
  obtain ⟨A0_20, n0_20, c0_20, l0_20, ux0_20, s0_20, g0_20, mx0_20⟩ := ff0_20.leaf.slice_ cvc_len Tryz.underlying26 cells_ck hel_ck
  have fr0_20 := ff0_20; rw [ux0_20] at fr0_20
  have re0_20 := reach_cv s0_20.len (fr0_20.len_ Tryz.underlying26)
  obtain ⟨u0_21, rr0_21, ee0_21, ff0_21, L0_22⟩ := L0_21.cons_
  obtain ⟨A0_21, n0_21, c0_21, l0_21, ux0_21, s0_21, g0_21, mx0_21⟩ := ff0_21.leaf.slice_ cvc_len Tryz.underlying26 cells_ck hel_ck
  have fr0_21 := ff0_21; rw [ux0_21] at fr0_21
  have re0_21 := reach_cv s0_21.len (fr0_21.len_ Tryz.underlying26)
  obtain ⟨u0_22, rr0_22, ee0_22, ff0_22, L0_23⟩ := L0_22.cons_
  obtain ⟨A0_22, n0_22, c0_22, l0_22, ux0_22, s0_22, g0_22, mx0_22⟩ := ff0_22.leaf.slice_ enc__len Tryz.underlying28 cells_en hel_en
  have fr0_22 := ff0_22; rw [ux0_22] at fr0_22
  have ez0 := L0_23.nil_
  subst ez0
  subst ee0_22
  subst ee0_21
  subst ee0_20
  subst ee0_19
  subst ee0_18
  subst ee0_17
  subst ee0_16
  subst ee0_15
  subst ee0_14
  subst ee0_13
  subst ee0_12
  subst ee0_11
  subst ee0_10
  subst ee0_9
  subst ee0_8
  subst ee0_7
  subst ee0_6
  subst ee0_5
  subst ee0_4
  subst ee0_3
  subst ee0_2
  subst ee0_1
  subst ux0_0
  subst ux0_1
  subst ux0_2
  subst ux0_3
  subst ux0_4
  subst ux0_5
  subst ux0_6
  subst ux0_7
  subst ux0_8
  subst ux0_9
  subst ux0_10
  subst ux0_11
  subst ux0_12
  subst ux0_13
  subst ux0_14
  subst ux0_15
  subst ux0_16
  subst ux0_17
  subst ux0_18
  subst ux0_19
  subst ux0_20
  subst ux0_21
  subst ux0_22
  obtain rfl : cs0 = #[.int .i64 x0_0, .int .i64 x0_1, .int .i64 x0_2, .int .i64 x0_3, .int .i64 x0_4, .int .i64 x0_5, .int .i64 x0_6, .int .i64 x0_7, .int .i64 x0_8, .int .i64 x0_9, .int .i64 x0_10, .int .i64 x0_11, .int .i64 x0_12, .int .i64 x0_13, .slice A0_14 n0_14 c0_14, .slice A0_15 n0_15 c0_15, .slice A0_16 n0_16 c0_16, .slice A0_17 n0_17 c0_17, .slice A0_18 n0_18 c0_18, .slice A0_19 n0_19 c0_19, .slice A0_20 n0_20 c0_20, .slice A0_21 n0_21 c0_21, .slice A0_22 n0_22 c0_22] := by cases cs0; simpa [Value.cells] using ee0_0
  have SP0 := pin8 s0_14 s0_15 s0_16 s0_17 s0_18 s0_19 s0_20 s0_21
  have SR0 := all8 (p := fun l => l.length * 56 ≤ 140737488351232) re0_14 re0_15 re0_16 re0_17 re0_18 re0_19 re0_20 re0_21
  have SU0 := all8 (p := fun l => ∀ x, x ∈ l → CVi x) g0_14 g0_15 g0_16 g0_17 g0_18 g0_19 g0_20 g0_21
  have k1 := h1
  have lt1 : ∀ x ∈ p1, x.block < W.heap.size := by obtain ⟨m, hm⟩ := k1; exact DataW.trod_lt m _ _ _ hm
  obtain ⟨s1, rfl, rfl, rfl, w1⟩ := open_string Tryz.underlying9 (hval 1 9 v1 rfl rfl) h1
  clear hA0 hval0
  refine (textback_any (c := ⟨x0_0, x0_1, x0_2, x0_3, x0_4, x0_5, x0_6, x0_7, x0_8, x0_9, x0_10, x0_11, x0_12, x0_13⟩) SP0 s0_22 hg SU0 s1.data.toList).mono fun e W' ⟨he, bel⟩ => ?_
  subst he
  exact ⟨_, rfl, _, _, _, [], _, [], hW', trodAll_mk1 (shut_bool Tryz.underlying4 _), (trodAll_cons_mk (Below.trod laidOut (by kernel_rfl) (of_decide_eq_true (by kernel_rfl)) k0 bel lt0) (trodAll_cons_mk (Below.trod laidOut (by kernel_rfl) (of_decide_eq_true (by kernel_rfl)) k1 bel lt1) trodAll_mk0)), rfl, bel.frame _, fun h => by cases h⟩

theorem over : Rows.textBackRow.holds Tryz.pinned (OpenSpec.ofChange Rows.textBackSpec) :=
  OpenClaim.holds_of_wide 6 Tryz.f6 rfl rfl rfl rfl rfl rfl rfl ⟨rfl, rfl, rfl, rfl, rfl⟩ rfl rfl rfl rfl rfl (by kernel_rfl) Tryz.func6 (by kernel_rfl)
    (of_decide_eq_true (by kernel_rfl)) (by unfold Func.isWrapper; first | (rw [if_pos (by decide +kernel)]; kernel_rfl) | (rw [if_neg (by decide +kernel)]; exact ⟨rfl, rfl⟩))
    (fun os started H enc _ => lifted os started H enc)

/-- The statement: the tied card. -/
theorem proved : Rows.TextBackCardSaid :=
  Claim7.holds_tied_plain_at .later [] [.data, .data, .data, .data, .sentinel, .sentinel, .pinned] true (true, "0d860923fe87bf03a7a1a9beb46f94f93c040d0a9022b26a6c9ef07d9005db49") true
    over (fun _ h => by cases h) (by kernel_rfl) (fun _ h => by cases h) textBack_row_tie rfl ⟨rfl, rfl⟩ (by kernel_rfl) rfl
    (fun f fn hf hfn => by
      obtain rfl : f = 6 := Option.some.inj ((show Tryz.prog.funcNamed "burnbag/burnbaglaw40.TextBack" = some 6 by kernel_rfl).symm.trans hf) |>.symm
      obtain rfl : fn = Tryz.f6 := (Option.some.inj (Tryz.func6.symm.trans hfn)).symm
      exact ⟨by kernel_rfl, fun j t ht => by
        rw [Tryz.params6] at ht
        have h3 : t = 30 ∨ t = 9 := by
          have := List.mem_of_getElem? (l := [30, 9]) (by simpa using ht)
          simpa using this
        rcases h3 with rfl | rfl
        · exact (show Tryz.prog.wantsStandIn 30 = false by kernel_rfl)
        · exact (show Tryz.prog.wantsStandIn 9 = false by kernel_rfl)⟩)
    (by kernel_rfl)
#print axioms proved
end Go.Proofs.YtjjgngccgjpnaaaGreatDoor.lawTextBack
