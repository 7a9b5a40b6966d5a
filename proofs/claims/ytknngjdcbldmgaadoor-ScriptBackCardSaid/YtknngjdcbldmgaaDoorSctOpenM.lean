/- Several texts as one. -/
import Derived.Test.YtknngjdcbldmgaaDoorOpenR
import Derived.Test.YtknngjdcbldmgaaDoorScrC
import Derived.Test.YtknngjdcbldmgaaDoorRows
import Derived.ProofKit
import Derived.ChangeSame
import Derived.ChangeVars
import Derived.JoinedOf
import Derived.RowKit
import Derived.RowKitTokens
import Derived.LaidLaws
import Derived.LaidHandle
import Derived.Stop.Joined
import Derived.Test.YtknngjdcbldmgaaDoorScrS
import Derived.Test.YtknngjdcbldmgaaDoorSctG
namespace Go.Proofs.YtknngjdcbldmgaaDoor
set_option linter.unusedVariables false
open Go.RowKit Go.ChangeShapes Go.WideShapes
instance instInhabitedCV : Inhabited CV := ⟨⟨0, 0, 0, 0, 0, 0, 0⟩⟩
instance instInhabitedEn : Inhabited En := ⟨⟨0, 0⟩⟩
theorem cells_cv : Tryd.prog.cellsOf 63 = 7 := by kernel_rfl
theorem leaves_cv : leaves Tryd.prog 6 63 = some [3, 3, 2, 59, 59, 59, 3] := by kernel_rfl
theorem hel_cv {H : Type} {enc : TypeId × Value → H} {w : World} {base : Nat} {spare : Nat → Bool} {held : Bool} (m : Nat) (cs : List Value) (y : DataW H × List MemPlace)
    (h : DataW.trod enc Tryd.prog w base spare held m 63 cs = some y) : ∃ x : CV, cs = cvc x ∧ True := by
  have hl := leaves_of _ _ _ _ _ _ leaves_cv h
  obtain ⟨v0, r0, rfl, l0, hl⟩ := hl.cons_
  obtain ⟨v1, r1, rfl, l1, hl⟩ := hl.cons_
  obtain ⟨v2, r2, rfl, l2, hl⟩ := hl.cons_
  obtain ⟨v3, r3, rfl, l3, hl⟩ := hl.cons_
  obtain ⟨v4, r4, rfl, l4, hl⟩ := hl.cons_
  obtain ⟨v5, r5, rfl, l5, hl⟩ := hl.cons_
  obtain ⟨v6, r6, rfl, l6, hl⟩ := hl.cons_
  obtain rfl := hl.nil_
  obtain ⟨n0, rfl, w0⟩ := l0.int_ Tryd.underlying3
  obtain ⟨n1, rfl, w1⟩ := l1.int_ Tryd.underlying3
  obtain ⟨n2, rfl, w2⟩ := l2.int_ Tryd.underlying2
  obtain ⟨n3, rfl, w3⟩ := l3.int_ Tryd.underlying59
  obtain ⟨n4, rfl, w4⟩ := l4.int_ Tryd.underlying59
  obtain ⟨n5, rfl, w5⟩ := l5.int_ Tryd.underlying59
  obtain ⟨n6, rfl, w6⟩ := l6.int_ Tryd.underlying3
  exact ⟨⟨n0, n1, n2, n3, n4, n5, n6⟩, rfl, trivial⟩
theorem cells_en : Tryd.prog.cellsOf 51 = 2 := by kernel_rfl
theorem leaves_en : leaves Tryd.prog 6 51 = some [3, 3] := by kernel_rfl
theorem hel_en {H : Type} {enc : TypeId × Value → H} {w : World} {base : Nat} {spare : Nat → Bool} {held : Bool} (m : Nat) (cs : List Value) (y : DataW H × List MemPlace)
    (h : DataW.trod enc Tryd.prog w base spare held m 51 cs = some y) : ∃ x : En, cs = enc_ x ∧ True := by
  have hl := leaves_of _ _ _ _ _ _ leaves_en h
  obtain ⟨v0, r0, rfl, l0, hl⟩ := hl.cons_
  obtain ⟨v1, r1, rfl, l1, hl⟩ := hl.cons_
  obtain rfl := hl.nil_
  obtain ⟨n0, rfl, w0⟩ := l0.int_ Tryd.underlying3
  obtain ⟨n1, rfl, w1⟩ := l1.int_ Tryd.underlying3
  exact ⟨⟨n0, n1⟩, rfl, trivial⟩

theorem bytes_cv : Tryd.prog.bytesOf 63 = 56 := by kernel_rfl
theorem reach_cv {n : Nat} {l : List CV} (hl : l.length = n) (h : n * Tryd.prog.bytesOf 63 ≤ reachBytes) : l.length * 56 ≤ 140737488351232 := by
  rw [bytes_cv] at h
  have : reachBytes = 140737488351232 := by decide
  omega
theorem pin8 {W : World} {A0 : Option Addr} {n0 c0 : Nat} {l0 : List CV} (s0 : Sl cvc W A0 n0 c0 l0) {A1 : Option Addr} {n1 c1 : Nat} {l1 : List CV} (s1 : Sl cvc W A1 n1 c1 l1) {A2 : Option Addr} {n2 c2 : Nat} {l2 : List CV} (s2 : Sl cvc W A2 n2 c2 l2) {A3 : Option Addr} {n3 c3 : Nat} {l3 : List CV} (s3 : Sl cvc W A3 n3 c3 l3) {A4 : Option Addr} {n4 c4 : Nat} {l4 : List CV} (s4 : Sl cvc W A4 n4 c4 l4) {A5 : Option Addr} {n5 c5 : Nat} {l5 : List CV} (s5 : Sl cvc W A5 n5 c5 l5) {A6 : Option Addr} {n6 c6 : Nat} {l6 : List CV} (s6 : Sl cvc W A6 n6 c6 l6) {A7 : Option Addr} {n7 c7 : Nat} {l7 : List CV} (s7 : Sl cvc W A7 n7 c7 l7) : PIn (fun _ => False) W [.slice A0 n0 c0, .slice A1 n1 c1, .slice A2 n2 c2, .slice A3 n3 c3, .slice A4 n4 c4, .slice A5 n5 c5, .slice A6 n6 c6, .slice A7 n7 c7] [l0, l1, l2, l3, l4, l5, l6, l7] :=
  ⟨rfl, rfl, fun j l hl => by
    match j, hl with
    | 0, hl => cases hl; exact ⟨_, _, _, rfl, s0, fun _ _ _ q => q⟩
    | 1, hl => cases hl; exact ⟨_, _, _, rfl, s1, fun _ _ _ q => q⟩
    | 2, hl => cases hl; exact ⟨_, _, _, rfl, s2, fun _ _ _ q => q⟩
    | 3, hl => cases hl; exact ⟨_, _, _, rfl, s3, fun _ _ _ q => q⟩
    | 4, hl => cases hl; exact ⟨_, _, _, rfl, s4, fun _ _ _ q => q⟩
    | 5, hl => cases hl; exact ⟨_, _, _, rfl, s5, fun _ _ _ q => q⟩
    | 6, hl => cases hl; exact ⟨_, _, _, rfl, s6, fun _ _ _ q => q⟩
    | 7, hl => cases hl; exact ⟨_, _, _, rfl, s7, fun _ _ _ q => q⟩
    | j + 8, hl => simp at hl⟩
theorem all8 {p : List CV → Prop} {l0 : List CV} (h0 : p l0) {l1 : List CV} (h1 : p l1) {l2 : List CV} (h2 : p l2) {l3 : List CV} (h3 : p l3) {l4 : List CV} (h4 : p l4) {l5 : List CV} (h5 : p l5) {l6 : List CV} (h6 : p l6) {l7 : List CV} (h7 : p l7) : ∀ l, l ∈ [l0, l1, l2, l3, l4, l5, l6, l7] → p l := by
  intro l hl
  simp only [List.mem_cons, List.not_mem_nil, or_false] at hl
  rcases hl with rfl | rfl | rfl | rfl | rfl | rfl | rfl | rfl
  · exact h0
  · exact h1
  · exact h2
  · exact h3
  · exact h4
  · exact h5
  · exact h6
  · exact h7
theorem et : Tryd.prog.globalNamed "errors.errorType" = some 0 := by kernel_rfl
theorem rt : (Tryd.prog.cutTypes.find? (·.1 == "internal/reflectlite.rtype")).map (·.2) = some 116 := by kernel_rfl
theorem tsize : Tryd.prog.types.size = 161 := by kernel_rfl
theorem oneRow : ((List.range 161).filter fun t => Tryd.prog.rowNamed t [101, 114, 114, 111, 114]) = [33] := by kernel_rfl
/-- What the condition gives a walk. -/
theorem handle_of_laid {W : World} (h : laidMetH Tryd.prog [("errors.errorType", Rows.laid_errors_errorType)] W) : GV W := by
  have h' : laidMet Tryd.prog [] W ∧ handlesMet Tryd.prog [("errors.errorType", Rows.laid_errors_errorType)] W := h
  obtain ⟨name, u, ty, e1, e2, e3, e4, e5⟩ := h'.2 _ (List.mem_singleton.2 rfl)
  have en : name = [101, 114, 114, 111, 114] := (Option.some.inj e1).symm
  subst en
  obtain rfl := Option.some.inj (rt.symm.trans e2)
  have hm : ty ∈ (List.range 161).filter fun t => Tryd.prog.rowNamed t [101, 114, 114, 111, 114] := List.mem_filter.2 ⟨List.mem_range.2 (by rw [← tsize]; exact e3), e4⟩
  rw [oneRow] at hm
  obtain rfl := List.mem_singleton.1 hm
  have hh : typeHandle Tryd.prog 33 = .pointer (some ⟨1, 33, none⟩) := by kernel_rfl
  rw [hh] at e5
  simpa [GV] using World.var?_cell et e5 0
/-- A world that meets the condition. -/
noncomputable def laidWorld (os : Os) : World :=
  let w0 := World.holding Tryd.prog os ⟨#[], #[], []⟩
  { w0 with heap := w0.heap.modify 0 fun
      | .cells _ t frozen => .cells #[.iface 116 (.agg #[.pointer (some ⟨1, 33, none⟩)])] t frozen
      | o => o }
theorem laidWorld_met (os : Os) (args : Array Value) : laidMetH Tryd.prog [("errors.errorType", Rows.laid_errors_errorType)] ((laidWorld os).forCall (fun _ _ => 0) ⟨#[], args, []⟩).memory :=
  laidMetH_of_parts (laidMet_nil _ _) (by kernel_rfl)
end Go.Proofs.YtknngjdcbldmgaaDoor
namespace Go.Proofs.YtknngjdcbldmgaaDoor
set_option linter.unusedVariables false
open Go.RowKit Go.ChangeShapes Go.WideShapes
theorem wf_i {n : Int} (h : (Lit.int .i64 n).wf = true) : I64 n := by
  have h1 : IntKind.i64.min = -9223372036854775808 := by decide
  have h2 : IntKind.i64.max = 9223372036854775807 := by decide
  simp [Lit.wf, h1, h2] at h
  unfold I64
  omega
theorem wf_u {n : Int} (h : (Lit.int .u64 n).wf = true) : U64 n := by
  have h1 : IntKind.u64.min = 0 := by decide
  have h2 : IntKind.u64.max = 18446744073709551615 := by decide
  simp [Lit.wf, h1, h2] at h
  unfold U64
  omega
theorem cells_ck : Tryd.prog.cellsOf 63 = 7 := by kernel_rfl
theorem leaves_ck : leaves Tryd.prog 6 63 = some [3, 3, 2, 59, 59, 59, 3] := by kernel_rfl
theorem hel_ck {H : Type} {enc : TypeId × Value → H} {w : World} {base : Nat} {spare : Nat → Bool} {held : Bool} (m : Nat) (cs : List Value) (y : DataW H × List MemPlace)
    (h : DataW.trod enc Tryd.prog w base spare held m 63 cs = some y) : ∃ x : CV, cs = cvc x ∧ CVk x := by
  have hl := leaves_of _ _ _ _ _ _ leaves_ck h
  obtain ⟨v0, r0, rfl, l0, hl⟩ := hl.cons_
  obtain ⟨v1, r1, rfl, l1, hl⟩ := hl.cons_
  obtain ⟨v2, r2, rfl, l2, hl⟩ := hl.cons_
  obtain ⟨v3, r3, rfl, l3, hl⟩ := hl.cons_
  obtain ⟨v4, r4, rfl, l4, hl⟩ := hl.cons_
  obtain ⟨v5, r5, rfl, l5, hl⟩ := hl.cons_
  obtain ⟨v6, r6, rfl, l6, hl⟩ := hl.cons_
  obtain rfl := hl.nil_
  obtain ⟨n0, rfl, w0⟩ := l0.int_ Tryd.underlying3
  obtain ⟨n1, rfl, w1⟩ := l1.int_ Tryd.underlying3
  obtain ⟨n2, rfl, w2⟩ := l2.int_ Tryd.underlying2
  obtain ⟨n3, rfl, w3⟩ := l3.int_ Tryd.underlying59
  obtain ⟨n4, rfl, w4⟩ := l4.int_ Tryd.underlying59
  obtain ⟨n5, rfl, w5⟩ := l5.int_ Tryd.underlying59
  obtain ⟨n6, rfl, w6⟩ := l6.int_ Tryd.underlying3
  exact ⟨⟨n0, n1, n2, n3, n4, n5, n6⟩, rfl, ⟨wf_u w3, wf_u w4, wf_u w5⟩, wf_i w2⟩
end Go.Proofs.YtknngjdcbldmgaaDoor
namespace Go.Proofs.YtknngjdcbldmgaaDoor
set_option linter.unusedVariables false
open Go.RowKit Go.ChangeShapes Go.WideShapes
theorem wf_b {n : Int} (h : (Lit.int .u8 n).wf = true) : 0 ≤ n ∧ n < 256 := by
  have h1 : IntKind.u8.min = 0 := by decide
  have h2 : IntKind.u8.max = 255 := by decide
  simp [Lit.wf, h1, h2] at h
  omega
theorem cells_b8 : Tryd.prog.cellsOf 5 = 1 := by kernel_rfl
theorem leaves_b8 : leaves Tryd.prog 6 5 = some [5] := by kernel_rfl
theorem hel_b8 {H : Type} {enc : TypeId × Value → H} {w : World} {base : Nat} {spare : Nat → Bool} {held : Bool} (m : Nat) (cs : List Value) (y : DataW H × List MemPlace)
    (h : DataW.trod enc Tryd.prog w base spare held m 5 cs = some y) : ∃ x : Int, cs = b8l x ∧ (0 ≤ x ∧ x < 256) := by
  have hl := leaves_of _ _ _ _ _ _ leaves_b8 h
  obtain ⟨v0, r0, rfl, l0, hl⟩ := hl.cons_
  obtain rfl := hl.nil_
  obtain ⟨n0, rfl, w0⟩ := l0.int_ Tryd.underlying5
  exact ⟨n0, rfl, wf_b w0⟩
end Go.Proofs.YtknngjdcbldmgaaDoor
