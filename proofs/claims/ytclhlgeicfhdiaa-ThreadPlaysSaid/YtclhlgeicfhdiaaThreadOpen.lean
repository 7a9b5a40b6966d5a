/- Calls of a thread that come in. -/
import Derived.Test.YtclhlgeicfhdiaaOpen
import Derived.Test.YtclhlgeicfhdiaaThreadA
namespace Go.Proofs.Ytclhlgeicfhdiaa
set_option linter.unusedVariables false
open Go.RowKit Go.ChangeShapes Go.WideShapes
theorem cells_us : Try.prog.cellsOf 33 = 1 := by kernel_rfl
theorem leaves_us : leaves Try.prog 4 33 = some [33] := by kernel_rfl
theorem hel_us {H : Type} {enc : TypeId × Value → H} {w : World} {base : Nat} {spare : Nat → Bool} {held : Bool} (m : Nat) (cs : List Value) (y : DataW H × List MemPlace)
    (h : DataW.trod enc Try.prog w base spare held m 33 cs = some y) : ∃ x : Int, cs = us x ∧ True := by
  have hl := leaves_of _ _ _ _ _ _ leaves_us h
  obtain ⟨v0, r0, rfl, l0, hl⟩ := hl.cons_
  obtain rfl := hl.nil_
  obtain ⟨n0, rfl, w0⟩ := l0.int_ Try.underlying33
  exact ⟨n0, rfl, trivial⟩

/-- A call. -/
structure TOp where
  (k n : Int)
  A : Option Addr
  (rn rc : Nat)
  l : List Int
instance instInhabitedTOp : Inhabited TOp := ⟨⟨0, 0, none, 0, 0, []⟩⟩
def toc (o : TOp) : List Value := [.int .i64 o.k, .int .i64 o.n, .slice o.A o.rn o.rc]
theorem toc_len (o : TOp) : (toc o).length = 3 := rfl
theorem cells_to : Try.prog.cellsOf 30 = 3 := by kernel_rfl
theorem leaves_to : leaves Try.prog 4 30 = some [3, 3, 23] := by kernel_rfl
theorem hel_to {H : Type} {enc : TypeId × Value → H} {w : World} {base : Nat} {spare : Nat → Bool} {held : Bool} (m : Nat) (cs : List Value) (y : DataW H × List MemPlace)
    (h : DataW.trod enc Try.prog w base spare held m 30 cs = some y) : ∃ x : TOp, cs = toc x ∧ Sl us w x.A x.rn x.rc x.l := by
  have hl := leaves_of _ _ _ _ _ _ leaves_to h
  obtain ⟨v0, r0, rfl, l0, hl⟩ := hl.cons_
  obtain ⟨v1, r1, rfl, l1, hl⟩ := hl.cons_
  obtain ⟨v2, r2, rfl, l2, hl⟩ := hl.cons_
  obtain rfl := hl.nil_
  obtain ⟨n0, rfl, w0⟩ := l0.int_ Try.underlying3
  obtain ⟨n1, rfl, w1⟩ := l1.int_ Try.underlying3
  obtain ⟨A, n, c, l, rfl, s, _, _⟩ := l2.slice_ us_len Try.underlying23 cells_us hel_us
  exact ⟨⟨n0, n1, A, n, c, l⟩, rfl, s⟩
theorem wf_i {n : Int} (h : (Lit.int .i64 n).wf = true) : -9223372036854775808 ≤ n ∧ n ≤ 9223372036854775807 := by
  have h1 : IntKind.i64.min = -9223372036854775808 := by decide
  have h2 : IntKind.i64.max = 9223372036854775807 := by decide
  simp [Lit.wf, h1, h2] at h
  omega
end Go.Proofs.Ytclhlgeicfhdiaa
