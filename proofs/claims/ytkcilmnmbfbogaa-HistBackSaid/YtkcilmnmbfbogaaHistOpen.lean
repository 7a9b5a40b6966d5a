/- Events and opers that come in. -/
import Derived.Test.YtkcilmnmbfbogaaOpen
import Derived.Test.YtkcilmnmbfbogaaHistC
namespace Go.Proofs.Ytkcilmnmbfbogaa
set_option linter.unusedVariables false
open Go.RowKit Go.ChangeShapes Go.WideShapes
instance instInhabitedEv : Inhabited Ev := ⟨⟨0, false, cv0, av0⟩⟩
instance instInhabitedOpp : Inhabited Opp := ⟨⟨0, cv0, av0, 0, 0⟩⟩
theorem cells_ev : Try.prog.cellsOf 45 = 15 := by kernel_rfl
theorem leaves_ev : leaves Try.prog 6 45 = some [3, 4, 3, 3, 2, 30, 30, 30, 3, 35, 30, 30, 30, 3, 2] := by kernel_rfl
theorem hel_ev {H : Type} {enc : TypeId × Value → H} {w : World} {base : Nat} {spare : Nat → Bool} {held : Bool} (m : Nat) (cs : List Value) (y : DataW H × List MemPlace)
    (h : DataW.trod enc Try.prog w base spare held m 45 cs = some y) : ∃ x : Ev, cs = evc x ∧ True := by
  have hl := leaves_of _ _ _ _ _ _ leaves_ev h
  obtain ⟨v0, r0, rfl, l0, hl⟩ := hl.cons_
  obtain ⟨v1, r1, rfl, l1, hl⟩ := hl.cons_
  obtain ⟨v2, r2, rfl, l2, hl⟩ := hl.cons_
  obtain ⟨v3, r3, rfl, l3, hl⟩ := hl.cons_
  obtain ⟨v4, r4, rfl, l4, hl⟩ := hl.cons_
  obtain ⟨v5, r5, rfl, l5, hl⟩ := hl.cons_
  obtain ⟨v6, r6, rfl, l6, hl⟩ := hl.cons_
  obtain ⟨v7, r7, rfl, l7, hl⟩ := hl.cons_
  obtain ⟨v8, r8, rfl, l8, hl⟩ := hl.cons_
  obtain ⟨v9, r9, rfl, l9, hl⟩ := hl.cons_
  obtain ⟨v10, r10, rfl, l10, hl⟩ := hl.cons_
  obtain ⟨v11, r11, rfl, l11, hl⟩ := hl.cons_
  obtain ⟨v12, r12, rfl, l12, hl⟩ := hl.cons_
  obtain ⟨v13, r13, rfl, l13, hl⟩ := hl.cons_
  obtain ⟨v14, r14, rfl, l14, hl⟩ := hl.cons_
  obtain rfl := hl.nil_
  obtain ⟨n0, rfl, w0⟩ := l0.int_ Try.underlying3
  obtain ⟨n1, rfl⟩ := l1.bool_ Try.underlying4
  obtain ⟨n2, rfl, w2⟩ := l2.int_ Try.underlying3
  obtain ⟨n3, rfl, w3⟩ := l3.int_ Try.underlying3
  obtain ⟨n4, rfl, w4⟩ := l4.int_ Try.underlying2
  obtain ⟨n5, rfl, w5⟩ := l5.int_ Try.underlying30
  obtain ⟨n6, rfl, w6⟩ := l6.int_ Try.underlying30
  obtain ⟨n7, rfl, w7⟩ := l7.int_ Try.underlying30
  obtain ⟨n8, rfl, w8⟩ := l8.int_ Try.underlying3
  obtain ⟨n9, rfl, w9⟩ := l9.int_ Try.underlying35
  obtain ⟨n10, rfl, w10⟩ := l10.int_ Try.underlying30
  obtain ⟨n11, rfl, w11⟩ := l11.int_ Try.underlying30
  obtain ⟨n12, rfl, w12⟩ := l12.int_ Try.underlying30
  obtain ⟨n13, rfl, w13⟩ := l13.int_ Try.underlying3
  obtain ⟨n14, rfl, w14⟩ := l14.int_ Try.underlying2
  exact ⟨⟨n0, n1, ⟨n2, n3, n4, n5, n6, n7, n8⟩, ⟨n9, n10, n11, n12, n13, n14⟩⟩, rfl, trivial⟩
theorem cells_op : Try.prog.cellsOf 39 = 16 := by kernel_rfl
theorem leaves_op : leaves Try.prog 6 39 = some [3, 3, 3, 2, 30, 30, 30, 3, 35, 30, 30, 30, 3, 2, 3, 3] := by kernel_rfl
theorem hel_op {H : Type} {enc : TypeId × Value → H} {w : World} {base : Nat} {spare : Nat → Bool} {held : Bool} (m : Nat) (cs : List Value) (y : DataW H × List MemPlace)
    (h : DataW.trod enc Try.prog w base spare held m 39 cs = some y) : ∃ x : Opp, cs = opc x ∧ True := by
  have hl := leaves_of _ _ _ _ _ _ leaves_op h
  obtain ⟨v0, r0, rfl, l0, hl⟩ := hl.cons_
  obtain ⟨v1, r1, rfl, l1, hl⟩ := hl.cons_
  obtain ⟨v2, r2, rfl, l2, hl⟩ := hl.cons_
  obtain ⟨v3, r3, rfl, l3, hl⟩ := hl.cons_
  obtain ⟨v4, r4, rfl, l4, hl⟩ := hl.cons_
  obtain ⟨v5, r5, rfl, l5, hl⟩ := hl.cons_
  obtain ⟨v6, r6, rfl, l6, hl⟩ := hl.cons_
  obtain ⟨v7, r7, rfl, l7, hl⟩ := hl.cons_
  obtain ⟨v8, r8, rfl, l8, hl⟩ := hl.cons_
  obtain ⟨v9, r9, rfl, l9, hl⟩ := hl.cons_
  obtain ⟨v10, r10, rfl, l10, hl⟩ := hl.cons_
  obtain ⟨v11, r11, rfl, l11, hl⟩ := hl.cons_
  obtain ⟨v12, r12, rfl, l12, hl⟩ := hl.cons_
  obtain ⟨v13, r13, rfl, l13, hl⟩ := hl.cons_
  obtain ⟨v14, r14, rfl, l14, hl⟩ := hl.cons_
  obtain ⟨v15, r15, rfl, l15, hl⟩ := hl.cons_
  obtain rfl := hl.nil_
  obtain ⟨n0, rfl, w0⟩ := l0.int_ Try.underlying3
  obtain ⟨n1, rfl, w1⟩ := l1.int_ Try.underlying3
  obtain ⟨n2, rfl, w2⟩ := l2.int_ Try.underlying3
  obtain ⟨n3, rfl, w3⟩ := l3.int_ Try.underlying2
  obtain ⟨n4, rfl, w4⟩ := l4.int_ Try.underlying30
  obtain ⟨n5, rfl, w5⟩ := l5.int_ Try.underlying30
  obtain ⟨n6, rfl, w6⟩ := l6.int_ Try.underlying30
  obtain ⟨n7, rfl, w7⟩ := l7.int_ Try.underlying3
  obtain ⟨n8, rfl, w8⟩ := l8.int_ Try.underlying35
  obtain ⟨n9, rfl, w9⟩ := l9.int_ Try.underlying30
  obtain ⟨n10, rfl, w10⟩ := l10.int_ Try.underlying30
  obtain ⟨n11, rfl, w11⟩ := l11.int_ Try.underlying30
  obtain ⟨n12, rfl, w12⟩ := l12.int_ Try.underlying3
  obtain ⟨n13, rfl, w13⟩ := l13.int_ Try.underlying2
  obtain ⟨n14, rfl, w14⟩ := l14.int_ Try.underlying3
  obtain ⟨n15, rfl, w15⟩ := l15.int_ Try.underlying3
  exact ⟨⟨n0, ⟨n1, n2, n3, n4, n5, n6, n7⟩, ⟨n8, n9, n10, n11, n12, n13⟩, n14, n15⟩, rfl, trivial⟩
end Go.Proofs.Ytkcilmnmbfbogaa
