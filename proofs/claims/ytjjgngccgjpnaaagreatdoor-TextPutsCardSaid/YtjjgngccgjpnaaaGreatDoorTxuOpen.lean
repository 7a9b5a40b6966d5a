/- Scripts that come in, with what their words may be. -/
import Derived.Test.YtjjgngccgjpnaaaGreatDoorOpenR
import Derived.Test.YtjjgngccgjpnaaaGreatDoorTxtOpen
import Derived.Test.YtjjgngccgjpnaaaGreatDoorTxuNM
namespace Go.Proofs.YtjjgngccgjpnaaaGreatDoor
set_option linter.unusedVariables false
open Go.RowKit Go.ChangeShapes Go.WideShapes
instance instInhabitedCV : Inhabited CV := ⟨⟨0, 0, 0, 0, 0, 0, 0⟩⟩
instance instInhabitedEn : Inhabited En := ⟨⟨0, 0⟩⟩
theorem cells_cv : Tryz.prog.cellsOf 51 = 7 := by kernel_rfl
theorem leaves_cv : leaves Tryz.prog 6 51 = some [3, 3, 2, 47, 47, 47, 3] := by kernel_rfl
theorem hel_cv {H : Type} {enc : TypeId × Value → H} {w : World} {base : Nat} {spare : Nat → Bool} {held : Bool} (m : Nat) (cs : List Value) (y : DataW H × List MemPlace)
    (h : DataW.trod enc Tryz.prog w base spare held m 51 cs = some y) : ∃ x : CV, cs = cvc x ∧ True := by
  have hl := leaves_of _ _ _ _ _ _ leaves_cv h
  obtain ⟨v0, r0, rfl, l0, hl⟩ := hl.cons_
  obtain ⟨v1, r1, rfl, l1, hl⟩ := hl.cons_
  obtain ⟨v2, r2, rfl, l2, hl⟩ := hl.cons_
  obtain ⟨v3, r3, rfl, l3, hl⟩ := hl.cons_
  obtain ⟨v4, r4, rfl, l4, hl⟩ := hl.cons_
  obtain ⟨v5, r5, rfl, l5, hl⟩ := hl.cons_
  obtain ⟨v6, r6, rfl, l6, hl⟩ := hl.cons_
  obtain rfl := hl.nil_
  obtain ⟨n0, rfl, w0⟩ := l0.int_ Tryz.underlying3
  obtain ⟨n1, rfl, w1⟩ := l1.int_ Tryz.underlying3
  obtain ⟨n2, rfl, w2⟩ := l2.int_ Tryz.underlying2
  obtain ⟨n3, rfl, w3⟩ := l3.int_ Tryz.underlying47
  obtain ⟨n4, rfl, w4⟩ := l4.int_ Tryz.underlying47
  obtain ⟨n5, rfl, w5⟩ := l5.int_ Tryz.underlying47
  obtain ⟨n6, rfl, w6⟩ := l6.int_ Tryz.underlying3
  exact ⟨⟨n0, n1, n2, n3, n4, n5, n6⟩, rfl, trivial⟩
theorem cells_en : Tryz.prog.cellsOf 61 = 2 := by kernel_rfl
theorem leaves_en : leaves Tryz.prog 6 61 = some [3, 3] := by kernel_rfl
theorem hel_en {H : Type} {enc : TypeId × Value → H} {w : World} {base : Nat} {spare : Nat → Bool} {held : Bool} (m : Nat) (cs : List Value) (y : DataW H × List MemPlace)
    (h : DataW.trod enc Tryz.prog w base spare held m 61 cs = some y) : ∃ x : En, cs = enc_ x ∧ True := by
  have hl := leaves_of _ _ _ _ _ _ leaves_en h
  obtain ⟨v0, r0, rfl, l0, hl⟩ := hl.cons_
  obtain ⟨v1, r1, rfl, l1, hl⟩ := hl.cons_
  obtain rfl := hl.nil_
  obtain ⟨n0, rfl, w0⟩ := l0.int_ Tryz.underlying3
  obtain ⟨n1, rfl, w1⟩ := l1.int_ Tryz.underlying3
  exact ⟨⟨n0, n1⟩, rfl, trivial⟩

theorem bytes_cv : Tryz.prog.bytesOf 51 = 56 := by kernel_rfl
theorem reach_cv {n : Nat} {l : List CV} (hl : l.length = n) (h : n * Tryz.prog.bytesOf 51 ≤ reachBytes) : l.length * 56 ≤ 140737488351232 := by
  rw [bytes_cv] at h
  have : reachBytes = 140737488351232 := by decide
  omega
theorem pin8 {W : World} {A0 : Option Addr} {n0 c0 : Nat} {l0 : List CV} (s0 : Sl cvc W A0 n0 c0 l0) {A1 : Option Addr} {n1 c1 : Nat} {l1 : List CV} (s1 : Sl cvc W A1 n1 c1 l1) {A2 : Option Addr} {n2 c2 : Nat} {l2 : List CV} (s2 : Sl cvc W A2 n2 c2 l2) {A3 : Option Addr} {n3 c3 : Nat} {l3 : List CV} (s3 : Sl cvc W A3 n3 c3 l3) {A4 : Option Addr} {n4 c4 : Nat} {l4 : List CV} (s4 : Sl cvc W A4 n4 c4 l4) {A5 : Option Addr} {n5 c5 : Nat} {l5 : List CV} (s5 : Sl cvc W A5 n5 c5 l5) {A6 : Option Addr} {n6 c6 : Nat} {l6 : List CV} (s6 : Sl cvc W A6 n6 c6 l6) {A7 : Option Addr} {n7 c7 : Nat} {l7 : List CV} (s7 : Sl cvc W A7 n7 c7 l7) : PIn (fun _ => False) W [.slice A0 n0 c0, .slice A1 n1 c1, .slice A2 n2 c2, .slice A3 n3 c3, .slice A4 n4 c4, .slice A5 n5 c5, .slice A6 n6 c6, .slice A7 n7 c7] [l0, l1, l2, l3, l4, l5, l6, l7] :=
  ⟨rfl, rfl, fun j l hl => by
    match j, hl with
    | 0, hl => cases hl; exact ⟨_, _, _, rfl, s0, fun _ _ _ q => q⟩
    | 1, hl => cases hl; exact ⟨_, _, _, rfl, s1, fun _ _ _ q => q⟩
    | 2, hl => cases hl; exact ⟨_, _, _, rfl, s2, fun _ _ _ q => q⟩
    | 3, hl => cases hl; exact ⟨_, _, _, rfl, s3, fun _ _ _ q => q⟩
    | 4, hl => cases hl; exact ⟨_, _, _, rfl, s4, fun _ _ _ q => q⟩
    | 5, hl => cases hl; exact ⟨_, _, _, rfl, s5, fun _ _ _ q => q⟩
    | 6, hl => cases hl; exact ⟨_, _, _, rfl, s6, fun _ _ _ q => q⟩
    | 7, hl => cases hl; exact ⟨_, _, _, rfl, s7, fun _ _ _ q => q⟩
    | j + 8, hl => simp at hl⟩
theorem all8 {p : List CV → Prop} {l0 : List CV} (h0 : p l0) {l1 : List CV} (h1 : p l1) {l2 : List CV} (h2 : p l2) {l3 : List CV} (h3 : p l3) {l4 : List CV} (h4 : p l4) {l5 : List CV} (h5 : p l5) {l6 : List CV} (h6 : p l6) {l7 : List CV} (h7 : p l7) : ∀ l, l ∈ [l0, l1, l2, l3, l4, l5, l6, l7] → p l := by
  intro l hl
  simp only [List.mem_cons, List.not_mem_nil, or_false] at hl
  rcases hl with rfl | rfl | rfl | rfl | rfl | rfl | rfl | rfl
  · exact h0
  · exact h1
  · exact h2
  · exact h3
  · exact h4
  · exact h5
  · exact h6
  · exact h7
theorem cells_ck : Tryz.prog.cellsOf 51 = 7 := by kernel_rfl
theorem leaves_ck : leaves Tryz.prog 6 51 = some [3, 3, 2, 47, 47, 47, 3] := by kernel_rfl
theorem hel_ck {H : Type} {enc : TypeId × Value → H} {w : World} {base : Nat} {spare : Nat → Bool} {held : Bool} (m : Nat) (cs : List Value) (y : DataW H × List MemPlace)
    (h : DataW.trod enc Tryz.prog w base spare held m 51 cs = some y) : ∃ x : CV, cs = cvc x ∧ CVi x := by
  have hl := leaves_of _ _ _ _ _ _ leaves_ck h
  obtain ⟨v0, r0, rfl, l0, hl⟩ := hl.cons_
  obtain ⟨v1, r1, rfl, l1, hl⟩ := hl.cons_
  obtain ⟨v2, r2, rfl, l2, hl⟩ := hl.cons_
  obtain ⟨v3, r3, rfl, l3, hl⟩ := hl.cons_
  obtain ⟨v4, r4, rfl, l4, hl⟩ := hl.cons_
  obtain ⟨v5, r5, rfl, l5, hl⟩ := hl.cons_
  obtain ⟨v6, r6, rfl, l6, hl⟩ := hl.cons_
  obtain rfl := hl.nil_
  obtain ⟨n0, rfl, w0⟩ := l0.int_ Tryz.underlying3
  obtain ⟨n1, rfl, w1⟩ := l1.int_ Tryz.underlying3
  obtain ⟨n2, rfl, w2⟩ := l2.int_ Tryz.underlying2
  obtain ⟨n3, rfl, w3⟩ := l3.int_ Tryz.underlying47
  obtain ⟨n4, rfl, w4⟩ := l4.int_ Tryz.underlying47
  obtain ⟨n5, rfl, w5⟩ := l5.int_ Tryz.underlying47
  obtain ⟨n6, rfl, w6⟩ := l6.int_ Tryz.underlying3
  exact ⟨⟨n0, n1, n2, n3, n4, n5, n6⟩, rfl, ⟨wf_i w0, wf_i w1, wf_i w2, wf_i w6⟩, wf_u w3, wf_u w4, wf_u w5⟩
end Go.Proofs.YtjjgngccgjpnaaaGreatDoor
