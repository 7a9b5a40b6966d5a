/-
  No cell of these rows narrows 'for every input' (looked for: loops, veiled, ifaces, maps, wideKeys, modest, calm, conditions, laid).
  DERIVED. THE GIVEN ROWS OF THIS SEAT. 13 by the template 'for every input the law returns true; each argument reads behind the call as it read before'; 0 by the template 'total and deterministic' (their statements: YtmjihjbedgbhbaaTotals.lean).
  GIVEN WITH THE SEED: the statements are not yours to turn. If you find one false, say at which input.
  Laid BY PROGRAM, IN A SANDBOX (cutbox-rows.mjs): the forced cells as the released guide's own fill.sh prints them over the translation 5c8a5a483d093711… (all of the seat's roots in one cut). By AI agents, Wed Nov 11 2026. No macro, syntax, notation, axiom, sorry.
-/
import Derived.Test.YtmjihjbedgbhbaaChecked
import GoSem.Claim
import GoSem.ClaimJoined
import GoSem.ClaimMapViews
import Derived.JoinedTies
import Derived.KernelRfl
namespace Go.Proofs.Ytmjihjbedgbhbaa
/- THE CELL 'sum', in the pinned program and in every row, IS THE sha256 OF THE DUMP (.gsa) THAT YtmjihjbedgbhbaaProg.lean LOADS. Nothing in Lean hashes anything: it is a label: what it is worth is what the hold of that sum in a sandbox is worth. -/
noncomputable def Try.pinned : Pinned := { name := "ytmjihjbedgbhbaa", sum := "5c8a5a483d09371186219f8ba42daa29d581476b7a25103e59838526379495ee", checked := Try.checked }
namespace Rows
def none {H : Type} : Left H := { results := [], args := [] }

/-- 'burnbaglaw02.LinkMakes': WHATEVER THE INPUT: true; the input reads as it did. -/
def linkMakesSpec : ChangeSpec := { name := "linkMakes", fn := fun _ => fun
  | [d1, d2] => { results := [.lit (.bool true)], args := [d1, d2] }
  | _ => none }
def linkMakesRow : OpenClaim := { program := "ytmjihjbedgbhbaa", sum := "5c8a5a483d09371186219f8ba42daa29d581476b7a25103e59838526379495ee", func := "burnbag/burnbaglaw02.LinkMakes", spec := "linkMakes", apart := false }
def LinkMakesSaid : Prop := linkMakesRow.holds Try.pinned (OpenSpec.ofChange linkMakesSpec)

/-- ITS FALSE NEIGHBOUR: 'it returns false'. Refute it at one input. -/
def linkMakesWrong : ChangeSpec := { name := "linkMakes", fn := fun _ => fun
  | [d1, d2] => { results := [.lit (.bool false)], args := [d1, d2] }
  | _ => none }
def LinkMakesWrongFalsely : Prop := linkMakesRow.holds Try.pinned (OpenSpec.ofChange linkMakesWrong)

/-- 'burnbaglaw02.LinkTops': WHATEVER THE INPUT: true; the input reads as it did. -/
def linkTopsSpec : ChangeSpec := { name := "linkTops", fn := fun _ => fun
  | [d1, d2, d3] => { results := [.lit (.bool true)], args := [d1, d2, d3] }
  | _ => none }
def linkTopsRow : OpenClaim := { program := "ytmjihjbedgbhbaa", sum := "5c8a5a483d09371186219f8ba42daa29d581476b7a25103e59838526379495ee", func := "burnbag/burnbaglaw02.LinkTops", spec := "linkTops", apart := false }
def LinkTopsSaid : Prop := linkTopsRow.holds Try.pinned (OpenSpec.ofChange linkTopsSpec)

/-- ITS FALSE NEIGHBOUR: 'it returns false'. Refute it at one input. -/
def linkTopsWrong : ChangeSpec := { name := "linkTops", fn := fun _ => fun
  | [d1, d2, d3] => { results := [.lit (.bool false)], args := [d1, d2, d3] }
  | _ => none }
def LinkTopsWrongFalsely : Prop := linkTopsRow.holds Try.pinned (OpenSpec.ofChange linkTopsWrong)

/-- 'burnbaglaw03.HandleHeads': WHATEVER THE INPUT: true; the input reads as it did. -/
def handleHeadsSpec : ChangeSpec := { name := "handleHeads", fn := fun _ => fun
  | [d1, d2, d3] => { results := [.lit (.bool true)], args := [d1, d2, d3] }
  | _ => none }
def handleHeadsRow : OpenClaim := { program := "ytmjihjbedgbhbaa", sum := "5c8a5a483d09371186219f8ba42daa29d581476b7a25103e59838526379495ee", func := "burnbag/burnbaglaw03.HandleHeads", spec := "handleHeads", apart := false }
def HandleHeadsSaid : Prop := handleHeadsRow.holds Try.pinned (OpenSpec.ofChange handleHeadsSpec)

/-- ITS FALSE NEIGHBOUR: 'it returns false'. Refute it at one input. -/
def handleHeadsWrong : ChangeSpec := { name := "handleHeads", fn := fun _ => fun
  | [d1, d2, d3] => { results := [.lit (.bool false)], args := [d1, d2, d3] }
  | _ => none }
def HandleHeadsWrongFalsely : Prop := handleHeadsRow.holds Try.pinned (OpenSpec.ofChange handleHeadsWrong)

/-- 'burnbaglaw03.HandleParts': WHATEVER THE INPUT: true; the input reads as it did. -/
def handlePartsSpec : ChangeSpec := { name := "handleParts", fn := fun _ => fun
  | [d1, d2] => { results := [.lit (.bool true)], args := [d1, d2] }
  | _ => none }
def handlePartsRow : OpenClaim := { program := "ytmjihjbedgbhbaa", sum := "5c8a5a483d09371186219f8ba42daa29d581476b7a25103e59838526379495ee", func := "burnbag/burnbaglaw03.HandleParts", spec := "handleParts", apart := false }
def HandlePartsSaid : Prop := handlePartsRow.holds Try.pinned (OpenSpec.ofChange handlePartsSpec)

/-- ITS FALSE NEIGHBOUR: 'it returns false'. Refute it at one input. -/
def handlePartsWrong : ChangeSpec := { name := "handleParts", fn := fun _ => fun
  | [d1, d2] => { results := [.lit (.bool false)], args := [d1, d2] }
  | _ => none }
def HandlePartsWrongFalsely : Prop := handlePartsRow.holds Try.pinned (OpenSpec.ofChange handlePartsWrong)

/-- 'burnbaglaw02.LinkParts': WHATEVER THE INPUT: true; the input reads as it did. -/
def linkPartsSpec : ChangeSpec := { name := "linkParts", fn := fun _ => fun
  | [d1, d2] => { results := [.lit (.bool true)], args := [d1, d2] }
  | _ => none }
def linkPartsRow : OpenClaim := { program := "ytmjihjbedgbhbaa", sum := "5c8a5a483d09371186219f8ba42daa29d581476b7a25103e59838526379495ee", func := "burnbag/burnbaglaw02.LinkParts", spec := "linkParts", apart := false }
def LinkPartsSaid : Prop := linkPartsRow.holds Try.pinned (OpenSpec.ofChange linkPartsSpec)

/-- ITS FALSE NEIGHBOUR: 'it returns false'. Refute it at one input. -/
def linkPartsWrong : ChangeSpec := { name := "linkParts", fn := fun _ => fun
  | [d1, d2] => { results := [.lit (.bool false)], args := [d1, d2] }
  | _ => none }
def LinkPartsWrongFalsely : Prop := linkPartsRow.holds Try.pinned (OpenSpec.ofChange linkPartsWrong)

/-- 'burnbaglaw02.LinkKeeps': WHATEVER THE INPUT: true; the input reads as it did. -/
def linkKeepsSpec : ChangeSpec := { name := "linkKeeps", fn := fun _ => fun
  | [d1, d2, d3] => { results := [.lit (.bool true)], args := [d1, d2, d3] }
  | _ => none }
def linkKeepsRow : OpenClaim := { program := "ytmjihjbedgbhbaa", sum := "5c8a5a483d09371186219f8ba42daa29d581476b7a25103e59838526379495ee", func := "burnbag/burnbaglaw02.LinkKeeps", spec := "linkKeeps", apart := false }
def LinkKeepsSaid : Prop := linkKeepsRow.holds Try.pinned (OpenSpec.ofChange linkKeepsSpec)

/-- ITS FALSE NEIGHBOUR: 'it returns false'. Refute it at one input. -/
def linkKeepsWrong : ChangeSpec := { name := "linkKeeps", fn := fun _ => fun
  | [d1, d2, d3] => { results := [.lit (.bool false)], args := [d1, d2, d3] }
  | _ => none }
def LinkKeepsWrongFalsely : Prop := linkKeepsRow.holds Try.pinned (OpenSpec.ofChange linkKeepsWrong)

/-- 'burnbaglaw01.FieldSigns': WHATEVER THE INPUT: true; the input reads as it did. -/
def fieldSignsSpec : ChangeSpec := { name := "fieldSigns", fn := fun _ => fun
  | [d1, d2] => { results := [.lit (.bool true)], args := [d1, d2] }
  | _ => none }
def fieldSignsRow : OpenClaim := { program := "ytmjihjbedgbhbaa", sum := "5c8a5a483d09371186219f8ba42daa29d581476b7a25103e59838526379495ee", func := "burnbag/burnbaglaw01.FieldSigns", spec := "fieldSigns", apart := false }
def FieldSignsSaid : Prop := fieldSignsRow.holds Try.pinned (OpenSpec.ofChange fieldSignsSpec)

/-- ITS FALSE NEIGHBOUR: 'it returns false'. Refute it at one input. -/
def fieldSignsWrong : ChangeSpec := { name := "fieldSigns", fn := fun _ => fun
  | [d1, d2] => { results := [.lit (.bool false)], args := [d1, d2] }
  | _ => none }
def FieldSignsWrongFalsely : Prop := fieldSignsRow.holds Try.pinned (OpenSpec.ofChange fieldSignsWrong)

/-- 'burnbaglaw01.FieldCuts': WHATEVER THE INPUT: true; the input reads as it did. -/
def fieldCutsSpec : ChangeSpec := { name := "fieldCuts", fn := fun _ => fun
  | [d1, d2, d3] => { results := [.lit (.bool true)], args := [d1, d2, d3] }
  | _ => none }
def fieldCutsRow : OpenClaim := { program := "ytmjihjbedgbhbaa", sum := "5c8a5a483d09371186219f8ba42daa29d581476b7a25103e59838526379495ee", func := "burnbag/burnbaglaw01.FieldCuts", spec := "fieldCuts", apart := false }
def FieldCutsSaid : Prop := fieldCutsRow.holds Try.pinned (OpenSpec.ofChange fieldCutsSpec)

/-- ITS FALSE NEIGHBOUR: 'it returns false'. Refute it at one input. -/
def fieldCutsWrong : ChangeSpec := { name := "fieldCuts", fn := fun _ => fun
  | [d1, d2, d3] => { results := [.lit (.bool false)], args := [d1, d2, d3] }
  | _ => none }
def FieldCutsWrongFalsely : Prop := fieldCutsRow.holds Try.pinned (OpenSpec.ofChange fieldCutsWrong)

/-- 'burnbaglaw01.FieldSets': WHATEVER THE INPUT: true; the input reads as it did. -/
def fieldSetsSpec : ChangeSpec := { name := "fieldSets", fn := fun _ => fun
  | [d1, d2, d3] => { results := [.lit (.bool true)], args := [d1, d2, d3] }
  | _ => none }
def fieldSetsRow : OpenClaim := { program := "ytmjihjbedgbhbaa", sum := "5c8a5a483d09371186219f8ba42daa29d581476b7a25103e59838526379495ee", func := "burnbag/burnbaglaw01.FieldSets", spec := "fieldSets", apart := false }
def FieldSetsSaid : Prop := fieldSetsRow.holds Try.pinned (OpenSpec.ofChange fieldSetsSpec)

/-- ITS FALSE NEIGHBOUR: 'it returns false'. Refute it at one input. -/
def fieldSetsWrong : ChangeSpec := { name := "fieldSets", fn := fun _ => fun
  | [d1, d2, d3] => { results := [.lit (.bool false)], args := [d1, d2, d3] }
  | _ => none }
def FieldSetsWrongFalsely : Prop := fieldSetsRow.holds Try.pinned (OpenSpec.ofChange fieldSetsWrong)

/-- 'burnbaglaw01.FieldPacks': WHATEVER THE INPUT: true; the input reads as it did. -/
def fieldPacksSpec : ChangeSpec := { name := "fieldPacks", fn := fun _ => fun
  | [d1, d2, d3] => { results := [.lit (.bool true)], args := [d1, d2, d3] }
  | _ => none }
def fieldPacksRow : OpenClaim := { program := "ytmjihjbedgbhbaa", sum := "5c8a5a483d09371186219f8ba42daa29d581476b7a25103e59838526379495ee", func := "burnbag/burnbaglaw01.FieldPacks", spec := "fieldPacks", apart := false }
def FieldPacksSaid : Prop := fieldPacksRow.holds Try.pinned (OpenSpec.ofChange fieldPacksSpec)

/-- ITS FALSE NEIGHBOUR: 'it returns false'. Refute it at one input. -/
def fieldPacksWrong : ChangeSpec := { name := "fieldPacks", fn := fun _ => fun
  | [d1, d2, d3] => { results := [.lit (.bool false)], args := [d1, d2, d3] }
  | _ => none }
def FieldPacksWrongFalsely : Prop := fieldPacksRow.holds Try.pinned (OpenSpec.ofChange fieldPacksWrong)

/-- 'burnbaglaw03.HandleCells': WHATEVER THE INPUT: true; the input reads as it did. -/
def handleCellsSpec : ChangeSpec := { name := "handleCells", fn := fun _ => fun
  | [d1, d2, d3] => { results := [.lit (.bool true)], args := [d1, d2, d3] }
  | _ => none }
def handleCellsRow : OpenClaim := { program := "ytmjihjbedgbhbaa", sum := "5c8a5a483d09371186219f8ba42daa29d581476b7a25103e59838526379495ee", func := "burnbag/burnbaglaw03.HandleCells", spec := "handleCells", apart := false }
def HandleCellsSaid : Prop := handleCellsRow.holds Try.pinned (OpenSpec.ofChange handleCellsSpec)

/-- ITS FALSE NEIGHBOUR: 'it returns false'. Refute it at one input. -/
def handleCellsWrong : ChangeSpec := { name := "handleCells", fn := fun _ => fun
  | [d1, d2, d3] => { results := [.lit (.bool false)], args := [d1, d2, d3] }
  | _ => none }
def HandleCellsWrongFalsely : Prop := handleCellsRow.holds Try.pinned (OpenSpec.ofChange handleCellsWrong)

/-- 'burnbaglaw01.FieldKeeps': WHATEVER THE INPUT: true; the input reads as it did. -/
def fieldKeepsSpec : ChangeSpec := { name := "fieldKeeps", fn := fun _ => fun
  | [d1, d2, d3] => { results := [.lit (.bool true)], args := [d1, d2, d3] }
  | _ => none }
def fieldKeepsRow : OpenClaim := { program := "ytmjihjbedgbhbaa", sum := "5c8a5a483d09371186219f8ba42daa29d581476b7a25103e59838526379495ee", func := "burnbag/burnbaglaw01.FieldKeeps", spec := "fieldKeeps", apart := false }
def FieldKeepsSaid : Prop := fieldKeepsRow.holds Try.pinned (OpenSpec.ofChange fieldKeepsSpec)

/-- ITS FALSE NEIGHBOUR: 'it returns false'. Refute it at one input. -/
def fieldKeepsWrong : ChangeSpec := { name := "fieldKeeps", fn := fun _ => fun
  | [d1, d2, d3] => { results := [.lit (.bool false)], args := [d1, d2, d3] }
  | _ => none }
def FieldKeepsWrongFalsely : Prop := fieldKeepsRow.holds Try.pinned (OpenSpec.ofChange fieldKeepsWrong)

/-- 'burnbaglaw03.HandleBack': WHATEVER THE INPUT: true; the input reads as it did. -/
def handleBackSpec : ChangeSpec := { name := "handleBack", fn := fun _ => fun
  | [d1, d2, d3] => { results := [.lit (.bool true)], args := [d1, d2, d3] }
  | _ => none }
def handleBackRow : OpenClaim := { program := "ytmjihjbedgbhbaa", sum := "5c8a5a483d09371186219f8ba42daa29d581476b7a25103e59838526379495ee", func := "burnbag/burnbaglaw03.HandleBack", spec := "handleBack", apart := false }
def HandleBackSaid : Prop := handleBackRow.holds Try.pinned (OpenSpec.ofChange handleBackSpec)

/-- ITS FALSE NEIGHBOUR: 'it returns false'. Refute it at one input. -/
def handleBackWrong : ChangeSpec := { name := "handleBack", fn := fun _ => fun
  | [d1, d2, d3] => { results := [.lit (.bool false)], args := [d1, d2, d3] }
  | _ => none }
def HandleBackWrongFalsely : Prop := handleBackRow.holds Try.pinned (OpenSpec.ofChange handleBackWrong)

/- THE SECOND FORM. 'bulk': how many values and letters a reading holds, each counted each time it is reached (what is shared counts as often as it is met; a slice's spare places count too). A statement '..UptoSaid' is the law's where the arguments, and the package variables that the reading takes, are together of bulk at most 1048576: NARROWER than '..Said'. Prove '..Said' where nothing that the law and all that it calls make is longer than what came in: it says more and counts as full. Else prove '..UptoSaid'. A law counts once. -/
mutual
def uptoBulk {H : Type} : DataW H → Nat
  | .lit (.string bytes) => bytes.length + 1
  | .lit _ => 1
  | .nil => 1
  | .ptr d => uptoBulk d + 1
  | .slice elems spare => uptoBulkAll elems + uptoBulkAll spare + 1
  | .agg parts => uptoBulkAll parts + 1
  | .iface _ d => uptoBulk d + 1
  | .map entries => uptoBulkEntries entries + 1
  | .held _ => 1
def uptoBulkAll {H : Type} : List (DataW H) → Nat
  | [] => 0
  | d :: r => uptoBulk d + uptoBulkAll r
def uptoBulkEntries {H : Type} : List (Lit × DataW H) → Nat
  | [] => 0
  | x :: r => uptoBulkEntry x + uptoBulkEntries r
def uptoBulkEntry {H : Type} : Lit × DataW H → Nat
  | (.string bytes, d) => bytes.length + uptoBulk d + 1
  | (_, d) => uptoBulk d + 1
 end
def uptoSmall : (H : Type) → List (DataW H) → Bool := fun _ ds => decide (uptoBulkAll ds ≤ 1048576)
def OpenSpec.upto (s : _root_.Go.ChangeSpec) : _root_.Go.OpenSpec := { _root_.Go.OpenSpec.ofChange s with cond := some uptoSmall }

/-- 'burnbaglaw02.LinkMakes', WHERE WHAT IT READS IS OF BULK AT MOST 1048576: true; the input reads as it did. -/
def linkMakesUptoRow : OpenClaim := { program := "ytmjihjbedgbhbaa", sum := "5c8a5a483d09371186219f8ba42daa29d581476b7a25103e59838526379495ee", func := "burnbag/burnbaglaw02.LinkMakes", spec := "linkMakes", apart := false, narrowed := true }
def LinkMakesUptoSaid : Prop := linkMakesUptoRow.holds Try.pinned (OpenSpec.upto linkMakesSpec)

/-- 'burnbaglaw02.LinkTops', WHERE WHAT IT READS IS OF BULK AT MOST 1048576: true; the input reads as it did. -/
def linkTopsUptoRow : OpenClaim := { program := "ytmjihjbedgbhbaa", sum := "5c8a5a483d09371186219f8ba42daa29d581476b7a25103e59838526379495ee", func := "burnbag/burnbaglaw02.LinkTops", spec := "linkTops", apart := false, narrowed := true }
def LinkTopsUptoSaid : Prop := linkTopsUptoRow.holds Try.pinned (OpenSpec.upto linkTopsSpec)

/-- 'burnbaglaw03.HandleHeads', WHERE WHAT IT READS IS OF BULK AT MOST 1048576: true; the input reads as it did. -/
def handleHeadsUptoRow : OpenClaim := { program := "ytmjihjbedgbhbaa", sum := "5c8a5a483d09371186219f8ba42daa29d581476b7a25103e59838526379495ee", func := "burnbag/burnbaglaw03.HandleHeads", spec := "handleHeads", apart := false, narrowed := true }
def HandleHeadsUptoSaid : Prop := handleHeadsUptoRow.holds Try.pinned (OpenSpec.upto handleHeadsSpec)

/-- 'burnbaglaw03.HandleParts', WHERE WHAT IT READS IS OF BULK AT MOST 1048576: true; the input reads as it did. -/
def handlePartsUptoRow : OpenClaim := { program := "ytmjihjbedgbhbaa", sum := "5c8a5a483d09371186219f8ba42daa29d581476b7a25103e59838526379495ee", func := "burnbag/burnbaglaw03.HandleParts", spec := "handleParts", apart := false, narrowed := true }
def HandlePartsUptoSaid : Prop := handlePartsUptoRow.holds Try.pinned (OpenSpec.upto handlePartsSpec)

/-- 'burnbaglaw02.LinkParts', WHERE WHAT IT READS IS OF BULK AT MOST 1048576: true; the input reads as it did. -/
def linkPartsUptoRow : OpenClaim := { program := "ytmjihjbedgbhbaa", sum := "5c8a5a483d09371186219f8ba42daa29d581476b7a25103e59838526379495ee", func := "burnbag/burnbaglaw02.LinkParts", spec := "linkParts", apart := false, narrowed := true }
def LinkPartsUptoSaid : Prop := linkPartsUptoRow.holds Try.pinned (OpenSpec.upto linkPartsSpec)

/-- 'burnbaglaw02.LinkKeeps', WHERE WHAT IT READS IS OF BULK AT MOST 1048576: true; the input reads as it did. -/
def linkKeepsUptoRow : OpenClaim := { program := "ytmjihjbedgbhbaa", sum := "5c8a5a483d09371186219f8ba42daa29d581476b7a25103e59838526379495ee", func := "burnbag/burnbaglaw02.LinkKeeps", spec := "linkKeeps", apart := false, narrowed := true }
def LinkKeepsUptoSaid : Prop := linkKeepsUptoRow.holds Try.pinned (OpenSpec.upto linkKeepsSpec)

/-- 'burnbaglaw01.FieldSigns', WHERE WHAT IT READS IS OF BULK AT MOST 1048576: true; the input reads as it did. -/
def fieldSignsUptoRow : OpenClaim := { program := "ytmjihjbedgbhbaa", sum := "5c8a5a483d09371186219f8ba42daa29d581476b7a25103e59838526379495ee", func := "burnbag/burnbaglaw01.FieldSigns", spec := "fieldSigns", apart := false, narrowed := true }
def FieldSignsUptoSaid : Prop := fieldSignsUptoRow.holds Try.pinned (OpenSpec.upto fieldSignsSpec)

/-- 'burnbaglaw01.FieldCuts', WHERE WHAT IT READS IS OF BULK AT MOST 1048576: true; the input reads as it did. -/
def fieldCutsUptoRow : OpenClaim := { program := "ytmjihjbedgbhbaa", sum := "5c8a5a483d09371186219f8ba42daa29d581476b7a25103e59838526379495ee", func := "burnbag/burnbaglaw01.FieldCuts", spec := "fieldCuts", apart := false, narrowed := true }
def FieldCutsUptoSaid : Prop := fieldCutsUptoRow.holds Try.pinned (OpenSpec.upto fieldCutsSpec)

/-- 'burnbaglaw01.FieldSets', WHERE WHAT IT READS IS OF BULK AT MOST 1048576: true; the input reads as it did. -/
def fieldSetsUptoRow : OpenClaim := { program := "ytmjihjbedgbhbaa", sum := "5c8a5a483d09371186219f8ba42daa29d581476b7a25103e59838526379495ee", func := "burnbag/burnbaglaw01.FieldSets", spec := "fieldSets", apart := false, narrowed := true }
def FieldSetsUptoSaid : Prop := fieldSetsUptoRow.holds Try.pinned (OpenSpec.upto fieldSetsSpec)

/-- 'burnbaglaw01.FieldPacks', WHERE WHAT IT READS IS OF BULK AT MOST 1048576: true; the input reads as it did. -/
def fieldPacksUptoRow : OpenClaim := { program := "ytmjihjbedgbhbaa", sum := "5c8a5a483d09371186219f8ba42daa29d581476b7a25103e59838526379495ee", func := "burnbag/burnbaglaw01.FieldPacks", spec := "fieldPacks", apart := false, narrowed := true }
def FieldPacksUptoSaid : Prop := fieldPacksUptoRow.holds Try.pinned (OpenSpec.upto fieldPacksSpec)

/-- 'burnbaglaw03.HandleCells', WHERE WHAT IT READS IS OF BULK AT MOST 1048576: true; the input reads as it did. -/
def handleCellsUptoRow : OpenClaim := { program := "ytmjihjbedgbhbaa", sum := "5c8a5a483d09371186219f8ba42daa29d581476b7a25103e59838526379495ee", func := "burnbag/burnbaglaw03.HandleCells", spec := "handleCells", apart := false, narrowed := true }
def HandleCellsUptoSaid : Prop := handleCellsUptoRow.holds Try.pinned (OpenSpec.upto handleCellsSpec)

/-- 'burnbaglaw01.FieldKeeps', WHERE WHAT IT READS IS OF BULK AT MOST 1048576: true; the input reads as it did. -/
def fieldKeepsUptoRow : OpenClaim := { program := "ytmjihjbedgbhbaa", sum := "5c8a5a483d09371186219f8ba42daa29d581476b7a25103e59838526379495ee", func := "burnbag/burnbaglaw01.FieldKeeps", spec := "fieldKeeps", apart := false, narrowed := true }
def FieldKeepsUptoSaid : Prop := fieldKeepsUptoRow.holds Try.pinned (OpenSpec.upto fieldKeepsSpec)

/-- 'burnbaglaw03.HandleBack', WHERE WHAT IT READS IS OF BULK AT MOST 1048576: true; the input reads as it did. -/
def handleBackUptoRow : OpenClaim := { program := "ytmjihjbedgbhbaa", sum := "5c8a5a483d09371186219f8ba42daa29d581476b7a25103e59838526379495ee", func := "burnbag/burnbaglaw03.HandleBack", spec := "handleBack", apart := false, narrowed := true }
def HandleBackUptoSaid : Prop := handleBackUptoRow.holds Try.pinned (OpenSpec.upto handleBackSpec)

end Rows
end Go.Proofs.Ytmjihjbedgbhbaa
