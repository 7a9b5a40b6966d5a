/-
  DERIVED. GIVEN WITH THE SEED: THE CARDS: each row of YtjjgngccgjpnaaaGreatDoorRows.lean that lists a variable, with what it lists TIED to the program's text (the seventh form; the later family's looks); each row that meets fmt, with fmt's text TOLD by the authors' own Lean function (tested against real Go, not proved from fmt's source: count such statements apart). THE CARD IS WHAT COUNTS. Prove the row's statement (the work); the ties are given (YtjjgngccgjpnaaaGreatDoorTie.lean); close each card by the builder's one call (the guide's Derived/Test/ToyasCard.lean, 'card_holds'). Laid BY PROGRAM, IN A SANDBOX (cutbox-door.mjs). By AI agents, Wed Nov 11 2026. No macro, syntax, notation, axiom, sorry.
-/
import Derived.Test.YtjjgngccgjpnaaaGreatDoorRows
import GoSem.ClaimSeven
namespace Go.Proofs.YtjjgngccgjpnaaaGreatDoor
namespace Rows

/-- THE TIED CARD OF 'burnbaglaw40.TextTakes'. -/
def textTakesCard : Claim7 := { stood := { row := textTakesRow, standIns := [], harness := (true, "0d860923fe87bf03a7a1a9beb46f94f93c040d0a9022b26a6c9ef07d9005db49"), looks := true }, kinds := [], alts := [], laidByText := true, laidKinds := [.data, .data, .data, .data, .handle, .sentinel, .sentinel, .pinned], laidTests := true, laidLooks := .later }
def TextTakesCardSaid : Prop := Claim7.holds Tryz.pinned (.plain (OpenSpec.ofChange textTakesSpec)) textTakesCard

/-- THE TIED CARD OF 'burnbaglaw40.TextPuts'. -/
def textPutsCard : Claim7 := { stood := { row := textPutsRow, standIns := [], harness := (true, "0d860923fe87bf03a7a1a9beb46f94f93c040d0a9022b26a6c9ef07d9005db49"), looks := true }, kinds := [], alts := [], laidByText := true, laidKinds := [.data, .data, .data, .data, .handle, .sentinel, .sentinel, .pinned], laidTests := true, laidLooks := .later }
def TextPutsCardSaid : Prop := Claim7.holds Tryz.pinned (.plain (OpenSpec.ofChange textPutsSpec)) textPutsCard

/-- THE TIED CARD OF 'burnbaglaw40.TextWords'. -/
def textWordsCard : Claim7 := { stood := { row := textWordsRow, standIns := [], harness := (true, "0d860923fe87bf03a7a1a9beb46f94f93c040d0a9022b26a6c9ef07d9005db49"), looks := true }, kinds := [], alts := [], laidByText := true, laidKinds := [.data, .data, .data, .data, .sentinel, .sentinel, .pinned], laidTests := true, laidLooks := .later }
def TextWordsCardSaid : Prop := Claim7.holds Tryz.pinned (.plain (OpenSpec.ofChange textWordsSpec)) textWordsCard

/-- THE TIED CARD OF 'burnbaglaw40.TextBack'. -/
def textBackCard : Claim7 := { stood := { row := textBackRow, standIns := [], harness := (true, "0d860923fe87bf03a7a1a9beb46f94f93c040d0a9022b26a6c9ef07d9005db49"), looks := true }, kinds := [], alts := [], laidByText := true, laidKinds := [.data, .data, .data, .data, .sentinel, .sentinel, .pinned], laidTests := true, laidLooks := .later }
def TextBackCardSaid : Prop := Claim7.holds Tryz.pinned (.plain (OpenSpec.ofChange textBackSpec)) textBackCard

/-- THE SECOND FORM's CARD OF 'burnbaglaw40.TextTakes'. -/
def textTakesUptoCard : Claim7 := { stood := { row := textTakesUptoRow, standIns := [], harness := (true, "0d860923fe87bf03a7a1a9beb46f94f93c040d0a9022b26a6c9ef07d9005db49"), looks := true }, kinds := [], alts := [], laidByText := true, laidKinds := [.data, .data, .data, .data, .handle, .sentinel, .sentinel, .pinned], laidTests := true, laidLooks := .later }
def TextTakesUptoCardSaid : Prop := Claim7.holds Tryz.pinned (.plain (OpenSpec.upto textTakesSpec)) textTakesUptoCard

/-- THE SECOND FORM's CARD OF 'burnbaglaw40.TextPuts'. -/
def textPutsUptoCard : Claim7 := { stood := { row := textPutsUptoRow, standIns := [], harness := (true, "0d860923fe87bf03a7a1a9beb46f94f93c040d0a9022b26a6c9ef07d9005db49"), looks := true }, kinds := [], alts := [], laidByText := true, laidKinds := [.data, .data, .data, .data, .handle, .sentinel, .sentinel, .pinned], laidTests := true, laidLooks := .later }
def TextPutsUptoCardSaid : Prop := Claim7.holds Tryz.pinned (.plain (OpenSpec.upto textPutsSpec)) textPutsUptoCard

/-- THE SECOND FORM's CARD OF 'burnbaglaw40.TextWords'. -/
def textWordsUptoCard : Claim7 := { stood := { row := textWordsUptoRow, standIns := [], harness := (true, "0d860923fe87bf03a7a1a9beb46f94f93c040d0a9022b26a6c9ef07d9005db49"), looks := true }, kinds := [], alts := [], laidByText := true, laidKinds := [.data, .data, .data, .data, .sentinel, .sentinel, .pinned], laidTests := true, laidLooks := .later }
def TextWordsUptoCardSaid : Prop := Claim7.holds Tryz.pinned (.plain (OpenSpec.upto textWordsSpec)) textWordsUptoCard

/-- THE SECOND FORM's CARD OF 'burnbaglaw40.TextBack'. -/
def textBackUptoCard : Claim7 := { stood := { row := textBackUptoRow, standIns := [], harness := (true, "0d860923fe87bf03a7a1a9beb46f94f93c040d0a9022b26a6c9ef07d9005db49"), looks := true }, kinds := [], alts := [], laidByText := true, laidKinds := [.data, .data, .data, .data, .sentinel, .sentinel, .pinned], laidTests := true, laidLooks := .later }
def TextBackUptoCardSaid : Prop := Claim7.holds Tryz.pinned (.plain (OpenSpec.upto textBackSpec)) textBackUptoCard
end Rows
end Go.Proofs.YtjjgngccgjpnaaaGreatDoor
