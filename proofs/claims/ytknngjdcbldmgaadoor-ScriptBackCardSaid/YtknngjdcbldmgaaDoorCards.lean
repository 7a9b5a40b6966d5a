/-
  DERIVED. GIVEN WITH THE SEED: THE CARDS: each row of YtknngjdcbldmgaaDoorRows.lean that lists a variable, with what it lists TIED to the program's text (the seventh form; the later family's looks); each row that meets fmt, with fmt's text TOLD by the authors' own Lean function (tested against real Go, not proved from fmt's source: count such statements apart). THE CARD IS WHAT COUNTS. Prove the row's statement (the work); the ties are given (YtknngjdcbldmgaaDoorTie.lean); close each card by the builder's one call (the guide's Derived/Test/ToyasCard.lean, 'card_holds'). Laid BY PROGRAM, IN A SANDBOX (cutbox-door.mjs). By AI agents, Wed Nov 11 2026. No macro, syntax, notation, axiom, sorry.
-/
import Derived.Test.YtknngjdcbldmgaaDoorRows
import GoSem.ClaimSeven
namespace Go.Proofs.YtknngjdcbldmgaaDoor
namespace Rows

/-- THE TIED CARD OF 'burnbaglaw18.ScriptRight'. -/
def scriptRightCard : Claim7 := { stood := { row := scriptRightRow, standIns := [], harness := (true, "bc1a78dbcea3104d169d8e0d82dfc02b291b5f2fb7169c07abc1c0b556058b45"), looks := true }, kinds := [], alts := [], laidByText := true, laidKinds := [.handle], laidTests := true, laidLooks := .later }
def ScriptRightCardSaid : Prop := Claim7.holds Tryd.pinned (.plain (OpenSpec.ofChange scriptRightSpec)) scriptRightCard

/-- THE TIED CARD OF 'burnbaglaw18.ScriptPuts'. -/
def scriptPutsCard : Claim7 := { stood := { row := scriptPutsRow, standIns := [], harness := (true, "bc1a78dbcea3104d169d8e0d82dfc02b291b5f2fb7169c07abc1c0b556058b45"), looks := true }, kinds := [], alts := [], laidByText := true, laidKinds := [.handle], laidTests := true, laidLooks := .later }
def ScriptPutsCardSaid : Prop := Claim7.holds Tryd.pinned (.plain (OpenSpec.ofChange scriptPutsSpec)) scriptPutsCard

/-- THE TIED CARD OF 'burnbaglaw18.ScriptTakes'. -/
def scriptTakesCard : Claim7 := { stood := { row := scriptTakesRow, standIns := [], harness := (true, "bc1a78dbcea3104d169d8e0d82dfc02b291b5f2fb7169c07abc1c0b556058b45"), looks := true }, kinds := [], alts := [], laidByText := true, laidKinds := [.handle], laidTests := true, laidLooks := .later }
def ScriptTakesCardSaid : Prop := Claim7.holds Tryd.pinned (.plain (OpenSpec.ofChange scriptTakesSpec)) scriptTakesCard

/-- THE TIED CARD OF 'burnbaglaw18.ScriptBack'. -/
def scriptBackCard : Claim7 := { stood := { row := scriptBackRow, standIns := [], harness := (true, "bc1a78dbcea3104d169d8e0d82dfc02b291b5f2fb7169c07abc1c0b556058b45"), looks := true }, kinds := [], alts := [], laidByText := true, laidKinds := [.handle], laidTests := true, laidLooks := .later }
def ScriptBackCardSaid : Prop := Claim7.holds Tryd.pinned (.plain (OpenSpec.ofChange scriptBackSpec)) scriptBackCard

/-- THE SECOND FORM's CARD OF 'burnbaglaw18.ScriptRight'. -/
def scriptRightUptoCard : Claim7 := { stood := { row := scriptRightUptoRow, standIns := [], harness := (true, "bc1a78dbcea3104d169d8e0d82dfc02b291b5f2fb7169c07abc1c0b556058b45"), looks := true }, kinds := [], alts := [], laidByText := true, laidKinds := [.handle], laidTests := true, laidLooks := .later }
def ScriptRightUptoCardSaid : Prop := Claim7.holds Tryd.pinned (.plain (OpenSpec.upto scriptRightSpec)) scriptRightUptoCard

/-- THE SECOND FORM's CARD OF 'burnbaglaw18.ScriptPuts'. -/
def scriptPutsUptoCard : Claim7 := { stood := { row := scriptPutsUptoRow, standIns := [], harness := (true, "bc1a78dbcea3104d169d8e0d82dfc02b291b5f2fb7169c07abc1c0b556058b45"), looks := true }, kinds := [], alts := [], laidByText := true, laidKinds := [.handle], laidTests := true, laidLooks := .later }
def ScriptPutsUptoCardSaid : Prop := Claim7.holds Tryd.pinned (.plain (OpenSpec.upto scriptPutsSpec)) scriptPutsUptoCard

/-- THE SECOND FORM's CARD OF 'burnbaglaw18.ScriptTakes'. -/
def scriptTakesUptoCard : Claim7 := { stood := { row := scriptTakesUptoRow, standIns := [], harness := (true, "bc1a78dbcea3104d169d8e0d82dfc02b291b5f2fb7169c07abc1c0b556058b45"), looks := true }, kinds := [], alts := [], laidByText := true, laidKinds := [.handle], laidTests := true, laidLooks := .later }
def ScriptTakesUptoCardSaid : Prop := Claim7.holds Tryd.pinned (.plain (OpenSpec.upto scriptTakesSpec)) scriptTakesUptoCard

/-- THE SECOND FORM's CARD OF 'burnbaglaw18.ScriptBack'. -/
def scriptBackUptoCard : Claim7 := { stood := { row := scriptBackUptoRow, standIns := [], harness := (true, "bc1a78dbcea3104d169d8e0d82dfc02b291b5f2fb7169c07abc1c0b556058b45"), looks := true }, kinds := [], alts := [], laidByText := true, laidKinds := [.handle], laidTests := true, laidLooks := .later }
def ScriptBackUptoCardSaid : Prop := Claim7.holds Tryd.pinned (.plain (OpenSpec.upto scriptBackSpec)) scriptBackUptoCard
end Rows
end Go.Proofs.YtknngjdcbldmgaaDoor
