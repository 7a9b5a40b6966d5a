/-
  No cell of these rows narrows 'for every input' (looked for: loops, veiled, ifaces, maps, wideKeys, modest, calm, conditions, laid).
  DERIVED. THE GIVEN ROWS OF THIS SEAT. 3 by the template 'for every input the law returns true; each argument reads behind the call as it read before'; 0 by the template 'total and deterministic' (their statements: YtkfdikbmcleaoaaTotals.lean).
  GIVEN WITH THE SEED: the statements are not yours to turn. If you find one false, say at which input.
  Laid BY PROGRAM, IN A SANDBOX (cutbox-rows.mjs): the forced cells as the released guide's own fill.sh prints them over the translation c38a0527c1b99643… (all of the seat's roots in one cut). By AI agents, Wed Nov 11 2026. No macro, syntax, notation, axiom, sorry.
-/
import Derived.Test.YtkfdikbmcleaoaaChecked
import GoSem.Claim
import GoSem.ClaimJoined
import GoSem.ClaimMapViews
import Derived.JoinedTies
import Derived.KernelRfl
namespace Go.Proofs.Ytkfdikbmcleaoaa
/- THE CELL 'sum', in the pinned program and in every row, IS THE sha256 OF THE DUMP (.gsa) THAT YtkfdikbmcleaoaaProg.lean LOADS. Nothing in Lean hashes anything: it is a label: what it is worth is what the hold of that sum in a sandbox is worth. -/
noncomputable def Try.pinned : Pinned := { name := "ytkfdikbmcleaoaa", sum := "c38a0527c1b996430b573b377abf7e2cf4bdc059e90fe972a33fe55ea342935f", checked := Try.checked }
namespace Rows
def none {H : Type} : Left H := { results := [], args := [] }

/-- 'burnbaglaw06.CellsHold': WHATEVER THE INPUT: true; the input reads as it did. -/
def cellsHoldSpec : ChangeSpec := { name := "cellsHold", fn := fun _ => fun
  | [d1, d2, d3] => { results := [.lit (.bool true)], args := [d1, d2, d3] }
  | _ => none }
def cellsHoldRow : OpenClaim := { program := "ytkfdikbmcleaoaa", sum := "c38a0527c1b996430b573b377abf7e2cf4bdc059e90fe972a33fe55ea342935f", func := "burnbag/burnbaglaw06.CellsHold", spec := "cellsHold", apart := false }
def CellsHoldSaid : Prop := cellsHoldRow.holds Try.pinned (OpenSpec.ofChange cellsHoldSpec)

/-- ITS FALSE NEIGHBOUR: 'it returns false'. Refute it at one input. -/
def cellsHoldWrong : ChangeSpec := { name := "cellsHold", fn := fun _ => fun
  | [d1, d2, d3] => { results := [.lit (.bool false)], args := [d1, d2, d3] }
  | _ => none }
def CellsHoldWrongFalsely : Prop := cellsHoldRow.holds Try.pinned (OpenSpec.ofChange cellsHoldWrong)

/-- 'burnbaglaw06.CellsNew': WHATEVER THE INPUT: true; the input reads as it did. -/
def cellsNewSpec : ChangeSpec := { name := "cellsNew", fn := fun _ => fun
  | [d1, d2] => { results := [.lit (.bool true)], args := [d1, d2] }
  | _ => none }
def cellsNewRow : OpenClaim := { program := "ytkfdikbmcleaoaa", sum := "c38a0527c1b996430b573b377abf7e2cf4bdc059e90fe972a33fe55ea342935f", func := "burnbag/burnbaglaw06.CellsNew", spec := "cellsNew", apart := false }
def CellsNewSaid : Prop := cellsNewRow.holds Try.pinned (OpenSpec.ofChange cellsNewSpec)

/-- ITS FALSE NEIGHBOUR: 'it returns false'. Refute it at one input. -/
def cellsNewWrong : ChangeSpec := { name := "cellsNew", fn := fun _ => fun
  | [d1, d2] => { results := [.lit (.bool false)], args := [d1, d2] }
  | _ => none }
def CellsNewWrongFalsely : Prop := cellsNewRow.holds Try.pinned (OpenSpec.ofChange cellsNewWrong)

/-- 'burnbaglaw06.CellsPlay': WHATEVER THE INPUT: true; the input reads as it did. -/
def cellsPlaySpec : ChangeSpec := { name := "cellsPlay", fn := fun _ => fun
  | [d1, d2, d3] => { results := [.lit (.bool true)], args := [d1, d2, d3] }
  | _ => none }
def cellsPlayRow : OpenClaim := { program := "ytkfdikbmcleaoaa", sum := "c38a0527c1b996430b573b377abf7e2cf4bdc059e90fe972a33fe55ea342935f", func := "burnbag/burnbaglaw06.CellsPlay", spec := "cellsPlay", apart := false }
def CellsPlaySaid : Prop := cellsPlayRow.holds Try.pinned (OpenSpec.ofChange cellsPlaySpec)

/-- ITS FALSE NEIGHBOUR: 'it returns false'. Refute it at one input. -/
def cellsPlayWrong : ChangeSpec := { name := "cellsPlay", fn := fun _ => fun
  | [d1, d2, d3] => { results := [.lit (.bool false)], args := [d1, d2, d3] }
  | _ => none }
def CellsPlayWrongFalsely : Prop := cellsPlayRow.holds Try.pinned (OpenSpec.ofChange cellsPlayWrong)

/- THE SECOND FORM. 'bulk': how many values and letters a reading holds, each counted each time it is reached (what is shared counts as often as it is met; a slice's spare places count too). A statement '..UptoSaid' is the law's where the arguments, and the package variables that the reading takes, are together of bulk at most 1048576: NARROWER than '..Said'. Prove '..Said' where nothing that the law and all that it calls make is longer than what came in: it says more and counts as full. Else prove '..UptoSaid'. A law counts once. -/
mutual
def uptoBulk {H : Type} : DataW H → Nat
  | .lit (.string bytes) => bytes.length + 1
  | .lit _ => 1
  | .nil => 1
  | .ptr d => uptoBulk d + 1
  | .slice elems spare => uptoBulkAll elems + uptoBulkAll spare + 1
  | .agg parts => uptoBulkAll parts + 1
  | .iface _ d => uptoBulk d + 1
  | .map entries => uptoBulkEntries entries + 1
  | .held _ => 1
def uptoBulkAll {H : Type} : List (DataW H) → Nat
  | [] => 0
  | d :: r => uptoBulk d + uptoBulkAll r
def uptoBulkEntries {H : Type} : List (Lit × DataW H) → Nat
  | [] => 0
  | x :: r => uptoBulkEntry x + uptoBulkEntries r
def uptoBulkEntry {H : Type} : Lit × DataW H → Nat
  | (.string bytes, d) => bytes.length + uptoBulk d + 1
  | (_, d) => uptoBulk d + 1
 end
def uptoSmall : (H : Type) → List (DataW H) → Bool := fun _ ds => decide (uptoBulkAll ds ≤ 1048576)
def OpenSpec.upto (s : _root_.Go.ChangeSpec) : _root_.Go.OpenSpec := { _root_.Go.OpenSpec.ofChange s with cond := some uptoSmall }

/-- 'burnbaglaw06.CellsHold', WHERE WHAT IT READS IS OF BULK AT MOST 1048576: true; the input reads as it did. -/
def cellsHoldUptoRow : OpenClaim := { program := "ytkfdikbmcleaoaa", sum := "c38a0527c1b996430b573b377abf7e2cf4bdc059e90fe972a33fe55ea342935f", func := "burnbag/burnbaglaw06.CellsHold", spec := "cellsHold", apart := false, narrowed := true }
def CellsHoldUptoSaid : Prop := cellsHoldUptoRow.holds Try.pinned (OpenSpec.upto cellsHoldSpec)

/-- 'burnbaglaw06.CellsNew', WHERE WHAT IT READS IS OF BULK AT MOST 1048576: true; the input reads as it did. -/
def cellsNewUptoRow : OpenClaim := { program := "ytkfdikbmcleaoaa", sum := "c38a0527c1b996430b573b377abf7e2cf4bdc059e90fe972a33fe55ea342935f", func := "burnbag/burnbaglaw06.CellsNew", spec := "cellsNew", apart := false, narrowed := true }
def CellsNewUptoSaid : Prop := cellsNewUptoRow.holds Try.pinned (OpenSpec.upto cellsNewSpec)

/-- 'burnbaglaw06.CellsPlay', WHERE WHAT IT READS IS OF BULK AT MOST 1048576: true; the input reads as it did. -/
def cellsPlayUptoRow : OpenClaim := { program := "ytkfdikbmcleaoaa", sum := "c38a0527c1b996430b573b377abf7e2cf4bdc059e90fe972a33fe55ea342935f", func := "burnbag/burnbaglaw06.CellsPlay", spec := "cellsPlay", apart := false, narrowed := true }
def CellsPlayUptoSaid : Prop := cellsPlayUptoRow.holds Try.pinned (OpenSpec.upto cellsPlaySpec)

end Rows
end Go.Proofs.Ytkfdikbmcleaoaa
