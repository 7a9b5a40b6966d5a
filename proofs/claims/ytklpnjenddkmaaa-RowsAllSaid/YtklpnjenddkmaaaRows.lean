/-
  No cell of these rows narrows 'for every input' (looked for: loops, veiled, ifaces, maps, wideKeys, modest, calm, conditions, laid).
  DERIVED. THE GIVEN ROWS OF THIS SEAT. 3 by the template 'for every input the law returns true; each argument reads behind the call as it read before'; 0 by the template 'total and deterministic' (their statements: YtklpnjenddkmaaaTotals.lean).
  GIVEN WITH THE SEED: the statements are not yours to turn. If you find one false, say at which input.
  Laid BY PROGRAM, IN A SANDBOX (cutbox-rows.mjs): the forced cells as the released guide's own fill.sh prints them over the translation afe9cfab0430dc65… (all of the seat's roots in one cut). By AI agents, Wed Nov 11 2026. No macro, syntax, notation, axiom, sorry.
-/
import Derived.Test.YtklpnjenddkmaaaChecked
import GoSem.Claim
import GoSem.ClaimJoined
import GoSem.ClaimMapViews
import Derived.JoinedTies
import Derived.KernelRfl
namespace Go.Proofs.Ytklpnjenddkmaaa
/- THE CELL 'sum', in the pinned program and in every row, IS THE sha256 OF THE DUMP (.gsa) THAT YtklpnjenddkmaaaProg.lean LOADS. Nothing in Lean hashes anything: it is a label: what it is worth is what the hold of that sum in a sandbox is worth. -/
noncomputable def Try.pinned : Pinned := { name := "ytklpnjenddkmaaa", sum := "afe9cfab0430dc6580ddda8ef285bb7a6acf68e0e77dbef28265762cc1ac546d", checked := Try.checked }
namespace Rows
def none {H : Type} : Left H := { results := [], args := [] }

/-- 'burnbaglaw10.RowsAll': WHATEVER THE INPUT: true; the input reads as it did. -/
def rowsAllSpec : ChangeSpec := { name := "rowsAll", fn := fun _ => fun
  | [d1, d2, d3] => { results := [.lit (.bool true)], args := [d1, d2, d3] }
  | _ => none }
def rowsAllRow : OpenClaim := { program := "ytklpnjenddkmaaa", sum := "afe9cfab0430dc6580ddda8ef285bb7a6acf68e0e77dbef28265762cc1ac546d", func := "burnbag/burnbaglaw10.RowsAll", spec := "rowsAll", inPlace := ["slices.overlaps[burnbag/api.Row]"], unfollowed := true, recurses := true, apart := false }
def RowsAllSaid : Prop := rowsAllRow.holds Try.pinned (OpenSpec.ofChange rowsAllSpec)

/-- ITS FALSE NEIGHBOUR: 'it returns false'. Refute it at one input. -/
def rowsAllWrong : ChangeSpec := { name := "rowsAll", fn := fun _ => fun
  | [d1, d2, d3] => { results := [.lit (.bool false)], args := [d1, d2, d3] }
  | _ => none }
def RowsAllWrongFalsely : Prop := rowsAllRow.holds Try.pinned (OpenSpec.ofChange rowsAllWrong)

/-- 'burnbaglaw10.RowsTurn': WHATEVER THE INPUT: true; the input reads as it did. -/
def rowsTurnSpec : ChangeSpec := { name := "rowsTurn", fn := fun _ => fun
  | [d1, d2, d3] => { results := [.lit (.bool true)], args := [d1, d2, d3] }
  | _ => none }
def rowsTurnRow : OpenClaim := { program := "ytklpnjenddkmaaa", sum := "afe9cfab0430dc6580ddda8ef285bb7a6acf68e0e77dbef28265762cc1ac546d", func := "burnbag/burnbaglaw10.RowsTurn", spec := "rowsTurn", inPlace := ["slices.overlaps[burnbag/api.Row]"], unfollowed := true, recurses := true, apart := false }
def RowsTurnSaid : Prop := rowsTurnRow.holds Try.pinned (OpenSpec.ofChange rowsTurnSpec)

/-- ITS FALSE NEIGHBOUR: 'it returns false'. Refute it at one input. -/
def rowsTurnWrong : ChangeSpec := { name := "rowsTurn", fn := fun _ => fun
  | [d1, d2, d3] => { results := [.lit (.bool false)], args := [d1, d2, d3] }
  | _ => none }
def RowsTurnWrongFalsely : Prop := rowsTurnRow.holds Try.pinned (OpenSpec.ofChange rowsTurnWrong)

/-- 'burnbaglaw10.RowsKeep': WHATEVER THE INPUT: true; the input reads as it did. -/
def rowsKeepSpec : ChangeSpec := { name := "rowsKeep", fn := fun _ => fun
  | [d1, d2] => { results := [.lit (.bool true)], args := [d1, d2] }
  | _ => none }
def rowsKeepRow : OpenClaim := { program := "ytklpnjenddkmaaa", sum := "afe9cfab0430dc6580ddda8ef285bb7a6acf68e0e77dbef28265762cc1ac546d", func := "burnbag/burnbaglaw10.RowsKeep", spec := "rowsKeep", inPlace := ["slices.overlaps[burnbag/api.Row]"], unfollowed := true, recurses := true, apart := false }
def RowsKeepSaid : Prop := rowsKeepRow.holds Try.pinned (OpenSpec.ofChange rowsKeepSpec)

/-- ITS FALSE NEIGHBOUR: 'it returns false'. Refute it at one input. -/
def rowsKeepWrong : ChangeSpec := { name := "rowsKeep", fn := fun _ => fun
  | [d1, d2] => { results := [.lit (.bool false)], args := [d1, d2] }
  | _ => none }
def RowsKeepWrongFalsely : Prop := rowsKeepRow.holds Try.pinned (OpenSpec.ofChange rowsKeepWrong)

/- THE SECOND FORM. 'bulk': how many values and letters a reading holds, each counted each time it is reached (what is shared counts as often as it is met; a slice's spare places count too). A statement '..UptoSaid' is the law's where the arguments, and the package variables that the reading takes, are together of bulk at most 1048576: NARROWER than '..Said'. Prove '..Said' where nothing that the law and all that it calls make is longer than what came in: it says more and counts as full. Else prove '..UptoSaid'. A law counts once. -/
mutual
def uptoBulk {H : Type} : DataW H → Nat
  | .lit (.string bytes) => bytes.length + 1
  | .lit _ => 1
  | .nil => 1
  | .ptr d => uptoBulk d + 1
  | .slice elems spare => uptoBulkAll elems + uptoBulkAll spare + 1
  | .agg parts => uptoBulkAll parts + 1
  | .iface _ d => uptoBulk d + 1
  | .map entries => uptoBulkEntries entries + 1
  | .held _ => 1
def uptoBulkAll {H : Type} : List (DataW H) → Nat
  | [] => 0
  | d :: r => uptoBulk d + uptoBulkAll r
def uptoBulkEntries {H : Type} : List (Lit × DataW H) → Nat
  | [] => 0
  | x :: r => uptoBulkEntry x + uptoBulkEntries r
def uptoBulkEntry {H : Type} : Lit × DataW H → Nat
  | (.string bytes, d) => bytes.length + uptoBulk d + 1
  | (_, d) => uptoBulk d + 1
 end
def uptoSmall : (H : Type) → List (DataW H) → Bool := fun _ ds => decide (uptoBulkAll ds ≤ 1048576)
def OpenSpec.upto (s : _root_.Go.ChangeSpec) : _root_.Go.OpenSpec := { _root_.Go.OpenSpec.ofChange s with cond := some uptoSmall }

/-- 'burnbaglaw10.RowsAll', WHERE WHAT IT READS IS OF BULK AT MOST 1048576: true; the input reads as it did. -/
def rowsAllUptoRow : OpenClaim := { program := "ytklpnjenddkmaaa", sum := "afe9cfab0430dc6580ddda8ef285bb7a6acf68e0e77dbef28265762cc1ac546d", func := "burnbag/burnbaglaw10.RowsAll", spec := "rowsAll", inPlace := ["slices.overlaps[burnbag/api.Row]"], unfollowed := true, recurses := true, apart := false, narrowed := true }
def RowsAllUptoSaid : Prop := rowsAllUptoRow.holds Try.pinned (OpenSpec.upto rowsAllSpec)

/-- 'burnbaglaw10.RowsTurn', WHERE WHAT IT READS IS OF BULK AT MOST 1048576: true; the input reads as it did. -/
def rowsTurnUptoRow : OpenClaim := { program := "ytklpnjenddkmaaa", sum := "afe9cfab0430dc6580ddda8ef285bb7a6acf68e0e77dbef28265762cc1ac546d", func := "burnbag/burnbaglaw10.RowsTurn", spec := "rowsTurn", inPlace := ["slices.overlaps[burnbag/api.Row]"], unfollowed := true, recurses := true, apart := false, narrowed := true }
def RowsTurnUptoSaid : Prop := rowsTurnUptoRow.holds Try.pinned (OpenSpec.upto rowsTurnSpec)

/-- 'burnbaglaw10.RowsKeep', WHERE WHAT IT READS IS OF BULK AT MOST 1048576: true; the input reads as it did. -/
def rowsKeepUptoRow : OpenClaim := { program := "ytklpnjenddkmaaa", sum := "afe9cfab0430dc6580ddda8ef285bb7a6acf68e0e77dbef28265762cc1ac546d", func := "burnbag/burnbaglaw10.RowsKeep", spec := "rowsKeep", inPlace := ["slices.overlaps[burnbag/api.Row]"], unfollowed := true, recurses := true, apart := false, narrowed := true }
def RowsKeepUptoSaid : Prop := rowsKeepUptoRow.holds Try.pinned (OpenSpec.upto rowsKeepSpec)

end Rows
end Go.Proofs.Ytklpnjenddkmaaa
