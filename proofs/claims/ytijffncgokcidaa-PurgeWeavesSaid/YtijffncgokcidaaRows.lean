/-
  No cell of these rows narrows 'for every input' (looked for: loops, veiled, ifaces, maps, wideKeys, modest, calm, conditions, laid).
  DERIVED. THE GIVEN ROWS OF THIS SEAT. 3 by the template 'for every input the law returns true; each argument reads behind the call as it read before'; 0 by the template 'total and deterministic' (their statements: YtijffncgokcidaaTotals.lean).
  GIVEN WITH THE SEED: the statements are not yours to turn. If you find one false, say at which input.
  Laid BY PROGRAM, IN A SANDBOX (cutbox-rows.mjs): the forced cells as the released guide's own fill.sh prints them over the translation bd5281783c667aac… (all of the seat's roots in one cut). By AI agents, Wed Nov 11 2026. No macro, syntax, notation, axiom, sorry.
-/
import Derived.Test.YtijffncgokcidaaChecked
import GoSem.Claim
import GoSem.ClaimJoined
import GoSem.ClaimMapViews
import Derived.JoinedTies
import Derived.KernelRfl
namespace Go.Proofs.Ytijffncgokcidaa
/- THE CELL 'sum', in the pinned program and in every row, IS THE sha256 OF THE DUMP (.gsa) THAT YtijffncgokcidaaProg.lean LOADS. Nothing in Lean hashes anything: it is a label: what it is worth is what the hold of that sum in a sandbox is worth. -/
noncomputable def Try.pinned : Pinned := { name := "ytijffncgokcidaa", sum := "bd5281783c667aac9b4d9439599b57d730ebabef56b392aa9d2bd4900f54eadd", checked := Try.checked }
namespace Rows
def none {H : Type} : Left H := { results := [], args := [] }

/-- 'burnbaglaw19.PurgeTo': WHATEVER THE INPUT: true; the input reads as it did. -/
def purgeToSpec : ChangeSpec := { name := "purgeTo", fn := fun _ => fun
  | [d1, d2, d3] => { results := [.lit (.bool true)], args := [d1, d2, d3] }
  | _ => none }
def purgeToRow : OpenClaim := { program := "ytijffncgokcidaa", sum := "bd5281783c667aac9b4d9439599b57d730ebabef56b392aa9d2bd4900f54eadd", func := "burnbag/burnbaglaw19.PurgeTo", spec := "purgeTo", unfollowed := true, recurses := true, apart := false }
def PurgeToSaid : Prop := purgeToRow.holds Try.pinned (OpenSpec.ofChange purgeToSpec)

/-- ITS FALSE NEIGHBOUR: 'it returns false'. Refute it at one input. -/
def purgeToWrong : ChangeSpec := { name := "purgeTo", fn := fun _ => fun
  | [d1, d2, d3] => { results := [.lit (.bool false)], args := [d1, d2, d3] }
  | _ => none }
def PurgeToWrongFalsely : Prop := purgeToRow.holds Try.pinned (OpenSpec.ofChange purgeToWrong)

/-- 'burnbaglaw19.PurgeWeaves': WHATEVER THE INPUT: true; the input reads as it did. -/
def purgeWeavesSpec : ChangeSpec := { name := "purgeWeaves", fn := fun _ => fun
  | [d1, d2] => { results := [.lit (.bool true)], args := [d1, d2] }
  | _ => none }
def purgeWeavesRow : OpenClaim := { program := "ytijffncgokcidaa", sum := "bd5281783c667aac9b4d9439599b57d730ebabef56b392aa9d2bd4900f54eadd", func := "burnbag/burnbaglaw19.PurgeWeaves", spec := "purgeWeaves", unfollowed := true, recurses := true, apart := false }
def PurgeWeavesSaid : Prop := purgeWeavesRow.holds Try.pinned (OpenSpec.ofChange purgeWeavesSpec)

/-- ITS FALSE NEIGHBOUR: 'it returns false'. Refute it at one input. -/
def purgeWeavesWrong : ChangeSpec := { name := "purgeWeaves", fn := fun _ => fun
  | [d1, d2] => { results := [.lit (.bool false)], args := [d1, d2] }
  | _ => none }
def PurgeWeavesWrongFalsely : Prop := purgeWeavesRow.holds Try.pinned (OpenSpec.ofChange purgeWeavesWrong)

/-- 'burnbaglaw19.PurgeKeeps': WHATEVER THE INPUT: true; the input reads as it did. -/
def purgeKeepsSpec : ChangeSpec := { name := "purgeKeeps", fn := fun _ => fun
  | [d1, d2] => { results := [.lit (.bool true)], args := [d1, d2] }
  | _ => none }
def purgeKeepsRow : OpenClaim := { program := "ytijffncgokcidaa", sum := "bd5281783c667aac9b4d9439599b57d730ebabef56b392aa9d2bd4900f54eadd", func := "burnbag/burnbaglaw19.PurgeKeeps", spec := "purgeKeeps", unfollowed := true, recurses := true, apart := false }
def PurgeKeepsSaid : Prop := purgeKeepsRow.holds Try.pinned (OpenSpec.ofChange purgeKeepsSpec)

/-- ITS FALSE NEIGHBOUR: 'it returns false'. Refute it at one input. -/
def purgeKeepsWrong : ChangeSpec := { name := "purgeKeeps", fn := fun _ => fun
  | [d1, d2] => { results := [.lit (.bool false)], args := [d1, d2] }
  | _ => none }
def PurgeKeepsWrongFalsely : Prop := purgeKeepsRow.holds Try.pinned (OpenSpec.ofChange purgeKeepsWrong)

/- THE SECOND FORM. 'bulk': how many values and letters a reading holds, each counted each time it is reached (what is shared counts as often as it is met; a slice's spare places count too). A statement '..UptoSaid' is the law's where the arguments, and the package variables that the reading takes, are together of bulk at most 1048576: NARROWER than '..Said'. Prove '..Said' where nothing that the law and all that it calls make is longer than what came in: it says more and counts as full. Else prove '..UptoSaid'. A law counts once. -/
mutual
def uptoBulk {H : Type} : DataW H → Nat
  | .lit (.string bytes) => bytes.length + 1
  | .lit _ => 1
  | .nil => 1
  | .ptr d => uptoBulk d + 1
  | .slice elems spare => uptoBulkAll elems + uptoBulkAll spare + 1
  | .agg parts => uptoBulkAll parts + 1
  | .iface _ d => uptoBulk d + 1
  | .map entries => uptoBulkEntries entries + 1
  | .held _ => 1
def uptoBulkAll {H : Type} : List (DataW H) → Nat
  | [] => 0
  | d :: r => uptoBulk d + uptoBulkAll r
def uptoBulkEntries {H : Type} : List (Lit × DataW H) → Nat
  | [] => 0
  | x :: r => uptoBulkEntry x + uptoBulkEntries r
def uptoBulkEntry {H : Type} : Lit × DataW H → Nat
  | (.string bytes, d) => bytes.length + uptoBulk d + 1
  | (_, d) => uptoBulk d + 1
 end
def uptoSmall : (H : Type) → List (DataW H) → Bool := fun _ ds => decide (uptoBulkAll ds ≤ 1048576)
def OpenSpec.upto (s : _root_.Go.ChangeSpec) : _root_.Go.OpenSpec := { _root_.Go.OpenSpec.ofChange s with cond := some uptoSmall }

/-- 'burnbaglaw19.PurgeTo', WHERE WHAT IT READS IS OF BULK AT MOST 1048576: true; the input reads as it did. -/
def purgeToUptoRow : OpenClaim := { program := "ytijffncgokcidaa", sum := "bd5281783c667aac9b4d9439599b57d730ebabef56b392aa9d2bd4900f54eadd", func := "burnbag/burnbaglaw19.PurgeTo", spec := "purgeTo", unfollowed := true, recurses := true, apart := false, narrowed := true }
def PurgeToUptoSaid : Prop := purgeToUptoRow.holds Try.pinned (OpenSpec.upto purgeToSpec)

/-- 'burnbaglaw19.PurgeWeaves', WHERE WHAT IT READS IS OF BULK AT MOST 1048576: true; the input reads as it did. -/
def purgeWeavesUptoRow : OpenClaim := { program := "ytijffncgokcidaa", sum := "bd5281783c667aac9b4d9439599b57d730ebabef56b392aa9d2bd4900f54eadd", func := "burnbag/burnbaglaw19.PurgeWeaves", spec := "purgeWeaves", unfollowed := true, recurses := true, apart := false, narrowed := true }
def PurgeWeavesUptoSaid : Prop := purgeWeavesUptoRow.holds Try.pinned (OpenSpec.upto purgeWeavesSpec)

/-- 'burnbaglaw19.PurgeKeeps', WHERE WHAT IT READS IS OF BULK AT MOST 1048576: true; the input reads as it did. -/
def purgeKeepsUptoRow : OpenClaim := { program := "ytijffncgokcidaa", sum := "bd5281783c667aac9b4d9439599b57d730ebabef56b392aa9d2bd4900f54eadd", func := "burnbag/burnbaglaw19.PurgeKeeps", spec := "purgeKeeps", unfollowed := true, recurses := true, apart := false, narrowed := true }
def PurgeKeepsUptoSaid : Prop := purgeKeepsUptoRow.holds Try.pinned (OpenSpec.upto purgeKeepsSpec)

end Rows
end Go.Proofs.Ytijffncgokcidaa
