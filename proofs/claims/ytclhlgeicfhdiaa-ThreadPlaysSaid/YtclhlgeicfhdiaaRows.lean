/-
  No cell of these rows narrows 'for every input' (looked for: loops, veiled, ifaces, maps, wideKeys, modest, calm, conditions, laid).
  DERIVED. THE GIVEN ROWS OF THIS SEAT. 3 by the template 'for every input the law returns true; each argument reads behind the call as it read before'; 0 by the template 'total and deterministic' (their statements: YtclhlgeicfhdiaaTotals.lean).
  GIVEN WITH THE SEED: the statements are not yours to turn. If you find one false, say at which input.
  Laid BY PROGRAM, IN A SANDBOX (cutbox-rows.mjs): the forced cells as the released guide's own fill.sh prints them over the translation fa48ab8ba9f2ecae… (all of the seat's roots in one cut). By AI agents, Wed Nov 11 2026. No macro, syntax, notation, axiom, sorry.
-/
import Derived.Test.YtclhlgeicfhdiaaChecked
import GoSem.Claim
import GoSem.ClaimJoined
import GoSem.ClaimMapViews
import Derived.JoinedTies
import Derived.KernelRfl
namespace Go.Proofs.Ytclhlgeicfhdiaa
/- THE CELL 'sum', in the pinned program and in every row, IS THE sha256 OF THE DUMP (.gsa) THAT YtclhlgeicfhdiaaProg.lean LOADS. Nothing in Lean hashes anything: it is a label: what it is worth is what the hold of that sum in a sandbox is worth. -/
noncomputable def Try.pinned : Pinned := { name := "ytclhlgeicfhdiaa", sum := "fa48ab8ba9f2ecae801d4a027c100d690f148e35d603ea9903c4e4aca9859f91", checked := Try.checked }
namespace Rows
def none {H : Type} : Left H := { results := [], args := [] }

/-- 'burnbaglaw20.ThreadOrders': WHATEVER THE INPUT: true; the input reads as it did. -/
def threadOrdersSpec : ChangeSpec := { name := "threadOrders", fn := fun _ => fun
  | [d1, d2] => { results := [.lit (.bool true)], args := [d1, d2] }
  | _ => none }
def threadOrdersRow : OpenClaim := { program := "ytclhlgeicfhdiaa", sum := "fa48ab8ba9f2ecae801d4a027c100d690f148e35d603ea9903c4e4aca9859f91", func := "burnbag/burnbaglaw20.ThreadOrders", spec := "threadOrders", apart := false }
def ThreadOrdersSaid : Prop := threadOrdersRow.holds Try.pinned (OpenSpec.ofChange threadOrdersSpec)

/-- ITS FALSE NEIGHBOUR: 'it returns false'. Refute it at one input. -/
def threadOrdersWrong : ChangeSpec := { name := "threadOrders", fn := fun _ => fun
  | [d1, d2] => { results := [.lit (.bool false)], args := [d1, d2] }
  | _ => none }
def ThreadOrdersWrongFalsely : Prop := threadOrdersRow.holds Try.pinned (OpenSpec.ofChange threadOrdersWrong)

/-- 'burnbaglaw20.ThreadPlays': WHATEVER THE INPUT: true; the input reads as it did. -/
def threadPlaysSpec : ChangeSpec := { name := "threadPlays", fn := fun _ => fun
  | [d1, d2, d3] => { results := [.lit (.bool true)], args := [d1, d2, d3] }
  | _ => none }
def threadPlaysRow : OpenClaim := { program := "ytclhlgeicfhdiaa", sum := "fa48ab8ba9f2ecae801d4a027c100d690f148e35d603ea9903c4e4aca9859f91", func := "burnbag/burnbaglaw20.ThreadPlays", spec := "threadPlays", apart := false }
def ThreadPlaysSaid : Prop := threadPlaysRow.holds Try.pinned (OpenSpec.ofChange threadPlaysSpec)

/-- ITS FALSE NEIGHBOUR: 'it returns false'. Refute it at one input. -/
def threadPlaysWrong : ChangeSpec := { name := "threadPlays", fn := fun _ => fun
  | [d1, d2, d3] => { results := [.lit (.bool false)], args := [d1, d2, d3] }
  | _ => none }
def ThreadPlaysWrongFalsely : Prop := threadPlaysRow.holds Try.pinned (OpenSpec.ofChange threadPlaysWrong)

/-- 'burnbaglaw20.ThreadNone': WHATEVER THE INPUT: true; the input reads as it did. -/
def threadNoneSpec : ChangeSpec := { name := "threadNone", fn := fun _ => fun
  | [d1, d2, d3] => { results := [.lit (.bool true)], args := [d1, d2, d3] }
  | _ => none }
def threadNoneRow : OpenClaim := { program := "ytclhlgeicfhdiaa", sum := "fa48ab8ba9f2ecae801d4a027c100d690f148e35d603ea9903c4e4aca9859f91", func := "burnbag/burnbaglaw20.ThreadNone", spec := "threadNone", apart := false }
def ThreadNoneSaid : Prop := threadNoneRow.holds Try.pinned (OpenSpec.ofChange threadNoneSpec)

/-- ITS FALSE NEIGHBOUR: 'it returns false'. Refute it at one input. -/
def threadNoneWrong : ChangeSpec := { name := "threadNone", fn := fun _ => fun
  | [d1, d2, d3] => { results := [.lit (.bool false)], args := [d1, d2, d3] }
  | _ => none }
def ThreadNoneWrongFalsely : Prop := threadNoneRow.holds Try.pinned (OpenSpec.ofChange threadNoneWrong)

/- THE SECOND FORM. 'bulk': how many values and letters a reading holds, each counted each time it is reached (what is shared counts as often as it is met; a slice's spare places count too). A statement '..UptoSaid' is the law's where the arguments, and the package variables that the reading takes, are together of bulk at most 1048576: NARROWER than '..Said'. Prove '..Said' where nothing that the law and all that it calls make is longer than what came in: it says more and counts as full. Else prove '..UptoSaid'. A law counts once. -/
mutual
def uptoBulk {H : Type} : DataW H → Nat
  | .lit (.string bytes) => bytes.length + 1
  | .lit _ => 1
  | .nil => 1
  | .ptr d => uptoBulk d + 1
  | .slice elems spare => uptoBulkAll elems + uptoBulkAll spare + 1
  | .agg parts => uptoBulkAll parts + 1
  | .iface _ d => uptoBulk d + 1
  | .map entries => uptoBulkEntries entries + 1
  | .held _ => 1
def uptoBulkAll {H : Type} : List (DataW H) → Nat
  | [] => 0
  | d :: r => uptoBulk d + uptoBulkAll r
def uptoBulkEntries {H : Type} : List (Lit × DataW H) → Nat
  | [] => 0
  | x :: r => uptoBulkEntry x + uptoBulkEntries r
def uptoBulkEntry {H : Type} : Lit × DataW H → Nat
  | (.string bytes, d) => bytes.length + uptoBulk d + 1
  | (_, d) => uptoBulk d + 1
 end
def uptoSmall : (H : Type) → List (DataW H) → Bool := fun _ ds => decide (uptoBulkAll ds ≤ 1048576)
def OpenSpec.upto (s : _root_.Go.ChangeSpec) : _root_.Go.OpenSpec := { _root_.Go.OpenSpec.ofChange s with cond := some uptoSmall }

/-- 'burnbaglaw20.ThreadOrders', WHERE WHAT IT READS IS OF BULK AT MOST 1048576: true; the input reads as it did. -/
def threadOrdersUptoRow : OpenClaim := { program := "ytclhlgeicfhdiaa", sum := "fa48ab8ba9f2ecae801d4a027c100d690f148e35d603ea9903c4e4aca9859f91", func := "burnbag/burnbaglaw20.ThreadOrders", spec := "threadOrders", apart := false, narrowed := true }
def ThreadOrdersUptoSaid : Prop := threadOrdersUptoRow.holds Try.pinned (OpenSpec.upto threadOrdersSpec)

/-- 'burnbaglaw20.ThreadPlays', WHERE WHAT IT READS IS OF BULK AT MOST 1048576: true; the input reads as it did. -/
def threadPlaysUptoRow : OpenClaim := { program := "ytclhlgeicfhdiaa", sum := "fa48ab8ba9f2ecae801d4a027c100d690f148e35d603ea9903c4e4aca9859f91", func := "burnbag/burnbaglaw20.ThreadPlays", spec := "threadPlays", apart := false, narrowed := true }
def ThreadPlaysUptoSaid : Prop := threadPlaysUptoRow.holds Try.pinned (OpenSpec.upto threadPlaysSpec)

/-- 'burnbaglaw20.ThreadNone', WHERE WHAT IT READS IS OF BULK AT MOST 1048576: true; the input reads as it did. -/
def threadNoneUptoRow : OpenClaim := { program := "ytclhlgeicfhdiaa", sum := "fa48ab8ba9f2ecae801d4a027c100d690f148e35d603ea9903c4e4aca9859f91", func := "burnbag/burnbaglaw20.ThreadNone", spec := "threadNone", apart := false, narrowed := true }
def ThreadNoneUptoSaid : Prop := threadNoneUptoRow.holds Try.pinned (OpenSpec.upto threadNoneSpec)

end Rows
end Go.Proofs.Ytclhlgeicfhdiaa
