/-
  No cell of these rows narrows 'for every input' (looked for: loops, veiled, ifaces, maps, wideKeys, modest, calm, conditions, laid).
  DERIVED. THE GIVEN ROWS OF THIS SEAT. 3 by the template 'for every input the law returns true; each argument reads behind the call as it read before'; 0 by the template 'total and deterministic' (their statements: YtkcilmnmbfbogaaTotals.lean).
  GIVEN WITH THE SEED: the statements are not yours to turn. If you find one false, say at which input.
  Laid BY PROGRAM, IN A SANDBOX (cutbox-rows.mjs): the forced cells as the released guide's own fill.sh prints them over the translation cf8a4357f560e063… (all of the seat's roots in one cut). By AI agents, Wed Nov 11 2026. No macro, syntax, notation, axiom, sorry.
-/
import Derived.Test.YtkcilmnmbfbogaaChecked
import GoSem.Claim
import GoSem.ClaimJoined
import GoSem.ClaimMapViews
import Derived.JoinedTies
import Derived.KernelRfl
namespace Go.Proofs.Ytkcilmnmbfbogaa
/- THE CELL 'sum', in the pinned program and in every row, IS THE sha256 OF THE DUMP (.gsa) THAT YtkcilmnmbfbogaaProg.lean LOADS. Nothing in Lean hashes anything: it is a label: what it is worth is what the hold of that sum in a sandbox is worth. -/
noncomputable def Try.pinned : Pinned := { name := "ytkcilmnmbfbogaa", sum := "cf8a4357f560e06320d757370358bb89aef2fc5b457b795602d780c714891ab3", checked := Try.checked }
namespace Rows
def none {H : Type} : Left H := { results := [], args := [] }

/-- 'burnbaglaw14.HistOpers': WHATEVER THE INPUT: true; the input reads as it did. -/
def histOpersSpec : ChangeSpec := { name := "histOpers", fn := fun _ => fun
  | [d] => { results := [.lit (.bool true)], args := [d] }
  | _ => none }
def histOpersRow : OpenClaim := { program := "ytkcilmnmbfbogaa", sum := "cf8a4357f560e06320d757370358bb89aef2fc5b457b795602d780c714891ab3", func := "burnbag/burnbaglaw14.HistOpers", spec := "histOpers", unfollowed := true, recurses := true, apart := false }
def HistOpersSaid : Prop := histOpersRow.holds Try.pinned (OpenSpec.ofChange histOpersSpec)

/-- ITS FALSE NEIGHBOUR: 'it returns false'. Refute it at one input. -/
def histOpersWrong : ChangeSpec := { name := "histOpers", fn := fun _ => fun
  | [d] => { results := [.lit (.bool false)], args := [d] }
  | _ => none }
def HistOpersWrongFalsely : Prop := histOpersRow.holds Try.pinned (OpenSpec.ofChange histOpersWrong)

/-- 'burnbaglaw14.HistEvents': WHATEVER THE INPUT: true; the input reads as it did. -/
def histEventsSpec : ChangeSpec := { name := "histEvents", fn := fun _ => fun
  | [d1, d2, d3] => { results := [.lit (.bool true)], args := [d1, d2, d3] }
  | _ => none }
def histEventsRow : OpenClaim := { program := "ytkcilmnmbfbogaa", sum := "cf8a4357f560e06320d757370358bb89aef2fc5b457b795602d780c714891ab3", func := "burnbag/burnbaglaw14.HistEvents", spec := "histEvents", unfollowed := true, recurses := true, apart := false }
def HistEventsSaid : Prop := histEventsRow.holds Try.pinned (OpenSpec.ofChange histEventsSpec)

/-- ITS FALSE NEIGHBOUR: 'it returns false'. Refute it at one input. -/
def histEventsWrong : ChangeSpec := { name := "histEvents", fn := fun _ => fun
  | [d1, d2, d3] => { results := [.lit (.bool false)], args := [d1, d2, d3] }
  | _ => none }
def HistEventsWrongFalsely : Prop := histEventsRow.holds Try.pinned (OpenSpec.ofChange histEventsWrong)

/-- 'burnbaglaw14.HistBack': WHATEVER THE INPUT: true; the input reads as it did. -/
def histBackSpec : ChangeSpec := { name := "histBack", fn := fun _ => fun
  | [d] => { results := [.lit (.bool true)], args := [d] }
  | _ => none }
def histBackRow : OpenClaim := { program := "ytkcilmnmbfbogaa", sum := "cf8a4357f560e06320d757370358bb89aef2fc5b457b795602d780c714891ab3", func := "burnbag/burnbaglaw14.HistBack", spec := "histBack", unfollowed := true, recurses := true, apart := false }
def HistBackSaid : Prop := histBackRow.holds Try.pinned (OpenSpec.ofChange histBackSpec)

/-- ITS FALSE NEIGHBOUR: 'it returns false'. Refute it at one input. -/
def histBackWrong : ChangeSpec := { name := "histBack", fn := fun _ => fun
  | [d] => { results := [.lit (.bool false)], args := [d] }
  | _ => none }
def HistBackWrongFalsely : Prop := histBackRow.holds Try.pinned (OpenSpec.ofChange histBackWrong)

/- THE SECOND FORM. 'bulk': how many values and letters a reading holds, each counted each time it is reached (what is shared counts as often as it is met; a slice's spare places count too). A statement '..UptoSaid' is the law's where the arguments, and the package variables that the reading takes, are together of bulk at most 1048576: NARROWER than '..Said'. Prove '..Said' where nothing that the law and all that it calls make is longer than what came in: it says more and counts as full. Else prove '..UptoSaid'. A law counts once. -/
mutual
def uptoBulk {H : Type} : DataW H → Nat
  | .lit (.string bytes) => bytes.length + 1
  | .lit _ => 1
  | .nil => 1
  | .ptr d => uptoBulk d + 1
  | .slice elems spare => uptoBulkAll elems + uptoBulkAll spare + 1
  | .agg parts => uptoBulkAll parts + 1
  | .iface _ d => uptoBulk d + 1
  | .map entries => uptoBulkEntries entries + 1
  | .held _ => 1
def uptoBulkAll {H : Type} : List (DataW H) → Nat
  | [] => 0
  | d :: r => uptoBulk d + uptoBulkAll r
def uptoBulkEntries {H : Type} : List (Lit × DataW H) → Nat
  | [] => 0
  | x :: r => uptoBulkEntry x + uptoBulkEntries r
def uptoBulkEntry {H : Type} : Lit × DataW H → Nat
  | (.string bytes, d) => bytes.length + uptoBulk d + 1
  | (_, d) => uptoBulk d + 1
 end
def uptoSmall : (H : Type) → List (DataW H) → Bool := fun _ ds => decide (uptoBulkAll ds ≤ 1048576)
def OpenSpec.upto (s : _root_.Go.ChangeSpec) : _root_.Go.OpenSpec := { _root_.Go.OpenSpec.ofChange s with cond := some uptoSmall }

/-- 'burnbaglaw14.HistOpers', WHERE WHAT IT READS IS OF BULK AT MOST 1048576: true; the input reads as it did. -/
def histOpersUptoRow : OpenClaim := { program := "ytkcilmnmbfbogaa", sum := "cf8a4357f560e06320d757370358bb89aef2fc5b457b795602d780c714891ab3", func := "burnbag/burnbaglaw14.HistOpers", spec := "histOpers", unfollowed := true, recurses := true, apart := false, narrowed := true }
def HistOpersUptoSaid : Prop := histOpersUptoRow.holds Try.pinned (OpenSpec.upto histOpersSpec)

/-- 'burnbaglaw14.HistEvents', WHERE WHAT IT READS IS OF BULK AT MOST 1048576: true; the input reads as it did. -/
def histEventsUptoRow : OpenClaim := { program := "ytkcilmnmbfbogaa", sum := "cf8a4357f560e06320d757370358bb89aef2fc5b457b795602d780c714891ab3", func := "burnbag/burnbaglaw14.HistEvents", spec := "histEvents", unfollowed := true, recurses := true, apart := false, narrowed := true }
def HistEventsUptoSaid : Prop := histEventsUptoRow.holds Try.pinned (OpenSpec.upto histEventsSpec)

/-- 'burnbaglaw14.HistBack', WHERE WHAT IT READS IS OF BULK AT MOST 1048576: true; the input reads as it did. -/
def histBackUptoRow : OpenClaim := { program := "ytkcilmnmbfbogaa", sum := "cf8a4357f560e06320d757370358bb89aef2fc5b457b795602d780c714891ab3", func := "burnbag/burnbaglaw14.HistBack", spec := "histBack", unfollowed := true, recurses := true, apart := false, narrowed := true }
def HistBackUptoSaid : Prop := histBackUptoRow.holds Try.pinned (OpenSpec.upto histBackSpec)

end Rows
end Go.Proofs.Ytkcilmnmbfbogaa
