/-
  No cell of these rows narrows 'for every input' (looked for: loops, veiled, ifaces, maps, wideKeys, modest, calm, conditions, laid).
  DERIVED. THE GIVEN ROWS OF THIS SEAT. 10 by the template 'for every input the law returns true; each argument reads behind the call as it read before'; 0 by the template 'total and deterministic' (their statements: YtpnhpiniflcciaaTotals.lean).
  GIVEN WITH THE SEED: the statements are not yours to turn. If you find one false, say at which input.
  Laid BY PROGRAM, IN A SANDBOX (cutbox-rows.mjs): the forced cells as the released guide's own fill.sh prints them over the translation 985f4bcb3ea4a10a… (all of the seat's roots in one cut). By AI agents, Wed Nov 11 2026. No macro, syntax, notation, axiom, sorry.
-/
import Derived.Test.YtpnhpiniflcciaaChecked
import GoSem.Claim
import GoSem.ClaimJoined
import GoSem.ClaimMapViews
import Derived.JoinedTies
import Derived.KernelRfl
namespace Go.Proofs.Ytpnhpiniflcciaa
/- THE CELL 'sum', in the pinned program and in every row, IS THE sha256 OF THE DUMP (.gsa) THAT YtpnhpiniflcciaaProg.lean LOADS. Nothing in Lean hashes anything: it is a label: what it is worth is what the hold of that sum in a sandbox is worth. -/
noncomputable def Try.pinned : Pinned := { name := "ytpnhpiniflcciaa", sum := "985f4bcb3ea4a10af2a0f3eade450511868a65f7a9c7edf6ec07c32118f620a4", checked := Try.checked }
namespace Rows
def none {H : Type} : Left H := { results := [], args := [] }

/-- 'burnbaglaw15.ShareOf': WHATEVER THE INPUT: true; the input reads as it did. -/
def shareOfSpec : ChangeSpec := { name := "shareOf", fn := fun _ => fun
  | [d1, d2, d3] => { results := [.lit (.bool true)], args := [d1, d2, d3] }
  | _ => none }
def shareOfRow : OpenClaim := { program := "ytpnhpiniflcciaa", sum := "985f4bcb3ea4a10af2a0f3eade450511868a65f7a9c7edf6ec07c32118f620a4", func := "burnbag/burnbaglaw15.ShareOf", spec := "shareOf", unfollowed := true, recurses := true, apart := false }
def ShareOfSaid : Prop := shareOfRow.holds Try.pinned (OpenSpec.ofChange shareOfSpec)

/-- ITS FALSE NEIGHBOUR: 'it returns false'. Refute it at one input. -/
def shareOfWrong : ChangeSpec := { name := "shareOf", fn := fun _ => fun
  | [d1, d2, d3] => { results := [.lit (.bool false)], args := [d1, d2, d3] }
  | _ => none }
def ShareOfWrongFalsely : Prop := shareOfRow.holds Try.pinned (OpenSpec.ofChange shareOfWrong)

/-- 'burnbaglaw15.ShareAll': WHATEVER THE INPUT: true; the input reads as it did. -/
def shareAllSpec : ChangeSpec := { name := "shareAll", fn := fun _ => fun
  | [d] => { results := [.lit (.bool true)], args := [d] }
  | _ => none }
def shareAllRow : OpenClaim := { program := "ytpnhpiniflcciaa", sum := "985f4bcb3ea4a10af2a0f3eade450511868a65f7a9c7edf6ec07c32118f620a4", func := "burnbag/burnbaglaw15.ShareAll", spec := "shareAll", unfollowed := true, recurses := true, apart := false }
def ShareAllSaid : Prop := shareAllRow.holds Try.pinned (OpenSpec.ofChange shareAllSpec)

/-- ITS FALSE NEIGHBOUR: 'it returns false'. Refute it at one input. -/
def shareAllWrong : ChangeSpec := { name := "shareAll", fn := fun _ => fun
  | [d] => { results := [.lit (.bool false)], args := [d] }
  | _ => none }
def ShareAllWrongFalsely : Prop := shareAllRow.holds Try.pinned (OpenSpec.ofChange shareAllWrong)

/-- 'burnbaglaw04.ConfMay': WHATEVER THE INPUT: true; the input reads as it did. -/
def confMaySpec : ChangeSpec := { name := "confMay", fn := fun _ => fun
  | [d1, d2] => { results := [.lit (.bool true)], args := [d1, d2] }
  | _ => none }
def confMayRow : OpenClaim := { program := "ytpnhpiniflcciaa", sum := "985f4bcb3ea4a10af2a0f3eade450511868a65f7a9c7edf6ec07c32118f620a4", func := "burnbag/burnbaglaw04.ConfMay", spec := "confMay", unfollowed := true, recurses := true, apart := false }
def ConfMaySaid : Prop := confMayRow.holds Try.pinned (OpenSpec.ofChange confMaySpec)

/-- ITS FALSE NEIGHBOUR: 'it returns false'. Refute it at one input. -/
def confMayWrong : ChangeSpec := { name := "confMay", fn := fun _ => fun
  | [d1, d2] => { results := [.lit (.bool false)], args := [d1, d2] }
  | _ => none }
def ConfMayWrongFalsely : Prop := confMayRow.holds Try.pinned (OpenSpec.ofChange confMayWrong)

/-- 'burnbaglaw04.ConfThreads': WHATEVER THE INPUT: true; the input reads as it did. -/
def confThreadsSpec : ChangeSpec := { name := "confThreads", fn := fun _ => fun
  | [d1, d2, d3] => { results := [.lit (.bool true)], args := [d1, d2, d3] }
  | _ => none }
def confThreadsRow : OpenClaim := { program := "ytpnhpiniflcciaa", sum := "985f4bcb3ea4a10af2a0f3eade450511868a65f7a9c7edf6ec07c32118f620a4", func := "burnbag/burnbaglaw04.ConfThreads", spec := "confThreads", unfollowed := true, recurses := true, apart := false }
def ConfThreadsSaid : Prop := confThreadsRow.holds Try.pinned (OpenSpec.ofChange confThreadsSpec)

/-- ITS FALSE NEIGHBOUR: 'it returns false'. Refute it at one input. -/
def confThreadsWrong : ChangeSpec := { name := "confThreads", fn := fun _ => fun
  | [d1, d2, d3] => { results := [.lit (.bool false)], args := [d1, d2, d3] }
  | _ => none }
def ConfThreadsWrongFalsely : Prop := confThreadsRow.holds Try.pinned (OpenSpec.ofChange confThreadsWrong)

/-- 'burnbaglaw04.ConfOrders': WHATEVER THE INPUT: true; the input reads as it did. -/
def confOrdersSpec : ChangeSpec := { name := "confOrders", fn := fun _ => fun
  | [d1, d2, d3] => { results := [.lit (.bool true)], args := [d1, d2, d3] }
  | _ => none }
def confOrdersRow : OpenClaim := { program := "ytpnhpiniflcciaa", sum := "985f4bcb3ea4a10af2a0f3eade450511868a65f7a9c7edf6ec07c32118f620a4", func := "burnbag/burnbaglaw04.ConfOrders", spec := "confOrders", unfollowed := true, recurses := true, apart := false }
def ConfOrdersSaid : Prop := confOrdersRow.holds Try.pinned (OpenSpec.ofChange confOrdersSpec)

/-- ITS FALSE NEIGHBOUR: 'it returns false'. Refute it at one input. -/
def confOrdersWrong : ChangeSpec := { name := "confOrders", fn := fun _ => fun
  | [d1, d2, d3] => { results := [.lit (.bool false)], args := [d1, d2, d3] }
  | _ => none }
def ConfOrdersWrongFalsely : Prop := confOrdersRow.holds Try.pinned (OpenSpec.ofChange confOrdersWrong)

/-- 'burnbaglaw04.ConfBares': WHATEVER THE INPUT: true; the input reads as it did. -/
def confBaresSpec : ChangeSpec := { name := "confBares", fn := fun _ => fun
  | [d1, d2] => { results := [.lit (.bool true)], args := [d1, d2] }
  | _ => none }
def confBaresRow : OpenClaim := { program := "ytpnhpiniflcciaa", sum := "985f4bcb3ea4a10af2a0f3eade450511868a65f7a9c7edf6ec07c32118f620a4", func := "burnbag/burnbaglaw04.ConfBares", spec := "confBares", unfollowed := true, recurses := true, apart := false }
def ConfBaresSaid : Prop := confBaresRow.holds Try.pinned (OpenSpec.ofChange confBaresSpec)

/-- ITS FALSE NEIGHBOUR: 'it returns false'. Refute it at one input. -/
def confBaresWrong : ChangeSpec := { name := "confBares", fn := fun _ => fun
  | [d1, d2] => { results := [.lit (.bool false)], args := [d1, d2] }
  | _ => none }
def ConfBaresWrongFalsely : Prop := confBaresRow.holds Try.pinned (OpenSpec.ofChange confBaresWrong)

/-- 'burnbaglaw15.ShareUpTo': WHATEVER THE INPUT: true; the input reads as it did. -/
def shareUpToSpec : ChangeSpec := { name := "shareUpTo", fn := fun _ => fun
  | [d1, d2, d3] => { results := [.lit (.bool true)], args := [d1, d2, d3] }
  | _ => none }
def shareUpToRow : OpenClaim := { program := "ytpnhpiniflcciaa", sum := "985f4bcb3ea4a10af2a0f3eade450511868a65f7a9c7edf6ec07c32118f620a4", func := "burnbag/burnbaglaw15.ShareUpTo", spec := "shareUpTo", unfollowed := true, recurses := true, apart := false }
def ShareUpToSaid : Prop := shareUpToRow.holds Try.pinned (OpenSpec.ofChange shareUpToSpec)

/-- ITS FALSE NEIGHBOUR: 'it returns false'. Refute it at one input. -/
def shareUpToWrong : ChangeSpec := { name := "shareUpTo", fn := fun _ => fun
  | [d1, d2, d3] => { results := [.lit (.bool false)], args := [d1, d2, d3] }
  | _ => none }
def ShareUpToWrongFalsely : Prop := shareUpToRow.holds Try.pinned (OpenSpec.ofChange shareUpToWrong)

/-- 'burnbaglaw05.PlanAll': WHATEVER THE INPUT: true; the input reads as it did. -/
def planAllSpec : ChangeSpec := { name := "planAll", fn := fun _ => fun
  | [d] => { results := [.lit (.bool true)], args := [d] }
  | _ => none }
def planAllRow : OpenClaim := { program := "ytpnhpiniflcciaa", sum := "985f4bcb3ea4a10af2a0f3eade450511868a65f7a9c7edf6ec07c32118f620a4", func := "burnbag/burnbaglaw05.PlanAll", spec := "planAll", apart := false }
def PlanAllSaid : Prop := planAllRow.holds Try.pinned (OpenSpec.ofChange planAllSpec)

/-- ITS FALSE NEIGHBOUR: 'it returns false'. Refute it at one input. -/
def planAllWrong : ChangeSpec := { name := "planAll", fn := fun _ => fun
  | [d] => { results := [.lit (.bool false)], args := [d] }
  | _ => none }
def PlanAllWrongFalsely : Prop := planAllRow.holds Try.pinned (OpenSpec.ofChange planAllWrong)

/-- 'burnbaglaw05.PlanApart': WHATEVER THE INPUT: true; the input reads as it did. -/
def planApartSpec : ChangeSpec := { name := "planApart", fn := fun _ => fun
  | [d1, d2, d3] => { results := [.lit (.bool true)], args := [d1, d2, d3] }
  | _ => none }
def planApartRow : OpenClaim := { program := "ytpnhpiniflcciaa", sum := "985f4bcb3ea4a10af2a0f3eade450511868a65f7a9c7edf6ec07c32118f620a4", func := "burnbag/burnbaglaw05.PlanApart", spec := "planApart", apart := false }
def PlanApartSaid : Prop := planApartRow.holds Try.pinned (OpenSpec.ofChange planApartSpec)

/-- ITS FALSE NEIGHBOUR: 'it returns false'. Refute it at one input. -/
def planApartWrong : ChangeSpec := { name := "planApart", fn := fun _ => fun
  | [d1, d2, d3] => { results := [.lit (.bool false)], args := [d1, d2, d3] }
  | _ => none }
def PlanApartWrongFalsely : Prop := planApartRow.holds Try.pinned (OpenSpec.ofChange planApartWrong)

/-- 'burnbaglaw05.PlanPlaces': WHATEVER THE INPUT: true; the input reads as it did. -/
def planPlacesSpec : ChangeSpec := { name := "planPlaces", fn := fun _ => fun
  | [d1, d2, d3] => { results := [.lit (.bool true)], args := [d1, d2, d3] }
  | _ => none }
def planPlacesRow : OpenClaim := { program := "ytpnhpiniflcciaa", sum := "985f4bcb3ea4a10af2a0f3eade450511868a65f7a9c7edf6ec07c32118f620a4", func := "burnbag/burnbaglaw05.PlanPlaces", spec := "planPlaces", apart := false }
def PlanPlacesSaid : Prop := planPlacesRow.holds Try.pinned (OpenSpec.ofChange planPlacesSpec)

/-- ITS FALSE NEIGHBOUR: 'it returns false'. Refute it at one input. -/
def planPlacesWrong : ChangeSpec := { name := "planPlaces", fn := fun _ => fun
  | [d1, d2, d3] => { results := [.lit (.bool false)], args := [d1, d2, d3] }
  | _ => none }
def PlanPlacesWrongFalsely : Prop := planPlacesRow.holds Try.pinned (OpenSpec.ofChange planPlacesWrong)

/- THE SECOND FORM. 'bulk': how many values and letters a reading holds, each counted each time it is reached (what is shared counts as often as it is met; a slice's spare places count too). A statement '..UptoSaid' is the law's where the arguments, and the package variables that the reading takes, are together of bulk at most 1048576: NARROWER than '..Said'. Prove '..Said' where nothing that the law and all that it calls make is longer than what came in: it says more and counts as full. Else prove '..UptoSaid'. A law counts once. -/
mutual
def uptoBulk {H : Type} : DataW H → Nat
  | .lit (.string bytes) => bytes.length + 1
  | .lit _ => 1
  | .nil => 1
  | .ptr d => uptoBulk d + 1
  | .slice elems spare => uptoBulkAll elems + uptoBulkAll spare + 1
  | .agg parts => uptoBulkAll parts + 1
  | .iface _ d => uptoBulk d + 1
  | .map entries => uptoBulkEntries entries + 1
  | .held _ => 1
def uptoBulkAll {H : Type} : List (DataW H) → Nat
  | [] => 0
  | d :: r => uptoBulk d + uptoBulkAll r
def uptoBulkEntries {H : Type} : List (Lit × DataW H) → Nat
  | [] => 0
  | x :: r => uptoBulkEntry x + uptoBulkEntries r
def uptoBulkEntry {H : Type} : Lit × DataW H → Nat
  | (.string bytes, d) => bytes.length + uptoBulk d + 1
  | (_, d) => uptoBulk d + 1
 end
def uptoSmall : (H : Type) → List (DataW H) → Bool := fun _ ds => decide (uptoBulkAll ds ≤ 1048576)
def OpenSpec.upto (s : _root_.Go.ChangeSpec) : _root_.Go.OpenSpec := { _root_.Go.OpenSpec.ofChange s with cond := some uptoSmall }

/-- 'burnbaglaw15.ShareOf', WHERE WHAT IT READS IS OF BULK AT MOST 1048576: true; the input reads as it did. -/
def shareOfUptoRow : OpenClaim := { program := "ytpnhpiniflcciaa", sum := "985f4bcb3ea4a10af2a0f3eade450511868a65f7a9c7edf6ec07c32118f620a4", func := "burnbag/burnbaglaw15.ShareOf", spec := "shareOf", unfollowed := true, recurses := true, apart := false, narrowed := true }
def ShareOfUptoSaid : Prop := shareOfUptoRow.holds Try.pinned (OpenSpec.upto shareOfSpec)

/-- 'burnbaglaw15.ShareAll', WHERE WHAT IT READS IS OF BULK AT MOST 1048576: true; the input reads as it did. -/
def shareAllUptoRow : OpenClaim := { program := "ytpnhpiniflcciaa", sum := "985f4bcb3ea4a10af2a0f3eade450511868a65f7a9c7edf6ec07c32118f620a4", func := "burnbag/burnbaglaw15.ShareAll", spec := "shareAll", unfollowed := true, recurses := true, apart := false, narrowed := true }
def ShareAllUptoSaid : Prop := shareAllUptoRow.holds Try.pinned (OpenSpec.upto shareAllSpec)

/-- 'burnbaglaw04.ConfMay', WHERE WHAT IT READS IS OF BULK AT MOST 1048576: true; the input reads as it did. -/
def confMayUptoRow : OpenClaim := { program := "ytpnhpiniflcciaa", sum := "985f4bcb3ea4a10af2a0f3eade450511868a65f7a9c7edf6ec07c32118f620a4", func := "burnbag/burnbaglaw04.ConfMay", spec := "confMay", unfollowed := true, recurses := true, apart := false, narrowed := true }
def ConfMayUptoSaid : Prop := confMayUptoRow.holds Try.pinned (OpenSpec.upto confMaySpec)

/-- 'burnbaglaw04.ConfThreads', WHERE WHAT IT READS IS OF BULK AT MOST 1048576: true; the input reads as it did. -/
def confThreadsUptoRow : OpenClaim := { program := "ytpnhpiniflcciaa", sum := "985f4bcb3ea4a10af2a0f3eade450511868a65f7a9c7edf6ec07c32118f620a4", func := "burnbag/burnbaglaw04.ConfThreads", spec := "confThreads", unfollowed := true, recurses := true, apart := false, narrowed := true }
def ConfThreadsUptoSaid : Prop := confThreadsUptoRow.holds Try.pinned (OpenSpec.upto confThreadsSpec)

/-- 'burnbaglaw04.ConfOrders', WHERE WHAT IT READS IS OF BULK AT MOST 1048576: true; the input reads as it did. -/
def confOrdersUptoRow : OpenClaim := { program := "ytpnhpiniflcciaa", sum := "985f4bcb3ea4a10af2a0f3eade450511868a65f7a9c7edf6ec07c32118f620a4", func := "burnbag/burnbaglaw04.ConfOrders", spec := "confOrders", unfollowed := true, recurses := true, apart := false, narrowed := true }
def ConfOrdersUptoSaid : Prop := confOrdersUptoRow.holds Try.pinned (OpenSpec.upto confOrdersSpec)

/-- 'burnbaglaw04.ConfBares', WHERE WHAT IT READS IS OF BULK AT MOST 1048576: true; the input reads as it did. -/
def confBaresUptoRow : OpenClaim := { program := "ytpnhpiniflcciaa", sum := "985f4bcb3ea4a10af2a0f3eade450511868a65f7a9c7edf6ec07c32118f620a4", func := "burnbag/burnbaglaw04.ConfBares", spec := "confBares", unfollowed := true, recurses := true, apart := false, narrowed := true }
def ConfBaresUptoSaid : Prop := confBaresUptoRow.holds Try.pinned (OpenSpec.upto confBaresSpec)

/-- 'burnbaglaw15.ShareUpTo', WHERE WHAT IT READS IS OF BULK AT MOST 1048576: true; the input reads as it did. -/
def shareUpToUptoRow : OpenClaim := { program := "ytpnhpiniflcciaa", sum := "985f4bcb3ea4a10af2a0f3eade450511868a65f7a9c7edf6ec07c32118f620a4", func := "burnbag/burnbaglaw15.ShareUpTo", spec := "shareUpTo", unfollowed := true, recurses := true, apart := false, narrowed := true }
def ShareUpToUptoSaid : Prop := shareUpToUptoRow.holds Try.pinned (OpenSpec.upto shareUpToSpec)

/-- 'burnbaglaw05.PlanAll', WHERE WHAT IT READS IS OF BULK AT MOST 1048576: true; the input reads as it did. -/
def planAllUptoRow : OpenClaim := { program := "ytpnhpiniflcciaa", sum := "985f4bcb3ea4a10af2a0f3eade450511868a65f7a9c7edf6ec07c32118f620a4", func := "burnbag/burnbaglaw05.PlanAll", spec := "planAll", apart := false, narrowed := true }
def PlanAllUptoSaid : Prop := planAllUptoRow.holds Try.pinned (OpenSpec.upto planAllSpec)

/-- 'burnbaglaw05.PlanApart', WHERE WHAT IT READS IS OF BULK AT MOST 1048576: true; the input reads as it did. -/
def planApartUptoRow : OpenClaim := { program := "ytpnhpiniflcciaa", sum := "985f4bcb3ea4a10af2a0f3eade450511868a65f7a9c7edf6ec07c32118f620a4", func := "burnbag/burnbaglaw05.PlanApart", spec := "planApart", apart := false, narrowed := true }
def PlanApartUptoSaid : Prop := planApartUptoRow.holds Try.pinned (OpenSpec.upto planApartSpec)

/-- 'burnbaglaw05.PlanPlaces', WHERE WHAT IT READS IS OF BULK AT MOST 1048576: true; the input reads as it did. -/
def planPlacesUptoRow : OpenClaim := { program := "ytpnhpiniflcciaa", sum := "985f4bcb3ea4a10af2a0f3eade450511868a65f7a9c7edf6ec07c32118f620a4", func := "burnbag/burnbaglaw05.PlanPlaces", spec := "planPlaces", apart := false, narrowed := true }
def PlanPlacesUptoSaid : Prop := planPlacesUptoRow.holds Try.pinned (OpenSpec.upto planPlacesSpec)

end Rows
end Go.Proofs.Ytpnhpiniflcciaa
