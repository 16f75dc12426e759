/-
  No cell of these rows narrows 'for every input' (looked for: loops, veiled, ifaces, maps, wideKeys, modest, calm, conditions, laid).
  DERIVED. THE GIVEN ROWS OF THIS SEAT. 11 by the template 'for every input the law returns true; each argument reads behind the call as it read before'; 0 by the template 'total and deterministic' (their statements: YtnnknbghfbjcnaaTotals.lean).
  GIVEN WITH THE SEED: the statements are not yours to turn. If you find one false, say at which input.
  Laid BY PROGRAM, IN A SANDBOX (cutbox-rows.mjs): the forced cells as the released guide's own fill.sh prints them over the translation 956b1d19d77caef9… (all of the seat's roots in one cut). By AI agents, Wed Nov 11 2026. No macro, syntax, notation, axiom, sorry.
-/
import Derived.Test.YtnnknbghfbjcnaaChecked
import GoSem.Claim
import GoSem.ClaimJoined
import GoSem.ClaimMapViews
import Derived.JoinedTies
import Derived.KernelRfl
namespace Go.Proofs.Ytnnknbghfbjcnaa
/- THE CELL 'sum', in the pinned program and in every row, IS THE sha256 OF THE DUMP (.gsa) THAT YtnnknbghfbjcnaaProg.lean LOADS. Nothing in Lean hashes anything: it is a label: what it is worth is what the hold of that sum in a sandbox is worth. -/
noncomputable def Try.pinned : Pinned := { name := "ytnnknbghfbjcnaa", sum := "956b1d19d77caef9f9462c20d3a0337e6bbd0eb996082dc1546c70395b4ea28d", checked := Try.checked }
namespace Rows
def none {H : Type} : Left H := { results := [], args := [] }

/-- 'mapmakerlaw37.GraphVertices': WHATEVER THE INPUT: true; the input reads as it did. -/
def graphVerticesSpec : ChangeSpec := { name := "graphVertices", fn := fun _ => fun
  | [d] => { results := [.lit (.bool true)], args := [d] }
  | _ => none }
def graphVerticesRow : OpenClaim := { program := "ytnnknbghfbjcnaa", sum := "956b1d19d77caef9f9462c20d3a0337e6bbd0eb996082dc1546c70395b4ea28d", func := "mapmaker/mapmakerlaw37.GraphVertices", spec := "graphVertices", recurses := true, apart := false }
def GraphVerticesSaid : Prop := graphVerticesRow.holds Try.pinned (OpenSpec.ofChange graphVerticesSpec)

/-- ITS FALSE NEIGHBOUR: 'it returns false'. Refute it at one input. -/
def graphVerticesWrong : ChangeSpec := { name := "graphVertices", fn := fun _ => fun
  | [d] => { results := [.lit (.bool false)], args := [d] }
  | _ => none }
def GraphVerticesWrongFalsely : Prop := graphVerticesRow.holds Try.pinned (OpenSpec.ofChange graphVerticesWrong)

/-- 'mapmakerlaw37.GraphChecks': WHATEVER THE INPUT: true; the input reads as it did. -/
def graphChecksSpec : ChangeSpec := { name := "graphChecks", fn := fun _ => fun
  | [d] => { results := [.lit (.bool true)], args := [d] }
  | _ => none }
def graphChecksRow : OpenClaim := { program := "ytnnknbghfbjcnaa", sum := "956b1d19d77caef9f9462c20d3a0337e6bbd0eb996082dc1546c70395b4ea28d", func := "mapmaker/mapmakerlaw37.GraphChecks", spec := "graphChecks", recurses := true, apart := false }
def GraphChecksSaid : Prop := graphChecksRow.holds Try.pinned (OpenSpec.ofChange graphChecksSpec)

/-- ITS FALSE NEIGHBOUR: 'it returns false'. Refute it at one input. -/
def graphChecksWrong : ChangeSpec := { name := "graphChecks", fn := fun _ => fun
  | [d] => { results := [.lit (.bool false)], args := [d] }
  | _ => none }
def GraphChecksWrongFalsely : Prop := graphChecksRow.holds Try.pinned (OpenSpec.ofChange graphChecksWrong)

/-- 'mapmakerlaw37.GraphArcs': WHATEVER THE INPUT: true; the input reads as it did. -/
def graphArcsSpec : ChangeSpec := { name := "graphArcs", fn := fun _ => fun
  | [d] => { results := [.lit (.bool true)], args := [d] }
  | _ => none }
def graphArcsRow : OpenClaim := { program := "ytnnknbghfbjcnaa", sum := "956b1d19d77caef9f9462c20d3a0337e6bbd0eb996082dc1546c70395b4ea28d", func := "mapmaker/mapmakerlaw37.GraphArcs", spec := "graphArcs", recurses := true, apart := false }
def GraphArcsSaid : Prop := graphArcsRow.holds Try.pinned (OpenSpec.ofChange graphArcsSpec)

/-- ITS FALSE NEIGHBOUR: 'it returns false'. Refute it at one input. -/
def graphArcsWrong : ChangeSpec := { name := "graphArcs", fn := fun _ => fun
  | [d] => { results := [.lit (.bool false)], args := [d] }
  | _ => none }
def GraphArcsWrongFalsely : Prop := graphArcsRow.holds Try.pinned (OpenSpec.ofChange graphArcsWrong)

/-- 'mapmakerlaw37.GraphReverses': WHATEVER THE INPUT: true; the input reads as it did. -/
def graphReversesSpec : ChangeSpec := { name := "graphReverses", fn := fun _ => fun
  | [d] => { results := [.lit (.bool true)], args := [d] }
  | _ => none }
def graphReversesRow : OpenClaim := { program := "ytnnknbghfbjcnaa", sum := "956b1d19d77caef9f9462c20d3a0337e6bbd0eb996082dc1546c70395b4ea28d", func := "mapmaker/mapmakerlaw37.GraphReverses", spec := "graphReverses", recurses := true, apart := false }
def GraphReversesSaid : Prop := graphReversesRow.holds Try.pinned (OpenSpec.ofChange graphReversesSpec)

/-- ITS FALSE NEIGHBOUR: 'it returns false'. Refute it at one input. -/
def graphReversesWrong : ChangeSpec := { name := "graphReverses", fn := fun _ => fun
  | [d] => { results := [.lit (.bool false)], args := [d] }
  | _ => none }
def GraphReversesWrongFalsely : Prop := graphReversesRow.holds Try.pinned (OpenSpec.ofChange graphReversesWrong)

/-- 'mapmakerlaw37.GraphSymmetric': WHATEVER THE INPUT: true; the input reads as it did. -/
def graphSymmetricSpec : ChangeSpec := { name := "graphSymmetric", fn := fun _ => fun
  | [d] => { results := [.lit (.bool true)], args := [d] }
  | _ => none }
def graphSymmetricRow : OpenClaim := { program := "ytnnknbghfbjcnaa", sum := "956b1d19d77caef9f9462c20d3a0337e6bbd0eb996082dc1546c70395b4ea28d", func := "mapmaker/mapmakerlaw37.GraphSymmetric", spec := "graphSymmetric", recurses := true, apart := false }
def GraphSymmetricSaid : Prop := graphSymmetricRow.holds Try.pinned (OpenSpec.ofChange graphSymmetricSpec)

/-- ITS FALSE NEIGHBOUR: 'it returns false'. Refute it at one input. -/
def graphSymmetricWrong : ChangeSpec := { name := "graphSymmetric", fn := fun _ => fun
  | [d] => { results := [.lit (.bool false)], args := [d] }
  | _ => none }
def GraphSymmetricWrongFalsely : Prop := graphSymmetricRow.holds Try.pinned (OpenSpec.ofChange graphSymmetricWrong)

/-- 'mapmakerlaw39.OrderChecks': WHATEVER THE INPUT: true; the input reads as it did. -/
def orderChecksSpec : ChangeSpec := { name := "orderChecks", fn := fun _ => fun
  | [d1, d2] => { results := [.lit (.bool true)], args := [d1, d2] }
  | _ => none }
def orderChecksRow : OpenClaim := { program := "ytnnknbghfbjcnaa", sum := "956b1d19d77caef9f9462c20d3a0337e6bbd0eb996082dc1546c70395b4ea28d", func := "mapmaker/mapmakerlaw39.OrderChecks", spec := "orderChecks", recurses := true, apart := false }
def OrderChecksSaid : Prop := orderChecksRow.holds Try.pinned (OpenSpec.ofChange orderChecksSpec)

/-- ITS FALSE NEIGHBOUR: 'it returns false'. Refute it at one input. -/
def orderChecksWrong : ChangeSpec := { name := "orderChecks", fn := fun _ => fun
  | [d1, d2] => { results := [.lit (.bool false)], args := [d1, d2] }
  | _ => none }
def OrderChecksWrongFalsely : Prop := orderChecksRow.holds Try.pinned (OpenSpec.ofChange orderChecksWrong)

/-- 'mapmakerlaw39.OrderDegrees': WHATEVER THE INPUT: true; the input reads as it did. -/
def orderDegreesSpec : ChangeSpec := { name := "orderDegrees", fn := fun _ => fun
  | [d] => { results := [.lit (.bool true)], args := [d] }
  | _ => none }
def orderDegreesRow : OpenClaim := { program := "ytnnknbghfbjcnaa", sum := "956b1d19d77caef9f9462c20d3a0337e6bbd0eb996082dc1546c70395b4ea28d", func := "mapmaker/mapmakerlaw39.OrderDegrees", spec := "orderDegrees", recurses := true, apart := false }
def OrderDegreesSaid : Prop := orderDegreesRow.holds Try.pinned (OpenSpec.ofChange orderDegreesSpec)

/-- ITS FALSE NEIGHBOUR: 'it returns false'. Refute it at one input. -/
def orderDegreesWrong : ChangeSpec := { name := "orderDegrees", fn := fun _ => fun
  | [d] => { results := [.lit (.bool false)], args := [d] }
  | _ => none }
def OrderDegreesWrongFalsely : Prop := orderDegreesRow.holds Try.pinned (OpenSpec.ofChange orderDegreesWrong)

/-- 'mapmakerlaw39.OrderFills': WHATEVER THE INPUT: true; the input reads as it did. -/
def orderFillsSpec : ChangeSpec := { name := "orderFills", fn := fun _ => fun
  | [d1, d2] => { results := [.lit (.bool true)], args := [d1, d2] }
  | _ => none }
def orderFillsRow : OpenClaim := { program := "ytnnknbghfbjcnaa", sum := "956b1d19d77caef9f9462c20d3a0337e6bbd0eb996082dc1546c70395b4ea28d", func := "mapmaker/mapmakerlaw39.OrderFills", spec := "orderFills", recurses := true, apart := false }
def OrderFillsSaid : Prop := orderFillsRow.holds Try.pinned (OpenSpec.ofChange orderFillsSpec)

/-- ITS FALSE NEIGHBOUR: 'it returns false'. Refute it at one input. -/
def orderFillsWrong : ChangeSpec := { name := "orderFills", fn := fun _ => fun
  | [d1, d2] => { results := [.lit (.bool false)], args := [d1, d2] }
  | _ => none }
def OrderFillsWrongFalsely : Prop := orderFillsRow.holds Try.pinned (OpenSpec.ofChange orderFillsWrong)

/-- 'mapmakerlaw39.OrderRanks': WHATEVER THE INPUT: true; the input reads as it did. -/
def orderRanksSpec : ChangeSpec := { name := "orderRanks", fn := fun _ => fun
  | [d] => { results := [.lit (.bool true)], args := [d] }
  | _ => none }
def orderRanksRow : OpenClaim := { program := "ytnnknbghfbjcnaa", sum := "956b1d19d77caef9f9462c20d3a0337e6bbd0eb996082dc1546c70395b4ea28d", func := "mapmaker/mapmakerlaw39.OrderRanks", spec := "orderRanks", recurses := true, apart := false }
def OrderRanksSaid : Prop := orderRanksRow.holds Try.pinned (OpenSpec.ofChange orderRanksSpec)

/-- ITS FALSE NEIGHBOUR: 'it returns false'. Refute it at one input. -/
def orderRanksWrong : ChangeSpec := { name := "orderRanks", fn := fun _ => fun
  | [d] => { results := [.lit (.bool false)], args := [d] }
  | _ => none }
def OrderRanksWrongFalsely : Prop := orderRanksRow.holds Try.pinned (OpenSpec.ofChange orderRanksWrong)

/-- 'mapmakerlaw39.OrderPositions': WHATEVER THE INPUT: true; the input reads as it did. -/
def orderPositionsSpec : ChangeSpec := { name := "orderPositions", fn := fun _ => fun
  | [d] => { results := [.lit (.bool true)], args := [d] }
  | _ => none }
def orderPositionsRow : OpenClaim := { program := "ytnnknbghfbjcnaa", sum := "956b1d19d77caef9f9462c20d3a0337e6bbd0eb996082dc1546c70395b4ea28d", func := "mapmaker/mapmakerlaw39.OrderPositions", spec := "orderPositions", recurses := true, apart := false }
def OrderPositionsSaid : Prop := orderPositionsRow.holds Try.pinned (OpenSpec.ofChange orderPositionsSpec)

/-- ITS FALSE NEIGHBOUR: 'it returns false'. Refute it at one input. -/
def orderPositionsWrong : ChangeSpec := { name := "orderPositions", fn := fun _ => fun
  | [d] => { results := [.lit (.bool false)], args := [d] }
  | _ => none }
def OrderPositionsWrongFalsely : Prop := orderPositionsRow.holds Try.pinned (OpenSpec.ofChange orderPositionsWrong)

/-- 'mapmakerlaw39.OrderForests': WHATEVER THE INPUT: true; the input reads as it did. -/
def orderForestsSpec : ChangeSpec := { name := "orderForests", fn := fun _ => fun
  | [d] => { results := [.lit (.bool true)], args := [d] }
  | _ => none }
def orderForestsRow : OpenClaim := { program := "ytnnknbghfbjcnaa", sum := "956b1d19d77caef9f9462c20d3a0337e6bbd0eb996082dc1546c70395b4ea28d", func := "mapmaker/mapmakerlaw39.OrderForests", spec := "orderForests", recurses := true, apart := false }
def OrderForestsSaid : Prop := orderForestsRow.holds Try.pinned (OpenSpec.ofChange orderForestsSpec)

/-- ITS FALSE NEIGHBOUR: 'it returns false'. Refute it at one input. -/
def orderForestsWrong : ChangeSpec := { name := "orderForests", fn := fun _ => fun
  | [d] => { results := [.lit (.bool false)], args := [d] }
  | _ => none }
def OrderForestsWrongFalsely : Prop := orderForestsRow.holds Try.pinned (OpenSpec.ofChange orderForestsWrong)

/- THE SECOND FORM. 'bulk': how many values and letters a reading holds, each counted each time it is reached (what is shared counts as often as it is met; a slice's spare places count too). A statement '..UptoSaid' is the law's where the arguments, and the package variables that the reading takes, are together of bulk at most 1048576: NARROWER than '..Said'. Prove '..Said' where nothing that the law and all that it calls make is longer than what came in: it says more and counts as full. Else prove '..UptoSaid'. A law counts once. -/
mutual
def uptoBulk {H : Type} : DataW H → Nat
  | .lit (.string bytes) => bytes.length + 1
  | .lit _ => 1
  | .nil => 1
  | .ptr d => uptoBulk d + 1
  | .slice elems spare => uptoBulkAll elems + uptoBulkAll spare + 1
  | .agg parts => uptoBulkAll parts + 1
  | .iface _ d => uptoBulk d + 1
  | .map entries => uptoBulkEntries entries + 1
  | .held _ => 1
def uptoBulkAll {H : Type} : List (DataW H) → Nat
  | [] => 0
  | d :: r => uptoBulk d + uptoBulkAll r
def uptoBulkEntries {H : Type} : List (Lit × DataW H) → Nat
  | [] => 0
  | x :: r => uptoBulkEntry x + uptoBulkEntries r
def uptoBulkEntry {H : Type} : Lit × DataW H → Nat
  | (.string bytes, d) => bytes.length + uptoBulk d + 1
  | (_, d) => uptoBulk d + 1
 end
def uptoSmall : (H : Type) → List (DataW H) → Bool := fun _ ds => decide (uptoBulkAll ds ≤ 1048576)
def OpenSpec.upto (s : _root_.Go.ChangeSpec) : _root_.Go.OpenSpec := { _root_.Go.OpenSpec.ofChange s with cond := some uptoSmall }

/-- 'mapmakerlaw37.GraphVertices', WHERE WHAT IT READS IS OF BULK AT MOST 1048576: true; the input reads as it did. -/
def graphVerticesUptoRow : OpenClaim := { program := "ytnnknbghfbjcnaa", sum := "956b1d19d77caef9f9462c20d3a0337e6bbd0eb996082dc1546c70395b4ea28d", func := "mapmaker/mapmakerlaw37.GraphVertices", spec := "graphVertices", recurses := true, apart := false, narrowed := true }
def GraphVerticesUptoSaid : Prop := graphVerticesUptoRow.holds Try.pinned (OpenSpec.upto graphVerticesSpec)

/-- 'mapmakerlaw37.GraphChecks', WHERE WHAT IT READS IS OF BULK AT MOST 1048576: true; the input reads as it did. -/
def graphChecksUptoRow : OpenClaim := { program := "ytnnknbghfbjcnaa", sum := "956b1d19d77caef9f9462c20d3a0337e6bbd0eb996082dc1546c70395b4ea28d", func := "mapmaker/mapmakerlaw37.GraphChecks", spec := "graphChecks", recurses := true, apart := false, narrowed := true }
def GraphChecksUptoSaid : Prop := graphChecksUptoRow.holds Try.pinned (OpenSpec.upto graphChecksSpec)

/-- 'mapmakerlaw37.GraphArcs', WHERE WHAT IT READS IS OF BULK AT MOST 1048576: true; the input reads as it did. -/
def graphArcsUptoRow : OpenClaim := { program := "ytnnknbghfbjcnaa", sum := "956b1d19d77caef9f9462c20d3a0337e6bbd0eb996082dc1546c70395b4ea28d", func := "mapmaker/mapmakerlaw37.GraphArcs", spec := "graphArcs", recurses := true, apart := false, narrowed := true }
def GraphArcsUptoSaid : Prop := graphArcsUptoRow.holds Try.pinned (OpenSpec.upto graphArcsSpec)

/-- 'mapmakerlaw37.GraphReverses', WHERE WHAT IT READS IS OF BULK AT MOST 1048576: true; the input reads as it did. -/
def graphReversesUptoRow : OpenClaim := { program := "ytnnknbghfbjcnaa", sum := "956b1d19d77caef9f9462c20d3a0337e6bbd0eb996082dc1546c70395b4ea28d", func := "mapmaker/mapmakerlaw37.GraphReverses", spec := "graphReverses", recurses := true, apart := false, narrowed := true }
def GraphReversesUptoSaid : Prop := graphReversesUptoRow.holds Try.pinned (OpenSpec.upto graphReversesSpec)

/-- 'mapmakerlaw37.GraphSymmetric', WHERE WHAT IT READS IS OF BULK AT MOST 1048576: true; the input reads as it did. -/
def graphSymmetricUptoRow : OpenClaim := { program := "ytnnknbghfbjcnaa", sum := "956b1d19d77caef9f9462c20d3a0337e6bbd0eb996082dc1546c70395b4ea28d", func := "mapmaker/mapmakerlaw37.GraphSymmetric", spec := "graphSymmetric", recurses := true, apart := false, narrowed := true }
def GraphSymmetricUptoSaid : Prop := graphSymmetricUptoRow.holds Try.pinned (OpenSpec.upto graphSymmetricSpec)

/-- 'mapmakerlaw39.OrderChecks', WHERE WHAT IT READS IS OF BULK AT MOST 1048576: true; the input reads as it did. -/
def orderChecksUptoRow : OpenClaim := { program := "ytnnknbghfbjcnaa", sum := "956b1d19d77caef9f9462c20d3a0337e6bbd0eb996082dc1546c70395b4ea28d", func := "mapmaker/mapmakerlaw39.OrderChecks", spec := "orderChecks", recurses := true, apart := false, narrowed := true }
def OrderChecksUptoSaid : Prop := orderChecksUptoRow.holds Try.pinned (OpenSpec.upto orderChecksSpec)

/-- 'mapmakerlaw39.OrderDegrees', WHERE WHAT IT READS IS OF BULK AT MOST 1048576: true; the input reads as it did. -/
def orderDegreesUptoRow : OpenClaim := { program := "ytnnknbghfbjcnaa", sum := "956b1d19d77caef9f9462c20d3a0337e6bbd0eb996082dc1546c70395b4ea28d", func := "mapmaker/mapmakerlaw39.OrderDegrees", spec := "orderDegrees", recurses := true, apart := false, narrowed := true }
def OrderDegreesUptoSaid : Prop := orderDegreesUptoRow.holds Try.pinned (OpenSpec.upto orderDegreesSpec)

/-- 'mapmakerlaw39.OrderFills', WHERE WHAT IT READS IS OF BULK AT MOST 1048576: true; the input reads as it did. -/
def orderFillsUptoRow : OpenClaim := { program := "ytnnknbghfbjcnaa", sum := "956b1d19d77caef9f9462c20d3a0337e6bbd0eb996082dc1546c70395b4ea28d", func := "mapmaker/mapmakerlaw39.OrderFills", spec := "orderFills", recurses := true, apart := false, narrowed := true }
def OrderFillsUptoSaid : Prop := orderFillsUptoRow.holds Try.pinned (OpenSpec.upto orderFillsSpec)

/-- 'mapmakerlaw39.OrderRanks', WHERE WHAT IT READS IS OF BULK AT MOST 1048576: true; the input reads as it did. -/
def orderRanksUptoRow : OpenClaim := { program := "ytnnknbghfbjcnaa", sum := "956b1d19d77caef9f9462c20d3a0337e6bbd0eb996082dc1546c70395b4ea28d", func := "mapmaker/mapmakerlaw39.OrderRanks", spec := "orderRanks", recurses := true, apart := false, narrowed := true }
def OrderRanksUptoSaid : Prop := orderRanksUptoRow.holds Try.pinned (OpenSpec.upto orderRanksSpec)

/-- 'mapmakerlaw39.OrderPositions', WHERE WHAT IT READS IS OF BULK AT MOST 1048576: true; the input reads as it did. -/
def orderPositionsUptoRow : OpenClaim := { program := "ytnnknbghfbjcnaa", sum := "956b1d19d77caef9f9462c20d3a0337e6bbd0eb996082dc1546c70395b4ea28d", func := "mapmaker/mapmakerlaw39.OrderPositions", spec := "orderPositions", recurses := true, apart := false, narrowed := true }
def OrderPositionsUptoSaid : Prop := orderPositionsUptoRow.holds Try.pinned (OpenSpec.upto orderPositionsSpec)

/-- 'mapmakerlaw39.OrderForests', WHERE WHAT IT READS IS OF BULK AT MOST 1048576: true; the input reads as it did. -/
def orderForestsUptoRow : OpenClaim := { program := "ytnnknbghfbjcnaa", sum := "956b1d19d77caef9f9462c20d3a0337e6bbd0eb996082dc1546c70395b4ea28d", func := "mapmaker/mapmakerlaw39.OrderForests", spec := "orderForests", recurses := true, apart := false, narrowed := true }
def OrderForestsUptoSaid : Prop := orderForestsUptoRow.holds Try.pinned (OpenSpec.upto orderForestsSpec)

end Rows
end Go.Proofs.Ytnnknbghfbjcnaa
