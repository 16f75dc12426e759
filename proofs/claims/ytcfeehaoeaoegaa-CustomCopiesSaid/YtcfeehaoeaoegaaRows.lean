/-
  No cell of these rows narrows 'for every input' (looked for: loops, veiled, ifaces, maps, wideKeys, modest, calm, conditions, laid).
  DERIVED. THE GIVEN ROWS OF THIS SEAT. 9 by the template 'for every input the law returns true; each argument reads behind the call as it read before'; 0 by the template 'total and deterministic' (their statements: YtcfeehaoeaoegaaTotals.lean).
  GIVEN WITH THE SEED: the statements are not yours to turn. If you find one false, say at which input.
  Laid BY PROGRAM, IN A SANDBOX (cutbox-rows.mjs): the forced cells as the released guide's own fill.sh prints them over the translation a3dc0e274c27e69e… (all of the seat's roots in one cut). By AI agents, Wed Nov 11 2026. No macro, syntax, notation, axiom, sorry.
-/
import Derived.Test.YtcfeehaoeaoegaaChecked
import GoSem.Claim
import GoSem.ClaimJoined
import GoSem.ClaimMapViews
import Derived.JoinedTies
import Derived.KernelRfl
namespace Go.Proofs.Ytcfeehaoeaoegaa
/- THE CELL 'sum', in the pinned program and in every row, IS THE sha256 OF THE DUMP (.gsa) THAT YtcfeehaoeaoegaaProg.lean LOADS. Nothing in Lean hashes anything: it is a label: what it is worth is what the hold of that sum in a sandbox is worth. -/
noncomputable def Try.pinned : Pinned := { name := "ytcfeehaoeaoegaa", sum := "a3dc0e274c27e69e32a51935228d78243cf40050fd58f4c7288a5ec9f51169f2", checked := Try.checked }
namespace Rows
def none {H : Type} : Left H := { results := [], args := [] }

/-- 'mapmakerlaw40.ContractEdges': WHATEVER THE INPUT: true; the input reads as it did. -/
def contractEdgesSpec : ChangeSpec := { name := "contractEdges", fn := fun _ => fun
  | [d1, d2] => { results := [.lit (.bool true)], args := [d1, d2] }
  | _ => none }
def contractEdgesRow : OpenClaim := { program := "ytcfeehaoeaoegaa", sum := "a3dc0e274c27e69e32a51935228d78243cf40050fd58f4c7288a5ec9f51169f2", func := "mapmaker/mapmakerlaw40.ContractEdges", spec := "contractEdges", recurses := true, plainKeys := false, apart := false }
def ContractEdgesSaid : Prop := contractEdgesRow.holds Try.pinned (OpenSpec.ofChange contractEdgesSpec)

/-- ITS FALSE NEIGHBOUR: 'it returns false'. Refute it at one input. -/
def contractEdgesWrong : ChangeSpec := { name := "contractEdges", fn := fun _ => fun
  | [d1, d2] => { results := [.lit (.bool false)], args := [d1, d2] }
  | _ => none }
def ContractEdgesWrongFalsely : Prop := contractEdgesRow.holds Try.pinned (OpenSpec.ofChange contractEdgesWrong)

/-- 'mapmakerlaw40.ContractFinds': WHATEVER THE INPUT: true; the input reads as it did. -/
def contractFindsSpec : ChangeSpec := { name := "contractFinds", fn := fun _ => fun
  | [d1, d2, d3, d4, d5] => { results := [.lit (.bool true)], args := [d1, d2, d3, d4, d5] }
  | _ => none }
def contractFindsRow : OpenClaim := { program := "ytcfeehaoeaoegaa", sum := "a3dc0e274c27e69e32a51935228d78243cf40050fd58f4c7288a5ec9f51169f2", func := "mapmaker/mapmakerlaw40.ContractFinds", spec := "contractFinds", recurses := true, plainKeys := false, apart := false }
def ContractFindsSaid : Prop := contractFindsRow.holds Try.pinned (OpenSpec.ofChange contractFindsSpec)

/-- ITS FALSE NEIGHBOUR: 'it returns false'. Refute it at one input. -/
def contractFindsWrong : ChangeSpec := { name := "contractFinds", fn := fun _ => fun
  | [d1, d2, d3, d4, d5] => { results := [.lit (.bool false)], args := [d1, d2, d3, d4, d5] }
  | _ => none }
def ContractFindsWrongFalsely : Prop := contractFindsRow.holds Try.pinned (OpenSpec.ofChange contractFindsWrong)

/-- 'mapmakerlaw40.ContractChordal': WHATEVER THE INPUT: true; the input reads as it did. -/
def contractChordalSpec : ChangeSpec := { name := "contractChordal", fn := fun _ => fun
  | [d1, d2] => { results := [.lit (.bool true)], args := [d1, d2] }
  | _ => none }
def contractChordalRow : OpenClaim := { program := "ytcfeehaoeaoegaa", sum := "a3dc0e274c27e69e32a51935228d78243cf40050fd58f4c7288a5ec9f51169f2", func := "mapmaker/mapmakerlaw40.ContractChordal", spec := "contractChordal", recurses := true, plainKeys := false, apart := false }
def ContractChordalSaid : Prop := contractChordalRow.holds Try.pinned (OpenSpec.ofChange contractChordalSpec)

/-- ITS FALSE NEIGHBOUR: 'it returns false'. Refute it at one input. -/
def contractChordalWrong : ChangeSpec := { name := "contractChordal", fn := fun _ => fun
  | [d1, d2] => { results := [.lit (.bool false)], args := [d1, d2] }
  | _ => none }
def ContractChordalWrongFalsely : Prop := contractChordalRow.holds Try.pinned (OpenSpec.ofChange contractChordalWrong)

/-- 'mapmakerlaw40.ContractBuilds': WHATEVER THE INPUT: true; the input reads as it did. -/
def contractBuildsSpec : ChangeSpec := { name := "contractBuilds", fn := fun _ => fun
  | [d1, d2, d3] => { results := [.lit (.bool true)], args := [d1, d2, d3] }
  | _ => none }
def contractBuildsRow : OpenClaim := { program := "ytcfeehaoeaoegaa", sum := "a3dc0e274c27e69e32a51935228d78243cf40050fd58f4c7288a5ec9f51169f2", func := "mapmaker/mapmakerlaw40.ContractBuilds", spec := "contractBuilds", recurses := true, plainKeys := false, apart := false }
def ContractBuildsSaid : Prop := contractBuildsRow.holds Try.pinned (OpenSpec.ofChange contractBuildsSpec)

/-- ITS FALSE NEIGHBOUR: 'it returns false'. Refute it at one input. -/
def contractBuildsWrong : ChangeSpec := { name := "contractBuilds", fn := fun _ => fun
  | [d1, d2, d3] => { results := [.lit (.bool false)], args := [d1, d2, d3] }
  | _ => none }
def ContractBuildsWrongFalsely : Prop := contractBuildsRow.holds Try.pinned (OpenSpec.ofChange contractBuildsWrong)

/-- 'mapmakerlaw41.CustomLocal': WHATEVER THE INPUT: true; the input reads as it did. -/
def customLocalSpec : ChangeSpec := { name := "customLocal", fn := fun _ => fun
  | [d1, d2, d3] => { results := [.lit (.bool true)], args := [d1, d2, d3] }
  | _ => none }
def customLocalRow : OpenClaim := { program := "ytcfeehaoeaoegaa", sum := "a3dc0e274c27e69e32a51935228d78243cf40050fd58f4c7288a5ec9f51169f2", func := "mapmaker/mapmakerlaw41.CustomLocal", spec := "customLocal", unfollowed := true, recurses := true, plainKeys := false, apart := false }
def CustomLocalSaid : Prop := customLocalRow.holds Try.pinned (OpenSpec.ofChange customLocalSpec)

/-- ITS FALSE NEIGHBOUR: 'it returns false'. Refute it at one input. -/
def customLocalWrong : ChangeSpec := { name := "customLocal", fn := fun _ => fun
  | [d1, d2, d3] => { results := [.lit (.bool false)], args := [d1, d2, d3] }
  | _ => none }
def CustomLocalWrongFalsely : Prop := customLocalRow.holds Try.pinned (OpenSpec.ofChange customLocalWrong)

/-- 'mapmakerlaw41.CustomBuilds': WHATEVER THE INPUT: true; the input reads as it did. -/
def customBuildsSpec : ChangeSpec := { name := "customBuilds", fn := fun _ => fun
  | [d1, d2, d3] => { results := [.lit (.bool true)], args := [d1, d2, d3] }
  | _ => none }
def customBuildsRow : OpenClaim := { program := "ytcfeehaoeaoegaa", sum := "a3dc0e274c27e69e32a51935228d78243cf40050fd58f4c7288a5ec9f51169f2", func := "mapmaker/mapmakerlaw41.CustomBuilds", spec := "customBuilds", unfollowed := true, recurses := true, plainKeys := false, apart := false }
def CustomBuildsSaid : Prop := customBuildsRow.holds Try.pinned (OpenSpec.ofChange customBuildsSpec)

/-- ITS FALSE NEIGHBOUR: 'it returns false'. Refute it at one input. -/
def customBuildsWrong : ChangeSpec := { name := "customBuilds", fn := fun _ => fun
  | [d1, d2, d3] => { results := [.lit (.bool false)], args := [d1, d2, d3] }
  | _ => none }
def CustomBuildsWrongFalsely : Prop := customBuildsRow.holds Try.pinned (OpenSpec.ofChange customBuildsWrong)

/-- 'mapmakerlaw41.CustomSets': WHATEVER THE INPUT: true; the input reads as it did. -/
def customSetsSpec : ChangeSpec := { name := "customSets", fn := fun _ => fun
  | [d1, d2, d3, d4] => { results := [.lit (.bool true)], args := [d1, d2, d3, d4] }
  | _ => none }
def customSetsRow : OpenClaim := { program := "ytcfeehaoeaoegaa", sum := "a3dc0e274c27e69e32a51935228d78243cf40050fd58f4c7288a5ec9f51169f2", func := "mapmaker/mapmakerlaw41.CustomSets", spec := "customSets", unfollowed := true, recurses := true, plainKeys := false, apart := false }
def CustomSetsSaid : Prop := customSetsRow.holds Try.pinned (OpenSpec.ofChange customSetsSpec)

/-- ITS FALSE NEIGHBOUR: 'it returns false'. Refute it at one input. -/
def customSetsWrong : ChangeSpec := { name := "customSets", fn := fun _ => fun
  | [d1, d2, d3, d4] => { results := [.lit (.bool false)], args := [d1, d2, d3, d4] }
  | _ => none }
def CustomSetsWrongFalsely : Prop := customSetsRow.holds Try.pinned (OpenSpec.ofChange customSetsWrong)

/-- 'mapmakerlaw41.CustomCopies': WHATEVER THE INPUT: true; the input reads as it did. -/
def customCopiesSpec : ChangeSpec := { name := "customCopies", fn := fun _ => fun
  | [d1, d2, d3, d4] => { results := [.lit (.bool true)], args := [d1, d2, d3, d4] }
  | _ => none }
def customCopiesRow : OpenClaim := { program := "ytcfeehaoeaoegaa", sum := "a3dc0e274c27e69e32a51935228d78243cf40050fd58f4c7288a5ec9f51169f2", func := "mapmaker/mapmakerlaw41.CustomCopies", spec := "customCopies", unfollowed := true, recurses := true, plainKeys := false, apart := false }
def CustomCopiesSaid : Prop := customCopiesRow.holds Try.pinned (OpenSpec.ofChange customCopiesSpec)

/-- ITS FALSE NEIGHBOUR: 'it returns false'. Refute it at one input. -/
def customCopiesWrong : ChangeSpec := { name := "customCopies", fn := fun _ => fun
  | [d1, d2, d3, d4] => { results := [.lit (.bool false)], args := [d1, d2, d3, d4] }
  | _ => none }
def CustomCopiesWrongFalsely : Prop := customCopiesRow.holds Try.pinned (OpenSpec.ofChange customCopiesWrong)

/-- 'mapmakerlaw41.CustomNil': WHATEVER THE INPUT: true; the input reads as it did. -/
def customNilSpec : ChangeSpec := { name := "customNil", fn := fun _ => fun
  | [d1, d2, d3] => { results := [.lit (.bool true)], args := [d1, d2, d3] }
  | _ => none }
def customNilRow : OpenClaim := { program := "ytcfeehaoeaoegaa", sum := "a3dc0e274c27e69e32a51935228d78243cf40050fd58f4c7288a5ec9f51169f2", func := "mapmaker/mapmakerlaw41.CustomNil", spec := "customNil", unfollowed := true, recurses := true, plainKeys := false, apart := false }
def CustomNilSaid : Prop := customNilRow.holds Try.pinned (OpenSpec.ofChange customNilSpec)

/-- ITS FALSE NEIGHBOUR: 'it returns false'. Refute it at one input. -/
def customNilWrong : ChangeSpec := { name := "customNil", fn := fun _ => fun
  | [d1, d2, d3] => { results := [.lit (.bool false)], args := [d1, d2, d3] }
  | _ => none }
def CustomNilWrongFalsely : Prop := customNilRow.holds Try.pinned (OpenSpec.ofChange customNilWrong)

/- THE SECOND FORM. 'bulk': how many values and letters a reading holds, each counted each time it is reached (what is shared counts as often as it is met; a slice's spare places count too). A statement '..UptoSaid' is the law's where the arguments, and the package variables that the reading takes, are together of bulk at most 1048576: NARROWER than '..Said'. Prove '..Said' where nothing that the law and all that it calls make is longer than what came in: it says more and counts as full. Else prove '..UptoSaid'. A law counts once. -/
mutual
def uptoBulk {H : Type} : DataW H → Nat
  | .lit (.string bytes) => bytes.length + 1
  | .lit _ => 1
  | .nil => 1
  | .ptr d => uptoBulk d + 1
  | .slice elems spare => uptoBulkAll elems + uptoBulkAll spare + 1
  | .agg parts => uptoBulkAll parts + 1
  | .iface _ d => uptoBulk d + 1
  | .map entries => uptoBulkEntries entries + 1
  | .held _ => 1
def uptoBulkAll {H : Type} : List (DataW H) → Nat
  | [] => 0
  | d :: r => uptoBulk d + uptoBulkAll r
def uptoBulkEntries {H : Type} : List (Lit × DataW H) → Nat
  | [] => 0
  | x :: r => uptoBulkEntry x + uptoBulkEntries r
def uptoBulkEntry {H : Type} : Lit × DataW H → Nat
  | (.string bytes, d) => bytes.length + uptoBulk d + 1
  | (_, d) => uptoBulk d + 1
 end
def uptoSmall : (H : Type) → List (DataW H) → Bool := fun _ ds => decide (uptoBulkAll ds ≤ 1048576)
def OpenSpec.upto (s : _root_.Go.ChangeSpec) : _root_.Go.OpenSpec := { _root_.Go.OpenSpec.ofChange s with cond := some uptoSmall }

/-- 'mapmakerlaw40.ContractEdges', WHERE WHAT IT READS IS OF BULK AT MOST 1048576: true; the input reads as it did. -/
def contractEdgesUptoRow : OpenClaim := { program := "ytcfeehaoeaoegaa", sum := "a3dc0e274c27e69e32a51935228d78243cf40050fd58f4c7288a5ec9f51169f2", func := "mapmaker/mapmakerlaw40.ContractEdges", spec := "contractEdges", recurses := true, plainKeys := false, apart := false, narrowed := true }
def ContractEdgesUptoSaid : Prop := contractEdgesUptoRow.holds Try.pinned (OpenSpec.upto contractEdgesSpec)

/-- 'mapmakerlaw40.ContractFinds', WHERE WHAT IT READS IS OF BULK AT MOST 1048576: true; the input reads as it did. -/
def contractFindsUptoRow : OpenClaim := { program := "ytcfeehaoeaoegaa", sum := "a3dc0e274c27e69e32a51935228d78243cf40050fd58f4c7288a5ec9f51169f2", func := "mapmaker/mapmakerlaw40.ContractFinds", spec := "contractFinds", recurses := true, plainKeys := false, apart := false, narrowed := true }
def ContractFindsUptoSaid : Prop := contractFindsUptoRow.holds Try.pinned (OpenSpec.upto contractFindsSpec)

/-- 'mapmakerlaw40.ContractChordal', WHERE WHAT IT READS IS OF BULK AT MOST 1048576: true; the input reads as it did. -/
def contractChordalUptoRow : OpenClaim := { program := "ytcfeehaoeaoegaa", sum := "a3dc0e274c27e69e32a51935228d78243cf40050fd58f4c7288a5ec9f51169f2", func := "mapmaker/mapmakerlaw40.ContractChordal", spec := "contractChordal", recurses := true, plainKeys := false, apart := false, narrowed := true }
def ContractChordalUptoSaid : Prop := contractChordalUptoRow.holds Try.pinned (OpenSpec.upto contractChordalSpec)

/-- 'mapmakerlaw40.ContractBuilds', WHERE WHAT IT READS IS OF BULK AT MOST 1048576: true; the input reads as it did. -/
def contractBuildsUptoRow : OpenClaim := { program := "ytcfeehaoeaoegaa", sum := "a3dc0e274c27e69e32a51935228d78243cf40050fd58f4c7288a5ec9f51169f2", func := "mapmaker/mapmakerlaw40.ContractBuilds", spec := "contractBuilds", recurses := true, plainKeys := false, apart := false, narrowed := true }
def ContractBuildsUptoSaid : Prop := contractBuildsUptoRow.holds Try.pinned (OpenSpec.upto contractBuildsSpec)

/-- 'mapmakerlaw41.CustomLocal', WHERE WHAT IT READS IS OF BULK AT MOST 1048576: true; the input reads as it did. -/
def customLocalUptoRow : OpenClaim := { program := "ytcfeehaoeaoegaa", sum := "a3dc0e274c27e69e32a51935228d78243cf40050fd58f4c7288a5ec9f51169f2", func := "mapmaker/mapmakerlaw41.CustomLocal", spec := "customLocal", unfollowed := true, recurses := true, plainKeys := false, apart := false, narrowed := true }
def CustomLocalUptoSaid : Prop := customLocalUptoRow.holds Try.pinned (OpenSpec.upto customLocalSpec)

/-- 'mapmakerlaw41.CustomBuilds', WHERE WHAT IT READS IS OF BULK AT MOST 1048576: true; the input reads as it did. -/
def customBuildsUptoRow : OpenClaim := { program := "ytcfeehaoeaoegaa", sum := "a3dc0e274c27e69e32a51935228d78243cf40050fd58f4c7288a5ec9f51169f2", func := "mapmaker/mapmakerlaw41.CustomBuilds", spec := "customBuilds", unfollowed := true, recurses := true, plainKeys := false, apart := false, narrowed := true }
def CustomBuildsUptoSaid : Prop := customBuildsUptoRow.holds Try.pinned (OpenSpec.upto customBuildsSpec)

/-- 'mapmakerlaw41.CustomSets', WHERE WHAT IT READS IS OF BULK AT MOST 1048576: true; the input reads as it did. -/
def customSetsUptoRow : OpenClaim := { program := "ytcfeehaoeaoegaa", sum := "a3dc0e274c27e69e32a51935228d78243cf40050fd58f4c7288a5ec9f51169f2", func := "mapmaker/mapmakerlaw41.CustomSets", spec := "customSets", unfollowed := true, recurses := true, plainKeys := false, apart := false, narrowed := true }
def CustomSetsUptoSaid : Prop := customSetsUptoRow.holds Try.pinned (OpenSpec.upto customSetsSpec)

/-- 'mapmakerlaw41.CustomCopies', WHERE WHAT IT READS IS OF BULK AT MOST 1048576: true; the input reads as it did. -/
def customCopiesUptoRow : OpenClaim := { program := "ytcfeehaoeaoegaa", sum := "a3dc0e274c27e69e32a51935228d78243cf40050fd58f4c7288a5ec9f51169f2", func := "mapmaker/mapmakerlaw41.CustomCopies", spec := "customCopies", unfollowed := true, recurses := true, plainKeys := false, apart := false, narrowed := true }
def CustomCopiesUptoSaid : Prop := customCopiesUptoRow.holds Try.pinned (OpenSpec.upto customCopiesSpec)

/-- 'mapmakerlaw41.CustomNil', WHERE WHAT IT READS IS OF BULK AT MOST 1048576: true; the input reads as it did. -/
def customNilUptoRow : OpenClaim := { program := "ytcfeehaoeaoegaa", sum := "a3dc0e274c27e69e32a51935228d78243cf40050fd58f4c7288a5ec9f51169f2", func := "mapmaker/mapmakerlaw41.CustomNil", spec := "customNil", unfollowed := true, recurses := true, plainKeys := false, apart := false, narrowed := true }
def CustomNilUptoSaid : Prop := customNilUptoRow.holds Try.pinned (OpenSpec.upto customNilSpec)

end Rows
end Go.Proofs.Ytcfeehaoeaoegaa
