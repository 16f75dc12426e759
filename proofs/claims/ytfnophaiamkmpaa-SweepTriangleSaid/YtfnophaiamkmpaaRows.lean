/-
  No cell of these rows narrows 'for every input' (looked for: loops, veiled, ifaces, maps, wideKeys, modest, calm, conditions, laid).
  DERIVED. THE GIVEN ROWS OF THIS SEAT. 11 by the template 'for every input the law returns true; each argument reads behind the call as it read before'; 0 by the template 'total and deterministic' (their statements: YtfnophaiamkmpaaTotals.lean).
  GIVEN WITH THE SEED: the statements are not yours to turn. If you find one false, say at which input.
  Laid BY PROGRAM, IN A SANDBOX (cutbox-rows.mjs): the forced cells as the released guide's own fill.sh prints them over the translation ad3805cfe1c253d3… (all of the seat's roots in one cut). By AI agents, Wed Nov 11 2026. No macro, syntax, notation, axiom, sorry.
-/
import Derived.Test.YtfnophaiamkmpaaChecked
import GoSem.Claim
import GoSem.ClaimJoined
import GoSem.ClaimMapViews
import Derived.JoinedTies
import Derived.KernelRfl
namespace Go.Proofs.Ytfnophaiamkmpaa
/- THE CELL 'sum', in the pinned program and in every row, IS THE sha256 OF THE DUMP (.gsa) THAT YtfnophaiamkmpaaProg.lean LOADS. Nothing in Lean hashes anything: it is a label: what it is worth is what the hold of that sum in a sandbox is worth. -/
noncomputable def Try.pinned : Pinned := { name := "ytfnophaiamkmpaa", sum := "ad3805cfe1c253d34417edfeaa1bfeed359f9df4fd25830fcdddb26812bf4917", checked := Try.checked }
namespace Rows
def none {H : Type} : Left H := { results := [], args := [] }

/-- 'mapmakerlaw42.QueryDists': WHATEVER THE INPUT: true; the input reads as it did. -/
def queryDistsSpec : ChangeSpec := { name := "queryDists", fn := fun _ => fun
  | [d1, d2, d3] => { results := [.lit (.bool true)], args := [d1, d2, d3] }
  | _ => none }
def queryDistsRow : OpenClaim := { program := "ytfnophaiamkmpaa", sum := "ad3805cfe1c253d34417edfeaa1bfeed359f9df4fd25830fcdddb26812bf4917", func := "mapmaker/mapmakerlaw42.QueryDists", spec := "queryDists", unfollowed := true, recurses := true, plainKeys := false, apart := false }
def QueryDistsSaid : Prop := queryDistsRow.holds Try.pinned (OpenSpec.ofChange queryDistsSpec)

/-- ITS FALSE NEIGHBOUR: 'it returns false'. Refute it at one input. -/
def queryDistsWrong : ChangeSpec := { name := "queryDists", fn := fun _ => fun
  | [d1, d2, d3] => { results := [.lit (.bool false)], args := [d1, d2, d3] }
  | _ => none }
def QueryDistsWrongFalsely : Prop := queryDistsRow.holds Try.pinned (OpenSpec.ofChange queryDistsWrong)

/-- 'mapmakerlaw42.QueryPaths': WHATEVER THE INPUT: true; the input reads as it did. -/
def queryPathsSpec : ChangeSpec := { name := "queryPaths", fn := fun _ => fun
  | [d1, d2, d3] => { results := [.lit (.bool true)], args := [d1, d2, d3] }
  | _ => none }
def queryPathsRow : OpenClaim := { program := "ytfnophaiamkmpaa", sum := "ad3805cfe1c253d34417edfeaa1bfeed359f9df4fd25830fcdddb26812bf4917", func := "mapmaker/mapmakerlaw42.QueryPaths", spec := "queryPaths", unfollowed := true, recurses := true, plainKeys := false, apart := false }
def QueryPathsSaid : Prop := queryPathsRow.holds Try.pinned (OpenSpec.ofChange queryPathsSpec)

/-- ITS FALSE NEIGHBOUR: 'it returns false'. Refute it at one input. -/
def queryPathsWrong : ChangeSpec := { name := "queryPaths", fn := fun _ => fun
  | [d1, d2, d3] => { results := [.lit (.bool false)], args := [d1, d2, d3] }
  | _ => none }
def QueryPathsWrongFalsely : Prop := queryPathsRow.holds Try.pinned (OpenSpec.ofChange queryPathsWrong)

/-- 'mapmakerlaw42.QueryUpward': WHATEVER THE INPUT: true; the input reads as it did. -/
def queryUpwardSpec : ChangeSpec := { name := "queryUpward", fn := fun _ => fun
  | [d1, d2] => { results := [.lit (.bool true)], args := [d1, d2] }
  | _ => none }
def queryUpwardRow : OpenClaim := { program := "ytfnophaiamkmpaa", sum := "ad3805cfe1c253d34417edfeaa1bfeed359f9df4fd25830fcdddb26812bf4917", func := "mapmaker/mapmakerlaw42.QueryUpward", spec := "queryUpward", unfollowed := true, recurses := true, plainKeys := false, apart := false }
def QueryUpwardSaid : Prop := queryUpwardRow.holds Try.pinned (OpenSpec.ofChange queryUpwardSpec)

/-- ITS FALSE NEIGHBOUR: 'it returns false'. Refute it at one input. -/
def queryUpwardWrong : ChangeSpec := { name := "queryUpward", fn := fun _ => fun
  | [d1, d2] => { results := [.lit (.bool false)], args := [d1, d2] }
  | _ => none }
def QueryUpwardWrongFalsely : Prop := queryUpwardRow.holds Try.pinned (OpenSpec.ofChange queryUpwardWrong)

/-- 'mapmakerlaw42.QueryMeets': WHATEVER THE INPUT: true; the input reads as it did. -/
def queryMeetsSpec : ChangeSpec := { name := "queryMeets", fn := fun _ => fun
  | [d1, d2, d3] => { results := [.lit (.bool true)], args := [d1, d2, d3] }
  | _ => none }
def queryMeetsRow : OpenClaim := { program := "ytfnophaiamkmpaa", sum := "ad3805cfe1c253d34417edfeaa1bfeed359f9df4fd25830fcdddb26812bf4917", func := "mapmaker/mapmakerlaw42.QueryMeets", spec := "queryMeets", unfollowed := true, recurses := true, plainKeys := false, apart := false }
def QueryMeetsSaid : Prop := queryMeetsRow.holds Try.pinned (OpenSpec.ofChange queryMeetsSpec)

/-- ITS FALSE NEIGHBOUR: 'it returns false'. Refute it at one input. -/
def queryMeetsWrong : ChangeSpec := { name := "queryMeets", fn := fun _ => fun
  | [d1, d2, d3] => { results := [.lit (.bool false)], args := [d1, d2, d3] }
  | _ => none }
def QueryMeetsWrongFalsely : Prop := queryMeetsRow.holds Try.pinned (OpenSpec.ofChange queryMeetsWrong)

/-- 'mapmakerlaw42.QueryUnpacks': WHATEVER THE INPUT: true; the input reads as it did. -/
def queryUnpacksSpec : ChangeSpec := { name := "queryUnpacks", fn := fun _ => fun
  | [d1, d2, d3] => { results := [.lit (.bool true)], args := [d1, d2, d3] }
  | _ => none }
def queryUnpacksRow : OpenClaim := { program := "ytfnophaiamkmpaa", sum := "ad3805cfe1c253d34417edfeaa1bfeed359f9df4fd25830fcdddb26812bf4917", func := "mapmaker/mapmakerlaw42.QueryUnpacks", spec := "queryUnpacks", unfollowed := true, recurses := true, plainKeys := false, apart := false }
def QueryUnpacksSaid : Prop := queryUnpacksRow.holds Try.pinned (OpenSpec.ofChange queryUnpacksSpec)

/-- ITS FALSE NEIGHBOUR: 'it returns false'. Refute it at one input. -/
def queryUnpacksWrong : ChangeSpec := { name := "queryUnpacks", fn := fun _ => fun
  | [d1, d2, d3] => { results := [.lit (.bool false)], args := [d1, d2, d3] }
  | _ => none }
def QueryUnpacksWrongFalsely : Prop := queryUnpacksRow.holds Try.pinned (OpenSpec.ofChange queryUnpacksWrong)

/-- 'mapmakerlaw42.QueryNone': WHATEVER THE INPUT: true; the input reads as it did. -/
def queryNoneSpec : ChangeSpec := { name := "queryNone", fn := fun _ => fun
  | [d1, d2] => { results := [.lit (.bool true)], args := [d1, d2] }
  | _ => none }
def queryNoneRow : OpenClaim := { program := "ytfnophaiamkmpaa", sum := "ad3805cfe1c253d34417edfeaa1bfeed359f9df4fd25830fcdddb26812bf4917", func := "mapmaker/mapmakerlaw42.QueryNone", spec := "queryNone", unfollowed := true, recurses := true, plainKeys := false, apart := false }
def QueryNoneSaid : Prop := queryNoneRow.holds Try.pinned (OpenSpec.ofChange queryNoneSpec)

/-- ITS FALSE NEIGHBOUR: 'it returns false'. Refute it at one input. -/
def queryNoneWrong : ChangeSpec := { name := "queryNone", fn := fun _ => fun
  | [d1, d2] => { results := [.lit (.bool false)], args := [d1, d2] }
  | _ => none }
def QueryNoneWrongFalsely : Prop := queryNoneRow.holds Try.pinned (OpenSpec.ofChange queryNoneWrong)

/-- 'mapmakerlaw42.QueryChanges': WHATEVER THE INPUT: true; the input reads as it did. -/
def queryChangesSpec : ChangeSpec := { name := "queryChanges", fn := fun _ => fun
  | [d1, d2, d3] => { results := [.lit (.bool true)], args := [d1, d2, d3] }
  | _ => none }
def queryChangesRow : OpenClaim := { program := "ytfnophaiamkmpaa", sum := "ad3805cfe1c253d34417edfeaa1bfeed359f9df4fd25830fcdddb26812bf4917", func := "mapmaker/mapmakerlaw42.QueryChanges", spec := "queryChanges", unfollowed := true, recurses := true, plainKeys := false, apart := false }
def QueryChangesSaid : Prop := queryChangesRow.holds Try.pinned (OpenSpec.ofChange queryChangesSpec)

/-- ITS FALSE NEIGHBOUR: 'it returns false'. Refute it at one input. -/
def queryChangesWrong : ChangeSpec := { name := "queryChanges", fn := fun _ => fun
  | [d1, d2, d3] => { results := [.lit (.bool false)], args := [d1, d2, d3] }
  | _ => none }
def QueryChangesWrongFalsely : Prop := queryChangesRow.holds Try.pinned (OpenSpec.ofChange queryChangesWrong)

/-- 'mapmakerlaw43.SweepFrom': WHATEVER THE INPUT: true; the input reads as it did. -/
def sweepFromSpec : ChangeSpec := { name := "sweepFrom", fn := fun _ => fun
  | [d1, d2, d3, d4] => { results := [.lit (.bool true)], args := [d1, d2, d3, d4] }
  | _ => none }
def sweepFromRow : OpenClaim := { program := "ytfnophaiamkmpaa", sum := "ad3805cfe1c253d34417edfeaa1bfeed359f9df4fd25830fcdddb26812bf4917", func := "mapmaker/mapmakerlaw43.SweepFrom", spec := "sweepFrom", unfollowed := true, recurses := true, plainKeys := false, apart := false }
def SweepFromSaid : Prop := sweepFromRow.holds Try.pinned (OpenSpec.ofChange sweepFromSpec)

/-- ITS FALSE NEIGHBOUR: 'it returns false'. Refute it at one input. -/
def sweepFromWrong : ChangeSpec := { name := "sweepFrom", fn := fun _ => fun
  | [d1, d2, d3, d4] => { results := [.lit (.bool false)], args := [d1, d2, d3, d4] }
  | _ => none }
def SweepFromWrongFalsely : Prop := sweepFromRow.holds Try.pinned (OpenSpec.ofChange sweepFromWrong)

/-- 'mapmakerlaw43.SweepWithin': WHATEVER THE INPUT: true; the input reads as it did. -/
def sweepWithinSpec : ChangeSpec := { name := "sweepWithin", fn := fun _ => fun
  | [d1, d2, d3, d4, d5] => { results := [.lit (.bool true)], args := [d1, d2, d3, d4, d5] }
  | _ => none }
def sweepWithinRow : OpenClaim := { program := "ytfnophaiamkmpaa", sum := "ad3805cfe1c253d34417edfeaa1bfeed359f9df4fd25830fcdddb26812bf4917", func := "mapmaker/mapmakerlaw43.SweepWithin", spec := "sweepWithin", unfollowed := true, recurses := true, plainKeys := false, apart := false }
def SweepWithinSaid : Prop := sweepWithinRow.holds Try.pinned (OpenSpec.ofChange sweepWithinSpec)

/-- ITS FALSE NEIGHBOUR: 'it returns false'. Refute it at one input. -/
def sweepWithinWrong : ChangeSpec := { name := "sweepWithin", fn := fun _ => fun
  | [d1, d2, d3, d4, d5] => { results := [.lit (.bool false)], args := [d1, d2, d3, d4, d5] }
  | _ => none }
def SweepWithinWrongFalsely : Prop := sweepWithinRow.holds Try.pinned (OpenSpec.ofChange sweepWithinWrong)

/-- 'mapmakerlaw43.SweepTriangle': WHATEVER THE INPUT: true; the input reads as it did. -/
def sweepTriangleSpec : ChangeSpec := { name := "sweepTriangle", fn := fun _ => fun
  | [d1, d2, d3, d4] => { results := [.lit (.bool true)], args := [d1, d2, d3, d4] }
  | _ => none }
def sweepTriangleRow : OpenClaim := { program := "ytfnophaiamkmpaa", sum := "ad3805cfe1c253d34417edfeaa1bfeed359f9df4fd25830fcdddb26812bf4917", func := "mapmaker/mapmakerlaw43.SweepTriangle", spec := "sweepTriangle", unfollowed := true, recurses := true, plainKeys := false, apart := false }
def SweepTriangleSaid : Prop := sweepTriangleRow.holds Try.pinned (OpenSpec.ofChange sweepTriangleSpec)

/-- ITS FALSE NEIGHBOUR: 'it returns false'. Refute it at one input. -/
def sweepTriangleWrong : ChangeSpec := { name := "sweepTriangle", fn := fun _ => fun
  | [d1, d2, d3, d4] => { results := [.lit (.bool false)], args := [d1, d2, d3, d4] }
  | _ => none }
def SweepTriangleWrongFalsely : Prop := sweepTriangleRow.holds Try.pinned (OpenSpec.ofChange sweepTriangleWrong)

/-- 'mapmakerlaw43.SweepAgrees': WHATEVER THE INPUT: true; the input reads as it did. -/
def sweepAgreesSpec : ChangeSpec := { name := "sweepAgrees", fn := fun _ => fun
  | [d1, d2, d3, d4, d5] => { results := [.lit (.bool true)], args := [d1, d2, d3, d4, d5] }
  | _ => none }
def sweepAgreesRow : OpenClaim := { program := "ytfnophaiamkmpaa", sum := "ad3805cfe1c253d34417edfeaa1bfeed359f9df4fd25830fcdddb26812bf4917", func := "mapmaker/mapmakerlaw43.SweepAgrees", spec := "sweepAgrees", unfollowed := true, recurses := true, plainKeys := false, apart := false }
def SweepAgreesSaid : Prop := sweepAgreesRow.holds Try.pinned (OpenSpec.ofChange sweepAgreesSpec)

/-- ITS FALSE NEIGHBOUR: 'it returns false'. Refute it at one input. -/
def sweepAgreesWrong : ChangeSpec := { name := "sweepAgrees", fn := fun _ => fun
  | [d1, d2, d3, d4, d5] => { results := [.lit (.bool false)], args := [d1, d2, d3, d4, d5] }
  | _ => none }
def SweepAgreesWrongFalsely : Prop := sweepAgreesRow.holds Try.pinned (OpenSpec.ofChange sweepAgreesWrong)

/- THE SECOND FORM. 'bulk': how many values and letters a reading holds, each counted each time it is reached (what is shared counts as often as it is met; a slice's spare places count too). A statement '..UptoSaid' is the law's where the arguments, and the package variables that the reading takes, are together of bulk at most 1048576: NARROWER than '..Said'. Prove '..Said' where nothing that the law and all that it calls make is longer than what came in: it says more and counts as full. Else prove '..UptoSaid'. A law counts once. -/
mutual
def uptoBulk {H : Type} : DataW H → Nat
  | .lit (.string bytes) => bytes.length + 1
  | .lit _ => 1
  | .nil => 1
  | .ptr d => uptoBulk d + 1
  | .slice elems spare => uptoBulkAll elems + uptoBulkAll spare + 1
  | .agg parts => uptoBulkAll parts + 1
  | .iface _ d => uptoBulk d + 1
  | .map entries => uptoBulkEntries entries + 1
  | .held _ => 1
def uptoBulkAll {H : Type} : List (DataW H) → Nat
  | [] => 0
  | d :: r => uptoBulk d + uptoBulkAll r
def uptoBulkEntries {H : Type} : List (Lit × DataW H) → Nat
  | [] => 0
  | x :: r => uptoBulkEntry x + uptoBulkEntries r
def uptoBulkEntry {H : Type} : Lit × DataW H → Nat
  | (.string bytes, d) => bytes.length + uptoBulk d + 1
  | (_, d) => uptoBulk d + 1
 end
def uptoSmall : (H : Type) → List (DataW H) → Bool := fun _ ds => decide (uptoBulkAll ds ≤ 1048576)
def OpenSpec.upto (s : _root_.Go.ChangeSpec) : _root_.Go.OpenSpec := { _root_.Go.OpenSpec.ofChange s with cond := some uptoSmall }

/-- 'mapmakerlaw42.QueryDists', WHERE WHAT IT READS IS OF BULK AT MOST 1048576: true; the input reads as it did. -/
def queryDistsUptoRow : OpenClaim := { program := "ytfnophaiamkmpaa", sum := "ad3805cfe1c253d34417edfeaa1bfeed359f9df4fd25830fcdddb26812bf4917", func := "mapmaker/mapmakerlaw42.QueryDists", spec := "queryDists", unfollowed := true, recurses := true, plainKeys := false, apart := false, narrowed := true }
def QueryDistsUptoSaid : Prop := queryDistsUptoRow.holds Try.pinned (OpenSpec.upto queryDistsSpec)

/-- 'mapmakerlaw42.QueryPaths', WHERE WHAT IT READS IS OF BULK AT MOST 1048576: true; the input reads as it did. -/
def queryPathsUptoRow : OpenClaim := { program := "ytfnophaiamkmpaa", sum := "ad3805cfe1c253d34417edfeaa1bfeed359f9df4fd25830fcdddb26812bf4917", func := "mapmaker/mapmakerlaw42.QueryPaths", spec := "queryPaths", unfollowed := true, recurses := true, plainKeys := false, apart := false, narrowed := true }
def QueryPathsUptoSaid : Prop := queryPathsUptoRow.holds Try.pinned (OpenSpec.upto queryPathsSpec)

/-- 'mapmakerlaw42.QueryUpward', WHERE WHAT IT READS IS OF BULK AT MOST 1048576: true; the input reads as it did. -/
def queryUpwardUptoRow : OpenClaim := { program := "ytfnophaiamkmpaa", sum := "ad3805cfe1c253d34417edfeaa1bfeed359f9df4fd25830fcdddb26812bf4917", func := "mapmaker/mapmakerlaw42.QueryUpward", spec := "queryUpward", unfollowed := true, recurses := true, plainKeys := false, apart := false, narrowed := true }
def QueryUpwardUptoSaid : Prop := queryUpwardUptoRow.holds Try.pinned (OpenSpec.upto queryUpwardSpec)

/-- 'mapmakerlaw42.QueryMeets', WHERE WHAT IT READS IS OF BULK AT MOST 1048576: true; the input reads as it did. -/
def queryMeetsUptoRow : OpenClaim := { program := "ytfnophaiamkmpaa", sum := "ad3805cfe1c253d34417edfeaa1bfeed359f9df4fd25830fcdddb26812bf4917", func := "mapmaker/mapmakerlaw42.QueryMeets", spec := "queryMeets", unfollowed := true, recurses := true, plainKeys := false, apart := false, narrowed := true }
def QueryMeetsUptoSaid : Prop := queryMeetsUptoRow.holds Try.pinned (OpenSpec.upto queryMeetsSpec)

/-- 'mapmakerlaw42.QueryUnpacks', WHERE WHAT IT READS IS OF BULK AT MOST 1048576: true; the input reads as it did. -/
def queryUnpacksUptoRow : OpenClaim := { program := "ytfnophaiamkmpaa", sum := "ad3805cfe1c253d34417edfeaa1bfeed359f9df4fd25830fcdddb26812bf4917", func := "mapmaker/mapmakerlaw42.QueryUnpacks", spec := "queryUnpacks", unfollowed := true, recurses := true, plainKeys := false, apart := false, narrowed := true }
def QueryUnpacksUptoSaid : Prop := queryUnpacksUptoRow.holds Try.pinned (OpenSpec.upto queryUnpacksSpec)

/-- 'mapmakerlaw42.QueryNone', WHERE WHAT IT READS IS OF BULK AT MOST 1048576: true; the input reads as it did. -/
def queryNoneUptoRow : OpenClaim := { program := "ytfnophaiamkmpaa", sum := "ad3805cfe1c253d34417edfeaa1bfeed359f9df4fd25830fcdddb26812bf4917", func := "mapmaker/mapmakerlaw42.QueryNone", spec := "queryNone", unfollowed := true, recurses := true, plainKeys := false, apart := false, narrowed := true }
def QueryNoneUptoSaid : Prop := queryNoneUptoRow.holds Try.pinned (OpenSpec.upto queryNoneSpec)

/-- 'mapmakerlaw42.QueryChanges', WHERE WHAT IT READS IS OF BULK AT MOST 1048576: true; the input reads as it did. -/
def queryChangesUptoRow : OpenClaim := { program := "ytfnophaiamkmpaa", sum := "ad3805cfe1c253d34417edfeaa1bfeed359f9df4fd25830fcdddb26812bf4917", func := "mapmaker/mapmakerlaw42.QueryChanges", spec := "queryChanges", unfollowed := true, recurses := true, plainKeys := false, apart := false, narrowed := true }
def QueryChangesUptoSaid : Prop := queryChangesUptoRow.holds Try.pinned (OpenSpec.upto queryChangesSpec)

/-- 'mapmakerlaw43.SweepFrom', WHERE WHAT IT READS IS OF BULK AT MOST 1048576: true; the input reads as it did. -/
def sweepFromUptoRow : OpenClaim := { program := "ytfnophaiamkmpaa", sum := "ad3805cfe1c253d34417edfeaa1bfeed359f9df4fd25830fcdddb26812bf4917", func := "mapmaker/mapmakerlaw43.SweepFrom", spec := "sweepFrom", unfollowed := true, recurses := true, plainKeys := false, apart := false, narrowed := true }
def SweepFromUptoSaid : Prop := sweepFromUptoRow.holds Try.pinned (OpenSpec.upto sweepFromSpec)

/-- 'mapmakerlaw43.SweepWithin', WHERE WHAT IT READS IS OF BULK AT MOST 1048576: true; the input reads as it did. -/
def sweepWithinUptoRow : OpenClaim := { program := "ytfnophaiamkmpaa", sum := "ad3805cfe1c253d34417edfeaa1bfeed359f9df4fd25830fcdddb26812bf4917", func := "mapmaker/mapmakerlaw43.SweepWithin", spec := "sweepWithin", unfollowed := true, recurses := true, plainKeys := false, apart := false, narrowed := true }
def SweepWithinUptoSaid : Prop := sweepWithinUptoRow.holds Try.pinned (OpenSpec.upto sweepWithinSpec)

/-- 'mapmakerlaw43.SweepTriangle', WHERE WHAT IT READS IS OF BULK AT MOST 1048576: true; the input reads as it did. -/
def sweepTriangleUptoRow : OpenClaim := { program := "ytfnophaiamkmpaa", sum := "ad3805cfe1c253d34417edfeaa1bfeed359f9df4fd25830fcdddb26812bf4917", func := "mapmaker/mapmakerlaw43.SweepTriangle", spec := "sweepTriangle", unfollowed := true, recurses := true, plainKeys := false, apart := false, narrowed := true }
def SweepTriangleUptoSaid : Prop := sweepTriangleUptoRow.holds Try.pinned (OpenSpec.upto sweepTriangleSpec)

/-- 'mapmakerlaw43.SweepAgrees', WHERE WHAT IT READS IS OF BULK AT MOST 1048576: true; the input reads as it did. -/
def sweepAgreesUptoRow : OpenClaim := { program := "ytfnophaiamkmpaa", sum := "ad3805cfe1c253d34417edfeaa1bfeed359f9df4fd25830fcdddb26812bf4917", func := "mapmaker/mapmakerlaw43.SweepAgrees", spec := "sweepAgrees", unfollowed := true, recurses := true, plainKeys := false, apart := false, narrowed := true }
def SweepAgreesUptoSaid : Prop := sweepAgreesUptoRow.holds Try.pinned (OpenSpec.upto sweepAgreesSpec)

end Rows
end Go.Proofs.Ytfnophaiamkmpaa
