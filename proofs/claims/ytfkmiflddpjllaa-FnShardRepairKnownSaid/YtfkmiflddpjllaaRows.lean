/-
  No cell of these rows narrows 'for every input' (looked for: loops, veiled, ifaces, maps, wideKeys, modest, calm, conditions, laid).
  DERIVED. THE GIVEN ROWS OF THIS SEAT. 12 by the template 'for every input the law returns true; each argument reads behind the call as it read before'; 0 by the template 'total and deterministic' (their statements: YtfkmiflddpjllaaTotals.lean).
  GIVEN WITH THE SEED: the statements are not yours to turn. If you find one false, say at which input.
  Laid BY PROGRAM, IN A SANDBOX (cutbox-rows.mjs): the forced cells as the released guide's own fill.sh prints them over the translation b29149eed97d3fa6… (all of the seat's roots in one cut). By AI agents, Wed Nov 11 2026. No macro, syntax, notation, axiom, sorry.
-/
import Derived.Test.YtfkmiflddpjllaaChecked
import GoSem.Claim
import GoSem.ClaimJoined
import GoSem.ClaimMapViews
import Derived.JoinedTies
import Derived.KernelRfl
namespace Go.Proofs.Ytfkmiflddpjllaa
/- THE CELL 'sum', in the pinned program and in every row, IS THE sha256 OF THE DUMP (.gsa) THAT YtfkmiflddpjllaaProg.lean LOADS. Nothing in Lean hashes anything: it is a label: what it is worth is what the hold of that sum in a sandbox is worth. -/
noncomputable def Try.pinned : Pinned := { name := "ytfkmiflddpjllaa", sum := "b29149eed97d3fa680a7da0339b9129682961f105d308b66b9349c75da3239c2", checked := Try.checked }
namespace Rows
def none {H : Type} : Left H := { results := [], args := [] }

/-- 'laws.FnShardRepairKnown': WHATEVER THE INPUT: true; the input reads as it did. -/
def fnShardRepairKnownSpec : ChangeSpec := { name := "fnShardRepairKnown", fn := fun _ => fun
  | [d1, d2] => { results := [.lit (.bool true)], args := [d1, d2] }
  | _ => none }
def fnShardRepairKnownRow : OpenClaim := { program := "ytfkmiflddpjllaa", sum := "b29149eed97d3fa680a7da0339b9129682961f105d308b66b9349c75da3239c2", func := "loop.example/dagconsensus/laws.FnShardRepairKnown", spec := "fnShardRepairKnown", unfollowed := true, recurses := true, apart := false }
def FnShardRepairKnownSaid : Prop := fnShardRepairKnownRow.holds Try.pinned (OpenSpec.ofChange fnShardRepairKnownSpec)

/-- ITS FALSE NEIGHBOUR: 'it returns false'. Refute it at one input. -/
def fnShardRepairKnownWrong : ChangeSpec := { name := "fnShardRepairKnown", fn := fun _ => fun
  | [d1, d2] => { results := [.lit (.bool false)], args := [d1, d2] }
  | _ => none }
def FnShardRepairKnownWrongFalsely : Prop := fnShardRepairKnownRow.holds Try.pinned (OpenSpec.ofChange fnShardRepairKnownWrong)

/-- 'laws.FnShardRepair': WHATEVER THE INPUT: true; the input reads as it did. -/
def fnShardRepairSpec : ChangeSpec := { name := "fnShardRepair", fn := fun _ => fun
  | [d] => { results := [.lit (.bool true)], args := [d] }
  | _ => none }
def fnShardRepairRow : OpenClaim := { program := "ytfkmiflddpjllaa", sum := "b29149eed97d3fa680a7da0339b9129682961f105d308b66b9349c75da3239c2", func := "loop.example/dagconsensus/laws.FnShardRepair", spec := "fnShardRepair", unfollowed := true, recurses := true, apart := false }
def FnShardRepairSaid : Prop := fnShardRepairRow.holds Try.pinned (OpenSpec.ofChange fnShardRepairSpec)

/-- ITS FALSE NEIGHBOUR: 'it returns false'. Refute it at one input. -/
def fnShardRepairWrong : ChangeSpec := { name := "fnShardRepair", fn := fun _ => fun
  | [d] => { results := [.lit (.bool false)], args := [d] }
  | _ => none }
def FnShardRepairWrongFalsely : Prop := fnShardRepairRow.holds Try.pinned (OpenSpec.ofChange fnShardRepairWrong)

/-- 'laws.FnExactShardRepair': WHATEVER THE INPUT: true; the input reads as it did. -/
def fnExactShardRepairSpec : ChangeSpec := { name := "fnExactShardRepair", fn := fun _ => fun
  | [d1, d2, d3, d4] => { results := [.lit (.bool true)], args := [d1, d2, d3, d4] }
  | _ => none }
def fnExactShardRepairRow : OpenClaim := { program := "ytfkmiflddpjllaa", sum := "b29149eed97d3fa680a7da0339b9129682961f105d308b66b9349c75da3239c2", func := "loop.example/dagconsensus/laws.FnExactShardRepair", spec := "fnExactShardRepair", unfollowed := true, recurses := true, apart := false }
def FnExactShardRepairSaid : Prop := fnExactShardRepairRow.holds Try.pinned (OpenSpec.ofChange fnExactShardRepairSpec)

/-- ITS FALSE NEIGHBOUR: 'it returns false'. Refute it at one input. -/
def fnExactShardRepairWrong : ChangeSpec := { name := "fnExactShardRepair", fn := fun _ => fun
  | [d1, d2, d3, d4] => { results := [.lit (.bool false)], args := [d1, d2, d3, d4] }
  | _ => none }
def FnExactShardRepairWrongFalsely : Prop := fnExactShardRepairRow.holds Try.pinned (OpenSpec.ofChange fnExactShardRepairWrong)

/-- 'laws.FnExactShardMatches': WHATEVER THE INPUT: true; the input reads as it did. -/
def fnExactShardMatchesSpec : ChangeSpec := { name := "fnExactShardMatches", fn := fun _ => fun
  | [d1, d2, d3] => { results := [.lit (.bool true)], args := [d1, d2, d3] }
  | _ => none }
def fnExactShardMatchesRow : OpenClaim := { program := "ytfkmiflddpjllaa", sum := "b29149eed97d3fa680a7da0339b9129682961f105d308b66b9349c75da3239c2", func := "loop.example/dagconsensus/laws.FnExactShardMatches", spec := "fnExactShardMatches", unfollowed := true, recurses := true, apart := false }
def FnExactShardMatchesSaid : Prop := fnExactShardMatchesRow.holds Try.pinned (OpenSpec.ofChange fnExactShardMatchesSpec)

/-- ITS FALSE NEIGHBOUR: 'it returns false'. Refute it at one input. -/
def fnExactShardMatchesWrong : ChangeSpec := { name := "fnExactShardMatches", fn := fun _ => fun
  | [d1, d2, d3] => { results := [.lit (.bool false)], args := [d1, d2, d3] }
  | _ => none }
def FnExactShardMatchesWrongFalsely : Prop := fnExactShardMatchesRow.holds Try.pinned (OpenSpec.ofChange fnExactShardMatchesWrong)

/-- 'laws.FnShardsLength': WHATEVER THE INPUT: true; the input reads as it did. -/
def fnShardsLengthSpec : ChangeSpec := { name := "fnShardsLength", fn := fun _ => fun
  | [d] => { results := [.lit (.bool true)], args := [d] }
  | _ => none }
def fnShardsLengthRow : OpenClaim := { program := "ytfkmiflddpjllaa", sum := "b29149eed97d3fa680a7da0339b9129682961f105d308b66b9349c75da3239c2", func := "loop.example/dagconsensus/laws.FnShardsLength", spec := "fnShardsLength", unfollowed := true, recurses := true, apart := false }
def FnShardsLengthSaid : Prop := fnShardsLengthRow.holds Try.pinned (OpenSpec.ofChange fnShardsLengthSpec)

/-- ITS FALSE NEIGHBOUR: 'it returns false'. Refute it at one input. -/
def fnShardsLengthWrong : ChangeSpec := { name := "fnShardsLength", fn := fun _ => fun
  | [d] => { results := [.lit (.bool false)], args := [d] }
  | _ => none }
def FnShardsLengthWrongFalsely : Prop := fnShardsLengthRow.holds Try.pinned (OpenSpec.ofChange fnShardsLengthWrong)

/-- 'laws.FnShardsSum': WHATEVER THE INPUT: true; the input reads as it did. -/
def fnShardsSumSpec : ChangeSpec := { name := "fnShardsSum", fn := fun _ => fun
  | [d] => { results := [.lit (.bool true)], args := [d] }
  | _ => none }
def fnShardsSumRow : OpenClaim := { program := "ytfkmiflddpjllaa", sum := "b29149eed97d3fa680a7da0339b9129682961f105d308b66b9349c75da3239c2", func := "loop.example/dagconsensus/laws.FnShardsSum", spec := "fnShardsSum", unfollowed := true, recurses := true, apart := false }
def FnShardsSumSaid : Prop := fnShardsSumRow.holds Try.pinned (OpenSpec.ofChange fnShardsSumSpec)

/-- ITS FALSE NEIGHBOUR: 'it returns false'. Refute it at one input. -/
def fnShardsSumWrong : ChangeSpec := { name := "fnShardsSum", fn := fun _ => fun
  | [d] => { results := [.lit (.bool false)], args := [d] }
  | _ => none }
def FnShardsSumWrongFalsely : Prop := fnShardsSumRow.holds Try.pinned (OpenSpec.ofChange fnShardsSumWrong)

/-- 'laws.FnExactShardMake': WHATEVER THE INPUT: true; the input reads as it did. -/
def fnExactShardMakeSpec : ChangeSpec := { name := "fnExactShardMake", fn := fun _ => fun
  | [d1, d2, d3] => { results := [.lit (.bool true)], args := [d1, d2, d3] }
  | _ => none }
def fnExactShardMakeRow : OpenClaim := { program := "ytfkmiflddpjllaa", sum := "b29149eed97d3fa680a7da0339b9129682961f105d308b66b9349c75da3239c2", func := "loop.example/dagconsensus/laws.FnExactShardMake", spec := "fnExactShardMake", unfollowed := true, recurses := true, apart := false }
def FnExactShardMakeSaid : Prop := fnExactShardMakeRow.holds Try.pinned (OpenSpec.ofChange fnExactShardMakeSpec)

/-- ITS FALSE NEIGHBOUR: 'it returns false'. Refute it at one input. -/
def fnExactShardMakeWrong : ChangeSpec := { name := "fnExactShardMake", fn := fun _ => fun
  | [d1, d2, d3] => { results := [.lit (.bool false)], args := [d1, d2, d3] }
  | _ => none }
def FnExactShardMakeWrongFalsely : Prop := fnExactShardMakeRow.holds Try.pinned (OpenSpec.ofChange fnExactShardMakeWrong)

/-- 'laws.FnExactShardJoin': WHATEVER THE INPUT: true; the input reads as it did. -/
def fnExactShardJoinSpec : ChangeSpec := { name := "fnExactShardJoin", fn := fun _ => fun
  | [d1, d2, d3] => { results := [.lit (.bool true)], args := [d1, d2, d3] }
  | _ => none }
def fnExactShardJoinRow : OpenClaim := { program := "ytfkmiflddpjllaa", sum := "b29149eed97d3fa680a7da0339b9129682961f105d308b66b9349c75da3239c2", func := "loop.example/dagconsensus/laws.FnExactShardJoin", spec := "fnExactShardJoin", unfollowed := true, recurses := true, apart := false }
def FnExactShardJoinSaid : Prop := fnExactShardJoinRow.holds Try.pinned (OpenSpec.ofChange fnExactShardJoinSpec)

/-- ITS FALSE NEIGHBOUR: 'it returns false'. Refute it at one input. -/
def fnExactShardJoinWrong : ChangeSpec := { name := "fnExactShardJoin", fn := fun _ => fun
  | [d1, d2, d3] => { results := [.lit (.bool false)], args := [d1, d2, d3] }
  | _ => none }
def FnExactShardJoinWrongFalsely : Prop := fnExactShardJoinRow.holds Try.pinned (OpenSpec.ofChange fnExactShardJoinWrong)

/-- 'laws.FnShardJoinMatches': WHATEVER THE INPUT: true; the input reads as it did. -/
def fnShardJoinMatchesSpec : ChangeSpec := { name := "fnShardJoinMatches", fn := fun _ => fun
  | [d] => { results := [.lit (.bool true)], args := [d] }
  | _ => none }
def fnShardJoinMatchesRow : OpenClaim := { program := "ytfkmiflddpjllaa", sum := "b29149eed97d3fa680a7da0339b9129682961f105d308b66b9349c75da3239c2", func := "loop.example/dagconsensus/laws.FnShardJoinMatches", spec := "fnShardJoinMatches", unfollowed := true, recurses := true, apart := false }
def FnShardJoinMatchesSaid : Prop := fnShardJoinMatchesRow.holds Try.pinned (OpenSpec.ofChange fnShardJoinMatchesSpec)

/-- ITS FALSE NEIGHBOUR: 'it returns false'. Refute it at one input. -/
def fnShardJoinMatchesWrong : ChangeSpec := { name := "fnShardJoinMatches", fn := fun _ => fun
  | [d] => { results := [.lit (.bool false)], args := [d] }
  | _ => none }
def FnShardJoinMatchesWrongFalsely : Prop := fnShardJoinMatchesRow.holds Try.pinned (OpenSpec.ofChange fnShardJoinMatchesWrong)

/-- 'laws.FnShardsAll': WHATEVER THE INPUT: true; the input reads as it did. -/
def fnShardsAllSpec : ChangeSpec := { name := "fnShardsAll", fn := fun _ => fun
  | [d] => { results := [.lit (.bool true)], args := [d] }
  | _ => none }
def fnShardsAllRow : OpenClaim := { program := "ytfkmiflddpjllaa", sum := "b29149eed97d3fa680a7da0339b9129682961f105d308b66b9349c75da3239c2", func := "loop.example/dagconsensus/laws.FnShardsAll", spec := "fnShardsAll", unfollowed := true, recurses := true, apart := false }
def FnShardsAllSaid : Prop := fnShardsAllRow.holds Try.pinned (OpenSpec.ofChange fnShardsAllSpec)

/-- ITS FALSE NEIGHBOUR: 'it returns false'. Refute it at one input. -/
def fnShardsAllWrong : ChangeSpec := { name := "fnShardsAll", fn := fun _ => fun
  | [d] => { results := [.lit (.bool false)], args := [d] }
  | _ => none }
def FnShardsAllWrongFalsely : Prop := fnShardsAllRow.holds Try.pinned (OpenSpec.ofChange fnShardsAllWrong)

/-- 'laws.FnShardsJoin': WHATEVER THE INPUT: true; the input reads as it did. -/
def fnShardsJoinSpec : ChangeSpec := { name := "fnShardsJoin", fn := fun _ => fun
  | [d1, d2] => { results := [.lit (.bool true)], args := [d1, d2] }
  | _ => none }
def fnShardsJoinRow : OpenClaim := { program := "ytfkmiflddpjllaa", sum := "b29149eed97d3fa680a7da0339b9129682961f105d308b66b9349c75da3239c2", func := "loop.example/dagconsensus/laws.FnShardsJoin", spec := "fnShardsJoin", unfollowed := true, recurses := true, apart := false }
def FnShardsJoinSaid : Prop := fnShardsJoinRow.holds Try.pinned (OpenSpec.ofChange fnShardsJoinSpec)

/-- ITS FALSE NEIGHBOUR: 'it returns false'. Refute it at one input. -/
def fnShardsJoinWrong : ChangeSpec := { name := "fnShardsJoin", fn := fun _ => fun
  | [d1, d2] => { results := [.lit (.bool false)], args := [d1, d2] }
  | _ => none }
def FnShardsJoinWrongFalsely : Prop := fnShardsJoinRow.holds Try.pinned (OpenSpec.ofChange fnShardsJoinWrong)

/-- 'laws.FnShardsFew': WHATEVER THE INPUT: true; the input reads as it did. -/
def fnShardsFewSpec : ChangeSpec := { name := "fnShardsFew", fn := fun _ => fun
  | [d1, d2] => { results := [.lit (.bool true)], args := [d1, d2] }
  | _ => none }
def fnShardsFewRow : OpenClaim := { program := "ytfkmiflddpjllaa", sum := "b29149eed97d3fa680a7da0339b9129682961f105d308b66b9349c75da3239c2", func := "loop.example/dagconsensus/laws.FnShardsFew", spec := "fnShardsFew", unfollowed := true, recurses := true, apart := false }
def FnShardsFewSaid : Prop := fnShardsFewRow.holds Try.pinned (OpenSpec.ofChange fnShardsFewSpec)

/-- ITS FALSE NEIGHBOUR: 'it returns false'. Refute it at one input. -/
def fnShardsFewWrong : ChangeSpec := { name := "fnShardsFew", fn := fun _ => fun
  | [d1, d2] => { results := [.lit (.bool false)], args := [d1, d2] }
  | _ => none }
def FnShardsFewWrongFalsely : Prop := fnShardsFewRow.holds Try.pinned (OpenSpec.ofChange fnShardsFewWrong)

/- THE SECOND FORM. 'bulk': how many values and letters a reading holds, each counted each time it is reached (what is shared counts as often as it is met; a slice's spare places count too). A statement '..UptoSaid' is the law's where the arguments, and the package variables that the reading takes, are together of bulk at most 1048576: NARROWER than '..Said'. Prove '..Said' where nothing that the law and all that it calls make is longer than what came in: it says more and counts as full. Else prove '..UptoSaid'. A law counts once. -/
mutual
def uptoBulk {H : Type} : DataW H → Nat
  | .lit (.string bytes) => bytes.length + 1
  | .lit _ => 1
  | .nil => 1
  | .ptr d => uptoBulk d + 1
  | .slice elems spare => uptoBulkAll elems + uptoBulkAll spare + 1
  | .agg parts => uptoBulkAll parts + 1
  | .iface _ d => uptoBulk d + 1
  | .map entries => uptoBulkEntries entries + 1
  | .held _ => 1
def uptoBulkAll {H : Type} : List (DataW H) → Nat
  | [] => 0
  | d :: r => uptoBulk d + uptoBulkAll r
def uptoBulkEntries {H : Type} : List (Lit × DataW H) → Nat
  | [] => 0
  | x :: r => uptoBulkEntry x + uptoBulkEntries r
def uptoBulkEntry {H : Type} : Lit × DataW H → Nat
  | (.string bytes, d) => bytes.length + uptoBulk d + 1
  | (_, d) => uptoBulk d + 1
 end
def uptoSmall : (H : Type) → List (DataW H) → Bool := fun _ ds => decide (uptoBulkAll ds ≤ 1048576)
def OpenSpec.upto (s : _root_.Go.ChangeSpec) : _root_.Go.OpenSpec := { _root_.Go.OpenSpec.ofChange s with cond := some uptoSmall }

/-- 'laws.FnShardRepairKnown', WHERE WHAT IT READS IS OF BULK AT MOST 1048576: true; the input reads as it did. -/
def fnShardRepairKnownUptoRow : OpenClaim := { program := "ytfkmiflddpjllaa", sum := "b29149eed97d3fa680a7da0339b9129682961f105d308b66b9349c75da3239c2", func := "loop.example/dagconsensus/laws.FnShardRepairKnown", spec := "fnShardRepairKnown", unfollowed := true, recurses := true, apart := false, narrowed := true }
def FnShardRepairKnownUptoSaid : Prop := fnShardRepairKnownUptoRow.holds Try.pinned (OpenSpec.upto fnShardRepairKnownSpec)

/-- 'laws.FnShardRepair', WHERE WHAT IT READS IS OF BULK AT MOST 1048576: true; the input reads as it did. -/
def fnShardRepairUptoRow : OpenClaim := { program := "ytfkmiflddpjllaa", sum := "b29149eed97d3fa680a7da0339b9129682961f105d308b66b9349c75da3239c2", func := "loop.example/dagconsensus/laws.FnShardRepair", spec := "fnShardRepair", unfollowed := true, recurses := true, apart := false, narrowed := true }
def FnShardRepairUptoSaid : Prop := fnShardRepairUptoRow.holds Try.pinned (OpenSpec.upto fnShardRepairSpec)

/-- 'laws.FnExactShardRepair', WHERE WHAT IT READS IS OF BULK AT MOST 1048576: true; the input reads as it did. -/
def fnExactShardRepairUptoRow : OpenClaim := { program := "ytfkmiflddpjllaa", sum := "b29149eed97d3fa680a7da0339b9129682961f105d308b66b9349c75da3239c2", func := "loop.example/dagconsensus/laws.FnExactShardRepair", spec := "fnExactShardRepair", unfollowed := true, recurses := true, apart := false, narrowed := true }
def FnExactShardRepairUptoSaid : Prop := fnExactShardRepairUptoRow.holds Try.pinned (OpenSpec.upto fnExactShardRepairSpec)

/-- 'laws.FnExactShardMatches', WHERE WHAT IT READS IS OF BULK AT MOST 1048576: true; the input reads as it did. -/
def fnExactShardMatchesUptoRow : OpenClaim := { program := "ytfkmiflddpjllaa", sum := "b29149eed97d3fa680a7da0339b9129682961f105d308b66b9349c75da3239c2", func := "loop.example/dagconsensus/laws.FnExactShardMatches", spec := "fnExactShardMatches", unfollowed := true, recurses := true, apart := false, narrowed := true }
def FnExactShardMatchesUptoSaid : Prop := fnExactShardMatchesUptoRow.holds Try.pinned (OpenSpec.upto fnExactShardMatchesSpec)

/-- 'laws.FnShardsLength', WHERE WHAT IT READS IS OF BULK AT MOST 1048576: true; the input reads as it did. -/
def fnShardsLengthUptoRow : OpenClaim := { program := "ytfkmiflddpjllaa", sum := "b29149eed97d3fa680a7da0339b9129682961f105d308b66b9349c75da3239c2", func := "loop.example/dagconsensus/laws.FnShardsLength", spec := "fnShardsLength", unfollowed := true, recurses := true, apart := false, narrowed := true }
def FnShardsLengthUptoSaid : Prop := fnShardsLengthUptoRow.holds Try.pinned (OpenSpec.upto fnShardsLengthSpec)

/-- 'laws.FnShardsSum', WHERE WHAT IT READS IS OF BULK AT MOST 1048576: true; the input reads as it did. -/
def fnShardsSumUptoRow : OpenClaim := { program := "ytfkmiflddpjllaa", sum := "b29149eed97d3fa680a7da0339b9129682961f105d308b66b9349c75da3239c2", func := "loop.example/dagconsensus/laws.FnShardsSum", spec := "fnShardsSum", unfollowed := true, recurses := true, apart := false, narrowed := true }
def FnShardsSumUptoSaid : Prop := fnShardsSumUptoRow.holds Try.pinned (OpenSpec.upto fnShardsSumSpec)

/-- 'laws.FnExactShardMake', WHERE WHAT IT READS IS OF BULK AT MOST 1048576: true; the input reads as it did. -/
def fnExactShardMakeUptoRow : OpenClaim := { program := "ytfkmiflddpjllaa", sum := "b29149eed97d3fa680a7da0339b9129682961f105d308b66b9349c75da3239c2", func := "loop.example/dagconsensus/laws.FnExactShardMake", spec := "fnExactShardMake", unfollowed := true, recurses := true, apart := false, narrowed := true }
def FnExactShardMakeUptoSaid : Prop := fnExactShardMakeUptoRow.holds Try.pinned (OpenSpec.upto fnExactShardMakeSpec)

/-- 'laws.FnExactShardJoin', WHERE WHAT IT READS IS OF BULK AT MOST 1048576: true; the input reads as it did. -/
def fnExactShardJoinUptoRow : OpenClaim := { program := "ytfkmiflddpjllaa", sum := "b29149eed97d3fa680a7da0339b9129682961f105d308b66b9349c75da3239c2", func := "loop.example/dagconsensus/laws.FnExactShardJoin", spec := "fnExactShardJoin", unfollowed := true, recurses := true, apart := false, narrowed := true }
def FnExactShardJoinUptoSaid : Prop := fnExactShardJoinUptoRow.holds Try.pinned (OpenSpec.upto fnExactShardJoinSpec)

/-- 'laws.FnShardJoinMatches', WHERE WHAT IT READS IS OF BULK AT MOST 1048576: true; the input reads as it did. -/
def fnShardJoinMatchesUptoRow : OpenClaim := { program := "ytfkmiflddpjllaa", sum := "b29149eed97d3fa680a7da0339b9129682961f105d308b66b9349c75da3239c2", func := "loop.example/dagconsensus/laws.FnShardJoinMatches", spec := "fnShardJoinMatches", unfollowed := true, recurses := true, apart := false, narrowed := true }
def FnShardJoinMatchesUptoSaid : Prop := fnShardJoinMatchesUptoRow.holds Try.pinned (OpenSpec.upto fnShardJoinMatchesSpec)

/-- 'laws.FnShardsAll', WHERE WHAT IT READS IS OF BULK AT MOST 1048576: true; the input reads as it did. -/
def fnShardsAllUptoRow : OpenClaim := { program := "ytfkmiflddpjllaa", sum := "b29149eed97d3fa680a7da0339b9129682961f105d308b66b9349c75da3239c2", func := "loop.example/dagconsensus/laws.FnShardsAll", spec := "fnShardsAll", unfollowed := true, recurses := true, apart := false, narrowed := true }
def FnShardsAllUptoSaid : Prop := fnShardsAllUptoRow.holds Try.pinned (OpenSpec.upto fnShardsAllSpec)

/-- 'laws.FnShardsJoin', WHERE WHAT IT READS IS OF BULK AT MOST 1048576: true; the input reads as it did. -/
def fnShardsJoinUptoRow : OpenClaim := { program := "ytfkmiflddpjllaa", sum := "b29149eed97d3fa680a7da0339b9129682961f105d308b66b9349c75da3239c2", func := "loop.example/dagconsensus/laws.FnShardsJoin", spec := "fnShardsJoin", unfollowed := true, recurses := true, apart := false, narrowed := true }
def FnShardsJoinUptoSaid : Prop := fnShardsJoinUptoRow.holds Try.pinned (OpenSpec.upto fnShardsJoinSpec)

/-- 'laws.FnShardsFew', WHERE WHAT IT READS IS OF BULK AT MOST 1048576: true; the input reads as it did. -/
def fnShardsFewUptoRow : OpenClaim := { program := "ytfkmiflddpjllaa", sum := "b29149eed97d3fa680a7da0339b9129682961f105d308b66b9349c75da3239c2", func := "loop.example/dagconsensus/laws.FnShardsFew", spec := "fnShardsFew", unfollowed := true, recurses := true, apart := false, narrowed := true }
def FnShardsFewUptoSaid : Prop := fnShardsFewUptoRow.holds Try.pinned (OpenSpec.upto fnShardsFewSpec)

end Rows
end Go.Proofs.Ytfkmiflddpjllaa
