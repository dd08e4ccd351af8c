/-
  No cell of these rows narrows 'for every input' (looked for: loops, veiled, ifaces, maps, wideKeys, modest, calm, conditions, laid).
  DERIVED. THE GIVEN ROWS OF THIS SEAT. 8 by the template 'for every input the law returns true; each argument reads behind the call as it read before'; 0 by the template 'total and deterministic' (their statements: YthdbbllcckimbaaTotals.lean).
  GIVEN WITH THE SEED: the statements are not yours to turn. If you find one false, say at which input.
  Laid BY PROGRAM, IN A SANDBOX (cutbox-rows.mjs): the forced cells as the released guide's own fill.sh prints them over the translation 3e5587297052c3e8… (all of the seat's roots in one cut). By AI agents, Wed Nov 11 2026. No macro, syntax, notation, axiom, sorry.
-/
import Derived.Test.YthdbbllcckimbaaChecked
import GoSem.Claim
import GoSem.ClaimJoined
import GoSem.ClaimMapViews
import Derived.JoinedTies
import Derived.KernelRfl
namespace Go.Proofs.Ythdbbllcckimbaa
/- THE CELL 'sum', in the pinned program and in every row, IS THE sha256 OF THE DUMP (.gsa) THAT YthdbbllcckimbaaProg.lean LOADS. Nothing in Lean hashes anything: it is a label: what it is worth is what the hold of that sum in a sandbox is worth. -/
noncomputable def Try.pinned : Pinned := { name := "ythdbbllcckimbaa", sum := "3e5587297052c3e86ed26187551caf7a6974c2778d8bd84eefeda7aea050e89e", checked := Try.checked }
namespace Rows
def none {H : Type} : Left H := { results := [], args := [] }

/-- 'laws.FnShardsWrong': WHATEVER THE INPUT: true; the input reads as it did. -/
def fnShardsWrongSpec : ChangeSpec := { name := "fnShardsWrong", fn := fun _ => fun
  | [d1, d2] => { results := [.lit (.bool true)], args := [d1, d2] }
  | _ => none }
def fnShardsWrongRow : OpenClaim := { program := "ythdbbllcckimbaa", sum := "3e5587297052c3e86ed26187551caf7a6974c2778d8bd84eefeda7aea050e89e", func := "loop.example/dagconsensus/laws.FnShardsWrong", spec := "fnShardsWrong", unfollowed := true, recurses := true, apart := false }
def FnShardsWrongSaid : Prop := fnShardsWrongRow.holds Try.pinned (OpenSpec.ofChange fnShardsWrongSpec)

/-- ITS FALSE NEIGHBOUR: 'it returns false'. Refute it at one input. -/
def fnShardsWrongWrong : ChangeSpec := { name := "fnShardsWrong", fn := fun _ => fun
  | [d1, d2] => { results := [.lit (.bool false)], args := [d1, d2] }
  | _ => none }
def FnShardsWrongWrongFalsely : Prop := fnShardsWrongRow.holds Try.pinned (OpenSpec.ofChange fnShardsWrongWrong)

/-- 'laws.FnExactCoinDeal': WHATEVER THE INPUT: true; the input reads as it did. -/
def fnExactCoinDealSpec : ChangeSpec := { name := "fnExactCoinDeal", fn := fun _ => fun
  | [d1, d2] => { results := [.lit (.bool true)], args := [d1, d2] }
  | _ => none }
def fnExactCoinDealRow : OpenClaim := { program := "ythdbbllcckimbaa", sum := "3e5587297052c3e86ed26187551caf7a6974c2778d8bd84eefeda7aea050e89e", func := "loop.example/dagconsensus/laws.FnExactCoinDeal", spec := "fnExactCoinDeal", unfollowed := true, recurses := true, apart := false }
def FnExactCoinDealSaid : Prop := fnExactCoinDealRow.holds Try.pinned (OpenSpec.ofChange fnExactCoinDealSpec)

/-- ITS FALSE NEIGHBOUR: 'it returns false'. Refute it at one input. -/
def fnExactCoinDealWrong : ChangeSpec := { name := "fnExactCoinDeal", fn := fun _ => fun
  | [d1, d2] => { results := [.lit (.bool false)], args := [d1, d2] }
  | _ => none }
def FnExactCoinDealWrongFalsely : Prop := fnExactCoinDealRow.holds Try.pinned (OpenSpec.ofChange fnExactCoinDealWrong)

/-- 'laws.FnCoinAll': WHATEVER THE INPUT: true; the input reads as it did. -/
def fnCoinAllSpec : ChangeSpec := { name := "fnCoinAll", fn := fun _ => fun
  | [d1, d2] => { results := [.lit (.bool true)], args := [d1, d2] }
  | _ => none }
def fnCoinAllRow : OpenClaim := { program := "ythdbbllcckimbaa", sum := "3e5587297052c3e86ed26187551caf7a6974c2778d8bd84eefeda7aea050e89e", func := "loop.example/dagconsensus/laws.FnCoinAll", spec := "fnCoinAll", unfollowed := true, recurses := true, apart := false }
def FnCoinAllSaid : Prop := fnCoinAllRow.holds Try.pinned (OpenSpec.ofChange fnCoinAllSpec)

/-- ITS FALSE NEIGHBOUR: 'it returns false'. Refute it at one input. -/
def fnCoinAllWrong : ChangeSpec := { name := "fnCoinAll", fn := fun _ => fun
  | [d1, d2] => { results := [.lit (.bool false)], args := [d1, d2] }
  | _ => none }
def FnCoinAllWrongFalsely : Prop := fnCoinAllRow.holds Try.pinned (OpenSpec.ofChange fnCoinAllWrong)

/-- 'laws.FnCoinFew': WHATEVER THE INPUT: true; the input reads as it did. -/
def fnCoinFewSpec : ChangeSpec := { name := "fnCoinFew", fn := fun _ => fun
  | [d1, d2] => { results := [.lit (.bool true)], args := [d1, d2] }
  | _ => none }
def fnCoinFewRow : OpenClaim := { program := "ythdbbllcckimbaa", sum := "3e5587297052c3e86ed26187551caf7a6974c2778d8bd84eefeda7aea050e89e", func := "loop.example/dagconsensus/laws.FnCoinFew", spec := "fnCoinFew", unfollowed := true, recurses := true, apart := false }
def FnCoinFewSaid : Prop := fnCoinFewRow.holds Try.pinned (OpenSpec.ofChange fnCoinFewSpec)

/-- ITS FALSE NEIGHBOUR: 'it returns false'. Refute it at one input. -/
def fnCoinFewWrong : ChangeSpec := { name := "fnCoinFew", fn := fun _ => fun
  | [d1, d2] => { results := [.lit (.bool false)], args := [d1, d2] }
  | _ => none }
def FnCoinFewWrongFalsely : Prop := fnCoinFewRow.holds Try.pinned (OpenSpec.ofChange fnCoinFewWrong)

/-- 'laws.FnCoinWrong': WHATEVER THE INPUT: true; the input reads as it did. -/
def fnCoinWrongSpec : ChangeSpec := { name := "fnCoinWrong", fn := fun _ => fun
  | [d1, d2] => { results := [.lit (.bool true)], args := [d1, d2] }
  | _ => none }
def fnCoinWrongRow : OpenClaim := { program := "ythdbbllcckimbaa", sum := "3e5587297052c3e86ed26187551caf7a6974c2778d8bd84eefeda7aea050e89e", func := "loop.example/dagconsensus/laws.FnCoinWrong", spec := "fnCoinWrong", unfollowed := true, recurses := true, apart := false }
def FnCoinWrongSaid : Prop := fnCoinWrongRow.holds Try.pinned (OpenSpec.ofChange fnCoinWrongSpec)

/-- ITS FALSE NEIGHBOUR: 'it returns false'. Refute it at one input. -/
def fnCoinWrongWrong : ChangeSpec := { name := "fnCoinWrong", fn := fun _ => fun
  | [d1, d2] => { results := [.lit (.bool false)], args := [d1, d2] }
  | _ => none }
def FnCoinWrongWrongFalsely : Prop := fnCoinWrongRow.holds Try.pinned (OpenSpec.ofChange fnCoinWrongWrong)

/-- 'laws.FnCoinJoin': WHATEVER THE INPUT: true; the input reads as it did. -/
def fnCoinJoinSpec : ChangeSpec := { name := "fnCoinJoin", fn := fun _ => fun
  | [d1, d2] => { results := [.lit (.bool true)], args := [d1, d2] }
  | _ => none }
def fnCoinJoinRow : OpenClaim := { program := "ythdbbllcckimbaa", sum := "3e5587297052c3e86ed26187551caf7a6974c2778d8bd84eefeda7aea050e89e", func := "loop.example/dagconsensus/laws.FnCoinJoin", spec := "fnCoinJoin", unfollowed := true, recurses := true, apart := false }
def FnCoinJoinSaid : Prop := fnCoinJoinRow.holds Try.pinned (OpenSpec.ofChange fnCoinJoinSpec)

/-- ITS FALSE NEIGHBOUR: 'it returns false'. Refute it at one input. -/
def fnCoinJoinWrong : ChangeSpec := { name := "fnCoinJoin", fn := fun _ => fun
  | [d1, d2] => { results := [.lit (.bool false)], args := [d1, d2] }
  | _ => none }
def FnCoinJoinWrongFalsely : Prop := fnCoinJoinRow.holds Try.pinned (OpenSpec.ofChange fnCoinJoinWrong)

/-- 'laws.FnExactCoinJoin': WHATEVER THE INPUT: true; the input reads as it did. -/
def fnExactCoinJoinSpec : ChangeSpec := { name := "fnExactCoinJoin", fn := fun _ => fun
  | [d1, d2] => { results := [.lit (.bool true)], args := [d1, d2] }
  | _ => none }
def fnExactCoinJoinRow : OpenClaim := { program := "ythdbbllcckimbaa", sum := "3e5587297052c3e86ed26187551caf7a6974c2778d8bd84eefeda7aea050e89e", func := "loop.example/dagconsensus/laws.FnExactCoinJoin", spec := "fnExactCoinJoin", unfollowed := true, recurses := true, apart := false }
def FnExactCoinJoinSaid : Prop := fnExactCoinJoinRow.holds Try.pinned (OpenSpec.ofChange fnExactCoinJoinSpec)

/-- ITS FALSE NEIGHBOUR: 'it returns false'. Refute it at one input. -/
def fnExactCoinJoinWrong : ChangeSpec := { name := "fnExactCoinJoin", fn := fun _ => fun
  | [d1, d2] => { results := [.lit (.bool false)], args := [d1, d2] }
  | _ => none }
def FnExactCoinJoinWrongFalsely : Prop := fnExactCoinJoinRow.holds Try.pinned (OpenSpec.ofChange fnExactCoinJoinWrong)

/-- 'laws.FnCoinJoinRange': WHATEVER THE INPUT: true; the input reads as it did. -/
def fnCoinJoinRangeSpec : ChangeSpec := { name := "fnCoinJoinRange", fn := fun _ => fun
  | [d1, d2] => { results := [.lit (.bool true)], args := [d1, d2] }
  | _ => none }
def fnCoinJoinRangeRow : OpenClaim := { program := "ythdbbllcckimbaa", sum := "3e5587297052c3e86ed26187551caf7a6974c2778d8bd84eefeda7aea050e89e", func := "loop.example/dagconsensus/laws.FnCoinJoinRange", spec := "fnCoinJoinRange", unfollowed := true, recurses := true, apart := false }
def FnCoinJoinRangeSaid : Prop := fnCoinJoinRangeRow.holds Try.pinned (OpenSpec.ofChange fnCoinJoinRangeSpec)

/-- ITS FALSE NEIGHBOUR: 'it returns false'. Refute it at one input. -/
def fnCoinJoinRangeWrong : ChangeSpec := { name := "fnCoinJoinRange", fn := fun _ => fun
  | [d1, d2] => { results := [.lit (.bool false)], args := [d1, d2] }
  | _ => none }
def FnCoinJoinRangeWrongFalsely : Prop := fnCoinJoinRangeRow.holds Try.pinned (OpenSpec.ofChange fnCoinJoinRangeWrong)

/- THE SECOND FORM. 'bulk': how many values and letters a reading holds, each counted each time it is reached (what is shared counts as often as it is met; a slice's spare places count too). A statement '..UptoSaid' is the law's where the arguments, and the package variables that the reading takes, are together of bulk at most 1048576: NARROWER than '..Said'. Prove '..Said' where nothing that the law and all that it calls make is longer than what came in: it says more and counts as full. Else prove '..UptoSaid'. A law counts once. -/
mutual
def uptoBulk {H : Type} : DataW H → Nat
  | .lit (.string bytes) => bytes.length + 1
  | .lit _ => 1
  | .nil => 1
  | .ptr d => uptoBulk d + 1
  | .slice elems spare => uptoBulkAll elems + uptoBulkAll spare + 1
  | .agg parts => uptoBulkAll parts + 1
  | .iface _ d => uptoBulk d + 1
  | .map entries => uptoBulkEntries entries + 1
  | .held _ => 1
def uptoBulkAll {H : Type} : List (DataW H) → Nat
  | [] => 0
  | d :: r => uptoBulk d + uptoBulkAll r
def uptoBulkEntries {H : Type} : List (Lit × DataW H) → Nat
  | [] => 0
  | x :: r => uptoBulkEntry x + uptoBulkEntries r
def uptoBulkEntry {H : Type} : Lit × DataW H → Nat
  | (.string bytes, d) => bytes.length + uptoBulk d + 1
  | (_, d) => uptoBulk d + 1
 end
def uptoSmall : (H : Type) → List (DataW H) → Bool := fun _ ds => decide (uptoBulkAll ds ≤ 1048576)
def OpenSpec.upto (s : _root_.Go.ChangeSpec) : _root_.Go.OpenSpec := { _root_.Go.OpenSpec.ofChange s with cond := some uptoSmall }

/-- 'laws.FnShardsWrong', WHERE WHAT IT READS IS OF BULK AT MOST 1048576: true; the input reads as it did. -/
def fnShardsWrongUptoRow : OpenClaim := { program := "ythdbbllcckimbaa", sum := "3e5587297052c3e86ed26187551caf7a6974c2778d8bd84eefeda7aea050e89e", func := "loop.example/dagconsensus/laws.FnShardsWrong", spec := "fnShardsWrong", unfollowed := true, recurses := true, apart := false, narrowed := true }
def FnShardsWrongUptoSaid : Prop := fnShardsWrongUptoRow.holds Try.pinned (OpenSpec.upto fnShardsWrongSpec)

/-- 'laws.FnExactCoinDeal', WHERE WHAT IT READS IS OF BULK AT MOST 1048576: true; the input reads as it did. -/
def fnExactCoinDealUptoRow : OpenClaim := { program := "ythdbbllcckimbaa", sum := "3e5587297052c3e86ed26187551caf7a6974c2778d8bd84eefeda7aea050e89e", func := "loop.example/dagconsensus/laws.FnExactCoinDeal", spec := "fnExactCoinDeal", unfollowed := true, recurses := true, apart := false, narrowed := true }
def FnExactCoinDealUptoSaid : Prop := fnExactCoinDealUptoRow.holds Try.pinned (OpenSpec.upto fnExactCoinDealSpec)

/-- 'laws.FnCoinAll', WHERE WHAT IT READS IS OF BULK AT MOST 1048576: true; the input reads as it did. -/
def fnCoinAllUptoRow : OpenClaim := { program := "ythdbbllcckimbaa", sum := "3e5587297052c3e86ed26187551caf7a6974c2778d8bd84eefeda7aea050e89e", func := "loop.example/dagconsensus/laws.FnCoinAll", spec := "fnCoinAll", unfollowed := true, recurses := true, apart := false, narrowed := true }
def FnCoinAllUptoSaid : Prop := fnCoinAllUptoRow.holds Try.pinned (OpenSpec.upto fnCoinAllSpec)

/-- 'laws.FnCoinFew', WHERE WHAT IT READS IS OF BULK AT MOST 1048576: true; the input reads as it did. -/
def fnCoinFewUptoRow : OpenClaim := { program := "ythdbbllcckimbaa", sum := "3e5587297052c3e86ed26187551caf7a6974c2778d8bd84eefeda7aea050e89e", func := "loop.example/dagconsensus/laws.FnCoinFew", spec := "fnCoinFew", unfollowed := true, recurses := true, apart := false, narrowed := true }
def FnCoinFewUptoSaid : Prop := fnCoinFewUptoRow.holds Try.pinned (OpenSpec.upto fnCoinFewSpec)

/-- 'laws.FnCoinWrong', WHERE WHAT IT READS IS OF BULK AT MOST 1048576: true; the input reads as it did. -/
def fnCoinWrongUptoRow : OpenClaim := { program := "ythdbbllcckimbaa", sum := "3e5587297052c3e86ed26187551caf7a6974c2778d8bd84eefeda7aea050e89e", func := "loop.example/dagconsensus/laws.FnCoinWrong", spec := "fnCoinWrong", unfollowed := true, recurses := true, apart := false, narrowed := true }
def FnCoinWrongUptoSaid : Prop := fnCoinWrongUptoRow.holds Try.pinned (OpenSpec.upto fnCoinWrongSpec)

/-- 'laws.FnCoinJoin', WHERE WHAT IT READS IS OF BULK AT MOST 1048576: true; the input reads as it did. -/
def fnCoinJoinUptoRow : OpenClaim := { program := "ythdbbllcckimbaa", sum := "3e5587297052c3e86ed26187551caf7a6974c2778d8bd84eefeda7aea050e89e", func := "loop.example/dagconsensus/laws.FnCoinJoin", spec := "fnCoinJoin", unfollowed := true, recurses := true, apart := false, narrowed := true }
def FnCoinJoinUptoSaid : Prop := fnCoinJoinUptoRow.holds Try.pinned (OpenSpec.upto fnCoinJoinSpec)

/-- 'laws.FnExactCoinJoin', WHERE WHAT IT READS IS OF BULK AT MOST 1048576: true; the input reads as it did. -/
def fnExactCoinJoinUptoRow : OpenClaim := { program := "ythdbbllcckimbaa", sum := "3e5587297052c3e86ed26187551caf7a6974c2778d8bd84eefeda7aea050e89e", func := "loop.example/dagconsensus/laws.FnExactCoinJoin", spec := "fnExactCoinJoin", unfollowed := true, recurses := true, apart := false, narrowed := true }
def FnExactCoinJoinUptoSaid : Prop := fnExactCoinJoinUptoRow.holds Try.pinned (OpenSpec.upto fnExactCoinJoinSpec)

/-- 'laws.FnCoinJoinRange', WHERE WHAT IT READS IS OF BULK AT MOST 1048576: true; the input reads as it did. -/
def fnCoinJoinRangeUptoRow : OpenClaim := { program := "ythdbbllcckimbaa", sum := "3e5587297052c3e86ed26187551caf7a6974c2778d8bd84eefeda7aea050e89e", func := "loop.example/dagconsensus/laws.FnCoinJoinRange", spec := "fnCoinJoinRange", unfollowed := true, recurses := true, apart := false, narrowed := true }
def FnCoinJoinRangeUptoSaid : Prop := fnCoinJoinRangeUptoRow.holds Try.pinned (OpenSpec.upto fnCoinJoinRangeSpec)

end Rows
end Go.Proofs.Ythdbbllcckimbaa
