/-
  No cell of these rows narrows 'for every input' (looked for: loops, veiled, ifaces, maps, wideKeys, modest, calm, conditions, laid).
  DERIVED. THE GIVEN ROWS OF THIS SEAT. 11 by the template 'for every input the law returns true; each argument reads behind the call as it read before'; 0 by the template 'total and deterministic' (their statements: YtgfjaoajjcolcaaTotals.lean).
  GIVEN WITH THE SEED: the statements are not yours to turn. If you find one false, say at which input.
  Laid BY PROGRAM, IN A SANDBOX (cutbox-rows.mjs): the forced cells as the released guide's own fill.sh prints them over the translation a9cf7d01d4b3abc4… (all of the seat's roots in one cut). By AI agents, Wed Nov 11 2026. No macro, syntax, notation, axiom, sorry.
-/
import Derived.Test.YtgfjaoajjcolcaaChecked
import GoSem.Claim
import GoSem.ClaimJoined
import GoSem.ClaimMapViews
import Derived.JoinedTies
import Derived.KernelRfl
namespace Go.Proofs.Ytgfjaoajjcolcaa
/- THE CELL 'sum', in the pinned program and in every row, IS THE sha256 OF THE DUMP (.gsa) THAT YtgfjaoajjcolcaaProg.lean LOADS. Nothing in Lean hashes anything: it is a label: what it is worth is what the hold of that sum in a sandbox is worth. -/
noncomputable def Try.pinned : Pinned := { name := "ytgfjaoajjcolcaa", sum := "a9cf7d01d4b3abc40bc5489537d63f8acfaccfb666184d9ab353e482c975073d", checked := Try.checked }
namespace Rows
def none {H : Type} : Left H := { results := [], args := [] }

/-- 'laws.FnHashPair': WHATEVER THE INPUT: true; the input reads as it did. -/
def fnHashPairSpec : ChangeSpec := { name := "fnHashPair", fn := fun _ => fun
  | [d1, d2] => { results := [.lit (.bool true)], args := [d1, d2] }
  | _ => none }
def fnHashPairRow : OpenClaim := { program := "ytgfjaoajjcolcaa", sum := "a9cf7d01d4b3abc40bc5489537d63f8acfaccfb666184d9ab353e482c975073d", func := "loop.example/dagconsensus/laws.FnHashPair", spec := "fnHashPair", apart := false }
def FnHashPairSaid : Prop := fnHashPairRow.holds Try.pinned (OpenSpec.ofChange fnHashPairSpec)

/-- ITS FALSE NEIGHBOUR: 'it returns false'. Refute it at one input. -/
def fnHashPairWrong : ChangeSpec := { name := "fnHashPair", fn := fun _ => fun
  | [d1, d2] => { results := [.lit (.bool false)], args := [d1, d2] }
  | _ => none }
def FnHashPairWrongFalsely : Prop := fnHashPairRow.holds Try.pinned (OpenSpec.ofChange fnHashPairWrong)

/-- 'laws.FnHashByte': WHATEVER THE INPUT: true; the input reads as it did. -/
def fnHashByteSpec : ChangeSpec := { name := "fnHashByte", fn := fun _ => fun
  | [d1, d2] => { results := [.lit (.bool true)], args := [d1, d2] }
  | _ => none }
def fnHashByteRow : OpenClaim := { program := "ytgfjaoajjcolcaa", sum := "a9cf7d01d4b3abc40bc5489537d63f8acfaccfb666184d9ab353e482c975073d", func := "loop.example/dagconsensus/laws.FnHashByte", spec := "fnHashByte", apart := false }
def FnHashByteSaid : Prop := fnHashByteRow.holds Try.pinned (OpenSpec.ofChange fnHashByteSpec)

/-- ITS FALSE NEIGHBOUR: 'it returns false'. Refute it at one input. -/
def fnHashByteWrong : ChangeSpec := { name := "fnHashByte", fn := fun _ => fun
  | [d1, d2] => { results := [.lit (.bool false)], args := [d1, d2] }
  | _ => none }
def FnHashByteWrongFalsely : Prop := fnHashByteRow.holds Try.pinned (OpenSpec.ofChange fnHashByteWrong)

/-- 'laws.FnHashEmpty': WHATEVER THE INPUT: true; the input reads as it did. -/
def fnHashEmptySpec : ChangeSpec := { name := "fnHashEmpty", fn := fun _ => fun
  | [d] => { results := [.lit (.bool true)], args := [d] }
  | _ => none }
def fnHashEmptyRow : OpenClaim := { program := "ytgfjaoajjcolcaa", sum := "a9cf7d01d4b3abc40bc5489537d63f8acfaccfb666184d9ab353e482c975073d", func := "loop.example/dagconsensus/laws.FnHashEmpty", spec := "fnHashEmpty", apart := false }
def FnHashEmptySaid : Prop := fnHashEmptyRow.holds Try.pinned (OpenSpec.ofChange fnHashEmptySpec)

/-- ITS FALSE NEIGHBOUR: 'it returns false'. Refute it at one input. -/
def fnHashEmptyWrong : ChangeSpec := { name := "fnHashEmpty", fn := fun _ => fun
  | [d] => { results := [.lit (.bool false)], args := [d] }
  | _ => none }
def FnHashEmptyWrongFalsely : Prop := fnHashEmptyRow.holds Try.pinned (OpenSpec.ofChange fnHashEmptyWrong)

/-- 'laws.FnSignDigest': WHATEVER THE INPUT: true; the input reads as it did. -/
def fnSignDigestSpec : ChangeSpec := { name := "fnSignDigest", fn := fun _ => fun
  | [d1, d2] => { results := [.lit (.bool true)], args := [d1, d2] }
  | _ => none }
def fnSignDigestRow : OpenClaim := { program := "ytgfjaoajjcolcaa", sum := "a9cf7d01d4b3abc40bc5489537d63f8acfaccfb666184d9ab353e482c975073d", func := "loop.example/dagconsensus/laws.FnSignDigest", spec := "fnSignDigest", apart := false }
def FnSignDigestSaid : Prop := fnSignDigestRow.holds Try.pinned (OpenSpec.ofChange fnSignDigestSpec)

/-- ITS FALSE NEIGHBOUR: 'it returns false'. Refute it at one input. -/
def fnSignDigestWrong : ChangeSpec := { name := "fnSignDigest", fn := fun _ => fun
  | [d1, d2] => { results := [.lit (.bool false)], args := [d1, d2] }
  | _ => none }
def FnSignDigestWrongFalsely : Prop := fnSignDigestRow.holds Try.pinned (OpenSpec.ofChange fnSignDigestWrong)

/-- 'laws.FnSignKey': WHATEVER THE INPUT: true; the input reads as it did. -/
def fnSignKeySpec : ChangeSpec := { name := "fnSignKey", fn := fun _ => fun
  | [d1, d2] => { results := [.lit (.bool true)], args := [d1, d2] }
  | _ => none }
def fnSignKeyRow : OpenClaim := { program := "ytgfjaoajjcolcaa", sum := "a9cf7d01d4b3abc40bc5489537d63f8acfaccfb666184d9ab353e482c975073d", func := "loop.example/dagconsensus/laws.FnSignKey", spec := "fnSignKey", apart := false }
def FnSignKeySaid : Prop := fnSignKeyRow.holds Try.pinned (OpenSpec.ofChange fnSignKeySpec)

/-- ITS FALSE NEIGHBOUR: 'it returns false'. Refute it at one input. -/
def fnSignKeyWrong : ChangeSpec := { name := "fnSignKey", fn := fun _ => fun
  | [d1, d2] => { results := [.lit (.bool false)], args := [d1, d2] }
  | _ => none }
def FnSignKeyWrongFalsely : Prop := fnSignKeyRow.holds Try.pinned (OpenSpec.ofChange fnSignKeyWrong)

/-- 'laws.FnSignRoundTrip': WHATEVER THE INPUT: true; the input reads as it did. -/
def fnSignRoundTripSpec : ChangeSpec := { name := "fnSignRoundTrip", fn := fun _ => fun
  | [d] => { results := [.lit (.bool true)], args := [d] }
  | _ => none }
def fnSignRoundTripRow : OpenClaim := { program := "ytgfjaoajjcolcaa", sum := "a9cf7d01d4b3abc40bc5489537d63f8acfaccfb666184d9ab353e482c975073d", func := "loop.example/dagconsensus/laws.FnSignRoundTrip", spec := "fnSignRoundTrip", apart := false }
def FnSignRoundTripSaid : Prop := fnSignRoundTripRow.holds Try.pinned (OpenSpec.ofChange fnSignRoundTripSpec)

/-- ITS FALSE NEIGHBOUR: 'it returns false'. Refute it at one input. -/
def fnSignRoundTripWrong : ChangeSpec := { name := "fnSignRoundTrip", fn := fun _ => fun
  | [d] => { results := [.lit (.bool false)], args := [d] }
  | _ => none }
def FnSignRoundTripWrongFalsely : Prop := fnSignRoundTripRow.holds Try.pinned (OpenSpec.ofChange fnSignRoundTripWrong)

/-- 'laws.FnSignOne': WHATEVER THE INPUT: true; the input reads as it did. -/
def fnSignOneSpec : ChangeSpec := { name := "fnSignOne", fn := fun _ => fun
  | [d1, d2] => { results := [.lit (.bool true)], args := [d1, d2] }
  | _ => none }
def fnSignOneRow : OpenClaim := { program := "ytgfjaoajjcolcaa", sum := "a9cf7d01d4b3abc40bc5489537d63f8acfaccfb666184d9ab353e482c975073d", func := "loop.example/dagconsensus/laws.FnSignOne", spec := "fnSignOne", apart := false }
def FnSignOneSaid : Prop := fnSignOneRow.holds Try.pinned (OpenSpec.ofChange fnSignOneSpec)

/-- ITS FALSE NEIGHBOUR: 'it returns false'. Refute it at one input. -/
def fnSignOneWrong : ChangeSpec := { name := "fnSignOne", fn := fun _ => fun
  | [d1, d2] => { results := [.lit (.bool false)], args := [d1, d2] }
  | _ => none }
def FnSignOneWrongFalsely : Prop := fnSignOneRow.holds Try.pinned (OpenSpec.ofChange fnSignOneWrong)

/-- 'laws.FnExactLedgerValid': WHATEVER THE INPUT: true; the input reads as it did. -/
def fnExactLedgerValidSpec : ChangeSpec := { name := "fnExactLedgerValid", fn := fun _ => fun
  | [d] => { results := [.lit (.bool true)], args := [d] }
  | _ => none }
def fnExactLedgerValidRow : OpenClaim := { program := "ytgfjaoajjcolcaa", sum := "a9cf7d01d4b3abc40bc5489537d63f8acfaccfb666184d9ab353e482c975073d", func := "loop.example/dagconsensus/laws.FnExactLedgerValid", spec := "fnExactLedgerValid", apart := false }
def FnExactLedgerValidSaid : Prop := fnExactLedgerValidRow.holds Try.pinned (OpenSpec.ofChange fnExactLedgerValidSpec)

/-- ITS FALSE NEIGHBOUR: 'it returns false'. Refute it at one input. -/
def fnExactLedgerValidWrong : ChangeSpec := { name := "fnExactLedgerValid", fn := fun _ => fun
  | [d] => { results := [.lit (.bool false)], args := [d] }
  | _ => none }
def FnExactLedgerValidWrongFalsely : Prop := fnExactLedgerValidRow.holds Try.pinned (OpenSpec.ofChange fnExactLedgerValidWrong)

/-- 'laws.FnExactLedgerTotal': WHATEVER THE INPUT: true; the input reads as it did. -/
def fnExactLedgerTotalSpec : ChangeSpec := { name := "fnExactLedgerTotal", fn := fun _ => fun
  | [d] => { results := [.lit (.bool true)], args := [d] }
  | _ => none }
def fnExactLedgerTotalRow : OpenClaim := { program := "ytgfjaoajjcolcaa", sum := "a9cf7d01d4b3abc40bc5489537d63f8acfaccfb666184d9ab353e482c975073d", func := "loop.example/dagconsensus/laws.FnExactLedgerTotal", spec := "fnExactLedgerTotal", apart := false }
def FnExactLedgerTotalSaid : Prop := fnExactLedgerTotalRow.holds Try.pinned (OpenSpec.ofChange fnExactLedgerTotalSpec)

/-- ITS FALSE NEIGHBOUR: 'it returns false'. Refute it at one input. -/
def fnExactLedgerTotalWrong : ChangeSpec := { name := "fnExactLedgerTotal", fn := fun _ => fun
  | [d] => { results := [.lit (.bool false)], args := [d] }
  | _ => none }
def FnExactLedgerTotalWrongFalsely : Prop := fnExactLedgerTotalRow.holds Try.pinned (OpenSpec.ofChange fnExactLedgerTotalWrong)

/-- 'laws.FnExactSlotsPrefix': WHATEVER THE INPUT: true; the input reads as it did. -/
def fnExactSlotsPrefixSpec : ChangeSpec := { name := "fnExactSlotsPrefix", fn := fun _ => fun
  | [d1, d2] => { results := [.lit (.bool true)], args := [d1, d2] }
  | _ => none }
def fnExactSlotsPrefixRow : OpenClaim := { program := "ytgfjaoajjcolcaa", sum := "a9cf7d01d4b3abc40bc5489537d63f8acfaccfb666184d9ab353e482c975073d", func := "loop.example/dagconsensus/laws.FnExactSlotsPrefix", spec := "fnExactSlotsPrefix", apart := false }
def FnExactSlotsPrefixSaid : Prop := fnExactSlotsPrefixRow.holds Try.pinned (OpenSpec.ofChange fnExactSlotsPrefixSpec)

/-- ITS FALSE NEIGHBOUR: 'it returns false'. Refute it at one input. -/
def fnExactSlotsPrefixWrong : ChangeSpec := { name := "fnExactSlotsPrefix", fn := fun _ => fun
  | [d1, d2] => { results := [.lit (.bool false)], args := [d1, d2] }
  | _ => none }
def FnExactSlotsPrefixWrongFalsely : Prop := fnExactSlotsPrefixRow.holds Try.pinned (OpenSpec.ofChange fnExactSlotsPrefixWrong)

/-- 'laws.FnSlotsPrefix': WHATEVER THE INPUT: true; the input reads as it did. -/
def fnSlotsPrefixSpec : ChangeSpec := { name := "fnSlotsPrefix", fn := fun _ => fun
  | [d1, d2] => { results := [.lit (.bool true)], args := [d1, d2] }
  | _ => none }
def fnSlotsPrefixRow : OpenClaim := { program := "ytgfjaoajjcolcaa", sum := "a9cf7d01d4b3abc40bc5489537d63f8acfaccfb666184d9ab353e482c975073d", func := "loop.example/dagconsensus/laws.FnSlotsPrefix", spec := "fnSlotsPrefix", apart := false }
def FnSlotsPrefixSaid : Prop := fnSlotsPrefixRow.holds Try.pinned (OpenSpec.ofChange fnSlotsPrefixSpec)

/-- ITS FALSE NEIGHBOUR: 'it returns false'. Refute it at one input. -/
def fnSlotsPrefixWrong : ChangeSpec := { name := "fnSlotsPrefix", fn := fun _ => fun
  | [d1, d2] => { results := [.lit (.bool false)], args := [d1, d2] }
  | _ => none }
def FnSlotsPrefixWrongFalsely : Prop := fnSlotsPrefixRow.holds Try.pinned (OpenSpec.ofChange fnSlotsPrefixWrong)

/- THE SECOND FORM. 'bulk': how many values and letters a reading holds, each counted each time it is reached (what is shared counts as often as it is met; a slice's spare places count too). A statement '..UptoSaid' is the law's where the arguments, and the package variables that the reading takes, are together of bulk at most 1048576: NARROWER than '..Said'. Prove '..Said' where nothing that the law and all that it calls make is longer than what came in: it says more and counts as full. Else prove '..UptoSaid'. A law counts once. -/
mutual
def uptoBulk {H : Type} : DataW H → Nat
  | .lit (.string bytes) => bytes.length + 1
  | .lit _ => 1
  | .nil => 1
  | .ptr d => uptoBulk d + 1
  | .slice elems spare => uptoBulkAll elems + uptoBulkAll spare + 1
  | .agg parts => uptoBulkAll parts + 1
  | .iface _ d => uptoBulk d + 1
  | .map entries => uptoBulkEntries entries + 1
  | .held _ => 1
def uptoBulkAll {H : Type} : List (DataW H) → Nat
  | [] => 0
  | d :: r => uptoBulk d + uptoBulkAll r
def uptoBulkEntries {H : Type} : List (Lit × DataW H) → Nat
  | [] => 0
  | x :: r => uptoBulkEntry x + uptoBulkEntries r
def uptoBulkEntry {H : Type} : Lit × DataW H → Nat
  | (.string bytes, d) => bytes.length + uptoBulk d + 1
  | (_, d) => uptoBulk d + 1
 end
def uptoSmall : (H : Type) → List (DataW H) → Bool := fun _ ds => decide (uptoBulkAll ds ≤ 1048576)
def OpenSpec.upto (s : _root_.Go.ChangeSpec) : _root_.Go.OpenSpec := { _root_.Go.OpenSpec.ofChange s with cond := some uptoSmall }

/-- 'laws.FnHashPair', WHERE WHAT IT READS IS OF BULK AT MOST 1048576: true; the input reads as it did. -/
def fnHashPairUptoRow : OpenClaim := { program := "ytgfjaoajjcolcaa", sum := "a9cf7d01d4b3abc40bc5489537d63f8acfaccfb666184d9ab353e482c975073d", func := "loop.example/dagconsensus/laws.FnHashPair", spec := "fnHashPair", apart := false, narrowed := true }
def FnHashPairUptoSaid : Prop := fnHashPairUptoRow.holds Try.pinned (OpenSpec.upto fnHashPairSpec)

/-- 'laws.FnHashByte', WHERE WHAT IT READS IS OF BULK AT MOST 1048576: true; the input reads as it did. -/
def fnHashByteUptoRow : OpenClaim := { program := "ytgfjaoajjcolcaa", sum := "a9cf7d01d4b3abc40bc5489537d63f8acfaccfb666184d9ab353e482c975073d", func := "loop.example/dagconsensus/laws.FnHashByte", spec := "fnHashByte", apart := false, narrowed := true }
def FnHashByteUptoSaid : Prop := fnHashByteUptoRow.holds Try.pinned (OpenSpec.upto fnHashByteSpec)

/-- 'laws.FnHashEmpty', WHERE WHAT IT READS IS OF BULK AT MOST 1048576: true; the input reads as it did. -/
def fnHashEmptyUptoRow : OpenClaim := { program := "ytgfjaoajjcolcaa", sum := "a9cf7d01d4b3abc40bc5489537d63f8acfaccfb666184d9ab353e482c975073d", func := "loop.example/dagconsensus/laws.FnHashEmpty", spec := "fnHashEmpty", apart := false, narrowed := true }
def FnHashEmptyUptoSaid : Prop := fnHashEmptyUptoRow.holds Try.pinned (OpenSpec.upto fnHashEmptySpec)

/-- 'laws.FnSignDigest', WHERE WHAT IT READS IS OF BULK AT MOST 1048576: true; the input reads as it did. -/
def fnSignDigestUptoRow : OpenClaim := { program := "ytgfjaoajjcolcaa", sum := "a9cf7d01d4b3abc40bc5489537d63f8acfaccfb666184d9ab353e482c975073d", func := "loop.example/dagconsensus/laws.FnSignDigest", spec := "fnSignDigest", apart := false, narrowed := true }
def FnSignDigestUptoSaid : Prop := fnSignDigestUptoRow.holds Try.pinned (OpenSpec.upto fnSignDigestSpec)

/-- 'laws.FnSignKey', WHERE WHAT IT READS IS OF BULK AT MOST 1048576: true; the input reads as it did. -/
def fnSignKeyUptoRow : OpenClaim := { program := "ytgfjaoajjcolcaa", sum := "a9cf7d01d4b3abc40bc5489537d63f8acfaccfb666184d9ab353e482c975073d", func := "loop.example/dagconsensus/laws.FnSignKey", spec := "fnSignKey", apart := false, narrowed := true }
def FnSignKeyUptoSaid : Prop := fnSignKeyUptoRow.holds Try.pinned (OpenSpec.upto fnSignKeySpec)

/-- 'laws.FnSignRoundTrip', WHERE WHAT IT READS IS OF BULK AT MOST 1048576: true; the input reads as it did. -/
def fnSignRoundTripUptoRow : OpenClaim := { program := "ytgfjaoajjcolcaa", sum := "a9cf7d01d4b3abc40bc5489537d63f8acfaccfb666184d9ab353e482c975073d", func := "loop.example/dagconsensus/laws.FnSignRoundTrip", spec := "fnSignRoundTrip", apart := false, narrowed := true }
def FnSignRoundTripUptoSaid : Prop := fnSignRoundTripUptoRow.holds Try.pinned (OpenSpec.upto fnSignRoundTripSpec)

/-- 'laws.FnSignOne', WHERE WHAT IT READS IS OF BULK AT MOST 1048576: true; the input reads as it did. -/
def fnSignOneUptoRow : OpenClaim := { program := "ytgfjaoajjcolcaa", sum := "a9cf7d01d4b3abc40bc5489537d63f8acfaccfb666184d9ab353e482c975073d", func := "loop.example/dagconsensus/laws.FnSignOne", spec := "fnSignOne", apart := false, narrowed := true }
def FnSignOneUptoSaid : Prop := fnSignOneUptoRow.holds Try.pinned (OpenSpec.upto fnSignOneSpec)

/-- 'laws.FnExactLedgerValid', WHERE WHAT IT READS IS OF BULK AT MOST 1048576: true; the input reads as it did. -/
def fnExactLedgerValidUptoRow : OpenClaim := { program := "ytgfjaoajjcolcaa", sum := "a9cf7d01d4b3abc40bc5489537d63f8acfaccfb666184d9ab353e482c975073d", func := "loop.example/dagconsensus/laws.FnExactLedgerValid", spec := "fnExactLedgerValid", apart := false, narrowed := true }
def FnExactLedgerValidUptoSaid : Prop := fnExactLedgerValidUptoRow.holds Try.pinned (OpenSpec.upto fnExactLedgerValidSpec)

/-- 'laws.FnExactLedgerTotal', WHERE WHAT IT READS IS OF BULK AT MOST 1048576: true; the input reads as it did. -/
def fnExactLedgerTotalUptoRow : OpenClaim := { program := "ytgfjaoajjcolcaa", sum := "a9cf7d01d4b3abc40bc5489537d63f8acfaccfb666184d9ab353e482c975073d", func := "loop.example/dagconsensus/laws.FnExactLedgerTotal", spec := "fnExactLedgerTotal", apart := false, narrowed := true }
def FnExactLedgerTotalUptoSaid : Prop := fnExactLedgerTotalUptoRow.holds Try.pinned (OpenSpec.upto fnExactLedgerTotalSpec)

/-- 'laws.FnExactSlotsPrefix', WHERE WHAT IT READS IS OF BULK AT MOST 1048576: true; the input reads as it did. -/
def fnExactSlotsPrefixUptoRow : OpenClaim := { program := "ytgfjaoajjcolcaa", sum := "a9cf7d01d4b3abc40bc5489537d63f8acfaccfb666184d9ab353e482c975073d", func := "loop.example/dagconsensus/laws.FnExactSlotsPrefix", spec := "fnExactSlotsPrefix", apart := false, narrowed := true }
def FnExactSlotsPrefixUptoSaid : Prop := fnExactSlotsPrefixUptoRow.holds Try.pinned (OpenSpec.upto fnExactSlotsPrefixSpec)

/-- 'laws.FnSlotsPrefix', WHERE WHAT IT READS IS OF BULK AT MOST 1048576: true; the input reads as it did. -/
def fnSlotsPrefixUptoRow : OpenClaim := { program := "ytgfjaoajjcolcaa", sum := "a9cf7d01d4b3abc40bc5489537d63f8acfaccfb666184d9ab353e482c975073d", func := "loop.example/dagconsensus/laws.FnSlotsPrefix", spec := "fnSlotsPrefix", apart := false, narrowed := true }
def FnSlotsPrefixUptoSaid : Prop := fnSlotsPrefixUptoRow.holds Try.pinned (OpenSpec.upto fnSlotsPrefixSpec)

end Rows
end Go.Proofs.Ytgfjaoajjcolcaa
