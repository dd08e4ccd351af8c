/-
  No cell of these rows narrows 'for every input' (looked for: loops, veiled, ifaces, maps, wideKeys, modest, calm, conditions, laid).
  DERIVED. THE GIVEN ROWS OF THIS SEAT. 9 by the template 'for every input the law returns true; each argument reads behind the call as it read before'; 0 by the template 'total and deterministic' (their statements: YtgmbacgpaagkhaaTotals.lean).
  GIVEN WITH THE SEED: the statements are not yours to turn. If you find one false, say at which input.
  Laid BY PROGRAM, IN A SANDBOX (cutbox-rows.mjs): the forced cells as the released guide's own fill.sh prints them over the translation 572da76b62df3a1a… (all of the seat's roots in one cut). By AI agents, Wed Nov 11 2026. No macro, syntax, notation, axiom, sorry.
-/
import Derived.Test.YtgmbacgpaagkhaaChecked
import GoSem.Claim
import GoSem.ClaimJoined
import GoSem.ClaimMapViews
import Derived.JoinedTies
import Derived.KernelRfl
namespace Go.Proofs.Ytgmbacgpaagkhaa
/- THE CELL 'sum', in the pinned program and in every row, IS THE sha256 OF THE DUMP (.gsa) THAT YtgmbacgpaagkhaaProg.lean LOADS. Nothing in Lean hashes anything: it is a label: what it is worth is what the hold of that sum in a sandbox is worth. -/
noncomputable def Try.pinned : Pinned := { name := "ytgmbacgpaagkhaa", sum := "572da76b62df3a1a3f467f956d6dd20a519cbe4e553c11b20df53111f416bd2c", checked := Try.checked }
namespace Rows
def none {H : Type} : Left H := { results := [], args := [] }

/-- 'laws.FnExactMerkleCheck': WHATEVER THE INPUT: true; the input reads as it did. -/
def fnExactMerkleCheckSpec : ChangeSpec := { name := "fnExactMerkleCheck", fn := fun _ => fun
  | [d1, d2, d3, d4, d5] => { results := [.lit (.bool true)], args := [d1, d2, d3, d4, d5] }
  | _ => none }
def fnExactMerkleCheckRow : OpenClaim := { program := "ytgmbacgpaagkhaa", sum := "572da76b62df3a1a3f467f956d6dd20a519cbe4e553c11b20df53111f416bd2c", func := "loop.example/dagconsensus/laws.FnExactMerkleCheck", spec := "fnExactMerkleCheck", unfollowed := true, recurses := true, apart := false }
def FnExactMerkleCheckSaid : Prop := fnExactMerkleCheckRow.holds Try.pinned (OpenSpec.ofChange fnExactMerkleCheckSpec)

/-- ITS FALSE NEIGHBOUR: 'it returns false'. Refute it at one input. -/
def fnExactMerkleCheckWrong : ChangeSpec := { name := "fnExactMerkleCheck", fn := fun _ => fun
  | [d1, d2, d3, d4, d5] => { results := [.lit (.bool false)], args := [d1, d2, d3, d4, d5] }
  | _ => none }
def FnExactMerkleCheckWrongFalsely : Prop := fnExactMerkleCheckRow.holds Try.pinned (OpenSpec.ofChange fnExactMerkleCheckWrong)

/-- 'laws.FnExactMerkleRoot': WHATEVER THE INPUT: true; the input reads as it did. -/
def fnExactMerkleRootSpec : ChangeSpec := { name := "fnExactMerkleRoot", fn := fun _ => fun
  | [d] => { results := [.lit (.bool true)], args := [d] }
  | _ => none }
def fnExactMerkleRootRow : OpenClaim := { program := "ytgmbacgpaagkhaa", sum := "572da76b62df3a1a3f467f956d6dd20a519cbe4e553c11b20df53111f416bd2c", func := "loop.example/dagconsensus/laws.FnExactMerkleRoot", spec := "fnExactMerkleRoot", unfollowed := true, recurses := true, apart := false }
def FnExactMerkleRootSaid : Prop := fnExactMerkleRootRow.holds Try.pinned (OpenSpec.ofChange fnExactMerkleRootSpec)

/-- ITS FALSE NEIGHBOUR: 'it returns false'. Refute it at one input. -/
def fnExactMerkleRootWrong : ChangeSpec := { name := "fnExactMerkleRoot", fn := fun _ => fun
  | [d] => { results := [.lit (.bool false)], args := [d] }
  | _ => none }
def FnExactMerkleRootWrongFalsely : Prop := fnExactMerkleRootRow.holds Try.pinned (OpenSpec.ofChange fnExactMerkleRootWrong)

/-- 'laws.FnExactMerkleProof': WHATEVER THE INPUT: true; the input reads as it did. -/
def fnExactMerkleProofSpec : ChangeSpec := { name := "fnExactMerkleProof", fn := fun _ => fun
  | [d1, d2] => { results := [.lit (.bool true)], args := [d1, d2] }
  | _ => none }
def fnExactMerkleProofRow : OpenClaim := { program := "ytgmbacgpaagkhaa", sum := "572da76b62df3a1a3f467f956d6dd20a519cbe4e553c11b20df53111f416bd2c", func := "loop.example/dagconsensus/laws.FnExactMerkleProof", spec := "fnExactMerkleProof", unfollowed := true, recurses := true, apart := false }
def FnExactMerkleProofSaid : Prop := fnExactMerkleProofRow.holds Try.pinned (OpenSpec.ofChange fnExactMerkleProofSpec)

/-- ITS FALSE NEIGHBOUR: 'it returns false'. Refute it at one input. -/
def fnExactMerkleProofWrong : ChangeSpec := { name := "fnExactMerkleProof", fn := fun _ => fun
  | [d1, d2] => { results := [.lit (.bool false)], args := [d1, d2] }
  | _ => none }
def FnExactMerkleProofWrongFalsely : Prop := fnExactMerkleProofRow.holds Try.pinned (OpenSpec.ofChange fnExactMerkleProofWrong)

/-- 'laws.FnMerkleChange': WHATEVER THE INPUT: true; the input reads as it did. -/
def fnMerkleChangeSpec : ChangeSpec := { name := "fnMerkleChange", fn := fun _ => fun
  | [d1, d2] => { results := [.lit (.bool true)], args := [d1, d2] }
  | _ => none }
def fnMerkleChangeRow : OpenClaim := { program := "ytgmbacgpaagkhaa", sum := "572da76b62df3a1a3f467f956d6dd20a519cbe4e553c11b20df53111f416bd2c", func := "loop.example/dagconsensus/laws.FnMerkleChange", spec := "fnMerkleChange", unfollowed := true, recurses := true, apart := false }
def FnMerkleChangeSaid : Prop := fnMerkleChangeRow.holds Try.pinned (OpenSpec.ofChange fnMerkleChangeSpec)

/-- ITS FALSE NEIGHBOUR: 'it returns false'. Refute it at one input. -/
def fnMerkleChangeWrong : ChangeSpec := { name := "fnMerkleChange", fn := fun _ => fun
  | [d1, d2] => { results := [.lit (.bool false)], args := [d1, d2] }
  | _ => none }
def FnMerkleChangeWrongFalsely : Prop := fnMerkleChangeRow.holds Try.pinned (OpenSpec.ofChange fnMerkleChangeWrong)

/-- 'laws.FnMerkleSingle': WHATEVER THE INPUT: true; the input reads as it did. -/
def fnMerkleSingleSpec : ChangeSpec := { name := "fnMerkleSingle", fn := fun _ => fun
  | [d] => { results := [.lit (.bool true)], args := [d] }
  | _ => none }
def fnMerkleSingleRow : OpenClaim := { program := "ytgmbacgpaagkhaa", sum := "572da76b62df3a1a3f467f956d6dd20a519cbe4e553c11b20df53111f416bd2c", func := "loop.example/dagconsensus/laws.FnMerkleSingle", spec := "fnMerkleSingle", unfollowed := true, recurses := true, apart := false }
def FnMerkleSingleSaid : Prop := fnMerkleSingleRow.holds Try.pinned (OpenSpec.ofChange fnMerkleSingleSpec)

/-- ITS FALSE NEIGHBOUR: 'it returns false'. Refute it at one input. -/
def fnMerkleSingleWrong : ChangeSpec := { name := "fnMerkleSingle", fn := fun _ => fun
  | [d] => { results := [.lit (.bool false)], args := [d] }
  | _ => none }
def FnMerkleSingleWrongFalsely : Prop := fnMerkleSingleRow.holds Try.pinned (OpenSpec.ofChange fnMerkleSingleWrong)

/-- 'laws.FnMerkleLength': WHATEVER THE INPUT: true; the input reads as it did. -/
def fnMerkleLengthSpec : ChangeSpec := { name := "fnMerkleLength", fn := fun _ => fun
  | [d] => { results := [.lit (.bool true)], args := [d] }
  | _ => none }
def fnMerkleLengthRow : OpenClaim := { program := "ytgmbacgpaagkhaa", sum := "572da76b62df3a1a3f467f956d6dd20a519cbe4e553c11b20df53111f416bd2c", func := "loop.example/dagconsensus/laws.FnMerkleLength", spec := "fnMerkleLength", unfollowed := true, recurses := true, apart := false }
def FnMerkleLengthSaid : Prop := fnMerkleLengthRow.holds Try.pinned (OpenSpec.ofChange fnMerkleLengthSpec)

/-- ITS FALSE NEIGHBOUR: 'it returns false'. Refute it at one input. -/
def fnMerkleLengthWrong : ChangeSpec := { name := "fnMerkleLength", fn := fun _ => fun
  | [d] => { results := [.lit (.bool false)], args := [d] }
  | _ => none }
def FnMerkleLengthWrongFalsely : Prop := fnMerkleLengthRow.holds Try.pinned (OpenSpec.ofChange fnMerkleLengthWrong)

/-- 'laws.FnMerkleRoots': WHATEVER THE INPUT: true; the input reads as it did. -/
def fnMerkleRootsSpec : ChangeSpec := { name := "fnMerkleRoots", fn := fun _ => fun
  | [d1, d2] => { results := [.lit (.bool true)], args := [d1, d2] }
  | _ => none }
def fnMerkleRootsRow : OpenClaim := { program := "ytgmbacgpaagkhaa", sum := "572da76b62df3a1a3f467f956d6dd20a519cbe4e553c11b20df53111f416bd2c", func := "loop.example/dagconsensus/laws.FnMerkleRoots", spec := "fnMerkleRoots", unfollowed := true, recurses := true, apart := false }
def FnMerkleRootsSaid : Prop := fnMerkleRootsRow.holds Try.pinned (OpenSpec.ofChange fnMerkleRootsSpec)

/-- ITS FALSE NEIGHBOUR: 'it returns false'. Refute it at one input. -/
def fnMerkleRootsWrong : ChangeSpec := { name := "fnMerkleRoots", fn := fun _ => fun
  | [d1, d2] => { results := [.lit (.bool false)], args := [d1, d2] }
  | _ => none }
def FnMerkleRootsWrongFalsely : Prop := fnMerkleRootsRow.holds Try.pinned (OpenSpec.ofChange fnMerkleRootsWrong)

/-- 'laws.FnMerkleProof': WHATEVER THE INPUT: true; the input reads as it did. -/
def fnMerkleProofSpec : ChangeSpec := { name := "fnMerkleProof", fn := fun _ => fun
  | [d] => { results := [.lit (.bool true)], args := [d] }
  | _ => none }
def fnMerkleProofRow : OpenClaim := { program := "ytgmbacgpaagkhaa", sum := "572da76b62df3a1a3f467f956d6dd20a519cbe4e553c11b20df53111f416bd2c", func := "loop.example/dagconsensus/laws.FnMerkleProof", spec := "fnMerkleProof", unfollowed := true, recurses := true, apart := false }
def FnMerkleProofSaid : Prop := fnMerkleProofRow.holds Try.pinned (OpenSpec.ofChange fnMerkleProofSpec)

/-- ITS FALSE NEIGHBOUR: 'it returns false'. Refute it at one input. -/
def fnMerkleProofWrong : ChangeSpec := { name := "fnMerkleProof", fn := fun _ => fun
  | [d] => { results := [.lit (.bool false)], args := [d] }
  | _ => none }
def FnMerkleProofWrongFalsely : Prop := fnMerkleProofRow.holds Try.pinned (OpenSpec.ofChange fnMerkleProofWrong)

/-- 'laws.FnMerkleLeaf': WHATEVER THE INPUT: true; the input reads as it did. -/
def fnMerkleLeafSpec : ChangeSpec := { name := "fnMerkleLeaf", fn := fun _ => fun
  | [d1, d2] => { results := [.lit (.bool true)], args := [d1, d2] }
  | _ => none }
def fnMerkleLeafRow : OpenClaim := { program := "ytgmbacgpaagkhaa", sum := "572da76b62df3a1a3f467f956d6dd20a519cbe4e553c11b20df53111f416bd2c", func := "loop.example/dagconsensus/laws.FnMerkleLeaf", spec := "fnMerkleLeaf", unfollowed := true, recurses := true, apart := false }
def FnMerkleLeafSaid : Prop := fnMerkleLeafRow.holds Try.pinned (OpenSpec.ofChange fnMerkleLeafSpec)

/-- ITS FALSE NEIGHBOUR: 'it returns false'. Refute it at one input. -/
def fnMerkleLeafWrong : ChangeSpec := { name := "fnMerkleLeaf", fn := fun _ => fun
  | [d1, d2] => { results := [.lit (.bool false)], args := [d1, d2] }
  | _ => none }
def FnMerkleLeafWrongFalsely : Prop := fnMerkleLeafRow.holds Try.pinned (OpenSpec.ofChange fnMerkleLeafWrong)

/- THE SECOND FORM. 'bulk': how many values and letters a reading holds, each counted each time it is reached (what is shared counts as often as it is met; a slice's spare places count too). A statement '..UptoSaid' is the law's where the arguments, and the package variables that the reading takes, are together of bulk at most 1048576: NARROWER than '..Said'. Prove '..Said' where nothing that the law and all that it calls make is longer than what came in: it says more and counts as full. Else prove '..UptoSaid'. A law counts once. -/
mutual
def uptoBulk {H : Type} : DataW H → Nat
  | .lit (.string bytes) => bytes.length + 1
  | .lit _ => 1
  | .nil => 1
  | .ptr d => uptoBulk d + 1
  | .slice elems spare => uptoBulkAll elems + uptoBulkAll spare + 1
  | .agg parts => uptoBulkAll parts + 1
  | .iface _ d => uptoBulk d + 1
  | .map entries => uptoBulkEntries entries + 1
  | .held _ => 1
def uptoBulkAll {H : Type} : List (DataW H) → Nat
  | [] => 0
  | d :: r => uptoBulk d + uptoBulkAll r
def uptoBulkEntries {H : Type} : List (Lit × DataW H) → Nat
  | [] => 0
  | x :: r => uptoBulkEntry x + uptoBulkEntries r
def uptoBulkEntry {H : Type} : Lit × DataW H → Nat
  | (.string bytes, d) => bytes.length + uptoBulk d + 1
  | (_, d) => uptoBulk d + 1
 end
def uptoSmall : (H : Type) → List (DataW H) → Bool := fun _ ds => decide (uptoBulkAll ds ≤ 1048576)
def OpenSpec.upto (s : _root_.Go.ChangeSpec) : _root_.Go.OpenSpec := { _root_.Go.OpenSpec.ofChange s with cond := some uptoSmall }

/-- 'laws.FnExactMerkleCheck', WHERE WHAT IT READS IS OF BULK AT MOST 1048576: true; the input reads as it did. -/
def fnExactMerkleCheckUptoRow : OpenClaim := { program := "ytgmbacgpaagkhaa", sum := "572da76b62df3a1a3f467f956d6dd20a519cbe4e553c11b20df53111f416bd2c", func := "loop.example/dagconsensus/laws.FnExactMerkleCheck", spec := "fnExactMerkleCheck", unfollowed := true, recurses := true, apart := false, narrowed := true }
def FnExactMerkleCheckUptoSaid : Prop := fnExactMerkleCheckUptoRow.holds Try.pinned (OpenSpec.upto fnExactMerkleCheckSpec)

/-- 'laws.FnExactMerkleRoot', WHERE WHAT IT READS IS OF BULK AT MOST 1048576: true; the input reads as it did. -/
def fnExactMerkleRootUptoRow : OpenClaim := { program := "ytgmbacgpaagkhaa", sum := "572da76b62df3a1a3f467f956d6dd20a519cbe4e553c11b20df53111f416bd2c", func := "loop.example/dagconsensus/laws.FnExactMerkleRoot", spec := "fnExactMerkleRoot", unfollowed := true, recurses := true, apart := false, narrowed := true }
def FnExactMerkleRootUptoSaid : Prop := fnExactMerkleRootUptoRow.holds Try.pinned (OpenSpec.upto fnExactMerkleRootSpec)

/-- 'laws.FnExactMerkleProof', WHERE WHAT IT READS IS OF BULK AT MOST 1048576: true; the input reads as it did. -/
def fnExactMerkleProofUptoRow : OpenClaim := { program := "ytgmbacgpaagkhaa", sum := "572da76b62df3a1a3f467f956d6dd20a519cbe4e553c11b20df53111f416bd2c", func := "loop.example/dagconsensus/laws.FnExactMerkleProof", spec := "fnExactMerkleProof", unfollowed := true, recurses := true, apart := false, narrowed := true }
def FnExactMerkleProofUptoSaid : Prop := fnExactMerkleProofUptoRow.holds Try.pinned (OpenSpec.upto fnExactMerkleProofSpec)

/-- 'laws.FnMerkleChange', WHERE WHAT IT READS IS OF BULK AT MOST 1048576: true; the input reads as it did. -/
def fnMerkleChangeUptoRow : OpenClaim := { program := "ytgmbacgpaagkhaa", sum := "572da76b62df3a1a3f467f956d6dd20a519cbe4e553c11b20df53111f416bd2c", func := "loop.example/dagconsensus/laws.FnMerkleChange", spec := "fnMerkleChange", unfollowed := true, recurses := true, apart := false, narrowed := true }
def FnMerkleChangeUptoSaid : Prop := fnMerkleChangeUptoRow.holds Try.pinned (OpenSpec.upto fnMerkleChangeSpec)

/-- 'laws.FnMerkleSingle', WHERE WHAT IT READS IS OF BULK AT MOST 1048576: true; the input reads as it did. -/
def fnMerkleSingleUptoRow : OpenClaim := { program := "ytgmbacgpaagkhaa", sum := "572da76b62df3a1a3f467f956d6dd20a519cbe4e553c11b20df53111f416bd2c", func := "loop.example/dagconsensus/laws.FnMerkleSingle", spec := "fnMerkleSingle", unfollowed := true, recurses := true, apart := false, narrowed := true }
def FnMerkleSingleUptoSaid : Prop := fnMerkleSingleUptoRow.holds Try.pinned (OpenSpec.upto fnMerkleSingleSpec)

/-- 'laws.FnMerkleLength', WHERE WHAT IT READS IS OF BULK AT MOST 1048576: true; the input reads as it did. -/
def fnMerkleLengthUptoRow : OpenClaim := { program := "ytgmbacgpaagkhaa", sum := "572da76b62df3a1a3f467f956d6dd20a519cbe4e553c11b20df53111f416bd2c", func := "loop.example/dagconsensus/laws.FnMerkleLength", spec := "fnMerkleLength", unfollowed := true, recurses := true, apart := false, narrowed := true }
def FnMerkleLengthUptoSaid : Prop := fnMerkleLengthUptoRow.holds Try.pinned (OpenSpec.upto fnMerkleLengthSpec)

/-- 'laws.FnMerkleRoots', WHERE WHAT IT READS IS OF BULK AT MOST 1048576: true; the input reads as it did. -/
def fnMerkleRootsUptoRow : OpenClaim := { program := "ytgmbacgpaagkhaa", sum := "572da76b62df3a1a3f467f956d6dd20a519cbe4e553c11b20df53111f416bd2c", func := "loop.example/dagconsensus/laws.FnMerkleRoots", spec := "fnMerkleRoots", unfollowed := true, recurses := true, apart := false, narrowed := true }
def FnMerkleRootsUptoSaid : Prop := fnMerkleRootsUptoRow.holds Try.pinned (OpenSpec.upto fnMerkleRootsSpec)

/-- 'laws.FnMerkleProof', WHERE WHAT IT READS IS OF BULK AT MOST 1048576: true; the input reads as it did. -/
def fnMerkleProofUptoRow : OpenClaim := { program := "ytgmbacgpaagkhaa", sum := "572da76b62df3a1a3f467f956d6dd20a519cbe4e553c11b20df53111f416bd2c", func := "loop.example/dagconsensus/laws.FnMerkleProof", spec := "fnMerkleProof", unfollowed := true, recurses := true, apart := false, narrowed := true }
def FnMerkleProofUptoSaid : Prop := fnMerkleProofUptoRow.holds Try.pinned (OpenSpec.upto fnMerkleProofSpec)

/-- 'laws.FnMerkleLeaf', WHERE WHAT IT READS IS OF BULK AT MOST 1048576: true; the input reads as it did. -/
def fnMerkleLeafUptoRow : OpenClaim := { program := "ytgmbacgpaagkhaa", sum := "572da76b62df3a1a3f467f956d6dd20a519cbe4e553c11b20df53111f416bd2c", func := "loop.example/dagconsensus/laws.FnMerkleLeaf", spec := "fnMerkleLeaf", unfollowed := true, recurses := true, apart := false, narrowed := true }
def FnMerkleLeafUptoSaid : Prop := fnMerkleLeafUptoRow.holds Try.pinned (OpenSpec.upto fnMerkleLeafSpec)

end Rows
end Go.Proofs.Ytgmbacgpaagkhaa
