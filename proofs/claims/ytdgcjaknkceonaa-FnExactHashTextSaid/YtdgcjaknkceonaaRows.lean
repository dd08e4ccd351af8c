/-
  No cell of these rows narrows 'for every input' (looked for: loops, veiled, ifaces, maps, wideKeys, modest, calm, conditions, laid).
  DERIVED. THE GIVEN ROWS OF THIS SEAT. 12 by the template 'for every input the law returns true; each argument reads behind the call as it read before'; 0 by the template 'total and deterministic' (their statements: YtdgcjaknkceonaaTotals.lean).
  GIVEN WITH THE SEED: the statements are not yours to turn. If you find one false, say at which input.
  Laid BY PROGRAM, IN A SANDBOX (cutbox-rows.mjs): the forced cells as the released guide's own fill.sh prints them over the translation c1f6e43c72013312… (all of the seat's roots in one cut). By AI agents, Wed Nov 11 2026. No macro, syntax, notation, axiom, sorry.
-/
import Derived.Test.YtdgcjaknkceonaaChecked
import GoSem.Claim
import GoSem.ClaimJoined
import GoSem.ClaimMapViews
import Derived.JoinedTies
import Derived.KernelRfl
namespace Go.Proofs.Ytdgcjaknkceonaa
/- THE CELL 'sum', in the pinned program and in every row, IS THE sha256 OF THE DUMP (.gsa) THAT YtdgcjaknkceonaaProg.lean LOADS. Nothing in Lean hashes anything: it is a label: what it is worth is what the hold of that sum in a sandbox is worth. -/
noncomputable def Try.pinned : Pinned := { name := "ytdgcjaknkceonaa", sum := "c1f6e43c720133120179fda2cfd6f03eee7eee5664a397688ca3eab8e92719b2", checked := Try.checked }
namespace Rows
def none {H : Type} : Left H := { results := [], args := [] }

/-- 'laws.FnExactConstants': WHATEVER THE INPUT: true; the input reads as it did. -/
def fnExactConstantsSpec : ChangeSpec := { name := "fnExactConstants", fn := fun _ => fun
  | [] => { results := [.lit (.bool true)], args := [] }
  | _ => none }
def fnExactConstantsRow : OpenClaim := { program := "ytdgcjaknkceonaa", sum := "c1f6e43c720133120179fda2cfd6f03eee7eee5664a397688ca3eab8e92719b2", func := "loop.example/dagconsensus/laws.FnExactConstants", spec := "fnExactConstants", apart := false }
def FnExactConstantsSaid : Prop := fnExactConstantsRow.holds Try.pinned (OpenSpec.ofChange fnExactConstantsSpec)

/-- ITS FALSE NEIGHBOUR: 'it returns false'. Refute it at one input. -/
def fnExactConstantsWrong : ChangeSpec := { name := "fnExactConstants", fn := fun _ => fun
  | [] => { results := [.lit (.bool false)], args := [] }
  | _ => none }
def FnExactConstantsWrongFalsely : Prop := fnExactConstantsRow.holds Try.pinned (OpenSpec.ofChange fnExactConstantsWrong)

/-- 'laws.FnExactCoinMake': WHATEVER THE INPUT: true; the input reads as it did. -/
def fnExactCoinMakeSpec : ChangeSpec := { name := "fnExactCoinMake", fn := fun _ => fun
  | [d1, d2] => { results := [.lit (.bool true)], args := [d1, d2] }
  | _ => none }
def fnExactCoinMakeRow : OpenClaim := { program := "ytdgcjaknkceonaa", sum := "c1f6e43c720133120179fda2cfd6f03eee7eee5664a397688ca3eab8e92719b2", func := "loop.example/dagconsensus/laws.FnExactCoinMake", spec := "fnExactCoinMake", apart := false }
def FnExactCoinMakeSaid : Prop := fnExactCoinMakeRow.holds Try.pinned (OpenSpec.ofChange fnExactCoinMakeSpec)

/-- ITS FALSE NEIGHBOUR: 'it returns false'. Refute it at one input. -/
def fnExactCoinMakeWrong : ChangeSpec := { name := "fnExactCoinMake", fn := fun _ => fun
  | [d1, d2] => { results := [.lit (.bool false)], args := [d1, d2] }
  | _ => none }
def FnExactCoinMakeWrongFalsely : Prop := fnExactCoinMakeRow.holds Try.pinned (OpenSpec.ofChange fnExactCoinMakeWrong)

/-- 'laws.FnExactKeyPublic': WHATEVER THE INPUT: true; the input reads as it did. -/
def fnExactKeyPublicSpec : ChangeSpec := { name := "fnExactKeyPublic", fn := fun _ => fun
  | [d] => { results := [.lit (.bool true)], args := [d] }
  | _ => none }
def fnExactKeyPublicRow : OpenClaim := { program := "ytdgcjaknkceonaa", sum := "c1f6e43c720133120179fda2cfd6f03eee7eee5664a397688ca3eab8e92719b2", func := "loop.example/dagconsensus/laws.FnExactKeyPublic", spec := "fnExactKeyPublic", apart := false }
def FnExactKeyPublicSaid : Prop := fnExactKeyPublicRow.holds Try.pinned (OpenSpec.ofChange fnExactKeyPublicSpec)

/-- ITS FALSE NEIGHBOUR: 'it returns false'. Refute it at one input. -/
def fnExactKeyPublicWrong : ChangeSpec := { name := "fnExactKeyPublic", fn := fun _ => fun
  | [d] => { results := [.lit (.bool false)], args := [d] }
  | _ => none }
def FnExactKeyPublicWrongFalsely : Prop := fnExactKeyPublicRow.holds Try.pinned (OpenSpec.ofChange fnExactKeyPublicWrong)

/-- 'laws.FnExactTxnValid': WHATEVER THE INPUT: true; the input reads as it did. -/
def fnExactTxnValidSpec : ChangeSpec := { name := "fnExactTxnValid", fn := fun _ => fun
  | [d] => { results := [.lit (.bool true)], args := [d] }
  | _ => none }
def fnExactTxnValidRow : OpenClaim := { program := "ytdgcjaknkceonaa", sum := "c1f6e43c720133120179fda2cfd6f03eee7eee5664a397688ca3eab8e92719b2", func := "loop.example/dagconsensus/laws.FnExactTxnValid", spec := "fnExactTxnValid", apart := false }
def FnExactTxnValidSaid : Prop := fnExactTxnValidRow.holds Try.pinned (OpenSpec.ofChange fnExactTxnValidSpec)

/-- ITS FALSE NEIGHBOUR: 'it returns false'. Refute it at one input. -/
def fnExactTxnValidWrong : ChangeSpec := { name := "fnExactTxnValid", fn := fun _ => fun
  | [d] => { results := [.lit (.bool false)], args := [d] }
  | _ => none }
def FnExactTxnValidWrongFalsely : Prop := fnExactTxnValidRow.holds Try.pinned (OpenSpec.ofChange fnExactTxnValidWrong)

/-- 'laws.FnExactCoinValue': WHATEVER THE INPUT: true; the input reads as it did. -/
def fnExactCoinValueSpec : ChangeSpec := { name := "fnExactCoinValue", fn := fun _ => fun
  | [d1, d2] => { results := [.lit (.bool true)], args := [d1, d2] }
  | _ => none }
def fnExactCoinValueRow : OpenClaim := { program := "ytdgcjaknkceonaa", sum := "c1f6e43c720133120179fda2cfd6f03eee7eee5664a397688ca3eab8e92719b2", func := "loop.example/dagconsensus/laws.FnExactCoinValue", spec := "fnExactCoinValue", apart := false }
def FnExactCoinValueSaid : Prop := fnExactCoinValueRow.holds Try.pinned (OpenSpec.ofChange fnExactCoinValueSpec)

/-- ITS FALSE NEIGHBOUR: 'it returns false'. Refute it at one input. -/
def fnExactCoinValueWrong : ChangeSpec := { name := "fnExactCoinValue", fn := fun _ => fun
  | [d1, d2] => { results := [.lit (.bool false)], args := [d1, d2] }
  | _ => none }
def FnExactCoinValueWrongFalsely : Prop := fnExactCoinValueRow.holds Try.pinned (OpenSpec.ofChange fnExactCoinValueWrong)

/-- 'laws.FnExactHashPair': WHATEVER THE INPUT: true; the input reads as it did. -/
def fnExactHashPairSpec : ChangeSpec := { name := "fnExactHashPair", fn := fun _ => fun
  | [d1, d2] => { results := [.lit (.bool true)], args := [d1, d2] }
  | _ => none }
def fnExactHashPairRow : OpenClaim := { program := "ytdgcjaknkceonaa", sum := "c1f6e43c720133120179fda2cfd6f03eee7eee5664a397688ca3eab8e92719b2", func := "loop.example/dagconsensus/laws.FnExactHashPair", spec := "fnExactHashPair", apart := false }
def FnExactHashPairSaid : Prop := fnExactHashPairRow.holds Try.pinned (OpenSpec.ofChange fnExactHashPairSpec)

/-- ITS FALSE NEIGHBOUR: 'it returns false'. Refute it at one input. -/
def fnExactHashPairWrong : ChangeSpec := { name := "fnExactHashPair", fn := fun _ => fun
  | [d1, d2] => { results := [.lit (.bool false)], args := [d1, d2] }
  | _ => none }
def FnExactHashPairWrongFalsely : Prop := fnExactHashPairRow.holds Try.pinned (OpenSpec.ofChange fnExactHashPairWrong)

/-- 'laws.FnExactHashText': WHATEVER THE INPUT: true; the input reads as it did. -/
def fnExactHashTextSpec : ChangeSpec := { name := "fnExactHashText", fn := fun _ => fun
  | [d] => { results := [.lit (.bool true)], args := [d] }
  | _ => none }
def fnExactHashTextRow : OpenClaim := { program := "ytdgcjaknkceonaa", sum := "c1f6e43c720133120179fda2cfd6f03eee7eee5664a397688ca3eab8e92719b2", func := "loop.example/dagconsensus/laws.FnExactHashText", spec := "fnExactHashText", apart := false }
def FnExactHashTextSaid : Prop := fnExactHashTextRow.holds Try.pinned (OpenSpec.ofChange fnExactHashTextSpec)

/-- ITS FALSE NEIGHBOUR: 'it returns false'. Refute it at one input. -/
def fnExactHashTextWrong : ChangeSpec := { name := "fnExactHashText", fn := fun _ => fun
  | [d] => { results := [.lit (.bool false)], args := [d] }
  | _ => none }
def FnExactHashTextWrongFalsely : Prop := fnExactHashTextRow.holds Try.pinned (OpenSpec.ofChange fnExactHashTextWrong)

/-- 'laws.FnExactSignMake': WHATEVER THE INPUT: true; the input reads as it did. -/
def fnExactSignMakeSpec : ChangeSpec := { name := "fnExactSignMake", fn := fun _ => fun
  | [d1, d2] => { results := [.lit (.bool true)], args := [d1, d2] }
  | _ => none }
def fnExactSignMakeRow : OpenClaim := { program := "ytdgcjaknkceonaa", sum := "c1f6e43c720133120179fda2cfd6f03eee7eee5664a397688ca3eab8e92719b2", func := "loop.example/dagconsensus/laws.FnExactSignMake", spec := "fnExactSignMake", apart := false }
def FnExactSignMakeSaid : Prop := fnExactSignMakeRow.holds Try.pinned (OpenSpec.ofChange fnExactSignMakeSpec)

/-- ITS FALSE NEIGHBOUR: 'it returns false'. Refute it at one input. -/
def fnExactSignMakeWrong : ChangeSpec := { name := "fnExactSignMake", fn := fun _ => fun
  | [d1, d2] => { results := [.lit (.bool false)], args := [d1, d2] }
  | _ => none }
def FnExactSignMakeWrongFalsely : Prop := fnExactSignMakeRow.holds Try.pinned (OpenSpec.ofChange fnExactSignMakeWrong)

/-- 'laws.FnExactSignCheck': WHATEVER THE INPUT: true; the input reads as it did. -/
def fnExactSignCheckSpec : ChangeSpec := { name := "fnExactSignCheck", fn := fun _ => fun
  | [d1, d2, d3] => { results := [.lit (.bool true)], args := [d1, d2, d3] }
  | _ => none }
def fnExactSignCheckRow : OpenClaim := { program := "ytdgcjaknkceonaa", sum := "c1f6e43c720133120179fda2cfd6f03eee7eee5664a397688ca3eab8e92719b2", func := "loop.example/dagconsensus/laws.FnExactSignCheck", spec := "fnExactSignCheck", apart := false }
def FnExactSignCheckSaid : Prop := fnExactSignCheckRow.holds Try.pinned (OpenSpec.ofChange fnExactSignCheckSpec)

/-- ITS FALSE NEIGHBOUR: 'it returns false'. Refute it at one input. -/
def fnExactSignCheckWrong : ChangeSpec := { name := "fnExactSignCheck", fn := fun _ => fun
  | [d1, d2, d3] => { results := [.lit (.bool false)], args := [d1, d2, d3] }
  | _ => none }
def FnExactSignCheckWrongFalsely : Prop := fnExactSignCheckRow.holds Try.pinned (OpenSpec.ofChange fnExactSignCheckWrong)

/-- 'laws.FnCoinMake': WHATEVER THE INPUT: true; the input reads as it did. -/
def fnCoinMakeSpec : ChangeSpec := { name := "fnCoinMake", fn := fun _ => fun
  | [d1, d2] => { results := [.lit (.bool true)], args := [d1, d2] }
  | _ => none }
def fnCoinMakeRow : OpenClaim := { program := "ytdgcjaknkceonaa", sum := "c1f6e43c720133120179fda2cfd6f03eee7eee5664a397688ca3eab8e92719b2", func := "loop.example/dagconsensus/laws.FnCoinMake", spec := "fnCoinMake", apart := false }
def FnCoinMakeSaid : Prop := fnCoinMakeRow.holds Try.pinned (OpenSpec.ofChange fnCoinMakeSpec)

/-- ITS FALSE NEIGHBOUR: 'it returns false'. Refute it at one input. -/
def fnCoinMakeWrong : ChangeSpec := { name := "fnCoinMake", fn := fun _ => fun
  | [d1, d2] => { results := [.lit (.bool false)], args := [d1, d2] }
  | _ => none }
def FnCoinMakeWrongFalsely : Prop := fnCoinMakeRow.holds Try.pinned (OpenSpec.ofChange fnCoinMakeWrong)

/-- 'laws.FnKeyPublic': WHATEVER THE INPUT: true; the input reads as it did. -/
def fnKeyPublicSpec : ChangeSpec := { name := "fnKeyPublic", fn := fun _ => fun
  | [d1, d2] => { results := [.lit (.bool true)], args := [d1, d2] }
  | _ => none }
def fnKeyPublicRow : OpenClaim := { program := "ytdgcjaknkceonaa", sum := "c1f6e43c720133120179fda2cfd6f03eee7eee5664a397688ca3eab8e92719b2", func := "loop.example/dagconsensus/laws.FnKeyPublic", spec := "fnKeyPublic", apart := false }
def FnKeyPublicSaid : Prop := fnKeyPublicRow.holds Try.pinned (OpenSpec.ofChange fnKeyPublicSpec)

/-- ITS FALSE NEIGHBOUR: 'it returns false'. Refute it at one input. -/
def fnKeyPublicWrong : ChangeSpec := { name := "fnKeyPublic", fn := fun _ => fun
  | [d1, d2] => { results := [.lit (.bool false)], args := [d1, d2] }
  | _ => none }
def FnKeyPublicWrongFalsely : Prop := fnKeyPublicRow.holds Try.pinned (OpenSpec.ofChange fnKeyPublicWrong)

/-- 'laws.FnTxnValid': WHATEVER THE INPUT: true; the input reads as it did. -/
def fnTxnValidSpec : ChangeSpec := { name := "fnTxnValid", fn := fun _ => fun
  | [d] => { results := [.lit (.bool true)], args := [d] }
  | _ => none }
def fnTxnValidRow : OpenClaim := { program := "ytdgcjaknkceonaa", sum := "c1f6e43c720133120179fda2cfd6f03eee7eee5664a397688ca3eab8e92719b2", func := "loop.example/dagconsensus/laws.FnTxnValid", spec := "fnTxnValid", apart := false }
def FnTxnValidSaid : Prop := fnTxnValidRow.holds Try.pinned (OpenSpec.ofChange fnTxnValidSpec)

/-- ITS FALSE NEIGHBOUR: 'it returns false'. Refute it at one input. -/
def fnTxnValidWrong : ChangeSpec := { name := "fnTxnValid", fn := fun _ => fun
  | [d] => { results := [.lit (.bool false)], args := [d] }
  | _ => none }
def FnTxnValidWrongFalsely : Prop := fnTxnValidRow.holds Try.pinned (OpenSpec.ofChange fnTxnValidWrong)

/- THE SECOND FORM. 'bulk': how many values and letters a reading holds, each counted each time it is reached (what is shared counts as often as it is met; a slice's spare places count too). A statement '..UptoSaid' is the law's where the arguments, and the package variables that the reading takes, are together of bulk at most 1048576: NARROWER than '..Said'. Prove '..Said' where nothing that the law and all that it calls make is longer than what came in: it says more and counts as full. Else prove '..UptoSaid'. A law counts once. -/
mutual
def uptoBulk {H : Type} : DataW H → Nat
  | .lit (.string bytes) => bytes.length + 1
  | .lit _ => 1
  | .nil => 1
  | .ptr d => uptoBulk d + 1
  | .slice elems spare => uptoBulkAll elems + uptoBulkAll spare + 1
  | .agg parts => uptoBulkAll parts + 1
  | .iface _ d => uptoBulk d + 1
  | .map entries => uptoBulkEntries entries + 1
  | .held _ => 1
def uptoBulkAll {H : Type} : List (DataW H) → Nat
  | [] => 0
  | d :: r => uptoBulk d + uptoBulkAll r
def uptoBulkEntries {H : Type} : List (Lit × DataW H) → Nat
  | [] => 0
  | x :: r => uptoBulkEntry x + uptoBulkEntries r
def uptoBulkEntry {H : Type} : Lit × DataW H → Nat
  | (.string bytes, d) => bytes.length + uptoBulk d + 1
  | (_, d) => uptoBulk d + 1
 end
def uptoSmall : (H : Type) → List (DataW H) → Bool := fun _ ds => decide (uptoBulkAll ds ≤ 1048576)
def OpenSpec.upto (s : _root_.Go.ChangeSpec) : _root_.Go.OpenSpec := { _root_.Go.OpenSpec.ofChange s with cond := some uptoSmall }

/-- 'laws.FnExactConstants', WHERE WHAT IT READS IS OF BULK AT MOST 1048576: true; the input reads as it did. -/
def fnExactConstantsUptoRow : OpenClaim := { program := "ytdgcjaknkceonaa", sum := "c1f6e43c720133120179fda2cfd6f03eee7eee5664a397688ca3eab8e92719b2", func := "loop.example/dagconsensus/laws.FnExactConstants", spec := "fnExactConstants", apart := false, narrowed := true }
def FnExactConstantsUptoSaid : Prop := fnExactConstantsUptoRow.holds Try.pinned (OpenSpec.upto fnExactConstantsSpec)

/-- 'laws.FnExactCoinMake', WHERE WHAT IT READS IS OF BULK AT MOST 1048576: true; the input reads as it did. -/
def fnExactCoinMakeUptoRow : OpenClaim := { program := "ytdgcjaknkceonaa", sum := "c1f6e43c720133120179fda2cfd6f03eee7eee5664a397688ca3eab8e92719b2", func := "loop.example/dagconsensus/laws.FnExactCoinMake", spec := "fnExactCoinMake", apart := false, narrowed := true }
def FnExactCoinMakeUptoSaid : Prop := fnExactCoinMakeUptoRow.holds Try.pinned (OpenSpec.upto fnExactCoinMakeSpec)

/-- 'laws.FnExactKeyPublic', WHERE WHAT IT READS IS OF BULK AT MOST 1048576: true; the input reads as it did. -/
def fnExactKeyPublicUptoRow : OpenClaim := { program := "ytdgcjaknkceonaa", sum := "c1f6e43c720133120179fda2cfd6f03eee7eee5664a397688ca3eab8e92719b2", func := "loop.example/dagconsensus/laws.FnExactKeyPublic", spec := "fnExactKeyPublic", apart := false, narrowed := true }
def FnExactKeyPublicUptoSaid : Prop := fnExactKeyPublicUptoRow.holds Try.pinned (OpenSpec.upto fnExactKeyPublicSpec)

/-- 'laws.FnExactTxnValid', WHERE WHAT IT READS IS OF BULK AT MOST 1048576: true; the input reads as it did. -/
def fnExactTxnValidUptoRow : OpenClaim := { program := "ytdgcjaknkceonaa", sum := "c1f6e43c720133120179fda2cfd6f03eee7eee5664a397688ca3eab8e92719b2", func := "loop.example/dagconsensus/laws.FnExactTxnValid", spec := "fnExactTxnValid", apart := false, narrowed := true }
def FnExactTxnValidUptoSaid : Prop := fnExactTxnValidUptoRow.holds Try.pinned (OpenSpec.upto fnExactTxnValidSpec)

/-- 'laws.FnExactCoinValue', WHERE WHAT IT READS IS OF BULK AT MOST 1048576: true; the input reads as it did. -/
def fnExactCoinValueUptoRow : OpenClaim := { program := "ytdgcjaknkceonaa", sum := "c1f6e43c720133120179fda2cfd6f03eee7eee5664a397688ca3eab8e92719b2", func := "loop.example/dagconsensus/laws.FnExactCoinValue", spec := "fnExactCoinValue", apart := false, narrowed := true }
def FnExactCoinValueUptoSaid : Prop := fnExactCoinValueUptoRow.holds Try.pinned (OpenSpec.upto fnExactCoinValueSpec)

/-- 'laws.FnExactHashPair', WHERE WHAT IT READS IS OF BULK AT MOST 1048576: true; the input reads as it did. -/
def fnExactHashPairUptoRow : OpenClaim := { program := "ytdgcjaknkceonaa", sum := "c1f6e43c720133120179fda2cfd6f03eee7eee5664a397688ca3eab8e92719b2", func := "loop.example/dagconsensus/laws.FnExactHashPair", spec := "fnExactHashPair", apart := false, narrowed := true }
def FnExactHashPairUptoSaid : Prop := fnExactHashPairUptoRow.holds Try.pinned (OpenSpec.upto fnExactHashPairSpec)

/-- 'laws.FnExactHashText', WHERE WHAT IT READS IS OF BULK AT MOST 1048576: true; the input reads as it did. -/
def fnExactHashTextUptoRow : OpenClaim := { program := "ytdgcjaknkceonaa", sum := "c1f6e43c720133120179fda2cfd6f03eee7eee5664a397688ca3eab8e92719b2", func := "loop.example/dagconsensus/laws.FnExactHashText", spec := "fnExactHashText", apart := false, narrowed := true }
def FnExactHashTextUptoSaid : Prop := fnExactHashTextUptoRow.holds Try.pinned (OpenSpec.upto fnExactHashTextSpec)

/-- 'laws.FnExactSignMake', WHERE WHAT IT READS IS OF BULK AT MOST 1048576: true; the input reads as it did. -/
def fnExactSignMakeUptoRow : OpenClaim := { program := "ytdgcjaknkceonaa", sum := "c1f6e43c720133120179fda2cfd6f03eee7eee5664a397688ca3eab8e92719b2", func := "loop.example/dagconsensus/laws.FnExactSignMake", spec := "fnExactSignMake", apart := false, narrowed := true }
def FnExactSignMakeUptoSaid : Prop := fnExactSignMakeUptoRow.holds Try.pinned (OpenSpec.upto fnExactSignMakeSpec)

/-- 'laws.FnExactSignCheck', WHERE WHAT IT READS IS OF BULK AT MOST 1048576: true; the input reads as it did. -/
def fnExactSignCheckUptoRow : OpenClaim := { program := "ytdgcjaknkceonaa", sum := "c1f6e43c720133120179fda2cfd6f03eee7eee5664a397688ca3eab8e92719b2", func := "loop.example/dagconsensus/laws.FnExactSignCheck", spec := "fnExactSignCheck", apart := false, narrowed := true }
def FnExactSignCheckUptoSaid : Prop := fnExactSignCheckUptoRow.holds Try.pinned (OpenSpec.upto fnExactSignCheckSpec)

/-- 'laws.FnCoinMake', WHERE WHAT IT READS IS OF BULK AT MOST 1048576: true; the input reads as it did. -/
def fnCoinMakeUptoRow : OpenClaim := { program := "ytdgcjaknkceonaa", sum := "c1f6e43c720133120179fda2cfd6f03eee7eee5664a397688ca3eab8e92719b2", func := "loop.example/dagconsensus/laws.FnCoinMake", spec := "fnCoinMake", apart := false, narrowed := true }
def FnCoinMakeUptoSaid : Prop := fnCoinMakeUptoRow.holds Try.pinned (OpenSpec.upto fnCoinMakeSpec)

/-- 'laws.FnKeyPublic', WHERE WHAT IT READS IS OF BULK AT MOST 1048576: true; the input reads as it did. -/
def fnKeyPublicUptoRow : OpenClaim := { program := "ytdgcjaknkceonaa", sum := "c1f6e43c720133120179fda2cfd6f03eee7eee5664a397688ca3eab8e92719b2", func := "loop.example/dagconsensus/laws.FnKeyPublic", spec := "fnKeyPublic", apart := false, narrowed := true }
def FnKeyPublicUptoSaid : Prop := fnKeyPublicUptoRow.holds Try.pinned (OpenSpec.upto fnKeyPublicSpec)

/-- 'laws.FnTxnValid', WHERE WHAT IT READS IS OF BULK AT MOST 1048576: true; the input reads as it did. -/
def fnTxnValidUptoRow : OpenClaim := { program := "ytdgcjaknkceonaa", sum := "c1f6e43c720133120179fda2cfd6f03eee7eee5664a397688ca3eab8e92719b2", func := "loop.example/dagconsensus/laws.FnTxnValid", spec := "fnTxnValid", apart := false, narrowed := true }
def FnTxnValidUptoSaid : Prop := fnTxnValidUptoRow.holds Try.pinned (OpenSpec.upto fnTxnValidSpec)

end Rows
end Go.Proofs.Ytdgcjaknkceonaa
