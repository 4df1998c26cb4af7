/-
  No cell of these rows narrows 'for every input' (looked for: loops, veiled, ifaces, maps, wideKeys, modest, calm, conditions, laid).
  DERIVED. THE GIVEN ROWS OF THIS SEAT. 11 by the template 'for every input the law returns true; each argument reads behind the call as it read before'; 0 by the template 'total and deterministic' (their statements: YtadnejogdohfkaaTotals.lean).
  GIVEN WITH THE SEED: the statements are not yours to turn. If you find one false, say at which input.
  Laid BY PROGRAM, IN A SANDBOX (cutbox-rows.mjs): the forced cells as the released guide's own fill.sh prints them over the translation 51809a1f88504863… (all of the seat's roots in one cut). By AI agents, Wed Nov 11 2026. No macro, syntax, notation, axiom, sorry.
-/
import Derived.Test.YtadnejogdohfkaaChecked
import GoSem.Claim
import GoSem.ClaimJoined
import GoSem.ClaimMapViews
import Derived.JoinedTies
import Derived.KernelRfl
namespace Go.Proofs.Ytadnejogdohfkaa
/- THE CELL 'sum', in the pinned program and in every row, IS THE sha256 OF THE DUMP (.gsa) THAT YtadnejogdohfkaaProg.lean LOADS. Nothing in Lean hashes anything: it is a label: what it is worth is what the hold of that sum in a sandbox is worth. -/
noncomputable def Try.pinned : Pinned := { name := "ytadnejogdohfkaa", sum := "51809a1f8850486356ef2eefef669f5fc0cc4fd1325684f1ecd7872465e05335", checked := Try.checked }
namespace Rows
def none {H : Type} : Left H := { results := [], args := [] }

/-- 'laws.FnExactChainCode': WHATEVER THE INPUT: true; the input reads as it did. -/
def fnExactChainCodeSpec : ChangeSpec := { name := "fnExactChainCode", fn := fun _ => fun
  | [d1, d2] => { results := [.lit (.bool true)], args := [d1, d2] }
  | _ => none }
def fnExactChainCodeRow : OpenClaim := { program := "ytadnejogdohfkaa", sum := "51809a1f8850486356ef2eefef669f5fc0cc4fd1325684f1ecd7872465e05335", func := "loop.example/g00790/laws.FnExactChainCode", spec := "fnExactChainCode", apart := false }
def FnExactChainCodeSaid : Prop := fnExactChainCodeRow.holds Try.pinned (OpenSpec.ofChange fnExactChainCodeSpec)

/-- ITS FALSE NEIGHBOUR: 'it returns false'. Refute it at one input. -/
def fnExactChainCodeWrong : ChangeSpec := { name := "fnExactChainCode", fn := fun _ => fun
  | [d1, d2] => { results := [.lit (.bool false)], args := [d1, d2] }
  | _ => none }
def FnExactChainCodeWrongFalsely : Prop := fnExactChainCodeRow.holds Try.pinned (OpenSpec.ofChange fnExactChainCodeWrong)

/-- 'laws.FnExactForestOk': WHATEVER THE INPUT: true; the input reads as it did. -/
def fnExactForestOkSpec : ChangeSpec := { name := "fnExactForestOk", fn := fun _ => fun
  | [d] => { results := [.lit (.bool true)], args := [d] }
  | _ => none }
def fnExactForestOkRow : OpenClaim := { program := "ytadnejogdohfkaa", sum := "51809a1f8850486356ef2eefef669f5fc0cc4fd1325684f1ecd7872465e05335", func := "loop.example/g00790/laws.FnExactForestOk", spec := "fnExactForestOk", apart := false }
def FnExactForestOkSaid : Prop := fnExactForestOkRow.holds Try.pinned (OpenSpec.ofChange fnExactForestOkSpec)

/-- ITS FALSE NEIGHBOUR: 'it returns false'. Refute it at one input. -/
def fnExactForestOkWrong : ChangeSpec := { name := "fnExactForestOk", fn := fun _ => fun
  | [d] => { results := [.lit (.bool false)], args := [d] }
  | _ => none }
def FnExactForestOkWrongFalsely : Prop := fnExactForestOkRow.holds Try.pinned (OpenSpec.ofChange fnExactForestOkWrong)

/-- 'laws.FnExactLightOk': WHATEVER THE INPUT: true; the input reads as it did. -/
def fnExactLightOkSpec : ChangeSpec := { name := "fnExactLightOk", fn := fun _ => fun
  | [d] => { results := [.lit (.bool true)], args := [d] }
  | _ => none }
def fnExactLightOkRow : OpenClaim := { program := "ytadnejogdohfkaa", sum := "51809a1f8850486356ef2eefef669f5fc0cc4fd1325684f1ecd7872465e05335", func := "loop.example/g00790/laws.FnExactLightOk", spec := "fnExactLightOk", apart := false }
def FnExactLightOkSaid : Prop := fnExactLightOkRow.holds Try.pinned (OpenSpec.ofChange fnExactLightOkSpec)

/-- ITS FALSE NEIGHBOUR: 'it returns false'. Refute it at one input. -/
def fnExactLightOkWrong : ChangeSpec := { name := "fnExactLightOk", fn := fun _ => fun
  | [d] => { results := [.lit (.bool false)], args := [d] }
  | _ => none }
def FnExactLightOkWrongFalsely : Prop := fnExactLightOkRow.holds Try.pinned (OpenSpec.ofChange fnExactLightOkWrong)

/-- 'laws.FnExactQcCode': WHATEVER THE INPUT: true; the input reads as it did. -/
def fnExactQcCodeSpec : ChangeSpec := { name := "fnExactQcCode", fn := fun _ => fun
  | [d1, d2, d3] => { results := [.lit (.bool true)], args := [d1, d2, d3] }
  | _ => none }
def fnExactQcCodeRow : OpenClaim := { program := "ytadnejogdohfkaa", sum := "51809a1f8850486356ef2eefef669f5fc0cc4fd1325684f1ecd7872465e05335", func := "loop.example/g00790/laws.FnExactQcCode", spec := "fnExactQcCode", apart := false }
def FnExactQcCodeSaid : Prop := fnExactQcCodeRow.holds Try.pinned (OpenSpec.ofChange fnExactQcCodeSpec)

/-- ITS FALSE NEIGHBOUR: 'it returns false'. Refute it at one input. -/
def fnExactQcCodeWrong : ChangeSpec := { name := "fnExactQcCode", fn := fun _ => fun
  | [d1, d2, d3] => { results := [.lit (.bool false)], args := [d1, d2, d3] }
  | _ => none }
def FnExactQcCodeWrongFalsely : Prop := fnExactQcCodeRow.holds Try.pinned (OpenSpec.ofChange fnExactQcCodeWrong)

/-- 'laws.FnExactTcCode': WHATEVER THE INPUT: true; the input reads as it did. -/
def fnExactTcCodeSpec : ChangeSpec := { name := "fnExactTcCode", fn := fun _ => fun
  | [d1, d2, d3] => { results := [.lit (.bool true)], args := [d1, d2, d3] }
  | _ => none }
def fnExactTcCodeRow : OpenClaim := { program := "ytadnejogdohfkaa", sum := "51809a1f8850486356ef2eefef669f5fc0cc4fd1325684f1ecd7872465e05335", func := "loop.example/g00790/laws.FnExactTcCode", spec := "fnExactTcCode", apart := false }
def FnExactTcCodeSaid : Prop := fnExactTcCodeRow.holds Try.pinned (OpenSpec.ofChange fnExactTcCodeSpec)

/-- ITS FALSE NEIGHBOUR: 'it returns false'. Refute it at one input. -/
def fnExactTcCodeWrong : ChangeSpec := { name := "fnExactTcCode", fn := fun _ => fun
  | [d1, d2, d3] => { results := [.lit (.bool false)], args := [d1, d2, d3] }
  | _ => none }
def FnExactTcCodeWrongFalsely : Prop := fnExactTcCodeRow.holds Try.pinned (OpenSpec.ofChange fnExactTcCodeWrong)

/-- 'laws.FnExactSignLeave': WHATEVER THE INPUT: true; the input reads as it did. -/
def fnExactSignLeaveSpec : ChangeSpec := { name := "fnExactSignLeave", fn := fun _ => fun
  | [d1, d2, d3, d4] => { results := [.lit (.bool true)], args := [d1, d2, d3, d4] }
  | _ => none }
def fnExactSignLeaveRow : OpenClaim := { program := "ytadnejogdohfkaa", sum := "51809a1f8850486356ef2eefef669f5fc0cc4fd1325684f1ecd7872465e05335", func := "loop.example/g00790/laws.FnExactSignLeave", spec := "fnExactSignLeave", apart := false }
def FnExactSignLeaveSaid : Prop := fnExactSignLeaveRow.holds Try.pinned (OpenSpec.ofChange fnExactSignLeaveSpec)

/-- ITS FALSE NEIGHBOUR: 'it returns false'. Refute it at one input. -/
def fnExactSignLeaveWrong : ChangeSpec := { name := "fnExactSignLeave", fn := fun _ => fun
  | [d1, d2, d3, d4] => { results := [.lit (.bool false)], args := [d1, d2, d3, d4] }
  | _ => none }
def FnExactSignLeaveWrongFalsely : Prop := fnExactSignLeaveRow.holds Try.pinned (OpenSpec.ofChange fnExactSignLeaveWrong)

/-- 'laws.FnExactSignVote': WHATEVER THE INPUT: true; the input reads as it did. -/
def fnExactSignVoteSpec : ChangeSpec := { name := "fnExactSignVote", fn := fun _ => fun
  | [d1, d2, d3, d4, d5] => { results := [.lit (.bool true)], args := [d1, d2, d3, d4, d5] }
  | _ => none }
def fnExactSignVoteRow : OpenClaim := { program := "ytadnejogdohfkaa", sum := "51809a1f8850486356ef2eefef669f5fc0cc4fd1325684f1ecd7872465e05335", func := "loop.example/g00790/laws.FnExactSignVote", spec := "fnExactSignVote", apart := false }
def FnExactSignVoteSaid : Prop := fnExactSignVoteRow.holds Try.pinned (OpenSpec.ofChange fnExactSignVoteSpec)

/-- ITS FALSE NEIGHBOUR: 'it returns false'. Refute it at one input. -/
def fnExactSignVoteWrong : ChangeSpec := { name := "fnExactSignVote", fn := fun _ => fun
  | [d1, d2, d3, d4, d5] => { results := [.lit (.bool false)], args := [d1, d2, d3, d4, d5] }
  | _ => none }
def FnExactSignVoteWrongFalsely : Prop := fnExactSignVoteRow.holds Try.pinned (OpenSpec.ofChange fnExactSignVoteWrong)

/-- 'laws.FnExactLeast': WHATEVER THE INPUT: true; the input reads as it did. -/
def fnExactLeastSpec : ChangeSpec := { name := "fnExactLeast", fn := fun _ => fun
  | [d] => { results := [.lit (.bool true)], args := [d] }
  | _ => none }
def fnExactLeastRow : OpenClaim := { program := "ytadnejogdohfkaa", sum := "51809a1f8850486356ef2eefef669f5fc0cc4fd1325684f1ecd7872465e05335", func := "loop.example/g00790/laws.FnExactLeast", spec := "fnExactLeast", recurses := true, apart := false }
def FnExactLeastSaid : Prop := fnExactLeastRow.holds Try.pinned (OpenSpec.ofChange fnExactLeastSpec)

/-- ITS FALSE NEIGHBOUR: 'it returns false'. Refute it at one input. -/
def fnExactLeastWrong : ChangeSpec := { name := "fnExactLeast", fn := fun _ => fun
  | [d] => { results := [.lit (.bool false)], args := [d] }
  | _ => none }
def FnExactLeastWrongFalsely : Prop := fnExactLeastRow.holds Try.pinned (OpenSpec.ofChange fnExactLeastWrong)

/-- 'laws.FnExactBuildQc': WHATEVER THE INPUT: true; the input reads as it did. -/
def fnExactBuildQcSpec : ChangeSpec := { name := "fnExactBuildQc", fn := fun _ => fun
  | [d1, d2, d3, d4, d5, d6] => { results := [.lit (.bool true)], args := [d1, d2, d3, d4, d5, d6] }
  | _ => none }
def fnExactBuildQcRow : OpenClaim := { program := "ytadnejogdohfkaa", sum := "51809a1f8850486356ef2eefef669f5fc0cc4fd1325684f1ecd7872465e05335", func := "loop.example/g00790/laws.FnExactBuildQc", spec := "fnExactBuildQc", apart := false }
def FnExactBuildQcSaid : Prop := fnExactBuildQcRow.holds Try.pinned (OpenSpec.ofChange fnExactBuildQcSpec)

/-- ITS FALSE NEIGHBOUR: 'it returns false'. Refute it at one input. -/
def fnExactBuildQcWrong : ChangeSpec := { name := "fnExactBuildQc", fn := fun _ => fun
  | [d1, d2, d3, d4, d5, d6] => { results := [.lit (.bool false)], args := [d1, d2, d3, d4, d5, d6] }
  | _ => none }
def FnExactBuildQcWrongFalsely : Prop := fnExactBuildQcRow.holds Try.pinned (OpenSpec.ofChange fnExactBuildQcWrong)

/-- 'laws.FnExactBuildTc': WHATEVER THE INPUT: true; the input reads as it did. -/
def fnExactBuildTcSpec : ChangeSpec := { name := "fnExactBuildTc", fn := fun _ => fun
  | [d1, d2, d3, d4, d5] => { results := [.lit (.bool true)], args := [d1, d2, d3, d4, d5] }
  | _ => none }
def fnExactBuildTcRow : OpenClaim := { program := "ytadnejogdohfkaa", sum := "51809a1f8850486356ef2eefef669f5fc0cc4fd1325684f1ecd7872465e05335", func := "loop.example/g00790/laws.FnExactBuildTc", spec := "fnExactBuildTc", apart := false }
def FnExactBuildTcSaid : Prop := fnExactBuildTcRow.holds Try.pinned (OpenSpec.ofChange fnExactBuildTcSpec)

/-- ITS FALSE NEIGHBOUR: 'it returns false'. Refute it at one input. -/
def fnExactBuildTcWrong : ChangeSpec := { name := "fnExactBuildTc", fn := fun _ => fun
  | [d1, d2, d3, d4, d5] => { results := [.lit (.bool false)], args := [d1, d2, d3, d4, d5] }
  | _ => none }
def FnExactBuildTcWrongFalsely : Prop := fnExactBuildTcRow.holds Try.pinned (OpenSpec.ofChange fnExactBuildTcWrong)

/-- 'laws.FnExactTally': WHATEVER THE INPUT: true; the input reads as it did. -/
def fnExactTallySpec : ChangeSpec := { name := "fnExactTally", fn := fun _ => fun
  | [d1, d2, d3, d4] => { results := [.lit (.bool true)], args := [d1, d2, d3, d4] }
  | _ => none }
def fnExactTallyRow : OpenClaim := { program := "ytadnejogdohfkaa", sum := "51809a1f8850486356ef2eefef669f5fc0cc4fd1325684f1ecd7872465e05335", func := "loop.example/g00790/laws.FnExactTally", spec := "fnExactTally", unfollowed := true, recurses := true, apart := false }
def FnExactTallySaid : Prop := fnExactTallyRow.holds Try.pinned (OpenSpec.ofChange fnExactTallySpec)

/-- ITS FALSE NEIGHBOUR: 'it returns false'. Refute it at one input. -/
def fnExactTallyWrong : ChangeSpec := { name := "fnExactTally", fn := fun _ => fun
  | [d1, d2, d3, d4] => { results := [.lit (.bool false)], args := [d1, d2, d3, d4] }
  | _ => none }
def FnExactTallyWrongFalsely : Prop := fnExactTallyRow.holds Try.pinned (OpenSpec.ofChange fnExactTallyWrong)

/- THE SECOND FORM. 'bulk': how many values and letters a reading holds, each counted each time it is reached (what is shared counts as often as it is met; a slice's spare places count too). A statement '..UptoSaid' is the law's where the arguments, and the package variables that the reading takes, are together of bulk at most 1048576: NARROWER than '..Said'. Prove '..Said' where nothing that the law and all that it calls make is longer than what came in: it says more and counts as full. Else prove '..UptoSaid'. A law counts once. -/
mutual
def uptoBulk {H : Type} : DataW H → Nat
  | .lit (.string bytes) => bytes.length + 1
  | .lit _ => 1
  | .nil => 1
  | .ptr d => uptoBulk d + 1
  | .slice elems spare => uptoBulkAll elems + uptoBulkAll spare + 1
  | .agg parts => uptoBulkAll parts + 1
  | .iface _ d => uptoBulk d + 1
  | .map entries => uptoBulkEntries entries + 1
  | .held _ => 1
def uptoBulkAll {H : Type} : List (DataW H) → Nat
  | [] => 0
  | d :: r => uptoBulk d + uptoBulkAll r
def uptoBulkEntries {H : Type} : List (Lit × DataW H) → Nat
  | [] => 0
  | x :: r => uptoBulkEntry x + uptoBulkEntries r
def uptoBulkEntry {H : Type} : Lit × DataW H → Nat
  | (.string bytes, d) => bytes.length + uptoBulk d + 1
  | (_, d) => uptoBulk d + 1
 end
def uptoSmall : (H : Type) → List (DataW H) → Bool := fun _ ds => decide (uptoBulkAll ds ≤ 1048576)
def OpenSpec.upto (s : _root_.Go.ChangeSpec) : _root_.Go.OpenSpec := { _root_.Go.OpenSpec.ofChange s with cond := some uptoSmall }

/-- 'laws.FnExactChainCode', WHERE WHAT IT READS IS OF BULK AT MOST 1048576: true; the input reads as it did. -/
def fnExactChainCodeUptoRow : OpenClaim := { program := "ytadnejogdohfkaa", sum := "51809a1f8850486356ef2eefef669f5fc0cc4fd1325684f1ecd7872465e05335", func := "loop.example/g00790/laws.FnExactChainCode", spec := "fnExactChainCode", apart := false, narrowed := true }
def FnExactChainCodeUptoSaid : Prop := fnExactChainCodeUptoRow.holds Try.pinned (OpenSpec.upto fnExactChainCodeSpec)

/-- 'laws.FnExactForestOk', WHERE WHAT IT READS IS OF BULK AT MOST 1048576: true; the input reads as it did. -/
def fnExactForestOkUptoRow : OpenClaim := { program := "ytadnejogdohfkaa", sum := "51809a1f8850486356ef2eefef669f5fc0cc4fd1325684f1ecd7872465e05335", func := "loop.example/g00790/laws.FnExactForestOk", spec := "fnExactForestOk", apart := false, narrowed := true }
def FnExactForestOkUptoSaid : Prop := fnExactForestOkUptoRow.holds Try.pinned (OpenSpec.upto fnExactForestOkSpec)

/-- 'laws.FnExactLightOk', WHERE WHAT IT READS IS OF BULK AT MOST 1048576: true; the input reads as it did. -/
def fnExactLightOkUptoRow : OpenClaim := { program := "ytadnejogdohfkaa", sum := "51809a1f8850486356ef2eefef669f5fc0cc4fd1325684f1ecd7872465e05335", func := "loop.example/g00790/laws.FnExactLightOk", spec := "fnExactLightOk", apart := false, narrowed := true }
def FnExactLightOkUptoSaid : Prop := fnExactLightOkUptoRow.holds Try.pinned (OpenSpec.upto fnExactLightOkSpec)

/-- 'laws.FnExactQcCode', WHERE WHAT IT READS IS OF BULK AT MOST 1048576: true; the input reads as it did. -/
def fnExactQcCodeUptoRow : OpenClaim := { program := "ytadnejogdohfkaa", sum := "51809a1f8850486356ef2eefef669f5fc0cc4fd1325684f1ecd7872465e05335", func := "loop.example/g00790/laws.FnExactQcCode", spec := "fnExactQcCode", apart := false, narrowed := true }
def FnExactQcCodeUptoSaid : Prop := fnExactQcCodeUptoRow.holds Try.pinned (OpenSpec.upto fnExactQcCodeSpec)

/-- 'laws.FnExactTcCode', WHERE WHAT IT READS IS OF BULK AT MOST 1048576: true; the input reads as it did. -/
def fnExactTcCodeUptoRow : OpenClaim := { program := "ytadnejogdohfkaa", sum := "51809a1f8850486356ef2eefef669f5fc0cc4fd1325684f1ecd7872465e05335", func := "loop.example/g00790/laws.FnExactTcCode", spec := "fnExactTcCode", apart := false, narrowed := true }
def FnExactTcCodeUptoSaid : Prop := fnExactTcCodeUptoRow.holds Try.pinned (OpenSpec.upto fnExactTcCodeSpec)

/-- 'laws.FnExactSignLeave', WHERE WHAT IT READS IS OF BULK AT MOST 1048576: true; the input reads as it did. -/
def fnExactSignLeaveUptoRow : OpenClaim := { program := "ytadnejogdohfkaa", sum := "51809a1f8850486356ef2eefef669f5fc0cc4fd1325684f1ecd7872465e05335", func := "loop.example/g00790/laws.FnExactSignLeave", spec := "fnExactSignLeave", apart := false, narrowed := true }
def FnExactSignLeaveUptoSaid : Prop := fnExactSignLeaveUptoRow.holds Try.pinned (OpenSpec.upto fnExactSignLeaveSpec)

/-- 'laws.FnExactSignVote', WHERE WHAT IT READS IS OF BULK AT MOST 1048576: true; the input reads as it did. -/
def fnExactSignVoteUptoRow : OpenClaim := { program := "ytadnejogdohfkaa", sum := "51809a1f8850486356ef2eefef669f5fc0cc4fd1325684f1ecd7872465e05335", func := "loop.example/g00790/laws.FnExactSignVote", spec := "fnExactSignVote", apart := false, narrowed := true }
def FnExactSignVoteUptoSaid : Prop := fnExactSignVoteUptoRow.holds Try.pinned (OpenSpec.upto fnExactSignVoteSpec)

/-- 'laws.FnExactLeast', WHERE WHAT IT READS IS OF BULK AT MOST 1048576: true; the input reads as it did. -/
def fnExactLeastUptoRow : OpenClaim := { program := "ytadnejogdohfkaa", sum := "51809a1f8850486356ef2eefef669f5fc0cc4fd1325684f1ecd7872465e05335", func := "loop.example/g00790/laws.FnExactLeast", spec := "fnExactLeast", recurses := true, apart := false, narrowed := true }
def FnExactLeastUptoSaid : Prop := fnExactLeastUptoRow.holds Try.pinned (OpenSpec.upto fnExactLeastSpec)

/-- 'laws.FnExactBuildQc', WHERE WHAT IT READS IS OF BULK AT MOST 1048576: true; the input reads as it did. -/
def fnExactBuildQcUptoRow : OpenClaim := { program := "ytadnejogdohfkaa", sum := "51809a1f8850486356ef2eefef669f5fc0cc4fd1325684f1ecd7872465e05335", func := "loop.example/g00790/laws.FnExactBuildQc", spec := "fnExactBuildQc", apart := false, narrowed := true }
def FnExactBuildQcUptoSaid : Prop := fnExactBuildQcUptoRow.holds Try.pinned (OpenSpec.upto fnExactBuildQcSpec)

/-- 'laws.FnExactBuildTc', WHERE WHAT IT READS IS OF BULK AT MOST 1048576: true; the input reads as it did. -/
def fnExactBuildTcUptoRow : OpenClaim := { program := "ytadnejogdohfkaa", sum := "51809a1f8850486356ef2eefef669f5fc0cc4fd1325684f1ecd7872465e05335", func := "loop.example/g00790/laws.FnExactBuildTc", spec := "fnExactBuildTc", apart := false, narrowed := true }
def FnExactBuildTcUptoSaid : Prop := fnExactBuildTcUptoRow.holds Try.pinned (OpenSpec.upto fnExactBuildTcSpec)

/-- 'laws.FnExactTally', WHERE WHAT IT READS IS OF BULK AT MOST 1048576: true; the input reads as it did. -/
def fnExactTallyUptoRow : OpenClaim := { program := "ytadnejogdohfkaa", sum := "51809a1f8850486356ef2eefef669f5fc0cc4fd1325684f1ecd7872465e05335", func := "loop.example/g00790/laws.FnExactTally", spec := "fnExactTally", unfollowed := true, recurses := true, apart := false, narrowed := true }
def FnExactTallyUptoSaid : Prop := fnExactTallyUptoRow.holds Try.pinned (OpenSpec.upto fnExactTallySpec)

end Rows
end Go.Proofs.Ytadnejogdohfkaa
