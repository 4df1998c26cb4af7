/-
  No cell of these rows narrows 'for every input' (looked for: loops, veiled, ifaces, maps, wideKeys, modest, calm, conditions, laid).
  DERIVED. THE GIVEN ROWS OF THIS SEAT. 8 by the template 'for every input the law returns true; each argument reads behind the call as it read before'; 0 by the template 'total and deterministic' (their statements: YtgmloaobmddmaaaTotals.lean).
  GIVEN WITH THE SEED: the statements are not yours to turn. If you find one false, say at which input.
  Laid BY PROGRAM, IN A SANDBOX (cutbox-rows.mjs): the forced cells as the released guide's own fill.sh prints them over the translation 5685abc213de1261… (all of the seat's roots in one cut). By AI agents, Wed Nov 11 2026. No macro, syntax, notation, axiom, sorry.
-/
import Derived.Test.YtgmloaobmddmaaaChecked
import GoSem.Claim
import GoSem.ClaimJoined
import GoSem.ClaimMapViews
import Derived.JoinedTies
import Derived.KernelRfl
namespace Go.Proofs.Ytgmloaobmddmaaa
/- THE CELL 'sum', in the pinned program and in every row, IS THE sha256 OF THE DUMP (.gsa) THAT YtgmloaobmddmaaaProg.lean LOADS. Nothing in Lean hashes anything: it is a label: what it is worth is what the hold of that sum in a sandbox is worth. -/
noncomputable def Try.pinned : Pinned := { name := "ytgmloaobmddmaaa", sum := "5685abc213de1261a53c63f3e87cb373a280caa16160d63f8e3de488e7bda4c8", checked := Try.checked }
namespace Rows
def none {H : Type} : Left H := { results := [], args := [] }

/-- 'laws.FnExactEntryGood': WHATEVER THE INPUT: true; the input reads as it did. -/
def fnExactEntryGoodSpec : ChangeSpec := { name := "fnExactEntryGood", fn := fun _ => fun
  | [d1, d2, d3] => { results := [.lit (.bool true)], args := [d1, d2, d3] }
  | _ => none }
def fnExactEntryGoodRow : OpenClaim := { program := "ytgmloaobmddmaaa", sum := "5685abc213de1261a53c63f3e87cb373a280caa16160d63f8e3de488e7bda4c8", func := "loop.example/g00790/laws.FnExactEntryGood", spec := "fnExactEntryGood", apart := false }
def FnExactEntryGoodSaid : Prop := fnExactEntryGoodRow.holds Try.pinned (OpenSpec.ofChange fnExactEntryGoodSpec)

/-- ITS FALSE NEIGHBOUR: 'it returns false'. Refute it at one input. -/
def fnExactEntryGoodWrong : ChangeSpec := { name := "fnExactEntryGood", fn := fun _ => fun
  | [d1, d2, d3] => { results := [.lit (.bool false)], args := [d1, d2, d3] }
  | _ => none }
def FnExactEntryGoodWrongFalsely : Prop := fnExactEntryGoodRow.holds Try.pinned (OpenSpec.ofChange fnExactEntryGoodWrong)

/-- 'laws.FnExactFirstHead': WHATEVER THE INPUT: true; the input reads as it did. -/
def fnExactFirstHeadSpec : ChangeSpec := { name := "fnExactFirstHead", fn := fun _ => fun
  | [d1, d2, d3, d4] => { results := [.lit (.bool true)], args := [d1, d2, d3, d4] }
  | _ => none }
def fnExactFirstHeadRow : OpenClaim := { program := "ytgmloaobmddmaaa", sum := "5685abc213de1261a53c63f3e87cb373a280caa16160d63f8e3de488e7bda4c8", func := "loop.example/g00790/laws.FnExactFirstHead", spec := "fnExactFirstHead", apart := false }
def FnExactFirstHeadSaid : Prop := fnExactFirstHeadRow.holds Try.pinned (OpenSpec.ofChange fnExactFirstHeadSpec)

/-- ITS FALSE NEIGHBOUR: 'it returns false'. Refute it at one input. -/
def fnExactFirstHeadWrong : ChangeSpec := { name := "fnExactFirstHead", fn := fun _ => fun
  | [d1, d2, d3, d4] => { results := [.lit (.bool false)], args := [d1, d2, d3, d4] }
  | _ => none }
def FnExactFirstHeadWrongFalsely : Prop := fnExactFirstHeadRow.holds Try.pinned (OpenSpec.ofChange fnExactFirstHeadWrong)

/-- 'laws.FnExactSignLeave': WHATEVER THE INPUT: true; the input reads as it did. -/
def fnExactSignLeaveSpec : ChangeSpec := { name := "fnExactSignLeave", fn := fun _ => fun
  | [d1, d2, d3, d4] => { results := [.lit (.bool true)], args := [d1, d2, d3, d4] }
  | _ => none }
def fnExactSignLeaveRow : OpenClaim := { program := "ytgmloaobmddmaaa", sum := "5685abc213de1261a53c63f3e87cb373a280caa16160d63f8e3de488e7bda4c8", func := "loop.example/g00790/laws.FnExactSignLeave", spec := "fnExactSignLeave", apart := false }
def FnExactSignLeaveSaid : Prop := fnExactSignLeaveRow.holds Try.pinned (OpenSpec.ofChange fnExactSignLeaveSpec)

/-- ITS FALSE NEIGHBOUR: 'it returns false'. Refute it at one input. -/
def fnExactSignLeaveWrong : ChangeSpec := { name := "fnExactSignLeave", fn := fun _ => fun
  | [d1, d2, d3, d4] => { results := [.lit (.bool false)], args := [d1, d2, d3, d4] }
  | _ => none }
def FnExactSignLeaveWrongFalsely : Prop := fnExactSignLeaveRow.holds Try.pinned (OpenSpec.ofChange fnExactSignLeaveWrong)

/-- 'laws.FnExactLightSame': WHATEVER THE INPUT: true; the input reads as it did. -/
def fnExactLightSameSpec : ChangeSpec := { name := "fnExactLightSame", fn := fun _ => fun
  | [d1, d2] => { results := [.lit (.bool true)], args := [d1, d2] }
  | _ => none }
def fnExactLightSameRow : OpenClaim := { program := "ytgmloaobmddmaaa", sum := "5685abc213de1261a53c63f3e87cb373a280caa16160d63f8e3de488e7bda4c8", func := "loop.example/g00790/laws.FnExactLightSame", spec := "fnExactLightSame", apart := false }
def FnExactLightSameSaid : Prop := fnExactLightSameRow.holds Try.pinned (OpenSpec.ofChange fnExactLightSameSpec)

/-- ITS FALSE NEIGHBOUR: 'it returns false'. Refute it at one input. -/
def fnExactLightSameWrong : ChangeSpec := { name := "fnExactLightSame", fn := fun _ => fun
  | [d1, d2] => { results := [.lit (.bool false)], args := [d1, d2] }
  | _ => none }
def FnExactLightSameWrongFalsely : Prop := fnExactLightSameRow.holds Try.pinned (OpenSpec.ofChange fnExactLightSameWrong)

/-- 'laws.FnBlame': WHATEVER THE INPUT: true; the input reads as it did. -/
def fnBlameSpec : ChangeSpec := { name := "fnBlame", fn := fun _ => fun
  | [d] => { results := [.lit (.bool true)], args := [d] }
  | _ => none }
def fnBlameRow : OpenClaim := { program := "ytgmloaobmddmaaa", sum := "5685abc213de1261a53c63f3e87cb373a280caa16160d63f8e3de488e7bda4c8", func := "loop.example/g00790/laws.FnBlame", spec := "fnBlame", unfollowed := true, recurses := true, apart := false }
def FnBlameSaid : Prop := fnBlameRow.holds Try.pinned (OpenSpec.ofChange fnBlameSpec)

/-- ITS FALSE NEIGHBOUR: 'it returns false'. Refute it at one input. -/
def fnBlameWrong : ChangeSpec := { name := "fnBlame", fn := fun _ => fun
  | [d] => { results := [.lit (.bool false)], args := [d] }
  | _ => none }
def FnBlameWrongFalsely : Prop := fnBlameRow.holds Try.pinned (OpenSpec.ofChange fnBlameWrong)

/-- 'laws.FnExactVoteGood': WHATEVER THE INPUT: true; the input reads as it did. -/
def fnExactVoteGoodSpec : ChangeSpec := { name := "fnExactVoteGood", fn := fun _ => fun
  | [d1, d2] => { results := [.lit (.bool true)], args := [d1, d2] }
  | _ => none }
def fnExactVoteGoodRow : OpenClaim := { program := "ytgmloaobmddmaaa", sum := "5685abc213de1261a53c63f3e87cb373a280caa16160d63f8e3de488e7bda4c8", func := "loop.example/g00790/laws.FnExactVoteGood", spec := "fnExactVoteGood", apart := false }
def FnExactVoteGoodSaid : Prop := fnExactVoteGoodRow.holds Try.pinned (OpenSpec.ofChange fnExactVoteGoodSpec)

/-- ITS FALSE NEIGHBOUR: 'it returns false'. Refute it at one input. -/
def fnExactVoteGoodWrong : ChangeSpec := { name := "fnExactVoteGood", fn := fun _ => fun
  | [d1, d2] => { results := [.lit (.bool false)], args := [d1, d2] }
  | _ => none }
def FnExactVoteGoodWrongFalsely : Prop := fnExactVoteGoodRow.holds Try.pinned (OpenSpec.ofChange fnExactVoteGoodWrong)

/-- 'laws.FnExactSignVote': WHATEVER THE INPUT: true; the input reads as it did. -/
def fnExactSignVoteSpec : ChangeSpec := { name := "fnExactSignVote", fn := fun _ => fun
  | [d1, d2, d3, d4, d5] => { results := [.lit (.bool true)], args := [d1, d2, d3, d4, d5] }
  | _ => none }
def fnExactSignVoteRow : OpenClaim := { program := "ytgmloaobmddmaaa", sum := "5685abc213de1261a53c63f3e87cb373a280caa16160d63f8e3de488e7bda4c8", func := "loop.example/g00790/laws.FnExactSignVote", spec := "fnExactSignVote", apart := false }
def FnExactSignVoteSaid : Prop := fnExactSignVoteRow.holds Try.pinned (OpenSpec.ofChange fnExactSignVoteSpec)

/-- ITS FALSE NEIGHBOUR: 'it returns false'. Refute it at one input. -/
def fnExactSignVoteWrong : ChangeSpec := { name := "fnExactSignVote", fn := fun _ => fun
  | [d1, d2, d3, d4, d5] => { results := [.lit (.bool false)], args := [d1, d2, d3, d4, d5] }
  | _ => none }
def FnExactSignVoteWrongFalsely : Prop := fnExactSignVoteRow.holds Try.pinned (OpenSpec.ofChange fnExactSignVoteWrong)

/-- 'laws.FnBuild': WHATEVER THE INPUT: true; the input reads as it did. -/
def fnBuildSpec : ChangeSpec := { name := "fnBuild", fn := fun _ => fun
  | [d] => { results := [.lit (.bool true)], args := [d] }
  | _ => none }
def fnBuildRow : OpenClaim := { program := "ytgmloaobmddmaaa", sum := "5685abc213de1261a53c63f3e87cb373a280caa16160d63f8e3de488e7bda4c8", func := "loop.example/g00790/laws.FnBuild", spec := "fnBuild", apart := false }
def FnBuildSaid : Prop := fnBuildRow.holds Try.pinned (OpenSpec.ofChange fnBuildSpec)

/-- ITS FALSE NEIGHBOUR: 'it returns false'. Refute it at one input. -/
def fnBuildWrong : ChangeSpec := { name := "fnBuild", fn := fun _ => fun
  | [d] => { results := [.lit (.bool false)], args := [d] }
  | _ => none }
def FnBuildWrongFalsely : Prop := fnBuildRow.holds Try.pinned (OpenSpec.ofChange fnBuildWrong)

/- THE SECOND FORM. 'bulk': how many values and letters a reading holds, each counted each time it is reached (what is shared counts as often as it is met; a slice's spare places count too). A statement '..UptoSaid' is the law's where the arguments, and the package variables that the reading takes, are together of bulk at most 1048576: NARROWER than '..Said'. Prove '..Said' where nothing that the law and all that it calls make is longer than what came in: it says more and counts as full. Else prove '..UptoSaid'. A law counts once. -/
mutual
def uptoBulk {H : Type} : DataW H → Nat
  | .lit (.string bytes) => bytes.length + 1
  | .lit _ => 1
  | .nil => 1
  | .ptr d => uptoBulk d + 1
  | .slice elems spare => uptoBulkAll elems + uptoBulkAll spare + 1
  | .agg parts => uptoBulkAll parts + 1
  | .iface _ d => uptoBulk d + 1
  | .map entries => uptoBulkEntries entries + 1
  | .held _ => 1
def uptoBulkAll {H : Type} : List (DataW H) → Nat
  | [] => 0
  | d :: r => uptoBulk d + uptoBulkAll r
def uptoBulkEntries {H : Type} : List (Lit × DataW H) → Nat
  | [] => 0
  | x :: r => uptoBulkEntry x + uptoBulkEntries r
def uptoBulkEntry {H : Type} : Lit × DataW H → Nat
  | (.string bytes, d) => bytes.length + uptoBulk d + 1
  | (_, d) => uptoBulk d + 1
 end
def uptoSmall : (H : Type) → List (DataW H) → Bool := fun _ ds => decide (uptoBulkAll ds ≤ 1048576)
def OpenSpec.upto (s : _root_.Go.ChangeSpec) : _root_.Go.OpenSpec := { _root_.Go.OpenSpec.ofChange s with cond := some uptoSmall }

/-- 'laws.FnExactEntryGood', WHERE WHAT IT READS IS OF BULK AT MOST 1048576: true; the input reads as it did. -/
def fnExactEntryGoodUptoRow : OpenClaim := { program := "ytgmloaobmddmaaa", sum := "5685abc213de1261a53c63f3e87cb373a280caa16160d63f8e3de488e7bda4c8", func := "loop.example/g00790/laws.FnExactEntryGood", spec := "fnExactEntryGood", apart := false, narrowed := true }
def FnExactEntryGoodUptoSaid : Prop := fnExactEntryGoodUptoRow.holds Try.pinned (OpenSpec.upto fnExactEntryGoodSpec)

/-- 'laws.FnExactFirstHead', WHERE WHAT IT READS IS OF BULK AT MOST 1048576: true; the input reads as it did. -/
def fnExactFirstHeadUptoRow : OpenClaim := { program := "ytgmloaobmddmaaa", sum := "5685abc213de1261a53c63f3e87cb373a280caa16160d63f8e3de488e7bda4c8", func := "loop.example/g00790/laws.FnExactFirstHead", spec := "fnExactFirstHead", apart := false, narrowed := true }
def FnExactFirstHeadUptoSaid : Prop := fnExactFirstHeadUptoRow.holds Try.pinned (OpenSpec.upto fnExactFirstHeadSpec)

/-- 'laws.FnExactSignLeave', WHERE WHAT IT READS IS OF BULK AT MOST 1048576: true; the input reads as it did. -/
def fnExactSignLeaveUptoRow : OpenClaim := { program := "ytgmloaobmddmaaa", sum := "5685abc213de1261a53c63f3e87cb373a280caa16160d63f8e3de488e7bda4c8", func := "loop.example/g00790/laws.FnExactSignLeave", spec := "fnExactSignLeave", apart := false, narrowed := true }
def FnExactSignLeaveUptoSaid : Prop := fnExactSignLeaveUptoRow.holds Try.pinned (OpenSpec.upto fnExactSignLeaveSpec)

/-- 'laws.FnExactLightSame', WHERE WHAT IT READS IS OF BULK AT MOST 1048576: true; the input reads as it did. -/
def fnExactLightSameUptoRow : OpenClaim := { program := "ytgmloaobmddmaaa", sum := "5685abc213de1261a53c63f3e87cb373a280caa16160d63f8e3de488e7bda4c8", func := "loop.example/g00790/laws.FnExactLightSame", spec := "fnExactLightSame", apart := false, narrowed := true }
def FnExactLightSameUptoSaid : Prop := fnExactLightSameUptoRow.holds Try.pinned (OpenSpec.upto fnExactLightSameSpec)

/-- 'laws.FnBlame', WHERE WHAT IT READS IS OF BULK AT MOST 1048576: true; the input reads as it did. -/
def fnBlameUptoRow : OpenClaim := { program := "ytgmloaobmddmaaa", sum := "5685abc213de1261a53c63f3e87cb373a280caa16160d63f8e3de488e7bda4c8", func := "loop.example/g00790/laws.FnBlame", spec := "fnBlame", unfollowed := true, recurses := true, apart := false, narrowed := true }
def FnBlameUptoSaid : Prop := fnBlameUptoRow.holds Try.pinned (OpenSpec.upto fnBlameSpec)

/-- 'laws.FnExactVoteGood', WHERE WHAT IT READS IS OF BULK AT MOST 1048576: true; the input reads as it did. -/
def fnExactVoteGoodUptoRow : OpenClaim := { program := "ytgmloaobmddmaaa", sum := "5685abc213de1261a53c63f3e87cb373a280caa16160d63f8e3de488e7bda4c8", func := "loop.example/g00790/laws.FnExactVoteGood", spec := "fnExactVoteGood", apart := false, narrowed := true }
def FnExactVoteGoodUptoSaid : Prop := fnExactVoteGoodUptoRow.holds Try.pinned (OpenSpec.upto fnExactVoteGoodSpec)

/-- 'laws.FnExactSignVote', WHERE WHAT IT READS IS OF BULK AT MOST 1048576: true; the input reads as it did. -/
def fnExactSignVoteUptoRow : OpenClaim := { program := "ytgmloaobmddmaaa", sum := "5685abc213de1261a53c63f3e87cb373a280caa16160d63f8e3de488e7bda4c8", func := "loop.example/g00790/laws.FnExactSignVote", spec := "fnExactSignVote", apart := false, narrowed := true }
def FnExactSignVoteUptoSaid : Prop := fnExactSignVoteUptoRow.holds Try.pinned (OpenSpec.upto fnExactSignVoteSpec)

/-- 'laws.FnBuild', WHERE WHAT IT READS IS OF BULK AT MOST 1048576: true; the input reads as it did. -/
def fnBuildUptoRow : OpenClaim := { program := "ytgmloaobmddmaaa", sum := "5685abc213de1261a53c63f3e87cb373a280caa16160d63f8e3de488e7bda4c8", func := "loop.example/g00790/laws.FnBuild", spec := "fnBuild", apart := false, narrowed := true }
def FnBuildUptoSaid : Prop := fnBuildUptoRow.holds Try.pinned (OpenSpec.upto fnBuildSpec)

end Rows
end Go.Proofs.Ytgmloaobmddmaaa
