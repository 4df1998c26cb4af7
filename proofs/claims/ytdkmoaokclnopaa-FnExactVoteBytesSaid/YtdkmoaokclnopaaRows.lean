/-
  No cell of these rows narrows 'for every input' (looked for: loops, veiled, ifaces, maps, wideKeys, modest, calm, conditions, laid).
  DERIVED. THE GIVEN ROWS OF THIS SEAT. 12 by the template 'for every input the law returns true; each argument reads behind the call as it read before'; 0 by the template 'total and deterministic' (their statements: YtdkmoaokclnopaaTotals.lean).
  GIVEN WITH THE SEED: the statements are not yours to turn. If you find one false, say at which input.
  Laid BY PROGRAM, IN A SANDBOX (cutbox-rows.mjs): the forced cells as the released guide's own fill.sh prints them over the translation a6409b7beb189746… (all of the seat's roots in one cut). By AI agents, Wed Nov 11 2026. No macro, syntax, notation, axiom, sorry.
-/
import Derived.Test.YtdkmoaokclnopaaChecked
import GoSem.Claim
import GoSem.ClaimJoined
import GoSem.ClaimMapViews
import Derived.JoinedTies
import Derived.KernelRfl
namespace Go.Proofs.Ytdkmoaokclnopaa
/- THE CELL 'sum', in the pinned program and in every row, IS THE sha256 OF THE DUMP (.gsa) THAT YtdkmoaokclnopaaProg.lean LOADS. Nothing in Lean hashes anything: it is a label: what it is worth is what the hold of that sum in a sandbox is worth. -/
noncomputable def Try.pinned : Pinned := { name := "ytdkmoaokclnopaa", sum := "a6409b7beb189746f29564fa25eec8f8efb368501a1983b41dcdb3302cf30459", checked := Try.checked }
namespace Rows
def none {H : Type} : Left H := { results := [], args := [] }

/-- 'laws.FnExactCeName': WHATEVER THE INPUT: true; the input reads as it did. -/
def fnExactCeNameSpec : ChangeSpec := { name := "fnExactCeName", fn := fun _ => fun
  | [d] => { results := [.lit (.bool true)], args := [d] }
  | _ => none }
def fnExactCeNameRow : OpenClaim := { program := "ytdkmoaokclnopaa", sum := "a6409b7beb189746f29564fa25eec8f8efb368501a1983b41dcdb3302cf30459", func := "loop.example/g00790/laws.FnExactCeName", spec := "fnExactCeName", apart := false }
def FnExactCeNameSaid : Prop := fnExactCeNameRow.holds Try.pinned (OpenSpec.ofChange fnExactCeNameSpec)

/-- ITS FALSE NEIGHBOUR: 'it returns false'. Refute it at one input. -/
def fnExactCeNameWrong : ChangeSpec := { name := "fnExactCeName", fn := fun _ => fun
  | [d] => { results := [.lit (.bool false)], args := [d] }
  | _ => none }
def FnExactCeNameWrongFalsely : Prop := fnExactCeNameRow.holds Try.pinned (OpenSpec.ofChange fnExactCeNameWrong)

/-- 'laws.FnExactVdName': WHATEVER THE INPUT: true; the input reads as it did. -/
def fnExactVdNameSpec : ChangeSpec := { name := "fnExactVdName", fn := fun _ => fun
  | [d] => { results := [.lit (.bool true)], args := [d] }
  | _ => none }
def fnExactVdNameRow : OpenClaim := { program := "ytdkmoaokclnopaa", sum := "a6409b7beb189746f29564fa25eec8f8efb368501a1983b41dcdb3302cf30459", func := "loop.example/g00790/laws.FnExactVdName", spec := "fnExactVdName", apart := false }
def FnExactVdNameSaid : Prop := fnExactVdNameRow.holds Try.pinned (OpenSpec.ofChange fnExactVdNameSpec)

/-- ITS FALSE NEIGHBOUR: 'it returns false'. Refute it at one input. -/
def fnExactVdNameWrong : ChangeSpec := { name := "fnExactVdName", fn := fun _ => fun
  | [d] => { results := [.lit (.bool false)], args := [d] }
  | _ => none }
def FnExactVdNameWrongFalsely : Prop := fnExactVdNameRow.holds Try.pinned (OpenSpec.ofChange fnExactVdNameWrong)

/-- 'laws.FnExactMostHeld': WHATEVER THE INPUT: true; the input reads as it did. -/
def fnExactMostHeldSpec : ChangeSpec := { name := "fnExactMostHeld", fn := fun _ => fun
  | [d] => { results := [.lit (.bool true)], args := [d] }
  | _ => none }
def fnExactMostHeldRow : OpenClaim := { program := "ytdkmoaokclnopaa", sum := "a6409b7beb189746f29564fa25eec8f8efb368501a1983b41dcdb3302cf30459", func := "loop.example/g00790/laws.FnExactMostHeld", spec := "fnExactMostHeld", apart := false }
def FnExactMostHeldSaid : Prop := fnExactMostHeldRow.holds Try.pinned (OpenSpec.ofChange fnExactMostHeldSpec)

/-- ITS FALSE NEIGHBOUR: 'it returns false'. Refute it at one input. -/
def fnExactMostHeldWrong : ChangeSpec := { name := "fnExactMostHeld", fn := fun _ => fun
  | [d] => { results := [.lit (.bool false)], args := [d] }
  | _ => none }
def FnExactMostHeldWrongFalsely : Prop := fnExactMostHeldRow.holds Try.pinned (OpenSpec.ofChange fnExactMostHeldWrong)

/-- 'laws.FnExactShort': WHATEVER THE INPUT: true; the input reads as it did. -/
def fnExactShortSpec : ChangeSpec := { name := "fnExactShort", fn := fun _ => fun
  | [d] => { results := [.lit (.bool true)], args := [d] }
  | _ => none }
def fnExactShortRow : OpenClaim := { program := "ytdkmoaokclnopaa", sum := "a6409b7beb189746f29564fa25eec8f8efb368501a1983b41dcdb3302cf30459", func := "loop.example/g00790/laws.FnExactShort", spec := "fnExactShort", apart := false }
def FnExactShortSaid : Prop := fnExactShortRow.holds Try.pinned (OpenSpec.ofChange fnExactShortSpec)

/-- ITS FALSE NEIGHBOUR: 'it returns false'. Refute it at one input. -/
def fnExactShortWrong : ChangeSpec := { name := "fnExactShort", fn := fun _ => fun
  | [d] => { results := [.lit (.bool false)], args := [d] }
  | _ => none }
def FnExactShortWrongFalsely : Prop := fnExactShortRow.holds Try.pinned (OpenSpec.ofChange fnExactShortWrong)

/-- 'laws.FnExactHeld': WHATEVER THE INPUT: true; the input reads as it did. -/
def fnExactHeldSpec : ChangeSpec := { name := "fnExactHeld", fn := fun _ => fun
  | [d] => { results := [.lit (.bool true)], args := [d] }
  | _ => none }
def fnExactHeldRow : OpenClaim := { program := "ytdkmoaokclnopaa", sum := "a6409b7beb189746f29564fa25eec8f8efb368501a1983b41dcdb3302cf30459", func := "loop.example/g00790/laws.FnExactHeld", spec := "fnExactHeld", apart := false }
def FnExactHeldSaid : Prop := fnExactHeldRow.holds Try.pinned (OpenSpec.ofChange fnExactHeldSpec)

/-- ITS FALSE NEIGHBOUR: 'it returns false'. Refute it at one input. -/
def fnExactHeldWrong : ChangeSpec := { name := "fnExactHeld", fn := fun _ => fun
  | [d] => { results := [.lit (.bool false)], args := [d] }
  | _ => none }
def FnExactHeldWrongFalsely : Prop := fnExactHeldRow.holds Try.pinned (OpenSpec.ofChange fnExactHeldWrong)

/-- 'laws.FnExactLeaveBytes': WHATEVER THE INPUT: true; the input reads as it did. -/
def fnExactLeaveBytesSpec : ChangeSpec := { name := "fnExactLeaveBytes", fn := fun _ => fun
  | [d1, d2] => { results := [.lit (.bool true)], args := [d1, d2] }
  | _ => none }
def fnExactLeaveBytesRow : OpenClaim := { program := "ytdkmoaokclnopaa", sum := "a6409b7beb189746f29564fa25eec8f8efb368501a1983b41dcdb3302cf30459", func := "loop.example/g00790/laws.FnExactLeaveBytes", spec := "fnExactLeaveBytes", apart := false }
def FnExactLeaveBytesSaid : Prop := fnExactLeaveBytesRow.holds Try.pinned (OpenSpec.ofChange fnExactLeaveBytesSpec)

/-- ITS FALSE NEIGHBOUR: 'it returns false'. Refute it at one input. -/
def fnExactLeaveBytesWrong : ChangeSpec := { name := "fnExactLeaveBytes", fn := fun _ => fun
  | [d1, d2] => { results := [.lit (.bool false)], args := [d1, d2] }
  | _ => none }
def FnExactLeaveBytesWrongFalsely : Prop := fnExactLeaveBytesRow.holds Try.pinned (OpenSpec.ofChange fnExactLeaveBytesWrong)

/-- 'laws.FnExactVoteBytes': WHATEVER THE INPUT: true; the input reads as it did. -/
def fnExactVoteBytesSpec : ChangeSpec := { name := "fnExactVoteBytes", fn := fun _ => fun
  | [d1, d2, d3] => { results := [.lit (.bool true)], args := [d1, d2, d3] }
  | _ => none }
def fnExactVoteBytesRow : OpenClaim := { program := "ytdkmoaokclnopaa", sum := "a6409b7beb189746f29564fa25eec8f8efb368501a1983b41dcdb3302cf30459", func := "loop.example/g00790/laws.FnExactVoteBytes", spec := "fnExactVoteBytes", apart := false }
def FnExactVoteBytesSaid : Prop := fnExactVoteBytesRow.holds Try.pinned (OpenSpec.ofChange fnExactVoteBytesSpec)

/-- ITS FALSE NEIGHBOUR: 'it returns false'. Refute it at one input. -/
def fnExactVoteBytesWrong : ChangeSpec := { name := "fnExactVoteBytes", fn := fun _ => fun
  | [d1, d2, d3] => { results := [.lit (.bool false)], args := [d1, d2, d3] }
  | _ => none }
def FnExactVoteBytesWrongFalsely : Prop := fnExactVoteBytesRow.holds Try.pinned (OpenSpec.ofChange fnExactVoteBytesWrong)

/-- 'laws.FnQuorum': WHATEVER THE INPUT: true; the input reads as it did. -/
def fnQuorumSpec : ChangeSpec := { name := "fnQuorum", fn := fun _ => fun
  | [d] => { results := [.lit (.bool true)], args := [d] }
  | _ => none }
def fnQuorumRow : OpenClaim := { program := "ytdkmoaokclnopaa", sum := "a6409b7beb189746f29564fa25eec8f8efb368501a1983b41dcdb3302cf30459", func := "loop.example/g00790/laws.FnQuorum", spec := "fnQuorum", unfollowed := true, recurses := true, apart := false }
def FnQuorumSaid : Prop := fnQuorumRow.holds Try.pinned (OpenSpec.ofChange fnQuorumSpec)

/-- ITS FALSE NEIGHBOUR: 'it returns false'. Refute it at one input. -/
def fnQuorumWrong : ChangeSpec := { name := "fnQuorum", fn := fun _ => fun
  | [d] => { results := [.lit (.bool false)], args := [d] }
  | _ => none }
def FnQuorumWrongFalsely : Prop := fnQuorumRow.holds Try.pinned (OpenSpec.ofChange fnQuorumWrong)

/-- 'laws.FnExactTableOk': WHATEVER THE INPUT: true; the input reads as it did. -/
def fnExactTableOkSpec : ChangeSpec := { name := "fnExactTableOk", fn := fun _ => fun
  | [d] => { results := [.lit (.bool true)], args := [d] }
  | _ => none }
def fnExactTableOkRow : OpenClaim := { program := "ytdkmoaokclnopaa", sum := "a6409b7beb189746f29564fa25eec8f8efb368501a1983b41dcdb3302cf30459", func := "loop.example/g00790/laws.FnExactTableOk", spec := "fnExactTableOk", apart := false }
def FnExactTableOkSaid : Prop := fnExactTableOkRow.holds Try.pinned (OpenSpec.ofChange fnExactTableOkSpec)

/-- ITS FALSE NEIGHBOUR: 'it returns false'. Refute it at one input. -/
def fnExactTableOkWrong : ChangeSpec := { name := "fnExactTableOk", fn := fun _ => fun
  | [d] => { results := [.lit (.bool false)], args := [d] }
  | _ => none }
def FnExactTableOkWrongFalsely : Prop := fnExactTableOkRow.holds Try.pinned (OpenSpec.ofChange fnExactTableOkWrong)

/-- 'laws.FnExactTableSame': WHATEVER THE INPUT: true; the input reads as it did. -/
def fnExactTableSameSpec : ChangeSpec := { name := "fnExactTableSame", fn := fun _ => fun
  | [d1, d2] => { results := [.lit (.bool true)], args := [d1, d2] }
  | _ => none }
def fnExactTableSameRow : OpenClaim := { program := "ytdkmoaokclnopaa", sum := "a6409b7beb189746f29564fa25eec8f8efb368501a1983b41dcdb3302cf30459", func := "loop.example/g00790/laws.FnExactTableSame", spec := "fnExactTableSame", apart := false }
def FnExactTableSameSaid : Prop := fnExactTableSameRow.holds Try.pinned (OpenSpec.ofChange fnExactTableSameSpec)

/-- ITS FALSE NEIGHBOUR: 'it returns false'. Refute it at one input. -/
def fnExactTableSameWrong : ChangeSpec := { name := "fnExactTableSame", fn := fun _ => fun
  | [d1, d2] => { results := [.lit (.bool false)], args := [d1, d2] }
  | _ => none }
def FnExactTableSameWrongFalsely : Prop := fnExactTableSameRow.holds Try.pinned (OpenSpec.ofChange fnExactTableSameWrong)

/-- 'laws.FnExactTotalOf': WHATEVER THE INPUT: true; the input reads as it did. -/
def fnExactTotalOfSpec : ChangeSpec := { name := "fnExactTotalOf", fn := fun _ => fun
  | [d] => { results := [.lit (.bool true)], args := [d] }
  | _ => none }
def fnExactTotalOfRow : OpenClaim := { program := "ytdkmoaokclnopaa", sum := "a6409b7beb189746f29564fa25eec8f8efb368501a1983b41dcdb3302cf30459", func := "loop.example/g00790/laws.FnExactTotalOf", spec := "fnExactTotalOf", apart := false }
def FnExactTotalOfSaid : Prop := fnExactTotalOfRow.holds Try.pinned (OpenSpec.ofChange fnExactTotalOfSpec)

/-- ITS FALSE NEIGHBOUR: 'it returns false'. Refute it at one input. -/
def fnExactTotalOfWrong : ChangeSpec := { name := "fnExactTotalOf", fn := fun _ => fun
  | [d] => { results := [.lit (.bool false)], args := [d] }
  | _ => none }
def FnExactTotalOfWrongFalsely : Prop := fnExactTotalOfRow.holds Try.pinned (OpenSpec.ofChange fnExactTotalOfWrong)

/-- 'laws.FnExactWeightOf': WHATEVER THE INPUT: true; the input reads as it did. -/
def fnExactWeightOfSpec : ChangeSpec := { name := "fnExactWeightOf", fn := fun _ => fun
  | [d1, d2] => { results := [.lit (.bool true)], args := [d1, d2] }
  | _ => none }
def fnExactWeightOfRow : OpenClaim := { program := "ytdkmoaokclnopaa", sum := "a6409b7beb189746f29564fa25eec8f8efb368501a1983b41dcdb3302cf30459", func := "loop.example/g00790/laws.FnExactWeightOf", spec := "fnExactWeightOf", apart := false }
def FnExactWeightOfSaid : Prop := fnExactWeightOfRow.holds Try.pinned (OpenSpec.ofChange fnExactWeightOfSpec)

/-- ITS FALSE NEIGHBOUR: 'it returns false'. Refute it at one input. -/
def fnExactWeightOfWrong : ChangeSpec := { name := "fnExactWeightOf", fn := fun _ => fun
  | [d1, d2] => { results := [.lit (.bool false)], args := [d1, d2] }
  | _ => none }
def FnExactWeightOfWrongFalsely : Prop := fnExactWeightOfRow.holds Try.pinned (OpenSpec.ofChange fnExactWeightOfWrong)

/- THE SECOND FORM. 'bulk': how many values and letters a reading holds, each counted each time it is reached (what is shared counts as often as it is met; a slice's spare places count too). A statement '..UptoSaid' is the law's where the arguments, and the package variables that the reading takes, are together of bulk at most 1048576: NARROWER than '..Said'. Prove '..Said' where nothing that the law and all that it calls make is longer than what came in: it says more and counts as full. Else prove '..UptoSaid'. A law counts once. -/
mutual
def uptoBulk {H : Type} : DataW H → Nat
  | .lit (.string bytes) => bytes.length + 1
  | .lit _ => 1
  | .nil => 1
  | .ptr d => uptoBulk d + 1
  | .slice elems spare => uptoBulkAll elems + uptoBulkAll spare + 1
  | .agg parts => uptoBulkAll parts + 1
  | .iface _ d => uptoBulk d + 1
  | .map entries => uptoBulkEntries entries + 1
  | .held _ => 1
def uptoBulkAll {H : Type} : List (DataW H) → Nat
  | [] => 0
  | d :: r => uptoBulk d + uptoBulkAll r
def uptoBulkEntries {H : Type} : List (Lit × DataW H) → Nat
  | [] => 0
  | x :: r => uptoBulkEntry x + uptoBulkEntries r
def uptoBulkEntry {H : Type} : Lit × DataW H → Nat
  | (.string bytes, d) => bytes.length + uptoBulk d + 1
  | (_, d) => uptoBulk d + 1
 end
def uptoSmall : (H : Type) → List (DataW H) → Bool := fun _ ds => decide (uptoBulkAll ds ≤ 1048576)
def OpenSpec.upto (s : _root_.Go.ChangeSpec) : _root_.Go.OpenSpec := { _root_.Go.OpenSpec.ofChange s with cond := some uptoSmall }

/-- 'laws.FnExactCeName', WHERE WHAT IT READS IS OF BULK AT MOST 1048576: true; the input reads as it did. -/
def fnExactCeNameUptoRow : OpenClaim := { program := "ytdkmoaokclnopaa", sum := "a6409b7beb189746f29564fa25eec8f8efb368501a1983b41dcdb3302cf30459", func := "loop.example/g00790/laws.FnExactCeName", spec := "fnExactCeName", apart := false, narrowed := true }
def FnExactCeNameUptoSaid : Prop := fnExactCeNameUptoRow.holds Try.pinned (OpenSpec.upto fnExactCeNameSpec)

/-- 'laws.FnExactVdName', WHERE WHAT IT READS IS OF BULK AT MOST 1048576: true; the input reads as it did. -/
def fnExactVdNameUptoRow : OpenClaim := { program := "ytdkmoaokclnopaa", sum := "a6409b7beb189746f29564fa25eec8f8efb368501a1983b41dcdb3302cf30459", func := "loop.example/g00790/laws.FnExactVdName", spec := "fnExactVdName", apart := false, narrowed := true }
def FnExactVdNameUptoSaid : Prop := fnExactVdNameUptoRow.holds Try.pinned (OpenSpec.upto fnExactVdNameSpec)

/-- 'laws.FnExactMostHeld', WHERE WHAT IT READS IS OF BULK AT MOST 1048576: true; the input reads as it did. -/
def fnExactMostHeldUptoRow : OpenClaim := { program := "ytdkmoaokclnopaa", sum := "a6409b7beb189746f29564fa25eec8f8efb368501a1983b41dcdb3302cf30459", func := "loop.example/g00790/laws.FnExactMostHeld", spec := "fnExactMostHeld", apart := false, narrowed := true }
def FnExactMostHeldUptoSaid : Prop := fnExactMostHeldUptoRow.holds Try.pinned (OpenSpec.upto fnExactMostHeldSpec)

/-- 'laws.FnExactShort', WHERE WHAT IT READS IS OF BULK AT MOST 1048576: true; the input reads as it did. -/
def fnExactShortUptoRow : OpenClaim := { program := "ytdkmoaokclnopaa", sum := "a6409b7beb189746f29564fa25eec8f8efb368501a1983b41dcdb3302cf30459", func := "loop.example/g00790/laws.FnExactShort", spec := "fnExactShort", apart := false, narrowed := true }
def FnExactShortUptoSaid : Prop := fnExactShortUptoRow.holds Try.pinned (OpenSpec.upto fnExactShortSpec)

/-- 'laws.FnExactHeld', WHERE WHAT IT READS IS OF BULK AT MOST 1048576: true; the input reads as it did. -/
def fnExactHeldUptoRow : OpenClaim := { program := "ytdkmoaokclnopaa", sum := "a6409b7beb189746f29564fa25eec8f8efb368501a1983b41dcdb3302cf30459", func := "loop.example/g00790/laws.FnExactHeld", spec := "fnExactHeld", apart := false, narrowed := true }
def FnExactHeldUptoSaid : Prop := fnExactHeldUptoRow.holds Try.pinned (OpenSpec.upto fnExactHeldSpec)

/-- 'laws.FnExactLeaveBytes', WHERE WHAT IT READS IS OF BULK AT MOST 1048576: true; the input reads as it did. -/
def fnExactLeaveBytesUptoRow : OpenClaim := { program := "ytdkmoaokclnopaa", sum := "a6409b7beb189746f29564fa25eec8f8efb368501a1983b41dcdb3302cf30459", func := "loop.example/g00790/laws.FnExactLeaveBytes", spec := "fnExactLeaveBytes", apart := false, narrowed := true }
def FnExactLeaveBytesUptoSaid : Prop := fnExactLeaveBytesUptoRow.holds Try.pinned (OpenSpec.upto fnExactLeaveBytesSpec)

/-- 'laws.FnExactVoteBytes', WHERE WHAT IT READS IS OF BULK AT MOST 1048576: true; the input reads as it did. -/
def fnExactVoteBytesUptoRow : OpenClaim := { program := "ytdkmoaokclnopaa", sum := "a6409b7beb189746f29564fa25eec8f8efb368501a1983b41dcdb3302cf30459", func := "loop.example/g00790/laws.FnExactVoteBytes", spec := "fnExactVoteBytes", apart := false, narrowed := true }
def FnExactVoteBytesUptoSaid : Prop := fnExactVoteBytesUptoRow.holds Try.pinned (OpenSpec.upto fnExactVoteBytesSpec)

/-- 'laws.FnQuorum', WHERE WHAT IT READS IS OF BULK AT MOST 1048576: true; the input reads as it did. -/
def fnQuorumUptoRow : OpenClaim := { program := "ytdkmoaokclnopaa", sum := "a6409b7beb189746f29564fa25eec8f8efb368501a1983b41dcdb3302cf30459", func := "loop.example/g00790/laws.FnQuorum", spec := "fnQuorum", unfollowed := true, recurses := true, apart := false, narrowed := true }
def FnQuorumUptoSaid : Prop := fnQuorumUptoRow.holds Try.pinned (OpenSpec.upto fnQuorumSpec)

/-- 'laws.FnExactTableOk', WHERE WHAT IT READS IS OF BULK AT MOST 1048576: true; the input reads as it did. -/
def fnExactTableOkUptoRow : OpenClaim := { program := "ytdkmoaokclnopaa", sum := "a6409b7beb189746f29564fa25eec8f8efb368501a1983b41dcdb3302cf30459", func := "loop.example/g00790/laws.FnExactTableOk", spec := "fnExactTableOk", apart := false, narrowed := true }
def FnExactTableOkUptoSaid : Prop := fnExactTableOkUptoRow.holds Try.pinned (OpenSpec.upto fnExactTableOkSpec)

/-- 'laws.FnExactTableSame', WHERE WHAT IT READS IS OF BULK AT MOST 1048576: true; the input reads as it did. -/
def fnExactTableSameUptoRow : OpenClaim := { program := "ytdkmoaokclnopaa", sum := "a6409b7beb189746f29564fa25eec8f8efb368501a1983b41dcdb3302cf30459", func := "loop.example/g00790/laws.FnExactTableSame", spec := "fnExactTableSame", apart := false, narrowed := true }
def FnExactTableSameUptoSaid : Prop := fnExactTableSameUptoRow.holds Try.pinned (OpenSpec.upto fnExactTableSameSpec)

/-- 'laws.FnExactTotalOf', WHERE WHAT IT READS IS OF BULK AT MOST 1048576: true; the input reads as it did. -/
def fnExactTotalOfUptoRow : OpenClaim := { program := "ytdkmoaokclnopaa", sum := "a6409b7beb189746f29564fa25eec8f8efb368501a1983b41dcdb3302cf30459", func := "loop.example/g00790/laws.FnExactTotalOf", spec := "fnExactTotalOf", apart := false, narrowed := true }
def FnExactTotalOfUptoSaid : Prop := fnExactTotalOfUptoRow.holds Try.pinned (OpenSpec.upto fnExactTotalOfSpec)

/-- 'laws.FnExactWeightOf', WHERE WHAT IT READS IS OF BULK AT MOST 1048576: true; the input reads as it did. -/
def fnExactWeightOfUptoRow : OpenClaim := { program := "ytdkmoaokclnopaa", sum := "a6409b7beb189746f29564fa25eec8f8efb368501a1983b41dcdb3302cf30459", func := "loop.example/g00790/laws.FnExactWeightOf", spec := "fnExactWeightOf", apart := false, narrowed := true }
def FnExactWeightOfUptoSaid : Prop := fnExactWeightOfUptoRow.holds Try.pinned (OpenSpec.upto fnExactWeightOfSpec)

end Rows
end Go.Proofs.Ytdkmoaokclnopaa
