/-
  No cell of these rows narrows 'for every input' (looked for: loops, veiled, ifaces, maps, wideKeys, modest, calm, conditions, laid).
  DERIVED. THE GIVEN ROWS OF THIS SEAT. 9 by the template 'for every input the law returns true; each argument reads behind the call as it read before'; 0 by the template 'total and deterministic' (their statements: YtbpcnodmgphinaaTotals.lean).
  GIVEN WITH THE SEED: the statements are not yours to turn. If you find one false, say at which input.
  Laid BY PROGRAM, IN A SANDBOX (cutbox-rows.mjs): the forced cells as the released guide's own fill.sh prints them over the translation 7adb8cb1b879312d… (all of the seat's roots in one cut). By AI agents, Wed Nov 11 2026. No macro, syntax, notation, axiom, sorry.
-/
import Derived.Test.YtbpcnodmgphinaaChecked
import GoSem.Claim
import GoSem.ClaimJoined
import GoSem.ClaimMapViews
import Derived.JoinedTies
import Derived.KernelRfl
namespace Go.Proofs.Ytbpcnodmgphinaa
/- THE CELL 'sum', in the pinned program and in every row, IS THE sha256 OF THE DUMP (.gsa) THAT YtbpcnodmgphinaaProg.lean LOADS. Nothing in Lean hashes anything: it is a label: what it is worth is what the hold of that sum in a sandbox is worth. -/
noncomputable def Try.pinned : Pinned := { name := "ytbpcnodmgphinaa", sum := "7adb8cb1b879312d8e517a057e87ba771bc8c4b483772e59dc278d4b6c4e388e", checked := Try.checked }
namespace Rows
def none {H : Type} : Left H := { results := [], args := [] }

/-- 'laws.FnSign': WHATEVER THE INPUT: true; the input reads as it did. -/
def fnSignSpec : ChangeSpec := { name := "fnSign", fn := fun _ => fun
  | [d] => { results := [.lit (.bool true)], args := [d] }
  | _ => none }
def fnSignRow : OpenClaim := { program := "ytbpcnodmgphinaa", sum := "7adb8cb1b879312d8e517a057e87ba771bc8c4b483772e59dc278d4b6c4e388e", func := "loop.example/g00790/laws.FnSign", spec := "fnSign", apart := false }
def FnSignSaid : Prop := fnSignRow.holds Try.pinned (OpenSpec.ofChange fnSignSpec)

/-- ITS FALSE NEIGHBOUR: 'it returns false'. Refute it at one input. -/
def fnSignWrong : ChangeSpec := { name := "fnSign", fn := fun _ => fun
  | [d] => { results := [.lit (.bool false)], args := [d] }
  | _ => none }
def FnSignWrongFalsely : Prop := fnSignRow.holds Try.pinned (OpenSpec.ofChange fnSignWrong)

/-- 'laws.FnQc': WHATEVER THE INPUT: true; the input reads as it did. -/
def fnQcSpec : ChangeSpec := { name := "fnQc", fn := fun _ => fun
  | [d] => { results := [.lit (.bool true)], args := [d] }
  | _ => none }
def fnQcRow : OpenClaim := { program := "ytbpcnodmgphinaa", sum := "7adb8cb1b879312d8e517a057e87ba771bc8c4b483772e59dc278d4b6c4e388e", func := "loop.example/g00790/laws.FnQc", spec := "fnQc", apart := false }
def FnQcSaid : Prop := fnQcRow.holds Try.pinned (OpenSpec.ofChange fnQcSpec)

/-- ITS FALSE NEIGHBOUR: 'it returns false'. Refute it at one input. -/
def fnQcWrong : ChangeSpec := { name := "fnQc", fn := fun _ => fun
  | [d] => { results := [.lit (.bool false)], args := [d] }
  | _ => none }
def FnQcWrongFalsely : Prop := fnQcRow.holds Try.pinned (OpenSpec.ofChange fnQcWrong)

/-- 'laws.FnBuild': WHATEVER THE INPUT: true; the input reads as it did. -/
def fnBuildSpec : ChangeSpec := { name := "fnBuild", fn := fun _ => fun
  | [d] => { results := [.lit (.bool true)], args := [d] }
  | _ => none }
def fnBuildRow : OpenClaim := { program := "ytbpcnodmgphinaa", sum := "7adb8cb1b879312d8e517a057e87ba771bc8c4b483772e59dc278d4b6c4e388e", func := "loop.example/g00790/laws.FnBuild", spec := "fnBuild", apart := false }
def FnBuildSaid : Prop := fnBuildRow.holds Try.pinned (OpenSpec.ofChange fnBuildSpec)

/-- ITS FALSE NEIGHBOUR: 'it returns false'. Refute it at one input. -/
def fnBuildWrong : ChangeSpec := { name := "fnBuild", fn := fun _ => fun
  | [d] => { results := [.lit (.bool false)], args := [d] }
  | _ => none }
def FnBuildWrongFalsely : Prop := fnBuildRow.holds Try.pinned (OpenSpec.ofChange fnBuildWrong)

/-- 'laws.FnChain': WHATEVER THE INPUT: true; the input reads as it did. -/
def fnChainSpec : ChangeSpec := { name := "fnChain", fn := fun _ => fun
  | [d] => { results := [.lit (.bool true)], args := [d] }
  | _ => none }
def fnChainRow : OpenClaim := { program := "ytbpcnodmgphinaa", sum := "7adb8cb1b879312d8e517a057e87ba771bc8c4b483772e59dc278d4b6c4e388e", func := "loop.example/g00790/laws.FnChain", spec := "fnChain", apart := false }
def FnChainSaid : Prop := fnChainRow.holds Try.pinned (OpenSpec.ofChange fnChainSpec)

/-- ITS FALSE NEIGHBOUR: 'it returns false'. Refute it at one input. -/
def fnChainWrong : ChangeSpec := { name := "fnChain", fn := fun _ => fun
  | [d] => { results := [.lit (.bool false)], args := [d] }
  | _ => none }
def FnChainWrongFalsely : Prop := fnChainRow.holds Try.pinned (OpenSpec.ofChange fnChainWrong)

/-- 'laws.FnGather': WHATEVER THE INPUT: true; the input reads as it did. -/
def fnGatherSpec : ChangeSpec := { name := "fnGather", fn := fun _ => fun
  | [d] => { results := [.lit (.bool true)], args := [d] }
  | _ => none }
def fnGatherRow : OpenClaim := { program := "ytbpcnodmgphinaa", sum := "7adb8cb1b879312d8e517a057e87ba771bc8c4b483772e59dc278d4b6c4e388e", func := "loop.example/g00790/laws.FnGather", spec := "fnGather", unfollowed := true, recurses := true, apart := false }
def FnGatherSaid : Prop := fnGatherRow.holds Try.pinned (OpenSpec.ofChange fnGatherSpec)

/-- ITS FALSE NEIGHBOUR: 'it returns false'. Refute it at one input. -/
def fnGatherWrong : ChangeSpec := { name := "fnGather", fn := fun _ => fun
  | [d] => { results := [.lit (.bool false)], args := [d] }
  | _ => none }
def FnGatherWrongFalsely : Prop := fnGatherRow.holds Try.pinned (OpenSpec.ofChange fnGatherWrong)

/-- 'laws.FnBlame': WHATEVER THE INPUT: true; the input reads as it did. -/
def fnBlameSpec : ChangeSpec := { name := "fnBlame", fn := fun _ => fun
  | [d] => { results := [.lit (.bool true)], args := [d] }
  | _ => none }
def fnBlameRow : OpenClaim := { program := "ytbpcnodmgphinaa", sum := "7adb8cb1b879312d8e517a057e87ba771bc8c4b483772e59dc278d4b6c4e388e", func := "loop.example/g00790/laws.FnBlame", spec := "fnBlame", unfollowed := true, recurses := true, apart := false }
def FnBlameSaid : Prop := fnBlameRow.holds Try.pinned (OpenSpec.ofChange fnBlameSpec)

/-- ITS FALSE NEIGHBOUR: 'it returns false'. Refute it at one input. -/
def fnBlameWrong : ChangeSpec := { name := "fnBlame", fn := fun _ => fun
  | [d] => { results := [.lit (.bool false)], args := [d] }
  | _ => none }
def FnBlameWrongFalsely : Prop := fnBlameRow.holds Try.pinned (OpenSpec.ofChange fnBlameWrong)

/-- 'laws.FnTwice': WHATEVER THE INPUT: true; the input reads as it did. -/
def fnTwiceSpec : ChangeSpec := { name := "fnTwice", fn := fun _ => fun
  | [d] => { results := [.lit (.bool true)], args := [d] }
  | _ => none }
def fnTwiceRow : OpenClaim := { program := "ytbpcnodmgphinaa", sum := "7adb8cb1b879312d8e517a057e87ba771bc8c4b483772e59dc278d4b6c4e388e", func := "loop.example/g00790/laws.FnTwice", spec := "fnTwice", unfollowed := true, recurses := true, apart := false }
def FnTwiceSaid : Prop := fnTwiceRow.holds Try.pinned (OpenSpec.ofChange fnTwiceSpec)

/-- ITS FALSE NEIGHBOUR: 'it returns false'. Refute it at one input. -/
def fnTwiceWrong : ChangeSpec := { name := "fnTwice", fn := fun _ => fun
  | [d] => { results := [.lit (.bool false)], args := [d] }
  | _ => none }
def FnTwiceWrongFalsely : Prop := fnTwiceRow.holds Try.pinned (OpenSpec.ofChange fnTwiceWrong)

/-- 'laws.FnExactTips': WHATEVER THE INPUT: true; the input reads as it did. -/
def fnExactTipsSpec : ChangeSpec := { name := "fnExactTips", fn := fun _ => fun
  | [d] => { results := [.lit (.bool true)], args := [d] }
  | _ => none }
def fnExactTipsRow : OpenClaim := { program := "ytbpcnodmgphinaa", sum := "7adb8cb1b879312d8e517a057e87ba771bc8c4b483772e59dc278d4b6c4e388e", func := "loop.example/g00790/laws.FnExactTips", spec := "fnExactTips", apart := false }
def FnExactTipsSaid : Prop := fnExactTipsRow.holds Try.pinned (OpenSpec.ofChange fnExactTipsSpec)

/-- ITS FALSE NEIGHBOUR: 'it returns false'. Refute it at one input. -/
def fnExactTipsWrong : ChangeSpec := { name := "fnExactTips", fn := fun _ => fun
  | [d] => { results := [.lit (.bool false)], args := [d] }
  | _ => none }
def FnExactTipsWrongFalsely : Prop := fnExactTipsRow.holds Try.pinned (OpenSpec.ofChange fnExactTipsWrong)

/-- 'laws.FnExactTwice': WHATEVER THE INPUT: true; the input reads as it did. -/
def fnExactTwiceSpec : ChangeSpec := { name := "fnExactTwice", fn := fun _ => fun
  | [d1, d2] => { results := [.lit (.bool true)], args := [d1, d2] }
  | _ => none }
def fnExactTwiceRow : OpenClaim := { program := "ytbpcnodmgphinaa", sum := "7adb8cb1b879312d8e517a057e87ba771bc8c4b483772e59dc278d4b6c4e388e", func := "loop.example/g00790/laws.FnExactTwice", spec := "fnExactTwice", unfollowed := true, recurses := true, apart := false }
def FnExactTwiceSaid : Prop := fnExactTwiceRow.holds Try.pinned (OpenSpec.ofChange fnExactTwiceSpec)

/-- ITS FALSE NEIGHBOUR: 'it returns false'. Refute it at one input. -/
def fnExactTwiceWrong : ChangeSpec := { name := "fnExactTwice", fn := fun _ => fun
  | [d1, d2] => { results := [.lit (.bool false)], args := [d1, d2] }
  | _ => none }
def FnExactTwiceWrongFalsely : Prop := fnExactTwiceRow.holds Try.pinned (OpenSpec.ofChange fnExactTwiceWrong)

/- THE SECOND FORM. 'bulk': how many values and letters a reading holds, each counted each time it is reached (what is shared counts as often as it is met; a slice's spare places count too). A statement '..UptoSaid' is the law's where the arguments, and the package variables that the reading takes, are together of bulk at most 1048576: NARROWER than '..Said'. Prove '..Said' where nothing that the law and all that it calls make is longer than what came in: it says more and counts as full. Else prove '..UptoSaid'. A law counts once. -/
mutual
def uptoBulk {H : Type} : DataW H → Nat
  | .lit (.string bytes) => bytes.length + 1
  | .lit _ => 1
  | .nil => 1
  | .ptr d => uptoBulk d + 1
  | .slice elems spare => uptoBulkAll elems + uptoBulkAll spare + 1
  | .agg parts => uptoBulkAll parts + 1
  | .iface _ d => uptoBulk d + 1
  | .map entries => uptoBulkEntries entries + 1
  | .held _ => 1
def uptoBulkAll {H : Type} : List (DataW H) → Nat
  | [] => 0
  | d :: r => uptoBulk d + uptoBulkAll r
def uptoBulkEntries {H : Type} : List (Lit × DataW H) → Nat
  | [] => 0
  | x :: r => uptoBulkEntry x + uptoBulkEntries r
def uptoBulkEntry {H : Type} : Lit × DataW H → Nat
  | (.string bytes, d) => bytes.length + uptoBulk d + 1
  | (_, d) => uptoBulk d + 1
 end
def uptoSmall : (H : Type) → List (DataW H) → Bool := fun _ ds => decide (uptoBulkAll ds ≤ 1048576)
def OpenSpec.upto (s : _root_.Go.ChangeSpec) : _root_.Go.OpenSpec := { _root_.Go.OpenSpec.ofChange s with cond := some uptoSmall }

/-- 'laws.FnSign', WHERE WHAT IT READS IS OF BULK AT MOST 1048576: true; the input reads as it did. -/
def fnSignUptoRow : OpenClaim := { program := "ytbpcnodmgphinaa", sum := "7adb8cb1b879312d8e517a057e87ba771bc8c4b483772e59dc278d4b6c4e388e", func := "loop.example/g00790/laws.FnSign", spec := "fnSign", apart := false, narrowed := true }
def FnSignUptoSaid : Prop := fnSignUptoRow.holds Try.pinned (OpenSpec.upto fnSignSpec)

/-- 'laws.FnQc', WHERE WHAT IT READS IS OF BULK AT MOST 1048576: true; the input reads as it did. -/
def fnQcUptoRow : OpenClaim := { program := "ytbpcnodmgphinaa", sum := "7adb8cb1b879312d8e517a057e87ba771bc8c4b483772e59dc278d4b6c4e388e", func := "loop.example/g00790/laws.FnQc", spec := "fnQc", apart := false, narrowed := true }
def FnQcUptoSaid : Prop := fnQcUptoRow.holds Try.pinned (OpenSpec.upto fnQcSpec)

/-- 'laws.FnBuild', WHERE WHAT IT READS IS OF BULK AT MOST 1048576: true; the input reads as it did. -/
def fnBuildUptoRow : OpenClaim := { program := "ytbpcnodmgphinaa", sum := "7adb8cb1b879312d8e517a057e87ba771bc8c4b483772e59dc278d4b6c4e388e", func := "loop.example/g00790/laws.FnBuild", spec := "fnBuild", apart := false, narrowed := true }
def FnBuildUptoSaid : Prop := fnBuildUptoRow.holds Try.pinned (OpenSpec.upto fnBuildSpec)

/-- 'laws.FnChain', WHERE WHAT IT READS IS OF BULK AT MOST 1048576: true; the input reads as it did. -/
def fnChainUptoRow : OpenClaim := { program := "ytbpcnodmgphinaa", sum := "7adb8cb1b879312d8e517a057e87ba771bc8c4b483772e59dc278d4b6c4e388e", func := "loop.example/g00790/laws.FnChain", spec := "fnChain", apart := false, narrowed := true }
def FnChainUptoSaid : Prop := fnChainUptoRow.holds Try.pinned (OpenSpec.upto fnChainSpec)

/-- 'laws.FnGather', WHERE WHAT IT READS IS OF BULK AT MOST 1048576: true; the input reads as it did. -/
def fnGatherUptoRow : OpenClaim := { program := "ytbpcnodmgphinaa", sum := "7adb8cb1b879312d8e517a057e87ba771bc8c4b483772e59dc278d4b6c4e388e", func := "loop.example/g00790/laws.FnGather", spec := "fnGather", unfollowed := true, recurses := true, apart := false, narrowed := true }
def FnGatherUptoSaid : Prop := fnGatherUptoRow.holds Try.pinned (OpenSpec.upto fnGatherSpec)

/-- 'laws.FnBlame', WHERE WHAT IT READS IS OF BULK AT MOST 1048576: true; the input reads as it did. -/
def fnBlameUptoRow : OpenClaim := { program := "ytbpcnodmgphinaa", sum := "7adb8cb1b879312d8e517a057e87ba771bc8c4b483772e59dc278d4b6c4e388e", func := "loop.example/g00790/laws.FnBlame", spec := "fnBlame", unfollowed := true, recurses := true, apart := false, narrowed := true }
def FnBlameUptoSaid : Prop := fnBlameUptoRow.holds Try.pinned (OpenSpec.upto fnBlameSpec)

/-- 'laws.FnTwice', WHERE WHAT IT READS IS OF BULK AT MOST 1048576: true; the input reads as it did. -/
def fnTwiceUptoRow : OpenClaim := { program := "ytbpcnodmgphinaa", sum := "7adb8cb1b879312d8e517a057e87ba771bc8c4b483772e59dc278d4b6c4e388e", func := "loop.example/g00790/laws.FnTwice", spec := "fnTwice", unfollowed := true, recurses := true, apart := false, narrowed := true }
def FnTwiceUptoSaid : Prop := fnTwiceUptoRow.holds Try.pinned (OpenSpec.upto fnTwiceSpec)

/-- 'laws.FnExactTips', WHERE WHAT IT READS IS OF BULK AT MOST 1048576: true; the input reads as it did. -/
def fnExactTipsUptoRow : OpenClaim := { program := "ytbpcnodmgphinaa", sum := "7adb8cb1b879312d8e517a057e87ba771bc8c4b483772e59dc278d4b6c4e388e", func := "loop.example/g00790/laws.FnExactTips", spec := "fnExactTips", apart := false, narrowed := true }
def FnExactTipsUptoSaid : Prop := fnExactTipsUptoRow.holds Try.pinned (OpenSpec.upto fnExactTipsSpec)

/-- 'laws.FnExactTwice', WHERE WHAT IT READS IS OF BULK AT MOST 1048576: true; the input reads as it did. -/
def fnExactTwiceUptoRow : OpenClaim := { program := "ytbpcnodmgphinaa", sum := "7adb8cb1b879312d8e517a057e87ba771bc8c4b483772e59dc278d4b6c4e388e", func := "loop.example/g00790/laws.FnExactTwice", spec := "fnExactTwice", unfollowed := true, recurses := true, apart := false, narrowed := true }
def FnExactTwiceUptoSaid : Prop := fnExactTwiceUptoRow.holds Try.pinned (OpenSpec.upto fnExactTwiceSpec)

end Rows
end Go.Proofs.Ytbpcnodmgphinaa
