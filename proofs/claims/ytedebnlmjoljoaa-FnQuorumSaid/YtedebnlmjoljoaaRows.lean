/-
  No cell of these rows narrows 'for every input' (looked for: loops, veiled, ifaces, maps, wideKeys, modest, calm, conditions, laid).
  DERIVED. THE GIVEN ROWS OF THIS SEAT. 11 by the template 'for every input the law returns true; each argument reads behind the call as it read before'; 0 by the template 'total and deterministic' (their statements: YtedebnlmjoljoaaTotals.lean).
  GIVEN WITH THE SEED: the statements are not yours to turn. If you find one false, say at which input.
  Laid BY PROGRAM, IN A SANDBOX (cutbox-rows.mjs): the forced cells as the released guide's own fill.sh prints them over the translation 6f74c39308af9923… (all of the seat's roots in one cut). By AI agents, Wed Nov 11 2026. No macro, syntax, notation, axiom, sorry.
-/
import Derived.Test.YtedebnlmjoljoaaChecked
import GoSem.Claim
import GoSem.ClaimJoined
import GoSem.ClaimMapViews
import Derived.JoinedTies
import Derived.KernelRfl
namespace Go.Proofs.Ytedebnlmjoljoaa
/- THE CELL 'sum', in the pinned program and in every row, IS THE sha256 OF THE DUMP (.gsa) THAT YtedebnlmjoljoaaProg.lean LOADS. Nothing in Lean hashes anything: it is a label: what it is worth is what the hold of that sum in a sandbox is worth. -/
noncomputable def Try.pinned : Pinned := { name := "ytedebnlmjoljoaa", sum := "6f74c39308af99237deb75d1aeadfecd1fb378071ee2da3f8f89cc4bfd116ac0", checked := Try.checked }
namespace Rows
def none {H : Type} : Left H := { results := [], args := [] }

/-- 'laws.FnSign': WHATEVER THE INPUT: true; the input reads as it did. -/
def fnSignSpec : ChangeSpec := { name := "fnSign", fn := fun _ => fun
  | [d] => { results := [.lit (.bool true)], args := [d] }
  | _ => none }
def fnSignRow : OpenClaim := { program := "ytedebnlmjoljoaa", sum := "6f74c39308af99237deb75d1aeadfecd1fb378071ee2da3f8f89cc4bfd116ac0", func := "loop.example/g00790/laws.FnSign", spec := "fnSign", apart := false }
def FnSignSaid : Prop := fnSignRow.holds Try.pinned (OpenSpec.ofChange fnSignSpec)

/-- ITS FALSE NEIGHBOUR: 'it returns false'. Refute it at one input. -/
def fnSignWrong : ChangeSpec := { name := "fnSign", fn := fun _ => fun
  | [d] => { results := [.lit (.bool false)], args := [d] }
  | _ => none }
def FnSignWrongFalsely : Prop := fnSignRow.holds Try.pinned (OpenSpec.ofChange fnSignWrong)

/-- 'laws.FnQc': WHATEVER THE INPUT: true; the input reads as it did. -/
def fnQcSpec : ChangeSpec := { name := "fnQc", fn := fun _ => fun
  | [d] => { results := [.lit (.bool true)], args := [d] }
  | _ => none }
def fnQcRow : OpenClaim := { program := "ytedebnlmjoljoaa", sum := "6f74c39308af99237deb75d1aeadfecd1fb378071ee2da3f8f89cc4bfd116ac0", func := "loop.example/g00790/laws.FnQc", spec := "fnQc", apart := false }
def FnQcSaid : Prop := fnQcRow.holds Try.pinned (OpenSpec.ofChange fnQcSpec)

/-- ITS FALSE NEIGHBOUR: 'it returns false'. Refute it at one input. -/
def fnQcWrong : ChangeSpec := { name := "fnQc", fn := fun _ => fun
  | [d] => { results := [.lit (.bool false)], args := [d] }
  | _ => none }
def FnQcWrongFalsely : Prop := fnQcRow.holds Try.pinned (OpenSpec.ofChange fnQcWrong)

/-- 'laws.FnBlame': WHATEVER THE INPUT: true; the input reads as it did. -/
def fnBlameSpec : ChangeSpec := { name := "fnBlame", fn := fun _ => fun
  | [d] => { results := [.lit (.bool true)], args := [d] }
  | _ => none }
def fnBlameRow : OpenClaim := { program := "ytedebnlmjoljoaa", sum := "6f74c39308af99237deb75d1aeadfecd1fb378071ee2da3f8f89cc4bfd116ac0", func := "loop.example/g00790/laws.FnBlame", spec := "fnBlame", unfollowed := true, recurses := true, apart := false }
def FnBlameSaid : Prop := fnBlameRow.holds Try.pinned (OpenSpec.ofChange fnBlameSpec)

/-- ITS FALSE NEIGHBOUR: 'it returns false'. Refute it at one input. -/
def fnBlameWrong : ChangeSpec := { name := "fnBlame", fn := fun _ => fun
  | [d] => { results := [.lit (.bool false)], args := [d] }
  | _ => none }
def FnBlameWrongFalsely : Prop := fnBlameRow.holds Try.pinned (OpenSpec.ofChange fnBlameWrong)

/-- 'laws.FnQuorum': WHATEVER THE INPUT: true; the input reads as it did. -/
def fnQuorumSpec : ChangeSpec := { name := "fnQuorum", fn := fun _ => fun
  | [d] => { results := [.lit (.bool true)], args := [d] }
  | _ => none }
def fnQuorumRow : OpenClaim := { program := "ytedebnlmjoljoaa", sum := "6f74c39308af99237deb75d1aeadfecd1fb378071ee2da3f8f89cc4bfd116ac0", func := "loop.example/g00790/laws.FnQuorum", spec := "fnQuorum", unfollowed := true, recurses := true, apart := false }
def FnQuorumSaid : Prop := fnQuorumRow.holds Try.pinned (OpenSpec.ofChange fnQuorumSpec)

/-- ITS FALSE NEIGHBOUR: 'it returns false'. Refute it at one input. -/
def fnQuorumWrong : ChangeSpec := { name := "fnQuorum", fn := fun _ => fun
  | [d] => { results := [.lit (.bool false)], args := [d] }
  | _ => none }
def FnQuorumWrongFalsely : Prop := fnQuorumRow.holds Try.pinned (OpenSpec.ofChange fnQuorumWrong)

/-- 'laws.FnTwice': WHATEVER THE INPUT: true; the input reads as it did. -/
def fnTwiceSpec : ChangeSpec := { name := "fnTwice", fn := fun _ => fun
  | [d] => { results := [.lit (.bool true)], args := [d] }
  | _ => none }
def fnTwiceRow : OpenClaim := { program := "ytedebnlmjoljoaa", sum := "6f74c39308af99237deb75d1aeadfecd1fb378071ee2da3f8f89cc4bfd116ac0", func := "loop.example/g00790/laws.FnTwice", spec := "fnTwice", unfollowed := true, recurses := true, apart := false }
def FnTwiceSaid : Prop := fnTwiceRow.holds Try.pinned (OpenSpec.ofChange fnTwiceSpec)

/-- ITS FALSE NEIGHBOUR: 'it returns false'. Refute it at one input. -/
def fnTwiceWrong : ChangeSpec := { name := "fnTwice", fn := fun _ => fun
  | [d] => { results := [.lit (.bool false)], args := [d] }
  | _ => none }
def FnTwiceWrongFalsely : Prop := fnTwiceRow.holds Try.pinned (OpenSpec.ofChange fnTwiceWrong)

/-- 'laws.FnGather': WHATEVER THE INPUT: true; the input reads as it did. -/
def fnGatherSpec : ChangeSpec := { name := "fnGather", fn := fun _ => fun
  | [d] => { results := [.lit (.bool true)], args := [d] }
  | _ => none }
def fnGatherRow : OpenClaim := { program := "ytedebnlmjoljoaa", sum := "6f74c39308af99237deb75d1aeadfecd1fb378071ee2da3f8f89cc4bfd116ac0", func := "loop.example/g00790/laws.FnGather", spec := "fnGather", unfollowed := true, recurses := true, apart := false }
def FnGatherSaid : Prop := fnGatherRow.holds Try.pinned (OpenSpec.ofChange fnGatherSpec)

/-- ITS FALSE NEIGHBOUR: 'it returns false'. Refute it at one input. -/
def fnGatherWrong : ChangeSpec := { name := "fnGather", fn := fun _ => fun
  | [d] => { results := [.lit (.bool false)], args := [d] }
  | _ => none }
def FnGatherWrongFalsely : Prop := fnGatherRow.holds Try.pinned (OpenSpec.ofChange fnGatherWrong)

/-- 'laws.FnExactSignLeave': WHATEVER THE INPUT: true; the input reads as it did. -/
def fnExactSignLeaveSpec : ChangeSpec := { name := "fnExactSignLeave", fn := fun _ => fun
  | [d1, d2, d3, d4] => { results := [.lit (.bool true)], args := [d1, d2, d3, d4] }
  | _ => none }
def fnExactSignLeaveRow : OpenClaim := { program := "ytedebnlmjoljoaa", sum := "6f74c39308af99237deb75d1aeadfecd1fb378071ee2da3f8f89cc4bfd116ac0", func := "loop.example/g00790/laws.FnExactSignLeave", spec := "fnExactSignLeave", apart := false }
def FnExactSignLeaveSaid : Prop := fnExactSignLeaveRow.holds Try.pinned (OpenSpec.ofChange fnExactSignLeaveSpec)

/-- ITS FALSE NEIGHBOUR: 'it returns false'. Refute it at one input. -/
def fnExactSignLeaveWrong : ChangeSpec := { name := "fnExactSignLeave", fn := fun _ => fun
  | [d1, d2, d3, d4] => { results := [.lit (.bool false)], args := [d1, d2, d3, d4] }
  | _ => none }
def FnExactSignLeaveWrongFalsely : Prop := fnExactSignLeaveRow.holds Try.pinned (OpenSpec.ofChange fnExactSignLeaveWrong)

/-- 'laws.FnExactVoteGood': WHATEVER THE INPUT: true; the input reads as it did. -/
def fnExactVoteGoodSpec : ChangeSpec := { name := "fnExactVoteGood", fn := fun _ => fun
  | [d1, d2] => { results := [.lit (.bool true)], args := [d1, d2] }
  | _ => none }
def fnExactVoteGoodRow : OpenClaim := { program := "ytedebnlmjoljoaa", sum := "6f74c39308af99237deb75d1aeadfecd1fb378071ee2da3f8f89cc4bfd116ac0", func := "loop.example/g00790/laws.FnExactVoteGood", spec := "fnExactVoteGood", apart := false }
def FnExactVoteGoodSaid : Prop := fnExactVoteGoodRow.holds Try.pinned (OpenSpec.ofChange fnExactVoteGoodSpec)

/-- ITS FALSE NEIGHBOUR: 'it returns false'. Refute it at one input. -/
def fnExactVoteGoodWrong : ChangeSpec := { name := "fnExactVoteGood", fn := fun _ => fun
  | [d1, d2] => { results := [.lit (.bool false)], args := [d1, d2] }
  | _ => none }
def FnExactVoteGoodWrongFalsely : Prop := fnExactVoteGoodRow.holds Try.pinned (OpenSpec.ofChange fnExactVoteGoodWrong)

/-- 'laws.FnExactTwice': WHATEVER THE INPUT: true; the input reads as it did. -/
def fnExactTwiceSpec : ChangeSpec := { name := "fnExactTwice", fn := fun _ => fun
  | [d1, d2] => { results := [.lit (.bool true)], args := [d1, d2] }
  | _ => none }
def fnExactTwiceRow : OpenClaim := { program := "ytedebnlmjoljoaa", sum := "6f74c39308af99237deb75d1aeadfecd1fb378071ee2da3f8f89cc4bfd116ac0", func := "loop.example/g00790/laws.FnExactTwice", spec := "fnExactTwice", unfollowed := true, recurses := true, apart := false }
def FnExactTwiceSaid : Prop := fnExactTwiceRow.holds Try.pinned (OpenSpec.ofChange fnExactTwiceSpec)

/-- ITS FALSE NEIGHBOUR: 'it returns false'. Refute it at one input. -/
def fnExactTwiceWrong : ChangeSpec := { name := "fnExactTwice", fn := fun _ => fun
  | [d1, d2] => { results := [.lit (.bool false)], args := [d1, d2] }
  | _ => none }
def FnExactTwiceWrongFalsely : Prop := fnExactTwiceRow.holds Try.pinned (OpenSpec.ofChange fnExactTwiceWrong)

/-- 'laws.FnExactTally': WHATEVER THE INPUT: true; the input reads as it did. -/
def fnExactTallySpec : ChangeSpec := { name := "fnExactTally", fn := fun _ => fun
  | [d1, d2, d3, d4] => { results := [.lit (.bool true)], args := [d1, d2, d3, d4] }
  | _ => none }
def fnExactTallyRow : OpenClaim := { program := "ytedebnlmjoljoaa", sum := "6f74c39308af99237deb75d1aeadfecd1fb378071ee2da3f8f89cc4bfd116ac0", func := "loop.example/g00790/laws.FnExactTally", spec := "fnExactTally", unfollowed := true, recurses := true, apart := false }
def FnExactTallySaid : Prop := fnExactTallyRow.holds Try.pinned (OpenSpec.ofChange fnExactTallySpec)

/-- ITS FALSE NEIGHBOUR: 'it returns false'. Refute it at one input. -/
def fnExactTallyWrong : ChangeSpec := { name := "fnExactTally", fn := fun _ => fun
  | [d1, d2, d3, d4] => { results := [.lit (.bool false)], args := [d1, d2, d3, d4] }
  | _ => none }
def FnExactTallyWrongFalsely : Prop := fnExactTallyRow.holds Try.pinned (OpenSpec.ofChange fnExactTallyWrong)

/-- 'laws.FnExactBlame': WHATEVER THE INPUT: true; the input reads as it did. -/
def fnExactBlameSpec : ChangeSpec := { name := "fnExactBlame", fn := fun _ => fun
  | [d1, d2, d3] => { results := [.lit (.bool true)], args := [d1, d2, d3] }
  | _ => none }
def fnExactBlameRow : OpenClaim := { program := "ytedebnlmjoljoaa", sum := "6f74c39308af99237deb75d1aeadfecd1fb378071ee2da3f8f89cc4bfd116ac0", func := "loop.example/g00790/laws.FnExactBlame", spec := "fnExactBlame", unfollowed := true, recurses := true, apart := false }
def FnExactBlameSaid : Prop := fnExactBlameRow.holds Try.pinned (OpenSpec.ofChange fnExactBlameSpec)

/-- ITS FALSE NEIGHBOUR: 'it returns false'. Refute it at one input. -/
def fnExactBlameWrong : ChangeSpec := { name := "fnExactBlame", fn := fun _ => fun
  | [d1, d2, d3] => { results := [.lit (.bool false)], args := [d1, d2, d3] }
  | _ => none }
def FnExactBlameWrongFalsely : Prop := fnExactBlameRow.holds Try.pinned (OpenSpec.ofChange fnExactBlameWrong)

/- THE SECOND FORM. 'bulk': how many values and letters a reading holds, each counted each time it is reached (what is shared counts as often as it is met; a slice's spare places count too). A statement '..UptoSaid' is the law's where the arguments, and the package variables that the reading takes, are together of bulk at most 1048576: NARROWER than '..Said'. Prove '..Said' where nothing that the law and all that it calls make is longer than what came in: it says more and counts as full. Else prove '..UptoSaid'. A law counts once. -/
mutual
def uptoBulk {H : Type} : DataW H → Nat
  | .lit (.string bytes) => bytes.length + 1
  | .lit _ => 1
  | .nil => 1
  | .ptr d => uptoBulk d + 1
  | .slice elems spare => uptoBulkAll elems + uptoBulkAll spare + 1
  | .agg parts => uptoBulkAll parts + 1
  | .iface _ d => uptoBulk d + 1
  | .map entries => uptoBulkEntries entries + 1
  | .held _ => 1
def uptoBulkAll {H : Type} : List (DataW H) → Nat
  | [] => 0
  | d :: r => uptoBulk d + uptoBulkAll r
def uptoBulkEntries {H : Type} : List (Lit × DataW H) → Nat
  | [] => 0
  | x :: r => uptoBulkEntry x + uptoBulkEntries r
def uptoBulkEntry {H : Type} : Lit × DataW H → Nat
  | (.string bytes, d) => bytes.length + uptoBulk d + 1
  | (_, d) => uptoBulk d + 1
 end
def uptoSmall : (H : Type) → List (DataW H) → Bool := fun _ ds => decide (uptoBulkAll ds ≤ 1048576)
def OpenSpec.upto (s : _root_.Go.ChangeSpec) : _root_.Go.OpenSpec := { _root_.Go.OpenSpec.ofChange s with cond := some uptoSmall }

/-- 'laws.FnSign', WHERE WHAT IT READS IS OF BULK AT MOST 1048576: true; the input reads as it did. -/
def fnSignUptoRow : OpenClaim := { program := "ytedebnlmjoljoaa", sum := "6f74c39308af99237deb75d1aeadfecd1fb378071ee2da3f8f89cc4bfd116ac0", func := "loop.example/g00790/laws.FnSign", spec := "fnSign", apart := false, narrowed := true }
def FnSignUptoSaid : Prop := fnSignUptoRow.holds Try.pinned (OpenSpec.upto fnSignSpec)

/-- 'laws.FnQc', WHERE WHAT IT READS IS OF BULK AT MOST 1048576: true; the input reads as it did. -/
def fnQcUptoRow : OpenClaim := { program := "ytedebnlmjoljoaa", sum := "6f74c39308af99237deb75d1aeadfecd1fb378071ee2da3f8f89cc4bfd116ac0", func := "loop.example/g00790/laws.FnQc", spec := "fnQc", apart := false, narrowed := true }
def FnQcUptoSaid : Prop := fnQcUptoRow.holds Try.pinned (OpenSpec.upto fnQcSpec)

/-- 'laws.FnBlame', WHERE WHAT IT READS IS OF BULK AT MOST 1048576: true; the input reads as it did. -/
def fnBlameUptoRow : OpenClaim := { program := "ytedebnlmjoljoaa", sum := "6f74c39308af99237deb75d1aeadfecd1fb378071ee2da3f8f89cc4bfd116ac0", func := "loop.example/g00790/laws.FnBlame", spec := "fnBlame", unfollowed := true, recurses := true, apart := false, narrowed := true }
def FnBlameUptoSaid : Prop := fnBlameUptoRow.holds Try.pinned (OpenSpec.upto fnBlameSpec)

/-- 'laws.FnQuorum', WHERE WHAT IT READS IS OF BULK AT MOST 1048576: true; the input reads as it did. -/
def fnQuorumUptoRow : OpenClaim := { program := "ytedebnlmjoljoaa", sum := "6f74c39308af99237deb75d1aeadfecd1fb378071ee2da3f8f89cc4bfd116ac0", func := "loop.example/g00790/laws.FnQuorum", spec := "fnQuorum", unfollowed := true, recurses := true, apart := false, narrowed := true }
def FnQuorumUptoSaid : Prop := fnQuorumUptoRow.holds Try.pinned (OpenSpec.upto fnQuorumSpec)

/-- 'laws.FnTwice', WHERE WHAT IT READS IS OF BULK AT MOST 1048576: true; the input reads as it did. -/
def fnTwiceUptoRow : OpenClaim := { program := "ytedebnlmjoljoaa", sum := "6f74c39308af99237deb75d1aeadfecd1fb378071ee2da3f8f89cc4bfd116ac0", func := "loop.example/g00790/laws.FnTwice", spec := "fnTwice", unfollowed := true, recurses := true, apart := false, narrowed := true }
def FnTwiceUptoSaid : Prop := fnTwiceUptoRow.holds Try.pinned (OpenSpec.upto fnTwiceSpec)

/-- 'laws.FnGather', WHERE WHAT IT READS IS OF BULK AT MOST 1048576: true; the input reads as it did. -/
def fnGatherUptoRow : OpenClaim := { program := "ytedebnlmjoljoaa", sum := "6f74c39308af99237deb75d1aeadfecd1fb378071ee2da3f8f89cc4bfd116ac0", func := "loop.example/g00790/laws.FnGather", spec := "fnGather", unfollowed := true, recurses := true, apart := false, narrowed := true }
def FnGatherUptoSaid : Prop := fnGatherUptoRow.holds Try.pinned (OpenSpec.upto fnGatherSpec)

/-- 'laws.FnExactSignLeave', WHERE WHAT IT READS IS OF BULK AT MOST 1048576: true; the input reads as it did. -/
def fnExactSignLeaveUptoRow : OpenClaim := { program := "ytedebnlmjoljoaa", sum := "6f74c39308af99237deb75d1aeadfecd1fb378071ee2da3f8f89cc4bfd116ac0", func := "loop.example/g00790/laws.FnExactSignLeave", spec := "fnExactSignLeave", apart := false, narrowed := true }
def FnExactSignLeaveUptoSaid : Prop := fnExactSignLeaveUptoRow.holds Try.pinned (OpenSpec.upto fnExactSignLeaveSpec)

/-- 'laws.FnExactVoteGood', WHERE WHAT IT READS IS OF BULK AT MOST 1048576: true; the input reads as it did. -/
def fnExactVoteGoodUptoRow : OpenClaim := { program := "ytedebnlmjoljoaa", sum := "6f74c39308af99237deb75d1aeadfecd1fb378071ee2da3f8f89cc4bfd116ac0", func := "loop.example/g00790/laws.FnExactVoteGood", spec := "fnExactVoteGood", apart := false, narrowed := true }
def FnExactVoteGoodUptoSaid : Prop := fnExactVoteGoodUptoRow.holds Try.pinned (OpenSpec.upto fnExactVoteGoodSpec)

/-- 'laws.FnExactTwice', WHERE WHAT IT READS IS OF BULK AT MOST 1048576: true; the input reads as it did. -/
def fnExactTwiceUptoRow : OpenClaim := { program := "ytedebnlmjoljoaa", sum := "6f74c39308af99237deb75d1aeadfecd1fb378071ee2da3f8f89cc4bfd116ac0", func := "loop.example/g00790/laws.FnExactTwice", spec := "fnExactTwice", unfollowed := true, recurses := true, apart := false, narrowed := true }
def FnExactTwiceUptoSaid : Prop := fnExactTwiceUptoRow.holds Try.pinned (OpenSpec.upto fnExactTwiceSpec)

/-- 'laws.FnExactTally', WHERE WHAT IT READS IS OF BULK AT MOST 1048576: true; the input reads as it did. -/
def fnExactTallyUptoRow : OpenClaim := { program := "ytedebnlmjoljoaa", sum := "6f74c39308af99237deb75d1aeadfecd1fb378071ee2da3f8f89cc4bfd116ac0", func := "loop.example/g00790/laws.FnExactTally", spec := "fnExactTally", unfollowed := true, recurses := true, apart := false, narrowed := true }
def FnExactTallyUptoSaid : Prop := fnExactTallyUptoRow.holds Try.pinned (OpenSpec.upto fnExactTallySpec)

/-- 'laws.FnExactBlame', WHERE WHAT IT READS IS OF BULK AT MOST 1048576: true; the input reads as it did. -/
def fnExactBlameUptoRow : OpenClaim := { program := "ytedebnlmjoljoaa", sum := "6f74c39308af99237deb75d1aeadfecd1fb378071ee2da3f8f89cc4bfd116ac0", func := "loop.example/g00790/laws.FnExactBlame", spec := "fnExactBlame", unfollowed := true, recurses := true, apart := false, narrowed := true }
def FnExactBlameUptoSaid : Prop := fnExactBlameUptoRow.holds Try.pinned (OpenSpec.upto fnExactBlameSpec)

end Rows
end Go.Proofs.Ytedebnlmjoljoaa
