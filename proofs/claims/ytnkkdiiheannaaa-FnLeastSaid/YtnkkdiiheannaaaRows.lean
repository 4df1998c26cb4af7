/-
  No cell of these rows narrows 'for every input' (looked for: loops, veiled, ifaces, maps, wideKeys, modest, calm, conditions, laid).
  DERIVED. THE GIVEN ROWS OF THIS SEAT. 8 by the template 'for every input the law returns true; each argument reads behind the call as it read before'; 0 by the template 'total and deterministic' (their statements: YtnkkdiiheannaaaTotals.lean).
  GIVEN WITH THE SEED: the statements are not yours to turn. If you find one false, say at which input.
  Laid BY PROGRAM, IN A SANDBOX (cutbox-rows.mjs): the forced cells as the released guide's own fill.sh prints them over the translation 03614a8b4dc896be… (all of the seat's roots in one cut). By AI agents, Wed Nov 11 2026. No macro, syntax, notation, axiom, sorry.
-/
import Derived.Test.YtnkkdiiheannaaaChecked
import GoSem.Claim
import GoSem.ClaimJoined
import GoSem.ClaimMapViews
import Derived.JoinedTies
import Derived.KernelRfl
namespace Go.Proofs.Ytnkkdiiheannaaa
/- THE CELL 'sum', in the pinned program and in every row, IS THE sha256 OF THE DUMP (.gsa) THAT YtnkkdiiheannaaaProg.lean LOADS. Nothing in Lean hashes anything: it is a label: what it is worth is what the hold of that sum in a sandbox is worth. -/
noncomputable def Try.pinned : Pinned := { name := "ytnkkdiiheannaaa", sum := "03614a8b4dc896be024ea6a2a845d14daa693bf7d869bb7631cd4ad76bf8d53b", checked := Try.checked }
namespace Rows
def none {H : Type} : Left H := { results := [], args := [] }

/-- 'laws.FnExactPushOk': WHATEVER THE INPUT: true; the input reads as it did. -/
def fnExactPushOkSpec : ChangeSpec := { name := "fnExactPushOk", fn := fun _ => fun
  | [d1, d2] => { results := [.lit (.bool true)], args := [d1, d2] }
  | _ => none }
def fnExactPushOkRow : OpenClaim := { program := "ytnkkdiiheannaaa", sum := "03614a8b4dc896be024ea6a2a845d14daa693bf7d869bb7631cd4ad76bf8d53b", func := "loop.example/g00790/laws.FnExactPushOk", spec := "fnExactPushOk", apart := false }
def FnExactPushOkSaid : Prop := fnExactPushOkRow.holds Try.pinned (OpenSpec.ofChange fnExactPushOkSpec)

/-- ITS FALSE NEIGHBOUR: 'it returns false'. Refute it at one input. -/
def fnExactPushOkWrong : ChangeSpec := { name := "fnExactPushOk", fn := fun _ => fun
  | [d1, d2] => { results := [.lit (.bool false)], args := [d1, d2] }
  | _ => none }
def FnExactPushOkWrongFalsely : Prop := fnExactPushOkRow.holds Try.pinned (OpenSpec.ofChange fnExactPushOkWrong)

/-- 'laws.FnLeast': WHATEVER THE INPUT: true; the input reads as it did. -/
def fnLeastSpec : ChangeSpec := { name := "fnLeast", fn := fun _ => fun
  | [d] => { results := [.lit (.bool true)], args := [d] }
  | _ => none }
def fnLeastRow : OpenClaim := { program := "ytnkkdiiheannaaa", sum := "03614a8b4dc896be024ea6a2a845d14daa693bf7d869bb7631cd4ad76bf8d53b", func := "loop.example/g00790/laws.FnLeast", spec := "fnLeast", recurses := true, apart := false }
def FnLeastSaid : Prop := fnLeastRow.holds Try.pinned (OpenSpec.ofChange fnLeastSpec)

/-- ITS FALSE NEIGHBOUR: 'it returns false'. Refute it at one input. -/
def fnLeastWrong : ChangeSpec := { name := "fnLeast", fn := fun _ => fun
  | [d] => { results := [.lit (.bool false)], args := [d] }
  | _ => none }
def FnLeastWrongFalsely : Prop := fnLeastRow.holds Try.pinned (OpenSpec.ofChange fnLeastWrong)

/-- 'laws.FnExactIsQuorum': WHATEVER THE INPUT: true; the input reads as it did. -/
def fnExactIsQuorumSpec : ChangeSpec := { name := "fnExactIsQuorum", fn := fun _ => fun
  | [d1, d2] => { results := [.lit (.bool true)], args := [d1, d2] }
  | _ => none }
def fnExactIsQuorumRow : OpenClaim := { program := "ytnkkdiiheannaaa", sum := "03614a8b4dc896be024ea6a2a845d14daa693bf7d869bb7631cd4ad76bf8d53b", func := "loop.example/g00790/laws.FnExactIsQuorum", spec := "fnExactIsQuorum", apart := false }
def FnExactIsQuorumSaid : Prop := fnExactIsQuorumRow.holds Try.pinned (OpenSpec.ofChange fnExactIsQuorumSpec)

/-- ITS FALSE NEIGHBOUR: 'it returns false'. Refute it at one input. -/
def fnExactIsQuorumWrong : ChangeSpec := { name := "fnExactIsQuorum", fn := fun _ => fun
  | [d1, d2] => { results := [.lit (.bool false)], args := [d1, d2] }
  | _ => none }
def FnExactIsQuorumWrongFalsely : Prop := fnExactIsQuorumRow.holds Try.pinned (OpenSpec.ofChange fnExactIsQuorumWrong)

/-- 'laws.FnExactOverlap': WHATEVER THE INPUT: true; the input reads as it did. -/
def fnExactOverlapSpec : ChangeSpec := { name := "fnExactOverlap", fn := fun _ => fun
  | [d1, d2, d3] => { results := [.lit (.bool true)], args := [d1, d2, d3] }
  | _ => none }
def fnExactOverlapRow : OpenClaim := { program := "ytnkkdiiheannaaa", sum := "03614a8b4dc896be024ea6a2a845d14daa693bf7d869bb7631cd4ad76bf8d53b", func := "loop.example/g00790/laws.FnExactOverlap", spec := "fnExactOverlap", unfollowed := true, recurses := true, apart := false }
def FnExactOverlapSaid : Prop := fnExactOverlapRow.holds Try.pinned (OpenSpec.ofChange fnExactOverlapSpec)

/-- ITS FALSE NEIGHBOUR: 'it returns false'. Refute it at one input. -/
def fnExactOverlapWrong : ChangeSpec := { name := "fnExactOverlap", fn := fun _ => fun
  | [d1, d2, d3] => { results := [.lit (.bool false)], args := [d1, d2, d3] }
  | _ => none }
def FnExactOverlapWrongFalsely : Prop := fnExactOverlapRow.holds Try.pinned (OpenSpec.ofChange fnExactOverlapWrong)

/-- 'laws.FnExactIsFew': WHATEVER THE INPUT: true; the input reads as it did. -/
def fnExactIsFewSpec : ChangeSpec := { name := "fnExactIsFew", fn := fun _ => fun
  | [d1, d2] => { results := [.lit (.bool true)], args := [d1, d2] }
  | _ => none }
def fnExactIsFewRow : OpenClaim := { program := "ytnkkdiiheannaaa", sum := "03614a8b4dc896be024ea6a2a845d14daa693bf7d869bb7631cd4ad76bf8d53b", func := "loop.example/g00790/laws.FnExactIsFew", spec := "fnExactIsFew", apart := false }
def FnExactIsFewSaid : Prop := fnExactIsFewRow.holds Try.pinned (OpenSpec.ofChange fnExactIsFewSpec)

/-- ITS FALSE NEIGHBOUR: 'it returns false'. Refute it at one input. -/
def fnExactIsFewWrong : ChangeSpec := { name := "fnExactIsFew", fn := fun _ => fun
  | [d1, d2] => { results := [.lit (.bool false)], args := [d1, d2] }
  | _ => none }
def FnExactIsFewWrongFalsely : Prop := fnExactIsFewRow.holds Try.pinned (OpenSpec.ofChange fnExactIsFewWrong)

/-- 'laws.FnSign': WHATEVER THE INPUT: true; the input reads as it did. -/
def fnSignSpec : ChangeSpec := { name := "fnSign", fn := fun _ => fun
  | [d] => { results := [.lit (.bool true)], args := [d] }
  | _ => none }
def fnSignRow : OpenClaim := { program := "ytnkkdiiheannaaa", sum := "03614a8b4dc896be024ea6a2a845d14daa693bf7d869bb7631cd4ad76bf8d53b", func := "loop.example/g00790/laws.FnSign", spec := "fnSign", apart := false }
def FnSignSaid : Prop := fnSignRow.holds Try.pinned (OpenSpec.ofChange fnSignSpec)

/-- ITS FALSE NEIGHBOUR: 'it returns false'. Refute it at one input. -/
def fnSignWrong : ChangeSpec := { name := "fnSign", fn := fun _ => fun
  | [d] => { results := [.lit (.bool false)], args := [d] }
  | _ => none }
def FnSignWrongFalsely : Prop := fnSignRow.holds Try.pinned (OpenSpec.ofChange fnSignWrong)

/-- 'laws.FnExactLeast': WHATEVER THE INPUT: true; the input reads as it did. -/
def fnExactLeastSpec : ChangeSpec := { name := "fnExactLeast", fn := fun _ => fun
  | [d] => { results := [.lit (.bool true)], args := [d] }
  | _ => none }
def fnExactLeastRow : OpenClaim := { program := "ytnkkdiiheannaaa", sum := "03614a8b4dc896be024ea6a2a845d14daa693bf7d869bb7631cd4ad76bf8d53b", func := "loop.example/g00790/laws.FnExactLeast", spec := "fnExactLeast", recurses := true, apart := false }
def FnExactLeastSaid : Prop := fnExactLeastRow.holds Try.pinned (OpenSpec.ofChange fnExactLeastSpec)

/-- ITS FALSE NEIGHBOUR: 'it returns false'. Refute it at one input. -/
def fnExactLeastWrong : ChangeSpec := { name := "fnExactLeast", fn := fun _ => fun
  | [d] => { results := [.lit (.bool false)], args := [d] }
  | _ => none }
def FnExactLeastWrongFalsely : Prop := fnExactLeastRow.holds Try.pinned (OpenSpec.ofChange fnExactLeastWrong)

/-- 'laws.FnQc': WHATEVER THE INPUT: true; the input reads as it did. -/
def fnQcSpec : ChangeSpec := { name := "fnQc", fn := fun _ => fun
  | [d] => { results := [.lit (.bool true)], args := [d] }
  | _ => none }
def fnQcRow : OpenClaim := { program := "ytnkkdiiheannaaa", sum := "03614a8b4dc896be024ea6a2a845d14daa693bf7d869bb7631cd4ad76bf8d53b", func := "loop.example/g00790/laws.FnQc", spec := "fnQc", apart := false }
def FnQcSaid : Prop := fnQcRow.holds Try.pinned (OpenSpec.ofChange fnQcSpec)

/-- ITS FALSE NEIGHBOUR: 'it returns false'. Refute it at one input. -/
def fnQcWrong : ChangeSpec := { name := "fnQc", fn := fun _ => fun
  | [d] => { results := [.lit (.bool false)], args := [d] }
  | _ => none }
def FnQcWrongFalsely : Prop := fnQcRow.holds Try.pinned (OpenSpec.ofChange fnQcWrong)

/- THE SECOND FORM. 'bulk': how many values and letters a reading holds, each counted each time it is reached (what is shared counts as often as it is met; a slice's spare places count too). A statement '..UptoSaid' is the law's where the arguments, and the package variables that the reading takes, are together of bulk at most 1048576: NARROWER than '..Said'. Prove '..Said' where nothing that the law and all that it calls make is longer than what came in: it says more and counts as full. Else prove '..UptoSaid'. A law counts once. -/
mutual
def uptoBulk {H : Type} : DataW H → Nat
  | .lit (.string bytes) => bytes.length + 1
  | .lit _ => 1
  | .nil => 1
  | .ptr d => uptoBulk d + 1
  | .slice elems spare => uptoBulkAll elems + uptoBulkAll spare + 1
  | .agg parts => uptoBulkAll parts + 1
  | .iface _ d => uptoBulk d + 1
  | .map entries => uptoBulkEntries entries + 1
  | .held _ => 1
def uptoBulkAll {H : Type} : List (DataW H) → Nat
  | [] => 0
  | d :: r => uptoBulk d + uptoBulkAll r
def uptoBulkEntries {H : Type} : List (Lit × DataW H) → Nat
  | [] => 0
  | x :: r => uptoBulkEntry x + uptoBulkEntries r
def uptoBulkEntry {H : Type} : Lit × DataW H → Nat
  | (.string bytes, d) => bytes.length + uptoBulk d + 1
  | (_, d) => uptoBulk d + 1
 end
def uptoSmall : (H : Type) → List (DataW H) → Bool := fun _ ds => decide (uptoBulkAll ds ≤ 1048576)
def OpenSpec.upto (s : _root_.Go.ChangeSpec) : _root_.Go.OpenSpec := { _root_.Go.OpenSpec.ofChange s with cond := some uptoSmall }

/-- 'laws.FnExactPushOk', WHERE WHAT IT READS IS OF BULK AT MOST 1048576: true; the input reads as it did. -/
def fnExactPushOkUptoRow : OpenClaim := { program := "ytnkkdiiheannaaa", sum := "03614a8b4dc896be024ea6a2a845d14daa693bf7d869bb7631cd4ad76bf8d53b", func := "loop.example/g00790/laws.FnExactPushOk", spec := "fnExactPushOk", apart := false, narrowed := true }
def FnExactPushOkUptoSaid : Prop := fnExactPushOkUptoRow.holds Try.pinned (OpenSpec.upto fnExactPushOkSpec)

/-- 'laws.FnLeast', WHERE WHAT IT READS IS OF BULK AT MOST 1048576: true; the input reads as it did. -/
def fnLeastUptoRow : OpenClaim := { program := "ytnkkdiiheannaaa", sum := "03614a8b4dc896be024ea6a2a845d14daa693bf7d869bb7631cd4ad76bf8d53b", func := "loop.example/g00790/laws.FnLeast", spec := "fnLeast", recurses := true, apart := false, narrowed := true }
def FnLeastUptoSaid : Prop := fnLeastUptoRow.holds Try.pinned (OpenSpec.upto fnLeastSpec)

/-- 'laws.FnExactIsQuorum', WHERE WHAT IT READS IS OF BULK AT MOST 1048576: true; the input reads as it did. -/
def fnExactIsQuorumUptoRow : OpenClaim := { program := "ytnkkdiiheannaaa", sum := "03614a8b4dc896be024ea6a2a845d14daa693bf7d869bb7631cd4ad76bf8d53b", func := "loop.example/g00790/laws.FnExactIsQuorum", spec := "fnExactIsQuorum", apart := false, narrowed := true }
def FnExactIsQuorumUptoSaid : Prop := fnExactIsQuorumUptoRow.holds Try.pinned (OpenSpec.upto fnExactIsQuorumSpec)

/-- 'laws.FnExactOverlap', WHERE WHAT IT READS IS OF BULK AT MOST 1048576: true; the input reads as it did. -/
def fnExactOverlapUptoRow : OpenClaim := { program := "ytnkkdiiheannaaa", sum := "03614a8b4dc896be024ea6a2a845d14daa693bf7d869bb7631cd4ad76bf8d53b", func := "loop.example/g00790/laws.FnExactOverlap", spec := "fnExactOverlap", unfollowed := true, recurses := true, apart := false, narrowed := true }
def FnExactOverlapUptoSaid : Prop := fnExactOverlapUptoRow.holds Try.pinned (OpenSpec.upto fnExactOverlapSpec)

/-- 'laws.FnExactIsFew', WHERE WHAT IT READS IS OF BULK AT MOST 1048576: true; the input reads as it did. -/
def fnExactIsFewUptoRow : OpenClaim := { program := "ytnkkdiiheannaaa", sum := "03614a8b4dc896be024ea6a2a845d14daa693bf7d869bb7631cd4ad76bf8d53b", func := "loop.example/g00790/laws.FnExactIsFew", spec := "fnExactIsFew", apart := false, narrowed := true }
def FnExactIsFewUptoSaid : Prop := fnExactIsFewUptoRow.holds Try.pinned (OpenSpec.upto fnExactIsFewSpec)

/-- 'laws.FnSign', WHERE WHAT IT READS IS OF BULK AT MOST 1048576: true; the input reads as it did. -/
def fnSignUptoRow : OpenClaim := { program := "ytnkkdiiheannaaa", sum := "03614a8b4dc896be024ea6a2a845d14daa693bf7d869bb7631cd4ad76bf8d53b", func := "loop.example/g00790/laws.FnSign", spec := "fnSign", apart := false, narrowed := true }
def FnSignUptoSaid : Prop := fnSignUptoRow.holds Try.pinned (OpenSpec.upto fnSignSpec)

/-- 'laws.FnExactLeast', WHERE WHAT IT READS IS OF BULK AT MOST 1048576: true; the input reads as it did. -/
def fnExactLeastUptoRow : OpenClaim := { program := "ytnkkdiiheannaaa", sum := "03614a8b4dc896be024ea6a2a845d14daa693bf7d869bb7631cd4ad76bf8d53b", func := "loop.example/g00790/laws.FnExactLeast", spec := "fnExactLeast", recurses := true, apart := false, narrowed := true }
def FnExactLeastUptoSaid : Prop := fnExactLeastUptoRow.holds Try.pinned (OpenSpec.upto fnExactLeastSpec)

/-- 'laws.FnQc', WHERE WHAT IT READS IS OF BULK AT MOST 1048576: true; the input reads as it did. -/
def fnQcUptoRow : OpenClaim := { program := "ytnkkdiiheannaaa", sum := "03614a8b4dc896be024ea6a2a845d14daa693bf7d869bb7631cd4ad76bf8d53b", func := "loop.example/g00790/laws.FnQc", spec := "fnQc", apart := false, narrowed := true }
def FnQcUptoSaid : Prop := fnQcUptoRow.holds Try.pinned (OpenSpec.upto fnQcSpec)

end Rows
end Go.Proofs.Ytnkkdiiheannaaa
