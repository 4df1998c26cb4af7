/- Each function that the law FnExactPushOk reaches: what it computes, and that the machine's call does so. No condition beside those that each theorem names. -/
import Derived.Test.YtnkkdiiheannaaaProg
import Derived.Below
import Derived.Deep.Draws
import Derived.Deep.AppendLies
import Derived.Maps.AppendAt
import Derived.OwnWalk
import Derived.Laws.BytesArg
import Derived.Laws.MakeOwn
import Derived.Laws.OwnMore
import Derived.Deep.OwnRows
import Derived.Tactics
import Derived.Lib.ConvBytes
import Derived.Laws.Slices
import Derived.WalkKit
import Derived.KernelRfl
import Derived.RowKit3
import Derived.Deep.LoopGhost
import Derived.Deep.QuietTactic
import Derived.BigQuiet
import Derived.WideLaws
import Derived.Deep.DeepCutAuto
import Derived.Deep.CutBlock
import Derived.Deep.RegionHeld3
import Derived.Laws.Rows
import Derived.Lib.AppendStr
import Derived.ArgAppend
import Derived.Laws.IdiomCopy
import Derived.OrdersHeld
import Derived.Laws.BitsLemmas
import Derived.RowKit
import Derived.Test.YtnkkdiiheannaaaWWords
import Derived.Test.YtnkkdiiheannaaaWLast
import Derived.Test.YtnkkdiiheannaaaWTab
import Derived.Test.YtnkkdiiheannaaaWFour
import Derived.Test.YtnkkdiiheannaaaWQPut
import Derived.Test.YtnkkdiiheannaaaWApart
import Derived.Test.YtnkkdiiheannaaaWArr
import Derived.Test.YtnkkdiiheannaaaWZeros
import Derived.Test.YtnkkdiiheannaaaWFoot
import Derived.Test.YtnkkdiiheannaaaWKept
import Derived.Test.YtnkkdiiheannaaaWShare
import Derived.Test.YtnkkdiiheannaaaWN
import Derived.Test.YtnkkdiiheannaaaWFootNe
import Derived.Test.YtnkkdiiheannaaaWAt
import Derived.Test.YtnkkdiiheannaaaWEqStruct
import Derived.Test.YtnkkdiiheannaaaWRepsOne
import Derived.Test.YtnkkdiiheannaaaWInv
import Derived.Test.YtnkkdiiheannaaaWInvWords
import Derived.Test.YtnkkdiiheannaaaWGuard
import Derived.Test.YtnkkdiiheannaaaWNEv
import Derived.Test.YtnkkdiiheannaaaWMore
namespace Go.Proofs.Ytnkkdiiheannaaa.PFnExactPushOk
open Go.RowKit Go.Proofs.YtnkkdiiheannaaaW.PrintWords Go.Proofs.YtnkkdiiheannaaaW.PrintLast Go.Proofs.YtnkkdiiheannaaaW.PrintMore
attribute [local go_sem] max2_int min2_int max_two min_two max_three min_three max_four min_four   -- for this text's walks alone
set_option linter.unusedVariables false
set_option linter.unusedSimpArgs false



def errW : Option Int → Value
  | none => .nilIface
  | some c => .iface 0 (.int .i64 c)
theorem errW_none : errW none = .nilIface := rfl
theorem errW_some (c : Int) : errW (some c) = .iface 0 (.int .i64 c) := rfl

theorem info5 : (Try.prog.info? 5).map (fun i => (i.zero, i.size, i.bytes)) = some (some (.int .u8 0), 1, 1) := by kernel_rfl
-- the values' own types

end Go.Proofs.Ytnkkdiiheannaaa.PFnExactPushOk
