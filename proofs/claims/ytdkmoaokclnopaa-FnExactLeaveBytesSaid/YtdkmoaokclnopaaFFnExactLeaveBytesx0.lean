/- Each function that the law FnExactLeaveBytes reaches: what it computes, and that the machine's call does so. No condition beside those that each theorem names. -/
import Derived.Test.YtdkmoaokclnopaaProg
import Derived.Below
import Derived.Deep.Draws
import Derived.Deep.AppendLies
import Derived.Maps.AppendAt
import Derived.OwnWalk
import Derived.Laws.BytesArg
import Derived.Laws.MakeOwn
import Derived.Laws.OwnMore
import Derived.Deep.OwnRows
import Derived.Tactics
import Derived.Lib.ConvBytes
import Derived.Laws.Slices
import Derived.WalkKit
import Derived.KernelRfl
import Derived.RowKit3
import Derived.Deep.LoopGhost
import Derived.Deep.QuietTactic
import Derived.BigQuiet
import Derived.WideLaws
import Derived.Deep.DeepCutAuto
import Derived.Deep.CutBlock
import Derived.Deep.RegionHeld3
import Derived.Laws.Rows
import Derived.Lib.AppendStr
import Derived.ArgAppend
import Derived.Laws.IdiomCopy
import Derived.OrdersHeld
import Derived.Laws.BitsLemmas
import Derived.RowKit
import Derived.Test.YtdkmoaokclnopaaWWords
import Derived.Test.YtdkmoaokclnopaaWLast
import Derived.Test.YtdkmoaokclnopaaWTab
import Derived.Test.YtdkmoaokclnopaaWFour
import Derived.Test.YtdkmoaokclnopaaWQPut
import Derived.Test.YtdkmoaokclnopaaWApart
import Derived.Test.YtdkmoaokclnopaaWArr
import Derived.Test.YtdkmoaokclnopaaWZeros
import Derived.Test.YtdkmoaokclnopaaWFoot
import Derived.Test.YtdkmoaokclnopaaWKept
import Derived.Test.YtdkmoaokclnopaaWShare
import Derived.Test.YtdkmoaokclnopaaWN
import Derived.Test.YtdkmoaokclnopaaWFootNe
import Derived.Test.YtdkmoaokclnopaaWAt
import Derived.Test.YtdkmoaokclnopaaWEqStruct
import Derived.Test.YtdkmoaokclnopaaWRepsOne
import Derived.Test.YtdkmoaokclnopaaWInv
import Derived.Test.YtdkmoaokclnopaaWInvWords
import Derived.Test.YtdkmoaokclnopaaWGuard
import Derived.Test.YtdkmoaokclnopaaWNEv
import Derived.Test.YtdkmoaokclnopaaWMore
namespace Go.Proofs.Ytdkmoaokclnopaa.PFnExactLeaveBytes
open Go.RowKit Go.Proofs.YtdkmoaokclnopaaW.PrintWords Go.Proofs.YtdkmoaokclnopaaW.PrintLast Go.Proofs.YtdkmoaokclnopaaW.PrintMore
attribute [local go_sem] max2_int min2_int max_two min_two max_three min_three max_four min_four   -- for this text's walks alone
set_option linter.unusedVariables false
set_option linter.unusedSimpArgs false



def errW : Option Int → Value
  | none => .nilIface
  | some c => .iface 0 (.int .i64 c)
theorem errW_none : errW none = .nilIface := rfl
theorem errW_some (c : Int) : errW (some c) = .iface 0 (.int .i64 c) := rfl

theorem info3 : (Try.prog.info? 3).map (fun i => (i.zero, i.size, i.bytes)) = some (some (.int .i64 0), 1, 8) := by kernel_rfl
theorem info5 : (Try.prog.info? 5).map (fun i => (i.zero, i.size, i.bytes)) = some (some (.int .u8 0), 1, 1) := by kernel_rfl
-- the values' own types

end Go.Proofs.Ytdkmoaokclnopaa.PFnExactLeaveBytes
