/- The law FnExactVdName over numbers and lists alone. No condition beside what each argument's kind says. -/
import Derived.Test.YtdkmoaokclnopaaQFnExactVdName
namespace Go.Proofs.Ytdkmoaokclnopaa.PFnExactVdName
open Go.RowKit Go.Proofs.YtdkmoaokclnopaaW.PrintWords Go.Proofs.YtdkmoaokclnopaaW.PrintLast Go.Proofs.YtdkmoaokclnopaaW.PrintMore Go.Proofs.YtdkmoaokclnopaaR
set_option linter.unusedVariables false

theorem FnExactVdName (a0 : Int) (h0 : (Lit.int .i64 a0).wf = true) : laws_FnExactVdName.f a0 = some true := by
  refine ev_uniq0 ?_
  unfold laws_FnExactVdName.f
  refine Ev.bind (spec_VdName.ev _) ?_
  refine Ev.bind (impl_VdName.ev _) ?_
  refine ev_pos (by first | rfl | trivial | simp | omega) ?_
  exact ev_some rfl
end Go.Proofs.Ytdkmoaokclnopaa.PFnExactVdName
