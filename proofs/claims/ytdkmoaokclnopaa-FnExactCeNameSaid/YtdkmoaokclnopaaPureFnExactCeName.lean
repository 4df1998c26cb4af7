/- The law FnExactCeName over numbers and lists alone. No condition beside what each argument's kind says. -/
import Derived.Test.YtdkmoaokclnopaaQFnExactCeName
namespace Go.Proofs.Ytdkmoaokclnopaa.PFnExactCeName
open Go.RowKit Go.Proofs.YtdkmoaokclnopaaW.PrintWords Go.Proofs.YtdkmoaokclnopaaW.PrintLast Go.Proofs.YtdkmoaokclnopaaW.PrintMore Go.Proofs.YtdkmoaokclnopaaR
set_option linter.unusedVariables false

theorem FnExactCeName (a0 : Int) (h0 : (Lit.int .i64 a0).wf = true) : laws_FnExactCeName.f a0 = some true := by
  refine ev_uniq0 ?_
  unfold laws_FnExactCeName.f
  refine Ev.bind (spec_CeName.ev _) ?_
  refine Ev.bind (impl_CeName.ev _) ?_
  refine ev_pos (by first | rfl | trivial | simp | omega) ?_
  exact ev_some rfl
end Go.Proofs.Ytdkmoaokclnopaa.PFnExactCeName
