/- The law FnExactMostHeld over numbers and lists alone. No condition beside what each argument's kind says. -/
import Derived.Test.YtdkmoaokclnopaaQFnExactMostHeld
namespace Go.Proofs.Ytdkmoaokclnopaa.PFnExactMostHeld
open Go.RowKit Go.Proofs.YtdkmoaokclnopaaW.PrintWords Go.Proofs.YtdkmoaokclnopaaW.PrintLast Go.Proofs.YtdkmoaokclnopaaW.PrintMore Go.Proofs.YtdkmoaokclnopaaR

theorem FnExactMostHeld (a0_0 : Int) (a0_1 : Int) (a0_2 : Int) (a0_3 : Int) (a0_4 : Int) (h0 : ((Lit.int .i64 a0_0).wf = true ∧ (Lit.int .i64 a0_1).wf = true ∧ (Lit.int .i64 a0_2).wf = true ∧ (Lit.int .i64 a0_3).wf = true ∧ (Lit.int .i64 a0_4).wf = true)) : laws_FnExactMostHeld.f a0_0 a0_1 a0_2 a0_3 a0_4 = some true := by
  refine ev_uniq0 ?_
  obtain ⟨g0_0, g0_1, g0_2, g0_3, g0_4⟩ := h0
  unfold laws_FnExactMostHeld.f
  refine Ev.bind (laws_toLimits.ev a0_0 a0_1 a0_2 a0_3 a0_4) ?_
  refine Ev.bind (spec_MostHeld.ev _ _ _ _ _) ?_
  refine Ev.bind (laws_toLimits.ev a0_0 a0_1 a0_2 a0_3 a0_4) ?_
  refine Ev.bind (impl_MostHeld.ev _ _ _ _ _) ?_
  refine ev_pos (by first | rfl | trivial | simp | omega) ?_
  exact ev_some rfl
end Go.Proofs.Ytdkmoaokclnopaa.PFnExactMostHeld
