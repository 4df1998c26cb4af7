/- The law FnExactLeaveBytes over numbers and lists alone. No condition beside what each argument's kind says. -/
import Derived.Test.YtdkmoaokclnopaaQFnExactLeaveBytes
namespace Go.Proofs.Ytdkmoaokclnopaa.PFnExactLeaveBytes
open Go.RowKit Go.Proofs.YtdkmoaokclnopaaW.PrintWords Go.Proofs.YtdkmoaokclnopaaW.PrintLast Go.Proofs.YtdkmoaokclnopaaW.PrintMore Go.Proofs.YtdkmoaokclnopaaR
set_option linter.unusedVariables false

theorem FnExactLeaveBytes (a0 : Int) (h0 : (Lit.int .i64 a0).wf = true) (a1 : Int) (h1 : (Lit.int .i64 a1).wf = true) : ∃ k, laws_FnExactLeaveBytes.f k a0 a1 = some true := by
  refine Ev.rounds ?_
  unfold laws_FnExactLeaveBytes.f
  refine Ev.bind (spec_LeaveBytes.ev _ _) ?_
  refine Ev.bind (impl_LeaveBytes.ev _ _) ?_
  refine Ev.bind (laws_eqByteS.ev _ ((niceB_ok (impl_LeaveBytes.nice _ _)))) ?_
  refine ev_pos rfl ?_
  obtain ⟨n_1, ys_6, e_2, mk_3, lo_4, hi_5⟩ := laws_markByteS.ev _ ((niceB_ok (impl_LeaveBytes.nice _ _))) 1 (by omega) (by omega)
  refine Ev.bind e_2 ?_
  refine Ev.bind (laws_heldByteS.ev _ _ _ mk_3 (by omega)) ?_
  refine ev_neg (by first | omega | simp) ?_
  refine ev_pos (by first | rfl | trivial | simp | omega) ?_
  refine Ev.bind (impl_LeaveBytes.ev _ _) ?_
  refine Ev.bind (laws_eqByteS.ev _ ((niceB_ok (impl_LeaveBytes.nice _ _)))) ?_
  refine ev_pos rfl ?_
  refine Ev.bind (laws_heldByteS.ev _ _ _ mk_3 (by omega)) ?_
  refine ev_neg (by first | omega | simp) ?_
  refine ev_pos (by first | rfl | trivial | simp | omega) ?_
  exact ev_some rfl
end Go.Proofs.Ytdkmoaokclnopaa.PFnExactLeaveBytes
