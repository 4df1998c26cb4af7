/- The law FnExactShort over numbers and lists alone. No condition beside what each argument's kind says. -/
import Derived.Test.YtdkmoaokclnopaaQFnExactShort
namespace Go.Proofs.Ytdkmoaokclnopaa.PFnExactShort
open Go.RowKit Go.Proofs.YtdkmoaokclnopaaW.PrintWords Go.Proofs.YtdkmoaokclnopaaW.PrintLast Go.Proofs.YtdkmoaokclnopaaW.PrintMore Go.Proofs.YtdkmoaokclnopaaR
set_option linter.unusedVariables false

theorem FnExactShort (l0 : List Int) (h0 : (l0.length ≤ 9223372036854775807 ∧ ∀ x ∈ l0, (Lit.int .u8 x).wf = true)) : ∃ k, laws_FnExactShort.f k l0 = some true := by
  refine Ev.rounds ?_
  unfold laws_FnExactShort.f
  refine ev_ite (fun _ => ev_some rfl) (fun c_1 => ?_)
  have ok_2 : okB l0 := by unfold okB; omega
  have nc_3 : niceB l0 := niceB_of h0 ok_2
  refine Ev.bind (laws_toByteS.ev l0 ok_2) ?_
  refine Ev.bind (spec_Short.ev _ nc_3) ?_
  refine Ev.bind (laws_toByteS.ev l0 ok_2) ?_
  refine Ev.bind (impl_Short.ev _ nc_3) ?_
  refine ev_pos (by first | rfl | trivial | simp | omega) ?_
  refine Ev.bind (laws_toByteS.ev l0 ok_2) ?_
  refine Ev.bind (laws_eqByteS.ev _ ok_2) ?_
  refine ev_pos rfl ?_
  exact ev_some rfl
end Go.Proofs.Ytdkmoaokclnopaa.PFnExactShort
