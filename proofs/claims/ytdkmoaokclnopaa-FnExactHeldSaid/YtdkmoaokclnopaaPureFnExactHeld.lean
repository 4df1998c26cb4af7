/- The law FnExactHeld over numbers and lists alone. No condition beside what each argument's kind says. -/
import Derived.Test.YtdkmoaokclnopaaQFnExactHeld
namespace Go.Proofs.Ytdkmoaokclnopaa.PFnExactHeld
open Go.RowKit Go.Proofs.YtdkmoaokclnopaaW.PrintWords Go.Proofs.YtdkmoaokclnopaaW.PrintLast Go.Proofs.YtdkmoaokclnopaaW.PrintMore Go.Proofs.YtdkmoaokclnopaaR

theorem FnExactHeld (a0_0 : Int) (l0_1 : List Int) (h0 : ((Lit.int .i64 a0_0).wf = true ∧ (l0_1.length ≤ 9223372036854775807 ∧ ∀ x ∈ l0_1, (Lit.int .u8 x).wf = true))) : ∃ k, laws_FnExactHeld.f k a0_0 l0_1 = some true := by
  refine Ev.rounds ?_
  obtain ⟨g0_0, g0_1⟩ := h0
  unfold laws_FnExactHeld.f
  obtain ⟨r_1, e_2, s_3⟩ := laws_szPush.ev a0_0 l0_1 (g0_1.1) 1048576 (by omega) (by omega)
  rcases s_3 with rfl | ⟨p_4, q_5, ok_6⟩
  · exact Ev.bind e_2 (ev_pos (by omega) (ev_some rfl))
  refine Ev.bind e_2 (ev_neg (by omega) ?_)
  have nc_7 : niceB l0_1 := niceB_of g0_1 ok_6
  refine Ev.bind (laws_toPush.ev a0_0 l0_1 ok_6) ?_
  refine Ev.bind (spec_Held.ev _ _) ?_
  refine Ev.bind (laws_toPush.ev a0_0 l0_1 ok_6) ?_
  refine Ev.bind (impl_Held.ev _ _) ?_
  refine ev_pos (by first | rfl | trivial | simp | omega) ?_
  refine Ev.bind (laws_toPush.ev a0_0 l0_1 ok_6) ?_
  refine Ev.bind (laws_eqPush.ev _ _ ok_6) ?_
  refine ev_pos rfl ?_
  exact ev_some rfl
end Go.Proofs.Ytdkmoaokclnopaa.PFnExactHeld
