/- The law FnExactTableSame over numbers and lists alone. No condition beside what each argument's kind says. -/
import Derived.Test.YtdkmoaokclnopaaQFnExactTableSame
namespace Go.Proofs.Ytdkmoaokclnopaa.PFnExactTableSame
open Go.RowKit Go.Proofs.YtdkmoaokclnopaaW.PrintWords Go.Proofs.YtdkmoaokclnopaaW.PrintLast Go.Proofs.YtdkmoaokclnopaaW.PrintMore Go.Proofs.YtdkmoaokclnopaaR
set_option linter.unusedVariables false

theorem FnExactTableSame (l0_0 : List S105) (h0 : (l0_0.length ≤ 9223372036854775807 ∧ ∀ x ∈ l0_0, good105 x)) (l1_0 : List S105) (h1 : (l1_0.length ≤ 9223372036854775807 ∧ ∀ x ∈ l1_0, good105 x)) : ∃ k, laws_FnExactTableSame.f k l0_0 l1_0 = some true := by
  refine Ev.rounds ?_
  have g0_0 := h0
  have g1_0 := h1
  unfold laws_FnExactTableSame.f
  obtain ⟨r_1, e_2, s_3⟩ := laws_szTable.ev l0_0 ((⟨g0_0.1, fun y hy => good105_fit (g0_0.2 y hy)⟩)) 1048576 (by omega) (by omega)
  rcases s_3 with rfl | ⟨p_4, q_5, ok_6⟩
  · exact Ev.bind e_2 (ev_pos (by omega) (ev_some rfl))
  refine Ev.bind e_2 (ev_neg (by omega) ?_)
  have nc_7 : nL105 l0_0 := ⟨ok_6.1, fun y hy => nice105_of (g0_0.2 y hy) (ok_6.2 y hy)⟩
  obtain ⟨r_8, e_9, s_10⟩ := laws_szTable.ev l1_0 ((⟨g1_0.1, fun y hy => good105_fit (g1_0.2 y hy)⟩)) r_1 p_4 (by omega)
  rcases s_10 with rfl | ⟨p_11, q_12, ok_13⟩
  · exact Ev.bind e_9 (ev_pos (by omega) (ev_some rfl))
  refine Ev.bind e_9 (ev_neg (by omega) ?_)
  have nc_14 : nL105 l1_0 := ⟨ok_13.1, fun y hy => nice105_of (g1_0.2 y hy) (ok_13.2 y hy)⟩
  refine Ev.bind (laws_toTable.ev l0_0 ok_6) ?_
  refine Ev.bind (laws_toTable.ev l1_0 ok_13) ?_
  refine Ev.bind (spec_TableSame.ev _ _ (nL105_cv nc_7) (nL105_cv nc_14)) ?_
  refine Ev.bind (laws_toTable.ev l0_0 ok_6) ?_
  refine Ev.bind (laws_toTable.ev l1_0 ok_13) ?_
  refine Ev.bind (impl_TableSame.ev _ _ (nL105_cv nc_7) (nL105_cv nc_14)) ?_
  refine ev_neg (by first | omega | simp) ?_
  refine Ev.bind (laws_toTable.ev l0_0 ok_6) ?_
  refine Ev.bind (laws_eqTable.ev _ ((oL105_cv ok_6))) ?_
  refine ev_pos rfl ?_
  refine Ev.bind (laws_toTable.ev l1_0 ok_13) ?_
  refine Ev.bind (laws_eqTable.ev _ ((oL105_cv ok_13))) ?_
  refine ev_pos rfl ?_
  exact ev_some rfl
end Go.Proofs.Ytdkmoaokclnopaa.PFnExactTableSame
