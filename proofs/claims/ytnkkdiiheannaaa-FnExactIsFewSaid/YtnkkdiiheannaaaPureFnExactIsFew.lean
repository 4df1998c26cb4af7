/- The law FnExactIsFew over numbers and lists alone. No condition beside what each argument's kind says. -/
import Derived.Test.YtnkkdiiheannaaaQFnExactIsFew
namespace Go.Proofs.Ytnkkdiiheannaaa.PFnExactIsFew
open Go.RowKit Go.Proofs.YtnkkdiiheannaaaW.PrintWords Go.Proofs.YtnkkdiiheannaaaW.PrintLast Go.Proofs.YtnkkdiiheannaaaW.PrintMore Go.Proofs.YtnkkdiiheannaaaR
set_option linter.unusedVariables false

theorem FnExactIsFew (l0_0 : List S131) (h0 : (l0_0.length ≤ 9223372036854775807 ∧ ∀ x ∈ l0_0, good131 x)) (l1 : List Int) (h1 : (l1.length ≤ 9223372036854775807 ∧ ∀ x ∈ l1, (Lit.int .u8 x).wf = true)) : ∃ k, laws_FnExactIsFew.f k l0_0 l1 = some true := by
  refine Ev.rounds ?_
  have g0_0 := h0
  unfold laws_FnExactIsFew.f
  refine ev_ite (fun _ => ev_some rfl) (fun c_1 => ?_)
  have ok_2 : okB l1 := by unfold okB; omega
  have nc_3 : niceB l1 := niceB_of h1 ok_2
  obtain ⟨r_4, e_5, s_6⟩ := laws_szTable.ev l0_0 ((⟨g0_0.1, fun y hy => good131_fit (g0_0.2 y hy)⟩)) 1048576 (by omega) (by omega)
  rcases s_6 with rfl | ⟨p_7, q_8, ok_9⟩
  · exact Ev.bind e_5 (ev_pos (by omega) (ev_some rfl))
  refine Ev.bind e_5 (ev_neg (by omega) ?_)
  have nc_10 : nL131 l0_0 := ⟨ok_9.1, fun y hy => nice131_of (g0_0.2 y hy) (ok_9.2 y hy)⟩
  refine Ev.bind (laws_toTable.ev l0_0 ok_9) ?_
  refine Ev.bind (laws_toByteS.ev l1 ok_2) ?_
  refine Ev.bind (spec_IsFew.ev _ _ (nL131_cv nc_10) nc_3) ?_
  refine Ev.bind (laws_toTable.ev l0_0 ok_9) ?_
  refine Ev.bind (laws_toByteS.ev l1 ok_2) ?_
  refine Ev.bind (impl_IsFew.ev _ _ (nL131_cv nc_10) nc_3) ?_
  refine ev_neg (by first | omega | simp) ?_
  refine Ev.bind (laws_toTable.ev l0_0 ok_9) ?_
  refine Ev.bind (laws_eqTable.ev _ ((oL131_cv ok_9))) ?_
  refine ev_pos rfl ?_
  refine Ev.bind (laws_toByteS.ev l1 ok_2) ?_
  refine Ev.bind (laws_eqByteS.ev _ ok_2) ?_
  refine ev_pos rfl ?_
  exact ev_some rfl
end Go.Proofs.Ytnkkdiiheannaaa.PFnExactIsFew
