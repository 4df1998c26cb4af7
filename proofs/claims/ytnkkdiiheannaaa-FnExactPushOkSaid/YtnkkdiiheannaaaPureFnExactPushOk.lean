/- The law FnExactPushOk over numbers and lists alone. No condition beside what each argument's kind says. -/
import Derived.Test.YtnkkdiiheannaaaQFnExactPushOk
namespace Go.Proofs.Ytnkkdiiheannaaa.PFnExactPushOk
open Go.RowKit Go.Proofs.YtnkkdiiheannaaaW.PrintWords Go.Proofs.YtnkkdiiheannaaaW.PrintLast Go.Proofs.YtnkkdiiheannaaaW.PrintMore Go.Proofs.YtnkkdiiheannaaaR
set_option linter.unusedVariables false

theorem FnExactPushOk (a0_0 : Int) (a0_1 : Int) (a0_2 : Int) (a0_3 : Int) (a0_4 : Int) (h0 : ((Lit.int .i64 a0_0).wf = true ∧ (Lit.int .i64 a0_1).wf = true ∧ (Lit.int .i64 a0_2).wf = true ∧ (Lit.int .i64 a0_3).wf = true ∧ (Lit.int .i64 a0_4).wf = true)) (a1_0 : Int) (l1_1 : List Int) (h1 : ((Lit.int .i64 a1_0).wf = true ∧ (l1_1.length ≤ 9223372036854775807 ∧ ∀ x ∈ l1_1, (Lit.int .u8 x).wf = true))) : ∃ k, laws_FnExactPushOk.f k a0_0 a0_1 a0_2 a0_3 a0_4 a1_0 l1_1 = some true := by
  refine Ev.rounds ?_
  obtain ⟨g0_0, g0_1, g0_2, g0_3, g0_4⟩ := h0
  obtain ⟨g1_0, g1_1⟩ := h1
  unfold laws_FnExactPushOk.f
  obtain ⟨r_1, e_2, s_3⟩ := laws_szPush.ev a1_0 l1_1 (g1_1.1) 1048576 (by omega) (by omega)
  rcases s_3 with rfl | ⟨p_4, q_5, ok_6⟩
  · exact Ev.bind e_2 (ev_pos (by omega) (ev_some rfl))
  refine Ev.bind e_2 (ev_neg (by omega) ?_)
  have nc_7 : niceB l1_1 := niceB_of g1_1 ok_6
  refine Ev.bind (laws_toLimits.ev a0_0 a0_1 a0_2 a0_3 a0_4) ?_
  refine Ev.bind (laws_toPush.ev a1_0 l1_1 ok_6) ?_
  refine Ev.bind (spec_PushOk.ev _ _ _ _ _ _ _ nc_7) ?_
  refine Ev.bind (laws_toPush.ev a1_0 l1_1 ok_6) ?_
  refine Ev.bind (laws_toLimits.ev a0_0 a0_1 a0_2 a0_3 a0_4) ?_
  refine Ev.bind (impl_PushOk.ev _ _ _ _ _ _ _ nc_7) ?_
  refine ev_neg (by first | omega | simp) ?_
  refine Ev.bind (laws_toPush.ev a1_0 l1_1 ok_6) ?_
  refine Ev.bind (laws_eqPush.ev _ _ ok_6) ?_
  refine ev_pos rfl ?_
  exact ev_some rfl
end Go.Proofs.Ytnkkdiiheannaaa.PFnExactPushOk
