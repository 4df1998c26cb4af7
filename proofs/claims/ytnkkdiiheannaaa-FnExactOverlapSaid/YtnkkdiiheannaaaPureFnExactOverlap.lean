/- The law FnExactOverlap over numbers and lists alone. No condition beside what each argument's kind says. -/
import Derived.Test.YtnkkdiiheannaaaQFnExactOverlap
namespace Go.Proofs.Ytnkkdiiheannaaa.PFnExactOverlap
open Go.RowKit Go.Proofs.YtnkkdiiheannaaaW.PrintWords Go.Proofs.YtnkkdiiheannaaaW.PrintLast Go.Proofs.YtnkkdiiheannaaaW.PrintMore Go.Proofs.YtnkkdiiheannaaaR
set_option linter.unusedVariables false

theorem FnExactOverlap (l0_0 : List S131) (h0 : (l0_0.length ≤ 9223372036854775807 ∧ ∀ x ∈ l0_0, good131 x)) (l1 : List Int) (h1 : (l1.length ≤ 9223372036854775807 ∧ ∀ x ∈ l1, (Lit.int .u8 x).wf = true)) (l2 : List Int) (h2 : (l2.length ≤ 9223372036854775807 ∧ ∀ x ∈ l2, (Lit.int .u8 x).wf = true)) : ∃ k, laws_FnExactOverlap.f k l0_0 l1 l2 = some true := by
  refine Ev.rounds ?_
  have g0_0 := h0
  unfold laws_FnExactOverlap.f
  refine ev_ite (fun _ => ev_some rfl) (fun c_1 => ?_)
  have ok_2 : okB l1 := by unfold okB; omega
  have nc_3 : niceB l1 := niceB_of h1 ok_2
  refine ev_ite (fun _ => ev_some rfl) (fun c_4 => ?_)
  have ok_5 : okB l2 := by unfold okB; omega
  have nc_6 : niceB l2 := niceB_of h2 ok_5
  obtain ⟨r_7, e_8, s_9⟩ := laws_szTable.ev l0_0 ((⟨g0_0.1, fun y hy => good131_fit (g0_0.2 y hy)⟩)) 1048576 (by omega) (by omega)
  rcases s_9 with rfl | ⟨p_10, q_11, ok_12⟩
  · exact Ev.bind e_8 (ev_pos (by omega) (ev_some rfl))
  refine Ev.bind e_8 (ev_neg (by omega) ?_)
  have nc_13 : nL131 l0_0 := ⟨ok_12.1, fun y hy => nice131_of (g0_0.2 y hy) (ok_12.2 y hy)⟩
  refine Ev.bind (laws_toTable.ev l0_0 ok_12) ?_
  refine Ev.bind (laws_toByteS.ev l1 ok_2) ?_
  refine Ev.bind (laws_toByteS.ev l2 ok_5) ?_
  refine Ev.bind (spec_Overlap.ev _ _ _ (nL131_cv nc_13) nc_3 nc_6) ?_
  refine Ev.bind (laws_toTable.ev l0_0 ok_12) ?_
  refine Ev.bind (laws_toByteS.ev l1 ok_2) ?_
  refine Ev.bind (laws_toByteS.ev l2 ok_5) ?_
  refine Ev.bind (impl_Overlap.ev _ _ _ (nL131_cv nc_13) nc_3 nc_6) ?_
  refine ev_pos (by first | rfl | trivial | simp | omega) ?_
  refine Ev.bind (laws_toTable.ev l0_0 ok_12) ?_
  refine Ev.bind (laws_eqTable.ev _ ((oL131_cv ok_12))) ?_
  refine ev_pos rfl ?_
  refine Ev.bind (laws_toByteS.ev l1 ok_2) ?_
  refine Ev.bind (laws_eqByteS.ev _ ok_2) ?_
  refine ev_pos rfl ?_
  refine Ev.bind (laws_toByteS.ev l2 ok_5) ?_
  refine Ev.bind (laws_eqByteS.ev _ ok_5) ?_
  refine ev_pos rfl ?_
  exact ev_some rfl
end Go.Proofs.Ytnkkdiiheannaaa.PFnExactOverlap
