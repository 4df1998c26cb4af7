/- The law FnExactVoteBytes over numbers and lists alone. No condition beside what each argument's kind says. -/
import Derived.Test.YtdkmoaokclnopaaQFnExactVoteBytes
namespace Go.Proofs.Ytdkmoaokclnopaa.PFnExactVoteBytes
open Go.RowKit Go.Proofs.YtdkmoaokclnopaaW.PrintWords Go.Proofs.YtdkmoaokclnopaaW.PrintLast Go.Proofs.YtdkmoaokclnopaaW.PrintMore Go.Proofs.YtdkmoaokclnopaaR
set_option linter.unusedVariables false

theorem FnExactVoteBytes (a0 : Int) (h0 : (Lit.int .i64 a0).wf = true) (a1 : Int) (h1 : (Lit.int .i64 a1).wf = true) (l2 : List Int) (h2 : (l2.length ≤ 9223372036854775807 ∧ ∀ x ∈ l2, (Lit.int .u8 x).wf = true)) : ∃ k, laws_FnExactVoteBytes.f k a0 a1 l2 = some true := by
  refine Ev.rounds ?_
  unfold laws_FnExactVoteBytes.f
  refine ev_ite (fun _ => ev_some rfl) (fun c_1 => ?_)
  have ok_2 : okB l2 := by unfold okB; omega
  have nc_3 : niceB l2 := niceB_of h2 ok_2
  refine Ev.bind (laws_toByteS.ev l2 ok_2) ?_
  refine Ev.bind (spec_VoteBytes.ev _ _ _ nc_3) ?_
  refine Ev.bind (laws_toByteS.ev l2 ok_2) ?_
  refine Ev.bind (impl_VoteBytes.ev _ _ _ nc_3) ?_
  refine Ev.bind (laws_eqByteS.ev _ ((niceB_ok (impl_VoteBytes.nice _ _ _ nc_3)))) ?_
  refine ev_pos rfl ?_
  refine Ev.bind (laws_toByteS.ev l2 ok_2) ?_
  refine Ev.bind (laws_eqByteS.ev _ ok_2) ?_
  refine ev_pos rfl ?_
  obtain ⟨n_4, ys_9, e_5, mk_6, lo_7, hi_8⟩ := laws_markByteS.ev _ ok_2 1 (by omega) (by omega)
  refine Ev.bind e_5 ?_
  refine ev_neg (by omega) ?_
  refine Ev.bind (laws_eqByteS.ev _ ((niceB_ok (impl_VoteBytes.nice _ _ _ nc_3)))) ?_
  refine ev_step ?_
  simp only [laws_FnExactVoteBytes.j0]
  refine ev_neg (by first | omega | simp) ?_
  obtain ⟨n_10, ys_15, e_11, mk_12, lo_13, hi_14⟩ := laws_markByteS.ev _ ((niceB_ok (impl_VoteBytes.nice _ _ _ nc_3))) 1 (by omega) (by omega)
  refine Ev.bind e_11 ?_
  refine Ev.bind (laws_heldByteS.ev _ _ _ mk_12 (by omega)) ?_
  refine ev_neg (by omega) ?_
  refine ev_pos (by first | rfl | trivial | simp | omega) ?_
  refine Ev.bind (laws_toByteS.ev l2 ok_2) ?_
  refine Ev.bind (impl_VoteBytes.ev _ _ _ nc_3) ?_
  refine Ev.bind (laws_eqByteS.ev _ ((niceB_ok (impl_VoteBytes.nice _ _ _ nc_3)))) ?_
  refine ev_pos rfl ?_
  refine Ev.bind (laws_heldByteS.ev _ _ _ mk_12 (by omega)) ?_
  refine ev_neg (by omega) ?_
  refine ev_pos (by first | rfl | trivial | simp | omega) ?_
  exact ev_some rfl
end Go.Proofs.Ytdkmoaokclnopaa.PFnExactVoteBytes
