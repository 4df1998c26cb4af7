/- The row of the law FnExactMostHeld: whatever the arguments hold, the law returns true and leaves them as they were. No condition. -/
import Derived.Test.YtdkmoaokclnopaaRows
import Derived.Test.YtdkmoaokclnopaaFFnExactMostHeldx1
import Derived.Test.YtdkmoaokclnopaaPureFnExactMostHeld
import Derived.Test.YtdkmoaokclnopaaRd
import Derived.WalkKit
import Derived.ProofKit
import Derived.OpenShut
import Derived.ShutString
import Derived.ChangeOld
import Derived.Below
import Derived.SizedLaws
namespace Go.Proofs.Ytdkmoaokclnopaa.fnExactMostHeld
open Go.ChangeShapes Go.WideShapes Go.ChangeAt Go.RowKit Go.Proofs.Ytdkmoaokclnopaa.PFnExactMostHeld Go.Proofs.YtdkmoaokclnopaaR Go.Proofs.YtdkmoaokclnopaaW.PrintWords
open Go.ChangeMaps (open_string shut_string)
set_option linter.unusedVariables false
theorem own : ownKnob Try.prog.godebug = none := by kernel_rfl
theorem laidOut : laidOutB Try.prog = true := by kernel_rfl
set_option maxRecDepth 100000 in
set_option maxHeartbeats 1000000 in
theorem lifted (os : Os) (started : os.Started) (H : Type) (enc : TypeId × Value → H) :
    ReturnsInHanded {} Try.checked os 5 .any (Rows.fnExactMostHeldSpec.pre6 enc Try.prog Try.f5 Rows.fnExactMostHeldRow.domain false) (Rows.fnExactMostHeldSpec.post enc Try.prog Try.f5 false true false false) := by
  refine returnsInHanded_of_change_sized (C := Try.checked) own started (by kernel_rfl) Try.func5
    (ChangeSpec.witness6 (enc := enc) (C := Try.checked) false ⟨#[], #[.agg #[.int .i64 0, .int .i64 0, .int .i64 0, .int .i64 0, .int .i64 0]], []⟩ 12 (by kernel_rfl) (by kernel_rfl) (by kernel_rfl) (by kernel_rfl)) ?_
  intro W base args ds gs before hval0 hW hcnd hsz0 _
  have hval : ∀ (j : Nat) t v, Try.f5.params[j]? = some t → args[j]? = some v → Value.okWide Try.prog W .any base t v := hval0
  have hW' := hW
  obtain ⟨p, q, hA0, hV, rfl, hfz, hnd⟩ := hW
  have hA : DataW.TrodAll enc Try.prog W 0 (fun _ => true) true Try.f5.params.toList args.toList ds p := hA0
  rw [Try.params5] at hA hval
  obtain ⟨v0, vs0, d0, ds0, p0, q0, hargs, rfl, rfl, h0, r0⟩ := trodAll_cons hA
  obtain ⟨rfl, rfl, rfl⟩ := trodAll_nil r0
  obtain rfl : args = #[v0] := by cases args; simp_all
  obtain ⟨rfl, rfl⟩ := trodVars_none hV
  have k0_ := h0
  have lt0 : ∀ x ∈ p0, x.block < W.heap.size := by obtain ⟨m, hm⟩ := k0_; exact DataW.trod_lt m _ _ _ hm
  obtain ⟨cs0, rfl, hsz0⟩ := okWide_struct Try.underlying25 (hval 0 25 v0 rfl rfl)
  obtain ⟨⟨a0_0, ⟨a0_1, ⟨a0_2, ⟨a0_3, a0_4⟩⟩⟩⟩, hk0, g0⟩ := rdr_trod (rdr_struct Try.underlying25 (by kernel_rfl) (rdrF_cons rfl (rdr_int Try.underlying3 (by kernel_rfl)) (rdrF_cons rfl (rdr_int Try.underlying3 (by kernel_rfl)) (rdrF_cons rfl (rdr_int Try.underlying3 (by kernel_rfl)) (rdrF_cons rfl (rdr_int Try.underlying3 (by kernel_rfl)) (rdrF_one rfl (rdr_int Try.underlying3 (by kernel_rfl)))))))) h0
  obtain ⟨_, _, e0_, rfl, ⟨_, _, rfl, rfl, ⟨_, _, rfl, rfl, ⟨_, _, rfl, rfl, rfl⟩⟩⟩⟩ := hk0
  obtain rfl : cs0 = #[.int .i64 a0_0, .int .i64 a0_1, .int .i64 a0_2, .int .i64 a0_3, .int .i64 a0_4] := by
    apply Array.toList_inj.1
    simpa [Value.cells] using e0_
  have hf := PFnExactMostHeld.FnExactMostHeld a0_0 a0_1 a0_2 a0_3 a0_4 g0
  refine (laws_FnExactMostHeld.calls a0_0 a0_1 a0_2 a0_3 a0_4 true W hf).mono fun e W' ⟨he, bel0⟩ => ?_
  have bel : Below W.heap.size W W' := bel0
  subst he
  exact ⟨_, rfl, _, _, _, [], _, [], hW', trodAll_mk1 (shut_bool Try.underlying4 _), (trodAll_cons_mk (Below.trod laidOut (by kernel_rfl) (of_decide_eq_true (by kernel_rfl)) k0_ bel lt0) trodAll_mk0), rfl, bel.frame _, fun h => by cases h⟩
theorem over : Rows.fnExactMostHeldRow.holds Try.pinned (OpenSpec.ofChange Rows.fnExactMostHeldSpec) :=
  OpenClaim.holds_of_wide 5 Try.f5 rfl rfl rfl rfl rfl rfl rfl ⟨rfl, rfl, rfl, rfl, rfl⟩ rfl rfl rfl rfl rfl (by kernel_rfl) Try.func5 (by kernel_rfl)
    (of_decide_eq_true (by kernel_rfl)) (by unfold Func.isWrapper; first | (rw [if_pos (by decide +kernel)]; kernel_rfl) | (rw [if_neg (by decide +kernel)]; exact ⟨rfl, rfl⟩))
    (fun os started H enc _ => lifted os started H enc)
theorem proved : Rows.FnExactMostHeldSaid := over
#print axioms proved
end Go.Proofs.Ytdkmoaokclnopaa.fnExactMostHeld
namespace Go.Proofs.Ytdkmoaokclnopaa
theorem fnExactMostHeld_holds : Rows.FnExactMostHeldSaid := fnExactMostHeld.proved
end Go.Proofs.Ytdkmoaokclnopaa
