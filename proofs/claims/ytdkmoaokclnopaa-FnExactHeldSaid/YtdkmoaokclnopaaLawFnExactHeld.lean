/- The row of the law FnExactHeld: whatever the arguments hold, the law returns true and leaves them as they were. No condition. -/
import Derived.Test.YtdkmoaokclnopaaRows
import Derived.Test.YtdkmoaokclnopaaFFnExactHeldx1
import Derived.Test.YtdkmoaokclnopaaPureFnExactHeld
import Derived.Test.YtdkmoaokclnopaaRd
import Derived.WalkKit
import Derived.ProofKit
import Derived.OpenShut
import Derived.ShutString
import Derived.ChangeOld
import Derived.Below
import Derived.SizedLaws
namespace Go.Proofs.Ytdkmoaokclnopaa.fnExactHeld
open Go.ChangeShapes Go.WideShapes Go.ChangeAt Go.RowKit Go.Proofs.Ytdkmoaokclnopaa.PFnExactHeld Go.Proofs.YtdkmoaokclnopaaR Go.Proofs.YtdkmoaokclnopaaW.PrintWords
open Go.ChangeMaps (open_string shut_string)
set_option linter.unusedVariables false
theorem own : ownKnob Try.prog.godebug = none := by kernel_rfl
theorem laidOut : laidOutB Try.prog = true := by kernel_rfl
set_option maxRecDepth 100000 in
set_option maxHeartbeats 1000000 in
theorem lifted (os : Os) (started : os.Started) (H : Type) (enc : TypeId × Value → H) :
    ReturnsInHanded {} Try.checked os 7 .any (Rows.fnExactHeldSpec.pre6 enc Try.prog Try.f7 Rows.fnExactHeldRow.domain false) (Rows.fnExactHeldSpec.post enc Try.prog Try.f7 false true false false) := by
  refine returnsInHanded_of_change_sized (C := Try.checked) own started (by kernel_rfl) Try.func7
    (ChangeSpec.witness6 (enc := enc) (C := Try.checked) false ⟨#[], #[.agg #[.int .i64 0, .slice none 0 0]], []⟩ 12 (by kernel_rfl) (by kernel_rfl) (by kernel_rfl) (by kernel_rfl)) ?_
  intro W base args ds gs before hval0 hW hcnd hsz0 _
  have hval : ∀ (j : Nat) t v, Try.f7.params[j]? = some t → args[j]? = some v → Value.okWide Try.prog W .any base t v := hval0
  have hW' := hW
  obtain ⟨p, q, hA0, hV, rfl, hfz, hnd⟩ := hW
  have hA : DataW.TrodAll enc Try.prog W 0 (fun _ => true) true Try.f7.params.toList args.toList ds p := hA0
  rw [Try.params7] at hA hval
  obtain ⟨v0, vs0, d0, ds0, p0, q0, hargs, rfl, rfl, h0, r0⟩ := trodAll_cons hA
  obtain ⟨rfl, rfl, rfl⟩ := trodAll_nil r0
  obtain rfl : args = #[v0] := by cases args; simp_all
  obtain ⟨rfl, rfl⟩ := trodVars_none hV
  have k0_ := h0
  have lt0 : ∀ x ∈ p0, x.block < W.heap.size := by obtain ⟨m, hm⟩ := k0_; exact DataW.trod_lt m _ _ _ hm
  obtain ⟨cs0, rfl, hsz0⟩ := okWide_struct Try.underlying36 (hval 0 36 v0 rfl rfl)
  obtain ⟨⟨a0_0, l0_1⟩, hk0, g0⟩ := rdr_trod (rdr_struct Try.underlying36 (by kernel_rfl) (rdrF_cons rfl (rdr_int Try.underlying3 (by kernel_rfl)) (rdrF_one rfl (rdr_slice (0 : Int) Try.underlying30 (by kernel_rfl) (rdr_int Try.underlying5 (by kernel_rfl)))))) h0
  obtain ⟨_, _, e0_, rfl, ⟨A0_1, c0_1, rfl, hc0_1, hr0_1⟩⟩ := hk0
  obtain rfl : cs0 = #[.int .i64 a0_0, .slice A0_1 l0_1.length c0_1] := by
    apply Array.toList_inj.1
    simpa [Value.cells] using e0_
  obtain ⟨k, hf⟩ := PFnExactHeld.FnExactHeld a0_0 l0_1 g0
  refine (laws_FnExactHeld.calls k a0_0 A0_1 c0_1 l0_1 true W hr0_1 hc0_1 hf).mono fun e W' ⟨he, bel0⟩ => ?_
  have bel : Below W.heap.size W W' := bel0
  subst he
  exact ⟨_, rfl, _, _, _, [], _, [], hW', trodAll_mk1 (shut_bool Try.underlying4 _), (trodAll_cons_mk (Below.trod laidOut (by kernel_rfl) (of_decide_eq_true (by kernel_rfl)) k0_ bel lt0) trodAll_mk0), rfl, bel.frame _, fun h => by cases h⟩
theorem over : Rows.fnExactHeldRow.holds Try.pinned (OpenSpec.ofChange Rows.fnExactHeldSpec) :=
  OpenClaim.holds_of_wide 7 Try.f7 rfl rfl rfl rfl rfl rfl rfl ⟨rfl, rfl, rfl, rfl, rfl⟩ rfl rfl rfl rfl rfl (by kernel_rfl) Try.func7 (by kernel_rfl)
    (of_decide_eq_true (by kernel_rfl)) (by unfold Func.isWrapper; first | (rw [if_pos (by decide +kernel)]; kernel_rfl) | (rw [if_neg (by decide +kernel)]; exact ⟨rfl, rfl⟩))
    (fun os started H enc _ => lifted os started H enc)
theorem proved : Rows.FnExactHeldSaid := over
#print axioms proved
end Go.Proofs.Ytdkmoaokclnopaa.fnExactHeld
namespace Go.Proofs.Ytdkmoaokclnopaa
theorem fnExactHeld_holds : Rows.FnExactHeldSaid := fnExactHeld.proved
end Go.Proofs.Ytdkmoaokclnopaa
