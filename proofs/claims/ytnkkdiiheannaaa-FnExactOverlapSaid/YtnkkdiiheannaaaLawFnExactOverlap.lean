/- The row of the law FnExactOverlap: whatever the arguments hold, the law returns true and leaves them as they were. No condition. -/
import Derived.Test.YtnkkdiiheannaaaRows
import Derived.Test.YtnkkdiiheannaaaFFnExactOverlapx6
import Derived.Test.YtnkkdiiheannaaaPureFnExactOverlap
import Derived.Test.YtnkkdiiheannaaaRd
import Derived.WalkKit
import Derived.ProofKit
import Derived.OpenShut
import Derived.ShutString
import Derived.ChangeOld
import Derived.Below
import Derived.SizedLaws
namespace Go.Proofs.Ytnkkdiiheannaaa.fnExactOverlap
open Go.ChangeShapes Go.WideShapes Go.ChangeAt Go.RowKit Go.Proofs.Ytnkkdiiheannaaa.PFnExactOverlap Go.Proofs.YtnkkdiiheannaaaR Go.Proofs.YtnkkdiiheannaaaW.PrintWords
open Go.ChangeMaps (open_string shut_string)
set_option linter.unusedVariables false
theorem own : ownKnob Try.prog.godebug = none := by kernel_rfl
theorem laidOut : laidOutB Try.prog = true := by kernel_rfl
theorem rd131 {H : Type} {enc : TypeId × Value → H} {W : World} : Rdr enc Try.prog W 131 k131 (fun x => good131 x) := by
  exact rdr_iso (fun x : S131 => (x.f0, x.f1)) (fun a => ⟨a.1, a.2⟩) (fun _ => rfl) (rdr_struct Try.underlying131 (by kernel_rfl) (rdrF_cons rfl (rdr_int Try.underlying3 (by kernel_rfl)) (rdrF_one rfl (rdr_slice (0 : Int) Try.underlying24 (by kernel_rfl) (rdr_int Try.underlying5 (by kernel_rfl))))))
set_option maxRecDepth 100000 in
set_option maxHeartbeats 1000000 in
theorem lifted (os : Os) (started : os.Started) (H : Type) (enc : TypeId × Value → H) :
    ReturnsInHanded {} Try.checked os 6 .any (Rows.fnExactOverlapSpec.pre6 enc Try.prog Try.f6 Rows.fnExactOverlapRow.domain false) (Rows.fnExactOverlapSpec.post enc Try.prog Try.f6 false true false false) := by
  refine returnsInHanded_of_change_sized (C := Try.checked) own started (by kernel_rfl) Try.func6
    (ChangeSpec.witness6 (enc := enc) (C := Try.checked) false ⟨#[], #[.agg #[.slice none 0 0], .slice none 0 0, .slice none 0 0], []⟩ 12 (by kernel_rfl) (by kernel_rfl) (by kernel_rfl) (by kernel_rfl)) ?_
  intro W base args ds gs before hval0 hW hcnd hsz0 _
  have hval : ∀ (j : Nat) t v, Try.f6.params[j]? = some t → args[j]? = some v → Value.okWide Try.prog W .any base t v := hval0
  have hW' := hW
  obtain ⟨p, q, hA0, hV, rfl, hfz, hnd⟩ := hW
  have hA : DataW.TrodAll enc Try.prog W 0 (fun _ => true) true Try.f6.params.toList args.toList ds p := hA0
  rw [Try.params6] at hA hval
  obtain ⟨v0, vs0, d0, ds0, p0, q0, hargs, rfl, rfl, h0, r0⟩ := trodAll_cons hA
  obtain ⟨v1, vs1, d1, ds1, p1, q1, rfl, rfl, rfl, h1, r1⟩ := trodAll_cons r0
  obtain ⟨v2, vs2, d2, ds2, p2, q2, rfl, rfl, rfl, h2, r2⟩ := trodAll_cons r1
  obtain ⟨rfl, rfl, rfl⟩ := trodAll_nil r2
  obtain rfl : args = #[v0, v1, v2] := by cases args; simp_all
  obtain ⟨rfl, rfl⟩ := trodVars_none hV
  have k0_ := h0
  have lt0 : ∀ x ∈ p0, x.block < W.heap.size := by obtain ⟨m, hm⟩ := k0_; exact DataW.trod_lt m _ _ _ hm
  obtain ⟨cs0, rfl, hsz0⟩ := okWide_struct Try.underlying51 (hval 0 51 v0 rfl rfl)
  obtain ⟨l0_0, hk0, g0⟩ := rdr_trod (rdr_struct Try.underlying51 (by kernel_rfl) (rdrF_one rfl (rdr_slice z131 Try.underlying49 (by kernel_rfl) rd131))) h0
  obtain ⟨A0_0, c0_0, e0_, hc0_0, hr0_0⟩ := hk0
  obtain rfl : cs0 = #[.slice A0_0 l0_0.length c0_0] := by
    apply Array.toList_inj.1
    simpa [Value.cells] using e0_
  have k1_ := h1
  have lt1 : ∀ x ∈ p1, x.block < W.heap.size := by obtain ⟨m, hm⟩ := k1_; exact DataW.trod_lt m _ _ _ hm
  obtain ⟨A1_, n1_, c1_, rfl⟩ := okWide_slice Try.underlying24 (hval 1 24 v1 rfl rfl)
  obtain ⟨l1, ⟨A1, c1, e1, hc1, hr1⟩, g1⟩ := rdr_trod (rdr_slice (0 : Int) Try.underlying24 (by kernel_rfl) (rdr_int Try.underlying5 (by kernel_rfl))) h1
  obtain ⟨rfl, rfl, rfl⟩ : A1 = A1_ ∧ l1.length = n1_ ∧ c1 = c1_ := by simp [Value.cells] at e1; exact ⟨e1.1.symm, e1.2.1.symm, e1.2.2.symm⟩
  have k2_ := h2
  have lt2 : ∀ x ∈ p2, x.block < W.heap.size := by obtain ⟨m, hm⟩ := k2_; exact DataW.trod_lt m _ _ _ hm
  obtain ⟨A2_, n2_, c2_, rfl⟩ := okWide_slice Try.underlying24 (hval 2 24 v2 rfl rfl)
  obtain ⟨l2, ⟨A2, c2, e2, hc2, hr2⟩, g2⟩ := rdr_trod (rdr_slice (0 : Int) Try.underlying24 (by kernel_rfl) (rdr_int Try.underlying5 (by kernel_rfl))) h2
  obtain ⟨rfl, rfl, rfl⟩ : A2 = A2_ ∧ l2.length = n2_ ∧ c2 = c2_ := by simp [Value.cells] at e2; exact ⟨e2.1.symm, e2.2.1.symm, e2.2.2.symm⟩
  obtain ⟨k, hf⟩ := PFnExactOverlap.FnExactOverlap l0_0 g0 l1 g1 l2 g2
  refine (laws_FnExactOverlap.calls k A0_0 c0_0 l0_0 A1 c1 l1 A2 c2 l2 true W hr0_0 hc0_0 hr1 hc1 hr2 hc2 hf).mono fun e W' ⟨he, bel0⟩ => ?_
  have bel : Below W.heap.size W W' := bel0
  subst he
  exact ⟨_, rfl, _, _, _, [], _, [], hW', trodAll_mk1 (shut_bool Try.underlying4 _), (trodAll_cons_mk (Below.trod laidOut (by kernel_rfl) (of_decide_eq_true (by kernel_rfl)) k0_ bel lt0) (trodAll_cons_mk (Below.trod laidOut (by kernel_rfl) (of_decide_eq_true (by kernel_rfl)) k1_ bel lt1) (trodAll_cons_mk (Below.trod laidOut (by kernel_rfl) (of_decide_eq_true (by kernel_rfl)) k2_ bel lt2) trodAll_mk0))), rfl, bel.frame _, fun h => by cases h⟩
theorem over : Rows.fnExactOverlapRow.holds Try.pinned (OpenSpec.ofChange Rows.fnExactOverlapSpec) :=
  OpenClaim.holds_of_wide 6 Try.f6 rfl rfl rfl rfl rfl rfl rfl ⟨rfl, rfl, rfl, rfl, rfl⟩ rfl rfl rfl rfl rfl (by kernel_rfl) Try.func6 (by kernel_rfl)
    (of_decide_eq_true (by kernel_rfl)) (by unfold Func.isWrapper; first | (rw [if_pos (by decide +kernel)]; kernel_rfl) | (rw [if_neg (by decide +kernel)]; exact ⟨rfl, rfl⟩))
    (fun os started H enc _ => lifted os started H enc)
theorem proved : Rows.FnExactOverlapSaid := over
#print axioms proved
end Go.Proofs.Ytnkkdiiheannaaa.fnExactOverlap
namespace Go.Proofs.Ytnkkdiiheannaaa
theorem fnExactOverlap_holds : Rows.FnExactOverlapSaid := fnExactOverlap.proved
end Go.Proofs.Ytnkkdiiheannaaa
