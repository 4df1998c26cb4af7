/- The row of the law FnExactViews: whatever the arguments hold, the law returns true and leaves them as they were. No condition. -/
import Derived.Test.YthocpcfjfgnkgaaRows
import Derived.WalkKit
import Derived.ProofKit
import Derived.OpenShut
import Derived.ShutString
import Derived.ChangeOld
import Derived.Below
import Derived.SizedLaws
import Derived.Test.YthocpcfjfgnkgaaQFnExactViews
namespace Go.Proofs.Ythocpcfjfgnkgaa.fnExactViews
open Go Go.Proofs.YthocpcfjfgnkgaaRv Go.Proofs Go.Proofs.YthocpcfjfgnkgaaG Go.ChangeShapes Go.WideShapes Go.ChangeAt Go.RowKit
open Go.ChangeMaps (open_string shut_string)
set_option linter.unusedVariables false
theorem own : ownKnob Try.prog.godebug = none := by kernel_rfl
theorem laidOut : laidOutB Try.prog = true := by kernel_rfl
section
variable {H : Type} {enc : TypeId × Value → H} {W : World}
set_option maxRecDepth 100000 in
theorem rd3 : RdT enc Try.prog W 3 (fun xs => ∃ x : Int, xs = [.int .i64 x] ∧ goodI x) := fun fuel cs x h => by
  obtain ⟨xs, h1, h2, n, rfl, g⟩ := (rdT_int Try.underlying3 (by kernel_rfl) : RdT enc Try.prog W 3 _) fuel cs x h
  exact ⟨_, h1, h2, n, rfl, g⟩
set_option maxRecDepth 100000 in
theorem rd22 : RdT enc Try.prog W 22 (fun xs => ∃ x : By, xs = [.nums 5 .u8 x.z x.l] ∧ By.good x) := fun fuel cs x h => by
  obtain ⟨xs, h1, h2, z, l, rfl, g⟩ := (rdT_nums Try.underlying22 Try.underlying5 (by kernel_rfl) (by kernel_rfl) : RdT enc Try.prog W 22 _) fuel cs x h
  exact ⟨_, h1, h2, ⟨z, l⟩, rfl, g⟩
set_option maxRecDepth 100000 in
theorem rd64 : RdT enc Try.prog W 64 (fun xs => ∃ x : Vt, xs = x.t.cells ∧ Vt.good x) := fun fuel cs x h => by
  obtain ⟨xs, h1, h2, p0, q0, rfl, ⟨x0, rfl, g0⟩, ⟨p1, q1, rfl, ⟨x1, rfl, g1⟩, ⟨p2, q2, rfl, ⟨x2, rfl, g2⟩, ⟨p3, q3, rfl, ⟨x3, rfl, g3⟩, ⟨x4, rfl, g4⟩⟩⟩⟩⟩ := (rdT_struct Try.underlying64 (by kernel_rfl) (rdF_cons (by kernel_rfl) rd3 (rdF_cons (by kernel_rfl) rd3 (rdF_cons (by kernel_rfl) rd22 (rdF_cons (by kernel_rfl) rd3 (rdF_one (by kernel_rfl) rd22))))) : RdT enc Try.prog W 64 _) fuel cs x h
  exact ⟨_, h1, h2, ⟨x0, x1, x2.z, x2.l, x3, x4.z, x4.l⟩, rfl, g0, g1, g2, g3, g4⟩
set_option maxRecDepth 100000 in
theorem rd40 : RdT enc Try.prog W 40 (fun xs => ∃ x : Sl Vt, xs = [.sl 64 x.z (x.l.map Vt.t)] ∧ GoodL Vt.good x.l) := fun fuel cs x h => by
  obtain ⟨_, h1, h2, z, l, rfl, h3, g⟩ := (rdT_sl Try.underlying40 (by kernel_rfl) rd64 (fun xs ⟨s, e, _⟩ => by subst e; kernel_rfl) (fun xs ⟨s, e, _⟩ => by subst e; kernel_rfl) (by kernel_rfl) (of_decide_eq_true (by kernel_rfl)) : RdT enc Try.prog W 40 _) fuel cs x h
  obtain ⟨rows, rfl, gr⟩ := forms (f := Vt.t) (N := Vt.good) (l := l) (fun x hx => by
    obtain ⟨ys, ⟨s, e, n1⟩, rfl⟩ := g x hx
    subst e
    exact ⟨s, by kernel_rfl, n1⟩)
  exact ⟨_, h1, h2, ⟨z, rows⟩, rfl, by simpa using h3, gr⟩
end
set_option maxRecDepth 100000 in
set_option maxHeartbeats 1000000 in
theorem lifted (os : Os) (started : os.Started) (H : Type) (enc : TypeId × Value → H) :
    ReturnsInHanded {} Try.checked os 4 .any (Rows.fnExactViewsSpec.pre6 enc Try.prog Try.f4 Rows.fnExactViewsRow.domain false) (Rows.fnExactViewsSpec.post enc Try.prog Try.f4 false true false false) := by
  refine returnsInHanded_of_change_sized (C := Try.checked) own started (by kernel_rfl) Try.func4
    (ChangeSpec.witness6 (enc := enc) (C := Try.checked) false ⟨#[], #[.slice none 0 0], []⟩ 12 (by kernel_rfl) (by kernel_rfl) (by kernel_rfl) (by kernel_rfl)) ?_
  intro W base args ds gs before hval0 hW hcnd hsz0 _
  have hval : ∀ (j : Nat) t v, Try.f4.params[j]? = some t → args[j]? = some v → Value.okWide Try.prog W .any base t v := hval0
  have hW' := hW
  obtain ⟨p, q, hA0, hV, rfl, hfz, hnd⟩ := hW
  have hA : DataW.TrodAll enc Try.prog W 0 (fun _ => true) true Try.f4.params.toList args.toList ds p := hA0
  rw [Try.params4] at hA hval
  obtain ⟨v0, vs0, d0, ds0, p0, q0, hargs, rfl, rfl, h0, r0⟩ := trodAll_cons hA
  obtain ⟨rfl, rfl, rfl⟩ := trodAll_nil r0
  obtain rfl : args = #[v0] := by cases args; simp_all
  obtain ⟨rfl, rfl⟩ := trodVars_none hV
  have k0_ := h0
  have lt0 : ∀ x ∈ p0, x.block < W.heap.size := by obtain ⟨m, hm⟩ := k0_; exact DataW.trod_lt m _ _ _ hm
  obtain ⟨A0_, n0_, c0_, rfl⟩ := okWide_slice Try.underlying40 (hval 0 40 v0 rfl rfl)
  obtain ⟨_, e0, x0, rfl, g0⟩ := rdT_trod rd40 h0
  obtain ⟨k, hf⟩ := (laws_FnExactViews.top x0 g0).rounds
  have call := law_call (laws_FnExactViews.sound k) (ts := [.sl 64 x0.z (x0.l.map Vt.t)]) (vs := [.slice A0_ n0_ c0_])
    (rdL_cons (rdL_one (v := .slice A0_ n0_ c0_) e0) rdL_nil) (by
      show (laws_FnExactViews.f k x0.z (x0.l.map Vt.t)).map laws_FnExactViews.enc = _
      rw [hf]
      rfl)
  refine call.mono fun e W' ⟨he, bel0⟩ => ?_
  have bel : Below W.heap.size W W' := bel0
  subst he
  exact ⟨_, rfl, _, _, _, [], _, [], hW', trodAll_mk1 (shut_bool Try.underlying4 _), (trodAll_cons_mk (Below.trod laidOut (by kernel_rfl) (of_decide_eq_true (by kernel_rfl)) k0_ bel lt0) trodAll_mk0), rfl, bel.frame _, fun h => by cases h⟩
theorem over : Rows.fnExactViewsRow.holds Try.pinned (OpenSpec.ofChange Rows.fnExactViewsSpec) :=
  OpenClaim.holds_of_wide 4 Try.f4 rfl rfl rfl rfl rfl rfl rfl ⟨rfl, rfl, rfl, rfl, rfl⟩ rfl rfl rfl rfl rfl (by kernel_rfl) Try.func4 (by kernel_rfl)
    (of_decide_eq_true (by kernel_rfl)) (by unfold Func.isWrapper; first | (rw [if_pos (by decide +kernel)]; kernel_rfl) | (rw [if_neg (by decide +kernel)]; exact ⟨rfl, rfl⟩))
    (fun os started H enc _ => lifted os started H enc)
theorem proved : Rows.FnExactViewsSaid := over
#print axioms proved
end Go.Proofs.Ythocpcfjfgnkgaa.fnExactViews
namespace Go.Proofs.Ythocpcfjfgnkgaa
theorem fnExactViews_holds : Rows.FnExactViewsSaid := fnExactViews.proved
end Go.Proofs.Ythocpcfjfgnkgaa
