/- The row of the law FnExactLeast: whatever the arguments hold, the law returns true and leaves them as they were. No condition. -/
import Derived.Test.YtadnejogdohfkaaRows
import Derived.WalkKit
import Derived.ProofKit
import Derived.OpenShut
import Derived.ShutString
import Derived.ChangeOld
import Derived.Below
import Derived.SizedLaws
import Derived.Test.YtadnejogdohfkaaQFnExactLeast
namespace Go.Proofs.Ytadnejogdohfkaa.fnExactLeast
open Go Go.Proofs.YtadnejogdohfkaaRv Go.Proofs Go.Proofs.YtadnejogdohfkaaG Go.ChangeShapes Go.WideShapes Go.ChangeAt Go.RowKit
open Go.ChangeMaps (open_string shut_string)
set_option linter.unusedVariables false
theorem own : ownKnob Try.prog.godebug = none := by kernel_rfl
theorem laidOut : laidOutB Try.prog = true := by kernel_rfl
section
variable {H : Type} {enc : TypeId × Value → H} {W : World}
set_option maxRecDepth 100000 in
theorem rd3 : RdT enc Try.prog W 3 (fun xs => ∃ x : Int, xs = [.int .i64 x] ∧ goodI x) := fun fuel cs x h => by
  obtain ⟨xs, h1, h2, n, rfl, g⟩ := (rdT_int Try.underlying3 (by kernel_rfl) : RdT enc Try.prog W 3 _) fuel cs x h
  exact ⟨_, h1, h2, n, rfl, g⟩
set_option maxRecDepth 100000 in
theorem rd45 : RdT enc Try.prog W 45 (fun xs => ∃ x : By, xs = [.nums 5 .u8 x.z x.l] ∧ By.good x) := fun fuel cs x h => by
  obtain ⟨xs, h1, h2, z, l, rfl, g⟩ := (rdT_nums Try.underlying45 Try.underlying5 (by kernel_rfl) (by kernel_rfl) : RdT enc Try.prog W 45 _) fuel cs x h
  exact ⟨_, h1, h2, ⟨z, l⟩, rfl, g⟩
set_option maxRecDepth 100000 in
theorem rd187 : RdT enc Try.prog W 187 (fun xs => ∃ x : Row, xs = x.t.cells ∧ Row.good x) := fun fuel cs x h => by
  obtain ⟨xs, h1, h2, p0, q0, rfl, ⟨x0, rfl, g0⟩, ⟨x1, rfl, g1⟩⟩ := (rdT_struct Try.underlying187 (by kernel_rfl) (rdF_cons (by kernel_rfl) rd3 (rdF_one (by kernel_rfl) rd45)) : RdT enc Try.prog W 187 _) fuel cs x h
  exact ⟨_, h1, h2, ⟨x0, x1.z, x1.l⟩, rfl, g0, g1⟩
set_option maxRecDepth 100000 in
theorem rd42 : RdT enc Try.prog W 42 (fun xs => ∃ x : Sl Row, xs = [.sl 187 x.z (x.l.map Row.t)] ∧ GoodL Row.good x.l) := fun fuel cs x h => by
  obtain ⟨_, h1, h2, z, l, rfl, h3, g⟩ := (rdT_sl Try.underlying42 (by kernel_rfl) rd187 (fun xs ⟨s, e, _⟩ => by subst e; kernel_rfl) (fun xs ⟨s, e, _⟩ => by subst e; kernel_rfl) (by kernel_rfl) (of_decide_eq_true (by kernel_rfl)) : RdT enc Try.prog W 42 _) fuel cs x h
  obtain ⟨rows, rfl, gr⟩ := forms (f := Row.t) (N := Row.good) (l := l) (fun x hx => by
    obtain ⟨ys, ⟨s, e, n1⟩, rfl⟩ := g x hx
    subst e
    exact ⟨s, by kernel_rfl, n1⟩)
  exact ⟨_, h1, h2, ⟨z, rows⟩, rfl, by simpa using h3, gr⟩
set_option maxRecDepth 100000 in
theorem rd44 : RdT enc Try.prog W 44 (fun xs => ∃ x : Sl Row, xs = [.sl 187 x.z (x.l.map Row.t)] ∧ Tab.good x) := fun fuel cs x h => by
  obtain ⟨xs, h1, h2, x0, rfl, g0⟩ := (rdT_struct Try.underlying44 (by kernel_rfl) (rdF_one (by kernel_rfl) rd42) : RdT enc Try.prog W 44 _) fuel cs x h
  exact ⟨_, h1, h2, x0, rfl, g0⟩
end
set_option maxRecDepth 100000 in
set_option maxHeartbeats 1000000 in
theorem lifted (os : Os) (started : os.Started) (H : Type) (enc : TypeId × Value → H) :
    ReturnsInHanded {} Try.checked os 10 .any (Rows.fnExactLeastSpec.pre6 enc Try.prog Try.f10 Rows.fnExactLeastRow.domain false) (Rows.fnExactLeastSpec.post enc Try.prog Try.f10 false true false false) := by
  refine returnsInHanded_of_change_sized (C := Try.checked) own started (by kernel_rfl) Try.func10
    (ChangeSpec.witness6 (enc := enc) (C := Try.checked) false ⟨#[], #[.agg #[.slice none 0 0]], []⟩ 12 (by kernel_rfl) (by kernel_rfl) (by kernel_rfl) (by kernel_rfl)) ?_
  intro W base args ds gs before hval0 hW hcnd hsz0 _
  have hval : ∀ (j : Nat) t v, Try.f10.params[j]? = some t → args[j]? = some v → Value.okWide Try.prog W .any base t v := hval0
  have hW' := hW
  obtain ⟨p, q, hA0, hV, rfl, hfz, hnd⟩ := hW
  have hA : DataW.TrodAll enc Try.prog W 0 (fun _ => true) true Try.f10.params.toList args.toList ds p := hA0
  rw [Try.params10] at hA hval
  obtain ⟨v0, vs0, d0, ds0, p0, q0, hargs, rfl, rfl, h0, r0⟩ := trodAll_cons hA
  obtain ⟨rfl, rfl, rfl⟩ := trodAll_nil r0
  obtain rfl : args = #[v0] := by cases args; simp_all
  obtain ⟨rfl, rfl⟩ := trodVars_none hV
  have k0_ := h0
  have lt0 : ∀ x ∈ p0, x.block < W.heap.size := by obtain ⟨m, hm⟩ := k0_; exact DataW.trod_lt m _ _ _ hm
  obtain ⟨cs0, rfl, hsz0⟩ := okWide_struct Try.underlying44 (hval 0 44 v0 rfl rfl)
  obtain ⟨_, e0, x0, rfl, g0⟩ := rdT_trod rd44 h0
  obtain ⟨k, hf⟩ := (laws_FnExactLeast.top x0 g0).rounds
  have call := law_call (laws_FnExactLeast.sound k) (ts := [.agg [.sl 187 x0.z (x0.l.map Row.t)]]) (vs := [.agg cs0])
    (rdL_cons (rdL_agg e0) rdL_nil) (by
      show (laws_FnExactLeast.f k x0.z (x0.l.map Row.t)).map laws_FnExactLeast.enc = _
      rw [hf]
      rfl)
  refine call.mono fun e W' ⟨he, bel0⟩ => ?_
  have bel : Below W.heap.size W W' := bel0
  subst he
  exact ⟨_, rfl, _, _, _, [], _, [], hW', trodAll_mk1 (shut_bool Try.underlying4 _), (trodAll_cons_mk (Below.trod laidOut (by kernel_rfl) (of_decide_eq_true (by kernel_rfl)) k0_ bel lt0) trodAll_mk0), rfl, bel.frame _, fun h => by cases h⟩
theorem over : Rows.fnExactLeastRow.holds Try.pinned (OpenSpec.ofChange Rows.fnExactLeastSpec) :=
  OpenClaim.holds_of_wide 10 Try.f10 rfl rfl rfl rfl rfl rfl rfl ⟨rfl, rfl, rfl, rfl, rfl⟩ rfl rfl rfl rfl rfl (by kernel_rfl) Try.func10 (by kernel_rfl)
    (of_decide_eq_true (by kernel_rfl)) (by unfold Func.isWrapper; first | (rw [if_pos (by decide +kernel)]; kernel_rfl) | (rw [if_neg (by decide +kernel)]; exact ⟨rfl, rfl⟩))
    (fun os started H enc _ => lifted os started H enc)
theorem proved : Rows.FnExactLeastSaid := over
#print axioms proved
end Go.Proofs.Ytadnejogdohfkaa.fnExactLeast
namespace Go.Proofs.Ytadnejogdohfkaa
theorem fnExactLeast_holds : Rows.FnExactLeastSaid := fnExactLeast.proved
end Go.Proofs.Ytadnejogdohfkaa
