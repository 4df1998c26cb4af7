/- The row of the law FnExactTips: whatever the arguments hold, the law returns true and leaves them as they were. No condition. -/
import Derived.Test.YtbpcnodmgphinaaRows
import Derived.WalkKit
import Derived.ProofKit
import Derived.OpenShut
import Derived.ShutString
import Derived.ChangeOld
import Derived.Below
import Derived.SizedLaws
import Derived.Test.YtbpcnodmgphinaaQFnExactTips
namespace Go.Proofs.Ytbpcnodmgphinaa.fnExactTips
open Go Go.Proofs.YtbpcnodmgphinaaRv Go.Proofs Go.Proofs.YtbpcnodmgphinaaG Go.ChangeShapes Go.WideShapes Go.ChangeAt Go.RowKit
open Go.ChangeMaps (open_string shut_string)
set_option linter.unusedVariables false
theorem own : ownKnob Try.prog.godebug = none := by kernel_rfl
theorem laidOut : laidOutB Try.prog = true := by kernel_rfl
section
variable {H : Type} {enc : TypeId × Value → H} {W : World}
set_option maxRecDepth 100000 in
theorem rd3 : RdT enc Try.prog W 3 (fun xs => ∃ x : Int, xs = [.int .i64 x] ∧ goodI x) := fun fuel cs x h => by
  obtain ⟨xs, h1, h2, n, rfl, g⟩ := (rdT_int Try.underlying3 (by kernel_rfl) : RdT enc Try.prog W 3 _) fuel cs x h
  exact ⟨_, h1, h2, n, rfl, g⟩
set_option maxRecDepth 100000 in
theorem rd93 : RdT enc Try.prog W 93 (fun xs => ∃ x : Lm, xs = [.int .i64 x.l0, .int .i64 x.l1, .int .i64 x.l2, .int .i64 x.l3, .int .i64 x.l4] ∧ Lm.good x) := fun fuel cs x h => by
  obtain ⟨xs, h1, h2, p0, q0, rfl, ⟨x0, rfl, g0⟩, ⟨p1, q1, rfl, ⟨x1, rfl, g1⟩, ⟨p2, q2, rfl, ⟨x2, rfl, g2⟩, ⟨p3, q3, rfl, ⟨x3, rfl, g3⟩, ⟨x4, rfl, g4⟩⟩⟩⟩⟩ := (rdT_struct Try.underlying93 (by kernel_rfl) (rdF_cons (by kernel_rfl) rd3 (rdF_cons (by kernel_rfl) rd3 (rdF_cons (by kernel_rfl) rd3 (rdF_cons (by kernel_rfl) rd3 (rdF_one (by kernel_rfl) rd3))))) : RdT enc Try.prog W 93 _) fuel cs x h
  exact ⟨_, h1, h2, ⟨x0, x1, x2, x3, x4⟩, rfl, g0, g1, g2, g3, g4⟩
set_option maxRecDepth 100000 in
theorem rd22 : RdT enc Try.prog W 22 (fun xs => ∃ x : By, xs = [.nums 5 .u8 x.z x.l] ∧ By.good x) := fun fuel cs x h => by
  obtain ⟨xs, h1, h2, z, l, rfl, g⟩ := (rdT_nums Try.underlying22 Try.underlying5 (by kernel_rfl) (by kernel_rfl) : RdT enc Try.prog W 22 _) fuel cs x h
  exact ⟨_, h1, h2, ⟨z, l⟩, rfl, g⟩
set_option maxRecDepth 100000 in
theorem rd49 : RdT enc Try.prog W 49 (fun xs => ∃ x : Sl By, xs = [.sl 22 x.z (x.l.map By.t)] ∧ GoodL By.good x.l) := fun fuel cs x h => by
  obtain ⟨_, h1, h2, z, l, rfl, h3, g⟩ := (rdT_sl Try.underlying49 (by kernel_rfl) rd22 (fun xs ⟨s, e, _⟩ => by subst e; kernel_rfl) (fun xs ⟨s, e, _⟩ => by subst e; kernel_rfl) (by kernel_rfl) (of_decide_eq_true (by kernel_rfl)) : RdT enc Try.prog W 49 _) fuel cs x h
  obtain ⟨rows, rfl, gr⟩ := forms (f := By.t) (N := By.good) (l := l) (fun x hx => by
    obtain ⟨ys, ⟨s, e, n1⟩, rfl⟩ := g x hx
    subst e
    exact ⟨s, by kernel_rfl, n1⟩)
  exact ⟨_, h1, h2, ⟨z, rows⟩, rfl, by simpa using h3, gr⟩
set_option maxRecDepth 100000 in
theorem rd198 : RdT enc Try.prog W 198 (fun xs => ∃ x : QcV, xs = [.int .i64 x.v, .int .i64 x.h, .nums 5 .u8 x.bz x.blk, .nums 5 .u8 x.mz x.bits, .sl 22 x.tz (x.tags.map By.t)] ∧ QcV.good x) := fun fuel cs x h => by
  obtain ⟨xs, h1, h2, p0, q0, rfl, ⟨x0, rfl, g0⟩, ⟨p1, q1, rfl, ⟨x1, rfl, g1⟩, ⟨p2, q2, rfl, ⟨x2, rfl, g2⟩, ⟨p3, q3, rfl, ⟨x3, rfl, g3⟩, ⟨x4, rfl, g4⟩⟩⟩⟩⟩ := (rdT_struct Try.underlying198 (by kernel_rfl) (rdF_cons (by kernel_rfl) rd3 (rdF_cons (by kernel_rfl) rd3 (rdF_cons (by kernel_rfl) rd22 (rdF_cons (by kernel_rfl) rd22 (rdF_one (by kernel_rfl) rd49))))) : RdT enc Try.prog W 198 _) fuel cs x h
  exact ⟨_, h1, h2, ⟨x0, x1, x2.z, x2.l, x3.z, x3.l, x4.z, x4.l⟩, rfl, g0, g1, g2, g3, g4⟩
set_option maxRecDepth 100000 in
theorem rd200 : RdT enc Try.prog W 200 (fun xs => ∃ x : Head, xs = x.t.cells ∧ Head.good x) := fun fuel cs x h => by
  obtain ⟨xs, h1, h2, p0, q0, rfl, ⟨x0, rfl, g0⟩, ⟨p1, q1, rfl, ⟨x1, rfl, g1⟩, ⟨p2, q2, rfl, ⟨x2, rfl, g2⟩, ⟨p3, q3, rfl, ⟨x3, rfl, g3⟩, ⟨p4, q4, rfl, ⟨x4, rfl, g4⟩, ⟨x5, rfl, g5⟩⟩⟩⟩⟩⟩ := (rdT_struct Try.underlying200 (by kernel_rfl) (rdF_cons (by kernel_rfl) rd3 (rdF_cons (by kernel_rfl) rd3 (rdF_cons (by kernel_rfl) rd3 (rdF_cons (by kernel_rfl) rd22 (rdF_cons (by kernel_rfl) rd22 (rdF_one (by kernel_rfl) rd198)))))) : RdT enc Try.prog W 200 _) fuel cs x h
  exact ⟨_, h1, h2, ⟨x0, x1, x2, x3.z, x3.l, x4.z, x4.l, x5⟩, rfl, g0, g1, g2, g3, g4, g5⟩
set_option maxRecDepth 100000 in
theorem rd94 : RdT enc Try.prog W 94 (fun xs => ∃ x : Sl Head, xs = [.sl 200 x.z (x.l.map Head.t)] ∧ GoodL Head.good x.l) := fun fuel cs x h => by
  obtain ⟨_, h1, h2, z, l, rfl, h3, g⟩ := (rdT_sl Try.underlying94 (by kernel_rfl) rd200 (fun xs ⟨s, e, _⟩ => by subst e; kernel_rfl) (fun xs ⟨s, e, _⟩ => by subst e; kernel_rfl) (by kernel_rfl) (of_decide_eq_true (by kernel_rfl)) : RdT enc Try.prog W 94 _) fuel cs x h
  obtain ⟨rows, rfl, gr⟩ := forms (f := Head.t) (N := Head.good) (l := l) (fun x hx => by
    obtain ⟨ys, ⟨s, e, n1⟩, rfl⟩ := g x hx
    subst e
    exact ⟨s, by kernel_rfl, n1⟩)
  exact ⟨_, h1, h2, ⟨z, rows⟩, rfl, by simpa using h3, gr⟩
set_option maxRecDepth 100000 in
theorem rd96 : RdT enc Try.prog W 96 (fun xs => ∃ x : Fo, xs = [.int .i64 x.l0, .int .i64 x.l1, .int .i64 x.l2, .int .i64 x.l3, .int .i64 x.l4, .sl 200 x.hz (x.heads.map Head.t)] ∧ Fo.good x) := fun fuel cs x h => by
  obtain ⟨xs, h1, h2, p0, q0, rfl, ⟨x0, rfl, g0⟩, ⟨x1, rfl, g1⟩⟩ := (rdT_struct Try.underlying96 (by kernel_rfl) (rdF_cons (by kernel_rfl) rd93 (rdF_one (by kernel_rfl) rd94)) : RdT enc Try.prog W 96 _) fuel cs x h
  exact ⟨_, h1, h2, ⟨x0.l0, x0.l1, x0.l2, x0.l3, x0.l4, x1.z, x1.l⟩, rfl, g0, g1⟩
end
set_option maxRecDepth 100000 in
set_option maxHeartbeats 1000000 in
theorem lifted (os : Os) (started : os.Started) (H : Type) (enc : TypeId × Value → H) :
    ReturnsInHanded {} Try.checked os 10 .any (Rows.fnExactTipsSpec.pre6 enc Try.prog Try.f10 Rows.fnExactTipsRow.domain false) (Rows.fnExactTipsSpec.post enc Try.prog Try.f10 false true false false) := by
  refine returnsInHanded_of_change_sized (C := Try.checked) own started (by kernel_rfl) Try.func10
    (ChangeSpec.witness6 (enc := enc) (C := Try.checked) false ⟨#[], #[.agg #[.int .i64 0, .int .i64 0, .int .i64 0, .int .i64 0, .int .i64 0, .slice none 0 0]], []⟩ 12 (by kernel_rfl) (by kernel_rfl) (by kernel_rfl) (by kernel_rfl)) ?_
  intro W base args ds gs before hval0 hW hcnd hsz0 _
  have hval : ∀ (j : Nat) t v, Try.f10.params[j]? = some t → args[j]? = some v → Value.okWide Try.prog W .any base t v := hval0
  have hW' := hW
  obtain ⟨p, q, hA0, hV, rfl, hfz, hnd⟩ := hW
  have hA : DataW.TrodAll enc Try.prog W 0 (fun _ => true) true Try.f10.params.toList args.toList ds p := hA0
  rw [Try.params10] at hA hval
  obtain ⟨v0, vs0, d0, ds0, p0, q0, hargs, rfl, rfl, h0, r0⟩ := trodAll_cons hA
  obtain ⟨rfl, rfl, rfl⟩ := trodAll_nil r0
  obtain rfl : args = #[v0] := by cases args; simp_all
  obtain ⟨rfl, rfl⟩ := trodVars_none hV
  have k0_ := h0
  have lt0 : ∀ x ∈ p0, x.block < W.heap.size := by obtain ⟨m, hm⟩ := k0_; exact DataW.trod_lt m _ _ _ hm
  obtain ⟨cs0, rfl, hsz0⟩ := okWide_struct Try.underlying96 (hval 0 96 v0 rfl rfl)
  obtain ⟨_, e0, x0, rfl, g0⟩ := rdT_trod rd96 h0
  obtain ⟨k, hf⟩ := (laws_FnExactTips.top x0 g0).rounds
  have call := law_call (laws_FnExactTips.sound k) (ts := [.agg [.int .i64 x0.l0, .int .i64 x0.l1, .int .i64 x0.l2, .int .i64 x0.l3, .int .i64 x0.l4, .sl 200 x0.hz (x0.heads.map Head.t)]]) (vs := [.agg cs0])
    (rdL_cons (rdL_agg e0) rdL_nil) (by
      show (laws_FnExactTips.f k x0.l0 x0.l1 x0.l2 x0.l3 x0.l4 x0.hz (x0.heads.map Head.t)).map laws_FnExactTips.enc = _
      rw [hf]
      rfl)
  refine call.mono fun e W' ⟨he, bel0⟩ => ?_
  have bel : Below W.heap.size W W' := bel0
  subst he
  exact ⟨_, rfl, _, _, _, [], _, [], hW', trodAll_mk1 (shut_bool Try.underlying4 _), (trodAll_cons_mk (Below.trod laidOut (by kernel_rfl) (of_decide_eq_true (by kernel_rfl)) k0_ bel lt0) trodAll_mk0), rfl, bel.frame _, fun h => by cases h⟩
theorem over : Rows.fnExactTipsRow.holds Try.pinned (OpenSpec.ofChange Rows.fnExactTipsSpec) :=
  OpenClaim.holds_of_wide 10 Try.f10 rfl rfl rfl rfl rfl rfl rfl ⟨rfl, rfl, rfl, rfl, rfl⟩ rfl rfl rfl rfl rfl (by kernel_rfl) Try.func10 (by kernel_rfl)
    (of_decide_eq_true (by kernel_rfl)) (by unfold Func.isWrapper; first | (rw [if_pos (by decide +kernel)]; kernel_rfl) | (rw [if_neg (by decide +kernel)]; exact ⟨rfl, rfl⟩))
    (fun os started H enc _ => lifted os started H enc)
theorem proved : Rows.FnExactTipsSaid := over
#print axioms proved
end Go.Proofs.Ytbpcnodmgphinaa.fnExactTips
namespace Go.Proofs.Ytbpcnodmgphinaa
theorem fnExactTips_holds : Rows.FnExactTipsSaid := fnExactTips.proved
end Go.Proofs.Ytbpcnodmgphinaa
