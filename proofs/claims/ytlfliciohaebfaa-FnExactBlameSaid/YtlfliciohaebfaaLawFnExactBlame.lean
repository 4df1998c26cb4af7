/- The row of the law FnExactBlame: whatever the arguments hold, the law returns true and leaves them as they were. No condition. -/
import Derived.Test.YtlfliciohaebfaaRows
import Derived.WalkKit
import Derived.ProofKit
import Derived.OpenShut
import Derived.ShutString
import Derived.ChangeOld
import Derived.Below
import Derived.SizedLaws
import Derived.Test.YtlfliciohaebfaaQFnExactBlame
namespace Go.Proofs.Ytlfliciohaebfaa.fnExactBlame
open Go Go.Proofs.YtlfliciohaebfaaRv Go.Proofs Go.Proofs.YtlfliciohaebfaaG Go.ChangeShapes Go.WideShapes Go.ChangeAt Go.RowKit
open Go.ChangeMaps (open_string shut_string)
set_option linter.unusedVariables false
theorem own : ownKnob Try.prog.godebug = none := by kernel_rfl
theorem laidOut : laidOutB Try.prog = true := by kernel_rfl
section
variable {H : Type} {enc : TypeId × Value → H} {W : World}
set_option maxRecDepth 100000 in
theorem rd3 : RdT enc Try.prog W 3 (fun xs => ∃ x : Int, xs = [.int .i64 x] ∧ goodI x) := fun fuel cs x h => by
  obtain ⟨xs, h1, h2, n, rfl, g⟩ := (rdT_int Try.underlying3 (by kernel_rfl) : RdT enc Try.prog W 3 _) fuel cs x h
  exact ⟨_, h1, h2, n, rfl, g⟩
set_option maxRecDepth 100000 in
theorem rd22 : RdT enc Try.prog W 22 (fun xs => ∃ x : By, xs = [.nums 5 .u8 x.z x.l] ∧ By.good x) := fun fuel cs x h => by
  obtain ⟨xs, h1, h2, z, l, rfl, g⟩ := (rdT_nums Try.underlying22 Try.underlying5 (by kernel_rfl) (by kernel_rfl) : RdT enc Try.prog W 22 _) fuel cs x h
  exact ⟨_, h1, h2, ⟨z, l⟩, rfl, g⟩
set_option maxRecDepth 100000 in
theorem rd191 : RdT enc Try.prog W 191 (fun xs => ∃ x : Row, xs = x.t.cells ∧ Row.good x) := fun fuel cs x h => by
  obtain ⟨xs, h1, h2, p0, q0, rfl, ⟨x0, rfl, g0⟩, ⟨x1, rfl, g1⟩⟩ := (rdT_struct Try.underlying191 (by kernel_rfl) (rdF_cons (by kernel_rfl) rd3 (rdF_one (by kernel_rfl) rd22)) : RdT enc Try.prog W 191 _) fuel cs x h
  exact ⟨_, h1, h2, ⟨x0, x1.z, x1.l⟩, rfl, g0, g1⟩
set_option maxRecDepth 100000 in
theorem rd49 : RdT enc Try.prog W 49 (fun xs => ∃ x : Sl Row, xs = [.sl 191 x.z (x.l.map Row.t)] ∧ GoodL Row.good x.l) := fun fuel cs x h => by
  obtain ⟨_, h1, h2, z, l, rfl, h3, g⟩ := (rdT_sl Try.underlying49 (by kernel_rfl) rd191 (fun xs ⟨s, e, _⟩ => by subst e; kernel_rfl) (fun xs ⟨s, e, _⟩ => by subst e; kernel_rfl) (by kernel_rfl) (of_decide_eq_true (by kernel_rfl)) : RdT enc Try.prog W 49 _) fuel cs x h
  obtain ⟨rows, rfl, gr⟩ := forms (f := Row.t) (N := Row.good) (l := l) (fun x hx => by
    obtain ⟨ys, ⟨s, e, n1⟩, rfl⟩ := g x hx
    subst e
    exact ⟨s, by kernel_rfl, n1⟩)
  exact ⟨_, h1, h2, ⟨z, rows⟩, rfl, by simpa using h3, gr⟩
set_option maxRecDepth 100000 in
theorem rd51 : RdT enc Try.prog W 51 (fun xs => ∃ x : Sl Row, xs = [.sl 191 x.z (x.l.map Row.t)] ∧ Tab.good x) := fun fuel cs x h => by
  obtain ⟨xs, h1, h2, x0, rfl, g0⟩ := (rdT_struct Try.underlying51 (by kernel_rfl) (rdF_one (by kernel_rfl) rd49) : RdT enc Try.prog W 51 _) fuel cs x h
  exact ⟨_, h1, h2, x0, rfl, g0⟩
set_option maxRecDepth 100000 in
theorem rd53 : RdT enc Try.prog W 53 (fun xs => ∃ x : Sl By, xs = [.sl 22 x.z (x.l.map By.t)] ∧ GoodL By.good x.l) := fun fuel cs x h => by
  obtain ⟨_, h1, h2, z, l, rfl, h3, g⟩ := (rdT_sl Try.underlying53 (by kernel_rfl) rd22 (fun xs ⟨s, e, _⟩ => by subst e; kernel_rfl) (fun xs ⟨s, e, _⟩ => by subst e; kernel_rfl) (by kernel_rfl) (of_decide_eq_true (by kernel_rfl)) : RdT enc Try.prog W 53 _) fuel cs x h
  obtain ⟨rows, rfl, gr⟩ := forms (f := By.t) (N := By.good) (l := l) (fun x hx => by
    obtain ⟨ys, ⟨s, e, n1⟩, rfl⟩ := g x hx
    subst e
    exact ⟨s, by kernel_rfl, n1⟩)
  exact ⟨_, h1, h2, ⟨z, rows⟩, rfl, by simpa using h3, gr⟩
set_option maxRecDepth 100000 in
theorem rd118 : RdT enc Try.prog W 118 (fun xs => ∃ x : QcV, xs = [.int .i64 x.v, .int .i64 x.h, .nums 5 .u8 x.bz x.blk, .nums 5 .u8 x.mz x.bits, .sl 22 x.tz (x.tags.map By.t)] ∧ QcV.good x) := fun fuel cs x h => by
  obtain ⟨xs, h1, h2, p0, q0, rfl, ⟨x0, rfl, g0⟩, ⟨p1, q1, rfl, ⟨x1, rfl, g1⟩, ⟨p2, q2, rfl, ⟨x2, rfl, g2⟩, ⟨p3, q3, rfl, ⟨x3, rfl, g3⟩, ⟨x4, rfl, g4⟩⟩⟩⟩⟩ := (rdT_struct Try.underlying118 (by kernel_rfl) (rdF_cons (by kernel_rfl) rd3 (rdF_cons (by kernel_rfl) rd3 (rdF_cons (by kernel_rfl) rd22 (rdF_cons (by kernel_rfl) rd22 (rdF_one (by kernel_rfl) rd53))))) : RdT enc Try.prog W 118 _) fuel cs x h
  exact ⟨_, h1, h2, ⟨x0, x1, x2.z, x2.l, x3.z, x3.l, x4.z, x4.l⟩, rfl, g0, g1, g2, g3, g4⟩
end
set_option maxRecDepth 100000 in
set_option maxHeartbeats 1000000 in
theorem lifted (os : Os) (started : os.Started) (H : Type) (enc : TypeId × Value → H) :
    ReturnsInHanded {} Try.checked os 11 .any (Rows.fnExactBlameSpec.pre6 enc Try.prog Try.f11 Rows.fnExactBlameRow.domain false) (Rows.fnExactBlameSpec.post enc Try.prog Try.f11 false true false false) := by
  refine returnsInHanded_of_change_sized (C := Try.checked) own started (by kernel_rfl) Try.func11
    (ChangeSpec.witness6 (enc := enc) (C := Try.checked) false ⟨#[], #[.agg #[.slice none 0 0], .agg #[.int .i64 0, .int .i64 0, .slice none 0 0, .slice none 0 0, .slice none 0 0], .agg #[.int .i64 0, .int .i64 0, .slice none 0 0, .slice none 0 0, .slice none 0 0]], []⟩ 12 (by kernel_rfl) (by kernel_rfl) (by kernel_rfl) (by kernel_rfl)) ?_
  intro W base args ds gs before hval0 hW hcnd hsz0 _
  have hval : ∀ (j : Nat) t v, Try.f11.params[j]? = some t → args[j]? = some v → Value.okWide Try.prog W .any base t v := hval0
  have hW' := hW
  obtain ⟨p, q, hA0, hV, rfl, hfz, hnd⟩ := hW
  have hA : DataW.TrodAll enc Try.prog W 0 (fun _ => true) true Try.f11.params.toList args.toList ds p := hA0
  rw [Try.params11] at hA hval
  obtain ⟨v0, vs0, d0, ds0, p0, q0, hargs, rfl, rfl, h0, r0⟩ := trodAll_cons hA
  obtain ⟨v1, vs1, d1, ds1, p1, q1, rfl, rfl, rfl, h1, r1⟩ := trodAll_cons r0
  obtain ⟨v2, vs2, d2, ds2, p2, q2, rfl, rfl, rfl, h2, r2⟩ := trodAll_cons r1
  obtain ⟨rfl, rfl, rfl⟩ := trodAll_nil r2
  obtain rfl : args = #[v0, v1, v2] := by cases args; simp_all
  obtain ⟨rfl, rfl⟩ := trodVars_none hV
  have k0_ := h0
  have lt0 : ∀ x ∈ p0, x.block < W.heap.size := by obtain ⟨m, hm⟩ := k0_; exact DataW.trod_lt m _ _ _ hm
  obtain ⟨cs0, rfl, hsz0⟩ := okWide_struct Try.underlying51 (hval 0 51 v0 rfl rfl)
  obtain ⟨_, e0, x0, rfl, g0⟩ := rdT_trod rd51 h0
  have k1_ := h1
  have lt1 : ∀ x ∈ p1, x.block < W.heap.size := by obtain ⟨m, hm⟩ := k1_; exact DataW.trod_lt m _ _ _ hm
  obtain ⟨cs1, rfl, hsz1⟩ := okWide_struct Try.underlying118 (hval 1 118 v1 rfl rfl)
  obtain ⟨_, e1, x1, rfl, g1⟩ := rdT_trod rd118 h1
  have k2_ := h2
  have lt2 : ∀ x ∈ p2, x.block < W.heap.size := by obtain ⟨m, hm⟩ := k2_; exact DataW.trod_lt m _ _ _ hm
  obtain ⟨cs2, rfl, hsz2⟩ := okWide_struct Try.underlying118 (hval 2 118 v2 rfl rfl)
  obtain ⟨_, e2, x2, rfl, g2⟩ := rdT_trod rd118 h2
  obtain ⟨k, hf⟩ := (laws_FnExactBlame.top x0 g0 x1 g1 x2 g2).rounds
  have call := law_call (laws_FnExactBlame.sound k) (ts := [.agg [.sl 191 x0.z (x0.l.map Row.t)], .agg [.int .i64 x1.v, .int .i64 x1.h, .nums 5 .u8 x1.bz x1.blk, .nums 5 .u8 x1.mz x1.bits, .sl 22 x1.tz (x1.tags.map By.t)], .agg [.int .i64 x2.v, .int .i64 x2.h, .nums 5 .u8 x2.bz x2.blk, .nums 5 .u8 x2.mz x2.bits, .sl 22 x2.tz (x2.tags.map By.t)]]) (vs := [.agg cs0, .agg cs1, .agg cs2])
    (rdL_cons (rdL_agg e0) (rdL_cons (rdL_agg e1) (rdL_cons (rdL_agg e2) rdL_nil))) (by
      show (laws_FnExactBlame.f k x0.z (x0.l.map Row.t) x1.v x1.h x1.bz x1.blk x1.mz x1.bits x1.tz (x1.tags.map By.t) x2.v x2.h x2.bz x2.blk x2.mz x2.bits x2.tz (x2.tags.map By.t)).map laws_FnExactBlame.enc = _
      rw [hf]
      rfl)
  refine call.mono fun e W' ⟨he, bel0⟩ => ?_
  have bel : Below W.heap.size W W' := bel0
  subst he
  exact ⟨_, rfl, _, _, _, [], _, [], hW', trodAll_mk1 (shut_bool Try.underlying4 _), (trodAll_cons_mk (Below.trod laidOut (by kernel_rfl) (of_decide_eq_true (by kernel_rfl)) k0_ bel lt0) (trodAll_cons_mk (Below.trod laidOut (by kernel_rfl) (of_decide_eq_true (by kernel_rfl)) k1_ bel lt1) (trodAll_cons_mk (Below.trod laidOut (by kernel_rfl) (of_decide_eq_true (by kernel_rfl)) k2_ bel lt2) trodAll_mk0))), rfl, bel.frame _, fun h => by cases h⟩
theorem over : Rows.fnExactBlameRow.holds Try.pinned (OpenSpec.ofChange Rows.fnExactBlameSpec) :=
  OpenClaim.holds_of_wide 11 Try.f11 rfl rfl rfl rfl rfl rfl rfl ⟨rfl, rfl, rfl, rfl, rfl⟩ rfl rfl rfl rfl rfl (by kernel_rfl) Try.func11 (by kernel_rfl)
    (of_decide_eq_true (by kernel_rfl)) (by unfold Func.isWrapper; first | (rw [if_pos (by decide +kernel)]; kernel_rfl) | (rw [if_neg (by decide +kernel)]; exact ⟨rfl, rfl⟩))
    (fun os started H enc _ => lifted os started H enc)
theorem proved : Rows.FnExactBlameSaid := over
#print axioms proved
end Go.Proofs.Ytlfliciohaebfaa.fnExactBlame
namespace Go.Proofs.Ytlfliciohaebfaa
theorem fnExactBlame_holds : Rows.FnExactBlameSaid := fnExactBlame.proved
end Go.Proofs.Ytlfliciohaebfaa
