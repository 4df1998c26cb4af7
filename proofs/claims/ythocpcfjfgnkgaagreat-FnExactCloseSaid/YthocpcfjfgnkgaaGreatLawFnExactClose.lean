/- The row of the law FnExactClose: whatever the arguments hold, the law returns true and leaves them as they were. No condition. -/
import Derived.Test.YthocpcfjfgnkgaaGreatRows
import Derived.WalkKit
import Derived.ProofKit
import Derived.OpenShut
import Derived.ShutString
import Derived.ChangeOld
import Derived.Below
import Derived.SizedLaws
import Derived.Test.YthocpcfjfgnkgaaGreatPFnExactClose
namespace Go.Proofs.YthocpcfjfgnkgaaGreat.fnExactClose
open Go Go.Proofs.YthocpcfjfgnkgaaGreatRv Go.Proofs Go.Proofs.YthocpcfjfgnkgaaGreatG Go.ChangeShapes Go.WideShapes Go.ChangeAt Go.RowKit
open Go.ChangeMaps (open_string shut_string)
set_option linter.unusedVariables false
theorem own : ownKnob Tryz.prog.godebug = none := by kernel_rfl
theorem laidOut : laidOutB Tryz.prog = true := by kernel_rfl
section
variable {H : Type} {enc : TypeId × Value → H} {W : World}
set_option maxRecDepth 100000 in
theorem rd3 : RdT enc Tryz.prog W 3 (fun xs => ∃ x : Int, xs = [.int .i64 x] ∧ goodI x) := fun fuel cs x h => by
  obtain ⟨xs, h1, h2, n, rfl, g⟩ := (qjy Tryz.underlying3 (by kernel_rfl) : RdT enc Tryz.prog W 3 _) fuel cs x h
  exact ⟨_, h1, h2, n, rfl, g⟩
set_option maxRecDepth 100000 in
theorem rd23 : RdT enc Tryz.prog W 23 (fun xs => ∃ x : Lm, xs = [.int .i64 x.l0, .int .i64 x.l1, .int .i64 x.l2, .int .i64 x.l3, .int .i64 x.l4] ∧ Lm.good x) := fun fuel cs x h => by
  obtain ⟨xs, h1, h2, p0, q0, rfl, ⟨x0, rfl, g0⟩, ⟨p1, q1, rfl, ⟨x1, rfl, g1⟩, ⟨p2, q2, rfl, ⟨x2, rfl, g2⟩, ⟨p3, q3, rfl, ⟨x3, rfl, g3⟩, ⟨x4, rfl, g4⟩⟩⟩⟩⟩ := (qht Tryz.underlying23 (by kernel_rfl) (qcu (by kernel_rfl) rd3 (qcu (by kernel_rfl) rd3 (qcu (by kernel_rfl) rd3 (qcu (by kernel_rfl) rd3 (qjU (by kernel_rfl) rd3))))) : RdT enc Tryz.prog W 23 _) fuel cs x h
  exact ⟨_, h1, h2, ⟨x0, x1, x2, x3, x4⟩, rfl, g0, g1, g2, g3, g4⟩
set_option maxRecDepth 100000 in
theorem rd24 : RdT enc Tryz.prog W 24 (fun xs => ∃ x : By, xs = [.nums 5 .u8 x.z x.l] ∧ By.good x) := fun fuel cs x h => by
  obtain ⟨xs, h1, h2, z, l, rfl, g⟩ := (qiO Tryz.underlying24 Tryz.underlying5 (by kernel_rfl) (by kernel_rfl) : RdT enc Tryz.prog W 24 _) fuel cs x h
  exact ⟨_, h1, h2, ⟨z, l⟩, rfl, g⟩
set_option maxRecDepth 100000 in
theorem rd36 : RdT enc Tryz.prog W 36 (fun xs => ∃ x : Ps, xs = [.int .i64 x.skip, .nums 5 .u8 x.z x.buf] ∧ Ps.good x) := fun fuel cs x h => by
  obtain ⟨xs, h1, h2, p0, q0, rfl, ⟨x0, rfl, g0⟩, ⟨x1, rfl, g1⟩⟩ := (qht Tryz.underlying36 (by kernel_rfl) (qcu (by kernel_rfl) rd3 (qjU (by kernel_rfl) rd24)) : RdT enc Tryz.prog W 36 _) fuel cs x h
  exact ⟨_, h1, h2, ⟨x0, x1.z, x1.l⟩, rfl, g0, g1⟩
end
set_option maxRecDepth 100000 in
set_option maxHeartbeats 1000000 in
theorem lifted (os : Os) (started : os.Started) (H : Type) (enc : TypeId × Value → H) :
    ReturnsInHanded {} Tryz.checked os 4 .any (Rows.fnExactCloseSpec.pre6 enc Tryz.prog Tryz.f4 Rows.fnExactCloseRow.domain false) (Rows.fnExactCloseSpec.post enc Tryz.prog Tryz.f4 false true false false) := by
  refine returnsInHanded_of_change_sized (C := Tryz.checked) own started (by kernel_rfl) Tryz.func4
    (ChangeSpec.witness6 (enc := enc) (C := Tryz.checked) false ⟨#[], #[.agg #[.int .i64 0, .int .i64 0, .int .i64 0, .int .i64 0, .int .i64 0], .agg #[.int .i64 0, .slice none 0 0]], []⟩ 12 (by kernel_rfl) (by kernel_rfl) (by kernel_rfl) (by kernel_rfl)) ?_
  intro W base args ds gs before hval0 hW hcnd hsz0 _
  have hval : ∀ (j : Nat) t v, Tryz.f4.params[j]? = some t → args[j]? = some v → Value.okWide Tryz.prog W .any base t v := hval0
  have hW' := hW
  obtain ⟨p, q, hA0, hV, rfl, hfz, hnd⟩ := hW
  have hA : DataW.TrodAll enc Tryz.prog W 0 (fun _ => true) true Tryz.f4.params.toList args.toList ds p := hA0
  rw [Tryz.params4] at hA hval
  obtain ⟨v0, vs0, d0, ds0, p0, q0, hargs, rfl, rfl, h0, r0⟩ := trodAll_cons hA
  obtain ⟨v1, vs1, d1, ds1, p1, q1, rfl, rfl, rfl, h1, r1⟩ := trodAll_cons r0
  obtain ⟨rfl, rfl, rfl⟩ := trodAll_nil r1
  obtain rfl : args = #[v0, v1] := by cases args; simp_all
  obtain ⟨rfl, rfl⟩ := trodVars_none hV
  have k0_ := h0
  have lt0 : ∀ x ∈ p0, x.block < W.heap.size := by obtain ⟨m, hm⟩ := k0_; exact DataW.trod_lt m _ _ _ hm
  obtain ⟨cs0, rfl, hsz0⟩ := okWide_struct Tryz.underlying23 (hval 0 23 v0 rfl rfl)
  obtain ⟨_, e0, x0, rfl, g0⟩ := qgm rd23 h0
  have k1_ := h1
  have lt1 : ∀ x ∈ p1, x.block < W.heap.size := by obtain ⟨m, hm⟩ := k1_; exact DataW.trod_lt m _ _ _ hm
  obtain ⟨cs1, rfl, hsz1⟩ := okWide_struct Tryz.underlying36 (hval 1 36 v1 rfl rfl)
  obtain ⟨_, e1, x1, rfl, g1⟩ := qgm rd36 h1
  obtain ⟨k, hf⟩ := (YbZ.top x0 g0 x1 g1).rounds
  have call := qjc (YbZ.F.s k) (ts := [.agg [.int .i64 x0.l0, .int .i64 x0.l1, .int .i64 x0.l2, .int .i64 x0.l3, .int .i64 x0.l4], .agg [.int .i64 x1.skip, .nums 5 .u8 x1.z x1.buf]]) (vs := [.agg cs0, .agg cs1])
    (qdH (qkd e0) (qdH (qkd e1) qjK)) (by
      show (YbZ.f k x0.l0 x0.l1 x0.l2 x0.l3 x0.l4 x1.skip x1.z x1.buf).map YbZ.enc = _
      rw [hf]
      rfl)
  refine call.mono fun e W' ⟨he, bel0⟩ => ?_
  have bel : Below W.heap.size W W' := bel0
  subst he
  exact ⟨_, rfl, _, _, _, [], _, [], hW', trodAll_mk1 (shut_bool Tryz.underlying4 _), (trodAll_cons_mk (Below.trod laidOut (by kernel_rfl) (of_decide_eq_true (by kernel_rfl)) k0_ bel lt0) (trodAll_cons_mk (Below.trod laidOut (by kernel_rfl) (of_decide_eq_true (by kernel_rfl)) k1_ bel lt1) trodAll_mk0)), rfl, bel.frame _, fun h => by cases h⟩
theorem over : Rows.fnExactCloseRow.holds Tryz.pinned (OpenSpec.ofChange Rows.fnExactCloseSpec) :=
  OpenClaim.holds_of_wide 4 Tryz.f4 rfl rfl rfl rfl rfl rfl rfl ⟨rfl, rfl, rfl, rfl, rfl⟩ rfl rfl rfl rfl rfl (by kernel_rfl) Tryz.func4 (by kernel_rfl)
    (of_decide_eq_true (by kernel_rfl)) (by unfold Func.isWrapper; first | (rw [if_pos (by decide +kernel)]; kernel_rfl) | (rw [if_neg (by decide +kernel)]; exact ⟨rfl, rfl⟩))
    (fun os started H enc _ => lifted os started H enc)
theorem proved : Rows.FnExactCloseSaid := over
#print axioms proved
end Go.Proofs.YthocpcfjfgnkgaaGreat.fnExactClose
namespace Go.Proofs.YthocpcfjfgnkgaaGreat
theorem fnExactClose_holds : Rows.FnExactCloseSaid := fnExactClose.proved
end Go.Proofs.YthocpcfjfgnkgaaGreat
