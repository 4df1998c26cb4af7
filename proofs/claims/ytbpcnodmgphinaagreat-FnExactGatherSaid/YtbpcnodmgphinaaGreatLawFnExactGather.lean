/- The row of the law FnExactGather: whatever the arguments hold, the law returns true and leaves them as they were. No condition. -/
import Derived.Test.YtbpcnodmgphinaaGreatRows
import Derived.WalkKit
import Derived.ProofKit
import Derived.OpenShut
import Derived.ShutString
import Derived.ChangeOld
import Derived.Below
import Derived.SizedLaws
import Derived.Test.YtbpcnodmgphinaaGreatQFnExactGather
namespace Go.Proofs.YtbpcnodmgphinaaGreat.fnExactGather
open Go Go.Proofs.YtbpcnodmgphinaaGreatRv Go.Proofs Go.Proofs.YtbpcnodmgphinaaGreatG Go.ChangeShapes Go.WideShapes Go.ChangeAt Go.RowKit
open Go.ChangeMaps (open_string shut_string)
set_option linter.unusedVariables false
theorem own : ownKnob Tryz.prog.godebug = none := by kernel_rfl
theorem laidOut : laidOutB Tryz.prog = true := by kernel_rfl
section
variable {H : Type} {enc : TypeId × Value → H} {W : World}
set_option maxRecDepth 100000 in
theorem rd3 : RdT enc Tryz.prog W 3 (fun xs => ∃ x : Int, xs = [.int .i64 x] ∧ goodI x) := fun fuel cs x h => by
  obtain ⟨xs, h1, h2, n, rfl, g⟩ := (rdT_int Tryz.underlying3 (by kernel_rfl) : RdT enc Tryz.prog W 3 _) fuel cs x h
  exact ⟨_, h1, h2, n, rfl, g⟩
set_option maxRecDepth 100000 in
theorem rd23 : RdT enc Tryz.prog W 23 (fun xs => ∃ x : Lm, xs = [.int .i64 x.l0, .int .i64 x.l1, .int .i64 x.l2, .int .i64 x.l3, .int .i64 x.l4] ∧ Lm.good x) := fun fuel cs x h => by
  obtain ⟨xs, h1, h2, p0, q0, rfl, ⟨x0, rfl, g0⟩, ⟨p1, q1, rfl, ⟨x1, rfl, g1⟩, ⟨p2, q2, rfl, ⟨x2, rfl, g2⟩, ⟨p3, q3, rfl, ⟨x3, rfl, g3⟩, ⟨x4, rfl, g4⟩⟩⟩⟩⟩ := (rdT_struct Tryz.underlying23 (by kernel_rfl) (rdF_cons (by kernel_rfl) rd3 (rdF_cons (by kernel_rfl) rd3 (rdF_cons (by kernel_rfl) rd3 (rdF_cons (by kernel_rfl) rd3 (rdF_one (by kernel_rfl) rd3))))) : RdT enc Tryz.prog W 23 _) fuel cs x h
  exact ⟨_, h1, h2, ⟨x0, x1, x2, x3, x4⟩, rfl, g0, g1, g2, g3, g4⟩
set_option maxRecDepth 100000 in
theorem rd28 : RdT enc Tryz.prog W 28 (fun xs => ∃ x : By, xs = [.nums 5 .u8 x.z x.l] ∧ By.good x) := fun fuel cs x h => by
  obtain ⟨xs, h1, h2, z, l, rfl, g⟩ := (rdT_nums Tryz.underlying28 Tryz.underlying5 (by kernel_rfl) (by kernel_rfl) : RdT enc Tryz.prog W 28 _) fuel cs x h
  exact ⟨_, h1, h2, ⟨z, l⟩, rfl, g⟩
set_option maxRecDepth 100000 in
theorem rd77 : RdT enc Tryz.prog W 77 (fun xs => ∃ x : Row, xs = x.t.cells ∧ Row.good x) := fun fuel cs x h => by
  obtain ⟨xs, h1, h2, p0, q0, rfl, ⟨x0, rfl, g0⟩, ⟨x1, rfl, g1⟩⟩ := (rdT_struct Tryz.underlying77 (by kernel_rfl) (rdF_cons (by kernel_rfl) rd3 (rdF_one (by kernel_rfl) rd28)) : RdT enc Tryz.prog W 77 _) fuel cs x h
  exact ⟨_, h1, h2, ⟨x0, x1.z, x1.l⟩, rfl, g0, g1⟩
set_option maxRecDepth 100000 in
theorem rd24 : RdT enc Tryz.prog W 24 (fun xs => ∃ x : Sl Row, xs = [.sl 77 x.z (x.l.map Row.t)] ∧ GoodL Row.good x.l) := fun fuel cs x h => by
  obtain ⟨_, h1, h2, z, l, rfl, h3, g⟩ := (rdT_sl Tryz.underlying24 (by kernel_rfl) rd77 (fun xs ⟨s, e, _⟩ => by subst e; kernel_rfl) (fun xs ⟨s, e, _⟩ => by subst e; kernel_rfl) (by kernel_rfl) (of_decide_eq_true (by kernel_rfl)) : RdT enc Tryz.prog W 24 _) fuel cs x h
  obtain ⟨rows, rfl, gr⟩ := forms (f := Row.t) (N := Row.good) (l := l) (fun x hx => by
    obtain ⟨ys, ⟨s, e, n1⟩, rfl⟩ := g x hx
    subst e
    exact ⟨s, by kernel_rfl, n1⟩)
  exact ⟨_, h1, h2, ⟨z, rows⟩, rfl, by simpa using h3, gr⟩
set_option maxRecDepth 100000 in
theorem rd26 : RdT enc Tryz.prog W 26 (fun xs => ∃ x : Sl Row, xs = [.sl 77 x.z (x.l.map Row.t)] ∧ Tab.good x) := fun fuel cs x h => by
  obtain ⟨xs, h1, h2, x0, rfl, g0⟩ := (rdT_struct Tryz.underlying26 (by kernel_rfl) (rdF_one (by kernel_rfl) rd24) : RdT enc Tryz.prog W 26 _) fuel cs x h
  exact ⟨_, h1, h2, x0, rfl, g0⟩
set_option maxRecDepth 100000 in
theorem rd57 : RdT enc Tryz.prog W 57 (fun xs => ∃ x : Vt, xs = x.t.cells ∧ Vt.good x) := fun fuel cs x h => by
  obtain ⟨xs, h1, h2, p0, q0, rfl, ⟨x0, rfl, g0⟩, ⟨p1, q1, rfl, ⟨x1, rfl, g1⟩, ⟨p2, q2, rfl, ⟨x2, rfl, g2⟩, ⟨p3, q3, rfl, ⟨x3, rfl, g3⟩, ⟨x4, rfl, g4⟩⟩⟩⟩⟩ := (rdT_struct Tryz.underlying57 (by kernel_rfl) (rdF_cons (by kernel_rfl) rd3 (rdF_cons (by kernel_rfl) rd3 (rdF_cons (by kernel_rfl) rd28 (rdF_cons (by kernel_rfl) rd3 (rdF_one (by kernel_rfl) rd28))))) : RdT enc Tryz.prog W 57 _) fuel cs x h
  exact ⟨_, h1, h2, ⟨x0, x1, x2.z, x2.l, x3, x4.z, x4.l⟩, rfl, g0, g1, g2, g3, g4⟩
set_option maxRecDepth 100000 in
theorem rd27 : RdT enc Tryz.prog W 27 (fun xs => ∃ x : Sl Vt, xs = [.sl 57 x.z (x.l.map Vt.t)] ∧ GoodL Vt.good x.l) := fun fuel cs x h => by
  obtain ⟨_, h1, h2, z, l, rfl, h3, g⟩ := (rdT_sl Tryz.underlying27 (by kernel_rfl) rd57 (fun xs ⟨s, e, _⟩ => by subst e; kernel_rfl) (fun xs ⟨s, e, _⟩ => by subst e; kernel_rfl) (by kernel_rfl) (of_decide_eq_true (by kernel_rfl)) : RdT enc Tryz.prog W 27 _) fuel cs x h
  obtain ⟨rows, rfl, gr⟩ := forms (f := Vt.t) (N := Vt.good) (l := l) (fun x hx => by
    obtain ⟨ys, ⟨s, e, n1⟩, rfl⟩ := g x hx
    subst e
    exact ⟨s, by kernel_rfl, n1⟩)
  exact ⟨_, h1, h2, ⟨z, rows⟩, rfl, by simpa using h3, gr⟩
end
set_option maxRecDepth 100000 in
set_option maxHeartbeats 1000000 in
theorem lifted (os : Os) (started : os.Started) (H : Type) (enc : TypeId × Value → H) :
    ReturnsInHanded {} Tryz.checked os 3 .any (Rows.fnExactGatherSpec.pre6 enc Tryz.prog Tryz.f3 Rows.fnExactGatherRow.domain false) (Rows.fnExactGatherSpec.post enc Tryz.prog Tryz.f3 false true false false) := by
  refine returnsInHanded_of_change_sized (C := Tryz.checked) own started (by kernel_rfl) Tryz.func3
    (ChangeSpec.witness6 (enc := enc) (C := Tryz.checked) false ⟨#[], #[.agg #[.int .i64 0, .int .i64 0, .int .i64 0, .int .i64 0, .int .i64 0], .agg #[.slice none 0 0], .slice none 0 0, .int .i64 0, .int .i64 0, .slice none 0 0], []⟩ 12 (by kernel_rfl) (by kernel_rfl) (by kernel_rfl) (by kernel_rfl)) ?_
  intro W base args ds gs before hval0 hW hcnd hsz0 _
  have hval : ∀ (j : Nat) t v, Tryz.f3.params[j]? = some t → args[j]? = some v → Value.okWide Tryz.prog W .any base t v := hval0
  have hW' := hW
  obtain ⟨p, q, hA0, hV, rfl, hfz, hnd⟩ := hW
  have hA : DataW.TrodAll enc Tryz.prog W 0 (fun _ => true) true Tryz.f3.params.toList args.toList ds p := hA0
  rw [Tryz.params3] at hA hval
  obtain ⟨v0, vs0, d0, ds0, p0, q0, hargs, rfl, rfl, h0, r0⟩ := trodAll_cons hA
  obtain ⟨v1, vs1, d1, ds1, p1, q1, rfl, rfl, rfl, h1, r1⟩ := trodAll_cons r0
  obtain ⟨v2, vs2, d2, ds2, p2, q2, rfl, rfl, rfl, h2, r2⟩ := trodAll_cons r1
  obtain ⟨v3, vs3, d3, ds3, p3, q3, rfl, rfl, rfl, h3, r3⟩ := trodAll_cons r2
  obtain ⟨v4, vs4, d4, ds4, p4, q4, rfl, rfl, rfl, h4, r4⟩ := trodAll_cons r3
  obtain ⟨v5, vs5, d5, ds5, p5, q5, rfl, rfl, rfl, h5, r5⟩ := trodAll_cons r4
  obtain ⟨rfl, rfl, rfl⟩ := trodAll_nil r5
  obtain rfl : args = #[v0, v1, v2, v3, v4, v5] := by cases args; simp_all
  obtain ⟨rfl, rfl⟩ := trodVars_none hV
  have k0_ := h0
  have lt0 : ∀ x ∈ p0, x.block < W.heap.size := by obtain ⟨m, hm⟩ := k0_; exact DataW.trod_lt m _ _ _ hm
  obtain ⟨cs0, rfl, hsz0⟩ := okWide_struct Tryz.underlying23 (hval 0 23 v0 rfl rfl)
  obtain ⟨_, e0, x0, rfl, g0⟩ := rdT_trod rd23 h0
  have k1_ := h1
  have lt1 : ∀ x ∈ p1, x.block < W.heap.size := by obtain ⟨m, hm⟩ := k1_; exact DataW.trod_lt m _ _ _ hm
  obtain ⟨cs1, rfl, hsz1⟩ := okWide_struct Tryz.underlying26 (hval 1 26 v1 rfl rfl)
  obtain ⟨_, e1, x1, rfl, g1⟩ := rdT_trod rd26 h1
  have k2_ := h2
  have lt2 : ∀ x ∈ p2, x.block < W.heap.size := by obtain ⟨m, hm⟩ := k2_; exact DataW.trod_lt m _ _ _ hm
  obtain ⟨A2_, n2_, c2_, rfl⟩ := okWide_slice Tryz.underlying27 (hval 2 27 v2 rfl rfl)
  obtain ⟨_, e2, x2, rfl, g2⟩ := rdT_trod rd27 h2
  have k3_ := h3
  have lt3 : ∀ x ∈ p3, x.block < W.heap.size := by obtain ⟨m, hm⟩ := k3_; exact DataW.trod_lt m _ _ _ hm
  obtain ⟨x3, rfl, rfl, rfl, g3⟩ := open_int Tryz.underlying3 (hval 3 3 v3 rfl rfl) h3
  have k4_ := h4
  have lt4 : ∀ x ∈ p4, x.block < W.heap.size := by obtain ⟨m, hm⟩ := k4_; exact DataW.trod_lt m _ _ _ hm
  obtain ⟨x4, rfl, rfl, rfl, g4⟩ := open_int Tryz.underlying3 (hval 4 3 v4 rfl rfl) h4
  have k5_ := h5
  have lt5 : ∀ x ∈ p5, x.block < W.heap.size := by obtain ⟨m, hm⟩ := k5_; exact DataW.trod_lt m _ _ _ hm
  obtain ⟨A5_, n5_, c5_, rfl⟩ := okWide_slice Tryz.underlying28 (hval 5 28 v5 rfl rfl)
  obtain ⟨_, e5, x5, rfl, g5⟩ := rdT_trod rd28 h5
  obtain ⟨k, hf⟩ := (laws_FnExactGather.top x0 g0 x1 g1 x2 g2 x3 g3 x4 g4 x5 g5).rounds
  have call := law_call (laws_FnExactGather.sound k) (ts := [.agg [.int .i64 x0.l0, .int .i64 x0.l1, .int .i64 x0.l2, .int .i64 x0.l3, .int .i64 x0.l4], .agg [.sl 77 x1.z (x1.l.map Row.t)], .sl 57 x2.z (x2.l.map Vt.t), .int .i64 x3, .int .i64 x4, .nums 5 .u8 x5.z x5.l]) (vs := [.agg cs0, .agg cs1, .slice A2_ n2_ c2_, .int .i64 x3, .int .i64 x4, .slice A5_ n5_ c5_])
    (rdL_cons (rdL_agg e0) (rdL_cons (rdL_agg e1) (rdL_cons (rdL_one (v := .slice A2_ n2_ c2_) e2) (rdL_cons (.int .i64 x3) (rdL_cons (.int .i64 x4) (rdL_cons (rdL_one (v := .slice A5_ n5_ c5_) e5) rdL_nil)))))) (by
      show (laws_FnExactGather.f k x0.l0 x0.l1 x0.l2 x0.l3 x0.l4 x1.z (x1.l.map Row.t) x2.z (x2.l.map Vt.t) x3 x4 x5.z x5.l).map laws_FnExactGather.enc = _
      rw [hf]
      rfl)
  refine call.mono fun e W' ⟨he, bel0⟩ => ?_
  have bel : Below W.heap.size W W' := bel0
  subst he
  exact ⟨_, rfl, _, _, _, [], _, [], hW', trodAll_mk1 (shut_bool Tryz.underlying4 _), (trodAll_cons_mk (Below.trod laidOut (by kernel_rfl) (of_decide_eq_true (by kernel_rfl)) k0_ bel lt0) (trodAll_cons_mk (Below.trod laidOut (by kernel_rfl) (of_decide_eq_true (by kernel_rfl)) k1_ bel lt1) (trodAll_cons_mk (Below.trod laidOut (by kernel_rfl) (of_decide_eq_true (by kernel_rfl)) k2_ bel lt2) (trodAll_cons_mk (shut_int Tryz.underlying3 g3) (trodAll_cons_mk (shut_int Tryz.underlying3 g4) (trodAll_cons_mk (Below.trod laidOut (by kernel_rfl) (of_decide_eq_true (by kernel_rfl)) k5_ bel lt5) trodAll_mk0)))))), rfl, bel.frame _, fun h => by cases h⟩
theorem over : Rows.fnExactGatherRow.holds Tryz.pinned (OpenSpec.ofChange Rows.fnExactGatherSpec) :=
  OpenClaim.holds_of_wide 3 Tryz.f3 rfl rfl rfl rfl rfl rfl rfl ⟨rfl, rfl, rfl, rfl, rfl⟩ rfl rfl rfl rfl rfl (by kernel_rfl) Tryz.func3 (by kernel_rfl)
    (of_decide_eq_true (by kernel_rfl)) (by unfold Func.isWrapper; first | (rw [if_pos (by decide +kernel)]; kernel_rfl) | (rw [if_neg (by decide +kernel)]; exact ⟨rfl, rfl⟩))
    (fun os started H enc _ => lifted os started H enc)
theorem proved : Rows.FnExactGatherSaid := over
#print axioms proved
end Go.Proofs.YtbpcnodmgphinaaGreat.fnExactGather
namespace Go.Proofs.YtbpcnodmgphinaaGreat
theorem fnExactGather_holds : Rows.FnExactGatherSaid := fnExactGather.proved
end Go.Proofs.YtbpcnodmgphinaaGreat
