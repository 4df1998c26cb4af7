/- The row of the law FnExactProofCode: whatever the arguments hold, the law returns true and leaves them as they were. No condition. -/
import Derived.Test.YtadnejogdohfkaaGreatRows
import Derived.WalkKit
import Derived.ProofKit
import Derived.OpenShut
import Derived.ShutString
import Derived.ChangeOld
import Derived.Below
import Derived.SizedLaws
import Derived.Test.YtadnejogdohfkaaGreatQFnExactProofCode
namespace Go.Proofs.YtadnejogdohfkaaGreat.fnExactProofCode
open Go Go.Proofs.YtadnejogdohfkaaGreatRv Go.Proofs Go.Proofs.YtadnejogdohfkaaGreatG Go.ChangeShapes Go.WideShapes Go.ChangeAt Go.RowKit
open Go.ChangeMaps (open_string shut_string)
set_option linter.unusedVariables false
theorem own : ownKnob Tryz.prog.godebug = none := by kernel_rfl
theorem laidOut : laidOutB Tryz.prog = true := by kernel_rfl
section
variable {H : Type} {enc : TypeId × Value → H} {W : World}
set_option maxRecDepth 100000 in
theorem rd3 : RdT enc Tryz.prog W 3 (fun xs => ∃ x : Int, xs = [.int .i64 x] ∧ goodI x) := fun fuel cs x h => by
  obtain ⟨xs, h1, h2, n, rfl, g⟩ := (rdT_int Tryz.underlying3 (by kernel_rfl) : RdT enc Tryz.prog W 3 _) fuel cs x h
  exact ⟨_, h1, h2, n, rfl, g⟩
set_option maxRecDepth 100000 in
theorem rd23 : RdT enc Tryz.prog W 23 (fun xs => ∃ x : Lm, xs = [.int .i64 x.l0, .int .i64 x.l1, .int .i64 x.l2, .int .i64 x.l3, .int .i64 x.l4] ∧ Lm.good x) := fun fuel cs x h => by
  obtain ⟨xs, h1, h2, p0, q0, rfl, ⟨x0, rfl, g0⟩, ⟨p1, q1, rfl, ⟨x1, rfl, g1⟩, ⟨p2, q2, rfl, ⟨x2, rfl, g2⟩, ⟨p3, q3, rfl, ⟨x3, rfl, g3⟩, ⟨x4, rfl, g4⟩⟩⟩⟩⟩ := (rdT_struct Tryz.underlying23 (by kernel_rfl) (rdF_cons (by kernel_rfl) rd3 (rdF_cons (by kernel_rfl) rd3 (rdF_cons (by kernel_rfl) rd3 (rdF_cons (by kernel_rfl) rd3 (rdF_one (by kernel_rfl) rd3))))) : RdT enc Tryz.prog W 23 _) fuel cs x h
  exact ⟨_, h1, h2, ⟨x0, x1, x2, x3, x4⟩, rfl, g0, g1, g2, g3, g4⟩
set_option maxRecDepth 100000 in
theorem rd28 : RdT enc Tryz.prog W 28 (fun xs => ∃ x : By, xs = [.nums 5 .u8 x.z x.l] ∧ By.good x) := fun fuel cs x h => by
  obtain ⟨xs, h1, h2, z, l, rfl, g⟩ := (rdT_nums Tryz.underlying28 Tryz.underlying5 (by kernel_rfl) (by kernel_rfl) : RdT enc Tryz.prog W 28 _) fuel cs x h
  exact ⟨_, h1, h2, ⟨z, l⟩, rfl, g⟩
set_option maxRecDepth 100000 in
theorem rd70 : RdT enc Tryz.prog W 70 (fun xs => ∃ x : Row, xs = x.t.cells ∧ Row.good x) := fun fuel cs x h => by
  obtain ⟨xs, h1, h2, p0, q0, rfl, ⟨x0, rfl, g0⟩, ⟨x1, rfl, g1⟩⟩ := (rdT_struct Tryz.underlying70 (by kernel_rfl) (rdF_cons (by kernel_rfl) rd3 (rdF_one (by kernel_rfl) rd28)) : RdT enc Tryz.prog W 70 _) fuel cs x h
  exact ⟨_, h1, h2, ⟨x0, x1.z, x1.l⟩, rfl, g0, g1⟩
set_option maxRecDepth 100000 in
theorem rd24 : RdT enc Tryz.prog W 24 (fun xs => ∃ x : Sl Row, xs = [.sl 70 x.z (x.l.map Row.t)] ∧ GoodL Row.good x.l) := fun fuel cs x h => by
  obtain ⟨_, h1, h2, z, l, rfl, h3, g⟩ := (rdT_sl Tryz.underlying24 (by kernel_rfl) rd70 (fun xs ⟨s, e, _⟩ => by subst e; kernel_rfl) (fun xs ⟨s, e, _⟩ => by subst e; kernel_rfl) (by kernel_rfl) (of_decide_eq_true (by kernel_rfl)) : RdT enc Tryz.prog W 24 _) fuel cs x h
  obtain ⟨rows, rfl, gr⟩ := forms (f := Row.t) (N := Row.good) (l := l) (fun x hx => by
    obtain ⟨ys, ⟨s, e, n1⟩, rfl⟩ := g x hx
    subst e
    exact ⟨s, by kernel_rfl, n1⟩)
  exact ⟨_, h1, h2, ⟨z, rows⟩, rfl, by simpa using h3, gr⟩
set_option maxRecDepth 100000 in
theorem rd26 : RdT enc Tryz.prog W 26 (fun xs => ∃ x : Sl Row, xs = [.sl 70 x.z (x.l.map Row.t)] ∧ Tab.good x) := fun fuel cs x h => by
  obtain ⟨xs, h1, h2, x0, rfl, g0⟩ := (rdT_struct Tryz.underlying26 (by kernel_rfl) (rdF_one (by kernel_rfl) rd24) : RdT enc Tryz.prog W 26 _) fuel cs x h
  exact ⟨_, h1, h2, x0, rfl, g0⟩
set_option maxRecDepth 100000 in
theorem rd29 : RdT enc Tryz.prog W 29 (fun xs => ∃ x : Sl By, xs = [.sl 28 x.z (x.l.map By.t)] ∧ GoodL By.good x.l) := fun fuel cs x h => by
  obtain ⟨_, h1, h2, z, l, rfl, h3, g⟩ := (rdT_sl Tryz.underlying29 (by kernel_rfl) rd28 (fun xs ⟨s, e, _⟩ => by subst e; kernel_rfl) (fun xs ⟨s, e, _⟩ => by subst e; kernel_rfl) (by kernel_rfl) (of_decide_eq_true (by kernel_rfl)) : RdT enc Tryz.prog W 29 _) fuel cs x h
  obtain ⟨rows, rfl, gr⟩ := forms (f := By.t) (N := By.good) (l := l) (fun x hx => by
    obtain ⟨ys, ⟨s, e, n1⟩, rfl⟩ := g x hx
    subst e
    exact ⟨s, by kernel_rfl, n1⟩)
  exact ⟨_, h1, h2, ⟨z, rows⟩, rfl, by simpa using h3, gr⟩
set_option maxRecDepth 100000 in
theorem rd31 : RdT enc Tryz.prog W 31 (fun xs => ∃ x : QcV, xs = [.int .i64 x.v, .int .i64 x.h, .nums 5 .u8 x.bz x.blk, .nums 5 .u8 x.mz x.bits, .sl 28 x.tz (x.tags.map By.t)] ∧ QcV.good x) := fun fuel cs x h => by
  obtain ⟨xs, h1, h2, p0, q0, rfl, ⟨x0, rfl, g0⟩, ⟨p1, q1, rfl, ⟨x1, rfl, g1⟩, ⟨p2, q2, rfl, ⟨x2, rfl, g2⟩, ⟨p3, q3, rfl, ⟨x3, rfl, g3⟩, ⟨x4, rfl, g4⟩⟩⟩⟩⟩ := (rdT_struct Tryz.underlying31 (by kernel_rfl) (rdF_cons (by kernel_rfl) rd3 (rdF_cons (by kernel_rfl) rd3 (rdF_cons (by kernel_rfl) rd28 (rdF_cons (by kernel_rfl) rd28 (rdF_one (by kernel_rfl) rd29))))) : RdT enc Tryz.prog W 31 _) fuel cs x h
  exact ⟨_, h1, h2, ⟨x0, x1, x2.z, x2.l, x3.z, x3.l, x4.z, x4.l⟩, rfl, g0, g1, g2, g3, g4⟩
set_option maxRecDepth 100000 in
theorem rd73 : RdT enc Tryz.prog W 73 (fun xs => ∃ x : Head, xs = x.t.cells ∧ Head.good x) := fun fuel cs x h => by
  obtain ⟨xs, h1, h2, p0, q0, rfl, ⟨x0, rfl, g0⟩, ⟨p1, q1, rfl, ⟨x1, rfl, g1⟩, ⟨p2, q2, rfl, ⟨x2, rfl, g2⟩, ⟨p3, q3, rfl, ⟨x3, rfl, g3⟩, ⟨p4, q4, rfl, ⟨x4, rfl, g4⟩, ⟨x5, rfl, g5⟩⟩⟩⟩⟩⟩ := (rdT_struct Tryz.underlying73 (by kernel_rfl) (rdF_cons (by kernel_rfl) rd3 (rdF_cons (by kernel_rfl) rd3 (rdF_cons (by kernel_rfl) rd3 (rdF_cons (by kernel_rfl) rd28 (rdF_cons (by kernel_rfl) rd28 (rdF_one (by kernel_rfl) rd31)))))) : RdT enc Tryz.prog W 73 _) fuel cs x h
  exact ⟨_, h1, h2, ⟨x0, x1, x2, x3.z, x3.l, x4.z, x4.l, x5⟩, rfl, g0, g1, g2, g3, g4, g5⟩
set_option maxRecDepth 100000 in
theorem rd27 : RdT enc Tryz.prog W 27 (fun xs => ∃ x : Sl Head, xs = [.sl 73 x.z (x.l.map Head.t)] ∧ GoodL Head.good x.l) := fun fuel cs x h => by
  obtain ⟨_, h1, h2, z, l, rfl, h3, g⟩ := (rdT_sl Tryz.underlying27 (by kernel_rfl) rd73 (fun xs ⟨s, e, _⟩ => by subst e; kernel_rfl) (fun xs ⟨s, e, _⟩ => by subst e; kernel_rfl) (by kernel_rfl) (of_decide_eq_true (by kernel_rfl)) : RdT enc Tryz.prog W 27 _) fuel cs x h
  obtain ⟨rows, rfl, gr⟩ := forms (f := Head.t) (N := Head.good) (l := l) (fun x hx => by
    obtain ⟨ys, ⟨s, e, n1⟩, rfl⟩ := g x hx
    subst e
    exact ⟨s, by kernel_rfl, n1⟩)
  exact ⟨_, h1, h2, ⟨z, rows⟩, rfl, by simpa using h3, gr⟩
set_option maxRecDepth 100000 in
theorem rd33 : RdT enc Tryz.prog W 33 (fun xs => ∃ x : Pf, xs = [.sl 73 x.hz (x.heads.map Head.t), .int .i64 x.q.v, .int .i64 x.q.h, .nums 5 .u8 x.q.bz x.q.blk, .nums 5 .u8 x.q.mz x.q.bits, .sl 28 x.q.tz (x.q.tags.map By.t)] ∧ Pf.good x) := fun fuel cs x h => by
  obtain ⟨xs, h1, h2, p0, q0, rfl, ⟨x0, rfl, g0⟩, ⟨x1, rfl, g1⟩⟩ := (rdT_struct Tryz.underlying33 (by kernel_rfl) (rdF_cons (by kernel_rfl) rd27 (rdF_one (by kernel_rfl) rd31)) : RdT enc Tryz.prog W 33 _) fuel cs x h
  exact ⟨_, h1, h2, ⟨x0.z, x0.l, x1⟩, rfl, g0, g1⟩
end
set_option maxRecDepth 100000 in
set_option maxHeartbeats 1000000 in
theorem lifted (os : Os) (started : os.Started) (H : Type) (enc : TypeId × Value → H) :
    ReturnsInHanded {} Tryz.checked os 3 .any (Rows.fnExactProofCodeSpec.pre6 enc Tryz.prog Tryz.f3 Rows.fnExactProofCodeRow.domain false) (Rows.fnExactProofCodeSpec.post enc Tryz.prog Tryz.f3 false true false false) := by
  refine returnsInHanded_of_change_sized (C := Tryz.checked) own started (by kernel_rfl) Tryz.func3
    (ChangeSpec.witness6 (enc := enc) (C := Tryz.checked) false ⟨#[], #[.agg #[.int .i64 0, .int .i64 0, .int .i64 0, .int .i64 0, .int .i64 0], .agg #[.slice none 0 0], .agg #[.slice none 0 0, .int .i64 0, .int .i64 0, .slice none 0 0, .slice none 0 0, .slice none 0 0]], []⟩ 12 (by kernel_rfl) (by kernel_rfl) (by kernel_rfl) (by kernel_rfl)) ?_
  intro W base args ds gs before hval0 hW hcnd hsz0 _
  have hval : ∀ (j : Nat) t v, Tryz.f3.params[j]? = some t → args[j]? = some v → Value.okWide Tryz.prog W .any base t v := hval0
  have hW' := hW
  obtain ⟨p, q, hA0, hV, rfl, hfz, hnd⟩ := hW
  have hA : DataW.TrodAll enc Tryz.prog W 0 (fun _ => true) true Tryz.f3.params.toList args.toList ds p := hA0
  rw [Tryz.params3] at hA hval
  obtain ⟨v0, vs0, d0, ds0, p0, q0, hargs, rfl, rfl, h0, r0⟩ := trodAll_cons hA
  obtain ⟨v1, vs1, d1, ds1, p1, q1, rfl, rfl, rfl, h1, r1⟩ := trodAll_cons r0
  obtain ⟨v2, vs2, d2, ds2, p2, q2, rfl, rfl, rfl, h2, r2⟩ := trodAll_cons r1
  obtain ⟨rfl, rfl, rfl⟩ := trodAll_nil r2
  obtain rfl : args = #[v0, v1, v2] := by cases args; simp_all
  obtain ⟨rfl, rfl⟩ := trodVars_none hV
  have k0_ := h0
  have lt0 : ∀ x ∈ p0, x.block < W.heap.size := by obtain ⟨m, hm⟩ := k0_; exact DataW.trod_lt m _ _ _ hm
  obtain ⟨cs0, rfl, hsz0⟩ := okWide_struct Tryz.underlying23 (hval 0 23 v0 rfl rfl)
  obtain ⟨_, e0, x0, rfl, g0⟩ := rdT_trod rd23 h0
  have k1_ := h1
  have lt1 : ∀ x ∈ p1, x.block < W.heap.size := by obtain ⟨m, hm⟩ := k1_; exact DataW.trod_lt m _ _ _ hm
  obtain ⟨cs1, rfl, hsz1⟩ := okWide_struct Tryz.underlying26 (hval 1 26 v1 rfl rfl)
  obtain ⟨_, e1, x1, rfl, g1⟩ := rdT_trod rd26 h1
  have k2_ := h2
  have lt2 : ∀ x ∈ p2, x.block < W.heap.size := by obtain ⟨m, hm⟩ := k2_; exact DataW.trod_lt m _ _ _ hm
  obtain ⟨cs2, rfl, hsz2⟩ := okWide_struct Tryz.underlying33 (hval 2 33 v2 rfl rfl)
  obtain ⟨_, e2, x2, rfl, g2⟩ := rdT_trod rd33 h2
  obtain ⟨k, hf⟩ := (laws_FnExactProofCode.top x0 g0 x1 g1 x2 g2).rounds
  have call := law_call (laws_FnExactProofCode.sound k) (ts := [.agg [.int .i64 x0.l0, .int .i64 x0.l1, .int .i64 x0.l2, .int .i64 x0.l3, .int .i64 x0.l4], .agg [.sl 70 x1.z (x1.l.map Row.t)], .agg [.sl 73 x2.hz (x2.heads.map Head.t), .int .i64 x2.q.v, .int .i64 x2.q.h, .nums 5 .u8 x2.q.bz x2.q.blk, .nums 5 .u8 x2.q.mz x2.q.bits, .sl 28 x2.q.tz (x2.q.tags.map By.t)]]) (vs := [.agg cs0, .agg cs1, .agg cs2])
    (rdL_cons (rdL_agg e0) (rdL_cons (rdL_agg e1) (rdL_cons (rdL_agg e2) rdL_nil))) (by
      show (laws_FnExactProofCode.f k x0.l0 x0.l1 x0.l2 x0.l3 x0.l4 x1.z (x1.l.map Row.t) x2.hz (x2.heads.map Head.t) x2.q.v x2.q.h x2.q.bz x2.q.blk x2.q.mz x2.q.bits x2.q.tz (x2.q.tags.map By.t)).map laws_FnExactProofCode.enc = _
      rw [hf]
      rfl)
  refine call.mono fun e W' ⟨he, bel0⟩ => ?_
  have bel : Below W.heap.size W W' := bel0
  subst he
  exact ⟨_, rfl, _, _, _, [], _, [], hW', trodAll_mk1 (shut_bool Tryz.underlying4 _), (trodAll_cons_mk (Below.trod laidOut (by kernel_rfl) (of_decide_eq_true (by kernel_rfl)) k0_ bel lt0) (trodAll_cons_mk (Below.trod laidOut (by kernel_rfl) (of_decide_eq_true (by kernel_rfl)) k1_ bel lt1) (trodAll_cons_mk (Below.trod laidOut (by kernel_rfl) (of_decide_eq_true (by kernel_rfl)) k2_ bel lt2) trodAll_mk0))), rfl, bel.frame _, fun h => by cases h⟩
theorem over : Rows.fnExactProofCodeRow.holds Tryz.pinned (OpenSpec.ofChange Rows.fnExactProofCodeSpec) :=
  OpenClaim.holds_of_wide 3 Tryz.f3 rfl rfl rfl rfl rfl rfl rfl ⟨rfl, rfl, rfl, rfl, rfl⟩ rfl rfl rfl rfl rfl (by kernel_rfl) Tryz.func3 (by kernel_rfl)
    (of_decide_eq_true (by kernel_rfl)) (by unfold Func.isWrapper; first | (rw [if_pos (by decide +kernel)]; kernel_rfl) | (rw [if_neg (by decide +kernel)]; exact ⟨rfl, rfl⟩))
    (fun os started H enc _ => lifted os started H enc)
theorem proved : Rows.FnExactProofCodeSaid := over
#print axioms proved
end Go.Proofs.YtadnejogdohfkaaGreat.fnExactProofCode
namespace Go.Proofs.YtadnejogdohfkaaGreat
theorem fnExactProofCode_holds : Rows.FnExactProofCodeSaid := fnExactProofCode.proved
end Go.Proofs.YtadnejogdohfkaaGreat
