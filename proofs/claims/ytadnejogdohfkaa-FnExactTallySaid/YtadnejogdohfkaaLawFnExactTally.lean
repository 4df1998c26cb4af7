/- The row of the law FnExactTally: whatever the arguments hold, the law returns true and leaves them as they were. No condition. -/
import Derived.Test.YtadnejogdohfkaaRows
import Derived.WalkKit
import Derived.ProofKit
import Derived.OpenShut
import Derived.ShutString
import Derived.ChangeOld
import Derived.Below
import Derived.SizedLaws
import Derived.Test.YtadnejogdohfkaaQFnExactTally
namespace Go.Proofs.Ytadnejogdohfkaa.fnExactTally
open Go Go.Proofs.YtadnejogdohfkaaRv Go.Proofs Go.Proofs.YtadnejogdohfkaaG Go.ChangeShapes Go.WideShapes Go.ChangeAt Go.RowKit
open Go.ChangeMaps (open_string shut_string)
set_option linter.unusedVariables false
theorem own : ownKnob Try.prog.godebug = none := by kernel_rfl
theorem laidOut : laidOutB Try.prog = true := by kernel_rfl
section
variable {H : Type} {enc : TypeId × Value → H} {W : World}
set_option maxRecDepth 100000 in
theorem rd3 : RdT enc Try.prog W 3 (fun xs => ∃ x : Int, xs = [.int .i64 x] ∧ goodI x) := fun fuel cs x h => by
  obtain ⟨xs, h1, h2, n, rfl, g⟩ := (rdT_int Try.underlying3 (by kernel_rfl) : RdT enc Try.prog W 3 _) fuel cs x h
  exact ⟨_, h1, h2, n, rfl, g⟩
set_option maxRecDepth 100000 in
theorem rd45 : RdT enc Try.prog W 45 (fun xs => ∃ x : By, xs = [.nums 5 .u8 x.z x.l] ∧ By.good x) := fun fuel cs x h => by
  obtain ⟨xs, h1, h2, z, l, rfl, g⟩ := (rdT_nums Try.underlying45 Try.underlying5 (by kernel_rfl) (by kernel_rfl) : RdT enc Try.prog W 45 _) fuel cs x h
  exact ⟨_, h1, h2, ⟨z, l⟩, rfl, g⟩
set_option maxRecDepth 100000 in
theorem rd187 : RdT enc Try.prog W 187 (fun xs => ∃ x : Row, xs = x.t.cells ∧ Row.good x) := fun fuel cs x h => by
  obtain ⟨xs, h1, h2, p0, q0, rfl, ⟨x0, rfl, g0⟩, ⟨x1, rfl, g1⟩⟩ := (rdT_struct Try.underlying187 (by kernel_rfl) (rdF_cons (by kernel_rfl) rd3 (rdF_one (by kernel_rfl) rd45)) : RdT enc Try.prog W 187 _) fuel cs x h
  exact ⟨_, h1, h2, ⟨x0, x1.z, x1.l⟩, rfl, g0, g1⟩
set_option maxRecDepth 100000 in
theorem rd42 : RdT enc Try.prog W 42 (fun xs => ∃ x : Sl Row, xs = [.sl 187 x.z (x.l.map Row.t)] ∧ GoodL Row.good x.l) := fun fuel cs x h => by
  obtain ⟨_, h1, h2, z, l, rfl, h3, g⟩ := (rdT_sl Try.underlying42 (by kernel_rfl) rd187 (fun xs ⟨s, e, _⟩ => by subst e; kernel_rfl) (fun xs ⟨s, e, _⟩ => by subst e; kernel_rfl) (by kernel_rfl) (of_decide_eq_true (by kernel_rfl)) : RdT enc Try.prog W 42 _) fuel cs x h
  obtain ⟨rows, rfl, gr⟩ := forms (f := Row.t) (N := Row.good) (l := l) (fun x hx => by
    obtain ⟨ys, ⟨s, e, n1⟩, rfl⟩ := g x hx
    subst e
    exact ⟨s, by kernel_rfl, n1⟩)
  exact ⟨_, h1, h2, ⟨z, rows⟩, rfl, by simpa using h3, gr⟩
set_option maxRecDepth 100000 in
theorem rd44 : RdT enc Try.prog W 44 (fun xs => ∃ x : Sl Row, xs = [.sl 187 x.z (x.l.map Row.t)] ∧ Tab.good x) := fun fuel cs x h => by
  obtain ⟨xs, h1, h2, x0, rfl, g0⟩ := (rdT_struct Try.underlying44 (by kernel_rfl) (rdF_one (by kernel_rfl) rd42) : RdT enc Try.prog W 44 _) fuel cs x h
  exact ⟨_, h1, h2, x0, rfl, g0⟩
set_option maxRecDepth 100000 in
theorem rd172 : RdT enc Try.prog W 172 (fun xs => ∃ x : Vt, xs = x.t.cells ∧ Vt.good x) := fun fuel cs x h => by
  obtain ⟨xs, h1, h2, p0, q0, rfl, ⟨x0, rfl, g0⟩, ⟨p1, q1, rfl, ⟨x1, rfl, g1⟩, ⟨p2, q2, rfl, ⟨x2, rfl, g2⟩, ⟨p3, q3, rfl, ⟨x3, rfl, g3⟩, ⟨x4, rfl, g4⟩⟩⟩⟩⟩ := (rdT_struct Try.underlying172 (by kernel_rfl) (rdF_cons (by kernel_rfl) rd3 (rdF_cons (by kernel_rfl) rd3 (rdF_cons (by kernel_rfl) rd45 (rdF_cons (by kernel_rfl) rd3 (rdF_one (by kernel_rfl) rd45))))) : RdT enc Try.prog W 172 _) fuel cs x h
  exact ⟨_, h1, h2, ⟨x0, x1, x2.z, x2.l, x3, x4.z, x4.l⟩, rfl, g0, g1, g2, g3, g4⟩
set_option maxRecDepth 100000 in
theorem rd112 : RdT enc Try.prog W 112 (fun xs => ∃ x : Sl Vt, xs = [.sl 172 x.z (x.l.map Vt.t)] ∧ GoodL Vt.good x.l) := fun fuel cs x h => by
  obtain ⟨_, h1, h2, z, l, rfl, h3, g⟩ := (rdT_sl Try.underlying112 (by kernel_rfl) rd172 (fun xs ⟨s, e, _⟩ => by subst e; kernel_rfl) (fun xs ⟨s, e, _⟩ => by subst e; kernel_rfl) (by kernel_rfl) (of_decide_eq_true (by kernel_rfl)) : RdT enc Try.prog W 112 _) fuel cs x h
  obtain ⟨rows, rfl, gr⟩ := forms (f := Vt.t) (N := Vt.good) (l := l) (fun x hx => by
    obtain ⟨ys, ⟨s, e, n1⟩, rfl⟩ := g x hx
    subst e
    exact ⟨s, by kernel_rfl, n1⟩)
  exact ⟨_, h1, h2, ⟨z, rows⟩, rfl, by simpa using h3, gr⟩
end
set_option maxRecDepth 100000 in
set_option maxHeartbeats 1000000 in
theorem lifted (os : Os) (started : os.Started) (H : Type) (enc : TypeId × Value → H) :
    ReturnsInHanded {} Try.checked os 13 .any (Rows.fnExactTallySpec.pre6 enc Try.prog Try.f13 Rows.fnExactTallyRow.domain false) (Rows.fnExactTallySpec.post enc Try.prog Try.f13 false true false false) := by
  refine returnsInHanded_of_change_sized (C := Try.checked) own started (by kernel_rfl) Try.func13
    (ChangeSpec.witness6 (enc := enc) (C := Try.checked) false ⟨#[], #[.agg #[.slice none 0 0], .slice none 0 0, .int .i64 0, .slice none 0 0], []⟩ 12 (by kernel_rfl) (by kernel_rfl) (by kernel_rfl) (by kernel_rfl)) ?_
  intro W base args ds gs before hval0 hW hcnd hsz0 _
  have hval : ∀ (j : Nat) t v, Try.f13.params[j]? = some t → args[j]? = some v → Value.okWide Try.prog W .any base t v := hval0
  have hW' := hW
  obtain ⟨p, q, hA0, hV, rfl, hfz, hnd⟩ := hW
  have hA : DataW.TrodAll enc Try.prog W 0 (fun _ => true) true Try.f13.params.toList args.toList ds p := hA0
  rw [Try.params13] at hA hval
  obtain ⟨v0, vs0, d0, ds0, p0, q0, hargs, rfl, rfl, h0, r0⟩ := trodAll_cons hA
  obtain ⟨v1, vs1, d1, ds1, p1, q1, rfl, rfl, rfl, h1, r1⟩ := trodAll_cons r0
  obtain ⟨v2, vs2, d2, ds2, p2, q2, rfl, rfl, rfl, h2, r2⟩ := trodAll_cons r1
  obtain ⟨v3, vs3, d3, ds3, p3, q3, rfl, rfl, rfl, h3, r3⟩ := trodAll_cons r2
  obtain ⟨rfl, rfl, rfl⟩ := trodAll_nil r3
  obtain rfl : args = #[v0, v1, v2, v3] := by cases args; simp_all
  obtain ⟨rfl, rfl⟩ := trodVars_none hV
  have k0_ := h0
  have lt0 : ∀ x ∈ p0, x.block < W.heap.size := by obtain ⟨m, hm⟩ := k0_; exact DataW.trod_lt m _ _ _ hm
  obtain ⟨cs0, rfl, hsz0⟩ := okWide_struct Try.underlying44 (hval 0 44 v0 rfl rfl)
  obtain ⟨_, e0, x0, rfl, g0⟩ := rdT_trod rd44 h0
  have k1_ := h1
  have lt1 : ∀ x ∈ p1, x.block < W.heap.size := by obtain ⟨m, hm⟩ := k1_; exact DataW.trod_lt m _ _ _ hm
  obtain ⟨A1_, n1_, c1_, rfl⟩ := okWide_slice Try.underlying112 (hval 1 112 v1 rfl rfl)
  obtain ⟨_, e1, x1, rfl, g1⟩ := rdT_trod rd112 h1
  have k2_ := h2
  have lt2 : ∀ x ∈ p2, x.block < W.heap.size := by obtain ⟨m, hm⟩ := k2_; exact DataW.trod_lt m _ _ _ hm
  obtain ⟨x2, rfl, rfl, rfl, g2⟩ := open_int Try.underlying3 (hval 2 3 v2 rfl rfl) h2
  have k3_ := h3
  have lt3 : ∀ x ∈ p3, x.block < W.heap.size := by obtain ⟨m, hm⟩ := k3_; exact DataW.trod_lt m _ _ _ hm
  obtain ⟨A3_, n3_, c3_, rfl⟩ := okWide_slice Try.underlying45 (hval 3 45 v3 rfl rfl)
  obtain ⟨_, e3, x3, rfl, g3⟩ := rdT_trod rd45 h3
  obtain ⟨k, hf⟩ := (laws_FnExactTally.top x0 g0 x1 g1 x2 g2 x3 g3).rounds
  have call := law_call (laws_FnExactTally.sound k) (ts := [.agg [.sl 187 x0.z (x0.l.map Row.t)], .sl 172 x1.z (x1.l.map Vt.t), .int .i64 x2, .nums 5 .u8 x3.z x3.l]) (vs := [.agg cs0, .slice A1_ n1_ c1_, .int .i64 x2, .slice A3_ n3_ c3_])
    (rdL_cons (rdL_agg e0) (rdL_cons (rdL_one (v := .slice A1_ n1_ c1_) e1) (rdL_cons (.int .i64 x2) (rdL_cons (rdL_one (v := .slice A3_ n3_ c3_) e3) rdL_nil)))) (by
      show (laws_FnExactTally.f k x0.z (x0.l.map Row.t) x1.z (x1.l.map Vt.t) x2 x3.z x3.l).map laws_FnExactTally.enc = _
      rw [hf]
      rfl)
  refine call.mono fun e W' ⟨he, bel0⟩ => ?_
  have bel : Below W.heap.size W W' := bel0
  subst he
  exact ⟨_, rfl, _, _, _, [], _, [], hW', trodAll_mk1 (shut_bool Try.underlying4 _), (trodAll_cons_mk (Below.trod laidOut (by kernel_rfl) (of_decide_eq_true (by kernel_rfl)) k0_ bel lt0) (trodAll_cons_mk (Below.trod laidOut (by kernel_rfl) (of_decide_eq_true (by kernel_rfl)) k1_ bel lt1) (trodAll_cons_mk (shut_int Try.underlying3 g2) (trodAll_cons_mk (Below.trod laidOut (by kernel_rfl) (of_decide_eq_true (by kernel_rfl)) k3_ bel lt3) trodAll_mk0)))), rfl, bel.frame _, fun h => by cases h⟩
theorem over : Rows.fnExactTallyRow.holds Try.pinned (OpenSpec.ofChange Rows.fnExactTallySpec) :=
  OpenClaim.holds_of_wide 13 Try.f13 rfl rfl rfl rfl rfl rfl rfl ⟨rfl, rfl, rfl, rfl, rfl⟩ rfl rfl rfl rfl rfl (by kernel_rfl) Try.func13 (by kernel_rfl)
    (of_decide_eq_true (by kernel_rfl)) (by unfold Func.isWrapper; first | (rw [if_pos (by decide +kernel)]; kernel_rfl) | (rw [if_neg (by decide +kernel)]; exact ⟨rfl, rfl⟩))
    (fun os started H enc _ => lifted os started H enc)
theorem proved : Rows.FnExactTallySaid := over
#print axioms proved
end Go.Proofs.Ytadnejogdohfkaa.fnExactTally
namespace Go.Proofs.Ytadnejogdohfkaa
theorem fnExactTally_holds : Rows.FnExactTallySaid := fnExactTally.proved
end Go.Proofs.Ytadnejogdohfkaa
