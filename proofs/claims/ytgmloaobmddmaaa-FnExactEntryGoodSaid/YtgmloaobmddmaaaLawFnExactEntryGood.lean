/- The row of the law FnExactEntryGood: whatever the arguments hold, the law returns true and leaves them as they were. No condition. -/
import Derived.Test.YtgmloaobmddmaaaRows
import Derived.WalkKit
import Derived.ProofKit
import Derived.OpenShut
import Derived.ShutString
import Derived.ChangeOld
import Derived.Below
import Derived.SizedLaws
import Derived.Test.YtgmloaobmddmaaaQFnExactEntryGood
namespace Go.Proofs.Ytgmloaobmddmaaa.fnExactEntryGood
open Go Go.Proofs.YtgmloaobmddmaaaRv Go.Proofs Go.Proofs.YtgmloaobmddmaaaG Go.ChangeShapes Go.WideShapes Go.ChangeAt Go.RowKit
open Go.ChangeMaps (open_string shut_string)
set_option linter.unusedVariables false
theorem own : ownKnob Try.prog.godebug = none := by kernel_rfl
theorem laidOut : laidOutB Try.prog = true := by kernel_rfl
section
variable {H : Type} {enc : TypeId × Value → H} {W : World}
theorem rdI3 : RdT enc Try.prog W 3 (fun xs => ∃ n, xs = [.int .i64 n] ∧ (Lit.int .i64 n).wf = true) := rdT_int Try.underlying3 (by kernel_rfl)
theorem rdB25 : RdT enc Try.prog W 25 (fun xs => ∃ z l, xs = [.nums 5 .u8 z l] ∧ l.length ≤ 9223372036854775807 ∧ ∀ n ∈ l, (Lit.int .u8 n).wf = true) := rdT_nums Try.underlying25 Try.underlying5 (by kernel_rfl) (by kernel_rfl)
def good159 (xs : List T) : Prop := ∃ s : Row, xs = [.int .i64 s.f0, .nums 5 .u8 s.z s.f1] ∧ s.f1.length ≤ 9223372036854775807 ∧ ∀ n ∈ s.f1, (Lit.int .u8 n).wf = true
theorem rd159 : RdT enc Try.prog W 159 good159 := fun fuel cs x h => by
  obtain ⟨xs, h1, h2, a, b, rfl, ⟨n, rfl, _⟩, ⟨z, l, rfl, h3, h4⟩⟩ := (rdT_struct Try.underlying159 (by kernel_rfl) (rdF_cons (by kernel_rfl) rdI3 (rdF_one (by kernel_rfl) rdB25)) : RdT enc Try.prog W 159 _) fuel cs x h
  exact ⟨_, h1, h2, ⟨n, z, l⟩, rfl, h3, h4⟩
theorem rd22 : RdT enc Try.prog W 22 (fun xs => ∃ z l, xs = [.sl 159 z l] ∧ l.length ≤ 9223372036854775807 ∧ ∀ x ∈ l, ∃ ys, good159 ys ∧ x = pack Try.prog 159 ys) :=
  rdT_sl Try.underlying22 (by kernel_rfl) rd159 (fun xs ⟨s, e, _⟩ => by subst e; kernel_rfl) (fun xs ⟨s, e, _⟩ => by subst e; kernel_rfl) (by kernel_rfl) (of_decide_eq_true (by kernel_rfl))
theorem rd24 : RdT enc Try.prog W 24 (fun xs => ∃ z l, xs = [.sl 159 z l] ∧ l.length ≤ 9223372036854775807 ∧ ∀ x ∈ l, ∃ ys, good159 ys ∧ x = pack Try.prog 159 ys) :=
  rdT_struct Try.underlying24 (by kernel_rfl) (rdF_one (by kernel_rfl) rd22)
theorem rd27 : RdT enc Try.prog W 27 (fun xs => ∃ a b z l, xs = [.int .i64 a, .int .i64 b, .nums 5 .u8 z l] ∧ l.length ≤ 9223372036854775807) := fun fuel cs x h => by
  obtain ⟨xs, h1, h2, p, q, rfl, ⟨n, rfl, _⟩, ⟨a, b, rfl, ⟨m, rfl, _⟩, ⟨z, l, rfl, h3, _⟩⟩⟩ := (rdT_struct Try.underlying27 (by kernel_rfl) (rdF_cons (by kernel_rfl) rdI3 (rdF_cons (by kernel_rfl) rdI3 (rdF_one (by kernel_rfl) rdB25))) : RdT enc Try.prog W 27 _) fuel cs x h
  exact ⟨_, h1, h2, n, m, z, l, rfl, h3⟩
end
set_option maxRecDepth 100000 in
set_option maxHeartbeats 1000000 in
theorem lifted (os : Os) (started : os.Started) (H : Type) (enc : TypeId × Value → H) :
    ReturnsInHanded {} Try.checked os 3 .any (Rows.fnExactEntryGoodSpec.pre6 enc Try.prog Try.f3 Rows.fnExactEntryGoodRow.domain false) (Rows.fnExactEntryGoodSpec.post enc Try.prog Try.f3 false true false false) := by
  refine returnsInHanded_of_change_sized (C := Try.checked) own started (by kernel_rfl) Try.func3
    (ChangeSpec.witness6 (enc := enc) (C := Try.checked) false ⟨#[], #[.agg #[.slice none 0 0], .int .i64 0, .agg #[.int .i64 0, .int .i64 0, .slice none 0 0]], []⟩ 12 (by kernel_rfl) (by kernel_rfl) (by kernel_rfl) (by kernel_rfl)) ?_
  intro W base args ds gs before hval0 hW hcnd hsz0 _
  have hval : ∀ (j : Nat) t v, Try.f3.params[j]? = some t → args[j]? = some v → Value.okWide Try.prog W .any base t v := hval0
  have hW' := hW
  obtain ⟨p, q, hA0, hV, rfl, hfz, hnd⟩ := hW
  have hA : DataW.TrodAll enc Try.prog W 0 (fun _ => true) true Try.f3.params.toList args.toList ds p := hA0
  rw [Try.params3] at hA hval
  obtain ⟨v0, vs0, d0, ds0, p0, q0, hargs, rfl, rfl, h0, r0⟩ := trodAll_cons hA
  obtain ⟨v1, vs1, d1, ds1, p1, q1, rfl, rfl, rfl, h1, r1⟩ := trodAll_cons r0
  obtain ⟨v2, vs2, d2, ds2, p2, q2, rfl, rfl, rfl, h2, r2⟩ := trodAll_cons r1
  obtain ⟨rfl, rfl, rfl⟩ := trodAll_nil r2
  obtain rfl : args = #[v0, v1, v2] := by cases args; simp_all
  obtain ⟨rfl, rfl⟩ := trodVars_none hV
  have k0_ := h0
  have lt0 : ∀ x ∈ p0, x.block < W.heap.size := by obtain ⟨m, hm⟩ := k0_; exact DataW.trod_lt m _ _ _ hm
  obtain ⟨cs0, rfl, hsz0⟩ := okWide_struct Try.underlying24 (hval 0 24 v0 rfl rfl)
  obtain ⟨_, e0, z0, l0, rfl, f0, g0⟩ := rdT_trod rd24 h0
  have k1_ := h1
  have lt1 : ∀ x ∈ p1, x.block < W.heap.size := by obtain ⟨m, hm⟩ := k1_; exact DataW.trod_lt m _ _ _ hm
  obtain ⟨a1, rfl, rfl, rfl, w1⟩ := open_int Try.underlying3 (hval 1 3 v1 rfl rfl) h1
  have k2_ := h2
  have lt2 : ∀ x ∈ p2, x.block < W.heap.size := by obtain ⟨m, hm⟩ := k2_; exact DataW.trod_lt m _ _ _ hm
  obtain ⟨cs2, rfl, hsz2⟩ := okWide_struct Try.underlying27 (hval 2 27 v2 rfl rfl)
  obtain ⟨_, e2, a2, b2, z2, l2, rfl, f2⟩ := rdT_trod rd27 h2
  obtain ⟨rows, rfl, gr⟩ := forms (f := Row.t) (N := fun s : Row => s.f1.length ≤ 9223372036854775807 ∧ ∀ n ∈ s.f1, (Lit.int .u8 n).wf = true) (l := l0) (fun x hx => by
    obtain ⟨ys, ⟨s, e, n1, n2⟩, rfl⟩ := g0 x hx
    subst e
    exact ⟨s, by kernel_rfl, n1, n2⟩)
  have fit : Fit rows := ⟨by simpa using f0, fun r hr => (gr r hr).1⟩
  obtain ⟨k, hf⟩ := (laws_FnExactEntryGood.ev z0 rows fit (fun r hr n hn => wf8 ((gr r hr).2 n hn)) a1 a2 b2 z2 l2 f2).rounds
  have call := law_call (laws_FnExactEntryGood.sound k) (ts := [.agg [.sl 159 z0 (rows.map Row.t)], .int .i64 a1, .agg [.int .i64 a2, .int .i64 b2, .nums 5 .u8 z2 l2]]) (vs := [.agg cs0, .int .i64 a1, .agg cs2])
    (rdL_cons (rdL_agg e0) (rdL_cons (.int .i64 a1) (rdL_cons (rdL_agg e2) rdL_nil))) (by
      show (laws_FnExactEntryGood.f k z0 (rows.map Row.t) a1 a2 b2 z2 l2).map laws_FnExactEntryGood.enc = _
      rw [hf]
      rfl)
  refine call.mono fun e W' ⟨he, bel0⟩ => ?_
  have bel : Below W.heap.size W W' := bel0
  subst he
  exact ⟨_, rfl, _, _, _, [], _, [], hW', trodAll_mk1 (shut_bool Try.underlying4 _), (trodAll_cons_mk (Below.trod laidOut (by kernel_rfl) (of_decide_eq_true (by kernel_rfl)) k0_ bel lt0) (trodAll_cons_mk (shut_int Try.underlying3 w1) (trodAll_cons_mk (Below.trod laidOut (by kernel_rfl) (of_decide_eq_true (by kernel_rfl)) k2_ bel lt2) trodAll_mk0))), rfl, bel.frame _, fun h => by cases h⟩
theorem over : Rows.fnExactEntryGoodRow.holds Try.pinned (OpenSpec.ofChange Rows.fnExactEntryGoodSpec) :=
  OpenClaim.holds_of_wide 3 Try.f3 rfl rfl rfl rfl rfl rfl rfl ⟨rfl, rfl, rfl, rfl, rfl⟩ rfl rfl rfl rfl rfl (by kernel_rfl) Try.func3 (by kernel_rfl)
    (of_decide_eq_true (by kernel_rfl)) (by unfold Func.isWrapper; first | (rw [if_pos (by decide +kernel)]; kernel_rfl) | (rw [if_neg (by decide +kernel)]; exact ⟨rfl, rfl⟩))
    (fun os started H enc _ => lifted os started H enc)
theorem proved : Rows.FnExactEntryGoodSaid := over
#print axioms proved
end Go.Proofs.Ytgmloaobmddmaaa.fnExactEntryGood
namespace Go.Proofs.Ytgmloaobmddmaaa
theorem fnExactEntryGood_holds : Rows.FnExactEntryGoodSaid := fnExactEntryGood.proved
end Go.Proofs.Ytgmloaobmddmaaa
