/- The row of the law FnExactVoteGood: whatever the arguments hold, the law returns true and leaves them as they were. No condition. -/
import Derived.Test.YtgmloaobmddmaaaRows
import Derived.WalkKit
import Derived.ProofKit
import Derived.OpenShut
import Derived.ShutString
import Derived.ChangeOld
import Derived.Below
import Derived.SizedLaws
import Derived.Test.YtgmloaobmddmaaaQFnExactVoteGood
namespace Go.Proofs.Ytgmloaobmddmaaa.fnExactVoteGood
open Go Go.Proofs.YtgmloaobmddmaaaRv Go.Proofs Go.Proofs.YtgmloaobmddmaaaG Go.ChangeShapes Go.WideShapes Go.ChangeAt Go.RowKit
open Go.ChangeMaps (open_string shut_string)
set_option linter.unusedVariables false
theorem own : ownKnob Try.prog.godebug = none := by kernel_rfl
theorem laidOut : laidOutB Try.prog = true := by kernel_rfl
section
variable {H : Type} {enc : TypeId × Value → H} {W : World}
theorem rdI3 : RdT enc Try.prog W 3 (fun xs => ∃ n, xs = [.int .i64 n] ∧ (Lit.int .i64 n).wf = true) := rdT_int Try.underlying3 (by kernel_rfl)
theorem rdB25 : RdT enc Try.prog W 25 (fun xs => ∃ z l, xs = [.nums 5 .u8 z l] ∧ l.length ≤ 9223372036854775807 ∧ ∀ n ∈ l, (Lit.int .u8 n).wf = true) := rdT_nums Try.underlying25 Try.underlying5 (by kernel_rfl) (by kernel_rfl)
def good159 (xs : List T) : Prop := ∃ s : Row, xs = [.int .i64 s.f0, .nums 5 .u8 s.z s.f1] ∧ s.f1.length ≤ 9223372036854775807 ∧ ∀ n ∈ s.f1, (Lit.int .u8 n).wf = true
theorem rd159 : RdT enc Try.prog W 159 good159 := fun fuel cs x h => by
  obtain ⟨xs, h1, h2, a, b, rfl, ⟨n, rfl, _⟩, ⟨z, l, rfl, h3, h4⟩⟩ := (rdT_struct Try.underlying159 (by kernel_rfl) (rdF_cons (by kernel_rfl) rdI3 (rdF_one (by kernel_rfl) rdB25)) : RdT enc Try.prog W 159 _) fuel cs x h
  exact ⟨_, h1, h2, ⟨n, z, l⟩, rfl, h3, h4⟩
theorem rd22 : RdT enc Try.prog W 22 (fun xs => ∃ z l, xs = [.sl 159 z l] ∧ l.length ≤ 9223372036854775807 ∧ ∀ x ∈ l, ∃ ys, good159 ys ∧ x = pack Try.prog 159 ys) :=
  rdT_sl Try.underlying22 (by kernel_rfl) rd159 (fun xs ⟨s, e, _⟩ => by subst e; kernel_rfl) (fun xs ⟨s, e, _⟩ => by subst e; kernel_rfl) (by kernel_rfl) (of_decide_eq_true (by kernel_rfl))
theorem rd24 : RdT enc Try.prog W 24 (fun xs => ∃ z l, xs = [.sl 159 z l] ∧ l.length ≤ 9223372036854775807 ∧ ∀ x ∈ l, ∃ ys, good159 ys ∧ x = pack Try.prog 159 ys) :=
  rdT_struct Try.underlying24 (by kernel_rfl) (rdF_one (by kernel_rfl) rd22)
theorem rd92 : RdT enc Try.prog W 92 (fun xs => ∃ a b y l w z t, xs = [.int .i64 a, .int .i64 b, .nums 5 .u8 y l, .int .i64 w, .nums 5 .u8 z t] ∧ (l.length ≤ 9223372036854775807 ∧ ∀ n ∈ l, (Lit.int .u8 n).wf = true) ∧ t.length ≤ 9223372036854775807) := fun fuel cs x h => by
  obtain ⟨xs, h1, h2, p, q, rfl, ⟨n, rfl, _⟩, ⟨p1, q1, rfl, ⟨m, rfl, _⟩, ⟨p2, q2, rfl, ⟨y, l, rfl, h3⟩, ⟨p3, q3, rfl, ⟨w, rfl, _⟩, ⟨z, t, rfl, h4, _⟩⟩⟩⟩⟩ := (rdT_struct Try.underlying92 (by kernel_rfl) (rdF_cons (by kernel_rfl) rdI3 (rdF_cons (by kernel_rfl) rdI3 (rdF_cons (by kernel_rfl) rdB25 (rdF_cons (by kernel_rfl) rdI3 (rdF_one (by kernel_rfl) rdB25))))) : RdT enc Try.prog W 92 _) fuel cs x h
  exact ⟨_, h1, h2, n, m, y, l, w, z, t, rfl, h3, h4⟩
end
set_option maxRecDepth 100000 in
set_option maxHeartbeats 1000000 in
theorem lifted (os : Os) (started : os.Started) (H : Type) (enc : TypeId × Value → H) :
    ReturnsInHanded {} Try.checked os 8 .any (Rows.fnExactVoteGoodSpec.pre6 enc Try.prog Try.f8 Rows.fnExactVoteGoodRow.domain false) (Rows.fnExactVoteGoodSpec.post enc Try.prog Try.f8 false true false false) := by
  refine returnsInHanded_of_change_sized (C := Try.checked) own started (by kernel_rfl) Try.func8
    (ChangeSpec.witness6 (enc := enc) (C := Try.checked) false ⟨#[], #[.agg #[.slice none 0 0], .agg #[.int .i64 0, .int .i64 0, .slice none 0 0, .int .i64 0, .slice none 0 0]], []⟩ 12 (by kernel_rfl) (by kernel_rfl) (by kernel_rfl) (by kernel_rfl)) ?_
  intro W base args ds gs before hval0 hW hcnd hsz0 _
  have hval : ∀ (j : Nat) t v, Try.f8.params[j]? = some t → args[j]? = some v → Value.okWide Try.prog W .any base t v := hval0
  have hW' := hW
  obtain ⟨p, q, hA0, hV, rfl, hfz, hnd⟩ := hW
  have hA : DataW.TrodAll enc Try.prog W 0 (fun _ => true) true Try.f8.params.toList args.toList ds p := hA0
  rw [Try.params8] at hA hval
  obtain ⟨v0, vs0, d0, ds0, p0, q0, hargs, rfl, rfl, h0, r0⟩ := trodAll_cons hA
  obtain ⟨v1, vs1, d1, ds1, p1, q1, rfl, rfl, rfl, h1, r1⟩ := trodAll_cons r0
  obtain ⟨rfl, rfl, rfl⟩ := trodAll_nil r1
  obtain rfl : args = #[v0, v1] := by cases args; simp_all
  obtain ⟨rfl, rfl⟩ := trodVars_none hV
  have k0_ := h0
  have lt0 : ∀ x ∈ p0, x.block < W.heap.size := by obtain ⟨m, hm⟩ := k0_; exact DataW.trod_lt m _ _ _ hm
  obtain ⟨cs0, rfl, hsz0⟩ := okWide_struct Try.underlying24 (hval 0 24 v0 rfl rfl)
  obtain ⟨_, e0, z0, l0, rfl, f0, g0⟩ := rdT_trod rd24 h0
  have k1_ := h1
  have lt1 : ∀ x ∈ p1, x.block < W.heap.size := by obtain ⟨m, hm⟩ := k1_; exact DataW.trod_lt m _ _ _ hm
  obtain ⟨cs1, rfl, hsz1⟩ := okWide_struct Try.underlying92 (hval 1 92 v1 rfl rfl)
  obtain ⟨_, e1, a1, b1, y1, l1, w1, z1, t1, rfl, f1, f2⟩ := rdT_trod rd92 h1
  obtain ⟨rows, rfl, gr⟩ := forms (f := Row.t) (N := fun s : Row => s.f1.length ≤ 9223372036854775807 ∧ ∀ n ∈ s.f1, (Lit.int .u8 n).wf = true) (l := l0) (fun x hx => by
    obtain ⟨ys, ⟨s, e, n1, n2⟩, rfl⟩ := g0 x hx
    subst e
    exact ⟨s, by kernel_rfl, n1, n2⟩)
  have fit : Fit rows := ⟨by simpa using f0, fun r hr => (gr r hr).1⟩
  obtain ⟨k, hf⟩ := (laws_FnExactVoteGood.ev z0 rows fit (fun r hr n hn => wf8 ((gr r hr).2 n hn)) a1 b1 y1 l1 f1.1 (fun n hn => wf8 (f1.2 n hn)) w1 z1 t1 f2).rounds
  have call := law_call (laws_FnExactVoteGood.sound k) (ts := [.agg [.sl 159 z0 (rows.map Row.t)], .agg [.int .i64 a1, .int .i64 b1, .nums 5 .u8 y1 l1, .int .i64 w1, .nums 5 .u8 z1 t1]]) (vs := [.agg cs0, .agg cs1])
    (rdL_cons (rdL_agg e0) (rdL_cons (rdL_agg e1) rdL_nil)) (by
      show (laws_FnExactVoteGood.f k z0 (rows.map Row.t) a1 b1 y1 l1 w1 z1 t1).map laws_FnExactVoteGood.enc = _
      rw [hf]
      rfl)
  refine call.mono fun e W' ⟨he, bel0⟩ => ?_
  have bel : Below W.heap.size W W' := bel0
  subst he
  exact ⟨_, rfl, _, _, _, [], _, [], hW', trodAll_mk1 (shut_bool Try.underlying4 _), (trodAll_cons_mk (Below.trod laidOut (by kernel_rfl) (of_decide_eq_true (by kernel_rfl)) k0_ bel lt0) (trodAll_cons_mk (Below.trod laidOut (by kernel_rfl) (of_decide_eq_true (by kernel_rfl)) k1_ bel lt1) trodAll_mk0)), rfl, bel.frame _, fun h => by cases h⟩
theorem over : Rows.fnExactVoteGoodRow.holds Try.pinned (OpenSpec.ofChange Rows.fnExactVoteGoodSpec) :=
  OpenClaim.holds_of_wide 8 Try.f8 rfl rfl rfl rfl rfl rfl rfl ⟨rfl, rfl, rfl, rfl, rfl⟩ rfl rfl rfl rfl rfl (by kernel_rfl) Try.func8 (by kernel_rfl)
    (of_decide_eq_true (by kernel_rfl)) (by unfold Func.isWrapper; first | (rw [if_pos (by decide +kernel)]; kernel_rfl) | (rw [if_neg (by decide +kernel)]; exact ⟨rfl, rfl⟩))
    (fun os started H enc _ => lifted os started H enc)
theorem proved : Rows.FnExactVoteGoodSaid := over
#print axioms proved
end Go.Proofs.Ytgmloaobmddmaaa.fnExactVoteGood
namespace Go.Proofs.Ytgmloaobmddmaaa
theorem fnExactVoteGood_holds : Rows.FnExactVoteGoodSaid := fnExactVoteGood.proved
end Go.Proofs.Ytgmloaobmddmaaa
