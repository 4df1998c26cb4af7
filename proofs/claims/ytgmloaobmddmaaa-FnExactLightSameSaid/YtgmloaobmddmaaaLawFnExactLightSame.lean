/- The row of the law FnExactLightSame: whatever the arguments hold, the law returns true and leaves them as they were. No condition. -/
import Derived.Test.YtgmloaobmddmaaaRows
import Derived.WalkKit
import Derived.ProofKit
import Derived.OpenShut
import Derived.ShutString
import Derived.ChangeOld
import Derived.Below
import Derived.SizedLaws
import Derived.Test.YtgmloaobmddmaaaQFnExactLightSame
namespace Go.Proofs.Ytgmloaobmddmaaa.fnExactLightSame
open Go Go.Proofs.YtgmloaobmddmaaaRv Go.Proofs Go.Proofs.YtgmloaobmddmaaaG Go.ChangeShapes Go.WideShapes Go.ChangeAt Go.RowKit
open Go.ChangeMaps (open_string shut_string)
set_option linter.unusedVariables false
set_option maxRecDepth 100000
theorem own : ownKnob Try.prog.godebug = none := by kernel_rfl
theorem laidOut : laidOutB Try.prog = true := by kernel_rfl
section
variable {H : Type} {enc : TypeId × Value → H} {W : World}
theorem rdI3 : RdT enc Try.prog W 3 (fun xs => ∃ n, xs = [.int .i64 n] ∧ (Lit.int .i64 n).wf = true) := rdT_int Try.underlying3 (by kernel_rfl)
theorem rdB25 : RdT enc Try.prog W 25 (fun xs => ∃ z l, xs = [.nums 5 .u8 z l] ∧ l.length ≤ 9223372036854775807 ∧ ∀ n ∈ l, (Lit.int .u8 n).wf = true) := rdT_nums Try.underlying25 Try.underlying5 (by kernel_rfl) (by kernel_rfl)
def good159 (xs : List T) : Prop := ∃ s : Row, xs = [.int .i64 s.f0, .nums 5 .u8 s.z s.f1] ∧ s.f1.length ≤ 9223372036854775807 ∧ ∀ n ∈ s.f1, (Lit.int .u8 n).wf = true
theorem rd159 : RdT enc Try.prog W 159 good159 := fun fuel cs x h => by
  obtain ⟨xs, h1, h2, a, b, rfl, ⟨n, rfl, _⟩, ⟨z, l, rfl, h3, h4⟩⟩ := (rdT_struct Try.underlying159 (by kernel_rfl) (rdF_cons (by kernel_rfl) rdI3 (rdF_one (by kernel_rfl) rdB25)) : RdT enc Try.prog W 159 _) fuel cs x h
  exact ⟨_, h1, h2, ⟨n, z, l⟩, rfl, h3, h4⟩
theorem rd22 : RdT enc Try.prog W 22 (fun xs => ∃ z l, xs = [.sl 159 z l] ∧ l.length ≤ 9223372036854775807 ∧ ∀ x ∈ l, ∃ ys, good159 ys ∧ x = pack Try.prog 159 ys) :=
  rdT_sl Try.underlying22 (by kernel_rfl) rd159 (fun xs ⟨s, e, _⟩ => by subst e; kernel_rfl) (fun xs ⟨s, e, _⟩ => by subst e; kernel_rfl) (by kernel_rfl) (of_decide_eq_true (by kernel_rfl))
theorem rd24 : RdT enc Try.prog W 24 (fun xs => ∃ z l, xs = [.sl 159 z l] ∧ l.length ≤ 9223372036854775807 ∧ ∀ x ∈ l, ∃ ys, good159 ys ∧ x = pack Try.prog 159 ys) :=
  rdT_struct Try.underlying24 (by kernel_rfl) (rdF_one (by kernel_rfl) rd22)
theorem rd24' : RdT enc Try.prog W 24 (fun xs => ∃ z, ∃ l : List Row, xs = [.sl 159 z (l.map Row.t)] ∧ Fit l) := fun fuel cs x h => by
  obtain ⟨_, h1, h2, z, l, rfl, h3, g⟩ := rd24 fuel cs x h
  obtain ⟨rows, rfl, gr⟩ := forms (f := Row.t) (N := fun s : Row => s.f1.length ≤ 9223372036854775807) (l := l) (fun x hx => by
    obtain ⟨ys, ⟨s, e, n1, n2⟩, rfl⟩ := g x hx
    subst e
    exact ⟨s, by kernel_rfl, n1⟩)
  exact ⟨_, h1, h2, z, rows, rfl, by simpa using h3, gr⟩
theorem rd42 : RdT enc Try.prog W 42 (fun xs => ∃ z, ∃ l : List By, xs = [.sl 25 z (l.map By.t)] ∧ FitB l) := fun fuel cs x h => by
  obtain ⟨_, h1, h2, z, l, rfl, h3, g⟩ := (rdT_sl Try.underlying42 (by kernel_rfl) rdB25 (fun xs ⟨y, s, e, _⟩ => by subst e; kernel_rfl) (fun xs ⟨y, s, e, _⟩ => by subst e; kernel_rfl) (by kernel_rfl) (of_decide_eq_true (by kernel_rfl)) : RdT enc Try.prog W 42 _) fuel cs x h
  obtain ⟨rows, rfl, gr⟩ := forms (f := By.t) (N := fun s : By => s.l.length ≤ 9223372036854775807) (l := l) (fun x hx => by
    obtain ⟨ys, ⟨y, s, e, n1, n2⟩, rfl⟩ := g x hx
    subst e
    exact ⟨⟨y, s⟩, by kernel_rfl, n1⟩)
  exact ⟨_, h1, h2, z, rows, rfl, by simpa using h3, gr⟩
theorem rd172 : RdT enc Try.prog W 172 (fun xs => ∃ q : QcV, xs = [.int .i64 q.v, .int .i64 q.h, .nums 5 .u8 q.bz q.blk, .nums 5 .u8 q.mz q.bits, .sl 25 q.tz (q.tags.map By.t)] ∧ q.fit) := fun fuel cs x h => by
  obtain ⟨xs, h1, h2, p, q, rfl, ⟨n, rfl, _⟩, ⟨p1, q1, rfl, ⟨m, rfl, _⟩, ⟨p2, q2, rfl, ⟨y, l, rfl, h3, _⟩, ⟨p3, q3, rfl, ⟨w, t, rfl, h4, _⟩, ⟨z, u, rfl, h5⟩⟩⟩⟩⟩ := (rdT_struct Try.underlying172 (by kernel_rfl) (rdF_cons (by kernel_rfl) rdI3 (rdF_cons (by kernel_rfl) rdI3 (rdF_cons (by kernel_rfl) rdB25 (rdF_cons (by kernel_rfl) rdB25 (rdF_one (by kernel_rfl) rd42))))) : RdT enc Try.prog W 172 _) fuel cs x h
  exact ⟨_, h1, h2, ⟨n, m, y, l, w, t, z, u⟩, rfl, h3, h4, h5⟩
theorem rd174 : RdT enc Try.prog W 174 (fun xs => ∃ x : Head, xs = x.t.cells ∧ x.fit) := fun fuel cs x h => by
  obtain ⟨xs, h1, h2, p, q, rfl, ⟨n, rfl, _⟩, ⟨p1, q1, rfl, ⟨m, rfl, _⟩, ⟨p2, q2, rfl, ⟨o, rfl, _⟩, ⟨p3, q3, rfl, ⟨y, l, rfl, h3, _⟩, ⟨p4, q4, rfl, ⟨w, t, rfl, h4, _⟩, ⟨c, rfl, h5⟩⟩⟩⟩⟩⟩ := (rdT_struct Try.underlying174 (by kernel_rfl) (rdF_cons (by kernel_rfl) rdI3 (rdF_cons (by kernel_rfl) rdI3 (rdF_cons (by kernel_rfl) rdI3 (rdF_cons (by kernel_rfl) rdB25 (rdF_cons (by kernel_rfl) rdB25 (rdF_one (by kernel_rfl) rd172)))))) : RdT enc Try.prog W 174 _) fuel cs x h
  exact ⟨_, h1, h2, ⟨n, m, o, y, l, w, t, c⟩, rfl, h3, h4, h5⟩
theorem rd64 : RdT enc Try.prog W 64 (fun xs => ∃ z, ∃ l : List Head, xs = [.sl 174 z (l.map Head.t)] ∧ FitH l) := fun fuel cs x h => by
  obtain ⟨_, h1, h2, z, l, rfl, h3, g⟩ := (rdT_sl Try.underlying64 (by kernel_rfl) rd174 (fun xs ⟨s, e, _⟩ => by subst e; kernel_rfl) (fun xs ⟨s, e, _⟩ => by subst e; kernel_rfl) (by kernel_rfl) (of_decide_eq_true (by kernel_rfl)) : RdT enc Try.prog W 64 _) fuel cs x h
  obtain ⟨rows, rfl, gr⟩ := forms (f := Head.t) (N := fun s : Head => s.fit) (l := l) (fun x hx => by
    obtain ⟨ys, ⟨s, e, n1⟩, rfl⟩ := g x hx
    subst e
    exact ⟨s, by kernel_rfl, n1⟩)
  exact ⟨_, h1, h2, z, rows, rfl, by simpa using h3, gr⟩
theorem rd41 : RdT enc Try.prog W 41 (fun xs => ∃ a b c d e : Int, xs = [.int .i64 a, .int .i64 b, .int .i64 c, .int .i64 d, .int .i64 e]) := fun fuel cs x h => by
  obtain ⟨xs, h1, h2, p, q, rfl, ⟨a, rfl, _⟩, ⟨p1, q1, rfl, ⟨b, rfl, _⟩, ⟨p2, q2, rfl, ⟨c, rfl, _⟩, ⟨p3, q3, rfl, ⟨d, rfl, _⟩, ⟨e, rfl, _⟩⟩⟩⟩⟩ := (rdT_struct Try.underlying41 (by kernel_rfl) (rdF_cons (by kernel_rfl) rdI3 (rdF_cons (by kernel_rfl) rdI3 (rdF_cons (by kernel_rfl) rdI3 (rdF_cons (by kernel_rfl) rdI3 (rdF_one (by kernel_rfl) rdI3))))) : RdT enc Try.prog W 41 _) fuel cs x h
  exact ⟨_, h1, h2, a, b, c, d, e, rfl⟩
theorem rd63 : RdT enc Try.prog W 63 (fun xs => ∃ a z l, xs = [.int .i64 a, .nums 5 .u8 z l] ∧ l.length ≤ 9223372036854775807) := fun fuel cs x h => by
  obtain ⟨xs, h1, h2, p, q, rfl, ⟨n, rfl, _⟩, ⟨z, l, rfl, h3, _⟩⟩ := (rdT_struct Try.underlying63 (by kernel_rfl) (rdF_cons (by kernel_rfl) rdI3 (rdF_one (by kernel_rfl) rdB25)) : RdT enc Try.prog W 63 _) fuel cs x h
  exact ⟨_, h1, h2, n, z, l, rfl, h3⟩
def Lcells (x : Light) : List T := [.int .i64 x.l0, .int .i64 x.l1, .int .i64 x.l2, .int .i64 x.l3, .int .i64 x.l4, .sl 159 x.rz (x.rows.map Row.t), .int .i64 x.skip, .nums 5 .u8 x.bz x.buf, .sl 174 x.cz (x.chain.map Head.t)]
theorem rd66 : RdT enc Try.prog W 66 (fun xs => ∃ x : Light, xs = Lcells x ∧ x.fit) := fun fuel cs x h => by
  obtain ⟨xs, h1, h2, p, q, rfl, ⟨a, b, c, d, e, rfl⟩, ⟨p1, q1, rfl, ⟨z, rows, rfl, f1⟩, ⟨p2, q2, rfl, ⟨s, y, l, rfl, f2⟩, ⟨u, ch, rfl, f3⟩⟩⟩⟩ := (rdT_struct Try.underlying66 (by kernel_rfl) (rdF_cons (by kernel_rfl) rd41 (rdF_cons (by kernel_rfl) rd24' (rdF_cons (by kernel_rfl) rd63 (rdF_one (by kernel_rfl) rd64)))) : RdT enc Try.prog W 66 _) fuel cs x h
  exact ⟨_, h1, h2, ⟨a, b, c, d, e, z, rows, s, y, l, u, ch⟩, rfl, f1, f2, f3⟩
end
set_option maxRecDepth 100000 in
set_option maxHeartbeats 1000000 in
theorem lifted (os : Os) (started : os.Started) (H : Type) (enc : TypeId × Value → H) :
    ReturnsInHanded {} Try.checked os 6 .any (Rows.fnExactLightSameSpec.pre6 enc Try.prog Try.f6 Rows.fnExactLightSameRow.domain false) (Rows.fnExactLightSameSpec.post enc Try.prog Try.f6 false true false false) := by
  refine returnsInHanded_of_change_sized (C := Try.checked) own started (by kernel_rfl) Try.func6
    (ChangeSpec.witness6 (enc := enc) (C := Try.checked) false ⟨#[], #[.agg #[.int .i64 0, .int .i64 0, .int .i64 0, .int .i64 0, .int .i64 0, .slice none 0 0, .int .i64 0, .slice none 0 0, .slice none 0 0], .agg #[.int .i64 0, .int .i64 0, .int .i64 0, .int .i64 0, .int .i64 0, .slice none 0 0, .int .i64 0, .slice none 0 0, .slice none 0 0]], []⟩ 12 (by kernel_rfl) (by kernel_rfl) (by kernel_rfl) (by kernel_rfl)) ?_
  intro W base args ds gs before hval0 hW hcnd hsz0 _
  have hval : ∀ (j : Nat) t v, Try.f6.params[j]? = some t → args[j]? = some v → Value.okWide Try.prog W .any base t v := hval0
  have hW' := hW
  obtain ⟨p, q, hA0, hV, rfl, hfz, hnd⟩ := hW
  have hA : DataW.TrodAll enc Try.prog W 0 (fun _ => true) true Try.f6.params.toList args.toList ds p := hA0
  rw [Try.params6] at hA hval
  obtain ⟨v0, vs0, d0, ds0, p0, q0, hargs, rfl, rfl, h0, r0⟩ := trodAll_cons hA
  obtain ⟨v1, vs1, d1, ds1, p1, q1, rfl, rfl, rfl, h1, r1⟩ := trodAll_cons r0
  obtain ⟨rfl, rfl, rfl⟩ := trodAll_nil r1
  obtain rfl : args = #[v0, v1] := by cases args; simp_all
  obtain ⟨rfl, rfl⟩ := trodVars_none hV
  have k0_ := h0
  have lt0 : ∀ x ∈ p0, x.block < W.heap.size := by obtain ⟨m, hm⟩ := k0_; exact DataW.trod_lt m _ _ _ hm
  obtain ⟨cs0, rfl, hsz0⟩ := okWide_struct Try.underlying66 (hval 0 66 v0 rfl rfl)
  obtain ⟨_, e0, x0, rfl, f0⟩ := rdT_trod rd66 h0
  have k1_ := h1
  have lt1 : ∀ x ∈ p1, x.block < W.heap.size := by obtain ⟨m, hm⟩ := k1_; exact DataW.trod_lt m _ _ _ hm
  obtain ⟨cs1, rfl, hsz1⟩ := okWide_struct Try.underlying66 (hval 1 66 v1 rfl rfl)
  obtain ⟨_, e1, x1, rfl, f1⟩ := rdT_trod rd66 h1
  obtain ⟨k, hf⟩ := (laws_FnExactLightSame.ev x0 x1 f0 f1).rounds
  have call := law_call (laws_FnExactLightSame.sound k) (ts := [.agg (Lcells x0), .agg (Lcells x1)]) (vs := [.agg cs0, .agg cs1])
    (rdL_cons (rdL_agg e0) (rdL_cons (rdL_agg e1) rdL_nil)) (by
      show (laws_FnExactLightSame.f k x0.l0 x0.l1 x0.l2 x0.l3 x0.l4 x0.rz (x0.rows.map Row.t) x0.skip x0.bz x0.buf x0.cz (x0.chain.map Head.t) x1.l0 x1.l1 x1.l2 x1.l3 x1.l4 x1.rz (x1.rows.map Row.t) x1.skip x1.bz x1.buf x1.cz (x1.chain.map Head.t)).map laws_FnExactLightSame.enc = _
      rw [hf]
      rfl)
  refine call.mono fun e W' ⟨he, bel0⟩ => ?_
  have bel : Below W.heap.size W W' := bel0
  subst he
  exact ⟨_, rfl, _, _, _, [], _, [], hW', trodAll_mk1 (shut_bool Try.underlying4 _), (trodAll_cons_mk (Below.trod laidOut (by kernel_rfl) (of_decide_eq_true (by kernel_rfl)) k0_ bel lt0) (trodAll_cons_mk (Below.trod laidOut (by kernel_rfl) (of_decide_eq_true (by kernel_rfl)) k1_ bel lt1) trodAll_mk0)), rfl, bel.frame _, fun h => by cases h⟩
theorem over : Rows.fnExactLightSameRow.holds Try.pinned (OpenSpec.ofChange Rows.fnExactLightSameSpec) :=
  OpenClaim.holds_of_wide 6 Try.f6 rfl rfl rfl rfl rfl rfl rfl ⟨rfl, rfl, rfl, rfl, rfl⟩ rfl rfl rfl rfl rfl (by kernel_rfl) Try.func6 (by kernel_rfl)
    (of_decide_eq_true (by kernel_rfl)) (by unfold Func.isWrapper; first | (rw [if_pos (by decide +kernel)]; kernel_rfl) | (rw [if_neg (by decide +kernel)]; exact ⟨rfl, rfl⟩))
    (fun os started H enc _ => lifted os started H enc)
theorem proved : Rows.FnExactLightSameSaid := over
#print axioms proved
end Go.Proofs.Ytgmloaobmddmaaa.fnExactLightSame
namespace Go.Proofs.Ytgmloaobmddmaaa
theorem fnExactLightSame_holds : Rows.FnExactLightSameSaid := fnExactLightSame.proved
end Go.Proofs.Ytgmloaobmddmaaa
