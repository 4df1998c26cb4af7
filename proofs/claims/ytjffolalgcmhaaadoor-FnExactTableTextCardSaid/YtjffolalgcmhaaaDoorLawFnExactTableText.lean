/- The row of the law FnExactTableText: whatever the arguments hold, the law returns true and leaves them as they were. No condition. -/
import Derived.Test.YtjffolalgcmhaaaDoorRows
import Derived.Test.YtjffolalgcmhaaaDoorCards
import Derived.Test.YtjffolalgcmhaaaDoorTie
import Derived.WalkKit
import Derived.ProofKit
import Derived.OpenShut
import Derived.ShutString
import Derived.ChangeOld
import Derived.Below
import Derived.SizedLaws
import Derived.LaidMore
import Derived.MakeChecks
import Derived.Stop.LaidErr
import Derived.Stop.Joined
import Derived.SevenTiedAt
import Derived.Lib.LaidTab
import Derived.Test.YtjffolalgcmhaaaDoorQFnExactTableText
namespace Go.Proofs.YtjffolalgcmhaaaDoor.fnExactTableText
open Go Go.Proofs.YtjffolalgcmhaaaDoorRv Go.Proofs Go.Proofs.YtjffolalgcmhaaaDoorG Go.ChangeShapes Go.WideShapes Go.ChangeAt Go.RowKit
open Go.ChangeMaps (open_string shut_string)
set_option linter.unusedVariables false
theorem own : ownKnob Tryd.prog.godebug = none := by kernel_rfl
theorem laidOut : laidOutB Tryd.prog = true := by kernel_rfl
section
variable {H : Type} {enc : TypeId × Value → H} {W : World}
set_option maxRecDepth 100000 in
theorem rd3 : RdT enc Tryd.prog W 3 (fun xs => ∃ x : Int, xs = [.int .i64 x] ∧ goodI x) := fun fuel cs x h => by
  obtain ⟨xs, h1, h2, n, rfl, g⟩ := (rdT_int Tryd.underlying3 (by kernel_rfl) : RdT enc Tryd.prog W 3 _) fuel cs x h
  exact ⟨_, h1, h2, n, rfl, g⟩
set_option maxRecDepth 100000 in
theorem rd28 : RdT enc Tryd.prog W 28 (fun xs => ∃ x : By, xs = [.nums 5 .u8 x.z x.l] ∧ By.good x) := fun fuel cs x h => by
  obtain ⟨xs, h1, h2, z, l, rfl, g⟩ := (rdT_nums Tryd.underlying28 Tryd.underlying5 (by kernel_rfl) (by kernel_rfl) : RdT enc Tryd.prog W 28 _) fuel cs x h
  exact ⟨_, h1, h2, ⟨z, l⟩, rfl, g⟩
set_option maxRecDepth 100000 in
theorem rd169 : RdT enc Tryd.prog W 169 (fun xs => ∃ x : Row, xs = x.t.cells ∧ Row.good x) := fun fuel cs x h => by
  obtain ⟨xs, h1, h2, p0, q0, rfl, ⟨x0, rfl, g0⟩, ⟨x1, rfl, g1⟩⟩ := (rdT_struct Tryd.underlying169 (by kernel_rfl) (rdF_cons (by kernel_rfl) rd3 (rdF_one (by kernel_rfl) rd28)) : RdT enc Tryd.prog W 169 _) fuel cs x h
  exact ⟨_, h1, h2, ⟨x0, x1.z, x1.l⟩, rfl, g0, g1⟩
set_option maxRecDepth 100000 in
theorem rd89 : RdT enc Tryd.prog W 89 (fun xs => ∃ x : Sl Row, xs = [.sl 169 x.z (x.l.map Row.t)] ∧ GoodL Row.good x.l) := fun fuel cs x h => by
  obtain ⟨_, h1, h2, z, l, rfl, h3, g⟩ := (rdT_sl Tryd.underlying89 (by kernel_rfl) rd169 (fun xs ⟨s, e, _⟩ => by subst e; kernel_rfl) (fun xs ⟨s, e, _⟩ => by subst e; kernel_rfl) (by kernel_rfl) (of_decide_eq_true (by kernel_rfl)) : RdT enc Tryd.prog W 89 _) fuel cs x h
  obtain ⟨rows, rfl, gr⟩ := forms (f := Row.t) (N := Row.good) (l := l) (fun x hx => by
    obtain ⟨ys, ⟨s, e, n1⟩, rfl⟩ := g x hx
    subst e
    exact ⟨s, by kernel_rfl, n1⟩)
  exact ⟨_, h1, h2, ⟨z, rows⟩, rfl, by simpa using h3, gr⟩
set_option maxRecDepth 100000 in
theorem rd91 : RdT enc Tryd.prog W 91 (fun xs => ∃ x : Sl Row, xs = [.sl 169 x.z (x.l.map Row.t)] ∧ Tab.good x) := fun fuel cs x h => by
  obtain ⟨xs, h1, h2, x0, rfl, g0⟩ := (rdT_struct Tryd.underlying91 (by kernel_rfl) (rdF_one (by kernel_rfl) rd89) : RdT enc Tryd.prog W 91 _) fuel cs x h
  exact ⟨_, h1, h2, x0, rfl, g0⟩
end
theorem door_met (os : Os) (args : Array Value) : laidMetH Tryd.prog Rows.fnExactTableTextRow.laid ((World.doorLaid Tryd.prog 72 os).forCall (fun _ _ => 0) ⟨#[], args, []⟩).memory :=
  laidMetH_of_parts3 (fuel := 8) (laidMet_of_run' 8 (by kernel_rfl) (by kernel_rfl)) (by kernel_rfl) (by kernel_rfl)
theorem gl_of {W : World} (h : laidMetH Tryd.prog Rows.fnExactTableTextRow.laid W) : GL W ∧ glN ≤ W.heap.size := by
  rw [MakeChecks.laidMetH_plain _ _ _ (by kernel_rfl)] at h
  have e : (Rows.laid_internal_strconv_uint64pow10 : DataW Unit) = Lib.tabData .u64 Lib.pow10Tab := by kernel_rfl
  have h2 := h.tail.tail
  rw [e] at h2
  exact GL.of (P := Tryd.prog) (by kernel_rfl) (Lib.tabIs_of_head (g := 3) (t := 225) (e := 211) (n := 20) (by kernel_rfl) (by kernel_rfl) Tryd.underlying225 Tryd.underlying211 (by kernel_rfl) (by kernel_rfl) h2)
set_option maxRecDepth 100000 in
set_option maxHeartbeats 1000000 in
theorem lifted (os : Os) (started : os.Started) (H : Type) (enc : TypeId × Value → H) :
    ReturnsInHanded {} Tryd.checked os 10 .any (fun w args => (Rows.fnExactTableTextSpec.pre enc Tryd.prog Tryd.f10 [] false w args ∧ laidMetH Tryd.prog Rows.fnExactTableTextRow.laid w) ∧ sizedMet enc Tryd.prog Tryd.f10 (OpenSpec.ofChange Rows.fnExactTableTextSpec) false w args)
      (Rows.fnExactTableTextSpec.post enc Tryd.prog Tryd.f10 false true false false) := by
  refine returnsInHanded_of_change_and (C := Tryd.checked) (X := fun w _ => laidMetH Tryd.prog Rows.fnExactTableTextRow.laid w) (fun _ _ _ hh h => h.of_heap hh) own started (by kernel_rfl) Tryd.func10
    (ChangeSpec.witness_shaped (enc := enc) (C := Tryd.checked) (os := os) (X := fun w _ => laidMetH Tryd.prog Rows.fnExactTableTextRow.laid w) false (World.doorLaid Tryd.prog 72 os) #[.agg #[.slice none 0 0]] 12 rfl (World.shaped_of_RefB (by kernel_rfl) (by kernel_rfl)) (by kernel_rfl) (by kernel_rfl) (by kernel_rfl) (door_met os _)) ?_
  intro W base args ds gs before hval0 hW _ _ hL _
  have hval : ∀ (j : Nat) t v, Tryd.f10.params[j]? = some t → args[j]? = some v → Value.okWide Tryd.prog W .any base t v := hval0
  have hW' := hW
  obtain ⟨p, q, hA0, hV, rfl, hfz, hnd⟩ := hW
  have hA : DataW.TrodAll enc Tryd.prog W 0 (fun _ => true) true Tryd.f10.params.toList args.toList ds p := hA0
  rw [Tryd.params10] at hA hval
  obtain ⟨v0, vs0, d0, ds0, p0, q0, hargs, rfl, rfl, h0, r0⟩ := trodAll_cons hA
  obtain ⟨rfl, rfl, rfl⟩ := trodAll_nil r0
  obtain rfl : args = #[v0] := by cases args; simp_all
  obtain ⟨rfl, rfl⟩ := trodVars_none hV
  have k0_ := h0
  have lt0 : ∀ x ∈ p0, x.block < W.heap.size := by obtain ⟨m, hm⟩ := k0_; exact DataW.trod_lt m _ _ _ hm
  obtain ⟨cs0, rfl, hsz0⟩ := okWide_struct Tryd.underlying91 (hval 0 91 v0 rfl rfl)
  obtain ⟨_, e0, x0, rfl, g0⟩ := rdT_trod rd91 h0
  obtain ⟨k, hf⟩ := (laws_FnExactTableText.top x0 g0).rounds
  have call := law_call (laws_FnExactTableText.sound k) (ts := [.agg [.sl 169 x0.z (x0.l.map Row.t)]]) (vs := [.agg cs0])
    (rdL_cons (rdL_agg e0) rdL_nil) (by
      show (laws_FnExactTableText.f k x0.z (x0.l.map Row.t)).map laws_FnExactTableText.enc = _
      rw [hf]
      rfl) (gl_of hL)
  refine call.mono fun e W' ⟨he, bel0⟩ => ?_
  have bel : Below W.heap.size W W' := bel0
  subst he
  exact ⟨_, rfl, _, _, _, [], _, [], hW', trodAll_mk1 (shut_bool Tryd.underlying4 _), (trodAll_cons_mk (Below.trod laidOut (by kernel_rfl) (of_decide_eq_true (by kernel_rfl)) k0_ bel lt0) trodAll_mk0), rfl, bel.frame _, fun h => by cases h⟩
theorem over : Rows.fnExactTableTextRow.holds Tryd.pinned (OpenSpec.ofChange Rows.fnExactTableTextSpec) :=
  OpenClaim.holds_of_wide 10 Tryd.f10 rfl rfl rfl rfl rfl rfl rfl ⟨rfl, rfl, rfl, rfl, rfl⟩ rfl rfl rfl rfl rfl (by kernel_rfl) Tryd.func10 (by kernel_rfl)
    (of_decide_eq_true (by kernel_rfl)) (by unfold Func.isWrapper; first | (rw [if_pos (by decide +kernel)]; kernel_rfl) | (rw [if_neg (by decide +kernel)]; exact ⟨rfl, rfl⟩))
    (fun os started H enc _ => lifted os started H enc)
theorem proved : Rows.FnExactTableTextCardSaid :=
  Claim7.holds_tied_plain_at .later [] _ _ _ _ over (fun _ h => by cases h) (by kernel_rfl) (fun _ h => by cases h) fnExactTableText_row_tie rfl ⟨rfl, rfl⟩ (by kernel_rfl) rfl
    (fun f fn hf hfn => by
      obtain rfl : f = 10 := Option.some.inj ((show Tryd.prog.funcNamed Rows.fnExactTableTextRow.func = some 10 by kernel_rfl).symm.trans hf) |>.symm
      obtain rfl : fn = Tryd.f10 := (Option.some.inj (Tryd.func10.symm.trans hfn)).symm
      exact ⟨by kernel_rfl, fun j t ht => by
        rw [Tryd.params10] at ht
        have hm : t ∈ [91] := by simpa using Array.mem_of_getElem? ht
        have hall : ([91].all fun u => !Tryd.prog.wantsStandIn u) = true := by kernel_rfl
        exact (show Tryd.prog.wantsStandIn t = false by simpa using List.all_eq_true.1 hall t hm)⟩)
    (by kernel_rfl)
#print axioms proved
end Go.Proofs.YtjffolalgcmhaaaDoor.fnExactTableText
namespace Go.Proofs.YtjffolalgcmhaaaDoor
theorem fnExactTableText_holds : Rows.FnExactTableTextCardSaid := fnExactTableText.proved
end Go.Proofs.YtjffolalgcmhaaaDoor
