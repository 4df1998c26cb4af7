/- The row of the law FnExactMsgText: whatever the arguments hold, the law returns true and leaves them as they were. No condition. -/
import Derived.Test.YtjffolalgcmhaaaGreatDoorRows
import Derived.Test.YtjffolalgcmhaaaGreatDoorCards
import Derived.Test.YtjffolalgcmhaaaGreatDoorTie
import Derived.WalkKit
import Derived.ProofKit
import Derived.OpenShut
import Derived.ShutString
import Derived.ChangeOld
import Derived.Below
import Derived.SizedLaws
import Derived.LaidMore
import Derived.MakeChecks
import Derived.Stop.LaidErr
import Derived.Stop.Joined
import Derived.SevenTiedAt
import Derived.Lib.LaidTab
import Derived.Test.YtjffolalgcmhaaaGreatDoorQFnExactMsgText
namespace Go.Proofs.YtjffolalgcmhaaaGreatDoor.fnExactMsgText
open Go Go.Proofs.YtjffolalgcmhaaaGreatDoorRv Go.Proofs Go.Proofs.YtjffolalgcmhaaaGreatDoorG Go.ChangeShapes Go.WideShapes Go.ChangeAt Go.RowKit
open Go.ChangeMaps (open_string shut_string)
set_option linter.unusedVariables false
theorem own : ownKnob Tryz.prog.godebug = none := by kernel_rfl
theorem laidOut : laidOutB Tryz.prog = true := by kernel_rfl
section
variable {H : Type} {enc : TypeId × Value → H} {W : World}
set_option maxRecDepth 100000 in
theorem rd3 : RdT enc Tryz.prog W 3 (fun xs => ∃ x : Int, xs = [.int .i64 x] ∧ goodI x) := fun fuel cs x h => by
  obtain ⟨xs, h1, h2, n, rfl, g⟩ := (rdT_int Tryz.underlying3 (by kernel_rfl) : RdT enc Tryz.prog W 3 _) fuel cs x h
  exact ⟨_, h1, h2, n, rfl, g⟩
set_option maxRecDepth 100000 in
theorem rd22 : RdT enc Tryz.prog W 22 (fun xs => ∃ x : By, xs = [.nums 5 .u8 x.z x.l] ∧ By.good x) := fun fuel cs x h => by
  obtain ⟨xs, h1, h2, z, l, rfl, g⟩ := (rdT_nums Tryz.underlying22 Tryz.underlying5 (by kernel_rfl) (by kernel_rfl) : RdT enc Tryz.prog W 22 _) fuel cs x h
  exact ⟨_, h1, h2, ⟨z, l⟩, rfl, g⟩
set_option maxRecDepth 100000 in
theorem rd24 : RdT enc Tryz.prog W 24 (fun xs => ∃ x : Vt, xs = x.t.cells ∧ Vt.good x) := fun fuel cs x h => by
  obtain ⟨xs, h1, h2, p0, q0, rfl, ⟨x0, rfl, g0⟩, ⟨p1, q1, rfl, ⟨x1, rfl, g1⟩, ⟨p2, q2, rfl, ⟨x2, rfl, g2⟩, ⟨p3, q3, rfl, ⟨x3, rfl, g3⟩, ⟨x4, rfl, g4⟩⟩⟩⟩⟩ := (rdT_struct Tryz.underlying24 (by kernel_rfl) (rdF_cons (by kernel_rfl) rd3 (rdF_cons (by kernel_rfl) rd3 (rdF_cons (by kernel_rfl) rd22 (rdF_cons (by kernel_rfl) rd3 (rdF_one (by kernel_rfl) rd22))))) : RdT enc Tryz.prog W 24 _) fuel cs x h
  exact ⟨_, h1, h2, ⟨x0, x1, x2.z, x2.l, x3, x4.z, x4.l⟩, rfl, g0, g1, g2, g3, g4⟩
set_option maxRecDepth 100000 in
theorem rd25 : RdT enc Tryz.prog W 25 (fun xs => ∃ x : Sl By, xs = [.sl 22 x.z (x.l.map By.t)] ∧ GoodL By.good x.l) := fun fuel cs x h => by
  obtain ⟨_, h1, h2, z, l, rfl, h3, g⟩ := (rdT_sl Tryz.underlying25 (by kernel_rfl) rd22 (fun xs ⟨s, e, _⟩ => by subst e; kernel_rfl) (fun xs ⟨s, e, _⟩ => by subst e; kernel_rfl) (by kernel_rfl) (of_decide_eq_true (by kernel_rfl)) : RdT enc Tryz.prog W 25 _) fuel cs x h
  obtain ⟨rows, rfl, gr⟩ := forms (f := By.t) (N := By.good) (l := l) (fun x hx => by
    obtain ⟨ys, ⟨s, e, n1⟩, rfl⟩ := g x hx
    subst e
    exact ⟨s, by kernel_rfl, n1⟩)
  exact ⟨_, h1, h2, ⟨z, rows⟩, rfl, by simpa using h3, gr⟩
set_option maxRecDepth 100000 in
theorem rd27 : RdT enc Tryz.prog W 27 (fun xs => ∃ x : QcV, xs = [.int .i64 x.v, .int .i64 x.h, .nums 5 .u8 x.bz x.blk, .nums 5 .u8 x.mz x.bits, .sl 22 x.tz (x.tags.map By.t)] ∧ QcV.good x) := fun fuel cs x h => by
  obtain ⟨xs, h1, h2, p0, q0, rfl, ⟨x0, rfl, g0⟩, ⟨p1, q1, rfl, ⟨x1, rfl, g1⟩, ⟨p2, q2, rfl, ⟨x2, rfl, g2⟩, ⟨p3, q3, rfl, ⟨x3, rfl, g3⟩, ⟨x4, rfl, g4⟩⟩⟩⟩⟩ := (rdT_struct Tryz.underlying27 (by kernel_rfl) (rdF_cons (by kernel_rfl) rd3 (rdF_cons (by kernel_rfl) rd3 (rdF_cons (by kernel_rfl) rd22 (rdF_cons (by kernel_rfl) rd22 (rdF_one (by kernel_rfl) rd25))))) : RdT enc Tryz.prog W 27 _) fuel cs x h
  exact ⟨_, h1, h2, ⟨x0, x1, x2.z, x2.l, x3.z, x3.l, x4.z, x4.l⟩, rfl, g0, g1, g2, g3, g4⟩
set_option maxRecDepth 100000 in
theorem rd29 : RdT enc Tryz.prog W 29 (fun xs => ∃ x : Head, xs = x.t.cells ∧ Head.good x) := fun fuel cs x h => by
  obtain ⟨xs, h1, h2, p0, q0, rfl, ⟨x0, rfl, g0⟩, ⟨p1, q1, rfl, ⟨x1, rfl, g1⟩, ⟨p2, q2, rfl, ⟨x2, rfl, g2⟩, ⟨p3, q3, rfl, ⟨x3, rfl, g3⟩, ⟨p4, q4, rfl, ⟨x4, rfl, g4⟩, ⟨x5, rfl, g5⟩⟩⟩⟩⟩⟩ := (rdT_struct Tryz.underlying29 (by kernel_rfl) (rdF_cons (by kernel_rfl) rd3 (rdF_cons (by kernel_rfl) rd3 (rdF_cons (by kernel_rfl) rd3 (rdF_cons (by kernel_rfl) rd22 (rdF_cons (by kernel_rfl) rd22 (rdF_one (by kernel_rfl) rd27)))))) : RdT enc Tryz.prog W 29 _) fuel cs x h
  exact ⟨_, h1, h2, ⟨x0, x1, x2, x3.z, x3.l, x4.z, x4.l, x5⟩, rfl, g0, g1, g2, g3, g4, g5⟩
set_option maxRecDepth 100000 in
theorem rd31 : RdT enc Tryz.prog W 31 (fun xs => ∃ x : Blk, xs = [.int .i64 x.hd.v, .int .i64 x.hd.h, .int .i64 x.hd.p, .nums 5 .u8 x.hd.az x.hd.par, .nums 5 .u8 x.hd.rz x.hd.root, .int .i64 x.hd.q.v, .int .i64 x.hd.q.h, .nums 5 .u8 x.hd.q.bz x.hd.q.blk, .nums 5 .u8 x.hd.q.mz x.hd.q.bits, .sl 22 x.hd.q.tz (x.hd.q.tags.map By.t), .sl 22 x.tz (x.txs.map By.t)] ∧ Blk.good x) := fun fuel cs x h => by
  obtain ⟨xs, h1, h2, p0, q0, rfl, ⟨x0, rfl, g0⟩, ⟨x1, rfl, g1⟩⟩ := (rdT_struct Tryz.underlying31 (by kernel_rfl) (rdF_cons (by kernel_rfl) rd29 (rdF_one (by kernel_rfl) rd25)) : RdT enc Tryz.prog W 31 _) fuel cs x h
  exact ⟨_, h1, h2, ⟨x0, x1.z, x1.l⟩, rfl, g0, g1⟩
set_option maxRecDepth 100000 in
theorem rd114 : RdT enc Tryz.prog W 114 (fun xs => ∃ x : En, xs = x.t.cells ∧ En.good x) := fun fuel cs x h => by
  obtain ⟨xs, h1, h2, p0, q0, rfl, ⟨x0, rfl, g0⟩, ⟨p1, q1, rfl, ⟨x1, rfl, g1⟩, ⟨x2, rfl, g2⟩⟩⟩ := (rdT_struct Tryz.underlying114 (by kernel_rfl) (rdF_cons (by kernel_rfl) rd3 (rdF_cons (by kernel_rfl) rd3 (rdF_one (by kernel_rfl) rd22))) : RdT enc Tryz.prog W 114 _) fuel cs x h
  exact ⟨_, h1, h2, ⟨x0, x1, x2.z, x2.l⟩, rfl, g0, g1, g2⟩
set_option maxRecDepth 100000 in
theorem rd32 : RdT enc Tryz.prog W 32 (fun xs => ∃ x : Sl En, xs = [.sl 114 x.z (x.l.map En.t)] ∧ GoodL En.good x.l) := fun fuel cs x h => by
  obtain ⟨_, h1, h2, z, l, rfl, h3, g⟩ := (rdT_sl Tryz.underlying32 (by kernel_rfl) rd114 (fun xs ⟨s, e, _⟩ => by subst e; kernel_rfl) (fun xs ⟨s, e, _⟩ => by subst e; kernel_rfl) (by kernel_rfl) (of_decide_eq_true (by kernel_rfl)) : RdT enc Tryz.prog W 32 _) fuel cs x h
  obtain ⟨rows, rfl, gr⟩ := forms (f := En.t) (N := En.good) (l := l) (fun x hx => by
    obtain ⟨ys, ⟨s, e, n1⟩, rfl⟩ := g x hx
    subst e
    exact ⟨s, by kernel_rfl, n1⟩)
  exact ⟨_, h1, h2, ⟨z, rows⟩, rfl, by simpa using h3, gr⟩
set_option maxRecDepth 100000 in
theorem rd34 : RdT enc Tryz.prog W 34 (fun xs => ∃ x : TcV, xs = [.int .i64 x.v, .sl 114 x.ez (x.ents.map En.t)] ∧ TcV.good x) := fun fuel cs x h => by
  obtain ⟨xs, h1, h2, p0, q0, rfl, ⟨x0, rfl, g0⟩, ⟨x1, rfl, g1⟩⟩ := (rdT_struct Tryz.underlying34 (by kernel_rfl) (rdF_cons (by kernel_rfl) rd3 (rdF_one (by kernel_rfl) rd32)) : RdT enc Tryz.prog W 34 _) fuel cs x h
  exact ⟨_, h1, h2, ⟨x0, x1.z, x1.l⟩, rfl, g0, g1⟩
set_option maxRecDepth 100000 in
theorem rd35 : RdT enc Tryz.prog W 35 (fun xs => ∃ x : Sl Head, xs = [.sl 29 x.z (x.l.map Head.t)] ∧ GoodL Head.good x.l) := fun fuel cs x h => by
  obtain ⟨_, h1, h2, z, l, rfl, h3, g⟩ := (rdT_sl Tryz.underlying35 (by kernel_rfl) rd29 (fun xs ⟨s, e, _⟩ => by subst e; kernel_rfl) (fun xs ⟨s, e, _⟩ => by subst e; kernel_rfl) (by kernel_rfl) (of_decide_eq_true (by kernel_rfl)) : RdT enc Tryz.prog W 35 _) fuel cs x h
  obtain ⟨rows, rfl, gr⟩ := forms (f := Head.t) (N := Head.good) (l := l) (fun x hx => by
    obtain ⟨ys, ⟨s, e, n1⟩, rfl⟩ := g x hx
    subst e
    exact ⟨s, by kernel_rfl, n1⟩)
  exact ⟨_, h1, h2, ⟨z, rows⟩, rfl, by simpa using h3, gr⟩
set_option maxRecDepth 100000 in
theorem rd37 : RdT enc Tryz.prog W 37 (fun xs => ∃ x : Pf, xs = [.sl 29 x.hz (x.heads.map Head.t), .int .i64 x.q.v, .int .i64 x.q.h, .nums 5 .u8 x.q.bz x.q.blk, .nums 5 .u8 x.q.mz x.q.bits, .sl 22 x.q.tz (x.q.tags.map By.t)] ∧ Pf.good x) := fun fuel cs x h => by
  obtain ⟨xs, h1, h2, p0, q0, rfl, ⟨x0, rfl, g0⟩, ⟨x1, rfl, g1⟩⟩ := (rdT_struct Tryz.underlying37 (by kernel_rfl) (rdF_cons (by kernel_rfl) rd35 (rdF_one (by kernel_rfl) rd27)) : RdT enc Tryz.prog W 37 _) fuel cs x h
  exact ⟨_, h1, h2, ⟨x0.z, x0.l, x1⟩, rfl, g0, g1⟩
set_option maxRecDepth 100000 in
theorem rd39 : RdT enc Tryz.prog W 39 (fun xs => ∃ x : Inc, xs = [.int .i64 x.h, .int .i64 x.n, .int .i64 x.at_, .nums 5 .u8 x.xz x.tx, .sl 22 x.pz (x.path.map By.t)] ∧ Inc.good x) := fun fuel cs x h => by
  obtain ⟨xs, h1, h2, p0, q0, rfl, ⟨x0, rfl, g0⟩, ⟨p1, q1, rfl, ⟨x1, rfl, g1⟩, ⟨p2, q2, rfl, ⟨x2, rfl, g2⟩, ⟨p3, q3, rfl, ⟨x3, rfl, g3⟩, ⟨x4, rfl, g4⟩⟩⟩⟩⟩ := (rdT_struct Tryz.underlying39 (by kernel_rfl) (rdF_cons (by kernel_rfl) rd3 (rdF_cons (by kernel_rfl) rd3 (rdF_cons (by kernel_rfl) rd3 (rdF_cons (by kernel_rfl) rd22 (rdF_one (by kernel_rfl) rd25))))) : RdT enc Tryz.prog W 39 _) fuel cs x h
  exact ⟨_, h1, h2, ⟨x0, x1, x2, x3.z, x3.l, x4.z, x4.l⟩, rfl, g0, g1, g2, g3, g4⟩
set_option maxRecDepth 100000 in
theorem rd41 : RdT enc Tryz.prog W 41 (fun xs => ∃ x : Mg, xs = ((.int .i64 x.k) :: (.int .i64 x.vt.v) :: (.int .i64 x.vt.h) :: (.nums 5 .u8 x.vt.bz x.vt.blk) :: (.int .i64 x.vt.who) :: (.nums 5 .u8 x.vt.tz x.vt.tag) :: (.int .i64 x.qc.v) :: (.int .i64 x.qc.h) :: (.nums 5 .u8 x.qc.bz x.qc.blk) :: (.nums 5 .u8 x.qc.mz x.qc.bits) :: (.sl 22 x.qc.tz (x.qc.tags.map By.t)) :: (.int .i64 x.hd.v) :: (.int .i64 x.hd.h) :: (.int .i64 x.hd.p) :: (.nums 5 .u8 x.hd.az x.hd.par) :: (.nums 5 .u8 x.hd.rz x.hd.root) :: (.int .i64 x.hd.q.v) :: (.int .i64 x.hd.q.h) :: (.nums 5 .u8 x.hd.q.bz x.hd.q.blk) :: (.nums 5 .u8 x.hd.q.mz x.hd.q.bits) :: (.sl 22 x.hd.q.tz (x.hd.q.tags.map By.t)) :: (.int .i64 x.bk.hd.v) :: (.int .i64 x.bk.hd.h) :: (.int .i64 x.bk.hd.p) :: (.nums 5 .u8 x.bk.hd.az x.bk.hd.par) :: (.nums 5 .u8 x.bk.hd.rz x.bk.hd.root) :: (.int .i64 x.bk.hd.q.v) :: (.int .i64 x.bk.hd.q.h) :: (.nums 5 .u8 x.bk.hd.q.bz x.bk.hd.q.blk) :: (.nums 5 .u8 x.bk.hd.q.mz x.bk.hd.q.bits) :: (.sl 22 x.bk.hd.q.tz (x.bk.hd.q.tags.map By.t)) :: (.sl 22 x.bk.tz (x.bk.txs.map By.t)) :: (.int .i64 x.tc.v) :: (.sl 114 x.tc.ez (x.tc.ents.map En.t)) :: (.sl 29 x.pf.hz (x.pf.heads.map Head.t)) :: (.int .i64 x.pf.q.v) :: (.int .i64 x.pf.q.h) :: (.nums 5 .u8 x.pf.q.bz x.pf.q.blk) :: (.nums 5 .u8 x.pf.q.mz x.pf.q.bits) :: (.sl 22 x.pf.q.tz (x.pf.q.tags.map By.t)) :: (.int .i64 x.ic.h) :: (.int .i64 x.ic.n) :: (.int .i64 x.ic.at_) :: (.nums 5 .u8 x.ic.xz x.ic.tx) :: (.sl 22 x.ic.pz (x.ic.path.map By.t)) :: []) ∧ Mg.good x) := fun fuel cs x h => by
  obtain ⟨xs, h1, h2, p0, q0, rfl, ⟨x0, rfl, g0⟩, ⟨p1, q1, rfl, ⟨x1, rfl, g1⟩, ⟨p2, q2, rfl, ⟨x2, rfl, g2⟩, ⟨p3, q3, rfl, ⟨x3, rfl, g3⟩, ⟨p4, q4, rfl, ⟨x4, rfl, g4⟩, ⟨p5, q5, rfl, ⟨x5, rfl, g5⟩, ⟨p6, q6, rfl, ⟨x6, rfl, g6⟩, ⟨x7, rfl, g7⟩⟩⟩⟩⟩⟩⟩⟩ := (rdT_struct Tryz.underlying41 (by kernel_rfl) (rdF_cons (by kernel_rfl) rd3 (rdF_cons (by kernel_rfl) rd24 (rdF_cons (by kernel_rfl) rd27 (rdF_cons (by kernel_rfl) rd29 (rdF_cons (by kernel_rfl) rd31 (rdF_cons (by kernel_rfl) rd34 (rdF_cons (by kernel_rfl) rd37 (rdF_one (by kernel_rfl) rd39)))))))) : RdT enc Tryz.prog W 41 _) fuel cs x h
  exact ⟨_, h1, h2, ⟨x0, x1, x2, x3, x4, x5, x6, x7⟩, rfl, g0, g1, g2, g3, g4, g5, g6, g7⟩
end
theorem door_met (os : Os) (args : Array Value) : laidMetH Tryz.prog Rows.fnExactMsgTextRow.laid ((World.doorLaid Tryz.prog 72 os).forCall (fun _ _ => 0) ⟨#[], args, []⟩).memory :=
  laidMetH_of_parts3 (fuel := 8) (laidMet_of_run' 8 (by kernel_rfl) (by kernel_rfl)) (by kernel_rfl) (by kernel_rfl)
theorem gl_of {W : World} (h : laidMetH Tryz.prog Rows.fnExactMsgTextRow.laid W) : GL W ∧ glN ≤ W.heap.size := by
  rw [MakeChecks.laidMetH_plain _ _ _ (by kernel_rfl)] at h
  have e : (Rows.laid_internal_strconv_uint64pow10 : DataW Unit) = Lib.tabData .u64 Lib.pow10Tab := by kernel_rfl
  have h2 := h.tail.tail
  rw [e] at h2
  exact GL.of (P := Tryz.prog) (by kernel_rfl) (Lib.tabIs_of_head (g := 0) (t := 144) (e := 134) (n := 20) (by kernel_rfl) (by kernel_rfl) Tryz.underlying144 Tryz.underlying134 (by kernel_rfl) (by kernel_rfl) h2)
set_option maxRecDepth 100000 in
set_option maxHeartbeats 1000000 in
theorem lifted (os : Os) (started : os.Started) (H : Type) (enc : TypeId × Value → H) :
    ReturnsInHanded {} Tryz.checked os 3 .any (fun w args => (Rows.fnExactMsgTextSpec.pre enc Tryz.prog Tryz.f3 [] false w args ∧ laidMetH Tryz.prog Rows.fnExactMsgTextRow.laid w) ∧ sizedMet enc Tryz.prog Tryz.f3 (OpenSpec.ofChange Rows.fnExactMsgTextSpec) false w args)
      (Rows.fnExactMsgTextSpec.post enc Tryz.prog Tryz.f3 false true false false) := by
  refine returnsInHanded_of_change_and (C := Tryz.checked) (X := fun w _ => laidMetH Tryz.prog Rows.fnExactMsgTextRow.laid w) (fun _ _ _ hh h => h.of_heap hh) own started (by kernel_rfl) Tryz.func3
    (ChangeSpec.witness_shaped (enc := enc) (C := Tryz.checked) (os := os) (X := fun w _ => laidMetH Tryz.prog Rows.fnExactMsgTextRow.laid w) false (World.doorLaid Tryz.prog 72 os) #[.agg #[.int .i64 0, .int .i64 0, .int .i64 0, .slice none 0 0, .int .i64 0, .slice none 0 0, .int .i64 0, .int .i64 0, .slice none 0 0, .slice none 0 0, .slice none 0 0, .int .i64 0, .int .i64 0, .int .i64 0, .slice none 0 0, .slice none 0 0, .int .i64 0, .int .i64 0, .slice none 0 0, .slice none 0 0, .slice none 0 0, .int .i64 0, .int .i64 0, .int .i64 0, .slice none 0 0, .slice none 0 0, .int .i64 0, .int .i64 0, .slice none 0 0, .slice none 0 0, .slice none 0 0, .slice none 0 0, .int .i64 0, .slice none 0 0, .slice none 0 0, .int .i64 0, .int .i64 0, .slice none 0 0, .slice none 0 0, .slice none 0 0, .int .i64 0, .int .i64 0, .int .i64 0, .slice none 0 0, .slice none 0 0]] 12 rfl (World.shaped_of_RefB (by kernel_rfl) (by kernel_rfl)) (by kernel_rfl) (by kernel_rfl) (by kernel_rfl) (door_met os _)) ?_
  intro W base args ds gs before hval0 hW _ _ hL _
  have hval : ∀ (j : Nat) t v, Tryz.f3.params[j]? = some t → args[j]? = some v → Value.okWide Tryz.prog W .any base t v := hval0
  have hW' := hW
  obtain ⟨p, q, hA0, hV, rfl, hfz, hnd⟩ := hW
  have hA : DataW.TrodAll enc Tryz.prog W 0 (fun _ => true) true Tryz.f3.params.toList args.toList ds p := hA0
  rw [Tryz.params3] at hA hval
  obtain ⟨v0, vs0, d0, ds0, p0, q0, hargs, rfl, rfl, h0, r0⟩ := trodAll_cons hA
  obtain ⟨rfl, rfl, rfl⟩ := trodAll_nil r0
  obtain rfl : args = #[v0] := by cases args; simp_all
  obtain ⟨rfl, rfl⟩ := trodVars_none hV
  have k0_ := h0
  have lt0 : ∀ x ∈ p0, x.block < W.heap.size := by obtain ⟨m, hm⟩ := k0_; exact DataW.trod_lt m _ _ _ hm
  obtain ⟨cs0, rfl, hsz0⟩ := okWide_struct Tryz.underlying41 (hval 0 41 v0 rfl rfl)
  obtain ⟨_, e0, x0, rfl, g0⟩ := rdT_trod rd41 h0
  obtain ⟨k, hf⟩ := (laws_FnExactMsgText.top x0 g0).rounds
  have call := law_call (laws_FnExactMsgText.sound k) (ts := [.agg ((.int .i64 x0.k) :: (.int .i64 x0.vt.v) :: (.int .i64 x0.vt.h) :: (.nums 5 .u8 x0.vt.bz x0.vt.blk) :: (.int .i64 x0.vt.who) :: (.nums 5 .u8 x0.vt.tz x0.vt.tag) :: (.int .i64 x0.qc.v) :: (.int .i64 x0.qc.h) :: (.nums 5 .u8 x0.qc.bz x0.qc.blk) :: (.nums 5 .u8 x0.qc.mz x0.qc.bits) :: (.sl 22 x0.qc.tz (x0.qc.tags.map By.t)) :: (.int .i64 x0.hd.v) :: (.int .i64 x0.hd.h) :: (.int .i64 x0.hd.p) :: (.nums 5 .u8 x0.hd.az x0.hd.par) :: (.nums 5 .u8 x0.hd.rz x0.hd.root) :: (.int .i64 x0.hd.q.v) :: (.int .i64 x0.hd.q.h) :: (.nums 5 .u8 x0.hd.q.bz x0.hd.q.blk) :: (.nums 5 .u8 x0.hd.q.mz x0.hd.q.bits) :: (.sl 22 x0.hd.q.tz (x0.hd.q.tags.map By.t)) :: (.int .i64 x0.bk.hd.v) :: (.int .i64 x0.bk.hd.h) :: (.int .i64 x0.bk.hd.p) :: (.nums 5 .u8 x0.bk.hd.az x0.bk.hd.par) :: (.nums 5 .u8 x0.bk.hd.rz x0.bk.hd.root) :: (.int .i64 x0.bk.hd.q.v) :: (.int .i64 x0.bk.hd.q.h) :: (.nums 5 .u8 x0.bk.hd.q.bz x0.bk.hd.q.blk) :: (.nums 5 .u8 x0.bk.hd.q.mz x0.bk.hd.q.bits) :: (.sl 22 x0.bk.hd.q.tz (x0.bk.hd.q.tags.map By.t)) :: (.sl 22 x0.bk.tz (x0.bk.txs.map By.t)) :: (.int .i64 x0.tc.v) :: (.sl 114 x0.tc.ez (x0.tc.ents.map En.t)) :: (.sl 29 x0.pf.hz (x0.pf.heads.map Head.t)) :: (.int .i64 x0.pf.q.v) :: (.int .i64 x0.pf.q.h) :: (.nums 5 .u8 x0.pf.q.bz x0.pf.q.blk) :: (.nums 5 .u8 x0.pf.q.mz x0.pf.q.bits) :: (.sl 22 x0.pf.q.tz (x0.pf.q.tags.map By.t)) :: (.int .i64 x0.ic.h) :: (.int .i64 x0.ic.n) :: (.int .i64 x0.ic.at_) :: (.nums 5 .u8 x0.ic.xz x0.ic.tx) :: (.sl 22 x0.ic.pz (x0.ic.path.map By.t)) :: [])]) (vs := [.agg cs0])
    (rdL_cons (rdL_agg e0) rdL_nil) (by
      show (laws_FnExactMsgText.f k x0.k x0.vt.v x0.vt.h x0.vt.bz x0.vt.blk x0.vt.who x0.vt.tz x0.vt.tag x0.qc.v x0.qc.h x0.qc.bz x0.qc.blk x0.qc.mz x0.qc.bits x0.qc.tz (x0.qc.tags.map By.t) x0.hd.v x0.hd.h x0.hd.p x0.hd.az x0.hd.par x0.hd.rz x0.hd.root x0.hd.q.v x0.hd.q.h x0.hd.q.bz x0.hd.q.blk x0.hd.q.mz x0.hd.q.bits x0.hd.q.tz (x0.hd.q.tags.map By.t) x0.bk.hd.v x0.bk.hd.h x0.bk.hd.p x0.bk.hd.az x0.bk.hd.par x0.bk.hd.rz x0.bk.hd.root x0.bk.hd.q.v x0.bk.hd.q.h x0.bk.hd.q.bz x0.bk.hd.q.blk x0.bk.hd.q.mz x0.bk.hd.q.bits x0.bk.hd.q.tz (x0.bk.hd.q.tags.map By.t) x0.bk.tz (x0.bk.txs.map By.t) x0.tc.v x0.tc.ez (x0.tc.ents.map En.t) x0.pf.hz (x0.pf.heads.map Head.t) x0.pf.q.v x0.pf.q.h x0.pf.q.bz x0.pf.q.blk x0.pf.q.mz x0.pf.q.bits x0.pf.q.tz (x0.pf.q.tags.map By.t) x0.ic.h x0.ic.n x0.ic.at_ x0.ic.xz x0.ic.tx x0.ic.pz (x0.ic.path.map By.t)).map laws_FnExactMsgText.enc = _
      rw [hf]
      rfl) (gl_of hL)
  refine call.mono fun e W' ⟨he, bel0⟩ => ?_
  have bel : Below W.heap.size W W' := bel0
  subst he
  exact ⟨_, rfl, _, _, _, [], _, [], hW', trodAll_mk1 (shut_bool Tryz.underlying4 _), (trodAll_cons_mk (Below.trod laidOut (by kernel_rfl) (of_decide_eq_true (by kernel_rfl)) k0_ bel lt0) trodAll_mk0), rfl, bel.frame _, fun h => by cases h⟩
theorem over : Rows.fnExactMsgTextRow.holds Tryz.pinned (OpenSpec.ofChange Rows.fnExactMsgTextSpec) :=
  OpenClaim.holds_of_wide 3 Tryz.f3 rfl rfl rfl rfl rfl rfl rfl ⟨rfl, rfl, rfl, rfl, rfl⟩ rfl rfl rfl rfl rfl (by kernel_rfl) Tryz.func3 (by kernel_rfl)
    (of_decide_eq_true (by kernel_rfl)) (by unfold Func.isWrapper; first | (rw [if_pos (by decide +kernel)]; kernel_rfl) | (rw [if_neg (by decide +kernel)]; exact ⟨rfl, rfl⟩))
    (fun os started H enc _ => lifted os started H enc)
theorem proved : Rows.FnExactMsgTextCardSaid :=
  Claim7.holds_tied_plain_at .later [] _ _ _ _ over (fun _ h => by cases h) (by kernel_rfl) (fun _ h => by cases h) fnExactMsgText_row_tie rfl ⟨rfl, rfl⟩ (by kernel_rfl) rfl
    (fun f fn hf hfn => by
      obtain rfl : f = 3 := Option.some.inj ((show Tryz.prog.funcNamed Rows.fnExactMsgTextRow.func = some 3 by kernel_rfl).symm.trans hf) |>.symm
      obtain rfl : fn = Tryz.f3 := (Option.some.inj (Tryz.func3.symm.trans hfn)).symm
      exact ⟨by kernel_rfl, fun j t ht => by
        rw [Tryz.params3] at ht
        have hm : t ∈ [41] := by simpa using Array.mem_of_getElem? ht
        have hall : ([41].all fun u => !Tryz.prog.wantsStandIn u) = true := by kernel_rfl
        exact (show Tryz.prog.wantsStandIn t = false by simpa using List.all_eq_true.1 hall t hm)⟩)
    (by kernel_rfl)
#print axioms proved
end Go.Proofs.YtjffolalgcmhaaaGreatDoor.fnExactMsgText
namespace Go.Proofs.YtjffolalgcmhaaaGreatDoor
theorem fnExactMsgText_holds : Rows.FnExactMsgTextCardSaid := fnExactMsgText.proved
end Go.Proofs.YtjffolalgcmhaaaGreatDoor
