/- What the functions compute, printed by a program of this repo; each is shown to be what the machine of values answers. No condition. -/
import Derived.Test.YtbpcnodmgphinaaProg
import Derived.KernelRfl
import Derived.Test.YtbpcnodmgphinaaGFnChaina
namespace Go.Proofs.YtbpcnodmgphinaaG
open Go Go.Proofs.YtbpcnodmgphinaaRv Go.Proofs
set_option linter.unusedVariables false
set_option linter.unusedSimpArgs false
def spec_PutQc.b {R : Type} (ret : Bool × (List Int) × Bool → Option R) (j0 : Bool → (List Int) → Bool → (List T) → Int → Int → Option R) (k : Nat) (a0_0 a0_1 : Int) (a0_2 a0_3 a0_4 : Int) (a1z : Bool) (a1 : List Int) (a2_0 a2_1 : Int) (a2_2z : Bool) (a2_2 : List Int) (a2_3z : Bool) (a2_3 : List Int) (a2_4z : Bool) (a2_4 : List T) : Option R :=
  (spec_QcOk.f k a0_0 a0_1 a0_2 a0_3 a0_4 a2_0 a2_1 a2_2z a2_2 a2_3z a2_3 a2_4z a2_4).bind fun t0 => cond (!t0) (ret (true, ([] : List Int), false)) ((spec_l11Num.f k a1z a1 a2_0).bind fun t1 => (spec_l11Num.f k t1.1 t1.2 a2_1).bind fun t2 => cond (decide ((t2.2).length + (a2_2).length < 140737488355328)) (cond (decide (((t2.2 ++ a2_2)).length + (a2_3).length < 140737488355328)) (j0 ((a2_3).isEmpty && ((a2_2).isEmpty && t2.1)) ((t2.2 ++ a2_2) ++ a2_3) a2_4z a2_4 ((a2_4).length : Int) 0) (none)) (none))
def spec_PutQc.l0b {R : Type} (ret : Bool × (List Int) × Bool → Option R) (j0 : Bool → (List Int) → Bool → (List T) → Int → Int → Option R) (k : Nat) (x8z : Bool) (x8 : List Int) (x30z : Bool) (x30 : List T) (x31 x32 : Int) : Option R :=
  cond (decide (x32 < x31)) (cond (decide ((0 : Int) ≤ x32)) (cond (decide (x32 < ((x30).length : Int))) (cond (decide ((x8).length + (((((x30).getD (x32).toNat .bad).cells.getD 0 .bad)).toNums).length < 140737488355328)) (j0 ((((((x30).getD (x32).toNat .bad).cells.getD 0 .bad)).toNums).isEmpty && x8z) (x8 ++ ((((x30).getD (x32).toNat .bad).cells.getD 0 .bad)).toNums) x30z x30 x31 (RowKit.wrap64 (x32 + 1))) (none)) (none)) (none)) (ret (x8z, x8, true))
def spec_PutQc.l0 : Nat → Bool → (List Int) → Bool → (List T) → Int → Int → Option (Bool × (List Int) × Bool)
  | 0, _, _, _, _, _, _ => none
  | k + 1, x8z, x8, x30z, x30, x31, x32 => spec_PutQc.l0b some (spec_PutQc.l0 k) k x8z x8 x30z x30 x31 x32
def spec_PutQc.f : Nat → Int → Int → Int → Int → Int → Bool → (List Int) → Int → Int → Bool → (List Int) → Bool → (List Int) → Bool → (List T) → Option (Bool × (List Int) × Bool)
  | 0, _, _, _, _, _, _, _, _, _, _, _, _, _, _, _ => none
  | k + 1, a0_0, a0_1, a0_2, a0_3, a0_4, a1z, a1, a2_0, a2_1, a2_2z, a2_2, a2_3z, a2_3, a2_4z, a2_4 => spec_PutQc.b some (spec_PutQc.l0 k) k a0_0 a0_1 a0_2 a0_3 a0_4 a1z a1 a2_0 a2_1 a2_2z a2_2 a2_3z a2_3 a2_4z a2_4
def spec_PutQc.enc (r : Bool × (List Int) × Bool) : Res := ⟨[.vals false [((.nums 5 .u8 r.1 r.2.1), true)], .vals false [((.bool r.2.2), true)]], []⟩
def spec_PutQc.ans (k : Nat) : List Arg → Ans
  | [.v (.agg [(.int .i64 a0_0), (.int .i64 a0_1), (.int .i64 a0_2), (.int .i64 a0_3), (.int .i64 a0_4)]), .v (.nums 5 .u8 a1z a1), .v (.agg [(.int .i64 a2_0), (.int .i64 a2_1), (.nums 5 .u8 a2_2z a2_2), (.nums 5 .u8 a2_3z a2_3), (.sl 22 a2_4z a2_4)])] => ⟨spec_PutQc.f k a0_0 a0_1 a0_2 a0_3 a0_4 a1z a1 a2_0 a2_1 a2_2z a2_2 a2_3z a2_3 a2_4z a2_4, spec_PutQc.enc⟩
  | _ => Ans.no
def spec_PutQc.Cs (k : Nat) : CallSem := tab [(192, spec_QcOk.ans k), (217, spec_l11Num.ans k)]
def spec_PutQc.cuts : List (Nat × Keep) := [(250, ⟨[(8, none), (30, some []), (31, some []), (32, some [])], []⟩)]
noncomputable def spec_PutQc.K0 : List Fr := framesAt [true, true, true, true, false, true, false] (bodyOf Try.f218 spec_PutQc.cuts) []
def spec_PutQc.N0 (x8z : Bool) (x8 : List Int) (x30z : Bool) (x30 : List T) (x31 x32 : Int) : St := stOf 41 41 3 [(8, .val ⟨(.nums 5 .u8 x8z x8), [.l 8 0], true, some (.l 8 0)⟩), (30, .val ⟨(.sl 22 x30z x30), [], false, none⟩), (31, .val (V.s (.int .i64 x31))), (32, .val (V.s (.int .i64 x32)))] []
theorem spec_PutQc.s0 (k : Nat) (G : List Fr → St → Option Res) (a0_0 a0_1 : Int) (a0_2 a0_3 a0_4 : Int) (a1z : Bool) (a1 : List Int) (a2_0 a2_1 : Int) (a2_2z : Bool) (a2_2 : List Int) (a2_3z : Bool) (a2_3 : List Int) (a2_4z : Bool) (a2_4 : List T) (yx8z : Bool) (yx8 : List Int) (yx30z : Bool) (yx30 : List T) (yx31 yx32 : Int) : resume Try.prog (spec_PutQc.Cs k) G (finish Try.prog [] Try.f218 [.v (.agg [(.int .i64 a0_0), (.int .i64 a0_1), (.int .i64 a0_2), (.int .i64 a0_3), (.int .i64 a0_4)]), .v (.nums 5 .u8 a1z a1), .v (.agg [(.int .i64 a2_0), (.int .i64 a2_1), (.nums 5 .u8 a2_2z a2_2), (.nums 5 .u8 a2_3z a2_3), (.sl 22 a2_4z a2_4)])]) 100000 spec_PutQc.K0 (spec_PutQc.N0 yx8z yx8 yx30z yx30 yx31 yx32) = spec_PutQc.l0b (fun r => some (spec_PutQc.enc r)) (fun x8z x8 x30z x30 x31 x32 => G spec_PutQc.K0 (spec_PutQc.N0 x8z x8 x30z x30 x31 x32)) k yx8z yx8 yx30z yx30 yx31 yx32 := by kernel_rfl
theorem spec_PutQc.bn {R R' : Type} (e : R → R') (ret : Bool × (List Int) × Bool → Option R) (j0 : Bool → (List Int) → Bool → (List T) → Int → Int → Option R) (k : Nat) (a0_0 a0_1 : Int) (a0_2 a0_3 a0_4 : Int) (a1z : Bool) (a1 : List Int) (a2_0 a2_1 : Int) (a2_2z : Bool) (a2_2 : List Int) (a2_3z : Bool) (a2_3 : List Int) (a2_4z : Bool) (a2_4 : List T) : spec_PutQc.b (fun r => (ret r).map e) (fun x8z x8 x30z x30 x31 x32 => (j0 x8z x8 x30z x30 x31 x32).map e) k a0_0 a0_1 a0_2 a0_3 a0_4 a1z a1 a2_0 a2_1 a2_2z a2_2 a2_3z a2_3 a2_4z a2_4 = (spec_PutQc.b ret j0 k a0_0 a0_1 a0_2 a0_3 a0_4 a1z a1 a2_0 a2_1 a2_2z a2_2 a2_3z a2_3 a2_4z a2_4).map e := by
  unfold spec_PutQc.b
  repeat' first | with_reducible refine nat_cond ?_ ?_ | with_reducible refine nat_bind fun _ => ?_ | rfl
theorem spec_PutQc.l0n {R R' : Type} (e : R → R') (ret : Bool × (List Int) × Bool → Option R) (j0 : Bool → (List Int) → Bool → (List T) → Int → Int → Option R) (k : Nat) (x8z : Bool) (x8 : List Int) (x30z : Bool) (x30 : List T) (x31 x32 : Int) : spec_PutQc.l0b (fun r => (ret r).map e) (fun x8z x8 x30z x30 x31 x32 => (j0 x8z x8 x30z x30 x31 x32).map e) k x8z x8 x30z x30 x31 x32 = (spec_PutQc.l0b ret j0 k x8z x8 x30z x30 x31 x32).map e := by
  unfold spec_PutQc.l0b
  repeat' first | with_reducible refine nat_cond ?_ ?_ | with_reducible refine nat_bind fun _ => ?_ | rfl
theorem spec_PutQc.rq (a0_0 a0_1 : Int) (a0_2 a0_3 a0_4 : Int) (a1z : Bool) (a1 : List Int) (a2_0 a2_1 : Int) (a2_2z : Bool) (a2_2 : List Int) (a2_3z : Bool) (a2_3 : List Int) (a2_4z : Bool) (a2_4 : List T) : ∀ k, (∀ (x8z : Bool) (x8 : List Int) (x30z : Bool) (x30 : List T) (x31 x32 : Int), rounds Try.prog spec_PutQc.Cs (finish Try.prog [] Try.f218 [.v (.agg [(.int .i64 a0_0), (.int .i64 a0_1), (.int .i64 a0_2), (.int .i64 a0_3), (.int .i64 a0_4)]), .v (.nums 5 .u8 a1z a1), .v (.agg [(.int .i64 a2_0), (.int .i64 a2_1), (.nums 5 .u8 a2_2z a2_2), (.nums 5 .u8 a2_3z a2_3), (.sl 22 a2_4z a2_4)])]) 100000 k spec_PutQc.K0 (spec_PutQc.N0 x8z x8 x30z x30 x31 x32) = (spec_PutQc.l0 k x8z x8 x30z x30 x31 x32).map spec_PutQc.enc)
  | 0 => fun _ _ _ _ _ _ => rfl
  | k + 1 => by
    have ih := spec_PutQc.rq a0_0 a0_1 a0_2 a0_3 a0_4 a1z a1 a2_0 a2_1 a2_2z a2_2 a2_3z a2_3 a2_4z a2_4 k
    refine fun _ _ _ _ _ _ => ?_
    · refine (spec_PutQc.s0 k _ a0_0 a0_1 a0_2 a0_3 a0_4 a1z a1 a2_0 a2_1 a2_2z a2_2 a2_3z a2_3 a2_4z a2_4 _ _ _ _ _ _).trans (Eq.trans ?_ (spec_PutQc.l0n spec_PutQc.enc some (spec_PutQc.l0 k) k _ _ _ _ _ _))
      simp only [ih, Option.map_some]
theorem spec_PutQc.eq (k : Nat) (a0_0 a0_1 : Int) (a0_2 a0_3 a0_4 : Int) (a1z : Bool) (a1 : List Int) (a2_0 a2_1 : Int) (a2_2z : Bool) (a2_2 : List Int) (a2_3z : Bool) (a2_3 : List Int) (a2_4z : Bool) (a2_4 : List T) : answer Try.prog spec_PutQc.Cs 100000 spec_PutQc.cuts [] Try.f218 (k + 1) [.v (.agg [(.int .i64 a0_0), (.int .i64 a0_1), (.int .i64 a0_2), (.int .i64 a0_3), (.int .i64 a0_4)]), .v (.nums 5 .u8 a1z a1), .v (.agg [(.int .i64 a2_0), (.int .i64 a2_1), (.nums 5 .u8 a2_2z a2_2), (.nums 5 .u8 a2_3z a2_3), (.sl 22 a2_4z a2_4)])] = (spec_PutQc.f (k + 1) a0_0 a0_1 a0_2 a0_3 a0_4 a1z a1 a2_0 a2_1 a2_2z a2_2 a2_3z a2_3 a2_4z a2_4).map spec_PutQc.enc := by
  have ih := spec_PutQc.rq a0_0 a0_1 a0_2 a0_3 a0_4 a1z a1 a2_0 a2_1 a2_2z a2_2 a2_3z a2_3 a2_4z a2_4 k
  refine Eq.trans (b := spec_PutQc.b (fun r => some (spec_PutQc.enc r)) (fun x8z x8 x30z x30 x31 x32 => rounds Try.prog spec_PutQc.Cs (finish Try.prog [] Try.f218 [.v (.agg [(.int .i64 a0_0), (.int .i64 a0_1), (.int .i64 a0_2), (.int .i64 a0_3), (.int .i64 a0_4)]), .v (.nums 5 .u8 a1z a1), .v (.agg [(.int .i64 a2_0), (.int .i64 a2_1), (.nums 5 .u8 a2_2z a2_2), (.nums 5 .u8 a2_3z a2_3), (.sl 22 a2_4z a2_4)])]) 100000 k spec_PutQc.K0 (spec_PutQc.N0 x8z x8 x30z x30 x31 x32)) k a0_0 a0_1 a0_2 a0_3 a0_4 a1z a1 a2_0 a2_1 a2_2z a2_2 a2_3z a2_3 a2_4z a2_4) (by kernel_rfl) (Eq.trans ?_ (spec_PutQc.bn spec_PutQc.enc some (spec_PutQc.l0 k) k a0_0 a0_1 a0_2 a0_3 a0_4 a1z a1 a2_0 a2_1 a2_2z a2_2 a2_3z a2_3 a2_4z a2_4))
  simp only [ih, Option.map_some]
theorem spec_PutQc.sound (k : Nat) : SoundF Try.prog 218 (fun a => (spec_PutQc.ans k a).val) := by
  refine sound_plain (fun args res h => ?_) (fun t n => rfl)
  unfold spec_PutQc.ans at h
  dsimp only at h
  split at h
  · cases k with
    | zero => cases h
    | succ k =>
      unfold Ans.val at h
      rw [← spec_PutQc.eq] at h
      exact answer_sound mixed Try.func218 _ _ _ (k + 1) (fun j _ => tab_sound (tab_cons (spec_QcOk.sound j) (tab_cons (spec_l11Num.sound j) (tab_nil)))) _ _ h
  · exact (Ans.no_val h).elim

def spec_PutHead.b {R : Type} (ret : Bool × (List Int) × Bool → Option R) (k : Nat) (a0_0 a0_1 : Int) (a0_2 a0_3 a0_4 : Int) (a1z : Bool) (a1 : List Int) (a2_0 a2_1 a2_2 : Int) (a2_3z : Bool) (a2_3 : List Int) (a2_4z : Bool) (a2_4 : List Int) (a2_5 a2_6 : Int) (a2_7z : Bool) (a2_7 : List Int) (a2_8z : Bool) (a2_8 : List Int) (a2_9z : Bool) (a2_9 : List T) : Option R :=
  (spec_HeadOk.f k a0_0 a0_1 a0_2 a0_3 a0_4 a2_0 a2_1 a2_2 a2_3z a2_3 a2_4z a2_4 a2_5 a2_6 a2_7z a2_7 a2_8z a2_8 a2_9z a2_9).bind fun t0 => cond (!t0) (ret (true, ([] : List Int), false)) ((spec_l11Num.f k a1z a1 a2_0).bind fun t1 => (spec_l11Num.f k t1.1 t1.2 a2_1).bind fun t2 => (spec_l11Num.f k t2.1 t2.2 a2_2).bind fun t3 => cond (decide ((t3.2).length + (a2_3).length < 140737488355328)) (cond (decide (((t3.2 ++ a2_3)).length + (a2_4).length < 140737488355328)) ((spec_PutQc.f k a0_0 a0_1 a0_2 a0_3 a0_4 ((a2_4).isEmpty && ((a2_3).isEmpty && t3.1)) ((t3.2 ++ a2_3) ++ a2_4) a2_5 a2_6 a2_7z a2_7 a2_8z a2_8 a2_9z a2_9).bind fun t4 => ret (t4.1, t4.2.1, t4.2.2)) (none)) (none))
def spec_PutHead.f : Nat → Int → Int → Int → Int → Int → Bool → (List Int) → Int → Int → Int → Bool → (List Int) → Bool → (List Int) → Int → Int → Bool → (List Int) → Bool → (List Int) → Bool → (List T) → Option (Bool × (List Int) × Bool)
  | 0, _, _, _, _, _, _, _, _, _, _, _, _, _, _, _, _, _, _, _, _, _, _ => none
  | k + 1, a0_0, a0_1, a0_2, a0_3, a0_4, a1z, a1, a2_0, a2_1, a2_2, a2_3z, a2_3, a2_4z, a2_4, a2_5, a2_6, a2_7z, a2_7, a2_8z, a2_8, a2_9z, a2_9 => spec_PutHead.b some k a0_0 a0_1 a0_2 a0_3 a0_4 a1z a1 a2_0 a2_1 a2_2 a2_3z a2_3 a2_4z a2_4 a2_5 a2_6 a2_7z a2_7 a2_8z a2_8 a2_9z a2_9
def spec_PutHead.enc (r : Bool × (List Int) × Bool) : Res := ⟨[.vals false [((.nums 5 .u8 r.1 r.2.1), true)], .vals false [((.bool r.2.2), true)]], []⟩
def spec_PutHead.ans (k : Nat) : List Arg → Ans
  | [.v (.agg [(.int .i64 a0_0), (.int .i64 a0_1), (.int .i64 a0_2), (.int .i64 a0_3), (.int .i64 a0_4)]), .v (.nums 5 .u8 a1z a1), .v (.agg [(.int .i64 a2_0), (.int .i64 a2_1), (.int .i64 a2_2), (.nums 5 .u8 a2_3z a2_3), (.nums 5 .u8 a2_4z a2_4), (.int .i64 a2_5), (.int .i64 a2_6), (.nums 5 .u8 a2_7z a2_7), (.nums 5 .u8 a2_8z a2_8), (.sl 22 a2_9z a2_9)])] => ⟨spec_PutHead.f k a0_0 a0_1 a0_2 a0_3 a0_4 a1z a1 a2_0 a2_1 a2_2 a2_3z a2_3 a2_4z a2_4 a2_5 a2_6 a2_7z a2_7 a2_8z a2_8 a2_9z a2_9, spec_PutHead.enc⟩
  | _ => Ans.no
def spec_PutHead.Cs (k : Nat) : CallSem := tab [(157, spec_HeadOk.ans k), (217, spec_l11Num.ans k), (218, spec_PutQc.ans k)]
theorem spec_PutHead.eq (k : Nat) (a0_0 a0_1 : Int) (a0_2 a0_3 a0_4 : Int) (a1z : Bool) (a1 : List Int) (a2_0 a2_1 a2_2 : Int) (a2_3z : Bool) (a2_3 : List Int) (a2_4z : Bool) (a2_4 : List Int) (a2_5 a2_6 : Int) (a2_7z : Bool) (a2_7 : List Int) (a2_8z : Bool) (a2_8 : List Int) (a2_9z : Bool) (a2_9 : List T) : answer Try.prog spec_PutHead.Cs 100000 [] [] Try.f180 (k + 1) [.v (.agg [(.int .i64 a0_0), (.int .i64 a0_1), (.int .i64 a0_2), (.int .i64 a0_3), (.int .i64 a0_4)]), .v (.nums 5 .u8 a1z a1), .v (.agg [(.int .i64 a2_0), (.int .i64 a2_1), (.int .i64 a2_2), (.nums 5 .u8 a2_3z a2_3), (.nums 5 .u8 a2_4z a2_4), (.int .i64 a2_5), (.int .i64 a2_6), (.nums 5 .u8 a2_7z a2_7), (.nums 5 .u8 a2_8z a2_8), (.sl 22 a2_9z a2_9)])] = (spec_PutHead.f (k + 1) a0_0 a0_1 a0_2 a0_3 a0_4 a1z a1 a2_0 a2_1 a2_2 a2_3z a2_3 a2_4z a2_4 a2_5 a2_6 a2_7z a2_7 a2_8z a2_8 a2_9z a2_9).map spec_PutHead.enc := by
  refine Eq.trans (b := spec_PutHead.b (fun r => some (spec_PutHead.enc r)) k a0_0 a0_1 a0_2 a0_3 a0_4 a1z a1 a2_0 a2_1 a2_2 a2_3z a2_3 a2_4z a2_4 a2_5 a2_6 a2_7z a2_7 a2_8z a2_8 a2_9z a2_9) (by kernel_rfl) ?_
  show _ = (spec_PutHead.b some k a0_0 a0_1 a0_2 a0_3 a0_4 a1z a1 a2_0 a2_1 a2_2 a2_3z a2_3 a2_4z a2_4 a2_5 a2_6 a2_7z a2_7 a2_8z a2_8 a2_9z a2_9).map spec_PutHead.enc
  unfold spec_PutHead.b
  repeat' first | with_reducible refine nat_cond ?_ ?_ | with_reducible refine nat_bind fun _ => ?_ | rfl
theorem spec_PutHead.sound (k : Nat) : SoundF Try.prog 180 (fun a => (spec_PutHead.ans k a).val) := by
  refine sound_plain (fun args res h => ?_) (fun t n => rfl)
  unfold spec_PutHead.ans at h
  dsimp only at h
  split at h
  · cases k with
    | zero => cases h
    | succ k =>
      unfold Ans.val at h
      rw [← spec_PutHead.eq] at h
      exact answer_sound mixed Try.func180 _ _ _ (k + 1) (fun j _ => tab_sound (tab_cons (spec_HeadOk.sound j) (tab_cons (spec_l11Num.sound j) (tab_cons (spec_PutQc.sound j) (tab_nil))))) _ _ h
  · exact (Ans.no_val h).elim

def spec_ShaInit.b {R : Type} (ret : Bool × List Int → Option R) (k : Nat) : Option R :=
  ret (false, ([1779033703, 3144134277, 1013904242, 2773480762, 1359893119, 2600822924, 528734635, 1541459225] : List Int))
def spec_ShaInit.f : Nat → Option (Bool × List Int)
  | 0 => none
  | k + 1 => spec_ShaInit.b some k
def spec_ShaInit.enc (r : Bool × List Int) : Res := ⟨[.vals false [((.nums 3 .i64 r.1 r.2), true)]], []⟩
def spec_ShaInit.ans (k : Nat) : List Arg → Ans
  | [] => ⟨spec_ShaInit.f k, spec_ShaInit.enc⟩
  | _ => Ans.no
def spec_ShaInit.Cs (k : Nat) : CallSem := tab []
theorem spec_ShaInit.eq (k : Nat) : answer Try.prog spec_ShaInit.Cs 100000 [] [] Try.f219 (k + 1) [] = (spec_ShaInit.f (k + 1)).map spec_ShaInit.enc := by
  refine Eq.trans (b := spec_ShaInit.b (fun r => some (spec_ShaInit.enc r)) k) (by kernel_rfl) ?_
  show _ = (spec_ShaInit.b some k).map spec_ShaInit.enc
  unfold spec_ShaInit.b
  repeat' first | with_reducible refine nat_cond ?_ ?_ | with_reducible refine nat_bind fun _ => ?_ | rfl
theorem spec_ShaInit.sound (k : Nat) : SoundF Try.prog 219 (fun a => (spec_ShaInit.ans k a).val) := by
  refine sound_plain (fun args res h => ?_) (fun t n => rfl)
  unfold spec_ShaInit.ans at h
  dsimp only at h
  split at h
  · cases k with
    | zero => cases h
    | succ k =>
      unfold Ans.val at h
      rw [← spec_ShaInit.eq] at h
      exact answer_sound mixed Try.func219 _ _ _ (k + 1) (fun j _ => tab_sound (tab_nil)) _ _ h
  · exact (Ans.no_val h).elim

def spec_ShaPad.b {R : Type} (ret : Bool × List Int → Option R) (j0 : Bool → (List Int) → (List Int) → Option R) (j1 : (List Int) → Int → Int → Option R) (k : Nat) (a0z : Bool) (a0 : List Int) : Option R :=
  (spec_l01Copy.f k a0z a0).bind fun t0 => cond (decide ((t0.2).length + 1 < 140737488355328)) (j0 a0z a0 (t0.2 ++ ([128] : List Int))) (none)
def spec_ShaPad.l0b {R : Type} (ret : Bool × List Int → Option R) (j0 : Bool → (List Int) → (List Int) → Option R) (j1 : (List Int) → Int → Int → Option R) (k : Nat) (x0z : Bool) (x0 x3 : List Int) : Option R :=
  cond (!(decide ((Int.tmod ((x3).length : Int) 64) = 56))) (cond (decide ((x3).length + 1 < 140737488355328)) (j0 x0z x0 (x3 ++ ([0] : List Int))) (none)) (j1 x3 (RowKit.wrap64 ((8 : Int) * ((x0).length : Int))) 7)
def spec_ShaPad.l1b {R : Type} (ret : Bool × List Int → Option R) (j0 : Bool → (List Int) → (List Int) → Option R) (j1 : (List Int) → Int → Int → Option R) (k : Nat) (x3 : List Int) (x4 x5 : Int) : Option R :=
  cond (decide (x5 ≥ 0)) (cond (decide ((0 : Int) ≤ (RowKit.wrap64 ((8 : Int) * x5)))) (cond (decide ((x3).length + 1 < 140737488355328)) (j1 (x3 ++ ([(((shrI .i64 x4 (RowKit.wrap64 ((8 : Int) * x5)))) % 256)] : List Int)) x4 (RowKit.wrap64 (x5 - 1))) (none)) (none)) (ret (false, x3))
mutual
def spec_ShaPad.l0 : Nat → Bool → (List Int) → (List Int) → Option (Bool × List Int)
  | 0, _, _, _ => none
  | k + 1, x0z, x0, x3 => spec_ShaPad.l0b some (spec_ShaPad.l0 k) (spec_ShaPad.l1 k) k x0z x0 x3
def spec_ShaPad.l1 : Nat → (List Int) → Int → Int → Option (Bool × List Int)
  | 0, _, _, _ => none
  | k + 1, x3, x4, x5 => spec_ShaPad.l1b some (spec_ShaPad.l0 k) (spec_ShaPad.l1 k) k x3 x4 x5
end
def spec_ShaPad.f : Nat → Bool → (List Int) → Option (Bool × List Int)
  | 0, _, _ => none
  | k + 1, a0z, a0 => spec_ShaPad.b some (spec_ShaPad.l0 k) (spec_ShaPad.l1 k) k a0z a0
def spec_ShaPad.enc (r : Bool × List Int) : Res := ⟨[.vals false [((.nums 5 .u8 r.1 r.2), true)]], []⟩
def spec_ShaPad.ans (k : Nat) : List Arg → Ans
  | [.v (.nums 5 .u8 a0z a0)] => ⟨spec_ShaPad.f k a0z a0, spec_ShaPad.enc⟩
  | _ => Ans.no
def spec_ShaPad.Cs (k : Nat) : CallSem := tab [(155, spec_l01Copy.ans k)]
def spec_ShaPad.cuts : List (Nat × Keep) := [(28, ⟨[(0, some []), (3, none)], []⟩), (250, ⟨[(3, none), (4, some []), (5, some [])], []⟩)]
noncomputable def spec_ShaPad.K0 : List Fr := framesAt [true, true, false, false] (bodyOf Try.f220 spec_ShaPad.cuts) []
def spec_ShaPad.N0 (x0z : Bool) (x0 x3 : List Int) : St := stOf 33 33 1 [(0, .val ⟨(.nums 5 .u8 x0z x0), [], false, none⟩), (3, .val ⟨(.nums 5 .u8 false x3), [.l 3 0], true, some (.l 3 0)⟩)] []
noncomputable def spec_ShaPad.K1 : List Fr := framesAt [true, true, true, true, false, true, false] (bodyOf Try.f220 spec_ShaPad.cuts) []
def spec_ShaPad.N1 (x3 : List Int) (x4 x5 : Int) : St := stOf 33 33 1 [(3, .val ⟨(.nums 5 .u8 false x3), [.l 3 0], true, some (.l 3 0)⟩), (4, .val (V.s (.int .i64 x4))), (5, .val (V.s (.int .i64 x5)))] []
theorem spec_ShaPad.s0 (k : Nat) (G : List Fr → St → Option Res) (a0z : Bool) (a0 : List Int) (yx0z : Bool) (yx0 yx3 : List Int) : resume Try.prog (spec_ShaPad.Cs k) G (finish Try.prog [] Try.f220 [.v (.nums 5 .u8 a0z a0)]) 100000 spec_ShaPad.K0 (spec_ShaPad.N0 yx0z yx0 yx3) = spec_ShaPad.l0b (fun r => some (spec_ShaPad.enc r)) (fun x0z x0 x3 => G spec_ShaPad.K0 (spec_ShaPad.N0 x0z x0 x3)) (fun x3 x4 x5 => G spec_ShaPad.K1 (spec_ShaPad.N1 x3 x4 x5)) k yx0z yx0 yx3 := by kernel_rfl
theorem spec_ShaPad.s1 (k : Nat) (G : List Fr → St → Option Res) (a0z : Bool) (a0 yx3 : List Int) (yx4 yx5 : Int) : resume Try.prog (spec_ShaPad.Cs k) G (finish Try.prog [] Try.f220 [.v (.nums 5 .u8 a0z a0)]) 100000 spec_ShaPad.K1 (spec_ShaPad.N1 yx3 yx4 yx5) = spec_ShaPad.l1b (fun r => some (spec_ShaPad.enc r)) (fun x0z x0 x3 => G spec_ShaPad.K0 (spec_ShaPad.N0 x0z x0 x3)) (fun x3 x4 x5 => G spec_ShaPad.K1 (spec_ShaPad.N1 x3 x4 x5)) k yx3 yx4 yx5 := by kernel_rfl
theorem spec_ShaPad.bn {R R' : Type} (e : R → R') (ret : Bool × List Int → Option R) (j0 : Bool → (List Int) → (List Int) → Option R) (j1 : (List Int) → Int → Int → Option R) (k : Nat) (a0z : Bool) (a0 : List Int) : spec_ShaPad.b (fun r => (ret r).map e) (fun x0z x0 x3 => (j0 x0z x0 x3).map e) (fun x3 x4 x5 => (j1 x3 x4 x5).map e) k a0z a0 = (spec_ShaPad.b ret j0 j1 k a0z a0).map e := by
  unfold spec_ShaPad.b
  repeat' first | with_reducible refine nat_cond ?_ ?_ | with_reducible refine nat_bind fun _ => ?_ | rfl
theorem spec_ShaPad.l0n {R R' : Type} (e : R → R') (ret : Bool × List Int → Option R) (j0 : Bool → (List Int) → (List Int) → Option R) (j1 : (List Int) → Int → Int → Option R) (k : Nat) (x0z : Bool) (x0 x3 : List Int) : spec_ShaPad.l0b (fun r => (ret r).map e) (fun x0z x0 x3 => (j0 x0z x0 x3).map e) (fun x3 x4 x5 => (j1 x3 x4 x5).map e) k x0z x0 x3 = (spec_ShaPad.l0b ret j0 j1 k x0z x0 x3).map e := by
  unfold spec_ShaPad.l0b
  repeat' first | with_reducible refine nat_cond ?_ ?_ | with_reducible refine nat_bind fun _ => ?_ | rfl
theorem spec_ShaPad.l1n {R R' : Type} (e : R → R') (ret : Bool × List Int → Option R) (j0 : Bool → (List Int) → (List Int) → Option R) (j1 : (List Int) → Int → Int → Option R) (k : Nat) (x3 : List Int) (x4 x5 : Int) : spec_ShaPad.l1b (fun r => (ret r).map e) (fun x0z x0 x3 => (j0 x0z x0 x3).map e) (fun x3 x4 x5 => (j1 x3 x4 x5).map e) k x3 x4 x5 = (spec_ShaPad.l1b ret j0 j1 k x3 x4 x5).map e := by
  unfold spec_ShaPad.l1b
  repeat' first | with_reducible refine nat_cond ?_ ?_ | with_reducible refine nat_bind fun _ => ?_ | rfl
theorem spec_ShaPad.rq (a0z : Bool) (a0 : List Int) : ∀ k, (∀ (x0z : Bool) (x0 x3 : List Int), rounds Try.prog spec_ShaPad.Cs (finish Try.prog [] Try.f220 [.v (.nums 5 .u8 a0z a0)]) 100000 k spec_ShaPad.K0 (spec_ShaPad.N0 x0z x0 x3) = (spec_ShaPad.l0 k x0z x0 x3).map spec_ShaPad.enc) ∧ (∀ (x3 : List Int) (x4 x5 : Int), rounds Try.prog spec_ShaPad.Cs (finish Try.prog [] Try.f220 [.v (.nums 5 .u8 a0z a0)]) 100000 k spec_ShaPad.K1 (spec_ShaPad.N1 x3 x4 x5) = (spec_ShaPad.l1 k x3 x4 x5).map spec_ShaPad.enc)
  | 0 => ⟨fun _ _ _ => rfl, fun _ _ _ => rfl⟩
  | k + 1 => by
    have ih := spec_ShaPad.rq a0z a0 k
    refine ⟨fun _ _ _ => ?_, fun _ _ _ => ?_⟩
    · refine (spec_ShaPad.s0 k _ a0z a0 _ _ _).trans (Eq.trans ?_ (spec_ShaPad.l0n spec_ShaPad.enc some (spec_ShaPad.l0 k) (spec_ShaPad.l1 k) k _ _ _))
      simp only [ih.1, ih.2, Option.map_some]
    · refine (spec_ShaPad.s1 k _ a0z a0 _ _ _).trans (Eq.trans ?_ (spec_ShaPad.l1n spec_ShaPad.enc some (spec_ShaPad.l0 k) (spec_ShaPad.l1 k) k _ _ _))
      simp only [ih.1, ih.2, Option.map_some]
theorem spec_ShaPad.eq (k : Nat) (a0z : Bool) (a0 : List Int) : answer Try.prog spec_ShaPad.Cs 100000 spec_ShaPad.cuts [] Try.f220 (k + 1) [.v (.nums 5 .u8 a0z a0)] = (spec_ShaPad.f (k + 1) a0z a0).map spec_ShaPad.enc := by
  have ih := spec_ShaPad.rq a0z a0 k
  refine Eq.trans (b := spec_ShaPad.b (fun r => some (spec_ShaPad.enc r)) (fun x0z x0 x3 => rounds Try.prog spec_ShaPad.Cs (finish Try.prog [] Try.f220 [.v (.nums 5 .u8 a0z a0)]) 100000 k spec_ShaPad.K0 (spec_ShaPad.N0 x0z x0 x3)) (fun x3 x4 x5 => rounds Try.prog spec_ShaPad.Cs (finish Try.prog [] Try.f220 [.v (.nums 5 .u8 a0z a0)]) 100000 k spec_ShaPad.K1 (spec_ShaPad.N1 x3 x4 x5)) k a0z a0) (by kernel_rfl) (Eq.trans ?_ (spec_ShaPad.bn spec_ShaPad.enc some (spec_ShaPad.l0 k) (spec_ShaPad.l1 k) k a0z a0))
  simp only [ih.1, ih.2, Option.map_some]
theorem spec_ShaPad.sound (k : Nat) : SoundF Try.prog 220 (fun a => (spec_ShaPad.ans k a).val) := by
  refine sound_plain (fun args res h => ?_) (fun t n => rfl)
  unfold spec_ShaPad.ans at h
  dsimp only at h
  split at h
  · cases k with
    | zero => cases h
    | succ k =>
      unfold Ans.val at h
      rw [← spec_ShaPad.eq] at h
      exact answer_sound mixed Try.func220 _ _ _ (k + 1) (fun j _ => tab_sound (tab_cons (spec_l01Copy.sound j) (tab_nil))) _ _ h
  · exact (Ans.no_val h).elim

def spec_l04Word.b {R : Type} (ret : Bool → Option R) (k : Nat) (a0 : Int) : Option R :=
  (spec_l01In.f k a0 0 4294967295).bind fun t0 => ret t0
def spec_l04Word.f : Nat → Int → Option Bool
  | 0, _ => none
  | k + 1, a0 => spec_l04Word.b some k a0
def spec_l04Word.enc (r : Bool) : Res := ⟨[.vals false [((.bool r), true)]], []⟩
def spec_l04Word.ans (k : Nat) : List Arg → Ans
  | [.v (.int .i64 a0)] => ⟨spec_l04Word.f k a0, spec_l04Word.enc⟩
  | _ => Ans.no
def spec_l04Word.Cs (k : Nat) : CallSem := tab [(170, spec_l01In.ans k)]
theorem spec_l04Word.eq (k : Nat) (a0 : Int) : answer Try.prog spec_l04Word.Cs 100000 [] [] Try.f235 (k + 1) [.v (.int .i64 a0)] = (spec_l04Word.f (k + 1) a0).map spec_l04Word.enc := by
  refine Eq.trans (b := spec_l04Word.b (fun r => some (spec_l04Word.enc r)) k a0) (by kernel_rfl) ?_
  show _ = (spec_l04Word.b some k a0).map spec_l04Word.enc
  unfold spec_l04Word.b
  repeat' first | with_reducible refine nat_cond ?_ ?_ | with_reducible refine nat_bind fun _ => ?_ | rfl
theorem spec_l04Word.sound (k : Nat) : SoundF Try.prog 235 (fun a => (spec_l04Word.ans k a).val) := by
  refine sound_plain (fun args res h => ?_) (fun t n => rfl)
  unfold spec_l04Word.ans at h
  dsimp only at h
  split at h
  · cases k with
    | zero => cases h
    | succ k =>
      unfold Ans.val at h
      rw [← spec_l04Word.eq] at h
      exact answer_sound mixed Try.func235 _ _ _ (k + 1) (fun j _ => tab_sound (tab_cons (spec_l01In.sound j) (tab_nil))) _ _ h
  · exact (Ans.no_val h).elim

def spec_l04Turn.b {R : Type} (ret : Int → Option R) (k : Nat) (a0 a1 : Int) : Option R :=
  cond (decide ((0 : Int) ≤ a1)) (cond (decide ((0 : Int) ≤ (RowKit.wrap64 ((32 : Int) - a1)))) (ret (Go.bits .and .i64 (Go.bits .or .i64 (shrI .i64 a0 a1) (shlI .i64 a0 (RowKit.wrap64 ((32 : Int) - a1)))) 4294967295)) (none)) (none)
def spec_l04Turn.f : Nat → Int → Int → Option Int
  | 0, _, _ => none
  | k + 1, a0, a1 => spec_l04Turn.b some k a0 a1
def spec_l04Turn.enc (r : Int) : Res := ⟨[.vals false [((.int .i64 r), true)]], []⟩
def spec_l04Turn.ans (k : Nat) : List Arg → Ans
  | [.v (.int .i64 a0), .v (.int .i64 a1)] => ⟨spec_l04Turn.f k a0 a1, spec_l04Turn.enc⟩
  | _ => Ans.no
def spec_l04Turn.Cs (k : Nat) : CallSem := tab []
theorem spec_l04Turn.eq (k : Nat) (a0 a1 : Int) : answer Try.prog spec_l04Turn.Cs 100000 [] [] Try.f236 (k + 1) [.v (.int .i64 a0), .v (.int .i64 a1)] = (spec_l04Turn.f (k + 1) a0 a1).map spec_l04Turn.enc := by
  refine Eq.trans (b := spec_l04Turn.b (fun r => some (spec_l04Turn.enc r)) k a0 a1) (by kernel_rfl) ?_
  show _ = (spec_l04Turn.b some k a0 a1).map spec_l04Turn.enc
  unfold spec_l04Turn.b
  repeat' first | with_reducible refine nat_cond ?_ ?_ | with_reducible refine nat_bind fun _ => ?_ | rfl
theorem spec_l04Turn.sound (k : Nat) : SoundF Try.prog 236 (fun a => (spec_l04Turn.ans k a).val) := by
  refine sound_plain (fun args res h => ?_) (fun t n => rfl)
  unfold spec_l04Turn.ans at h
  dsimp only at h
  split at h
  · cases k with
    | zero => cases h
    | succ k =>
      unfold Ans.val at h
      rw [← spec_l04Turn.eq] at h
      exact answer_sound mixed Try.func236 _ _ _ (k + 1) (fun j _ => tab_sound (tab_nil)) _ _ h
  · exact (Ans.no_val h).elim

def spec_l04K.b {R : Type} (ret : Bool × List Int → Option R) (k : Nat) : Option R :=
  ret (false, ([1116352408, 1899447441, 3049323471, 3921009573, 961987163, 1508970993, 2453635748, 2870763221, 3624381080, 310598401, 607225278, 1426881987, 1925078388, 2162078206, 2614888103, 3248222580, 3835390401, 4022224774, 264347078, 604807628, 770255983, 1249150122, 1555081692, 1996064986, 2554220882, 2821834349, 2952996808, 3210313671, 3336571891, 3584528711, 113926993, 338241895, 666307205, 773529912, 1294757372, 1396182291, 1695183700, 1986661051, 2177026350, 2456956037, 2730485921, 2820302411, 3259730800, 3345764771, 3516065817, 3600352804, 4094571909, 275423344, 430227734, 506948616, 659060556, 883997877, 958139571, 1322822218, 1537002063, 1747873779, 1955562222, 2024104815, 2227730452, 2361852424, 2428436474, 2756734187, 3204031479, 3329325298] : List Int))
def spec_l04K.f : Nat → Option (Bool × List Int)
  | 0 => none
  | k + 1 => spec_l04K.b some k
def spec_l04K.enc (r : Bool × List Int) : Res := ⟨[.vals false [((.nums 3 .i64 r.1 r.2), true)]], []⟩
def spec_l04K.ans (k : Nat) : List Arg → Ans
  | [] => ⟨spec_l04K.f k, spec_l04K.enc⟩
  | _ => Ans.no
def spec_l04K.Cs (k : Nat) : CallSem := tab []
theorem spec_l04K.eq (k : Nat) : answer Try.prog spec_l04K.Cs 100000 [] [] Try.f237 (k + 1) [] = (spec_l04K.f (k + 1)).map spec_l04K.enc := by
  refine Eq.trans (b := spec_l04K.b (fun r => some (spec_l04K.enc r)) k) (by kernel_rfl) ?_
  show _ = (spec_l04K.b some k).map spec_l04K.enc
  unfold spec_l04K.b
  repeat' first | with_reducible refine nat_cond ?_ ?_ | with_reducible refine nat_bind fun _ => ?_ | rfl
theorem spec_l04K.sound (k : Nat) : SoundF Try.prog 237 (fun a => (spec_l04K.ans k a).val) := by
  refine sound_plain (fun args res h => ?_) (fun t n => rfl)
  unfold spec_l04K.ans at h
  dsimp only at h
  split at h
  · cases k with
    | zero => cases h
    | succ k =>
      unfold Ans.val at h
      rw [← spec_l04K.eq] at h
      exact answer_sound mixed Try.func237 _ _ _ (k + 1) (fun j _ => tab_sound (tab_nil)) _ _ h
  · exact (Ans.no_val h).elim

def spec_ShaBlock.b {R : Type} (ret : Bool × List Int → Option R) (j0 : Bool → (List Int) → Bool → (List Int) → Bool → (List Int) → Int → Int → Option R) (j1 : Bool → (List Int) → Bool → (List Int) → (List Int) → Int → Option R) (j2 : Bool → (List Int) → (List Int) → Int → Option R) (j3 : Bool → (List Int) → (List Int) → Bool → (List Int) → Bool → (List Int) → Int → Option R) (j4 : Bool → (List Int) → Bool → (List Int) → (List Int) → Int → Int → Option R) (k : Nat) (a0z : Bool) (a0 : List Int) (a1z : Bool) (a1 : List Int) : Option R :=
  cond (!(decide (((a0).length : Int) = 8))) (ret (true, ([] : List Int))) (cond (!(decide (((a1).length : Int) = 64))) (ret (true, ([] : List Int))) (j0 a0z a0 a1z a1 a0z a0 ((a0).length : Int) 0))
def spec_ShaBlock.l0b {R : Type} (ret : Bool × List Int → Option R) (j0 : Bool → (List Int) → Bool → (List Int) → Bool → (List Int) → Int → Int → Option R) (j1 : Bool → (List Int) → Bool → (List Int) → (List Int) → Int → Option R) (j2 : Bool → (List Int) → (List Int) → Int → Option R) (j3 : Bool → (List Int) → (List Int) → Bool → (List Int) → Bool → (List Int) → Int → Option R) (j4 : Bool → (List Int) → Bool → (List Int) → (List Int) → Int → Int → Option R) (k : Nat) (x0z : Bool) (x0 : List Int) (x1z : Bool) (x1 : List Int) (x31z : Bool) (x31 : List Int) (x32 x33 : Int) : Option R :=
  cond (decide (x33 < x32)) (cond (decide ((0 : Int) ≤ x33)) (cond (decide (x33 < ((x31).length : Int))) ((spec_l04Word.f k (rdI x31 x33)).bind fun t0 => cond (!t0) (ret (true, ([] : List Int))) (j0 x0z x0 x1z x1 x31z x31 x32 (RowKit.wrap64 (x33 + 1)))) (none)) (none)) (j1 x0z x0 x1z x1 ([] : List Int) 0)
def spec_ShaBlock.l1b {R : Type} (ret : Bool × List Int → Option R) (j0 : Bool → (List Int) → Bool → (List Int) → Bool → (List Int) → Int → Int → Option R) (j1 : Bool → (List Int) → Bool → (List Int) → (List Int) → Int → Option R) (j2 : Bool → (List Int) → (List Int) → Int → Option R) (j3 : Bool → (List Int) → (List Int) → Bool → (List Int) → Bool → (List Int) → Int → Option R) (j4 : Bool → (List Int) → Bool → (List Int) → (List Int) → Int → Int → Option R) (k : Nat) (x0z : Bool) (x0 : List Int) (x1z : Bool) (x1 x7 : List Int) (x8 : Int) : Option R :=
  cond (decide (x8 < 64)) (cond (decide ((0 : Int) ≤ x8)) (cond (decide (x8 < ((x1).length : Int))) (cond (decide ((0 : Int) ≤ (RowKit.wrap64 (x8 + 1)))) (cond (decide ((RowKit.wrap64 (x8 + 1)) < ((x1).length : Int))) (cond (decide ((0 : Int) ≤ (RowKit.wrap64 (x8 + 2)))) (cond (decide ((RowKit.wrap64 (x8 + 2)) < ((x1).length : Int))) (cond (decide ((0 : Int) ≤ (RowKit.wrap64 (x8 + 3)))) (cond (decide ((RowKit.wrap64 (x8 + 3)) < ((x1).length : Int))) (cond (decide ((x7).length + 1 < 17592186044416)) (j1 x0z x0 x1z x1 (x7 ++ ([(Go.bits .or .i64 (Go.bits .or .i64 (Go.bits .or .i64 (shlI .i64 (RowKit.wrap64 ((rdI x1 x8))) 24) (shlI .i64 (RowKit.wrap64 ((rdI x1 (RowKit.wrap64 (x8 + 1))))) 16)) (shlI .i64 (RowKit.wrap64 ((rdI x1 (RowKit.wrap64 (x8 + 2))))) 8)) (RowKit.wrap64 ((rdI x1 (RowKit.wrap64 (x8 + 3))))))] : List Int)) (RowKit.wrap64 (x8 + 4))) (none)) (none)) (none)) (none)) (none)) (none)) (none)) (none)) (none)) (j2 x0z x0 x7 16)
def spec_ShaBlock.l2b {R : Type} (ret : Bool × List Int → Option R) (j0 : Bool → (List Int) → Bool → (List Int) → Bool → (List Int) → Int → Int → Option R) (j1 : Bool → (List Int) → Bool → (List Int) → (List Int) → Int → Option R) (j2 : Bool → (List Int) → (List Int) → Int → Option R) (j3 : Bool → (List Int) → (List Int) → Bool → (List Int) → Bool → (List Int) → Int → Option R) (j4 : Bool → (List Int) → Bool → (List Int) → (List Int) → Int → Int → Option R) (k : Nat) (x0z : Bool) (x0 x7 : List Int) (x9 : Int) : Option R :=
  cond (decide (x9 < 64)) (cond (decide ((0 : Int) ≤ (RowKit.wrap64 (x9 - 15)))) (cond (decide ((RowKit.wrap64 (x9 - 15)) < ((x7).length : Int))) (cond (decide ((0 : Int) ≤ (RowKit.wrap64 (x9 - 2)))) (cond (decide ((RowKit.wrap64 (x9 - 2)) < ((x7).length : Int))) ((spec_l04Turn.f k (rdI x7 (RowKit.wrap64 (x9 - 15))) 7).bind fun t0 => (spec_l04Turn.f k (rdI x7 (RowKit.wrap64 (x9 - 15))) 18).bind fun t1 => (spec_l04Turn.f k (rdI x7 (RowKit.wrap64 (x9 - 2))) 17).bind fun t2 => (spec_l04Turn.f k (rdI x7 (RowKit.wrap64 (x9 - 2))) 19).bind fun t3 => cond (decide ((0 : Int) ≤ (RowKit.wrap64 (x9 - 16)))) (cond (decide ((RowKit.wrap64 (x9 - 16)) < ((x7).length : Int))) (cond (decide ((0 : Int) ≤ (RowKit.wrap64 (x9 - 7)))) (cond (decide ((RowKit.wrap64 (x9 - 7)) < ((x7).length : Int))) (cond (decide ((x7).length + 1 < 17592186044416)) (j2 x0z x0 (x7 ++ ([(Go.bits .and .i64 (RowKit.wrap64 ((RowKit.wrap64 ((RowKit.wrap64 ((rdI x7 (RowKit.wrap64 (x9 - 16))) + (Go.bits .xor .i64 (Go.bits .xor .i64 t0 t1) (shrI .i64 (rdI x7 (RowKit.wrap64 (x9 - 15))) 3)))) + (rdI x7 (RowKit.wrap64 (x9 - 7))))) + (Go.bits .xor .i64 (Go.bits .xor .i64 t2 t3) (shrI .i64 (rdI x7 (RowKit.wrap64 (x9 - 2))) 10)))) 4294967295)] : List Int)) (RowKit.wrap64 (x9 + 1))) (none)) (none)) (none)) (none)) (none)) (none)) (none)) (none)) (none)) ((spec_l04K.f k).bind fun t0 => cond (decide (0 + (x0).length < 17592186044416)) (j3 x0z x0 x7 t0.1 t0.2 ((x0).isEmpty && false) x0 0) (none))
def spec_ShaBlock.l3b {R : Type} (ret : Bool × List Int → Option R) (j0 : Bool → (List Int) → Bool → (List Int) → Bool → (List Int) → Int → Int → Option R) (j1 : Bool → (List Int) → Bool → (List Int) → (List Int) → Int → Option R) (j2 : Bool → (List Int) → (List Int) → Int → Option R) (j3 : Bool → (List Int) → (List Int) → Bool → (List Int) → Bool → (List Int) → Int → Option R) (j4 : Bool → (List Int) → Bool → (List Int) → (List Int) → Int → Int → Option R) (k : Nat) (x0z : Bool) (x0 x7 : List Int) (x14z : Bool) (x14 : List Int) (x15z : Bool) (x15 : List Int) (x16 : Int) : Option R :=
  cond (decide (x16 < 64)) (cond (decide ((4 : Int) < ((x15).length : Int))) (cond (decide ((0 : Int) < ((x15).length : Int))) (cond (decide ((7 : Int) < ((x15).length : Int))) ((spec_l04Turn.f k (rdI x15 4) 6).bind fun t0 => (spec_l04Turn.f k (rdI x15 4) 11).bind fun t1 => (spec_l04Turn.f k (rdI x15 4) 25).bind fun t2 => cond (decide ((5 : Int) < ((x15).length : Int))) (cond (decide ((6 : Int) < ((x15).length : Int))) (cond (decide ((0 : Int) ≤ x16)) (cond (decide (x16 < ((x14).length : Int))) (cond (decide ((0 : Int) ≤ x16)) (cond (decide (x16 < ((x7).length : Int))) ((spec_l04Turn.f k (rdI x15 0) 2).bind fun t3 => (spec_l04Turn.f k (rdI x15 0) 13).bind fun t4 => (spec_l04Turn.f k (rdI x15 0) 22).bind fun t5 => cond (decide ((1 : Int) < ((x15).length : Int))) (cond (decide ((2 : Int) < ((x15).length : Int))) (cond (decide ((1 : Int) < ((x15).length : Int))) (cond (decide ((2 : Int) < ((x15).length : Int))) (cond (decide ((0 : Int) < ((x15).length : Int))) (cond (decide ((1 : Int) < ((x15).length : Int))) (cond (decide ((2 : Int) < ((x15).length : Int))) (cond (decide ((3 : Int) < ((x15).length : Int))) (cond (decide ((4 : Int) < ((x15).length : Int))) (cond (decide ((5 : Int) < ((x15).length : Int))) (cond (decide ((6 : Int) < ((x15).length : Int))) (j3 x0z x0 x7 x14z x14 false ([(Go.bits .and .i64 (RowKit.wrap64 ((RowKit.wrap64 ((RowKit.wrap64 ((RowKit.wrap64 ((RowKit.wrap64 ((rdI x15 7) + (Go.bits .xor .i64 (Go.bits .xor .i64 t0 t1) t2))) + (Go.bits .xor .i64 (Go.bits .and .i64 (rdI x15 4) (rdI x15 5)) (Go.bits .and .i64 (Go.bits .xor .i64 4294967295 (rdI x15 4)) (rdI x15 6))))) + (rdI x14 x16))) + (rdI x7 x16))) + (RowKit.wrap64 ((Go.bits .xor .i64 (Go.bits .xor .i64 t3 t4) t5) + (Go.bits .xor .i64 (Go.bits .xor .i64 (Go.bits .and .i64 (rdI x15 0) (rdI x15 1)) (Go.bits .and .i64 (rdI x15 0) (rdI x15 2))) (Go.bits .and .i64 (rdI x15 1) (rdI x15 2))))))) 4294967295), (rdI x15 0), (rdI x15 1), (rdI x15 2), (Go.bits .and .i64 (RowKit.wrap64 ((rdI x15 3) + (RowKit.wrap64 ((RowKit.wrap64 ((RowKit.wrap64 ((RowKit.wrap64 ((rdI x15 7) + (Go.bits .xor .i64 (Go.bits .xor .i64 t0 t1) t2))) + (Go.bits .xor .i64 (Go.bits .and .i64 (rdI x15 4) (rdI x15 5)) (Go.bits .and .i64 (Go.bits .xor .i64 4294967295 (rdI x15 4)) (rdI x15 6))))) + (rdI x14 x16))) + (rdI x7 x16))))) 4294967295), (rdI x15 4), (rdI x15 5), (rdI x15 6)] : List Int) (RowKit.wrap64 (x16 + 1))) (none)) (none)) (none)) (none)) (none)) (none)) (none)) (none)) (none)) (none)) (none)) (none)) (none)) (none)) (none)) (none)) (none)) (none)) (none)) (none)) (j4 x0z x0 x15z x15 ([] : List Int) ((x0).length : Int) 0)
def spec_ShaBlock.l4b {R : Type} (ret : Bool × List Int → Option R) (j0 : Bool → (List Int) → Bool → (List Int) → Bool → (List Int) → Int → Int → Option R) (j1 : Bool → (List Int) → Bool → (List Int) → (List Int) → Int → Option R) (j2 : Bool → (List Int) → (List Int) → Int → Option R) (j3 : Bool → (List Int) → (List Int) → Bool → (List Int) → Bool → (List Int) → Int → Option R) (j4 : Bool → (List Int) → Bool → (List Int) → (List Int) → Int → Int → Option R) (k : Nat) (x0z : Bool) (x0 : List Int) (x15z : Bool) (x15 x21 : List Int) (x235 x236 : Int) : Option R :=
  cond (decide (x236 < x235)) (cond (decide ((0 : Int) ≤ x236)) (cond (decide (x236 < ((x0).length : Int))) (cond (decide ((0 : Int) ≤ x236)) (cond (decide (x236 < ((x15).length : Int))) (cond (decide ((x21).length + 1 < 17592186044416)) (j4 x0z x0 x15z x15 (x21 ++ ([(Go.bits .and .i64 (RowKit.wrap64 ((rdI x0 x236) + (rdI x15 x236))) 4294967295)] : List Int)) x235 (RowKit.wrap64 (x236 + 1))) (none)) (none)) (none)) (none)) (none)) (ret (false, x21))
mutual
def spec_ShaBlock.l0 : Nat → Bool → (List Int) → Bool → (List Int) → Bool → (List Int) → Int → Int → Option (Bool × List Int)
  | 0, _, _, _, _, _, _, _, _ => none
  | k + 1, x0z, x0, x1z, x1, x31z, x31, x32, x33 => spec_ShaBlock.l0b some (spec_ShaBlock.l0 k) (spec_ShaBlock.l1 k) (spec_ShaBlock.l2 k) (spec_ShaBlock.l3 k) (spec_ShaBlock.l4 k) k x0z x0 x1z x1 x31z x31 x32 x33
def spec_ShaBlock.l1 : Nat → Bool → (List Int) → Bool → (List Int) → (List Int) → Int → Option (Bool × List Int)
  | 0, _, _, _, _, _, _ => none
  | k + 1, x0z, x0, x1z, x1, x7, x8 => spec_ShaBlock.l1b some (spec_ShaBlock.l0 k) (spec_ShaBlock.l1 k) (spec_ShaBlock.l2 k) (spec_ShaBlock.l3 k) (spec_ShaBlock.l4 k) k x0z x0 x1z x1 x7 x8
def spec_ShaBlock.l2 : Nat → Bool → (List Int) → (List Int) → Int → Option (Bool × List Int)
  | 0, _, _, _, _ => none
  | k + 1, x0z, x0, x7, x9 => spec_ShaBlock.l2b some (spec_ShaBlock.l0 k) (spec_ShaBlock.l1 k) (spec_ShaBlock.l2 k) (spec_ShaBlock.l3 k) (spec_ShaBlock.l4 k) k x0z x0 x7 x9
def spec_ShaBlock.l3 : Nat → Bool → (List Int) → (List Int) → Bool → (List Int) → Bool → (List Int) → Int → Option (Bool × List Int)
  | 0, _, _, _, _, _, _, _, _ => none
  | k + 1, x0z, x0, x7, x14z, x14, x15z, x15, x16 => spec_ShaBlock.l3b some (spec_ShaBlock.l0 k) (spec_ShaBlock.l1 k) (spec_ShaBlock.l2 k) (spec_ShaBlock.l3 k) (spec_ShaBlock.l4 k) k x0z x0 x7 x14z x14 x15z x15 x16
def spec_ShaBlock.l4 : Nat → Bool → (List Int) → Bool → (List Int) → (List Int) → Int → Int → Option (Bool × List Int)
  | 0, _, _, _, _, _, _, _ => none
  | k + 1, x0z, x0, x15z, x15, x21, x235, x236 => spec_ShaBlock.l4b some (spec_ShaBlock.l0 k) (spec_ShaBlock.l1 k) (spec_ShaBlock.l2 k) (spec_ShaBlock.l3 k) (spec_ShaBlock.l4 k) k x0z x0 x15z x15 x21 x235 x236
end
def spec_ShaBlock.f : Nat → Bool → (List Int) → Bool → (List Int) → Option (Bool × List Int)
  | 0, _, _, _, _ => none
  | k + 1, a0z, a0, a1z, a1 => spec_ShaBlock.b some (spec_ShaBlock.l0 k) (spec_ShaBlock.l1 k) (spec_ShaBlock.l2 k) (spec_ShaBlock.l3 k) (spec_ShaBlock.l4 k) k a0z a0 a1z a1
def spec_ShaBlock.enc (r : Bool × List Int) : Res := ⟨[.vals false [((.nums 3 .i64 r.1 r.2), true)]], []⟩
def spec_ShaBlock.ans (k : Nat) : List Arg → Ans
  | [.v (.nums 3 .i64 a0z a0), .v (.nums 5 .u8 a1z a1)] => ⟨spec_ShaBlock.f k a0z a0 a1z a1, spec_ShaBlock.enc⟩
  | _ => Ans.no
def spec_ShaBlock.Cs (k : Nat) : CallSem := tab [(235, spec_l04Word.ans k), (236, spec_l04Turn.ans k), (237, spec_l04K.ans k)]
def spec_ShaBlock.cuts : List (Nat × Keep) := [(58, ⟨[(0, some []), (1, some []), (31, some []), (32, some []), (33, some [])], []⟩), (250, ⟨[(0, some []), (1, some []), (7, none), (8, some [])], []⟩), (506, ⟨[(0, some []), (7, none), (9, some [])], []⟩), (4090, ⟨[(0, some []), (7, none), (14, none), (15, none), (16, some [])], []⟩), (16378, ⟨[(0, some []), (15, none), (21, none), (235, some []), (236, some [])], []⟩)]
noncomputable def spec_ShaBlock.K0 : List Fr := framesAt [true, true, false, true, false] (bodyOf Try.f221 spec_ShaBlock.cuts) []
def spec_ShaBlock.N0 (x0z : Bool) (x0 : List Int) (x1z : Bool) (x1 : List Int) (x31z : Bool) (x31 : List Int) (x32 x33 : Int) : St := stOf 254 254 2 [(0, .val ⟨(.nums 3 .i64 x0z x0), [], false, none⟩), (1, .val ⟨(.nums 5 .u8 x1z x1), [], false, none⟩), (31, .val ⟨(.nums 3 .i64 x31z x31), [], false, none⟩), (32, .val (V.s (.int .i64 x32))), (33, .val (V.s (.int .i64 x33)))] []
noncomputable def spec_ShaBlock.K1 : List Fr := framesAt [true, true, true, true, false, true, false] (bodyOf Try.f221 spec_ShaBlock.cuts) []
def spec_ShaBlock.N1 (x0z : Bool) (x0 : List Int) (x1z : Bool) (x1 x7 : List Int) (x8 : Int) : St := stOf 254 254 2 [(0, .val ⟨(.nums 3 .i64 x0z x0), [], false, none⟩), (1, .val ⟨(.nums 5 .u8 x1z x1), [], false, none⟩), (7, .val ⟨(.nums 3 .i64 false x7), [.l 7 0], true, some (.l 7 0)⟩), (8, .val (V.s (.int .i64 x8)))] []
noncomputable def spec_ShaBlock.K2 : List Fr := framesAt [true, true, true, true, true, false, true, false] (bodyOf Try.f221 spec_ShaBlock.cuts) []
def spec_ShaBlock.N2 (x0z : Bool) (x0 x7 : List Int) (x9 : Int) : St := stOf 254 254 2 [(0, .val ⟨(.nums 3 .i64 x0z x0), [], false, none⟩), (7, .val ⟨(.nums 3 .i64 false x7), [.l 7 0], true, some (.l 7 0)⟩), (9, .val (V.s (.int .i64 x9)))] []
noncomputable def spec_ShaBlock.K3 : List Fr := framesAt [true, true, true, true, true, true, true, true, false, true, false] (bodyOf Try.f221 spec_ShaBlock.cuts) []
def spec_ShaBlock.N3 (x0z : Bool) (x0 x7 : List Int) (x14z : Bool) (x14 : List Int) (x15z : Bool) (x15 : List Int) (x16 : Int) : St := stOf 254 254 2 [(0, .val ⟨(.nums 3 .i64 x0z x0), [], false, none⟩), (7, .val ⟨(.nums 3 .i64 false x7), [.l 7 0], true, some (.l 7 0)⟩), (14, .val ⟨(.nums 3 .i64 x14z x14), [.l 14 0], true, some (.l 14 0)⟩), (15, .val ⟨(.nums 3 .i64 x15z x15), [.l 15 0], true, some (.l 15 0)⟩), (16, .val (V.s (.int .i64 x16)))] []
noncomputable def spec_ShaBlock.K4 : List Fr := framesAt [true, true, true, true, true, true, true, true, true, true, false, true, false] (bodyOf Try.f221 spec_ShaBlock.cuts) []
def spec_ShaBlock.N4 (x0z : Bool) (x0 : List Int) (x15z : Bool) (x15 x21 : List Int) (x235 x236 : Int) : St := stOf 254 254 2 [(0, .val ⟨(.nums 3 .i64 x0z x0), [], false, none⟩), (15, .val ⟨(.nums 3 .i64 x15z x15), [.l 15 0], true, some (.l 15 0)⟩), (21, .val ⟨(.nums 3 .i64 false x21), [.l 21 0], true, some (.l 21 0)⟩), (235, .val (V.s (.int .i64 x235))), (236, .val (V.s (.int .i64 x236)))] []
theorem spec_ShaBlock.s0 (k : Nat) (G : List Fr → St → Option Res) (a0z : Bool) (a0 : List Int) (a1z : Bool) (a1 : List Int) (yx0z : Bool) (yx0 : List Int) (yx1z : Bool) (yx1 : List Int) (yx31z : Bool) (yx31 : List Int) (yx32 yx33 : Int) : resume Try.prog (spec_ShaBlock.Cs k) G (finish Try.prog [] Try.f221 [.v (.nums 3 .i64 a0z a0), .v (.nums 5 .u8 a1z a1)]) 100000 spec_ShaBlock.K0 (spec_ShaBlock.N0 yx0z yx0 yx1z yx1 yx31z yx31 yx32 yx33) = spec_ShaBlock.l0b (fun r => some (spec_ShaBlock.enc r)) (fun x0z x0 x1z x1 x31z x31 x32 x33 => G spec_ShaBlock.K0 (spec_ShaBlock.N0 x0z x0 x1z x1 x31z x31 x32 x33)) (fun x0z x0 x1z x1 x7 x8 => G spec_ShaBlock.K1 (spec_ShaBlock.N1 x0z x0 x1z x1 x7 x8)) (fun x0z x0 x7 x9 => G spec_ShaBlock.K2 (spec_ShaBlock.N2 x0z x0 x7 x9)) (fun x0z x0 x7 x14z x14 x15z x15 x16 => G spec_ShaBlock.K3 (spec_ShaBlock.N3 x0z x0 x7 x14z x14 x15z x15 x16)) (fun x0z x0 x15z x15 x21 x235 x236 => G spec_ShaBlock.K4 (spec_ShaBlock.N4 x0z x0 x15z x15 x21 x235 x236)) k yx0z yx0 yx1z yx1 yx31z yx31 yx32 yx33 := by kernel_rfl
theorem spec_ShaBlock.s1 (k : Nat) (G : List Fr → St → Option Res) (a0z : Bool) (a0 : List Int) (a1z : Bool) (a1 : List Int) (yx0z : Bool) (yx0 : List Int) (yx1z : Bool) (yx1 yx7 : List Int) (yx8 : Int) : resume Try.prog (spec_ShaBlock.Cs k) G (finish Try.prog [] Try.f221 [.v (.nums 3 .i64 a0z a0), .v (.nums 5 .u8 a1z a1)]) 100000 spec_ShaBlock.K1 (spec_ShaBlock.N1 yx0z yx0 yx1z yx1 yx7 yx8) = spec_ShaBlock.l1b (fun r => some (spec_ShaBlock.enc r)) (fun x0z x0 x1z x1 x31z x31 x32 x33 => G spec_ShaBlock.K0 (spec_ShaBlock.N0 x0z x0 x1z x1 x31z x31 x32 x33)) (fun x0z x0 x1z x1 x7 x8 => G spec_ShaBlock.K1 (spec_ShaBlock.N1 x0z x0 x1z x1 x7 x8)) (fun x0z x0 x7 x9 => G spec_ShaBlock.K2 (spec_ShaBlock.N2 x0z x0 x7 x9)) (fun x0z x0 x7 x14z x14 x15z x15 x16 => G spec_ShaBlock.K3 (spec_ShaBlock.N3 x0z x0 x7 x14z x14 x15z x15 x16)) (fun x0z x0 x15z x15 x21 x235 x236 => G spec_ShaBlock.K4 (spec_ShaBlock.N4 x0z x0 x15z x15 x21 x235 x236)) k yx0z yx0 yx1z yx1 yx7 yx8 := by kernel_rfl
theorem spec_ShaBlock.s2 (k : Nat) (G : List Fr → St → Option Res) (a0z : Bool) (a0 : List Int) (a1z : Bool) (a1 : List Int) (yx0z : Bool) (yx0 yx7 : List Int) (yx9 : Int) : resume Try.prog (spec_ShaBlock.Cs k) G (finish Try.prog [] Try.f221 [.v (.nums 3 .i64 a0z a0), .v (.nums 5 .u8 a1z a1)]) 100000 spec_ShaBlock.K2 (spec_ShaBlock.N2 yx0z yx0 yx7 yx9) = spec_ShaBlock.l2b (fun r => some (spec_ShaBlock.enc r)) (fun x0z x0 x1z x1 x31z x31 x32 x33 => G spec_ShaBlock.K0 (spec_ShaBlock.N0 x0z x0 x1z x1 x31z x31 x32 x33)) (fun x0z x0 x1z x1 x7 x8 => G spec_ShaBlock.K1 (spec_ShaBlock.N1 x0z x0 x1z x1 x7 x8)) (fun x0z x0 x7 x9 => G spec_ShaBlock.K2 (spec_ShaBlock.N2 x0z x0 x7 x9)) (fun x0z x0 x7 x14z x14 x15z x15 x16 => G spec_ShaBlock.K3 (spec_ShaBlock.N3 x0z x0 x7 x14z x14 x15z x15 x16)) (fun x0z x0 x15z x15 x21 x235 x236 => G spec_ShaBlock.K4 (spec_ShaBlock.N4 x0z x0 x15z x15 x21 x235 x236)) k yx0z yx0 yx7 yx9 := by kernel_rfl
theorem spec_ShaBlock.s3 (k : Nat) (G : List Fr → St → Option Res) (a0z : Bool) (a0 : List Int) (a1z : Bool) (a1 : List Int) (yx0z : Bool) (yx0 yx7 : List Int) (yx14z : Bool) (yx14 : List Int) (yx15z : Bool) (yx15 : List Int) (yx16 : Int) : resume Try.prog (spec_ShaBlock.Cs k) G (finish Try.prog [] Try.f221 [.v (.nums 3 .i64 a0z a0), .v (.nums 5 .u8 a1z a1)]) 100000 spec_ShaBlock.K3 (spec_ShaBlock.N3 yx0z yx0 yx7 yx14z yx14 yx15z yx15 yx16) = spec_ShaBlock.l3b (fun r => some (spec_ShaBlock.enc r)) (fun x0z x0 x1z x1 x31z x31 x32 x33 => G spec_ShaBlock.K0 (spec_ShaBlock.N0 x0z x0 x1z x1 x31z x31 x32 x33)) (fun x0z x0 x1z x1 x7 x8 => G spec_ShaBlock.K1 (spec_ShaBlock.N1 x0z x0 x1z x1 x7 x8)) (fun x0z x0 x7 x9 => G spec_ShaBlock.K2 (spec_ShaBlock.N2 x0z x0 x7 x9)) (fun x0z x0 x7 x14z x14 x15z x15 x16 => G spec_ShaBlock.K3 (spec_ShaBlock.N3 x0z x0 x7 x14z x14 x15z x15 x16)) (fun x0z x0 x15z x15 x21 x235 x236 => G spec_ShaBlock.K4 (spec_ShaBlock.N4 x0z x0 x15z x15 x21 x235 x236)) k yx0z yx0 yx7 yx14z yx14 yx15z yx15 yx16 := by kernel_rfl
theorem spec_ShaBlock.s4 (k : Nat) (G : List Fr → St → Option Res) (a0z : Bool) (a0 : List Int) (a1z : Bool) (a1 : List Int) (yx0z : Bool) (yx0 : List Int) (yx15z : Bool) (yx15 yx21 : List Int) (yx235 yx236 : Int) : resume Try.prog (spec_ShaBlock.Cs k) G (finish Try.prog [] Try.f221 [.v (.nums 3 .i64 a0z a0), .v (.nums 5 .u8 a1z a1)]) 100000 spec_ShaBlock.K4 (spec_ShaBlock.N4 yx0z yx0 yx15z yx15 yx21 yx235 yx236) = spec_ShaBlock.l4b (fun r => some (spec_ShaBlock.enc r)) (fun x0z x0 x1z x1 x31z x31 x32 x33 => G spec_ShaBlock.K0 (spec_ShaBlock.N0 x0z x0 x1z x1 x31z x31 x32 x33)) (fun x0z x0 x1z x1 x7 x8 => G spec_ShaBlock.K1 (spec_ShaBlock.N1 x0z x0 x1z x1 x7 x8)) (fun x0z x0 x7 x9 => G spec_ShaBlock.K2 (spec_ShaBlock.N2 x0z x0 x7 x9)) (fun x0z x0 x7 x14z x14 x15z x15 x16 => G spec_ShaBlock.K3 (spec_ShaBlock.N3 x0z x0 x7 x14z x14 x15z x15 x16)) (fun x0z x0 x15z x15 x21 x235 x236 => G spec_ShaBlock.K4 (spec_ShaBlock.N4 x0z x0 x15z x15 x21 x235 x236)) k yx0z yx0 yx15z yx15 yx21 yx235 yx236 := by kernel_rfl
theorem spec_ShaBlock.bn {R R' : Type} (e : R → R') (ret : Bool × List Int → Option R) (j0 : Bool → (List Int) → Bool → (List Int) → Bool → (List Int) → Int → Int → Option R) (j1 : Bool → (List Int) → Bool → (List Int) → (List Int) → Int → Option R) (j2 : Bool → (List Int) → (List Int) → Int → Option R) (j3 : Bool → (List Int) → (List Int) → Bool → (List Int) → Bool → (List Int) → Int → Option R) (j4 : Bool → (List Int) → Bool → (List Int) → (List Int) → Int → Int → Option R) (k : Nat) (a0z : Bool) (a0 : List Int) (a1z : Bool) (a1 : List Int) : spec_ShaBlock.b (fun r => (ret r).map e) (fun x0z x0 x1z x1 x31z x31 x32 x33 => (j0 x0z x0 x1z x1 x31z x31 x32 x33).map e) (fun x0z x0 x1z x1 x7 x8 => (j1 x0z x0 x1z x1 x7 x8).map e) (fun x0z x0 x7 x9 => (j2 x0z x0 x7 x9).map e) (fun x0z x0 x7 x14z x14 x15z x15 x16 => (j3 x0z x0 x7 x14z x14 x15z x15 x16).map e) (fun x0z x0 x15z x15 x21 x235 x236 => (j4 x0z x0 x15z x15 x21 x235 x236).map e) k a0z a0 a1z a1 = (spec_ShaBlock.b ret j0 j1 j2 j3 j4 k a0z a0 a1z a1).map e := by
  unfold spec_ShaBlock.b
  repeat' first | with_reducible refine nat_cond ?_ ?_ | with_reducible refine nat_bind fun _ => ?_ | rfl
theorem spec_ShaBlock.l0n {R R' : Type} (e : R → R') (ret : Bool × List Int → Option R) (j0 : Bool → (List Int) → Bool → (List Int) → Bool → (List Int) → Int → Int → Option R) (j1 : Bool → (List Int) → Bool → (List Int) → (List Int) → Int → Option R) (j2 : Bool → (List Int) → (List Int) → Int → Option R) (j3 : Bool → (List Int) → (List Int) → Bool → (List Int) → Bool → (List Int) → Int → Option R) (j4 : Bool → (List Int) → Bool → (List Int) → (List Int) → Int → Int → Option R) (k : Nat) (x0z : Bool) (x0 : List Int) (x1z : Bool) (x1 : List Int) (x31z : Bool) (x31 : List Int) (x32 x33 : Int) : spec_ShaBlock.l0b (fun r => (ret r).map e) (fun x0z x0 x1z x1 x31z x31 x32 x33 => (j0 x0z x0 x1z x1 x31z x31 x32 x33).map e) (fun x0z x0 x1z x1 x7 x8 => (j1 x0z x0 x1z x1 x7 x8).map e) (fun x0z x0 x7 x9 => (j2 x0z x0 x7 x9).map e) (fun x0z x0 x7 x14z x14 x15z x15 x16 => (j3 x0z x0 x7 x14z x14 x15z x15 x16).map e) (fun x0z x0 x15z x15 x21 x235 x236 => (j4 x0z x0 x15z x15 x21 x235 x236).map e) k x0z x0 x1z x1 x31z x31 x32 x33 = (spec_ShaBlock.l0b ret j0 j1 j2 j3 j4 k x0z x0 x1z x1 x31z x31 x32 x33).map e := by
  unfold spec_ShaBlock.l0b
  repeat' first | with_reducible refine nat_cond ?_ ?_ | with_reducible refine nat_bind fun _ => ?_ | rfl
theorem spec_ShaBlock.l1n {R R' : Type} (e : R → R') (ret : Bool × List Int → Option R) (j0 : Bool → (List Int) → Bool → (List Int) → Bool → (List Int) → Int → Int → Option R) (j1 : Bool → (List Int) → Bool → (List Int) → (List Int) → Int → Option R) (j2 : Bool → (List Int) → (List Int) → Int → Option R) (j3 : Bool → (List Int) → (List Int) → Bool → (List Int) → Bool → (List Int) → Int → Option R) (j4 : Bool → (List Int) → Bool → (List Int) → (List Int) → Int → Int → Option R) (k : Nat) (x0z : Bool) (x0 : List Int) (x1z : Bool) (x1 x7 : List Int) (x8 : Int) : spec_ShaBlock.l1b (fun r => (ret r).map e) (fun x0z x0 x1z x1 x31z x31 x32 x33 => (j0 x0z x0 x1z x1 x31z x31 x32 x33).map e) (fun x0z x0 x1z x1 x7 x8 => (j1 x0z x0 x1z x1 x7 x8).map e) (fun x0z x0 x7 x9 => (j2 x0z x0 x7 x9).map e) (fun x0z x0 x7 x14z x14 x15z x15 x16 => (j3 x0z x0 x7 x14z x14 x15z x15 x16).map e) (fun x0z x0 x15z x15 x21 x235 x236 => (j4 x0z x0 x15z x15 x21 x235 x236).map e) k x0z x0 x1z x1 x7 x8 = (spec_ShaBlock.l1b ret j0 j1 j2 j3 j4 k x0z x0 x1z x1 x7 x8).map e := by
  unfold spec_ShaBlock.l1b
  repeat' first | with_reducible refine nat_cond ?_ ?_ | with_reducible refine nat_bind fun _ => ?_ | rfl
theorem spec_ShaBlock.l2b_nat {R R' : Type} (e : R → R') (ret : Bool × List Int → Option R) (j0 : Bool → (List Int) → Bool → (List Int) → Bool → (List Int) → Int → Int → Option R) (j1 : Bool → (List Int) → Bool → (List Int) → (List Int) → Int → Option R) (j2 : Bool → (List Int) → (List Int) → Int → Option R) (j3 : Bool → (List Int) → (List Int) → Bool → (List Int) → Bool → (List Int) → Int → Option R) (j4 : Bool → (List Int) → Bool → (List Int) → (List Int) → Int → Int → Option R) (k : Nat) (x0z : Bool) (x0 x7 : List Int) (x9 : Int) : spec_ShaBlock.l2b (fun r => (ret r).map e) (fun x0z x0 x1z x1 x31z x31 x32 x33 => (j0 x0z x0 x1z x1 x31z x31 x32 x33).map e) (fun x0z x0 x1z x1 x7 x8 => (j1 x0z x0 x1z x1 x7 x8).map e) (fun x0z x0 x7 x9 => (j2 x0z x0 x7 x9).map e) (fun x0z x0 x7 x14z x14 x15z x15 x16 => (j3 x0z x0 x7 x14z x14 x15z x15 x16).map e) (fun x0z x0 x15z x15 x21 x235 x236 => (j4 x0z x0 x15z x15 x21 x235 x236).map e) k x0z x0 x7 x9 = (spec_ShaBlock.l2b ret j0 j1 j2 j3 j4 k x0z x0 x7 x9).map e := by
  unfold spec_ShaBlock.l2b
  repeat' first | with_reducible refine nat_cond ?_ ?_ | with_reducible refine nat_bind fun _ => ?_ | rfl
theorem spec_ShaBlock.l3b_nat {R R' : Type} (e : R → R') (ret : Bool × List Int → Option R) (j0 : Bool → (List Int) → Bool → (List Int) → Bool → (List Int) → Int → Int → Option R) (j1 : Bool → (List Int) → Bool → (List Int) → (List Int) → Int → Option R) (j2 : Bool → (List Int) → (List Int) → Int → Option R) (j3 : Bool → (List Int) → (List Int) → Bool → (List Int) → Bool → (List Int) → Int → Option R) (j4 : Bool → (List Int) → Bool → (List Int) → (List Int) → Int → Int → Option R) (k : Nat) (x0z : Bool) (x0 x7 : List Int) (x14z : Bool) (x14 : List Int) (x15z : Bool) (x15 : List Int) (x16 : Int) : spec_ShaBlock.l3b (fun r => (ret r).map e) (fun x0z x0 x1z x1 x31z x31 x32 x33 => (j0 x0z x0 x1z x1 x31z x31 x32 x33).map e) (fun x0z x0 x1z x1 x7 x8 => (j1 x0z x0 x1z x1 x7 x8).map e) (fun x0z x0 x7 x9 => (j2 x0z x0 x7 x9).map e) (fun x0z x0 x7 x14z x14 x15z x15 x16 => (j3 x0z x0 x7 x14z x14 x15z x15 x16).map e) (fun x0z x0 x15z x15 x21 x235 x236 => (j4 x0z x0 x15z x15 x21 x235 x236).map e) k x0z x0 x7 x14z x14 x15z x15 x16 = (spec_ShaBlock.l3b ret j0 j1 j2 j3 j4 k x0z x0 x7 x14z x14 x15z x15 x16).map e := by
  unfold spec_ShaBlock.l3b
  repeat' first | with_reducible refine nat_cond ?_ ?_ | with_reducible refine nat_bind fun _ => ?_ | rfl
theorem spec_ShaBlock.l4b_nat {R R' : Type} (e : R → R') (ret : Bool × List Int → Option R) (j0 : Bool → (List Int) → Bool → (List Int) → Bool → (List Int) → Int → Int → Option R) (j1 : Bool → (List Int) → Bool → (List Int) → (List Int) → Int → Option R) (j2 : Bool → (List Int) → (List Int) → Int → Option R) (j3 : Bool → (List Int) → (List Int) → Bool → (List Int) → Bool → (List Int) → Int → Option R) (j4 : Bool → (List Int) → Bool → (List Int) → (List Int) → Int → Int → Option R) (k : Nat) (x0z : Bool) (x0 : List Int) (x15z : Bool) (x15 x21 : List Int) (x235 x236 : Int) : spec_ShaBlock.l4b (fun r => (ret r).map e) (fun x0z x0 x1z x1 x31z x31 x32 x33 => (j0 x0z x0 x1z x1 x31z x31 x32 x33).map e) (fun x0z x0 x1z x1 x7 x8 => (j1 x0z x0 x1z x1 x7 x8).map e) (fun x0z x0 x7 x9 => (j2 x0z x0 x7 x9).map e) (fun x0z x0 x7 x14z x14 x15z x15 x16 => (j3 x0z x0 x7 x14z x14 x15z x15 x16).map e) (fun x0z x0 x15z x15 x21 x235 x236 => (j4 x0z x0 x15z x15 x21 x235 x236).map e) k x0z x0 x15z x15 x21 x235 x236 = (spec_ShaBlock.l4b ret j0 j1 j2 j3 j4 k x0z x0 x15z x15 x21 x235 x236).map e := by
  unfold spec_ShaBlock.l4b
  repeat' first | with_reducible refine nat_cond ?_ ?_ | with_reducible refine nat_bind fun _ => ?_ | rfl
theorem spec_ShaBlock.rq (a0z : Bool) (a0 : List Int) (a1z : Bool) (a1 : List Int) : ∀ k, (∀ (x0z : Bool) (x0 : List Int) (x1z : Bool) (x1 : List Int) (x31z : Bool) (x31 : List Int) (x32 x33 : Int), rounds Try.prog spec_ShaBlock.Cs (finish Try.prog [] Try.f221 [.v (.nums 3 .i64 a0z a0), .v (.nums 5 .u8 a1z a1)]) 100000 k spec_ShaBlock.K0 (spec_ShaBlock.N0 x0z x0 x1z x1 x31z x31 x32 x33) = (spec_ShaBlock.l0 k x0z x0 x1z x1 x31z x31 x32 x33).map spec_ShaBlock.enc) ∧ (∀ (x0z : Bool) (x0 : List Int) (x1z : Bool) (x1 x7 : List Int) (x8 : Int), rounds Try.prog spec_ShaBlock.Cs (finish Try.prog [] Try.f221 [.v (.nums 3 .i64 a0z a0), .v (.nums 5 .u8 a1z a1)]) 100000 k spec_ShaBlock.K1 (spec_ShaBlock.N1 x0z x0 x1z x1 x7 x8) = (spec_ShaBlock.l1 k x0z x0 x1z x1 x7 x8).map spec_ShaBlock.enc) ∧ (∀ (x0z : Bool) (x0 x7 : List Int) (x9 : Int), rounds Try.prog spec_ShaBlock.Cs (finish Try.prog [] Try.f221 [.v (.nums 3 .i64 a0z a0), .v (.nums 5 .u8 a1z a1)]) 100000 k spec_ShaBlock.K2 (spec_ShaBlock.N2 x0z x0 x7 x9) = (spec_ShaBlock.l2 k x0z x0 x7 x9).map spec_ShaBlock.enc) ∧ (∀ (x0z : Bool) (x0 x7 : List Int) (x14z : Bool) (x14 : List Int) (x15z : Bool) (x15 : List Int) (x16 : Int), rounds Try.prog spec_ShaBlock.Cs (finish Try.prog [] Try.f221 [.v (.nums 3 .i64 a0z a0), .v (.nums 5 .u8 a1z a1)]) 100000 k spec_ShaBlock.K3 (spec_ShaBlock.N3 x0z x0 x7 x14z x14 x15z x15 x16) = (spec_ShaBlock.l3 k x0z x0 x7 x14z x14 x15z x15 x16).map spec_ShaBlock.enc) ∧ (∀ (x0z : Bool) (x0 : List Int) (x15z : Bool) (x15 x21 : List Int) (x235 x236 : Int), rounds Try.prog spec_ShaBlock.Cs (finish Try.prog [] Try.f221 [.v (.nums 3 .i64 a0z a0), .v (.nums 5 .u8 a1z a1)]) 100000 k spec_ShaBlock.K4 (spec_ShaBlock.N4 x0z x0 x15z x15 x21 x235 x236) = (spec_ShaBlock.l4 k x0z x0 x15z x15 x21 x235 x236).map spec_ShaBlock.enc)
  | 0 => ⟨fun _ _ _ _ _ _ _ _ => rfl, fun _ _ _ _ _ _ => rfl, fun _ _ _ _ => rfl, fun _ _ _ _ _ _ _ _ => rfl, fun _ _ _ _ _ _ _ => rfl⟩
  | k + 1 => by
    have ih := spec_ShaBlock.rq a0z a0 a1z a1 k
    refine ⟨fun _ _ _ _ _ _ _ _ => ?_, fun _ _ _ _ _ _ => ?_, fun _ _ _ _ => ?_, fun _ _ _ _ _ _ _ _ => ?_, fun _ _ _ _ _ _ _ => ?_⟩
    · refine (spec_ShaBlock.s0 k _ a0z a0 a1z a1 _ _ _ _ _ _ _ _).trans (Eq.trans ?_ (spec_ShaBlock.l0n spec_ShaBlock.enc some (spec_ShaBlock.l0 k) (spec_ShaBlock.l1 k) (spec_ShaBlock.l2 k) (spec_ShaBlock.l3 k) (spec_ShaBlock.l4 k) k _ _ _ _ _ _ _ _))
      simp only [ih.1, ih.2.1, ih.2.2.1, ih.2.2.2.1, ih.2.2.2.2, Option.map_some]
    · refine (spec_ShaBlock.s1 k _ a0z a0 a1z a1 _ _ _ _ _ _).trans (Eq.trans ?_ (spec_ShaBlock.l1n spec_ShaBlock.enc some (spec_ShaBlock.l0 k) (spec_ShaBlock.l1 k) (spec_ShaBlock.l2 k) (spec_ShaBlock.l3 k) (spec_ShaBlock.l4 k) k _ _ _ _ _ _))
      simp only [ih.1, ih.2.1, ih.2.2.1, ih.2.2.2.1, ih.2.2.2.2, Option.map_some]
    · refine (spec_ShaBlock.s2 k _ a0z a0 a1z a1 _ _ _ _).trans (Eq.trans ?_ (spec_ShaBlock.l2b_nat spec_ShaBlock.enc some (spec_ShaBlock.l0 k) (spec_ShaBlock.l1 k) (spec_ShaBlock.l2 k) (spec_ShaBlock.l3 k) (spec_ShaBlock.l4 k) k _ _ _ _))
      simp only [ih.1, ih.2.1, ih.2.2.1, ih.2.2.2.1, ih.2.2.2.2, Option.map_some]
    · refine (spec_ShaBlock.s3 k _ a0z a0 a1z a1 _ _ _ _ _ _ _ _).trans (Eq.trans ?_ (spec_ShaBlock.l3b_nat spec_ShaBlock.enc some (spec_ShaBlock.l0 k) (spec_ShaBlock.l1 k) (spec_ShaBlock.l2 k) (spec_ShaBlock.l3 k) (spec_ShaBlock.l4 k) k _ _ _ _ _ _ _ _))
      simp only [ih.1, ih.2.1, ih.2.2.1, ih.2.2.2.1, ih.2.2.2.2, Option.map_some]
    · refine (spec_ShaBlock.s4 k _ a0z a0 a1z a1 _ _ _ _ _ _ _).trans (Eq.trans ?_ (spec_ShaBlock.l4b_nat spec_ShaBlock.enc some (spec_ShaBlock.l0 k) (spec_ShaBlock.l1 k) (spec_ShaBlock.l2 k) (spec_ShaBlock.l3 k) (spec_ShaBlock.l4 k) k _ _ _ _ _ _ _))
      simp only [ih.1, ih.2.1, ih.2.2.1, ih.2.2.2.1, ih.2.2.2.2, Option.map_some]
theorem spec_ShaBlock.eq (k : Nat) (a0z : Bool) (a0 : List Int) (a1z : Bool) (a1 : List Int) : answer Try.prog spec_ShaBlock.Cs 100000 spec_ShaBlock.cuts [] Try.f221 (k + 1) [.v (.nums 3 .i64 a0z a0), .v (.nums 5 .u8 a1z a1)] = (spec_ShaBlock.f (k + 1) a0z a0 a1z a1).map spec_ShaBlock.enc := by
  have ih := spec_ShaBlock.rq a0z a0 a1z a1 k
  refine Eq.trans (b := spec_ShaBlock.b (fun r => some (spec_ShaBlock.enc r)) (fun x0z x0 x1z x1 x31z x31 x32 x33 => rounds Try.prog spec_ShaBlock.Cs (finish Try.prog [] Try.f221 [.v (.nums 3 .i64 a0z a0), .v (.nums 5 .u8 a1z a1)]) 100000 k spec_ShaBlock.K0 (spec_ShaBlock.N0 x0z x0 x1z x1 x31z x31 x32 x33)) (fun x0z x0 x1z x1 x7 x8 => rounds Try.prog spec_ShaBlock.Cs (finish Try.prog [] Try.f221 [.v (.nums 3 .i64 a0z a0), .v (.nums 5 .u8 a1z a1)]) 100000 k spec_ShaBlock.K1 (spec_ShaBlock.N1 x0z x0 x1z x1 x7 x8)) (fun x0z x0 x7 x9 => rounds Try.prog spec_ShaBlock.Cs (finish Try.prog [] Try.f221 [.v (.nums 3 .i64 a0z a0), .v (.nums 5 .u8 a1z a1)]) 100000 k spec_ShaBlock.K2 (spec_ShaBlock.N2 x0z x0 x7 x9)) (fun x0z x0 x7 x14z x14 x15z x15 x16 => rounds Try.prog spec_ShaBlock.Cs (finish Try.prog [] Try.f221 [.v (.nums 3 .i64 a0z a0), .v (.nums 5 .u8 a1z a1)]) 100000 k spec_ShaBlock.K3 (spec_ShaBlock.N3 x0z x0 x7 x14z x14 x15z x15 x16)) (fun x0z x0 x15z x15 x21 x235 x236 => rounds Try.prog spec_ShaBlock.Cs (finish Try.prog [] Try.f221 [.v (.nums 3 .i64 a0z a0), .v (.nums 5 .u8 a1z a1)]) 100000 k spec_ShaBlock.K4 (spec_ShaBlock.N4 x0z x0 x15z x15 x21 x235 x236)) k a0z a0 a1z a1) (by kernel_rfl) (Eq.trans ?_ (spec_ShaBlock.bn spec_ShaBlock.enc some (spec_ShaBlock.l0 k) (spec_ShaBlock.l1 k) (spec_ShaBlock.l2 k) (spec_ShaBlock.l3 k) (spec_ShaBlock.l4 k) k a0z a0 a1z a1))
  simp only [ih.1, ih.2.1, ih.2.2.1, ih.2.2.2.1, ih.2.2.2.2, Option.map_some]
theorem spec_ShaBlock.sound (k : Nat) : SoundF Try.prog 221 (fun a => (spec_ShaBlock.ans k a).val) := by
  refine sound_plain (fun args res h => ?_) (fun t n => rfl)
  unfold spec_ShaBlock.ans at h
  dsimp only at h
  split at h
  · cases k with
    | zero => cases h
    | succ k =>
      unfold Ans.val at h
      rw [← spec_ShaBlock.eq] at h
      exact answer_sound mixed Try.func221 _ _ _ (k + 1) (fun j _ => tab_sound (tab_cons (spec_l04Word.sound j) (tab_cons (spec_l04Turn.sound j) (tab_cons (spec_l04K.sound j) (tab_nil))))) _ _ h
  · exact (Ans.no_val h).elim

def spec_Sha.b {R : Type} (ret : Bool × List Int → Option R) (j0 : Bool → (List Int) → Bool → (List Int) → Int → Option R) (j1 : (List Int) → Bool → (List Int) → Int → Int → Option R) (k : Nat) (a0z : Bool) (a0 : List Int) : Option R :=
  (spec_ShaInit.f k).bind fun t0 => (spec_ShaPad.f k a0z a0).bind fun t1 => j0 t0.1 t0.2 t1.1 t1.2 0
def spec_Sha.l0b {R : Type} (ret : Bool × List Int → Option R) (j0 : Bool → (List Int) → Bool → (List Int) → Int → Option R) (j1 : (List Int) → Bool → (List Int) → Int → Int → Option R) (k : Nat) (x3z : Bool) (x3 : List Int) (x4z : Bool) (x4 : List Int) (x5 : Int) : Option R :=
  cond (decide (x5 < ((x4).length : Int))) (cond (decide ((0 : Int) ≤ (RowKit.wrap64 (x5 + 64)))) (cond (decide ((RowKit.wrap64 (x5 + 64)) ≤ ((x4).length : Int))) (cond (decide ((0 : Int) ≤ x5)) (cond (decide (x5 ≤ (RowKit.wrap64 (x5 + 64)))) ((spec_ShaBlock.f k x3z x3 x4z (((x4).take ((RowKit.wrap64 (x5 + 64))).toNat).drop (x5).toNat)).bind fun t0 => j0 t0.1 t0.2 x4z x4 (RowKit.wrap64 (x5 + 64))) (none)) (none)) (none)) (none)) (j1 ([] : List Int) x3z x3 ((x3).length : Int) 0)
def spec_Sha.l1b {R : Type} (ret : Bool × List Int → Option R) (j0 : Bool → (List Int) → Bool → (List Int) → Int → Option R) (j1 : (List Int) → Bool → (List Int) → Int → Int → Option R) (k : Nat) (x6 : List Int) (x26z : Bool) (x26 : List Int) (x27 x28 : Int) : Option R :=
  cond (decide (x28 < x27)) (cond (decide ((0 : Int) ≤ x28)) (cond (decide (x28 < ((x26).length : Int))) (cond (decide ((x6).length + 4 < 140737488355328)) (j1 (x6 ++ ([(((shrI .i64 (rdI x26 x28) 24)) % 256), (((shrI .i64 (rdI x26 x28) 16)) % 256), (((shrI .i64 (rdI x26 x28) 8)) % 256), (((rdI x26 x28)) % 256)] : List Int)) x26z x26 x27 (RowKit.wrap64 (x28 + 1))) (none)) (none)) (none)) (ret (false, x6))
mutual
def spec_Sha.l0 : Nat → Bool → (List Int) → Bool → (List Int) → Int → Option (Bool × List Int)
  | 0, _, _, _, _, _ => none
  | k + 1, x3z, x3, x4z, x4, x5 => spec_Sha.l0b some (spec_Sha.l0 k) (spec_Sha.l1 k) k x3z x3 x4z x4 x5
def spec_Sha.l1 : Nat → (List Int) → Bool → (List Int) → Int → Int → Option (Bool × List Int)
  | 0, _, _, _, _, _ => none
  | k + 1, x6, x26z, x26, x27, x28 => spec_Sha.l1b some (spec_Sha.l0 k) (spec_Sha.l1 k) k x6 x26z x26 x27 x28
end
def spec_Sha.f : Nat → Bool → (List Int) → Option (Bool × List Int)
  | 0, _, _ => none
  | k + 1, a0z, a0 => spec_Sha.b some (spec_Sha.l0 k) (spec_Sha.l1 k) k a0z a0
def spec_Sha.enc (r : Bool × List Int) : Res := ⟨[.vals false [((.nums 5 .u8 r.1 r.2), true)]], []⟩
def spec_Sha.ans (k : Nat) : List Arg → Ans
  | [.v (.nums 5 .u8 a0z a0)] => ⟨spec_Sha.f k a0z a0, spec_Sha.enc⟩
  | _ => Ans.no
def spec_Sha.Cs (k : Nat) : CallSem := tab [(219, spec_ShaInit.ans k), (220, spec_ShaPad.ans k), (221, spec_ShaBlock.ans k)]
def spec_Sha.cuts : List (Nat × Keep) := [(122, ⟨[(3, none), (4, none), (5, some [])], []⟩), (506, ⟨[(6, none), (26, none), (27, some []), (28, some [])], []⟩)]
noncomputable def spec_Sha.K0 : List Fr := framesAt [true, true, true, false, true, false] (bodyOf Try.f181 spec_Sha.cuts) []
def spec_Sha.N0 (x3z : Bool) (x3 : List Int) (x4z : Bool) (x4 : List Int) (x5 : Int) : St := stOf 48 48 1 [(3, .val ⟨(.nums 3 .i64 x3z x3), [.l 3 0], true, some (.l 3 0)⟩), (4, .val ⟨(.nums 5 .u8 x4z x4), [.l 4 0], true, some (.l 4 0)⟩), (5, .val (V.s (.int .i64 x5)))] []
noncomputable def spec_Sha.K1 : List Fr := framesAt [true, true, true, true, true, false, true, false] (bodyOf Try.f181 spec_Sha.cuts) []
def spec_Sha.N1 (x6 : List Int) (x26z : Bool) (x26 : List Int) (x27 x28 : Int) : St := stOf 48 48 1 [(6, .val ⟨(.nums 5 .u8 false x6), [.l 6 0], true, some (.l 6 0)⟩), (26, .val ⟨(.nums 3 .i64 x26z x26), [.l 26 0], true, some (.l 26 0)⟩), (27, .val (V.s (.int .i64 x27))), (28, .val (V.s (.int .i64 x28)))] []
theorem spec_Sha.s0 (k : Nat) (G : List Fr → St → Option Res) (a0z : Bool) (a0 : List Int) (yx3z : Bool) (yx3 : List Int) (yx4z : Bool) (yx4 : List Int) (yx5 : Int) : resume Try.prog (spec_Sha.Cs k) G (finish Try.prog [] Try.f181 [.v (.nums 5 .u8 a0z a0)]) 100000 spec_Sha.K0 (spec_Sha.N0 yx3z yx3 yx4z yx4 yx5) = spec_Sha.l0b (fun r => some (spec_Sha.enc r)) (fun x3z x3 x4z x4 x5 => G spec_Sha.K0 (spec_Sha.N0 x3z x3 x4z x4 x5)) (fun x6 x26z x26 x27 x28 => G spec_Sha.K1 (spec_Sha.N1 x6 x26z x26 x27 x28)) k yx3z yx3 yx4z yx4 yx5 := by kernel_rfl
theorem spec_Sha.s1 (k : Nat) (G : List Fr → St → Option Res) (a0z : Bool) (a0 yx6 : List Int) (yx26z : Bool) (yx26 : List Int) (yx27 yx28 : Int) : resume Try.prog (spec_Sha.Cs k) G (finish Try.prog [] Try.f181 [.v (.nums 5 .u8 a0z a0)]) 100000 spec_Sha.K1 (spec_Sha.N1 yx6 yx26z yx26 yx27 yx28) = spec_Sha.l1b (fun r => some (spec_Sha.enc r)) (fun x3z x3 x4z x4 x5 => G spec_Sha.K0 (spec_Sha.N0 x3z x3 x4z x4 x5)) (fun x6 x26z x26 x27 x28 => G spec_Sha.K1 (spec_Sha.N1 x6 x26z x26 x27 x28)) k yx6 yx26z yx26 yx27 yx28 := by kernel_rfl
theorem spec_Sha.bn {R R' : Type} (e : R → R') (ret : Bool × List Int → Option R) (j0 : Bool → (List Int) → Bool → (List Int) → Int → Option R) (j1 : (List Int) → Bool → (List Int) → Int → Int → Option R) (k : Nat) (a0z : Bool) (a0 : List Int) : spec_Sha.b (fun r => (ret r).map e) (fun x3z x3 x4z x4 x5 => (j0 x3z x3 x4z x4 x5).map e) (fun x6 x26z x26 x27 x28 => (j1 x6 x26z x26 x27 x28).map e) k a0z a0 = (spec_Sha.b ret j0 j1 k a0z a0).map e := by
  unfold spec_Sha.b
  repeat' first | with_reducible refine nat_cond ?_ ?_ | with_reducible refine nat_bind fun _ => ?_ | rfl
theorem spec_Sha.l0n {R R' : Type} (e : R → R') (ret : Bool × List Int → Option R) (j0 : Bool → (List Int) → Bool → (List Int) → Int → Option R) (j1 : (List Int) → Bool → (List Int) → Int → Int → Option R) (k : Nat) (x3z : Bool) (x3 : List Int) (x4z : Bool) (x4 : List Int) (x5 : Int) : spec_Sha.l0b (fun r => (ret r).map e) (fun x3z x3 x4z x4 x5 => (j0 x3z x3 x4z x4 x5).map e) (fun x6 x26z x26 x27 x28 => (j1 x6 x26z x26 x27 x28).map e) k x3z x3 x4z x4 x5 = (spec_Sha.l0b ret j0 j1 k x3z x3 x4z x4 x5).map e := by
  unfold spec_Sha.l0b
  repeat' first | with_reducible refine nat_cond ?_ ?_ | with_reducible refine nat_bind fun _ => ?_ | rfl
theorem spec_Sha.l1n {R R' : Type} (e : R → R') (ret : Bool × List Int → Option R) (j0 : Bool → (List Int) → Bool → (List Int) → Int → Option R) (j1 : (List Int) → Bool → (List Int) → Int → Int → Option R) (k : Nat) (x6 : List Int) (x26z : Bool) (x26 : List Int) (x27 x28 : Int) : spec_Sha.l1b (fun r => (ret r).map e) (fun x3z x3 x4z x4 x5 => (j0 x3z x3 x4z x4 x5).map e) (fun x6 x26z x26 x27 x28 => (j1 x6 x26z x26 x27 x28).map e) k x6 x26z x26 x27 x28 = (spec_Sha.l1b ret j0 j1 k x6 x26z x26 x27 x28).map e := by
  unfold spec_Sha.l1b
  repeat' first | with_reducible refine nat_cond ?_ ?_ | with_reducible refine nat_bind fun _ => ?_ | rfl
theorem spec_Sha.rq (a0z : Bool) (a0 : List Int) : ∀ k, (∀ (x3z : Bool) (x3 : List Int) (x4z : Bool) (x4 : List Int) (x5 : Int), rounds Try.prog spec_Sha.Cs (finish Try.prog [] Try.f181 [.v (.nums 5 .u8 a0z a0)]) 100000 k spec_Sha.K0 (spec_Sha.N0 x3z x3 x4z x4 x5) = (spec_Sha.l0 k x3z x3 x4z x4 x5).map spec_Sha.enc) ∧ (∀ (x6 : List Int) (x26z : Bool) (x26 : List Int) (x27 x28 : Int), rounds Try.prog spec_Sha.Cs (finish Try.prog [] Try.f181 [.v (.nums 5 .u8 a0z a0)]) 100000 k spec_Sha.K1 (spec_Sha.N1 x6 x26z x26 x27 x28) = (spec_Sha.l1 k x6 x26z x26 x27 x28).map spec_Sha.enc)
  | 0 => ⟨fun _ _ _ _ _ => rfl, fun _ _ _ _ _ => rfl⟩
  | k + 1 => by
    have ih := spec_Sha.rq a0z a0 k
    refine ⟨fun _ _ _ _ _ => ?_, fun _ _ _ _ _ => ?_⟩
    · refine (spec_Sha.s0 k _ a0z a0 _ _ _ _ _).trans (Eq.trans ?_ (spec_Sha.l0n spec_Sha.enc some (spec_Sha.l0 k) (spec_Sha.l1 k) k _ _ _ _ _))
      simp only [ih.1, ih.2, Option.map_some]
    · refine (spec_Sha.s1 k _ a0z a0 _ _ _ _ _).trans (Eq.trans ?_ (spec_Sha.l1n spec_Sha.enc some (spec_Sha.l0 k) (spec_Sha.l1 k) k _ _ _ _ _))
      simp only [ih.1, ih.2, Option.map_some]
theorem spec_Sha.eq (k : Nat) (a0z : Bool) (a0 : List Int) : answer Try.prog spec_Sha.Cs 100000 spec_Sha.cuts [] Try.f181 (k + 1) [.v (.nums 5 .u8 a0z a0)] = (spec_Sha.f (k + 1) a0z a0).map spec_Sha.enc := by
  have ih := spec_Sha.rq a0z a0 k
  refine Eq.trans (b := spec_Sha.b (fun r => some (spec_Sha.enc r)) (fun x3z x3 x4z x4 x5 => rounds Try.prog spec_Sha.Cs (finish Try.prog [] Try.f181 [.v (.nums 5 .u8 a0z a0)]) 100000 k spec_Sha.K0 (spec_Sha.N0 x3z x3 x4z x4 x5)) (fun x6 x26z x26 x27 x28 => rounds Try.prog spec_Sha.Cs (finish Try.prog [] Try.f181 [.v (.nums 5 .u8 a0z a0)]) 100000 k spec_Sha.K1 (spec_Sha.N1 x6 x26z x26 x27 x28)) k a0z a0) (by kernel_rfl) (Eq.trans ?_ (spec_Sha.bn spec_Sha.enc some (spec_Sha.l0 k) (spec_Sha.l1 k) k a0z a0))
  simp only [ih.1, ih.2, Option.map_some]
theorem spec_Sha.sound (k : Nat) : SoundF Try.prog 181 (fun a => (spec_Sha.ans k a).val) := by
  refine sound_plain (fun args res h => ?_) (fun t n => rfl)
  unfold spec_Sha.ans at h
  dsimp only at h
  split at h
  · cases k with
    | zero => cases h
    | succ k =>
      unfold Ans.val at h
      rw [← spec_Sha.eq] at h
      exact answer_sound mixed Try.func181 _ _ _ (k + 1) (fun j _ => tab_sound (tab_cons (spec_ShaInit.sound j) (tab_cons (spec_ShaPad.sound j) (tab_cons (spec_ShaBlock.sound j) (tab_nil))))) _ _ h
  · exact (Ans.no_val h).elim

def spec_HeadHash.b {R : Type} (ret : Bool × List Int → Option R) (k : Nat) (a0_0 a0_1 : Int) (a0_2 a0_3 : Int) (a0_4 a1_0 : Int) (a1_1 a1_2 : Int) (a1_3z : Bool) (a1_3 : List Int) (a1_4z : Bool) (a1_4 : List Int) (a1_5 a1_6 : Int) (a1_7z : Bool) (a1_7 : List Int) (a1_8z : Bool) (a1_8 : List Int) (a1_9z : Bool) (a1_9 : List T) : Option R :=
  (spec_PutHead.f k a0_0 a0_1 a0_2 a0_3 a0_4 false ([72] : List Int) a1_0 a1_1 a1_2 a1_3z a1_3 a1_4z a1_4 a1_5 a1_6 a1_7z a1_7 a1_8z a1_8 a1_9z a1_9).bind fun t0 => cond (!t0.2.2) (ret (true, ([] : List Int))) ((spec_Sha.f k t0.1 t0.2.1).bind fun t1 => ret (t1.1, t1.2))
def spec_HeadHash.f : Nat → Int → Int → Int → Int → Int → Int → Int → Int → Bool → (List Int) → Bool → (List Int) → Int → Int → Bool → (List Int) → Bool → (List Int) → Bool → (List T) → Option (Bool × List Int)
  | 0, _, _, _, _, _, _, _, _, _, _, _, _, _, _, _, _, _, _, _, _ => none
  | k + 1, a0_0, a0_1, a0_2, a0_3, a0_4, a1_0, a1_1, a1_2, a1_3z, a1_3, a1_4z, a1_4, a1_5, a1_6, a1_7z, a1_7, a1_8z, a1_8, a1_9z, a1_9 => spec_HeadHash.b some k a0_0 a0_1 a0_2 a0_3 a0_4 a1_0 a1_1 a1_2 a1_3z a1_3 a1_4z a1_4 a1_5 a1_6 a1_7z a1_7 a1_8z a1_8 a1_9z a1_9
def spec_HeadHash.enc (r : Bool × List Int) : Res := ⟨[.vals false [((.nums 5 .u8 r.1 r.2), true)]], []⟩
def spec_HeadHash.ans (k : Nat) : List Arg → Ans
  | [.v (.agg [(.int .i64 a0_0), (.int .i64 a0_1), (.int .i64 a0_2), (.int .i64 a0_3), (.int .i64 a0_4)]), .v (.agg [(.int .i64 a1_0), (.int .i64 a1_1), (.int .i64 a1_2), (.nums 5 .u8 a1_3z a1_3), (.nums 5 .u8 a1_4z a1_4), (.int .i64 a1_5), (.int .i64 a1_6), (.nums 5 .u8 a1_7z a1_7), (.nums 5 .u8 a1_8z a1_8), (.sl 22 a1_9z a1_9)])] => ⟨spec_HeadHash.f k a0_0 a0_1 a0_2 a0_3 a0_4 a1_0 a1_1 a1_2 a1_3z a1_3 a1_4z a1_4 a1_5 a1_6 a1_7z a1_7 a1_8z a1_8 a1_9z a1_9, spec_HeadHash.enc⟩
  | _ => Ans.no
def spec_HeadHash.Cs (k : Nat) : CallSem := tab [(180, spec_PutHead.ans k), (181, spec_Sha.ans k)]
theorem spec_HeadHash.eq (k : Nat) (a0_0 a0_1 : Int) (a0_2 a0_3 : Int) (a0_4 a1_0 : Int) (a1_1 a1_2 : Int) (a1_3z : Bool) (a1_3 : List Int) (a1_4z : Bool) (a1_4 : List Int) (a1_5 a1_6 : Int) (a1_7z : Bool) (a1_7 : List Int) (a1_8z : Bool) (a1_8 : List Int) (a1_9z : Bool) (a1_9 : List T) : answer Try.prog spec_HeadHash.Cs 100000 [] [] Try.f130 (k + 1) [.v (.agg [(.int .i64 a0_0), (.int .i64 a0_1), (.int .i64 a0_2), (.int .i64 a0_3), (.int .i64 a0_4)]), .v (.agg [(.int .i64 a1_0), (.int .i64 a1_1), (.int .i64 a1_2), (.nums 5 .u8 a1_3z a1_3), (.nums 5 .u8 a1_4z a1_4), (.int .i64 a1_5), (.int .i64 a1_6), (.nums 5 .u8 a1_7z a1_7), (.nums 5 .u8 a1_8z a1_8), (.sl 22 a1_9z a1_9)])] = (spec_HeadHash.f (k + 1) a0_0 a0_1 a0_2 a0_3 a0_4 a1_0 a1_1 a1_2 a1_3z a1_3 a1_4z a1_4 a1_5 a1_6 a1_7z a1_7 a1_8z a1_8 a1_9z a1_9).map spec_HeadHash.enc := by
  refine Eq.trans (b := spec_HeadHash.b (fun r => some (spec_HeadHash.enc r)) k a0_0 a0_1 a0_2 a0_3 a0_4 a1_0 a1_1 a1_2 a1_3z a1_3 a1_4z a1_4 a1_5 a1_6 a1_7z a1_7 a1_8z a1_8 a1_9z a1_9) (by kernel_rfl) ?_
  show _ = (spec_HeadHash.b some k a0_0 a0_1 a0_2 a0_3 a0_4 a1_0 a1_1 a1_2 a1_3z a1_3 a1_4z a1_4 a1_5 a1_6 a1_7z a1_7 a1_8z a1_8 a1_9z a1_9).map spec_HeadHash.enc
  unfold spec_HeadHash.b
  repeat' first | with_reducible refine nat_cond ?_ ?_ | with_reducible refine nat_bind fun _ => ?_ | rfl
theorem spec_HeadHash.sound (k : Nat) : SoundF Try.prog 130 (fun a => (spec_HeadHash.ans k a).val) := by
  refine sound_plain (fun args res h => ?_) (fun t n => rfl)
  unfold spec_HeadHash.ans at h
  dsimp only at h
  split at h
  · cases k with
    | zero => cases h
    | succ k =>
      unfold Ans.val at h
      rw [← spec_HeadHash.eq] at h
      exact answer_sound mixed Try.func130 _ _ _ (k + 1) (fun j _ => tab_sound (tab_cons (spec_PutHead.sound j) (tab_cons (spec_Sha.sound j) (tab_nil)))) _ _ h
  · exact (Ans.no_val h).elim

def spec_VoteBytes.b {R : Type} (ret : Bool × List Int → Option R) (k : Nat) (a0 a1 : Int) (a2z : Bool) (a2 : List Int) : Option R :=
  (spec_l01Num.f k a0).bind fun t0 => cond (!t0) (ret (true, ([] : List Int))) ((spec_l01Num.f k a1).bind fun t1 => cond (!t1) (ret (true, ([] : List Int))) ((spec_l07Hash.f k a2z a2).bind fun t2 => cond (!t2) (ret (true, ([] : List Int))) ((spec_l11Num.f k false ([86] : List Int) a0).bind fun t3 => (spec_l11Num.f k t3.1 t3.2 a1).bind fun t4 => cond (decide ((t4.2).length + (a2).length < 140737488355328)) (ret (((a2).isEmpty && t4.1), (t4.2 ++ a2))) (none))))
def spec_VoteBytes.f : Nat → Int → Int → Bool → (List Int) → Option (Bool × List Int)
  | 0, _, _, _, _ => none
  | k + 1, a0, a1, a2z, a2 => spec_VoteBytes.b some k a0 a1 a2z a2
def spec_VoteBytes.enc (r : Bool × List Int) : Res := ⟨[.vals false [((.nums 5 .u8 r.1 r.2), true)]], []⟩
def spec_VoteBytes.ans (k : Nat) : List Arg → Ans
  | [.v (.int .i64 a0), .v (.int .i64 a1), .v (.nums 5 .u8 a2z a2)] => ⟨spec_VoteBytes.f k a0 a1 a2z a2, spec_VoteBytes.enc⟩
  | _ => Ans.no
def spec_VoteBytes.Cs (k : Nat) : CallSem := tab [(190, spec_l01Num.ans k), (191, spec_l07Hash.ans k), (217, spec_l11Num.ans k)]
theorem spec_VoteBytes.eq (k : Nat) (a0 a1 : Int) (a2z : Bool) (a2 : List Int) : answer Try.prog spec_VoteBytes.Cs 100000 [] [] Try.f202 (k + 1) [.v (.int .i64 a0), .v (.int .i64 a1), .v (.nums 5 .u8 a2z a2)] = (spec_VoteBytes.f (k + 1) a0 a1 a2z a2).map spec_VoteBytes.enc := by
  refine Eq.trans (b := spec_VoteBytes.b (fun r => some (spec_VoteBytes.enc r)) k a0 a1 a2z a2) (by kernel_rfl) ?_
  show _ = (spec_VoteBytes.b some k a0 a1 a2z a2).map spec_VoteBytes.enc
  unfold spec_VoteBytes.b
  repeat' first | with_reducible refine nat_cond ?_ ?_ | with_reducible refine nat_bind fun _ => ?_ | rfl
theorem spec_VoteBytes.sound (k : Nat) : SoundF Try.prog 202 (fun a => (spec_VoteBytes.ans k a).val) := by
  refine sound_plain (fun args res h => ?_) (fun t n => rfl)
  unfold spec_VoteBytes.ans at h
  dsimp only at h
  split at h
  · cases k with
    | zero => cases h
    | succ k =>
      unfold Ans.val at h
      rw [← spec_VoteBytes.eq] at h
      exact answer_sound mixed Try.func202 _ _ _ (k + 1) (fun j _ => tab_sound (tab_cons (spec_l01Num.sound j) (tab_cons (spec_l07Hash.sound j) (tab_cons (spec_l11Num.sound j) (tab_nil))))) _ _ h
  · exact (Ans.no_val h).elim

def spec_MacKey.b {R : Type} (ret : Bool × List Int → Option R) (j0 : Bool → (List Int) → Option R) (k : Nat) (a0z : Bool) (a0 : List Int) : Option R :=
  (spec_l01Copy.f k a0z a0).bind fun t0 => cond (decide (((t0.2).length : Int) > 64)) ((spec_Sha.f k t0.1 t0.2).bind fun t1 => j0 t1.1 t1.2) (j0 t0.1 t0.2)
def spec_MacKey.l0b {R : Type} (ret : Bool × List Int → Option R) (j0 : Bool → (List Int) → Option R) (k : Nat) (x3z : Bool) (x3 : List Int) : Option R :=
  cond (decide (((x3).length : Int) < 64)) (cond (decide ((x3).length + 1 < 140737488355328)) (j0 false (x3 ++ ([0] : List Int))) (none)) (ret (x3z, x3))
def spec_MacKey.l0 : Nat → Bool → (List Int) → Option (Bool × List Int)
  | 0, _, _ => none
  | k + 1, x3z, x3 => spec_MacKey.l0b some (spec_MacKey.l0 k) k x3z x3
def spec_MacKey.f : Nat → Bool → (List Int) → Option (Bool × List Int)
  | 0, _, _ => none
  | k + 1, a0z, a0 => spec_MacKey.b some (spec_MacKey.l0 k) k a0z a0
def spec_MacKey.enc (r : Bool × List Int) : Res := ⟨[.vals false [((.nums 5 .u8 r.1 r.2), true)]], []⟩
def spec_MacKey.ans (k : Nat) : List Arg → Ans
  | [.v (.nums 5 .u8 a0z a0)] => ⟨spec_MacKey.f k a0z a0, spec_MacKey.enc⟩
  | _ => Ans.no
def spec_MacKey.Cs (k : Nat) : CallSem := tab [(155, spec_l01Copy.ans k), (181, spec_Sha.ans k)]
def spec_MacKey.cuts : List (Nat × Keep) := [(60, ⟨[(3, none)], []⟩)]
noncomputable def spec_MacKey.K0 : List Fr := framesAt [true, true, true, false, false] (bodyOf Try.f226 spec_MacKey.cuts) []
def spec_MacKey.N0 (x3z : Bool) (x3 : List Int) : St := stOf 18 18 1 [(3, .val ⟨(.nums 5 .u8 x3z x3), [.l 3 0], true, some (.l 3 0)⟩)] []
theorem spec_MacKey.s0 (k : Nat) (G : List Fr → St → Option Res) (a0z : Bool) (a0 : List Int) (yx3z : Bool) (yx3 : List Int) : resume Try.prog (spec_MacKey.Cs k) G (finish Try.prog [] Try.f226 [.v (.nums 5 .u8 a0z a0)]) 100000 spec_MacKey.K0 (spec_MacKey.N0 yx3z yx3) = spec_MacKey.l0b (fun r => some (spec_MacKey.enc r)) (fun x3z x3 => G spec_MacKey.K0 (spec_MacKey.N0 x3z x3)) k yx3z yx3 := by kernel_rfl
theorem spec_MacKey.bn {R R' : Type} (e : R → R') (ret : Bool × List Int → Option R) (j0 : Bool → (List Int) → Option R) (k : Nat) (a0z : Bool) (a0 : List Int) : spec_MacKey.b (fun r => (ret r).map e) (fun x3z x3 => (j0 x3z x3).map e) k a0z a0 = (spec_MacKey.b ret j0 k a0z a0).map e := by
  unfold spec_MacKey.b
  repeat' first | with_reducible refine nat_cond ?_ ?_ | with_reducible refine nat_bind fun _ => ?_ | rfl
theorem spec_MacKey.l0n {R R' : Type} (e : R → R') (ret : Bool × List Int → Option R) (j0 : Bool → (List Int) → Option R) (k : Nat) (x3z : Bool) (x3 : List Int) : spec_MacKey.l0b (fun r => (ret r).map e) (fun x3z x3 => (j0 x3z x3).map e) k x3z x3 = (spec_MacKey.l0b ret j0 k x3z x3).map e := by
  unfold spec_MacKey.l0b
  repeat' first | with_reducible refine nat_cond ?_ ?_ | with_reducible refine nat_bind fun _ => ?_ | rfl
theorem spec_MacKey.rq (a0z : Bool) (a0 : List Int) : ∀ k, (∀ (x3z : Bool) (x3 : List Int), rounds Try.prog spec_MacKey.Cs (finish Try.prog [] Try.f226 [.v (.nums 5 .u8 a0z a0)]) 100000 k spec_MacKey.K0 (spec_MacKey.N0 x3z x3) = (spec_MacKey.l0 k x3z x3).map spec_MacKey.enc)
  | 0 => fun _ _ => rfl
  | k + 1 => by
    have ih := spec_MacKey.rq a0z a0 k
    refine fun _ _ => ?_
    · refine (spec_MacKey.s0 k _ a0z a0 _ _).trans (Eq.trans ?_ (spec_MacKey.l0n spec_MacKey.enc some (spec_MacKey.l0 k) k _ _))
      simp only [ih, Option.map_some]
theorem spec_MacKey.eq (k : Nat) (a0z : Bool) (a0 : List Int) : answer Try.prog spec_MacKey.Cs 100000 spec_MacKey.cuts [] Try.f226 (k + 1) [.v (.nums 5 .u8 a0z a0)] = (spec_MacKey.f (k + 1) a0z a0).map spec_MacKey.enc := by
  have ih := spec_MacKey.rq a0z a0 k
  refine Eq.trans (b := spec_MacKey.b (fun r => some (spec_MacKey.enc r)) (fun x3z x3 => rounds Try.prog spec_MacKey.Cs (finish Try.prog [] Try.f226 [.v (.nums 5 .u8 a0z a0)]) 100000 k spec_MacKey.K0 (spec_MacKey.N0 x3z x3)) k a0z a0) (by kernel_rfl) (Eq.trans ?_ (spec_MacKey.bn spec_MacKey.enc some (spec_MacKey.l0 k) k a0z a0))
  simp only [ih, Option.map_some]
theorem spec_MacKey.sound (k : Nat) : SoundF Try.prog 226 (fun a => (spec_MacKey.ans k a).val) := by
  refine sound_plain (fun args res h => ?_) (fun t n => rfl)
  unfold spec_MacKey.ans at h
  dsimp only at h
  split at h
  · cases k with
    | zero => cases h
    | succ k =>
      unfold Ans.val at h
      rw [← spec_MacKey.eq] at h
      exact answer_sound mixed Try.func226 _ _ _ (k + 1) (fun j _ => tab_sound (tab_cons (spec_l01Copy.sound j) (tab_cons (spec_Sha.sound j) (tab_nil)))) _ _ h
  · exact (Ans.no_val h).elim

def spec_Mac.b {R : Type} (ret : Bool × List Int → Option R) (j0 : Bool → (List Int) → (List Int) → (List Int) → Bool → (List Int) → Int → Int → Option R) (k : Nat) (a0z : Bool) (a0 : List Int) (a1z : Bool) (a1 : List Int) : Option R :=
  (spec_MacKey.f k a0z a0).bind fun t0 => j0 a1z a1 ([] : List Int) ([] : List Int) t0.1 t0.2 ((t0.2).length : Int) 0
def spec_Mac.l0b {R : Type} (ret : Bool × List Int → Option R) (j0 : Bool → (List Int) → (List Int) → (List Int) → Bool → (List Int) → Int → Int → Option R) (k : Nat) (x1z : Bool) (x1 x5 x6 : List Int) (x12z : Bool) (x12 : List Int) (x13 x14 : Int) : Option R :=
  cond (decide (x14 < x13)) (cond (decide ((0 : Int) ≤ x14)) (cond (decide (x14 < ((x12).length : Int))) (cond (decide ((x5).length + 1 < 140737488355328)) (cond (decide ((x6).length + 1 < 140737488355328)) (j0 x1z x1 (x5 ++ ([(Go.bits .xor .u8 (rdI x12 x14) 54)] : List Int)) (x6 ++ ([(Go.bits .xor .u8 (rdI x12 x14) 92)] : List Int)) x12z x12 x13 (RowKit.wrap64 (x14 + 1))) (none)) (none)) (none)) (none)) (cond (decide ((x5).length + (x1).length < 140737488355328)) ((spec_Sha.f k ((x1).isEmpty && false) (x5 ++ x1)).bind fun t0 => cond (decide ((x6).length + (t0.2).length < 140737488355328)) ((spec_Sha.f k ((t0.2).isEmpty && false) (x6 ++ t0.2)).bind fun t1 => ret (t1.1, t1.2)) (none)) (none))
def spec_Mac.l0 : Nat → Bool → (List Int) → (List Int) → (List Int) → Bool → (List Int) → Int → Int → Option (Bool × List Int)
  | 0, _, _, _, _, _, _, _, _ => none
  | k + 1, x1z, x1, x5, x6, x12z, x12, x13, x14 => spec_Mac.l0b some (spec_Mac.l0 k) k x1z x1 x5 x6 x12z x12 x13 x14
def spec_Mac.f : Nat → Bool → (List Int) → Bool → (List Int) → Option (Bool × List Int)
  | 0, _, _, _, _ => none
  | k + 1, a0z, a0, a1z, a1 => spec_Mac.b some (spec_Mac.l0 k) k a0z a0 a1z a1
def spec_Mac.enc (r : Bool × List Int) : Res := ⟨[.vals false [((.nums 5 .u8 r.1 r.2), true)]], []⟩
def spec_Mac.ans (k : Nat) : List Arg → Ans
  | [.v (.nums 5 .u8 a0z a0), .v (.nums 5 .u8 a1z a1)] => ⟨spec_Mac.f k a0z a0 a1z a1, spec_Mac.enc⟩
  | _ => Ans.no
def spec_Mac.Cs (k : Nat) : CallSem := tab [(181, spec_Sha.ans k), (226, spec_MacKey.ans k)]
def spec_Mac.cuts : List (Nat × Keep) := [(122, ⟨[(1, some []), (5, none), (6, none), (12, none), (13, some []), (14, some [])], []⟩)]
noncomputable def spec_Mac.K0 : List Fr := framesAt [true, true, true, false, true, false] (bodyOf Try.f203 spec_Mac.cuts) []
def spec_Mac.N0 (x1z : Bool) (x1 x5 x6 : List Int) (x12z : Bool) (x12 : List Int) (x13 x14 : Int) : St := stOf 36 36 2 [(1, .val ⟨(.nums 5 .u8 x1z x1), [], false, none⟩), (5, .val ⟨(.nums 5 .u8 false x5), [.l 5 0], true, some (.l 5 0)⟩), (6, .val ⟨(.nums 5 .u8 false x6), [.l 6 0], true, some (.l 6 0)⟩), (12, .val ⟨(.nums 5 .u8 x12z x12), [.l 12 0], true, some (.l 12 0)⟩), (13, .val (V.s (.int .i64 x13))), (14, .val (V.s (.int .i64 x14)))] []
theorem spec_Mac.s0 (k : Nat) (G : List Fr → St → Option Res) (a0z : Bool) (a0 : List Int) (a1z : Bool) (a1 : List Int) (yx1z : Bool) (yx1 yx5 yx6 : List Int) (yx12z : Bool) (yx12 : List Int) (yx13 yx14 : Int) : resume Try.prog (spec_Mac.Cs k) G (finish Try.prog [] Try.f203 [.v (.nums 5 .u8 a0z a0), .v (.nums 5 .u8 a1z a1)]) 100000 spec_Mac.K0 (spec_Mac.N0 yx1z yx1 yx5 yx6 yx12z yx12 yx13 yx14) = spec_Mac.l0b (fun r => some (spec_Mac.enc r)) (fun x1z x1 x5 x6 x12z x12 x13 x14 => G spec_Mac.K0 (spec_Mac.N0 x1z x1 x5 x6 x12z x12 x13 x14)) k yx1z yx1 yx5 yx6 yx12z yx12 yx13 yx14 := by kernel_rfl
theorem spec_Mac.bn {R R' : Type} (e : R → R') (ret : Bool × List Int → Option R) (j0 : Bool → (List Int) → (List Int) → (List Int) → Bool → (List Int) → Int → Int → Option R) (k : Nat) (a0z : Bool) (a0 : List Int) (a1z : Bool) (a1 : List Int) : spec_Mac.b (fun r => (ret r).map e) (fun x1z x1 x5 x6 x12z x12 x13 x14 => (j0 x1z x1 x5 x6 x12z x12 x13 x14).map e) k a0z a0 a1z a1 = (spec_Mac.b ret j0 k a0z a0 a1z a1).map e := by
  unfold spec_Mac.b
  repeat' first | with_reducible refine nat_cond ?_ ?_ | with_reducible refine nat_bind fun _ => ?_ | rfl
theorem spec_Mac.l0n {R R' : Type} (e : R → R') (ret : Bool × List Int → Option R) (j0 : Bool → (List Int) → (List Int) → (List Int) → Bool → (List Int) → Int → Int → Option R) (k : Nat) (x1z : Bool) (x1 x5 x6 : List Int) (x12z : Bool) (x12 : List Int) (x13 x14 : Int) : spec_Mac.l0b (fun r => (ret r).map e) (fun x1z x1 x5 x6 x12z x12 x13 x14 => (j0 x1z x1 x5 x6 x12z x12 x13 x14).map e) k x1z x1 x5 x6 x12z x12 x13 x14 = (spec_Mac.l0b ret j0 k x1z x1 x5 x6 x12z x12 x13 x14).map e := by
  unfold spec_Mac.l0b
  repeat' first | with_reducible refine nat_cond ?_ ?_ | with_reducible refine nat_bind fun _ => ?_ | rfl
theorem spec_Mac.rq (a0z : Bool) (a0 : List Int) (a1z : Bool) (a1 : List Int) : ∀ k, (∀ (x1z : Bool) (x1 x5 x6 : List Int) (x12z : Bool) (x12 : List Int) (x13 x14 : Int), rounds Try.prog spec_Mac.Cs (finish Try.prog [] Try.f203 [.v (.nums 5 .u8 a0z a0), .v (.nums 5 .u8 a1z a1)]) 100000 k spec_Mac.K0 (spec_Mac.N0 x1z x1 x5 x6 x12z x12 x13 x14) = (spec_Mac.l0 k x1z x1 x5 x6 x12z x12 x13 x14).map spec_Mac.enc)
  | 0 => fun _ _ _ _ _ _ _ _ => rfl
  | k + 1 => by
    have ih := spec_Mac.rq a0z a0 a1z a1 k
    refine fun _ _ _ _ _ _ _ _ => ?_
    · refine (spec_Mac.s0 k _ a0z a0 a1z a1 _ _ _ _ _ _ _ _).trans (Eq.trans ?_ (spec_Mac.l0n spec_Mac.enc some (spec_Mac.l0 k) k _ _ _ _ _ _ _ _))
      simp only [ih, Option.map_some]
theorem spec_Mac.eq (k : Nat) (a0z : Bool) (a0 : List Int) (a1z : Bool) (a1 : List Int) : answer Try.prog spec_Mac.Cs 100000 spec_Mac.cuts [] Try.f203 (k + 1) [.v (.nums 5 .u8 a0z a0), .v (.nums 5 .u8 a1z a1)] = (spec_Mac.f (k + 1) a0z a0 a1z a1).map spec_Mac.enc := by
  have ih := spec_Mac.rq a0z a0 a1z a1 k
  refine Eq.trans (b := spec_Mac.b (fun r => some (spec_Mac.enc r)) (fun x1z x1 x5 x6 x12z x12 x13 x14 => rounds Try.prog spec_Mac.Cs (finish Try.prog [] Try.f203 [.v (.nums 5 .u8 a0z a0), .v (.nums 5 .u8 a1z a1)]) 100000 k spec_Mac.K0 (spec_Mac.N0 x1z x1 x5 x6 x12z x12 x13 x14)) k a0z a0 a1z a1) (by kernel_rfl) (Eq.trans ?_ (spec_Mac.bn spec_Mac.enc some (spec_Mac.l0 k) k a0z a0 a1z a1))
  simp only [ih, Option.map_some]
theorem spec_Mac.sound (k : Nat) : SoundF Try.prog 203 (fun a => (spec_Mac.ans k a).val) := by
  refine sound_plain (fun args res h => ?_) (fun t n => rfl)
  unfold spec_Mac.ans at h
  dsimp only at h
  split at h
  · cases k with
    | zero => cases h
    | succ k =>
      unfold Ans.val at h
      rw [← spec_Mac.eq] at h
      exact answer_sound mixed Try.func203 _ _ _ (k + 1) (fun j _ => tab_sound (tab_cons (spec_Sha.sound j) (tab_cons (spec_MacKey.sound j) (tab_nil)))) _ _ h
  · exact (Ans.no_val h).elim

def spec_SignVote.b {R : Type} (ret : Int × Int × Bool × (List Int) × Int × Bool × (List Int) × Bool → Option R) (k : Nat) (a0_0z : Bool) (a0_0 : List T) (a1 a2 : Int) (a3z : Bool) (a3 : List Int) (a4 : Int) : Option R :=
  (spec_VoteBytes.f k a1 a2 a3z a3).bind fun t0 => (spec_TableOk.f k a0_0z a0_0).bind fun t1 => cond (!t1) (ret (0, 0, true, ([] : List Int), 0, true, ([] : List Int), false)) (cond (decide (((t0.2).length : Int) = 0)) (ret (0, 0, true, ([] : List Int), 0, true, ([] : List Int), false)) ((spec_l01In.f k a4 0 (RowKit.wrap64 (((a0_0).length : Int) - 1))).bind fun t2 => cond (!t2) (ret (0, 0, true, ([] : List Int), 0, true, ([] : List Int), false)) ((spec_l01Copy.f k a3z a3).bind fun t3 => cond (decide ((0 : Int) ≤ a4)) (cond (decide (a4 < ((a0_0).length : Int))) ((spec_Mac.f k (((((a0_0).getD (a4).toNat .bad).cells.getD 1 .bad)).isNil) (((((a0_0).getD (a4).toNat .bad).cells.getD 1 .bad)).toNums) t0.1 t0.2).bind fun t4 => ret (a1, a2, t3.1, t3.2, a4, t4.1, t4.2, true)) (none)) (none))))
def spec_SignVote.f : Nat → Bool → (List T) → Int → Int → Bool → (List Int) → Int → Option (Int × Int × Bool × (List Int) × Int × Bool × (List Int) × Bool)
  | 0, _, _, _, _, _, _, _ => none
  | k + 1, a0_0z, a0_0, a1, a2, a3z, a3, a4 => spec_SignVote.b some k a0_0z a0_0 a1 a2 a3z a3 a4
def spec_SignVote.enc (r : Int × Int × Bool × (List Int) × Int × Bool × (List Int) × Bool) : Res := ⟨[.vals true [((.int .i64 r.1), true), ((.int .i64 r.2.1), true), ((.nums 5 .u8 r.2.2.1 r.2.2.2.1), true), ((.int .i64 r.2.2.2.2.1), true), ((.nums 5 .u8 r.2.2.2.2.2.1 r.2.2.2.2.2.2.1), true)], .vals false [((.bool r.2.2.2.2.2.2.2), true)]], []⟩
def spec_SignVote.ans (k : Nat) : List Arg → Ans
  | [.v (.agg [(.sl 44 a0_0z a0_0)]), .v (.int .i64 a1), .v (.int .i64 a2), .v (.nums 5 .u8 a3z a3), .v (.int .i64 a4)] => ⟨spec_SignVote.f k a0_0z a0_0 a1 a2 a3z a3 a4, spec_SignVote.enc⟩
  | _ => Ans.no
def spec_SignVote.Cs (k : Nat) : CallSem := tab [(155, spec_l01Copy.ans k), (170, spec_l01In.ans k), (112, spec_TableOk.ans k), (202, spec_VoteBytes.ans k), (203, spec_Mac.ans k)]
theorem spec_SignVote.eq (k : Nat) (a0_0z : Bool) (a0_0 : List T) (a1 a2 : Int) (a3z : Bool) (a3 : List Int) (a4 : Int) : answer Try.prog spec_SignVote.Cs 100000 [] [] Try.f166 (k + 1) [.v (.agg [(.sl 44 a0_0z a0_0)]), .v (.int .i64 a1), .v (.int .i64 a2), .v (.nums 5 .u8 a3z a3), .v (.int .i64 a4)] = (spec_SignVote.f (k + 1) a0_0z a0_0 a1 a2 a3z a3 a4).map spec_SignVote.enc := by
  refine Eq.trans (b := spec_SignVote.b (fun r => some (spec_SignVote.enc r)) k a0_0z a0_0 a1 a2 a3z a3 a4) (by kernel_rfl) ?_
  show _ = (spec_SignVote.b some k a0_0z a0_0 a1 a2 a3z a3 a4).map spec_SignVote.enc
  unfold spec_SignVote.b
  repeat' first | with_reducible refine nat_cond ?_ ?_ | with_reducible refine nat_bind fun _ => ?_ | rfl
theorem spec_SignVote.sound (k : Nat) : SoundF Try.prog 166 (fun a => (spec_SignVote.ans k a).val) := by
  refine sound_plain (fun args res h => ?_) (fun t n => rfl)
  unfold spec_SignVote.ans at h
  dsimp only at h
  split at h
  · cases k with
    | zero => cases h
    | succ k =>
      unfold Ans.val at h
      rw [← spec_SignVote.eq] at h
      exact answer_sound mixed Try.func166 _ _ _ (k + 1) (fun j _ => tab_sound (tab_cons (spec_l01Copy.sound j) (tab_cons (spec_l01In.sound j) (tab_cons (spec_TableOk.sound j) (tab_cons (spec_VoteBytes.sound j) (tab_cons (spec_Mac.sound j) (tab_nil))))))) _ _ h
  · exact (Ans.no_val h).elim

def spec_BuildQc.b {R : Type} (ret : Int × Int × Bool × (List Int) × Bool × (List Int) × Bool × (List T) × Bool → Option R) (j0 : Int → Int → Bool → (List Int) → Bool → (List Int) → Int → Int → Int → Int → Int → Int → Int → Bool → (List T) → Int → Int → Bool → (List Int) → Bool → (List Int) → Bool → (List T) → Option R) (k : Nat) (a0_0 a0_1 : Int) (a0_2 a0_3 a0_4 : Int) (a1_0z : Bool) (a1_0 : List T) (a2 a3 : Int) (a4z : Bool) (a4 : List Int) (a5z : Bool) (a5 : List Int) : Option R :=
  (spec_l23Goes.f k a0_0 a0_1 a0_2 a0_3 a0_4 a1_0z a1_0).bind fun t0 => cond (!t0) (ret (0, 0, true, ([] : List Int), true, ([] : List Int), true, ([] : List T), false)) ((spec_BitsOk.f k a5z a5 a0_0).bind fun t1 => cond (!t1) (ret (0, 0, true, ([] : List Int), true, ([] : List Int), true, ([] : List T), false)) ((spec_l01Copy.f k a4z a4).bind fun t2 => (spec_l01Copy.f k a5z a5).bind fun t3 => (spec_BitsList.f k a5z a5).bind fun t4 => j0 a2 a3 a4z a4 t4.1 t4.2 ((t4.2).length : Int) 0 a0_0 a0_1 a0_2 a0_3 a0_4 a1_0z a1_0 a2 a3 t2.1 t2.2 t3.1 t3.2 true ([] : List T)))
def spec_BuildQc.l0b {R : Type} (ret : Int × Int × Bool × (List Int) × Bool × (List Int) × Bool × (List T) × Bool → Option R) (j0 : Int → Int → Bool → (List Int) → Bool → (List Int) → Int → Int → Int → Int → Int → Int → Int → Bool → (List T) → Int → Int → Bool → (List Int) → Bool → (List Int) → Bool → (List T) → Option R) (k : Nat) (x2 x3 : Int) (x4z : Bool) (x4 : List Int) (x39z : Bool) (x39 : List Int) (x40 x41 : Int) (c6_0 c6_1 : Int) (c6_2 c6_3 c6_4 : Int) (c7_0z : Bool) (c7_0 : List T) (c14_0 c14_1 : Int) (c14_2z : Bool) (c14_2 : List Int) (c14_3z : Bool) (c14_3 : List Int) (c14_4z : Bool) (c14_4 : List T) : Option R :=
  cond (decide (x41 < x40)) (cond (decide ((0 : Int) ≤ x41)) (cond (decide (x41 < ((x39).length : Int))) ((spec_SignVote.f k c7_0z c7_0 x2 x3 x4z x4 (rdI x39 x41)).bind fun t0 => cond (decide ((c14_4).length + 1 < 5864062014805)) (j0 x2 x3 x4z x4 x39z x39 x40 (RowKit.wrap64 (x41 + 1)) c6_0 c6_1 c6_2 c6_3 c6_4 c7_0z c7_0 c14_0 c14_1 c14_2z c14_2 c14_3z c14_3 false (c14_4 ++ ([(.nums 5 .u8 t0.2.2.2.2.2.1 t0.2.2.2.2.2.2.1)] : List T))) (none)) (none)) (none)) ((spec_QcOk.f k c6_0 c6_1 c6_2 c6_3 c6_4 c14_0 c14_1 c14_2z c14_2 c14_3z c14_3 c14_4z c14_4).bind fun t0 => cond (!t0) (ret (0, 0, true, ([] : List Int), true, ([] : List Int), true, ([] : List T), false)) (ret (c14_0, c14_1, c14_2z, c14_2, c14_3z, c14_3, c14_4z, c14_4, true)))
def spec_BuildQc.l0 : Nat → Int → Int → Bool → (List Int) → Bool → (List Int) → Int → Int → Int → Int → Int → Int → Int → Bool → (List T) → Int → Int → Bool → (List Int) → Bool → (List Int) → Bool → (List T) → Option (Int × Int × Bool × (List Int) × Bool × (List Int) × Bool × (List T) × Bool)
  | 0, _, _, _, _, _, _, _, _, _, _, _, _, _, _, _, _, _, _, _, _, _, _, _ => none
  | k + 1, x2, x3, x4z, x4, x39z, x39, x40, x41, c6_0, c6_1, c6_2, c6_3, c6_4, c7_0z, c7_0, c14_0, c14_1, c14_2z, c14_2, c14_3z, c14_3, c14_4z, c14_4 => spec_BuildQc.l0b some (spec_BuildQc.l0 k) k x2 x3 x4z x4 x39z x39 x40 x41 c6_0 c6_1 c6_2 c6_3 c6_4 c7_0z c7_0 c14_0 c14_1 c14_2z c14_2 c14_3z c14_3 c14_4z c14_4
def spec_BuildQc.f : Nat → Int → Int → Int → Int → Int → Bool → (List T) → Int → Int → Bool → (List Int) → Bool → (List Int) → Option (Int × Int × Bool × (List Int) × Bool × (List Int) × Bool × (List T) × Bool)
  | 0, _, _, _, _, _, _, _, _, _, _, _, _, _ => none
  | k + 1, a0_0, a0_1, a0_2, a0_3, a0_4, a1_0z, a1_0, a2, a3, a4z, a4, a5z, a5 => spec_BuildQc.b some (spec_BuildQc.l0 k) k a0_0 a0_1 a0_2 a0_3 a0_4 a1_0z a1_0 a2 a3 a4z a4 a5z a5
def spec_BuildQc.enc (r : Int × Int × Bool × (List Int) × Bool × (List Int) × Bool × (List T) × Bool) : Res := ⟨[.vals true [((.int .i64 r.1), true), ((.int .i64 r.2.1), true), ((.nums 5 .u8 r.2.2.1 r.2.2.2.1), true), ((.nums 5 .u8 r.2.2.2.2.1 r.2.2.2.2.2.1), true), ((.sl 22 r.2.2.2.2.2.2.1 r.2.2.2.2.2.2.2.1), true)], .vals false [((.bool r.2.2.2.2.2.2.2.2), true)]], []⟩
def spec_BuildQc.ans (k : Nat) : List Arg → Ans
  | [.v (.agg [(.int .i64 a0_0), (.int .i64 a0_1), (.int .i64 a0_2), (.int .i64 a0_3), (.int .i64 a0_4)]), .v (.agg [(.sl 44 a1_0z a1_0)]), .v (.int .i64 a2), .v (.int .i64 a3), .v (.nums 5 .u8 a4z a4), .v (.nums 5 .u8 a5z a5)] => ⟨spec_BuildQc.f k a0_0 a0_1 a0_2 a0_3 a0_4 a1_0z a1_0 a2 a3 a4z a4 a5z a5, spec_BuildQc.enc⟩
  | _ => Ans.no
def spec_BuildQc.Cs (k : Nat) : CallSem := tab [(155, spec_l01Copy.ans k), (156, spec_l23Goes.ans k), (192, spec_QcOk.ans k), (172, spec_BitsOk.ans k), (194, spec_BitsList.ans k), (166, spec_SignVote.ans k)]
def spec_BuildQc.cuts : List (Nat × Keep) := [(122, ⟨[(2, some []), (3, some []), (4, some []), (6, some []), (7, some []), (12, some []), (14, some []), (39, none), (40, some []), (41, some [])], [(6, [some [], some [], some [], some [], some []]), (7, [some []]), (12, [some [], some [], none, none, none]), (14, [some [], some [], none, none, none])]⟩)]
noncomputable def spec_BuildQc.K0 : List Fr := framesAt [true, true, true, false, true, false] (bodyOf Try.f158 spec_BuildQc.cuts) []
def spec_BuildQc.N0 (x2 x3 : Int) (x4z : Bool) (x4 : List Int) (x39z : Bool) (x39 : List Int) (x40 x41 : Int) (c6_0 c6_1 : Int) (c6_2 c6_3 c6_4 : Int) (c7_0z : Bool) (c7_0 : List T) (c14_0 c14_1 : Int) (c14_2z : Bool) (c14_2 : List Int) (c14_3z : Bool) (c14_3 : List Int) (c14_4z : Bool) (c14_4 : List T) : St := stOf 68 68 6 [(2, .val (V.s (.int .i64 x2))), (3, .val (V.s (.int .i64 x3))), (4, .val ⟨(.nums 5 .u8 x4z x4), [], false, none⟩), (6, .bp 6 0), (7, .bp 7 0), (12, .bp 12 0), (14, .bp 14 0), (39, .val ⟨(.nums 3 .i64 x39z x39), [.l 39 0], true, some (.l 39 0)⟩), (40, .val (V.s (.int .i64 x40))), (41, .val (V.s (.int .i64 x41)))] [(6, .cells [V.s (.int .i64 c6_0), V.s (.int .i64 c6_1), V.s (.int .i64 c6_2), V.s (.int .i64 c6_3), V.s (.int .i64 c6_4)]), (7, .cells [⟨(.sl 44 c7_0z c7_0), [], false, none⟩]), (12, .cells [V.s (.int .i64 0), V.s (.int .i64 0), ⟨(.nums 5 .u8 true ([] : List Int)), [.l 12 3], true, some (.l 12 3)⟩, ⟨(.nums 5 .u8 true ([] : List Int)), [.l 12 4], true, some (.l 12 4)⟩, ⟨(.sl 22 true ([] : List T)), [.l 12 5], true, some (.l 12 5)⟩]), (14, .cells [V.s (.int .i64 c14_0), V.s (.int .i64 c14_1), ⟨(.nums 5 .u8 c14_2z c14_2), [.l 14 3], true, some (.l 14 3)⟩, ⟨(.nums 5 .u8 c14_3z c14_3), [.l 14 4], true, some (.l 14 4)⟩, ⟨(.sl 22 c14_4z c14_4), [.l 14 5], true, some (.l 14 5)⟩])]
theorem spec_BuildQc.s0 (k : Nat) (G : List Fr → St → Option Res) (a0_0 a0_1 : Int) (a0_2 a0_3 a0_4 : Int) (a1_0z : Bool) (a1_0 : List T) (a2 a3 : Int) (a4z : Bool) (a4 : List Int) (a5z : Bool) (a5 : List Int) (yx2 yx3 : Int) (yx4z : Bool) (yx4 : List Int) (yx39z : Bool) (yx39 : List Int) (yx40 yx41 : Int) (yc6_0 yc6_1 : Int) (yc6_2 yc6_3 yc6_4 : Int) (yc7_0z : Bool) (yc7_0 : List T) (yc14_0 yc14_1 : Int) (yc14_2z : Bool) (yc14_2 : List Int) (yc14_3z : Bool) (yc14_3 : List Int) (yc14_4z : Bool) (yc14_4 : List T) : resume Try.prog (spec_BuildQc.Cs k) G (finish Try.prog [] Try.f158 [.v (.agg [(.int .i64 a0_0), (.int .i64 a0_1), (.int .i64 a0_2), (.int .i64 a0_3), (.int .i64 a0_4)]), .v (.agg [(.sl 44 a1_0z a1_0)]), .v (.int .i64 a2), .v (.int .i64 a3), .v (.nums 5 .u8 a4z a4), .v (.nums 5 .u8 a5z a5)]) 100000 spec_BuildQc.K0 (spec_BuildQc.N0 yx2 yx3 yx4z yx4 yx39z yx39 yx40 yx41 yc6_0 yc6_1 yc6_2 yc6_3 yc6_4 yc7_0z yc7_0 yc14_0 yc14_1 yc14_2z yc14_2 yc14_3z yc14_3 yc14_4z yc14_4) = spec_BuildQc.l0b (fun r => some (spec_BuildQc.enc r)) (fun x2 x3 x4z x4 x39z x39 x40 x41 c6_0 c6_1 c6_2 c6_3 c6_4 c7_0z c7_0 c14_0 c14_1 c14_2z c14_2 c14_3z c14_3 c14_4z c14_4 => G spec_BuildQc.K0 (spec_BuildQc.N0 x2 x3 x4z x4 x39z x39 x40 x41 c6_0 c6_1 c6_2 c6_3 c6_4 c7_0z c7_0 c14_0 c14_1 c14_2z c14_2 c14_3z c14_3 c14_4z c14_4)) k yx2 yx3 yx4z yx4 yx39z yx39 yx40 yx41 yc6_0 yc6_1 yc6_2 yc6_3 yc6_4 yc7_0z yc7_0 yc14_0 yc14_1 yc14_2z yc14_2 yc14_3z yc14_3 yc14_4z yc14_4 := by kernel_rfl
theorem spec_BuildQc.bn {R R' : Type} (e : R → R') (ret : Int × Int × Bool × (List Int) × Bool × (List Int) × Bool × (List T) × Bool → Option R) (j0 : Int → Int → Bool → (List Int) → Bool → (List Int) → Int → Int → Int → Int → Int → Int → Int → Bool → (List T) → Int → Int → Bool → (List Int) → Bool → (List Int) → Bool → (List T) → Option R) (k : Nat) (a0_0 a0_1 : Int) (a0_2 a0_3 a0_4 : Int) (a1_0z : Bool) (a1_0 : List T) (a2 a3 : Int) (a4z : Bool) (a4 : List Int) (a5z : Bool) (a5 : List Int) : spec_BuildQc.b (fun r => (ret r).map e) (fun x2 x3 x4z x4 x39z x39 x40 x41 c6_0 c6_1 c6_2 c6_3 c6_4 c7_0z c7_0 c14_0 c14_1 c14_2z c14_2 c14_3z c14_3 c14_4z c14_4 => (j0 x2 x3 x4z x4 x39z x39 x40 x41 c6_0 c6_1 c6_2 c6_3 c6_4 c7_0z c7_0 c14_0 c14_1 c14_2z c14_2 c14_3z c14_3 c14_4z c14_4).map e) k a0_0 a0_1 a0_2 a0_3 a0_4 a1_0z a1_0 a2 a3 a4z a4 a5z a5 = (spec_BuildQc.b ret j0 k a0_0 a0_1 a0_2 a0_3 a0_4 a1_0z a1_0 a2 a3 a4z a4 a5z a5).map e := by
  unfold spec_BuildQc.b
  repeat' first | with_reducible refine nat_cond ?_ ?_ | with_reducible refine nat_bind fun _ => ?_ | rfl
theorem spec_BuildQc.l0n {R R' : Type} (e : R → R') (ret : Int × Int × Bool × (List Int) × Bool × (List Int) × Bool × (List T) × Bool → Option R) (j0 : Int → Int → Bool → (List Int) → Bool → (List Int) → Int → Int → Int → Int → Int → Int → Int → Bool → (List T) → Int → Int → Bool → (List Int) → Bool → (List Int) → Bool → (List T) → Option R) (k : Nat) (x2 x3 : Int) (x4z : Bool) (x4 : List Int) (x39z : Bool) (x39 : List Int) (x40 x41 : Int) (c6_0 c6_1 : Int) (c6_2 c6_3 c6_4 : Int) (c7_0z : Bool) (c7_0 : List T) (c14_0 c14_1 : Int) (c14_2z : Bool) (c14_2 : List Int) (c14_3z : Bool) (c14_3 : List Int) (c14_4z : Bool) (c14_4 : List T) : spec_BuildQc.l0b (fun r => (ret r).map e) (fun x2 x3 x4z x4 x39z x39 x40 x41 c6_0 c6_1 c6_2 c6_3 c6_4 c7_0z c7_0 c14_0 c14_1 c14_2z c14_2 c14_3z c14_3 c14_4z c14_4 => (j0 x2 x3 x4z x4 x39z x39 x40 x41 c6_0 c6_1 c6_2 c6_3 c6_4 c7_0z c7_0 c14_0 c14_1 c14_2z c14_2 c14_3z c14_3 c14_4z c14_4).map e) k x2 x3 x4z x4 x39z x39 x40 x41 c6_0 c6_1 c6_2 c6_3 c6_4 c7_0z c7_0 c14_0 c14_1 c14_2z c14_2 c14_3z c14_3 c14_4z c14_4 = (spec_BuildQc.l0b ret j0 k x2 x3 x4z x4 x39z x39 x40 x41 c6_0 c6_1 c6_2 c6_3 c6_4 c7_0z c7_0 c14_0 c14_1 c14_2z c14_2 c14_3z c14_3 c14_4z c14_4).map e := by
  unfold spec_BuildQc.l0b
  repeat' first | with_reducible refine nat_cond ?_ ?_ | with_reducible refine nat_bind fun _ => ?_ | rfl
theorem spec_BuildQc.rq (a0_0 a0_1 : Int) (a0_2 a0_3 a0_4 : Int) (a1_0z : Bool) (a1_0 : List T) (a2 a3 : Int) (a4z : Bool) (a4 : List Int) (a5z : Bool) (a5 : List Int) : ∀ k, (∀ (x2 x3 : Int) (x4z : Bool) (x4 : List Int) (x39z : Bool) (x39 : List Int) (x40 x41 : Int) (c6_0 c6_1 : Int) (c6_2 c6_3 c6_4 : Int) (c7_0z : Bool) (c7_0 : List T) (c14_0 c14_1 : Int) (c14_2z : Bool) (c14_2 : List Int) (c14_3z : Bool) (c14_3 : List Int) (c14_4z : Bool) (c14_4 : List T), rounds Try.prog spec_BuildQc.Cs (finish Try.prog [] Try.f158 [.v (.agg [(.int .i64 a0_0), (.int .i64 a0_1), (.int .i64 a0_2), (.int .i64 a0_3), (.int .i64 a0_4)]), .v (.agg [(.sl 44 a1_0z a1_0)]), .v (.int .i64 a2), .v (.int .i64 a3), .v (.nums 5 .u8 a4z a4), .v (.nums 5 .u8 a5z a5)]) 100000 k spec_BuildQc.K0 (spec_BuildQc.N0 x2 x3 x4z x4 x39z x39 x40 x41 c6_0 c6_1 c6_2 c6_3 c6_4 c7_0z c7_0 c14_0 c14_1 c14_2z c14_2 c14_3z c14_3 c14_4z c14_4) = (spec_BuildQc.l0 k x2 x3 x4z x4 x39z x39 x40 x41 c6_0 c6_1 c6_2 c6_3 c6_4 c7_0z c7_0 c14_0 c14_1 c14_2z c14_2 c14_3z c14_3 c14_4z c14_4).map spec_BuildQc.enc)
  | 0 => fun _ _ _ _ _ _ _ _ _ _ _ _ _ _ _ _ _ _ _ _ _ _ _ => rfl
  | k + 1 => by
    have ih := spec_BuildQc.rq a0_0 a0_1 a0_2 a0_3 a0_4 a1_0z a1_0 a2 a3 a4z a4 a5z a5 k
    refine fun _ _ _ _ _ _ _ _ _ _ _ _ _ _ _ _ _ _ _ _ _ _ _ => ?_
    · refine (spec_BuildQc.s0 k _ a0_0 a0_1 a0_2 a0_3 a0_4 a1_0z a1_0 a2 a3 a4z a4 a5z a5 _ _ _ _ _ _ _ _ _ _ _ _ _ _ _ _ _ _ _ _ _ _ _).trans (Eq.trans ?_ (spec_BuildQc.l0n spec_BuildQc.enc some (spec_BuildQc.l0 k) k _ _ _ _ _ _ _ _ _ _ _ _ _ _ _ _ _ _ _ _ _ _ _))
      simp only [ih, Option.map_some]
theorem spec_BuildQc.eq (k : Nat) (a0_0 a0_1 : Int) (a0_2 a0_3 a0_4 : Int) (a1_0z : Bool) (a1_0 : List T) (a2 a3 : Int) (a4z : Bool) (a4 : List Int) (a5z : Bool) (a5 : List Int) : answer Try.prog spec_BuildQc.Cs 100000 spec_BuildQc.cuts [] Try.f158 (k + 1) [.v (.agg [(.int .i64 a0_0), (.int .i64 a0_1), (.int .i64 a0_2), (.int .i64 a0_3), (.int .i64 a0_4)]), .v (.agg [(.sl 44 a1_0z a1_0)]), .v (.int .i64 a2), .v (.int .i64 a3), .v (.nums 5 .u8 a4z a4), .v (.nums 5 .u8 a5z a5)] = (spec_BuildQc.f (k + 1) a0_0 a0_1 a0_2 a0_3 a0_4 a1_0z a1_0 a2 a3 a4z a4 a5z a5).map spec_BuildQc.enc := by
  have ih := spec_BuildQc.rq a0_0 a0_1 a0_2 a0_3 a0_4 a1_0z a1_0 a2 a3 a4z a4 a5z a5 k
  refine Eq.trans (b := spec_BuildQc.b (fun r => some (spec_BuildQc.enc r)) (fun x2 x3 x4z x4 x39z x39 x40 x41 c6_0 c6_1 c6_2 c6_3 c6_4 c7_0z c7_0 c14_0 c14_1 c14_2z c14_2 c14_3z c14_3 c14_4z c14_4 => rounds Try.prog spec_BuildQc.Cs (finish Try.prog [] Try.f158 [.v (.agg [(.int .i64 a0_0), (.int .i64 a0_1), (.int .i64 a0_2), (.int .i64 a0_3), (.int .i64 a0_4)]), .v (.agg [(.sl 44 a1_0z a1_0)]), .v (.int .i64 a2), .v (.int .i64 a3), .v (.nums 5 .u8 a4z a4), .v (.nums 5 .u8 a5z a5)]) 100000 k spec_BuildQc.K0 (spec_BuildQc.N0 x2 x3 x4z x4 x39z x39 x40 x41 c6_0 c6_1 c6_2 c6_3 c6_4 c7_0z c7_0 c14_0 c14_1 c14_2z c14_2 c14_3z c14_3 c14_4z c14_4)) k a0_0 a0_1 a0_2 a0_3 a0_4 a1_0z a1_0 a2 a3 a4z a4 a5z a5) (by kernel_rfl) (Eq.trans ?_ (spec_BuildQc.bn spec_BuildQc.enc some (spec_BuildQc.l0 k) k a0_0 a0_1 a0_2 a0_3 a0_4 a1_0z a1_0 a2 a3 a4z a4 a5z a5))
  simp only [ih, Option.map_some]
theorem spec_BuildQc.sound (k : Nat) : SoundF Try.prog 158 (fun a => (spec_BuildQc.ans k a).val) := by
  refine sound_plain (fun args res h => ?_) (fun t n => rfl)
  unfold spec_BuildQc.ans at h
  dsimp only at h
  split at h
  · cases k with
    | zero => cases h
    | succ k =>
      unfold Ans.val at h
      rw [← spec_BuildQc.eq] at h
      exact answer_sound mixed Try.func158 _ _ _ (k + 1) (fun j _ => tab_sound (tab_cons (spec_l01Copy.sound j) (tab_cons (spec_l23Goes.sound j) (tab_cons (spec_QcOk.sound j) (tab_cons (spec_BitsOk.sound j) (tab_cons (spec_BitsList.sound j) (tab_cons (spec_SignVote.sound j) (tab_nil)))))))) _ _ h
  · exact (Ans.no_val h).elim

end Go.Proofs.YtbpcnodmgphinaaG
