/- What the functions compute, printed by a program of this repo; each is shown to be what the machine of values answers. No condition. -/
import Derived.Test.YtbpcnodmgphinaaGreatProg
import Derived.KernelRfl
import Derived.Test.YtbpcnodmgphinaaGreatGFnExactGatherb
namespace Go.Proofs.YtbpcnodmgphinaaGreatG
open Go Go.Proofs.YtbpcnodmgphinaaGreatRv Go.Proofs Go.RowKit
set_option linter.unusedVariables false
set_option linter.unusedSimpArgs false
def spec_WeightOf.b {R : Type} (ret : Int → Option R) (j0 : Bool → (List Int) → Int → Bool → (List T) → Int → Int → Option R) (k : Nat) (a0_0z : Bool) (a0_0 : List T) (a1z : Bool) (a1 : List Int) : Option R :=
  (spec_TableOk.f k a0_0z a0_0).bind fun t0 => cond (!t0) (ret 0) ((spec_BitsOk.f k a1z a1 ((a0_0).length : Int)).bind fun t1 => cond (!t1) (ret 0) (j0 a1z a1 0 a0_0z a0_0 ((a0_0).length : Int) 0))
def spec_WeightOf.l0b {R : Type} (ret : Int → Option R) (j0 : Bool → (List Int) → Int → Bool → (List T) → Int → Int → Option R) (k : Nat) (x1z : Bool) (x1 : List Int) (x5 : Int) (x20z : Bool) (x20 : List T) (x21 x22 : Int) : Option R :=
  cond (decide (x22 < x21)) (cond (decide (0 ≤ x22)) (cond (decide (x22 < ((x20).length : Int))) ((spec_BitsHas.f k x1z x1 x22).bind fun t0 => cond t0 (j0 x1z x1 (wrap64 (x5 + ((((x20).getD (x22).toNat .bad).cells.getD 0 .bad)).toInt)) x20z x20 x21 (wrap64 (x22 + 1))) (j0 x1z x1 x5 x20z x20 x21 (wrap64 (x22 + 1)))) (none)) (none)) (ret x5)
def spec_WeightOf.l0 : Nat → Bool → (List Int) → Int → Bool → (List T) → Int → Int → Option Int
  | 0, _, _, _, _, _, _, _ => none
  | k + 1, x1z, x1, x5, x20z, x20, x21, x22 => spec_WeightOf.l0b some (spec_WeightOf.l0 k) k x1z x1 x5 x20z x20 x21 x22
def spec_WeightOf.f : Nat → Bool → (List T) → Bool → (List Int) → Option Int
  | 0, _, _, _, _ => none
  | k + 1, a0_0z, a0_0, a1z, a1 => spec_WeightOf.b some (spec_WeightOf.l0 k) k a0_0z a0_0 a1z a1
def spec_WeightOf.enc (r : Int) : Res := ⟨[.vals false [((.int .i64 r), true)]], []⟩
def spec_WeightOf.ans (k : Nat) : List Arg → Ans
  | [.v (.agg [(.sl 85 a0_0z a0_0)]), .v (.nums 5 .u8 a1z a1)] => ⟨spec_WeightOf.f k a0_0z a0_0 a1z a1, spec_WeightOf.enc⟩
  | _ => Ans.no
def spec_WeightOf.Cs (k : Nat) : CallSem := tab [(48, spec_TableOk.ans k), (76, spec_BitsOk.ans k), (95, spec_BitsHas.ans k)]
def spec_WeightOf.cuts : List (Nat × Keep) := [(122, ⟨[(1, some []), (5, some []), (20, some []), (21, some []), (22, some [])], []⟩)]
noncomputable def spec_WeightOf.K0 : List Fr := framesAt [true, true, true, false, true, false] (bodyOf Tryz.f79 spec_WeightOf.cuts) []
def spec_WeightOf.N0 (x1z : Bool) (x1 : List Int) (x5 : Int) (x20z : Bool) (x20 : List T) (x21 x22 : Int) : St := stOf 36 36 2 [(1, .val ⟨(.nums 5 .u8 x1z x1), [], false, none⟩), (5, .val (V.s (.int .i64 x5))), (20, .val ⟨(.sl 85 x20z x20), [], false, none⟩), (21, .val (V.s (.int .i64 x21))), (22, .val (V.s (.int .i64 x22)))] []
theorem spec_WeightOf.s0 (k : Nat) (G : List Fr → St → Option Res) (a0_0z : Bool) (a0_0 : List T) (a1z : Bool) (a1 : List Int) (yx1z : Bool) (yx1 : List Int) (yx5 : Int) (yx20z : Bool) (yx20 : List T) (yx21 yx22 : Int) : resume Tryz.prog (spec_WeightOf.Cs k) G (finish Tryz.prog [] Tryz.f79 [.v (.agg [(.sl 85 a0_0z a0_0)]), .v (.nums 5 .u8 a1z a1)]) 100000 spec_WeightOf.K0 (spec_WeightOf.N0 yx1z yx1 yx5 yx20z yx20 yx21 yx22) = spec_WeightOf.l0b (fun r => some (spec_WeightOf.enc r)) (fun x1z x1 x5 x20z x20 x21 x22 => G spec_WeightOf.K0 (spec_WeightOf.N0 x1z x1 x5 x20z x20 x21 x22)) k yx1z yx1 yx5 yx20z yx20 yx21 yx22 := by kernel_rfl
theorem spec_WeightOf.bn {R R' : Type} (e : R → R') (ret : Int → Option R) (j0 : Bool → (List Int) → Int → Bool → (List T) → Int → Int → Option R) (k : Nat) (a0_0z : Bool) (a0_0 : List T) (a1z : Bool) (a1 : List Int) : spec_WeightOf.b (fun r => (ret r).map e) (fun x1z x1 x5 x20z x20 x21 x22 => (j0 x1z x1 x5 x20z x20 x21 x22).map e) k a0_0z a0_0 a1z a1 = (spec_WeightOf.b ret j0 k a0_0z a0_0 a1z a1).map e := by
  unfold spec_WeightOf.b
  repeat' first | with_reducible refine nat_cond ?_ ?_ | with_reducible refine nat_bind fun _ => ?_ | rfl
theorem spec_WeightOf.l0n {R R' : Type} (e : R → R') (ret : Int → Option R) (j0 : Bool → (List Int) → Int → Bool → (List T) → Int → Int → Option R) (k : Nat) (x1z : Bool) (x1 : List Int) (x5 : Int) (x20z : Bool) (x20 : List T) (x21 x22 : Int) : spec_WeightOf.l0b (fun r => (ret r).map e) (fun x1z x1 x5 x20z x20 x21 x22 => (j0 x1z x1 x5 x20z x20 x21 x22).map e) k x1z x1 x5 x20z x20 x21 x22 = (spec_WeightOf.l0b ret j0 k x1z x1 x5 x20z x20 x21 x22).map e := by
  unfold spec_WeightOf.l0b
  repeat' first | with_reducible refine nat_cond ?_ ?_ | with_reducible refine nat_bind fun _ => ?_ | rfl
theorem spec_WeightOf.rq (a0_0z : Bool) (a0_0 : List T) (a1z : Bool) (a1 : List Int) : ∀ k, (∀ (x1z : Bool) (x1 : List Int) (x5 : Int) (x20z : Bool) (x20 : List T) (x21 x22 : Int), rounds Tryz.prog spec_WeightOf.Cs (finish Tryz.prog [] Tryz.f79 [.v (.agg [(.sl 85 a0_0z a0_0)]), .v (.nums 5 .u8 a1z a1)]) 100000 k spec_WeightOf.K0 (spec_WeightOf.N0 x1z x1 x5 x20z x20 x21 x22) = (spec_WeightOf.l0 k x1z x1 x5 x20z x20 x21 x22).map spec_WeightOf.enc)
  | 0 => fun _ _ _ _ _ _ _ => rfl
  | k + 1 => by
    have ih := spec_WeightOf.rq a0_0z a0_0 a1z a1 k
    refine fun _ _ _ _ _ _ _ => ?_
    · refine (spec_WeightOf.s0 k _ a0_0z a0_0 a1z a1 _ _ _ _ _ _ _).trans (Eq.trans ?_ (spec_WeightOf.l0n spec_WeightOf.enc some (spec_WeightOf.l0 k) k _ _ _ _ _ _ _))
      simp only [ih, Option.map_some]
theorem spec_WeightOf.eq (k : Nat) (a0_0z : Bool) (a0_0 : List T) (a1z : Bool) (a1 : List Int) : answer Tryz.prog spec_WeightOf.Cs 100000 spec_WeightOf.cuts [] Tryz.f79 (k + 1) [.v (.agg [(.sl 85 a0_0z a0_0)]), .v (.nums 5 .u8 a1z a1)] = (spec_WeightOf.f (k + 1) a0_0z a0_0 a1z a1).map spec_WeightOf.enc := by
  have ih := spec_WeightOf.rq a0_0z a0_0 a1z a1 k
  refine Eq.trans (b := spec_WeightOf.b (fun r => some (spec_WeightOf.enc r)) (fun x1z x1 x5 x20z x20 x21 x22 => rounds Tryz.prog spec_WeightOf.Cs (finish Tryz.prog [] Tryz.f79 [.v (.agg [(.sl 85 a0_0z a0_0)]), .v (.nums 5 .u8 a1z a1)]) 100000 k spec_WeightOf.K0 (spec_WeightOf.N0 x1z x1 x5 x20z x20 x21 x22)) k a0_0z a0_0 a1z a1) (by kernel_rfl) (Eq.trans ?_ (spec_WeightOf.bn spec_WeightOf.enc some (spec_WeightOf.l0 k) k a0_0z a0_0 a1z a1))
  simp only [ih, Option.map_some]
theorem spec_WeightOf.sound (k : Nat) : SoundF Tryz.prog 79 (fun a => (spec_WeightOf.ans k a).val) := by
  refine sound_plain (fun args res h => ?_) (fun t n => rfl)
  unfold spec_WeightOf.ans at h
  dsimp only at h
  split at h
  · cases k with
    | zero => cases h
    | succ k =>
      unfold Ans.val at h
      rw [← spec_WeightOf.eq] at h
      exact answer_sound mixed Tryz.func79 _ _ _ (k + 1) (fun j _ => tab_sound (tab_cons (spec_TableOk.sound j) (tab_cons (spec_BitsOk.sound j) (tab_cons (spec_BitsHas.sound j) (tab_nil))))) _ _ h
  · exact (Ans.no_val h).elim

def spec_TotalOf.b {R : Type} (ret : Int → Option R) (j0 : Int → Bool → (List T) → Int → Int → Option R) (k : Nat) (a0_0z : Bool) (a0_0 : List T) : Option R :=
  (spec_TableOk.f k a0_0z a0_0).bind fun t0 => cond (!t0) (ret 0) (j0 0 a0_0z a0_0 ((a0_0).length : Int) 0)
def spec_TotalOf.l0b {R : Type} (ret : Int → Option R) (j0 : Int → Bool → (List T) → Int → Int → Option R) (k : Nat) (x3 : Int) (x10z : Bool) (x10 : List T) (x11 x12 : Int) : Option R :=
  cond (decide (x12 < x11)) (cond (decide (0 ≤ x12)) (cond (decide (x12 < ((x10).length : Int))) (j0 (wrap64 (x3 + ((((x10).getD (x12).toNat .bad).cells.getD 0 .bad)).toInt)) x10z x10 x11 (wrap64 (x12 + 1))) (none)) (none)) (ret x3)
def spec_TotalOf.l0 : Nat → Int → Bool → (List T) → Int → Int → Option Int
  | 0, _, _, _, _, _ => none
  | k + 1, x3, x10z, x10, x11, x12 => spec_TotalOf.l0b some (spec_TotalOf.l0 k) k x3 x10z x10 x11 x12
def spec_TotalOf.f : Nat → Bool → (List T) → Option Int
  | 0, _, _ => none
  | k + 1, a0_0z, a0_0 => spec_TotalOf.b some (spec_TotalOf.l0 k) k a0_0z a0_0
def spec_TotalOf.enc (r : Int) : Res := ⟨[.vals false [((.int .i64 r), true)]], []⟩
def spec_TotalOf.ans (k : Nat) : List Arg → Ans
  | [.v (.agg [(.sl 85 a0_0z a0_0)])] => ⟨spec_TotalOf.f k a0_0z a0_0, spec_TotalOf.enc⟩
  | _ => Ans.no
def spec_TotalOf.Cs (k : Nat) : CallSem := tab [(48, spec_TableOk.ans k)]
def spec_TotalOf.cuts : List (Nat × Keep) := [(122, ⟨[(3, some []), (10, some []), (11, some []), (12, some [])], []⟩)]
noncomputable def spec_TotalOf.K0 : List Fr := framesAt [true, true, true, false, true, false] (bodyOf Tryz.f80 spec_TotalOf.cuts) []
def spec_TotalOf.N0 (x3 : Int) (x10z : Bool) (x10 : List T) (x11 x12 : Int) : St := stOf 22 22 1 [(3, .val (V.s (.int .i64 x3))), (10, .val ⟨(.sl 85 x10z x10), [], false, none⟩), (11, .val (V.s (.int .i64 x11))), (12, .val (V.s (.int .i64 x12)))] []
theorem spec_TotalOf.s0 (k : Nat) (G : List Fr → St → Option Res) (a0_0z : Bool) (a0_0 : List T) (yx3 : Int) (yx10z : Bool) (yx10 : List T) (yx11 yx12 : Int) : resume Tryz.prog (spec_TotalOf.Cs k) G (finish Tryz.prog [] Tryz.f80 [.v (.agg [(.sl 85 a0_0z a0_0)])]) 100000 spec_TotalOf.K0 (spec_TotalOf.N0 yx3 yx10z yx10 yx11 yx12) = spec_TotalOf.l0b (fun r => some (spec_TotalOf.enc r)) (fun x3 x10z x10 x11 x12 => G spec_TotalOf.K0 (spec_TotalOf.N0 x3 x10z x10 x11 x12)) k yx3 yx10z yx10 yx11 yx12 := by kernel_rfl
theorem spec_TotalOf.bn {R R' : Type} (e : R → R') (ret : Int → Option R) (j0 : Int → Bool → (List T) → Int → Int → Option R) (k : Nat) (a0_0z : Bool) (a0_0 : List T) : spec_TotalOf.b (fun r => (ret r).map e) (fun x3 x10z x10 x11 x12 => (j0 x3 x10z x10 x11 x12).map e) k a0_0z a0_0 = (spec_TotalOf.b ret j0 k a0_0z a0_0).map e := by
  unfold spec_TotalOf.b
  repeat' first | with_reducible refine nat_cond ?_ ?_ | with_reducible refine nat_bind fun _ => ?_ | rfl
theorem spec_TotalOf.l0n {R R' : Type} (e : R → R') (ret : Int → Option R) (j0 : Int → Bool → (List T) → Int → Int → Option R) (k : Nat) (x3 : Int) (x10z : Bool) (x10 : List T) (x11 x12 : Int) : spec_TotalOf.l0b (fun r => (ret r).map e) (fun x3 x10z x10 x11 x12 => (j0 x3 x10z x10 x11 x12).map e) k x3 x10z x10 x11 x12 = (spec_TotalOf.l0b ret j0 k x3 x10z x10 x11 x12).map e := by
  unfold spec_TotalOf.l0b
  repeat' first | with_reducible refine nat_cond ?_ ?_ | with_reducible refine nat_bind fun _ => ?_ | rfl
theorem spec_TotalOf.rq (a0_0z : Bool) (a0_0 : List T) : ∀ k, (∀ (x3 : Int) (x10z : Bool) (x10 : List T) (x11 x12 : Int), rounds Tryz.prog spec_TotalOf.Cs (finish Tryz.prog [] Tryz.f80 [.v (.agg [(.sl 85 a0_0z a0_0)])]) 100000 k spec_TotalOf.K0 (spec_TotalOf.N0 x3 x10z x10 x11 x12) = (spec_TotalOf.l0 k x3 x10z x10 x11 x12).map spec_TotalOf.enc)
  | 0 => fun _ _ _ _ _ => rfl
  | k + 1 => by
    have ih := spec_TotalOf.rq a0_0z a0_0 k
    refine fun _ _ _ _ _ => ?_
    · refine (spec_TotalOf.s0 k _ a0_0z a0_0 _ _ _ _ _).trans (Eq.trans ?_ (spec_TotalOf.l0n spec_TotalOf.enc some (spec_TotalOf.l0 k) k _ _ _ _ _))
      simp only [ih, Option.map_some]
theorem spec_TotalOf.eq (k : Nat) (a0_0z : Bool) (a0_0 : List T) : answer Tryz.prog spec_TotalOf.Cs 100000 spec_TotalOf.cuts [] Tryz.f80 (k + 1) [.v (.agg [(.sl 85 a0_0z a0_0)])] = (spec_TotalOf.f (k + 1) a0_0z a0_0).map spec_TotalOf.enc := by
  have ih := spec_TotalOf.rq a0_0z a0_0 k
  refine Eq.trans (b := spec_TotalOf.b (fun r => some (spec_TotalOf.enc r)) (fun x3 x10z x10 x11 x12 => rounds Tryz.prog spec_TotalOf.Cs (finish Tryz.prog [] Tryz.f80 [.v (.agg [(.sl 85 a0_0z a0_0)])]) 100000 k spec_TotalOf.K0 (spec_TotalOf.N0 x3 x10z x10 x11 x12)) k a0_0z a0_0) (by kernel_rfl) (Eq.trans ?_ (spec_TotalOf.bn spec_TotalOf.enc some (spec_TotalOf.l0 k) k a0_0z a0_0))
  simp only [ih, Option.map_some]
theorem spec_TotalOf.sound (k : Nat) : SoundF Tryz.prog 80 (fun a => (spec_TotalOf.ans k a).val) := by
  refine sound_plain (fun args res h => ?_) (fun t n => rfl)
  unfold spec_TotalOf.ans at h
  dsimp only at h
  split at h
  · cases k with
    | zero => cases h
    | succ k =>
      unfold Ans.val at h
      rw [← spec_TotalOf.eq] at h
      exact answer_sound mixed Tryz.func80 _ _ _ (k + 1) (fun j _ => tab_sound (tab_cons (spec_TableOk.sound j) (tab_nil))) _ _ h
  · exact (Ans.no_val h).elim

def spec_IsQuorum.b {R : Type} (ret : Bool → Option R) (k : Nat) (a0_0z : Bool) (a0_0 : List T) (a1z : Bool) (a1 : List Int) : Option R :=
  (spec_TableOk.f k a0_0z a0_0).bind fun t0 => cond t0 ((spec_WeightOf.f k a0_0z a0_0 a1z a1).bind fun t1 => (spec_TotalOf.f k a0_0z a0_0).bind fun t2 => ret (decide ((wrap64 ((3 : Int) * t1)) > (wrap64 ((2 : Int) * t2))))) (ret false)
def spec_IsQuorum.f : Nat → Bool → (List T) → Bool → (List Int) → Option Bool
  | 0, _, _, _, _ => none
  | k + 1, a0_0z, a0_0, a1z, a1 => spec_IsQuorum.b some k a0_0z a0_0 a1z a1
def spec_IsQuorum.enc (r : Bool) : Res := ⟨[.vals false [((.bool r), true)]], []⟩
def spec_IsQuorum.ans (k : Nat) : List Arg → Ans
  | [.v (.agg [(.sl 85 a0_0z a0_0)]), .v (.nums 5 .u8 a1z a1)] => ⟨spec_IsQuorum.f k a0_0z a0_0 a1z a1, spec_IsQuorum.enc⟩
  | _ => Ans.no
def spec_IsQuorum.Cs (k : Nat) : CallSem := tab [(48, spec_TableOk.ans k), (79, spec_WeightOf.ans k), (80, spec_TotalOf.ans k)]
theorem spec_IsQuorum.eq (k : Nat) (a0_0z : Bool) (a0_0 : List T) (a1z : Bool) (a1 : List Int) : answer Tryz.prog spec_IsQuorum.Cs 100000 [] [] Tryz.f55 (k + 1) [.v (.agg [(.sl 85 a0_0z a0_0)]), .v (.nums 5 .u8 a1z a1)] = (spec_IsQuorum.f (k + 1) a0_0z a0_0 a1z a1).map spec_IsQuorum.enc := by
  refine Eq.trans (b := spec_IsQuorum.b (fun r => some (spec_IsQuorum.enc r)) k a0_0z a0_0 a1z a1) (by kernel_rfl) ?_
  show _ = (spec_IsQuorum.b some k a0_0z a0_0 a1z a1).map spec_IsQuorum.enc
  unfold spec_IsQuorum.b
  repeat' first | with_reducible refine nat_cond ?_ ?_ | with_reducible refine nat_bind fun _ => ?_ | rfl
theorem spec_IsQuorum.sound (k : Nat) : SoundF Tryz.prog 55 (fun a => (spec_IsQuorum.ans k a).val) := by
  refine sound_plain (fun args res h => ?_) (fun t n => rfl)
  unfold spec_IsQuorum.ans at h
  dsimp only at h
  split at h
  · cases k with
    | zero => cases h
    | succ k =>
      unfold Ans.val at h
      rw [← spec_IsQuorum.eq] at h
      exact answer_sound mixed Tryz.func55 _ _ _ (k + 1) (fun j _ => tab_sound (tab_cons (spec_TableOk.sound j) (tab_cons (spec_WeightOf.sound j) (tab_cons (spec_TotalOf.sound j) (tab_nil))))) _ _ h
  · exact (Ans.no_val h).elim

def spec_QcCode.b {R : Type} (ret : Int → Option R) (j0 : Bool → (List T) → Int → Int → Bool → (List T) → Int → Int → Bool → (List Int) → Bool → (List Int) → Bool → (List T) → Option R) (k : Nat) (a0_0 a0_1 : Int) (a0_2 a0_3 a0_4 : Int) (a1_0z : Bool) (a1_0 : List T) (a2_0 a2_1 : Int) (a2_2z : Bool) (a2_2 : List Int) (a2_3z : Bool) (a2_3 : List Int) (a2_4z : Bool) (a2_4 : List T) : Option R :=
  (spec_l23Goes.f k a0_0 a0_1 a0_2 a0_3 a0_4 a1_0z a1_0).bind fun t0 => cond (!t0) (ret 1) ((spec_QcOk.f k a0_0 a0_1 a0_2 a0_3 a0_4 a2_0 a2_1 a2_2z a2_2 a2_3z a2_3 a2_4z a2_4).bind fun t1 => cond (!t1) (ret 1) ((spec_QcVotes.f k a2_0 a2_1 a2_2z a2_2 a2_3z a2_3 a2_4z a2_4).bind fun t2 => j0 t2.1 t2.2 ((t2.2).length : Int) 0 a1_0z a1_0 a2_0 a2_1 a2_2z a2_2 a2_3z a2_3 a2_4z a2_4))
def spec_QcCode.l0b {R : Type} (ret : Int → Option R) (j0 : Bool → (List T) → Int → Int → Bool → (List T) → Int → Int → Bool → (List Int) → Bool → (List Int) → Bool → (List T) → Option R) (k : Nat) (x20z : Bool) (x20 : List T) (x21 x22 : Int) (c4_0z : Bool) (c4_0 : List T) (c5_0 c5_1 : Int) (c5_2z : Bool) (c5_2 : List Int) (c5_3z : Bool) (c5_3 : List Int) (c5_4z : Bool) (c5_4 : List T) : Option R :=
  cond (decide (x22 < x21)) (cond (decide (0 ≤ x22)) (cond (decide (x22 < ((x20).length : Int))) ((spec_VoteGood.f k c4_0z c4_0 (((((x20).getD (x22).toNat .bad).cells.getD 0 .bad)).toInt) (((((x20).getD (x22).toNat .bad).cells.getD 1 .bad)).toInt) (((((x20).getD (x22).toNat .bad).cells.getD 2 .bad)).isNil) (((((x20).getD (x22).toNat .bad).cells.getD 2 .bad)).toNums) (((((x20).getD (x22).toNat .bad).cells.getD 3 .bad)).toInt) (((((x20).getD (x22).toNat .bad).cells.getD 4 .bad)).isNil) (((((x20).getD (x22).toNat .bad).cells.getD 4 .bad)).toNums)).bind fun t0 => cond (!t0) (ret 2) (j0 x20z x20 x21 (wrap64 (x22 + 1)) c4_0z c4_0 c5_0 c5_1 c5_2z c5_2 c5_3z c5_3 c5_4z c5_4)) (none)) (none)) ((spec_IsQuorum.f k c4_0z c4_0 c5_3z c5_3).bind fun t0 => cond (!t0) (ret 3) (ret 0))
def spec_QcCode.l0 : Nat → Bool → (List T) → Int → Int → Bool → (List T) → Int → Int → Bool → (List Int) → Bool → (List Int) → Bool → (List T) → Option Int
  | 0, _, _, _, _, _, _, _, _, _, _, _, _, _, _ => none
  | k + 1, x20z, x20, x21, x22, c4_0z, c4_0, c5_0, c5_1, c5_2z, c5_2, c5_3z, c5_3, c5_4z, c5_4 => spec_QcCode.l0b some (spec_QcCode.l0 k) k x20z x20 x21 x22 c4_0z c4_0 c5_0 c5_1 c5_2z c5_2 c5_3z c5_3 c5_4z c5_4
def spec_QcCode.f : Nat → Int → Int → Int → Int → Int → Bool → (List T) → Int → Int → Bool → (List Int) → Bool → (List Int) → Bool → (List T) → Option Int
  | 0, _, _, _, _, _, _, _, _, _, _, _, _, _, _, _ => none
  | k + 1, a0_0, a0_1, a0_2, a0_3, a0_4, a1_0z, a1_0, a2_0, a2_1, a2_2z, a2_2, a2_3z, a2_3, a2_4z, a2_4 => spec_QcCode.b some (spec_QcCode.l0 k) k a0_0 a0_1 a0_2 a0_3 a0_4 a1_0z a1_0 a2_0 a2_1 a2_2z a2_2 a2_3z a2_3 a2_4z a2_4
def spec_QcCode.enc (r : Int) : Res := ⟨[.vals false [((.int .i64 r), true)]], []⟩
def spec_QcCode.ans (k : Nat) : List Arg → Ans
  | [.v (.agg [(.int .i64 a0_0), (.int .i64 a0_1), (.int .i64 a0_2), (.int .i64 a0_3), (.int .i64 a0_4)]), .v (.agg [(.sl 85 a1_0z a1_0)]), .v (.agg [(.int .i64 a2_0), (.int .i64 a2_1), (.nums 5 .u8 a2_2z a2_2), (.nums 5 .u8 a2_3z a2_3), (.sl 28 a2_4z a2_4)])] => ⟨spec_QcCode.f k a0_0 a0_1 a0_2 a0_3 a0_4 a1_0z a1_0 a2_0 a2_1 a2_2z a2_2 a2_3z a2_3 a2_4z a2_4, spec_QcCode.enc⟩
  | _ => Ans.no
def spec_QcCode.Cs (k : Nat) : CallSem := tab [(23, spec_l23Goes.ans k), (53, spec_QcVotes.ans k), (54, spec_QcOk.ans k), (25, spec_VoteGood.ans k), (55, spec_IsQuorum.ans k)]
def spec_QcCode.cuts : List (Nat × Keep) := [(58, ⟨[(4, some []), (5, some []), (20, none), (21, some []), (22, some [])], [(4, [some []]), (5, [some [], some [], some [], some [], some []])]⟩)]
noncomputable def spec_QcCode.K0 : List Fr := framesAt [true, true, false, true, false] (bodyOf Tryz.f27 spec_QcCode.cuts) []
def spec_QcCode.N0 (x20z : Bool) (x20 : List T) (x21 x22 : Int) (c4_0z : Bool) (c4_0 : List T) (c5_0 c5_1 : Int) (c5_2z : Bool) (c5_2 : List Int) (c5_3z : Bool) (c5_3 : List Int) (c5_4z : Bool) (c5_4 : List T) : St := stOf 36 36 3 [(4, .bp 4 0), (5, .bp 5 0), (20, .val ⟨(.sl 59 x20z x20), [.l 20 0], true, some (.l 20 0)⟩), (21, .val (V.s (.int .i64 x21))), (22, .val (V.s (.int .i64 x22)))] [(4, .cells [⟨(.sl 85 c4_0z c4_0), [], false, none⟩]), (5, .cells [V.s (.int .i64 c5_0), V.s (.int .i64 c5_1), ⟨(.nums 5 .u8 c5_2z c5_2), [], false, none⟩, ⟨(.nums 5 .u8 c5_3z c5_3), [], false, none⟩, ⟨(.sl 28 c5_4z c5_4), [], false, none⟩])]
theorem spec_QcCode.s0 (k : Nat) (G : List Fr → St → Option Res) (a0_0 a0_1 : Int) (a0_2 a0_3 a0_4 : Int) (a1_0z : Bool) (a1_0 : List T) (a2_0 a2_1 : Int) (a2_2z : Bool) (a2_2 : List Int) (a2_3z : Bool) (a2_3 : List Int) (a2_4z : Bool) (a2_4 : List T) (yx20z : Bool) (yx20 : List T) (yx21 yx22 : Int) (yc4_0z : Bool) (yc4_0 : List T) (yc5_0 yc5_1 : Int) (yc5_2z : Bool) (yc5_2 : List Int) (yc5_3z : Bool) (yc5_3 : List Int) (yc5_4z : Bool) (yc5_4 : List T) : resume Tryz.prog (spec_QcCode.Cs k) G (finish Tryz.prog [] Tryz.f27 [.v (.agg [(.int .i64 a0_0), (.int .i64 a0_1), (.int .i64 a0_2), (.int .i64 a0_3), (.int .i64 a0_4)]), .v (.agg [(.sl 85 a1_0z a1_0)]), .v (.agg [(.int .i64 a2_0), (.int .i64 a2_1), (.nums 5 .u8 a2_2z a2_2), (.nums 5 .u8 a2_3z a2_3), (.sl 28 a2_4z a2_4)])]) 100000 spec_QcCode.K0 (spec_QcCode.N0 yx20z yx20 yx21 yx22 yc4_0z yc4_0 yc5_0 yc5_1 yc5_2z yc5_2 yc5_3z yc5_3 yc5_4z yc5_4) = spec_QcCode.l0b (fun r => some (spec_QcCode.enc r)) (fun x20z x20 x21 x22 c4_0z c4_0 c5_0 c5_1 c5_2z c5_2 c5_3z c5_3 c5_4z c5_4 => G spec_QcCode.K0 (spec_QcCode.N0 x20z x20 x21 x22 c4_0z c4_0 c5_0 c5_1 c5_2z c5_2 c5_3z c5_3 c5_4z c5_4)) k yx20z yx20 yx21 yx22 yc4_0z yc4_0 yc5_0 yc5_1 yc5_2z yc5_2 yc5_3z yc5_3 yc5_4z yc5_4 := by kernel_rfl
theorem spec_QcCode.bn {R R' : Type} (e : R → R') (ret : Int → Option R) (j0 : Bool → (List T) → Int → Int → Bool → (List T) → Int → Int → Bool → (List Int) → Bool → (List Int) → Bool → (List T) → Option R) (k : Nat) (a0_0 a0_1 : Int) (a0_2 a0_3 a0_4 : Int) (a1_0z : Bool) (a1_0 : List T) (a2_0 a2_1 : Int) (a2_2z : Bool) (a2_2 : List Int) (a2_3z : Bool) (a2_3 : List Int) (a2_4z : Bool) (a2_4 : List T) : spec_QcCode.b (fun r => (ret r).map e) (fun x20z x20 x21 x22 c4_0z c4_0 c5_0 c5_1 c5_2z c5_2 c5_3z c5_3 c5_4z c5_4 => (j0 x20z x20 x21 x22 c4_0z c4_0 c5_0 c5_1 c5_2z c5_2 c5_3z c5_3 c5_4z c5_4).map e) k a0_0 a0_1 a0_2 a0_3 a0_4 a1_0z a1_0 a2_0 a2_1 a2_2z a2_2 a2_3z a2_3 a2_4z a2_4 = (spec_QcCode.b ret j0 k a0_0 a0_1 a0_2 a0_3 a0_4 a1_0z a1_0 a2_0 a2_1 a2_2z a2_2 a2_3z a2_3 a2_4z a2_4).map e := by
  unfold spec_QcCode.b
  repeat' first | with_reducible refine nat_cond ?_ ?_ | with_reducible refine nat_bind fun _ => ?_ | rfl
theorem spec_QcCode.l0n {R R' : Type} (e : R → R') (ret : Int → Option R) (j0 : Bool → (List T) → Int → Int → Bool → (List T) → Int → Int → Bool → (List Int) → Bool → (List Int) → Bool → (List T) → Option R) (k : Nat) (x20z : Bool) (x20 : List T) (x21 x22 : Int) (c4_0z : Bool) (c4_0 : List T) (c5_0 c5_1 : Int) (c5_2z : Bool) (c5_2 : List Int) (c5_3z : Bool) (c5_3 : List Int) (c5_4z : Bool) (c5_4 : List T) : spec_QcCode.l0b (fun r => (ret r).map e) (fun x20z x20 x21 x22 c4_0z c4_0 c5_0 c5_1 c5_2z c5_2 c5_3z c5_3 c5_4z c5_4 => (j0 x20z x20 x21 x22 c4_0z c4_0 c5_0 c5_1 c5_2z c5_2 c5_3z c5_3 c5_4z c5_4).map e) k x20z x20 x21 x22 c4_0z c4_0 c5_0 c5_1 c5_2z c5_2 c5_3z c5_3 c5_4z c5_4 = (spec_QcCode.l0b ret j0 k x20z x20 x21 x22 c4_0z c4_0 c5_0 c5_1 c5_2z c5_2 c5_3z c5_3 c5_4z c5_4).map e := by
  unfold spec_QcCode.l0b
  repeat' first | with_reducible refine nat_cond ?_ ?_ | with_reducible refine nat_bind fun _ => ?_ | rfl
theorem spec_QcCode.rq (a0_0 a0_1 : Int) (a0_2 a0_3 a0_4 : Int) (a1_0z : Bool) (a1_0 : List T) (a2_0 a2_1 : Int) (a2_2z : Bool) (a2_2 : List Int) (a2_3z : Bool) (a2_3 : List Int) (a2_4z : Bool) (a2_4 : List T) : ∀ k, (∀ (x20z : Bool) (x20 : List T) (x21 x22 : Int) (c4_0z : Bool) (c4_0 : List T) (c5_0 c5_1 : Int) (c5_2z : Bool) (c5_2 : List Int) (c5_3z : Bool) (c5_3 : List Int) (c5_4z : Bool) (c5_4 : List T), rounds Tryz.prog spec_QcCode.Cs (finish Tryz.prog [] Tryz.f27 [.v (.agg [(.int .i64 a0_0), (.int .i64 a0_1), (.int .i64 a0_2), (.int .i64 a0_3), (.int .i64 a0_4)]), .v (.agg [(.sl 85 a1_0z a1_0)]), .v (.agg [(.int .i64 a2_0), (.int .i64 a2_1), (.nums 5 .u8 a2_2z a2_2), (.nums 5 .u8 a2_3z a2_3), (.sl 28 a2_4z a2_4)])]) 100000 k spec_QcCode.K0 (spec_QcCode.N0 x20z x20 x21 x22 c4_0z c4_0 c5_0 c5_1 c5_2z c5_2 c5_3z c5_3 c5_4z c5_4) = (spec_QcCode.l0 k x20z x20 x21 x22 c4_0z c4_0 c5_0 c5_1 c5_2z c5_2 c5_3z c5_3 c5_4z c5_4).map spec_QcCode.enc)
  | 0 => fun _ _ _ _ _ _ _ _ _ _ _ _ _ _ => rfl
  | k + 1 => by
    have ih := spec_QcCode.rq a0_0 a0_1 a0_2 a0_3 a0_4 a1_0z a1_0 a2_0 a2_1 a2_2z a2_2 a2_3z a2_3 a2_4z a2_4 k
    refine fun _ _ _ _ _ _ _ _ _ _ _ _ _ _ => ?_
    · refine (spec_QcCode.s0 k _ a0_0 a0_1 a0_2 a0_3 a0_4 a1_0z a1_0 a2_0 a2_1 a2_2z a2_2 a2_3z a2_3 a2_4z a2_4 _ _ _ _ _ _ _ _ _ _ _ _ _ _).trans (Eq.trans ?_ (spec_QcCode.l0n spec_QcCode.enc some (spec_QcCode.l0 k) k _ _ _ _ _ _ _ _ _ _ _ _ _ _))
      simp only [ih, Option.map_some]
theorem spec_QcCode.eq (k : Nat) (a0_0 a0_1 : Int) (a0_2 a0_3 a0_4 : Int) (a1_0z : Bool) (a1_0 : List T) (a2_0 a2_1 : Int) (a2_2z : Bool) (a2_2 : List Int) (a2_3z : Bool) (a2_3 : List Int) (a2_4z : Bool) (a2_4 : List T) : answer Tryz.prog spec_QcCode.Cs 100000 spec_QcCode.cuts [] Tryz.f27 (k + 1) [.v (.agg [(.int .i64 a0_0), (.int .i64 a0_1), (.int .i64 a0_2), (.int .i64 a0_3), (.int .i64 a0_4)]), .v (.agg [(.sl 85 a1_0z a1_0)]), .v (.agg [(.int .i64 a2_0), (.int .i64 a2_1), (.nums 5 .u8 a2_2z a2_2), (.nums 5 .u8 a2_3z a2_3), (.sl 28 a2_4z a2_4)])] = (spec_QcCode.f (k + 1) a0_0 a0_1 a0_2 a0_3 a0_4 a1_0z a1_0 a2_0 a2_1 a2_2z a2_2 a2_3z a2_3 a2_4z a2_4).map spec_QcCode.enc := by
  have ih := spec_QcCode.rq a0_0 a0_1 a0_2 a0_3 a0_4 a1_0z a1_0 a2_0 a2_1 a2_2z a2_2 a2_3z a2_3 a2_4z a2_4 k
  refine Eq.trans (b := spec_QcCode.b (fun r => some (spec_QcCode.enc r)) (fun x20z x20 x21 x22 c4_0z c4_0 c5_0 c5_1 c5_2z c5_2 c5_3z c5_3 c5_4z c5_4 => rounds Tryz.prog spec_QcCode.Cs (finish Tryz.prog [] Tryz.f27 [.v (.agg [(.int .i64 a0_0), (.int .i64 a0_1), (.int .i64 a0_2), (.int .i64 a0_3), (.int .i64 a0_4)]), .v (.agg [(.sl 85 a1_0z a1_0)]), .v (.agg [(.int .i64 a2_0), (.int .i64 a2_1), (.nums 5 .u8 a2_2z a2_2), (.nums 5 .u8 a2_3z a2_3), (.sl 28 a2_4z a2_4)])]) 100000 k spec_QcCode.K0 (spec_QcCode.N0 x20z x20 x21 x22 c4_0z c4_0 c5_0 c5_1 c5_2z c5_2 c5_3z c5_3 c5_4z c5_4)) k a0_0 a0_1 a0_2 a0_3 a0_4 a1_0z a1_0 a2_0 a2_1 a2_2z a2_2 a2_3z a2_3 a2_4z a2_4) (by kernel_rfl) (Eq.trans ?_ (spec_QcCode.bn spec_QcCode.enc some (spec_QcCode.l0 k) k a0_0 a0_1 a0_2 a0_3 a0_4 a1_0z a1_0 a2_0 a2_1 a2_2z a2_2 a2_3z a2_3 a2_4z a2_4))
  simp only [ih, Option.map_some]
theorem spec_QcCode.sound (k : Nat) : SoundF Tryz.prog 27 (fun a => (spec_QcCode.ans k a).val) := by
  refine sound_plain (fun args res h => ?_) (fun t n => rfl)
  unfold spec_QcCode.ans at h
  dsimp only at h
  split at h
  · cases k with
    | zero => cases h
    | succ k =>
      unfold Ans.val at h
      rw [← spec_QcCode.eq] at h
      exact answer_sound mixed Tryz.func27 _ _ _ (k + 1) (fun j _ => tab_sound (tab_cons (spec_l23Goes.sound j) (tab_cons (spec_QcVotes.sound j) (tab_cons (spec_QcOk.sound j) (tab_cons (spec_VoteGood.sound j) (tab_cons (spec_IsQuorum.sound j) (tab_nil))))))) _ _ h
  · exact (Ans.no_val h).elim

def spec_Gather.b {R : Type} (ret : Int × Int × Bool × (List Int) × Bool × (List Int) × Bool × (List T) × Bool → Option R) (j0 : Bool → (List T) → Int → Int → Bool → (List Int) → (List T) → Int → Int → Int → Int → Int → Int → Bool → (List T) → Option R) (j1 : Bool → (List T) → Int → Int → Bool → (List Int) → (List T) → Int → Bool → (List T) → Int → Int → Int → Int → Int → Int → Int → Bool → (List T) → Option R) (j2 : Bool → (List T) → Int → Int → Bool → (List Int) → (List T) → Int → Bool → (List T) → Int → Int → Bool → Int → Int → Int → Int → Int → Bool → (List T) → Int → Int → Bool → (List Int) → Int → Bool → (List Int) → Option R) (k : Nat) (a0_0 a0_1 : Int) (a0_2 a0_3 a0_4 : Int) (a1_0z : Bool) (a1_0 : List T) (a2z : Bool) (a2 : List T) (a3 a4 : Int) (a5z : Bool) (a5 : List Int) : Option R :=
  (spec_l23Goes.f k a0_0 a0_1 a0_2 a0_3 a0_4 a1_0z a1_0).bind fun t0 => cond (!t0) (ret (0, 0, true, ([] : List Int), true, ([] : List Int), true, ([] : List T), false)) (j0 a2z a2 a3 a4 a5z a5 ([] : List T) 0 a0_0 a0_1 a0_2 a0_3 a0_4 a1_0z a1_0)
def spec_Gather.l0b {R : Type} (ret : Int × Int × Bool × (List Int) × Bool × (List Int) × Bool × (List T) × Bool → Option R) (j0 : Bool → (List T) → Int → Int → Bool → (List Int) → (List T) → Int → Int → Int → Int → Int → Int → Bool → (List T) → Option R) (j1 : Bool → (List T) → Int → Int → Bool → (List Int) → (List T) → Int → Bool → (List T) → Int → Int → Int → Int → Int → Int → Int → Bool → (List T) → Option R) (j2 : Bool → (List T) → Int → Int → Bool → (List Int) → (List T) → Int → Bool → (List T) → Int → Int → Bool → Int → Int → Int → Int → Int → Bool → (List T) → Int → Int → Bool → (List Int) → Int → Bool → (List Int) → Option R) (k : Nat) (x2z : Bool) (x2 : List T) (x3 x4 : Int) (x5z : Bool) (x5 : List Int) (x14 : List T) (x15 c6_0 : Int) (c6_1 c6_2 : Int) (c6_3 c6_4 : Int) (c7_0z : Bool) (c7_0 : List T) : Option R :=
  cond (decide (x15 < c6_0)) (j1 x2z x2 x3 x4 x5z x5 x14 x15 x2z x2 ((x2).length : Int) 0 c6_0 c6_1 c6_2 c6_3 c6_4 c7_0z c7_0) ((spec_QcFrom.f k c6_0 c6_1 c6_2 c6_3 c6_4 false x14).bind fun t0 => cond (!t0.2.2.2.2.2.2.2.2) (ret (0, 0, true, ([] : List Int), true, ([] : List Int), true, ([] : List T), false)) ((spec_QcCode.f k c6_0 c6_1 c6_2 c6_3 c6_4 c7_0z c7_0 t0.1 t0.2.1 t0.2.2.1 t0.2.2.2.1 t0.2.2.2.2.1 t0.2.2.2.2.2.1 t0.2.2.2.2.2.2.1 t0.2.2.2.2.2.2.2.1).bind fun t1 => cond (!(decide (t1 = 0))) (ret (0, 0, true, ([] : List Int), true, ([] : List Int), true, ([] : List T), false)) (ret (t0.1, t0.2.1, t0.2.2.1, t0.2.2.2.1, t0.2.2.2.2.1, t0.2.2.2.2.2.1, t0.2.2.2.2.2.2.1, t0.2.2.2.2.2.2.2.1, true))))
def spec_Gather.l1b {R : Type} (ret : Int × Int × Bool × (List Int) × Bool × (List Int) × Bool × (List T) × Bool → Option R) (j0 : Bool → (List T) → Int → Int → Bool → (List Int) → (List T) → Int → Int → Int → Int → Int → Int → Bool → (List T) → Option R) (j1 : Bool → (List T) → Int → Int → Bool → (List Int) → (List T) → Int → Bool → (List T) → Int → Int → Int → Int → Int → Int → Int → Bool → (List T) → Option R) (j2 : Bool → (List T) → Int → Int → Bool → (List Int) → (List T) → Int → Bool → (List T) → Int → Int → Bool → Int → Int → Int → Int → Int → Bool → (List T) → Int → Int → Bool → (List Int) → Int → Bool → (List Int) → Option R) (k : Nat) (x2z : Bool) (x2 : List T) (x3 x4 : Int) (x5z : Bool) (x5 : List Int) (x14 : List T) (x15 : Int) (x32z : Bool) (x32 : List T) (x33 x34 : Int) (c6_0 c6_1 : Int) (c6_2 c6_3 c6_4 : Int) (c7_0z : Bool) (c7_0 : List T) : Option R :=
  cond (decide (x34 < x33)) (cond (decide (0 ≤ x34)) (cond (decide (x34 < ((x32).length : Int))) (cond (decide (((((x32).getD (x34).toNat .bad).cells.getD 3 .bad)).toInt = x15)) (cond (decide (((((x32).getD (x34).toNat .bad).cells.getD 0 .bad)).toInt = x3)) (cond (decide (((((x32).getD (x34).toNat .bad).cells.getD 1 .bad)).toInt = x4)) ((spec_SameBytes.f k (((((x32).getD (x34).toNat .bad).cells.getD 2 .bad)).isNil) (((((x32).getD (x34).toNat .bad).cells.getD 2 .bad)).toNums) x5z x5).bind fun t0 => cond t0 ((spec_VoteGood.f k c7_0z c7_0 (((((x32).getD (x34).toNat .bad).cells.getD 0 .bad)).toInt) (((((x32).getD (x34).toNat .bad).cells.getD 1 .bad)).toInt) (((((x32).getD (x34).toNat .bad).cells.getD 2 .bad)).isNil) (((((x32).getD (x34).toNat .bad).cells.getD 2 .bad)).toNums) (((((x32).getD (x34).toNat .bad).cells.getD 3 .bad)).toInt) (((((x32).getD (x34).toNat .bad).cells.getD 4 .bad)).isNil) (((((x32).getD (x34).toNat .bad).cells.getD 4 .bad)).toNums)).bind fun t1 => j2 x2z x2 x3 x4 x5z x5 x14 x15 x32z x32 x33 x34 t1 c6_0 c6_1 c6_2 c6_3 c6_4 c7_0z c7_0 (((((x32).getD (x34).toNat .bad).cells.getD 0 .bad)).toInt) (((((x32).getD (x34).toNat .bad).cells.getD 1 .bad)).toInt) (((((x32).getD (x34).toNat .bad).cells.getD 2 .bad)).isNil) (((((x32).getD (x34).toNat .bad).cells.getD 2 .bad)).toNums) (((((x32).getD (x34).toNat .bad).cells.getD 3 .bad)).toInt) (((((x32).getD (x34).toNat .bad).cells.getD 4 .bad)).isNil) (((((x32).getD (x34).toNat .bad).cells.getD 4 .bad)).toNums)) (j2 x2z x2 x3 x4 x5z x5 x14 x15 x32z x32 x33 x34 false c6_0 c6_1 c6_2 c6_3 c6_4 c7_0z c7_0 (((((x32).getD (x34).toNat .bad).cells.getD 0 .bad)).toInt) (((((x32).getD (x34).toNat .bad).cells.getD 1 .bad)).toInt) (((((x32).getD (x34).toNat .bad).cells.getD 2 .bad)).isNil) (((((x32).getD (x34).toNat .bad).cells.getD 2 .bad)).toNums) (((((x32).getD (x34).toNat .bad).cells.getD 3 .bad)).toInt) (((((x32).getD (x34).toNat .bad).cells.getD 4 .bad)).isNil) (((((x32).getD (x34).toNat .bad).cells.getD 4 .bad)).toNums))) (j2 x2z x2 x3 x4 x5z x5 x14 x15 x32z x32 x33 x34 false c6_0 c6_1 c6_2 c6_3 c6_4 c7_0z c7_0 (((((x32).getD (x34).toNat .bad).cells.getD 0 .bad)).toInt) (((((x32).getD (x34).toNat .bad).cells.getD 1 .bad)).toInt) (((((x32).getD (x34).toNat .bad).cells.getD 2 .bad)).isNil) (((((x32).getD (x34).toNat .bad).cells.getD 2 .bad)).toNums) (((((x32).getD (x34).toNat .bad).cells.getD 3 .bad)).toInt) (((((x32).getD (x34).toNat .bad).cells.getD 4 .bad)).isNil) (((((x32).getD (x34).toNat .bad).cells.getD 4 .bad)).toNums))) (j2 x2z x2 x3 x4 x5z x5 x14 x15 x32z x32 x33 x34 false c6_0 c6_1 c6_2 c6_3 c6_4 c7_0z c7_0 (((((x32).getD (x34).toNat .bad).cells.getD 0 .bad)).toInt) (((((x32).getD (x34).toNat .bad).cells.getD 1 .bad)).toInt) (((((x32).getD (x34).toNat .bad).cells.getD 2 .bad)).isNil) (((((x32).getD (x34).toNat .bad).cells.getD 2 .bad)).toNums) (((((x32).getD (x34).toNat .bad).cells.getD 3 .bad)).toInt) (((((x32).getD (x34).toNat .bad).cells.getD 4 .bad)).isNil) (((((x32).getD (x34).toNat .bad).cells.getD 4 .bad)).toNums))) (j2 x2z x2 x3 x4 x5z x5 x14 x15 x32z x32 x33 x34 false c6_0 c6_1 c6_2 c6_3 c6_4 c7_0z c7_0 (((((x32).getD (x34).toNat .bad).cells.getD 0 .bad)).toInt) (((((x32).getD (x34).toNat .bad).cells.getD 1 .bad)).toInt) (((((x32).getD (x34).toNat .bad).cells.getD 2 .bad)).isNil) (((((x32).getD (x34).toNat .bad).cells.getD 2 .bad)).toNums) (((((x32).getD (x34).toNat .bad).cells.getD 3 .bad)).toInt) (((((x32).getD (x34).toNat .bad).cells.getD 4 .bad)).isNil) (((((x32).getD (x34).toNat .bad).cells.getD 4 .bad)).toNums))) (none)) (none)) (j0 x2z x2 x3 x4 x5z x5 x14 (wrap64 (x15 + 1)) c6_0 c6_1 c6_2 c6_3 c6_4 c7_0z c7_0)
def spec_Gather.l2b {R : Type} (ret : Int × Int × Bool × (List Int) × Bool × (List Int) × Bool × (List T) × Bool → Option R) (j0 : Bool → (List T) → Int → Int → Bool → (List Int) → (List T) → Int → Int → Int → Int → Int → Int → Bool → (List T) → Option R) (j1 : Bool → (List T) → Int → Int → Bool → (List Int) → (List T) → Int → Bool → (List T) → Int → Int → Int → Int → Int → Int → Int → Bool → (List T) → Option R) (j2 : Bool → (List T) → Int → Int → Bool → (List Int) → (List T) → Int → Bool → (List T) → Int → Int → Bool → Int → Int → Int → Int → Int → Bool → (List T) → Int → Int → Bool → (List Int) → Int → Bool → (List Int) → Option R) (k : Nat) (x2z : Bool) (x2 : List T) (x3 x4 : Int) (x5z : Bool) (x5 : List Int) (x14 : List T) (x15 : Int) (x32z : Bool) (x32 : List T) (x33 x34 : Int) (x64 : Bool) (c6_0 c6_1 : Int) (c6_2 c6_3 c6_4 : Int) (c7_0z : Bool) (c7_0 : List T) (c17_0 c17_1 : Int) (c17_2z : Bool) (c17_2 : List Int) (c17_3 : Int) (c17_4z : Bool) (c17_4 : List Int) : Option R :=
  cond x64 (cond (decide ((x14).length + 1 < 1954687338268)) (j0 x2z x2 x3 x4 x5z x5 (x14 ++ ([(.agg [(.int .i64 c17_0), (.int .i64 c17_1), (.nums 5 .u8 c17_2z c17_2), (.int .i64 c17_3), (.nums 5 .u8 c17_4z c17_4)])] : List T)) (wrap64 (x15 + 1)) c6_0 c6_1 c6_2 c6_3 c6_4 c7_0z c7_0) (none)) (j1 x2z x2 x3 x4 x5z x5 x14 x15 x32z x32 x33 (wrap64 (x34 + 1)) c6_0 c6_1 c6_2 c6_3 c6_4 c7_0z c7_0)
mutual
def spec_Gather.l0 : Nat → Bool → (List T) → Int → Int → Bool → (List Int) → (List T) → Int → Int → Int → Int → Int → Int → Bool → (List T) → Option (Int × Int × Bool × (List Int) × Bool × (List Int) × Bool × (List T) × Bool)
  | 0, _, _, _, _, _, _, _, _, _, _, _, _, _, _, _ => none
  | k + 1, x2z, x2, x3, x4, x5z, x5, x14, x15, c6_0, c6_1, c6_2, c6_3, c6_4, c7_0z, c7_0 => spec_Gather.l0b some (spec_Gather.l0 k) (spec_Gather.l1 k) (spec_Gather.l2 k) k x2z x2 x3 x4 x5z x5 x14 x15 c6_0 c6_1 c6_2 c6_3 c6_4 c7_0z c7_0
def spec_Gather.l1 : Nat → Bool → (List T) → Int → Int → Bool → (List Int) → (List T) → Int → Bool → (List T) → Int → Int → Int → Int → Int → Int → Int → Bool → (List T) → Option (Int × Int × Bool × (List Int) × Bool × (List Int) × Bool × (List T) × Bool)
  | 0, _, _, _, _, _, _, _, _, _, _, _, _, _, _, _, _, _, _, _ => none
  | k + 1, x2z, x2, x3, x4, x5z, x5, x14, x15, x32z, x32, x33, x34, c6_0, c6_1, c6_2, c6_3, c6_4, c7_0z, c7_0 => spec_Gather.l1b some (spec_Gather.l0 k) (spec_Gather.l1 k) (spec_Gather.l2 k) k x2z x2 x3 x4 x5z x5 x14 x15 x32z x32 x33 x34 c6_0 c6_1 c6_2 c6_3 c6_4 c7_0z c7_0
def spec_Gather.l2 : Nat → Bool → (List T) → Int → Int → Bool → (List Int) → (List T) → Int → Bool → (List T) → Int → Int → Bool → Int → Int → Int → Int → Int → Bool → (List T) → Int → Int → Bool → (List Int) → Int → Bool → (List Int) → Option (Int × Int × Bool × (List Int) × Bool × (List Int) × Bool × (List T) × Bool)
  | 0, _, _, _, _, _, _, _, _, _, _, _, _, _, _, _, _, _, _, _, _, _, _, _, _, _, _, _ => none
  | k + 1, x2z, x2, x3, x4, x5z, x5, x14, x15, x32z, x32, x33, x34, x64, c6_0, c6_1, c6_2, c6_3, c6_4, c7_0z, c7_0, c17_0, c17_1, c17_2z, c17_2, c17_3, c17_4z, c17_4 => spec_Gather.l2b some (spec_Gather.l0 k) (spec_Gather.l1 k) (spec_Gather.l2 k) k x2z x2 x3 x4 x5z x5 x14 x15 x32z x32 x33 x34 x64 c6_0 c6_1 c6_2 c6_3 c6_4 c7_0z c7_0 c17_0 c17_1 c17_2z c17_2 c17_3 c17_4z c17_4
end
def spec_Gather.f : Nat → Int → Int → Int → Int → Int → Bool → (List T) → Bool → (List T) → Int → Int → Bool → (List Int) → Option (Int × Int × Bool × (List Int) × Bool × (List Int) × Bool × (List T) × Bool)
  | 0, _, _, _, _, _, _, _, _, _, _, _, _, _ => none
  | k + 1, a0_0, a0_1, a0_2, a0_3, a0_4, a1_0z, a1_0, a2z, a2, a3, a4, a5z, a5 => spec_Gather.b some (spec_Gather.l0 k) (spec_Gather.l1 k) (spec_Gather.l2 k) k a0_0 a0_1 a0_2 a0_3 a0_4 a1_0z a1_0 a2z a2 a3 a4 a5z a5
def spec_Gather.enc (r : Int × Int × Bool × (List Int) × Bool × (List Int) × Bool × (List T) × Bool) : Res := ⟨[.vals true [((.int .i64 r.1), true), ((.int .i64 r.2.1), true), ((.nums 5 .u8 r.2.2.1 r.2.2.2.1), true), ((.nums 5 .u8 r.2.2.2.2.1 r.2.2.2.2.2.1), true), ((.sl 28 r.2.2.2.2.2.2.1 r.2.2.2.2.2.2.2.1), true)], .vals false [((.bool r.2.2.2.2.2.2.2.2), true)]], []⟩
def spec_Gather.ans (k : Nat) : List Arg → Ans
  | [.v (.agg [(.int .i64 a0_0), (.int .i64 a0_1), (.int .i64 a0_2), (.int .i64 a0_3), (.int .i64 a0_4)]), .v (.agg [(.sl 85 a1_0z a1_0)]), .v (.sl 59 a2z a2), .v (.int .i64 a3), .v (.int .i64 a4), .v (.nums 5 .u8 a5z a5)] => ⟨spec_Gather.f k a0_0 a0_1 a0_2 a0_3 a0_4 a1_0z a1_0 a2z a2 a3 a4 a5z a5, spec_Gather.enc⟩
  | _ => Ans.no
def spec_Gather.Cs (k : Nat) : CallSem := tab [(23, spec_l23Goes.ans k), (26, spec_QcFrom.ans k), (24, spec_SameBytes.ans k), (27, spec_QcCode.ans k), (25, spec_VoteGood.ans k)]
def spec_Gather.cuts : List (Nat × Keep) := [(122, ⟨[(2, some []), (3, some []), (4, some []), (5, some []), (6, some []), (7, some []), (12, some []), (14, some [.n 0 0, .l 14 0]), (15, some [])], [(6, [some [], some [], some [], some [], some []]), (7, [some []]), (12, [some [], some [], none, none, none])]⟩), (7826, ⟨[(2, some []), (3, some []), (4, some []), (5, some []), (6, some []), (7, some []), (12, some []), (14, none), (15, some []), (32, some []), (33, some []), (34, some [])], [(6, [some [], some [], some [], some [], some []]), (7, [some []]), (12, [some [], some [], none, none, none])]⟩), (500889, ⟨[(2, some []), (3, some []), (4, some []), (5, some []), (6, some []), (7, some []), (12, some []), (14, none), (15, some []), (17, some []), (32, some []), (33, some []), (34, some []), (64, some [])], [(6, [some [], some [], some [], some [], some []]), (7, [some []]), (12, [some [], some [], none, none, none]), (17, [some [], some [], some [], some [], some []])]⟩)]
noncomputable def spec_Gather.K0 : List Fr := framesAt [true, true, true, false, true, false] (bodyOf Tryz.f6 spec_Gather.cuts) []
def spec_Gather.N0 (x2z : Bool) (x2 : List T) (x3 x4 : Int) (x5z : Bool) (x5 : List Int) (x14 : List T) (x15 c6_0 : Int) (c6_1 c6_2 : Int) (c6_3 c6_4 : Int) (c7_0z : Bool) (c7_0 : List T) : St := stOf 87 87 6 [(2, .val ⟨(.sl 59 x2z x2), [], false, none⟩), (3, .val (V.s (.int .i64 x3))), (4, .val (V.s (.int .i64 x4))), (5, .val ⟨(.nums 5 .u8 x5z x5), [], false, none⟩), (6, .bp 6 0), (7, .bp 7 0), (12, .bp 12 0), (14, .val ⟨(.sl 59 false x14), [.l 14 0], false, some (.l 14 0)⟩), (15, .val (V.s (.int .i64 x15)))] [(6, .cells [V.s (.int .i64 c6_0), V.s (.int .i64 c6_1), V.s (.int .i64 c6_2), V.s (.int .i64 c6_3), V.s (.int .i64 c6_4)]), (7, .cells [⟨(.sl 85 c7_0z c7_0), [], false, none⟩]), (12, .cells [V.s (.int .i64 0), V.s (.int .i64 0), ⟨(.nums 5 .u8 true ([] : List Int)), [.l 12 3], true, some (.l 12 3)⟩, ⟨(.nums 5 .u8 true ([] : List Int)), [.l 12 4], true, some (.l 12 4)⟩, ⟨(.sl 28 true ([] : List T)), [.l 12 5], true, some (.l 12 5)⟩])]
noncomputable def spec_Gather.K1 : List Fr := framesAt [true, true, true, false, true, false, false, true, false, false, true, false] (bodyOf Tryz.f6 spec_Gather.cuts) []
def spec_Gather.N1 (x2z : Bool) (x2 : List T) (x3 x4 : Int) (x5z : Bool) (x5 : List Int) (x14 : List T) (x15 : Int) (x32z : Bool) (x32 : List T) (x33 x34 : Int) (c6_0 c6_1 : Int) (c6_2 c6_3 c6_4 : Int) (c7_0z : Bool) (c7_0 : List T) : St := stOf 87 87 6 [(2, .val ⟨(.sl 59 x2z x2), [], false, none⟩), (3, .val (V.s (.int .i64 x3))), (4, .val (V.s (.int .i64 x4))), (5, .val ⟨(.nums 5 .u8 x5z x5), [], false, none⟩), (6, .bp 6 0), (7, .bp 7 0), (12, .bp 12 0), (14, .val ⟨(.sl 59 false x14), [.l 14 0], false, some (.l 14 0)⟩), (15, .val (V.s (.int .i64 x15))), (32, .val ⟨(.sl 59 x32z x32), [], false, none⟩), (33, .val (V.s (.int .i64 x33))), (34, .val (V.s (.int .i64 x34)))] [(6, .cells [V.s (.int .i64 c6_0), V.s (.int .i64 c6_1), V.s (.int .i64 c6_2), V.s (.int .i64 c6_3), V.s (.int .i64 c6_4)]), (7, .cells [⟨(.sl 85 c7_0z c7_0), [], false, none⟩]), (12, .cells [V.s (.int .i64 0), V.s (.int .i64 0), ⟨(.nums 5 .u8 true ([] : List Int)), [.l 12 3], true, some (.l 12 3)⟩, ⟨(.nums 5 .u8 true ([] : List Int)), [.l 12 4], true, some (.l 12 4)⟩, ⟨(.sl 28 true ([] : List T)), [.l 12 5], true, some (.l 12 5)⟩])]
noncomputable def spec_Gather.K2 : List Fr := framesAt [true, true, true, false, true, false, false, true, false, false, true, false, false, true, true, false, false, true] (bodyOf Tryz.f6 spec_Gather.cuts) []
def spec_Gather.N2 (x2z : Bool) (x2 : List T) (x3 x4 : Int) (x5z : Bool) (x5 : List Int) (x14 : List T) (x15 : Int) (x32z : Bool) (x32 : List T) (x33 x34 : Int) (x64 : Bool) (c6_0 c6_1 : Int) (c6_2 c6_3 c6_4 : Int) (c7_0z : Bool) (c7_0 : List T) (c17_0 c17_1 : Int) (c17_2z : Bool) (c17_2 : List Int) (c17_3 : Int) (c17_4z : Bool) (c17_4 : List Int) : St := stOf 87 87 6 [(2, .val ⟨(.sl 59 x2z x2), [], false, none⟩), (3, .val (V.s (.int .i64 x3))), (4, .val (V.s (.int .i64 x4))), (5, .val ⟨(.nums 5 .u8 x5z x5), [], false, none⟩), (6, .bp 6 0), (7, .bp 7 0), (12, .bp 12 0), (14, .val ⟨(.sl 59 false x14), [.l 14 0], false, some (.l 14 0)⟩), (15, .val (V.s (.int .i64 x15))), (17, .bp 17 0), (32, .val ⟨(.sl 59 x32z x32), [], false, none⟩), (33, .val (V.s (.int .i64 x33))), (34, .val (V.s (.int .i64 x34))), (64, .val (V.s (.bool x64)))] [(6, .cells [V.s (.int .i64 c6_0), V.s (.int .i64 c6_1), V.s (.int .i64 c6_2), V.s (.int .i64 c6_3), V.s (.int .i64 c6_4)]), (7, .cells [⟨(.sl 85 c7_0z c7_0), [], false, none⟩]), (12, .cells [V.s (.int .i64 0), V.s (.int .i64 0), ⟨(.nums 5 .u8 true ([] : List Int)), [.l 12 3], true, some (.l 12 3)⟩, ⟨(.nums 5 .u8 true ([] : List Int)), [.l 12 4], true, some (.l 12 4)⟩, ⟨(.sl 28 true ([] : List T)), [.l 12 5], true, some (.l 12 5)⟩]), (17, .cells [V.s (.int .i64 c17_0), V.s (.int .i64 c17_1), ⟨(.nums 5 .u8 c17_2z c17_2), [], false, none⟩, V.s (.int .i64 c17_3), ⟨(.nums 5 .u8 c17_4z c17_4), [], false, none⟩])]
theorem spec_Gather.s0 (k : Nat) (G : List Fr → St → Option Res) (a0_0 a0_1 : Int) (a0_2 a0_3 a0_4 : Int) (a1_0z : Bool) (a1_0 : List T) (a2z : Bool) (a2 : List T) (a3 a4 : Int) (a5z : Bool) (a5 : List Int) (yx2z : Bool) (yx2 : List T) (yx3 yx4 : Int) (yx5z : Bool) (yx5 : List Int) (yx14 : List T) (yx15 yc6_0 : Int) (yc6_1 yc6_2 : Int) (yc6_3 yc6_4 : Int) (yc7_0z : Bool) (yc7_0 : List T) : resume Tryz.prog (spec_Gather.Cs k) G (finish Tryz.prog [] Tryz.f6 [.v (.agg [(.int .i64 a0_0), (.int .i64 a0_1), (.int .i64 a0_2), (.int .i64 a0_3), (.int .i64 a0_4)]), .v (.agg [(.sl 85 a1_0z a1_0)]), .v (.sl 59 a2z a2), .v (.int .i64 a3), .v (.int .i64 a4), .v (.nums 5 .u8 a5z a5)]) 100000 spec_Gather.K0 (spec_Gather.N0 yx2z yx2 yx3 yx4 yx5z yx5 yx14 yx15 yc6_0 yc6_1 yc6_2 yc6_3 yc6_4 yc7_0z yc7_0) = spec_Gather.l0b (fun r => some (spec_Gather.enc r)) (fun x2z x2 x3 x4 x5z x5 x14 x15 c6_0 c6_1 c6_2 c6_3 c6_4 c7_0z c7_0 => G spec_Gather.K0 (spec_Gather.N0 x2z x2 x3 x4 x5z x5 x14 x15 c6_0 c6_1 c6_2 c6_3 c6_4 c7_0z c7_0)) (fun x2z x2 x3 x4 x5z x5 x14 x15 x32z x32 x33 x34 c6_0 c6_1 c6_2 c6_3 c6_4 c7_0z c7_0 => G spec_Gather.K1 (spec_Gather.N1 x2z x2 x3 x4 x5z x5 x14 x15 x32z x32 x33 x34 c6_0 c6_1 c6_2 c6_3 c6_4 c7_0z c7_0)) (fun x2z x2 x3 x4 x5z x5 x14 x15 x32z x32 x33 x34 x64 c6_0 c6_1 c6_2 c6_3 c6_4 c7_0z c7_0 c17_0 c17_1 c17_2z c17_2 c17_3 c17_4z c17_4 => G spec_Gather.K2 (spec_Gather.N2 x2z x2 x3 x4 x5z x5 x14 x15 x32z x32 x33 x34 x64 c6_0 c6_1 c6_2 c6_3 c6_4 c7_0z c7_0 c17_0 c17_1 c17_2z c17_2 c17_3 c17_4z c17_4)) k yx2z yx2 yx3 yx4 yx5z yx5 yx14 yx15 yc6_0 yc6_1 yc6_2 yc6_3 yc6_4 yc7_0z yc7_0 := by kernel_rfl
theorem spec_Gather.s1 (k : Nat) (G : List Fr → St → Option Res) (a0_0 a0_1 : Int) (a0_2 a0_3 a0_4 : Int) (a1_0z : Bool) (a1_0 : List T) (a2z : Bool) (a2 : List T) (a3 a4 : Int) (a5z : Bool) (a5 : List Int) (yx2z : Bool) (yx2 : List T) (yx3 yx4 : Int) (yx5z : Bool) (yx5 : List Int) (yx14 : List T) (yx15 : Int) (yx32z : Bool) (yx32 : List T) (yx33 yx34 : Int) (yc6_0 yc6_1 : Int) (yc6_2 yc6_3 yc6_4 : Int) (yc7_0z : Bool) (yc7_0 : List T) : resume Tryz.prog (spec_Gather.Cs k) G (finish Tryz.prog [] Tryz.f6 [.v (.agg [(.int .i64 a0_0), (.int .i64 a0_1), (.int .i64 a0_2), (.int .i64 a0_3), (.int .i64 a0_4)]), .v (.agg [(.sl 85 a1_0z a1_0)]), .v (.sl 59 a2z a2), .v (.int .i64 a3), .v (.int .i64 a4), .v (.nums 5 .u8 a5z a5)]) 100000 spec_Gather.K1 (spec_Gather.N1 yx2z yx2 yx3 yx4 yx5z yx5 yx14 yx15 yx32z yx32 yx33 yx34 yc6_0 yc6_1 yc6_2 yc6_3 yc6_4 yc7_0z yc7_0) = spec_Gather.l1b (fun r => some (spec_Gather.enc r)) (fun x2z x2 x3 x4 x5z x5 x14 x15 c6_0 c6_1 c6_2 c6_3 c6_4 c7_0z c7_0 => G spec_Gather.K0 (spec_Gather.N0 x2z x2 x3 x4 x5z x5 x14 x15 c6_0 c6_1 c6_2 c6_3 c6_4 c7_0z c7_0)) (fun x2z x2 x3 x4 x5z x5 x14 x15 x32z x32 x33 x34 c6_0 c6_1 c6_2 c6_3 c6_4 c7_0z c7_0 => G spec_Gather.K1 (spec_Gather.N1 x2z x2 x3 x4 x5z x5 x14 x15 x32z x32 x33 x34 c6_0 c6_1 c6_2 c6_3 c6_4 c7_0z c7_0)) (fun x2z x2 x3 x4 x5z x5 x14 x15 x32z x32 x33 x34 x64 c6_0 c6_1 c6_2 c6_3 c6_4 c7_0z c7_0 c17_0 c17_1 c17_2z c17_2 c17_3 c17_4z c17_4 => G spec_Gather.K2 (spec_Gather.N2 x2z x2 x3 x4 x5z x5 x14 x15 x32z x32 x33 x34 x64 c6_0 c6_1 c6_2 c6_3 c6_4 c7_0z c7_0 c17_0 c17_1 c17_2z c17_2 c17_3 c17_4z c17_4)) k yx2z yx2 yx3 yx4 yx5z yx5 yx14 yx15 yx32z yx32 yx33 yx34 yc6_0 yc6_1 yc6_2 yc6_3 yc6_4 yc7_0z yc7_0 := by kernel_rfl
theorem spec_Gather.s2 (k : Nat) (G : List Fr → St → Option Res) (a0_0 a0_1 : Int) (a0_2 a0_3 a0_4 : Int) (a1_0z : Bool) (a1_0 : List T) (a2z : Bool) (a2 : List T) (a3 a4 : Int) (a5z : Bool) (a5 : List Int) (yx2z : Bool) (yx2 : List T) (yx3 yx4 : Int) (yx5z : Bool) (yx5 : List Int) (yx14 : List T) (yx15 : Int) (yx32z : Bool) (yx32 : List T) (yx33 yx34 : Int) (yx64 : Bool) (yc6_0 yc6_1 : Int) (yc6_2 yc6_3 yc6_4 : Int) (yc7_0z : Bool) (yc7_0 : List T) (yc17_0 yc17_1 : Int) (yc17_2z : Bool) (yc17_2 : List Int) (yc17_3 : Int) (yc17_4z : Bool) (yc17_4 : List Int) : resume Tryz.prog (spec_Gather.Cs k) G (finish Tryz.prog [] Tryz.f6 [.v (.agg [(.int .i64 a0_0), (.int .i64 a0_1), (.int .i64 a0_2), (.int .i64 a0_3), (.int .i64 a0_4)]), .v (.agg [(.sl 85 a1_0z a1_0)]), .v (.sl 59 a2z a2), .v (.int .i64 a3), .v (.int .i64 a4), .v (.nums 5 .u8 a5z a5)]) 100000 spec_Gather.K2 (spec_Gather.N2 yx2z yx2 yx3 yx4 yx5z yx5 yx14 yx15 yx32z yx32 yx33 yx34 yx64 yc6_0 yc6_1 yc6_2 yc6_3 yc6_4 yc7_0z yc7_0 yc17_0 yc17_1 yc17_2z yc17_2 yc17_3 yc17_4z yc17_4) = spec_Gather.l2b (fun r => some (spec_Gather.enc r)) (fun x2z x2 x3 x4 x5z x5 x14 x15 c6_0 c6_1 c6_2 c6_3 c6_4 c7_0z c7_0 => G spec_Gather.K0 (spec_Gather.N0 x2z x2 x3 x4 x5z x5 x14 x15 c6_0 c6_1 c6_2 c6_3 c6_4 c7_0z c7_0)) (fun x2z x2 x3 x4 x5z x5 x14 x15 x32z x32 x33 x34 c6_0 c6_1 c6_2 c6_3 c6_4 c7_0z c7_0 => G spec_Gather.K1 (spec_Gather.N1 x2z x2 x3 x4 x5z x5 x14 x15 x32z x32 x33 x34 c6_0 c6_1 c6_2 c6_3 c6_4 c7_0z c7_0)) (fun x2z x2 x3 x4 x5z x5 x14 x15 x32z x32 x33 x34 x64 c6_0 c6_1 c6_2 c6_3 c6_4 c7_0z c7_0 c17_0 c17_1 c17_2z c17_2 c17_3 c17_4z c17_4 => G spec_Gather.K2 (spec_Gather.N2 x2z x2 x3 x4 x5z x5 x14 x15 x32z x32 x33 x34 x64 c6_0 c6_1 c6_2 c6_3 c6_4 c7_0z c7_0 c17_0 c17_1 c17_2z c17_2 c17_3 c17_4z c17_4)) k yx2z yx2 yx3 yx4 yx5z yx5 yx14 yx15 yx32z yx32 yx33 yx34 yx64 yc6_0 yc6_1 yc6_2 yc6_3 yc6_4 yc7_0z yc7_0 yc17_0 yc17_1 yc17_2z yc17_2 yc17_3 yc17_4z yc17_4 := by kernel_rfl
theorem spec_Gather.bn {R R' : Type} (e : R → R') (ret : Int × Int × Bool × (List Int) × Bool × (List Int) × Bool × (List T) × Bool → Option R) (j0 : Bool → (List T) → Int → Int → Bool → (List Int) → (List T) → Int → Int → Int → Int → Int → Int → Bool → (List T) → Option R) (j1 : Bool → (List T) → Int → Int → Bool → (List Int) → (List T) → Int → Bool → (List T) → Int → Int → Int → Int → Int → Int → Int → Bool → (List T) → Option R) (j2 : Bool → (List T) → Int → Int → Bool → (List Int) → (List T) → Int → Bool → (List T) → Int → Int → Bool → Int → Int → Int → Int → Int → Bool → (List T) → Int → Int → Bool → (List Int) → Int → Bool → (List Int) → Option R) (k : Nat) (a0_0 a0_1 : Int) (a0_2 a0_3 a0_4 : Int) (a1_0z : Bool) (a1_0 : List T) (a2z : Bool) (a2 : List T) (a3 a4 : Int) (a5z : Bool) (a5 : List Int) : spec_Gather.b (fun r => (ret r).map e) (fun x2z x2 x3 x4 x5z x5 x14 x15 c6_0 c6_1 c6_2 c6_3 c6_4 c7_0z c7_0 => (j0 x2z x2 x3 x4 x5z x5 x14 x15 c6_0 c6_1 c6_2 c6_3 c6_4 c7_0z c7_0).map e) (fun x2z x2 x3 x4 x5z x5 x14 x15 x32z x32 x33 x34 c6_0 c6_1 c6_2 c6_3 c6_4 c7_0z c7_0 => (j1 x2z x2 x3 x4 x5z x5 x14 x15 x32z x32 x33 x34 c6_0 c6_1 c6_2 c6_3 c6_4 c7_0z c7_0).map e) (fun x2z x2 x3 x4 x5z x5 x14 x15 x32z x32 x33 x34 x64 c6_0 c6_1 c6_2 c6_3 c6_4 c7_0z c7_0 c17_0 c17_1 c17_2z c17_2 c17_3 c17_4z c17_4 => (j2 x2z x2 x3 x4 x5z x5 x14 x15 x32z x32 x33 x34 x64 c6_0 c6_1 c6_2 c6_3 c6_4 c7_0z c7_0 c17_0 c17_1 c17_2z c17_2 c17_3 c17_4z c17_4).map e) k a0_0 a0_1 a0_2 a0_3 a0_4 a1_0z a1_0 a2z a2 a3 a4 a5z a5 = (spec_Gather.b ret j0 j1 j2 k a0_0 a0_1 a0_2 a0_3 a0_4 a1_0z a1_0 a2z a2 a3 a4 a5z a5).map e := by
  unfold spec_Gather.b
  repeat' first | with_reducible refine nat_cond ?_ ?_ | with_reducible refine nat_bind fun _ => ?_ | rfl
theorem spec_Gather.l0n {R R' : Type} (e : R → R') (ret : Int × Int × Bool × (List Int) × Bool × (List Int) × Bool × (List T) × Bool → Option R) (j0 : Bool → (List T) → Int → Int → Bool → (List Int) → (List T) → Int → Int → Int → Int → Int → Int → Bool → (List T) → Option R) (j1 : Bool → (List T) → Int → Int → Bool → (List Int) → (List T) → Int → Bool → (List T) → Int → Int → Int → Int → Int → Int → Int → Bool → (List T) → Option R) (j2 : Bool → (List T) → Int → Int → Bool → (List Int) → (List T) → Int → Bool → (List T) → Int → Int → Bool → Int → Int → Int → Int → Int → Bool → (List T) → Int → Int → Bool → (List Int) → Int → Bool → (List Int) → Option R) (k : Nat) (x2z : Bool) (x2 : List T) (x3 x4 : Int) (x5z : Bool) (x5 : List Int) (x14 : List T) (x15 c6_0 : Int) (c6_1 c6_2 : Int) (c6_3 c6_4 : Int) (c7_0z : Bool) (c7_0 : List T) : spec_Gather.l0b (fun r => (ret r).map e) (fun x2z x2 x3 x4 x5z x5 x14 x15 c6_0 c6_1 c6_2 c6_3 c6_4 c7_0z c7_0 => (j0 x2z x2 x3 x4 x5z x5 x14 x15 c6_0 c6_1 c6_2 c6_3 c6_4 c7_0z c7_0).map e) (fun x2z x2 x3 x4 x5z x5 x14 x15 x32z x32 x33 x34 c6_0 c6_1 c6_2 c6_3 c6_4 c7_0z c7_0 => (j1 x2z x2 x3 x4 x5z x5 x14 x15 x32z x32 x33 x34 c6_0 c6_1 c6_2 c6_3 c6_4 c7_0z c7_0).map e) (fun x2z x2 x3 x4 x5z x5 x14 x15 x32z x32 x33 x34 x64 c6_0 c6_1 c6_2 c6_3 c6_4 c7_0z c7_0 c17_0 c17_1 c17_2z c17_2 c17_3 c17_4z c17_4 => (j2 x2z x2 x3 x4 x5z x5 x14 x15 x32z x32 x33 x34 x64 c6_0 c6_1 c6_2 c6_3 c6_4 c7_0z c7_0 c17_0 c17_1 c17_2z c17_2 c17_3 c17_4z c17_4).map e) k x2z x2 x3 x4 x5z x5 x14 x15 c6_0 c6_1 c6_2 c6_3 c6_4 c7_0z c7_0 = (spec_Gather.l0b ret j0 j1 j2 k x2z x2 x3 x4 x5z x5 x14 x15 c6_0 c6_1 c6_2 c6_3 c6_4 c7_0z c7_0).map e := by
  unfold spec_Gather.l0b
  repeat' first | with_reducible refine nat_cond ?_ ?_ | with_reducible refine nat_bind fun _ => ?_ | rfl
theorem spec_Gather.l1n {R R' : Type} (e : R → R') (ret : Int × Int × Bool × (List Int) × Bool × (List Int) × Bool × (List T) × Bool → Option R) (j0 : Bool → (List T) → Int → Int → Bool → (List Int) → (List T) → Int → Int → Int → Int → Int → Int → Bool → (List T) → Option R) (j1 : Bool → (List T) → Int → Int → Bool → (List Int) → (List T) → Int → Bool → (List T) → Int → Int → Int → Int → Int → Int → Int → Bool → (List T) → Option R) (j2 : Bool → (List T) → Int → Int → Bool → (List Int) → (List T) → Int → Bool → (List T) → Int → Int → Bool → Int → Int → Int → Int → Int → Bool → (List T) → Int → Int → Bool → (List Int) → Int → Bool → (List Int) → Option R) (k : Nat) (x2z : Bool) (x2 : List T) (x3 x4 : Int) (x5z : Bool) (x5 : List Int) (x14 : List T) (x15 : Int) (x32z : Bool) (x32 : List T) (x33 x34 : Int) (c6_0 c6_1 : Int) (c6_2 c6_3 c6_4 : Int) (c7_0z : Bool) (c7_0 : List T) : spec_Gather.l1b (fun r => (ret r).map e) (fun x2z x2 x3 x4 x5z x5 x14 x15 c6_0 c6_1 c6_2 c6_3 c6_4 c7_0z c7_0 => (j0 x2z x2 x3 x4 x5z x5 x14 x15 c6_0 c6_1 c6_2 c6_3 c6_4 c7_0z c7_0).map e) (fun x2z x2 x3 x4 x5z x5 x14 x15 x32z x32 x33 x34 c6_0 c6_1 c6_2 c6_3 c6_4 c7_0z c7_0 => (j1 x2z x2 x3 x4 x5z x5 x14 x15 x32z x32 x33 x34 c6_0 c6_1 c6_2 c6_3 c6_4 c7_0z c7_0).map e) (fun x2z x2 x3 x4 x5z x5 x14 x15 x32z x32 x33 x34 x64 c6_0 c6_1 c6_2 c6_3 c6_4 c7_0z c7_0 c17_0 c17_1 c17_2z c17_2 c17_3 c17_4z c17_4 => (j2 x2z x2 x3 x4 x5z x5 x14 x15 x32z x32 x33 x34 x64 c6_0 c6_1 c6_2 c6_3 c6_4 c7_0z c7_0 c17_0 c17_1 c17_2z c17_2 c17_3 c17_4z c17_4).map e) k x2z x2 x3 x4 x5z x5 x14 x15 x32z x32 x33 x34 c6_0 c6_1 c6_2 c6_3 c6_4 c7_0z c7_0 = (spec_Gather.l1b ret j0 j1 j2 k x2z x2 x3 x4 x5z x5 x14 x15 x32z x32 x33 x34 c6_0 c6_1 c6_2 c6_3 c6_4 c7_0z c7_0).map e := by
  unfold spec_Gather.l1b
  repeat' first | with_reducible refine nat_cond ?_ ?_ | with_reducible refine nat_bind fun _ => ?_ | rfl
theorem spec_Gather.l2b_nat {R R' : Type} (e : R → R') (ret : Int × Int × Bool × (List Int) × Bool × (List Int) × Bool × (List T) × Bool → Option R) (j0 : Bool → (List T) → Int → Int → Bool → (List Int) → (List T) → Int → Int → Int → Int → Int → Int → Bool → (List T) → Option R) (j1 : Bool → (List T) → Int → Int → Bool → (List Int) → (List T) → Int → Bool → (List T) → Int → Int → Int → Int → Int → Int → Int → Bool → (List T) → Option R) (j2 : Bool → (List T) → Int → Int → Bool → (List Int) → (List T) → Int → Bool → (List T) → Int → Int → Bool → Int → Int → Int → Int → Int → Bool → (List T) → Int → Int → Bool → (List Int) → Int → Bool → (List Int) → Option R) (k : Nat) (x2z : Bool) (x2 : List T) (x3 x4 : Int) (x5z : Bool) (x5 : List Int) (x14 : List T) (x15 : Int) (x32z : Bool) (x32 : List T) (x33 x34 : Int) (x64 : Bool) (c6_0 c6_1 : Int) (c6_2 c6_3 c6_4 : Int) (c7_0z : Bool) (c7_0 : List T) (c17_0 c17_1 : Int) (c17_2z : Bool) (c17_2 : List Int) (c17_3 : Int) (c17_4z : Bool) (c17_4 : List Int) : spec_Gather.l2b (fun r => (ret r).map e) (fun x2z x2 x3 x4 x5z x5 x14 x15 c6_0 c6_1 c6_2 c6_3 c6_4 c7_0z c7_0 => (j0 x2z x2 x3 x4 x5z x5 x14 x15 c6_0 c6_1 c6_2 c6_3 c6_4 c7_0z c7_0).map e) (fun x2z x2 x3 x4 x5z x5 x14 x15 x32z x32 x33 x34 c6_0 c6_1 c6_2 c6_3 c6_4 c7_0z c7_0 => (j1 x2z x2 x3 x4 x5z x5 x14 x15 x32z x32 x33 x34 c6_0 c6_1 c6_2 c6_3 c6_4 c7_0z c7_0).map e) (fun x2z x2 x3 x4 x5z x5 x14 x15 x32z x32 x33 x34 x64 c6_0 c6_1 c6_2 c6_3 c6_4 c7_0z c7_0 c17_0 c17_1 c17_2z c17_2 c17_3 c17_4z c17_4 => (j2 x2z x2 x3 x4 x5z x5 x14 x15 x32z x32 x33 x34 x64 c6_0 c6_1 c6_2 c6_3 c6_4 c7_0z c7_0 c17_0 c17_1 c17_2z c17_2 c17_3 c17_4z c17_4).map e) k x2z x2 x3 x4 x5z x5 x14 x15 x32z x32 x33 x34 x64 c6_0 c6_1 c6_2 c6_3 c6_4 c7_0z c7_0 c17_0 c17_1 c17_2z c17_2 c17_3 c17_4z c17_4 = (spec_Gather.l2b ret j0 j1 j2 k x2z x2 x3 x4 x5z x5 x14 x15 x32z x32 x33 x34 x64 c6_0 c6_1 c6_2 c6_3 c6_4 c7_0z c7_0 c17_0 c17_1 c17_2z c17_2 c17_3 c17_4z c17_4).map e := by
  unfold spec_Gather.l2b
  repeat' first | with_reducible refine nat_cond ?_ ?_ | with_reducible refine nat_bind fun _ => ?_ | rfl
theorem spec_Gather.rq (a0_0 a0_1 : Int) (a0_2 a0_3 a0_4 : Int) (a1_0z : Bool) (a1_0 : List T) (a2z : Bool) (a2 : List T) (a3 a4 : Int) (a5z : Bool) (a5 : List Int) : ∀ k, (∀ (x2z : Bool) (x2 : List T) (x3 x4 : Int) (x5z : Bool) (x5 : List Int) (x14 : List T) (x15 c6_0 : Int) (c6_1 c6_2 : Int) (c6_3 c6_4 : Int) (c7_0z : Bool) (c7_0 : List T), rounds Tryz.prog spec_Gather.Cs (finish Tryz.prog [] Tryz.f6 [.v (.agg [(.int .i64 a0_0), (.int .i64 a0_1), (.int .i64 a0_2), (.int .i64 a0_3), (.int .i64 a0_4)]), .v (.agg [(.sl 85 a1_0z a1_0)]), .v (.sl 59 a2z a2), .v (.int .i64 a3), .v (.int .i64 a4), .v (.nums 5 .u8 a5z a5)]) 100000 k spec_Gather.K0 (spec_Gather.N0 x2z x2 x3 x4 x5z x5 x14 x15 c6_0 c6_1 c6_2 c6_3 c6_4 c7_0z c7_0) = (spec_Gather.l0 k x2z x2 x3 x4 x5z x5 x14 x15 c6_0 c6_1 c6_2 c6_3 c6_4 c7_0z c7_0).map spec_Gather.enc) ∧ (∀ (x2z : Bool) (x2 : List T) (x3 x4 : Int) (x5z : Bool) (x5 : List Int) (x14 : List T) (x15 : Int) (x32z : Bool) (x32 : List T) (x33 x34 : Int) (c6_0 c6_1 : Int) (c6_2 c6_3 c6_4 : Int) (c7_0z : Bool) (c7_0 : List T), rounds Tryz.prog spec_Gather.Cs (finish Tryz.prog [] Tryz.f6 [.v (.agg [(.int .i64 a0_0), (.int .i64 a0_1), (.int .i64 a0_2), (.int .i64 a0_3), (.int .i64 a0_4)]), .v (.agg [(.sl 85 a1_0z a1_0)]), .v (.sl 59 a2z a2), .v (.int .i64 a3), .v (.int .i64 a4), .v (.nums 5 .u8 a5z a5)]) 100000 k spec_Gather.K1 (spec_Gather.N1 x2z x2 x3 x4 x5z x5 x14 x15 x32z x32 x33 x34 c6_0 c6_1 c6_2 c6_3 c6_4 c7_0z c7_0) = (spec_Gather.l1 k x2z x2 x3 x4 x5z x5 x14 x15 x32z x32 x33 x34 c6_0 c6_1 c6_2 c6_3 c6_4 c7_0z c7_0).map spec_Gather.enc) ∧ (∀ (x2z : Bool) (x2 : List T) (x3 x4 : Int) (x5z : Bool) (x5 : List Int) (x14 : List T) (x15 : Int) (x32z : Bool) (x32 : List T) (x33 x34 : Int) (x64 : Bool) (c6_0 c6_1 : Int) (c6_2 c6_3 c6_4 : Int) (c7_0z : Bool) (c7_0 : List T) (c17_0 c17_1 : Int) (c17_2z : Bool) (c17_2 : List Int) (c17_3 : Int) (c17_4z : Bool) (c17_4 : List Int), rounds Tryz.prog spec_Gather.Cs (finish Tryz.prog [] Tryz.f6 [.v (.agg [(.int .i64 a0_0), (.int .i64 a0_1), (.int .i64 a0_2), (.int .i64 a0_3), (.int .i64 a0_4)]), .v (.agg [(.sl 85 a1_0z a1_0)]), .v (.sl 59 a2z a2), .v (.int .i64 a3), .v (.int .i64 a4), .v (.nums 5 .u8 a5z a5)]) 100000 k spec_Gather.K2 (spec_Gather.N2 x2z x2 x3 x4 x5z x5 x14 x15 x32z x32 x33 x34 x64 c6_0 c6_1 c6_2 c6_3 c6_4 c7_0z c7_0 c17_0 c17_1 c17_2z c17_2 c17_3 c17_4z c17_4) = (spec_Gather.l2 k x2z x2 x3 x4 x5z x5 x14 x15 x32z x32 x33 x34 x64 c6_0 c6_1 c6_2 c6_3 c6_4 c7_0z c7_0 c17_0 c17_1 c17_2z c17_2 c17_3 c17_4z c17_4).map spec_Gather.enc)
  | 0 => ⟨fun _ _ _ _ _ _ _ _ _ _ _ _ _ _ _ => rfl, fun _ _ _ _ _ _ _ _ _ _ _ _ _ _ _ _ _ _ _ => rfl, fun _ _ _ _ _ _ _ _ _ _ _ _ _ _ _ _ _ _ _ _ _ _ _ _ _ _ _ => rfl⟩
  | k + 1 => by
    have ih := spec_Gather.rq a0_0 a0_1 a0_2 a0_3 a0_4 a1_0z a1_0 a2z a2 a3 a4 a5z a5 k
    refine ⟨fun _ _ _ _ _ _ _ _ _ _ _ _ _ _ _ => ?_, fun _ _ _ _ _ _ _ _ _ _ _ _ _ _ _ _ _ _ _ => ?_, fun _ _ _ _ _ _ _ _ _ _ _ _ _ _ _ _ _ _ _ _ _ _ _ _ _ _ _ => ?_⟩
    · refine (spec_Gather.s0 k _ a0_0 a0_1 a0_2 a0_3 a0_4 a1_0z a1_0 a2z a2 a3 a4 a5z a5 _ _ _ _ _ _ _ _ _ _ _ _ _ _ _).trans (Eq.trans ?_ (spec_Gather.l0n spec_Gather.enc some (spec_Gather.l0 k) (spec_Gather.l1 k) (spec_Gather.l2 k) k _ _ _ _ _ _ _ _ _ _ _ _ _ _ _))
      simp only [ih.1, ih.2.1, ih.2.2, Option.map_some]
    · refine (spec_Gather.s1 k _ a0_0 a0_1 a0_2 a0_3 a0_4 a1_0z a1_0 a2z a2 a3 a4 a5z a5 _ _ _ _ _ _ _ _ _ _ _ _ _ _ _ _ _ _ _).trans (Eq.trans ?_ (spec_Gather.l1n spec_Gather.enc some (spec_Gather.l0 k) (spec_Gather.l1 k) (spec_Gather.l2 k) k _ _ _ _ _ _ _ _ _ _ _ _ _ _ _ _ _ _ _))
      simp only [ih.1, ih.2.1, ih.2.2, Option.map_some]
    · refine (spec_Gather.s2 k _ a0_0 a0_1 a0_2 a0_3 a0_4 a1_0z a1_0 a2z a2 a3 a4 a5z a5 _ _ _ _ _ _ _ _ _ _ _ _ _ _ _ _ _ _ _ _ _ _ _ _ _ _ _).trans (Eq.trans ?_ (spec_Gather.l2b_nat spec_Gather.enc some (spec_Gather.l0 k) (spec_Gather.l1 k) (spec_Gather.l2 k) k _ _ _ _ _ _ _ _ _ _ _ _ _ _ _ _ _ _ _ _ _ _ _ _ _ _ _))
      simp only [ih.1, ih.2.1, ih.2.2, Option.map_some]
theorem spec_Gather.eq (k : Nat) (a0_0 a0_1 : Int) (a0_2 a0_3 a0_4 : Int) (a1_0z : Bool) (a1_0 : List T) (a2z : Bool) (a2 : List T) (a3 a4 : Int) (a5z : Bool) (a5 : List Int) : answer Tryz.prog spec_Gather.Cs 100000 spec_Gather.cuts [] Tryz.f6 (k + 1) [.v (.agg [(.int .i64 a0_0), (.int .i64 a0_1), (.int .i64 a0_2), (.int .i64 a0_3), (.int .i64 a0_4)]), .v (.agg [(.sl 85 a1_0z a1_0)]), .v (.sl 59 a2z a2), .v (.int .i64 a3), .v (.int .i64 a4), .v (.nums 5 .u8 a5z a5)] = (spec_Gather.f (k + 1) a0_0 a0_1 a0_2 a0_3 a0_4 a1_0z a1_0 a2z a2 a3 a4 a5z a5).map spec_Gather.enc := by
  have ih := spec_Gather.rq a0_0 a0_1 a0_2 a0_3 a0_4 a1_0z a1_0 a2z a2 a3 a4 a5z a5 k
  refine Eq.trans (b := spec_Gather.b (fun r => some (spec_Gather.enc r)) (fun x2z x2 x3 x4 x5z x5 x14 x15 c6_0 c6_1 c6_2 c6_3 c6_4 c7_0z c7_0 => rounds Tryz.prog spec_Gather.Cs (finish Tryz.prog [] Tryz.f6 [.v (.agg [(.int .i64 a0_0), (.int .i64 a0_1), (.int .i64 a0_2), (.int .i64 a0_3), (.int .i64 a0_4)]), .v (.agg [(.sl 85 a1_0z a1_0)]), .v (.sl 59 a2z a2), .v (.int .i64 a3), .v (.int .i64 a4), .v (.nums 5 .u8 a5z a5)]) 100000 k spec_Gather.K0 (spec_Gather.N0 x2z x2 x3 x4 x5z x5 x14 x15 c6_0 c6_1 c6_2 c6_3 c6_4 c7_0z c7_0)) (fun x2z x2 x3 x4 x5z x5 x14 x15 x32z x32 x33 x34 c6_0 c6_1 c6_2 c6_3 c6_4 c7_0z c7_0 => rounds Tryz.prog spec_Gather.Cs (finish Tryz.prog [] Tryz.f6 [.v (.agg [(.int .i64 a0_0), (.int .i64 a0_1), (.int .i64 a0_2), (.int .i64 a0_3), (.int .i64 a0_4)]), .v (.agg [(.sl 85 a1_0z a1_0)]), .v (.sl 59 a2z a2), .v (.int .i64 a3), .v (.int .i64 a4), .v (.nums 5 .u8 a5z a5)]) 100000 k spec_Gather.K1 (spec_Gather.N1 x2z x2 x3 x4 x5z x5 x14 x15 x32z x32 x33 x34 c6_0 c6_1 c6_2 c6_3 c6_4 c7_0z c7_0)) (fun x2z x2 x3 x4 x5z x5 x14 x15 x32z x32 x33 x34 x64 c6_0 c6_1 c6_2 c6_3 c6_4 c7_0z c7_0 c17_0 c17_1 c17_2z c17_2 c17_3 c17_4z c17_4 => rounds Tryz.prog spec_Gather.Cs (finish Tryz.prog [] Tryz.f6 [.v (.agg [(.int .i64 a0_0), (.int .i64 a0_1), (.int .i64 a0_2), (.int .i64 a0_3), (.int .i64 a0_4)]), .v (.agg [(.sl 85 a1_0z a1_0)]), .v (.sl 59 a2z a2), .v (.int .i64 a3), .v (.int .i64 a4), .v (.nums 5 .u8 a5z a5)]) 100000 k spec_Gather.K2 (spec_Gather.N2 x2z x2 x3 x4 x5z x5 x14 x15 x32z x32 x33 x34 x64 c6_0 c6_1 c6_2 c6_3 c6_4 c7_0z c7_0 c17_0 c17_1 c17_2z c17_2 c17_3 c17_4z c17_4)) k a0_0 a0_1 a0_2 a0_3 a0_4 a1_0z a1_0 a2z a2 a3 a4 a5z a5) (by kernel_rfl) (Eq.trans ?_ (spec_Gather.bn spec_Gather.enc some (spec_Gather.l0 k) (spec_Gather.l1 k) (spec_Gather.l2 k) k a0_0 a0_1 a0_2 a0_3 a0_4 a1_0z a1_0 a2z a2 a3 a4 a5z a5))
  simp only [ih.1, ih.2.1, ih.2.2, Option.map_some]
theorem spec_Gather.sound (k : Nat) : SoundF Tryz.prog 6 (fun a => (spec_Gather.ans k a).val) := by
  refine sound_plain (fun args res h => ?_) (fun t n => rfl)
  unfold spec_Gather.ans at h
  dsimp only at h
  split at h
  · cases k with
    | zero => cases h
    | succ k =>
      unfold Ans.val at h
      rw [← spec_Gather.eq] at h
      exact answer_sound mixed Tryz.func6 _ _ _ (k + 1) (fun j _ => tab_sound (tab_cons (spec_l23Goes.sound j) (tab_cons (spec_QcFrom.sound j) (tab_cons (spec_SameBytes.sound j) (tab_cons (spec_QcCode.sound j) (tab_cons (spec_VoteGood.sound j) (tab_nil))))))) _ _ h
  · exact (Ans.no_val h).elim

def impl_within.b {R : Type} (ret : Bool → Option R) (k : Nat) (a0 a1 a2 : Int) : Option R :=
  cond (decide (a1 ≤ a0)) (ret (decide (a0 ≤ a2))) (ret false)
def impl_within.f : Nat → Int → Int → Int → Option Bool
  | 0, _, _, _ => none
  | k + 1, a0, a1, a2 => impl_within.b some k a0 a1 a2
def impl_within.enc (r : Bool) : Res := ⟨[.vals false [((.bool r), true)]], []⟩
def impl_within.ans (k : Nat) : List Arg → Ans
  | [.v (.int .i64 a0), .v (.int .i64 a1), .v (.int .i64 a2)] => ⟨impl_within.f k a0 a1 a2, impl_within.enc⟩
  | _ => Ans.no
def impl_within.Cs (k : Nat) : CallSem := tab []
theorem impl_within.eq (k : Nat) (a0 a1 a2 : Int) : answer Tryz.prog impl_within.Cs 100000 [] [] Tryz.f61 (k + 1) [.v (.int .i64 a0), .v (.int .i64 a1), .v (.int .i64 a2)] = (impl_within.f (k + 1) a0 a1 a2).map impl_within.enc := by
  refine Eq.trans (b := impl_within.b (fun r => some (impl_within.enc r)) k a0 a1 a2) (by kernel_rfl) ?_
  show _ = (impl_within.b some k a0 a1 a2).map impl_within.enc
  unfold impl_within.b
  repeat' first | with_reducible refine nat_cond ?_ ?_ | with_reducible refine nat_bind fun _ => ?_ | rfl
theorem impl_within.sound (k : Nat) : SoundF Tryz.prog 61 (fun a => (impl_within.ans k a).val) := by
  refine sound_plain (fun args res h => ?_) (fun t n => rfl)
  unfold impl_within.ans at h
  dsimp only at h
  split at h
  · cases k with
    | zero => cases h
    | succ k =>
      unfold Ans.val at h
      rw [← impl_within.eq] at h
      exact answer_sound mixed Tryz.func61 _ _ _ (k + 1) (fun j _ => tab_sound (tab_nil)) _ _ h
  · exact (Ans.no_val h).elim

def impl_LimitsOk.b {R : Type} (ret : Bool → Option R) (k : Nat) (a0_0 a0_1 : Int) (a0_2 a0_3 a0_4 : Int) : Option R :=
  (impl_within.f k a0_0 1 10).bind fun t0 => cond t0 ((impl_within.f k a0_1 0 40).bind fun t1 => cond t1 ((impl_within.f k a0_2 0 8).bind fun t2 => cond t2 ((impl_within.f k a0_3 1 4000).bind fun t3 => cond t3 ((impl_within.f k a0_4 3 5).bind fun t4 => ret t4) (ret false)) (ret false)) (ret false)) (ret false)
def impl_LimitsOk.f : Nat → Int → Int → Int → Int → Int → Option Bool
  | 0, _, _, _, _, _ => none
  | k + 1, a0_0, a0_1, a0_2, a0_3, a0_4 => impl_LimitsOk.b some k a0_0 a0_1 a0_2 a0_3 a0_4
def impl_LimitsOk.enc (r : Bool) : Res := ⟨[.vals false [((.bool r), true)]], []⟩
def impl_LimitsOk.ans (k : Nat) : List Arg → Ans
  | [.v (.agg [(.int .i64 a0_0), (.int .i64 a0_1), (.int .i64 a0_2), (.int .i64 a0_3), (.int .i64 a0_4)])] => ⟨impl_LimitsOk.f k a0_0 a0_1 a0_2 a0_3 a0_4, impl_LimitsOk.enc⟩
  | _ => Ans.no
def impl_LimitsOk.Cs (k : Nat) : CallSem := tab [(61, impl_within.ans k)]
theorem impl_LimitsOk.eq (k : Nat) (a0_0 a0_1 : Int) (a0_2 a0_3 a0_4 : Int) : answer Tryz.prog impl_LimitsOk.Cs 100000 [] [] Tryz.f57 (k + 1) [.v (.agg [(.int .i64 a0_0), (.int .i64 a0_1), (.int .i64 a0_2), (.int .i64 a0_3), (.int .i64 a0_4)])] = (impl_LimitsOk.f (k + 1) a0_0 a0_1 a0_2 a0_3 a0_4).map impl_LimitsOk.enc := by
  refine Eq.trans (b := impl_LimitsOk.b (fun r => some (impl_LimitsOk.enc r)) k a0_0 a0_1 a0_2 a0_3 a0_4) (by kernel_rfl) ?_
  show _ = (impl_LimitsOk.b some k a0_0 a0_1 a0_2 a0_3 a0_4).map impl_LimitsOk.enc
  unfold impl_LimitsOk.b
  repeat' first | with_reducible refine nat_cond ?_ ?_ | with_reducible refine nat_bind fun _ => ?_ | rfl
theorem impl_LimitsOk.sound (k : Nat) : SoundF Tryz.prog 57 (fun a => (impl_LimitsOk.ans k a).val) := by
  refine sound_plain (fun args res h => ?_) (fun t n => rfl)
  unfold impl_LimitsOk.ans at h
  dsimp only at h
  split at h
  · cases k with
    | zero => cases h
    | succ k =>
      unfold Ans.val at h
      rw [← impl_LimitsOk.eq] at h
      exact answer_sound mixed Tryz.func57 _ _ _ (k + 1) (fun j _ => tab_sound (tab_cons (impl_within.sound j) (tab_nil))) _ _ h
  · exact (Ans.no_val h).elim

def impl_TableOk.b {R : Type} (ret : Bool → Option R) (j0 : Bool → (List T) → Int → Int → Bool → (List T) → Option R) (k : Nat) (a0_0z : Bool) (a0_0 : List T) : Option R :=
  j0 a0_0z a0_0 ((a0_0).length : Int) 0 a0_0z a0_0
def impl_TableOk.l0b {R : Type} (ret : Bool → Option R) (j0 : Bool → (List T) → Int → Int → Bool → (List T) → Option R) (k : Nat) (x6z : Bool) (x6 : List T) (x7 x8 : Int) (c1_0z : Bool) (c1_0 : List T) : Option R :=
  cond (decide (x8 < x7)) (cond (decide (0 ≤ x8)) (cond (decide (x8 < ((x6).length : Int))) ((impl_within.f k (((((x6).getD (x8).toNat .bad).cells.getD 0 .bad)).toInt) 1 1099511627776).bind fun t0 => cond (!t0) (ret false) ((impl_within.f k ((((((x6).getD (x8).toNat .bad).cells.getD 1 .bad)).toNums).length : Int) 1 64).bind fun t1 => cond (!t1) (ret false) (j0 x6z x6 x7 (wrap64 (x8 + 1)) c1_0z c1_0))) (none)) (none)) ((impl_within.f k ((c1_0).length : Int) 1 10).bind fun t0 => ret t0)
def impl_TableOk.l0 : Nat → Bool → (List T) → Int → Int → Bool → (List T) → Option Bool
  | 0, _, _, _, _, _, _ => none
  | k + 1, x6z, x6, x7, x8, c1_0z, c1_0 => impl_TableOk.l0b some (impl_TableOk.l0 k) k x6z x6 x7 x8 c1_0z c1_0
def impl_TableOk.f : Nat → Bool → (List T) → Option Bool
  | 0, _, _ => none
  | k + 1, a0_0z, a0_0 => impl_TableOk.b some (impl_TableOk.l0 k) k a0_0z a0_0
def impl_TableOk.enc (r : Bool) : Res := ⟨[.vals false [((.bool r), true)]], []⟩
def impl_TableOk.ans (k : Nat) : List Arg → Ans
  | [.v (.agg [(.sl 85 a0_0z a0_0)])] => ⟨impl_TableOk.f k a0_0z a0_0, impl_TableOk.enc⟩
  | _ => Ans.no
def impl_TableOk.Cs (k : Nat) : CallSem := tab [(61, impl_within.ans k)]
def impl_TableOk.cuts : List (Nat × Keep) := [(26, ⟨[(1, some []), (6, some []), (7, some []), (8, some [])], [(1, [some []])]⟩)]
noncomputable def impl_TableOk.K0 : List Fr := framesAt [true, false, true, false] (bodyOf Tryz.f58 impl_TableOk.cuts) []
def impl_TableOk.N0 (x6z : Bool) (x6 : List T) (x7 x8 : Int) (c1_0z : Bool) (c1_0 : List T) : St := stOf 28 28 1 [(1, .bp 1 0), (6, .val ⟨(.sl 85 x6z x6), [], false, none⟩), (7, .val (V.s (.int .i64 x7))), (8, .val (V.s (.int .i64 x8)))] [(1, .cells [⟨(.sl 85 c1_0z c1_0), [], false, none⟩])]
theorem impl_TableOk.s0 (k : Nat) (G : List Fr → St → Option Res) (a0_0z : Bool) (a0_0 : List T) (yx6z : Bool) (yx6 : List T) (yx7 yx8 : Int) (yc1_0z : Bool) (yc1_0 : List T) : resume Tryz.prog (impl_TableOk.Cs k) G (finish Tryz.prog [] Tryz.f58 [.v (.agg [(.sl 85 a0_0z a0_0)])]) 100000 impl_TableOk.K0 (impl_TableOk.N0 yx6z yx6 yx7 yx8 yc1_0z yc1_0) = impl_TableOk.l0b (fun r => some (impl_TableOk.enc r)) (fun x6z x6 x7 x8 c1_0z c1_0 => G impl_TableOk.K0 (impl_TableOk.N0 x6z x6 x7 x8 c1_0z c1_0)) k yx6z yx6 yx7 yx8 yc1_0z yc1_0 := by kernel_rfl
theorem impl_TableOk.bn {R R' : Type} (e : R → R') (ret : Bool → Option R) (j0 : Bool → (List T) → Int → Int → Bool → (List T) → Option R) (k : Nat) (a0_0z : Bool) (a0_0 : List T) : impl_TableOk.b (fun r => (ret r).map e) (fun x6z x6 x7 x8 c1_0z c1_0 => (j0 x6z x6 x7 x8 c1_0z c1_0).map e) k a0_0z a0_0 = (impl_TableOk.b ret j0 k a0_0z a0_0).map e := by
  unfold impl_TableOk.b
  repeat' first | with_reducible refine nat_cond ?_ ?_ | with_reducible refine nat_bind fun _ => ?_ | rfl
theorem impl_TableOk.l0n {R R' : Type} (e : R → R') (ret : Bool → Option R) (j0 : Bool → (List T) → Int → Int → Bool → (List T) → Option R) (k : Nat) (x6z : Bool) (x6 : List T) (x7 x8 : Int) (c1_0z : Bool) (c1_0 : List T) : impl_TableOk.l0b (fun r => (ret r).map e) (fun x6z x6 x7 x8 c1_0z c1_0 => (j0 x6z x6 x7 x8 c1_0z c1_0).map e) k x6z x6 x7 x8 c1_0z c1_0 = (impl_TableOk.l0b ret j0 k x6z x6 x7 x8 c1_0z c1_0).map e := by
  unfold impl_TableOk.l0b
  repeat' first | with_reducible refine nat_cond ?_ ?_ | with_reducible refine nat_bind fun _ => ?_ | rfl
theorem impl_TableOk.rq (a0_0z : Bool) (a0_0 : List T) : ∀ k, (∀ (x6z : Bool) (x6 : List T) (x7 x8 : Int) (c1_0z : Bool) (c1_0 : List T), rounds Tryz.prog impl_TableOk.Cs (finish Tryz.prog [] Tryz.f58 [.v (.agg [(.sl 85 a0_0z a0_0)])]) 100000 k impl_TableOk.K0 (impl_TableOk.N0 x6z x6 x7 x8 c1_0z c1_0) = (impl_TableOk.l0 k x6z x6 x7 x8 c1_0z c1_0).map impl_TableOk.enc)
  | 0 => fun _ _ _ _ _ _ => rfl
  | k + 1 => by
    have ih := impl_TableOk.rq a0_0z a0_0 k
    refine fun _ _ _ _ _ _ => ?_
    · refine (impl_TableOk.s0 k _ a0_0z a0_0 _ _ _ _ _ _).trans (Eq.trans ?_ (impl_TableOk.l0n impl_TableOk.enc some (impl_TableOk.l0 k) k _ _ _ _ _ _))
      simp only [ih, Option.map_some]
theorem impl_TableOk.eq (k : Nat) (a0_0z : Bool) (a0_0 : List T) : answer Tryz.prog impl_TableOk.Cs 100000 impl_TableOk.cuts [] Tryz.f58 (k + 1) [.v (.agg [(.sl 85 a0_0z a0_0)])] = (impl_TableOk.f (k + 1) a0_0z a0_0).map impl_TableOk.enc := by
  have ih := impl_TableOk.rq a0_0z a0_0 k
  refine Eq.trans (b := impl_TableOk.b (fun r => some (impl_TableOk.enc r)) (fun x6z x6 x7 x8 c1_0z c1_0 => rounds Tryz.prog impl_TableOk.Cs (finish Tryz.prog [] Tryz.f58 [.v (.agg [(.sl 85 a0_0z a0_0)])]) 100000 k impl_TableOk.K0 (impl_TableOk.N0 x6z x6 x7 x8 c1_0z c1_0)) k a0_0z a0_0) (by kernel_rfl) (Eq.trans ?_ (impl_TableOk.bn impl_TableOk.enc some (impl_TableOk.l0 k) k a0_0z a0_0))
  simp only [ih, Option.map_some]
theorem impl_TableOk.sound (k : Nat) : SoundF Tryz.prog 58 (fun a => (impl_TableOk.ans k a).val) := by
  refine sound_plain (fun args res h => ?_) (fun t n => rfl)
  unfold impl_TableOk.ans at h
  dsimp only at h
  split at h
  · cases k with
    | zero => cases h
    | succ k =>
      unfold Ans.val at h
      rw [← impl_TableOk.eq] at h
      exact answer_sound mixed Tryz.func58 _ _ _ (k + 1) (fun j _ => tab_sound (tab_cons (impl_within.sound j) (tab_nil))) _ _ h
  · exact (Ans.no_val h).elim

def impl_belongs.b {R : Type} (ret : Bool → Option R) (k : Nat) (a0_0 a0_1 : Int) (a0_2 a0_3 a0_4 : Int) (a1_0z : Bool) (a1_0 : List T) : Option R :=
  (impl_LimitsOk.f k a0_0 a0_1 a0_2 a0_3 a0_4).bind fun t0 => cond t0 ((impl_TableOk.f k a1_0z a1_0).bind fun t1 => cond t1 (ret (decide (((a1_0).length : Int) = a0_0))) (ret false)) (ret false)
def impl_belongs.f : Nat → Int → Int → Int → Int → Int → Bool → (List T) → Option Bool
  | 0, _, _, _, _, _, _, _ => none
  | k + 1, a0_0, a0_1, a0_2, a0_3, a0_4, a1_0z, a1_0 => impl_belongs.b some k a0_0 a0_1 a0_2 a0_3 a0_4 a1_0z a1_0
def impl_belongs.enc (r : Bool) : Res := ⟨[.vals false [((.bool r), true)]], []⟩
def impl_belongs.ans (k : Nat) : List Arg → Ans
  | [.v (.agg [(.int .i64 a0_0), (.int .i64 a0_1), (.int .i64 a0_2), (.int .i64 a0_3), (.int .i64 a0_4)]), .v (.agg [(.sl 85 a1_0z a1_0)])] => ⟨impl_belongs.f k a0_0 a0_1 a0_2 a0_3 a0_4 a1_0z a1_0, impl_belongs.enc⟩
  | _ => Ans.no
def impl_belongs.Cs (k : Nat) : CallSem := tab [(57, impl_LimitsOk.ans k), (58, impl_TableOk.ans k)]
theorem impl_belongs.eq (k : Nat) (a0_0 a0_1 : Int) (a0_2 a0_3 a0_4 : Int) (a1_0z : Bool) (a1_0 : List T) : answer Tryz.prog impl_belongs.Cs 100000 [] [] Tryz.f30 (k + 1) [.v (.agg [(.int .i64 a0_0), (.int .i64 a0_1), (.int .i64 a0_2), (.int .i64 a0_3), (.int .i64 a0_4)]), .v (.agg [(.sl 85 a1_0z a1_0)])] = (impl_belongs.f (k + 1) a0_0 a0_1 a0_2 a0_3 a0_4 a1_0z a1_0).map impl_belongs.enc := by
  refine Eq.trans (b := impl_belongs.b (fun r => some (impl_belongs.enc r)) k a0_0 a0_1 a0_2 a0_3 a0_4 a1_0z a1_0) (by kernel_rfl) ?_
  show _ = (impl_belongs.b some k a0_0 a0_1 a0_2 a0_3 a0_4 a1_0z a1_0).map impl_belongs.enc
  unfold impl_belongs.b
  repeat' first | with_reducible refine nat_cond ?_ ?_ | with_reducible refine nat_bind fun _ => ?_ | rfl
theorem impl_belongs.sound (k : Nat) : SoundF Tryz.prog 30 (fun a => (impl_belongs.ans k a).val) := by
  refine sound_plain (fun args res h => ?_) (fun t n => rfl)
  unfold impl_belongs.ans at h
  dsimp only at h
  split at h
  · cases k with
    | zero => cases h
    | succ k =>
      unfold Ans.val at h
      rw [← impl_belongs.eq] at h
      exact answer_sound mixed Tryz.func30 _ _ _ (k + 1) (fun j _ => tab_sound (tab_cons (impl_LimitsOk.sound j) (tab_cons (impl_TableOk.sound j) (tab_nil)))) _ _ h
  · exact (Ans.no_val h).elim

def impl_copyBytes.b {R : Type} (ret : Bool × List Int → Option R) (k : Nat) (a0z : Bool) (a0 : List Int) : Option R :=
  cond (decide (0 + (a0).length < 140737488355328)) (ret (((a0).isEmpty && false), a0)) (none)
def impl_copyBytes.f : Nat → Bool → (List Int) → Option (Bool × List Int)
  | 0, _, _ => none
  | k + 1, a0z, a0 => impl_copyBytes.b some k a0z a0
def impl_copyBytes.enc (r : Bool × List Int) : Res := ⟨[.vals false [((.nums 5 .u8 r.1 r.2), true)]], []⟩
def impl_copyBytes.ans (k : Nat) : List Arg → Ans
  | [.v (.nums 5 .u8 a0z a0)] => ⟨impl_copyBytes.f k a0z a0, impl_copyBytes.enc⟩
  | _ => Ans.no
def impl_copyBytes.Cs (k : Nat) : CallSem := tab []
theorem impl_copyBytes.eq (k : Nat) (a0z : Bool) (a0 : List Int) : answer Tryz.prog impl_copyBytes.Cs 100000 [] [] Tryz.f31 (k + 1) [.v (.nums 5 .u8 a0z a0)] = (impl_copyBytes.f (k + 1) a0z a0).map impl_copyBytes.enc := by
  refine Eq.trans (b := impl_copyBytes.b (fun r => some (impl_copyBytes.enc r)) k a0z a0) (by kernel_rfl) ?_
  show _ = (impl_copyBytes.b some k a0z a0).map impl_copyBytes.enc
  unfold impl_copyBytes.b
  repeat' first | with_reducible refine nat_cond ?_ ?_ | with_reducible refine nat_bind fun _ => ?_ | rfl
theorem impl_copyBytes.sound (k : Nat) : SoundF Tryz.prog 31 (fun a => (impl_copyBytes.ans k a).val) := by
  refine sound_plain (fun args res h => ?_) (fun t n => rfl)
  unfold impl_copyBytes.ans at h
  dsimp only at h
  split at h
  · cases k with
    | zero => cases h
    | succ k =>
      unfold Ans.val at h
      rw [← impl_copyBytes.eq] at h
      exact answer_sound mixed Tryz.func31 _ _ _ (k + 1) (fun j _ => tab_sound (tab_nil)) _ _ h
  · exact (Ans.no_val h).elim

def impl_SameBytes.b {R : Type} (ret : Bool → Option R) (k : Nat) (a0z : Bool) (a0 : List Int) (a1z : Bool) (a1 : List Int) : Option R :=
  ret (decide ((strOf a0) = (strOf a1)))
def impl_SameBytes.f : Nat → Bool → (List Int) → Bool → (List Int) → Option Bool
  | 0, _, _, _, _ => none
  | k + 1, a0z, a0, a1z, a1 => impl_SameBytes.b some k a0z a0 a1z a1
def impl_SameBytes.enc (r : Bool) : Res := ⟨[.vals false [((.bool r), true)]], []⟩
def impl_SameBytes.ans (k : Nat) : List Arg → Ans
  | [.v (.nums 5 .u8 a0z a0), .v (.nums 5 .u8 a1z a1)] => ⟨impl_SameBytes.f k a0z a0 a1z a1, impl_SameBytes.enc⟩
  | _ => Ans.no
def impl_SameBytes.Cs (k : Nat) : CallSem := tab []
theorem impl_SameBytes.eq (k : Nat) (a0z : Bool) (a0 : List Int) (a1z : Bool) (a1 : List Int) : answer Tryz.prog impl_SameBytes.Cs 100000 [] [] Tryz.f34 (k + 1) [.v (.nums 5 .u8 a0z a0), .v (.nums 5 .u8 a1z a1)] = (impl_SameBytes.f (k + 1) a0z a0 a1z a1).map impl_SameBytes.enc := by
  refine Eq.trans (b := impl_SameBytes.b (fun r => some (impl_SameBytes.enc r)) k a0z a0 a1z a1) (by kernel_rfl) ?_
  show _ = (impl_SameBytes.b some k a0z a0 a1z a1).map impl_SameBytes.enc
  unfold impl_SameBytes.b
  repeat' first | with_reducible refine nat_cond ?_ ?_ | with_reducible refine nat_bind fun _ => ?_ | rfl
theorem impl_SameBytes.sound (k : Nat) : SoundF Tryz.prog 34 (fun a => (impl_SameBytes.ans k a).val) := by
  refine sound_plain (fun args res h => ?_) (fun t n => rfl)
  unfold impl_SameBytes.ans at h
  dsimp only at h
  split at h
  · cases k with
    | zero => cases h
    | succ k =>
      unfold Ans.val at h
      rw [← impl_SameBytes.eq] at h
      exact answer_sound mixed Tryz.func34 _ _ _ (k + 1) (fun j _ => tab_sound (tab_nil)) _ _ h
  · exact (Ans.no_val h).elim

def impl_isNum.b {R : Type} (ret : Bool → Option R) (k : Nat) (a0 : Int) : Option R :=
  (impl_within.f k a0 0 1152921504606846975).bind fun t0 => ret t0
def impl_isNum.f : Nat → Int → Option Bool
  | 0, _ => none
  | k + 1, a0 => impl_isNum.b some k a0
def impl_isNum.enc (r : Bool) : Res := ⟨[.vals false [((.bool r), true)]], []⟩
def impl_isNum.ans (k : Nat) : List Arg → Ans
  | [.v (.int .i64 a0)] => ⟨impl_isNum.f k a0, impl_isNum.enc⟩
  | _ => Ans.no
def impl_isNum.Cs (k : Nat) : CallSem := tab [(61, impl_within.ans k)]
theorem impl_isNum.eq (k : Nat) (a0 : Int) : answer Tryz.prog impl_isNum.Cs 100000 [] [] Tryz.f84 (k + 1) [.v (.int .i64 a0)] = (impl_isNum.f (k + 1) a0).map impl_isNum.enc := by
  refine Eq.trans (b := impl_isNum.b (fun r => some (impl_isNum.enc r)) k a0) (by kernel_rfl) ?_
  show _ = (impl_isNum.b some k a0).map impl_isNum.enc
  unfold impl_isNum.b
  repeat' first | with_reducible refine nat_cond ?_ ?_ | with_reducible refine nat_bind fun _ => ?_ | rfl
theorem impl_isNum.sound (k : Nat) : SoundF Tryz.prog 84 (fun a => (impl_isNum.ans k a).val) := by
  refine sound_plain (fun args res h => ?_) (fun t n => rfl)
  unfold impl_isNum.ans at h
  dsimp only at h
  split at h
  · cases k with
    | zero => cases h
    | succ k =>
      unfold Ans.val at h
      rw [← impl_isNum.eq] at h
      exact answer_sound mixed Tryz.func84 _ _ _ (k + 1) (fun j _ => tab_sound (tab_cons (impl_within.sound j) (tab_nil))) _ _ h
  · exact (Ans.no_val h).elim

def impl_PutVar.b {R : Type} (ret : Bool × (List Int) × Bool → Option R) (j0 : Int → Bool → (List Int) → Option R) (k : Nat) (a0z : Bool) (a0 : List Int) (a1 : Int) : Option R :=
  (impl_isNum.f k a1).bind fun t0 => cond (!t0) (ret (true, ([] : List Int), false)) ((impl_copyBytes.f k a0z a0).bind fun t1 => j0 a1 t1.1 t1.2)
def impl_PutVar.l0b {R : Type} (ret : Bool × (List Int) × Bool → Option R) (j0 : Int → Bool → (List Int) → Option R) (k : Nat) (x1 : Int) (x6z : Bool) (x6 : List Int) : Option R :=
  cond (decide (x1 ≥ 128)) (cond (decide ((x6).length + 1 < 140737488355328)) (j0 (wrap64 (Int.tdiv x1 128)) false (x6 ++ ([(((wrap64 ((Int.tmod x1 128) + 128))) % 256)] : List Int))) (none)) (cond (decide ((x6).length + 1 < 140737488355328)) (ret (false, (x6 ++ ([((x1) % 256)] : List Int)), true)) (none))
def impl_PutVar.l0 : Nat → Int → Bool → (List Int) → Option (Bool × (List Int) × Bool)
  | 0, _, _, _ => none
  | k + 1, x1, x6z, x6 => impl_PutVar.l0b some (impl_PutVar.l0 k) k x1 x6z x6
def impl_PutVar.f : Nat → Bool → (List Int) → Int → Option (Bool × (List Int) × Bool)
  | 0, _, _, _ => none
  | k + 1, a0z, a0, a1 => impl_PutVar.b some (impl_PutVar.l0 k) k a0z a0 a1
def impl_PutVar.enc (r : Bool × (List Int) × Bool) : Res := ⟨[.vals false [((.nums 5 .u8 r.1 r.2.1), true)], .vals false [((.bool r.2.2), true)]], []⟩
def impl_PutVar.ans (k : Nat) : List Arg → Ans
  | [.v (.nums 5 .u8 a0z a0), .v (.int .i64 a1)] => ⟨impl_PutVar.f k a0z a0 a1, impl_PutVar.enc⟩
  | _ => Ans.no
def impl_PutVar.Cs (k : Nat) : CallSem := tab [(31, impl_copyBytes.ans k), (84, impl_isNum.ans k)]
def impl_PutVar.cuts : List (Nat × Keep) := [(60, ⟨[(1, some []), (6, none)], []⟩)]
noncomputable def impl_PutVar.K0 : List Fr := framesAt [true, true, true, false, false] (bodyOf Tryz.f106 impl_PutVar.cuts) []
def impl_PutVar.N0 (x1 : Int) (x6z : Bool) (x6 : List Int) : St := stOf 28 28 2 [(1, .val (V.s (.int .i64 x1))), (6, .val ⟨(.nums 5 .u8 x6z x6), [.l 6 0], true, some (.l 6 0)⟩)] []
theorem impl_PutVar.s0 (k : Nat) (G : List Fr → St → Option Res) (a0z : Bool) (a0 : List Int) (a1 yx1 : Int) (yx6z : Bool) (yx6 : List Int) : resume Tryz.prog (impl_PutVar.Cs k) G (finish Tryz.prog [] Tryz.f106 [.v (.nums 5 .u8 a0z a0), .v (.int .i64 a1)]) 100000 impl_PutVar.K0 (impl_PutVar.N0 yx1 yx6z yx6) = impl_PutVar.l0b (fun r => some (impl_PutVar.enc r)) (fun x1 x6z x6 => G impl_PutVar.K0 (impl_PutVar.N0 x1 x6z x6)) k yx1 yx6z yx6 := by kernel_rfl
theorem impl_PutVar.bn {R R' : Type} (e : R → R') (ret : Bool × (List Int) × Bool → Option R) (j0 : Int → Bool → (List Int) → Option R) (k : Nat) (a0z : Bool) (a0 : List Int) (a1 : Int) : impl_PutVar.b (fun r => (ret r).map e) (fun x1 x6z x6 => (j0 x1 x6z x6).map e) k a0z a0 a1 = (impl_PutVar.b ret j0 k a0z a0 a1).map e := by
  unfold impl_PutVar.b
  repeat' first | with_reducible refine nat_cond ?_ ?_ | with_reducible refine nat_bind fun _ => ?_ | rfl
theorem impl_PutVar.l0n {R R' : Type} (e : R → R') (ret : Bool × (List Int) × Bool → Option R) (j0 : Int → Bool → (List Int) → Option R) (k : Nat) (x1 : Int) (x6z : Bool) (x6 : List Int) : impl_PutVar.l0b (fun r => (ret r).map e) (fun x1 x6z x6 => (j0 x1 x6z x6).map e) k x1 x6z x6 = (impl_PutVar.l0b ret j0 k x1 x6z x6).map e := by
  unfold impl_PutVar.l0b
  repeat' first | with_reducible refine nat_cond ?_ ?_ | with_reducible refine nat_bind fun _ => ?_ | rfl
theorem impl_PutVar.rq (a0z : Bool) (a0 : List Int) (a1 : Int) : ∀ k, (∀ (x1 : Int) (x6z : Bool) (x6 : List Int), rounds Tryz.prog impl_PutVar.Cs (finish Tryz.prog [] Tryz.f106 [.v (.nums 5 .u8 a0z a0), .v (.int .i64 a1)]) 100000 k impl_PutVar.K0 (impl_PutVar.N0 x1 x6z x6) = (impl_PutVar.l0 k x1 x6z x6).map impl_PutVar.enc)
  | 0 => fun _ _ _ => rfl
  | k + 1 => by
    have ih := impl_PutVar.rq a0z a0 a1 k
    refine fun _ _ _ => ?_
    · refine (impl_PutVar.s0 k _ a0z a0 a1 _ _ _).trans (Eq.trans ?_ (impl_PutVar.l0n impl_PutVar.enc some (impl_PutVar.l0 k) k _ _ _))
      simp only [ih, Option.map_some]
theorem impl_PutVar.eq (k : Nat) (a0z : Bool) (a0 : List Int) (a1 : Int) : answer Tryz.prog impl_PutVar.Cs 100000 impl_PutVar.cuts [] Tryz.f106 (k + 1) [.v (.nums 5 .u8 a0z a0), .v (.int .i64 a1)] = (impl_PutVar.f (k + 1) a0z a0 a1).map impl_PutVar.enc := by
  have ih := impl_PutVar.rq a0z a0 a1 k
  refine Eq.trans (b := impl_PutVar.b (fun r => some (impl_PutVar.enc r)) (fun x1 x6z x6 => rounds Tryz.prog impl_PutVar.Cs (finish Tryz.prog [] Tryz.f106 [.v (.nums 5 .u8 a0z a0), .v (.int .i64 a1)]) 100000 k impl_PutVar.K0 (impl_PutVar.N0 x1 x6z x6)) k a0z a0 a1) (by kernel_rfl) (Eq.trans ?_ (impl_PutVar.bn impl_PutVar.enc some (impl_PutVar.l0 k) k a0z a0 a1))
  simp only [ih, Option.map_some]
theorem impl_PutVar.sound (k : Nat) : SoundF Tryz.prog 106 (fun a => (impl_PutVar.ans k a).val) := by
  refine sound_plain (fun args res h => ?_) (fun t n => rfl)
  unfold impl_PutVar.ans at h
  dsimp only at h
  split at h
  · cases k with
    | zero => cases h
    | succ k =>
      unfold Ans.val at h
      rw [← impl_PutVar.eq] at h
      exact answer_sound mixed Tryz.func106 _ _ _ (k + 1) (fun j _ => tab_sound (tab_cons (impl_copyBytes.sound j) (tab_cons (impl_isNum.sound j) (tab_nil)))) _ _ h
  · exact (Ans.no_val h).elim

def impl_numbers.b {R : Type} (ret : Bool × List Int → Option R) (j0 : Bool → (List Int) → Bool → (List Int) → Int → Int → Option R) (k : Nat) (a0 : Int) (a1z : Bool) (a1 : List Int) : Option R :=
  j0 false ([a0] : List Int) a1z a1 ((a1).length : Int) 0
def impl_numbers.l0b {R : Type} (ret : Bool × List Int → Option R) (j0 : Bool → (List Int) → Bool → (List Int) → Int → Int → Option R) (k : Nat) (x5z : Bool) (x5 : List Int) (x12z : Bool) (x12 : List Int) (x13 x14 : Int) : Option R :=
  cond (decide (x14 < x13)) (cond (decide (0 ≤ x14)) (cond (decide (x14 < ((x12).length : Int))) ((impl_PutVar.f k x5z x5 (rdI x12 x14)).bind fun t0 => cond (!t0.2.2) (ret (true, ([] : List Int))) (j0 t0.1 t0.2.1 x12z x12 x13 (wrap64 (x14 + 1)))) (none)) (none)) (ret (x5z, x5))
def impl_numbers.l0 : Nat → Bool → (List Int) → Bool → (List Int) → Int → Int → Option (Bool × List Int)
  | 0, _, _, _, _, _, _ => none
  | k + 1, x5z, x5, x12z, x12, x13, x14 => impl_numbers.l0b some (impl_numbers.l0 k) k x5z x5 x12z x12 x13 x14
def impl_numbers.f : Nat → Int → Bool → (List Int) → Option (Bool × List Int)
  | 0, _, _, _ => none
  | k + 1, a0, a1z, a1 => impl_numbers.b some (impl_numbers.l0 k) k a0 a1z a1
def impl_numbers.enc (r : Bool × List Int) : Res := ⟨[.vals false [((.nums 5 .u8 r.1 r.2), true)]], []⟩
def impl_numbers.ans (k : Nat) : List Arg → Ans
  | [.v (.int .u8 a0), .v (.nums 3 .i64 a1z a1)] => ⟨impl_numbers.f k a0 a1z a1, impl_numbers.enc⟩
  | _ => Ans.no
def impl_numbers.Cs (k : Nat) : CallSem := tab [(106, impl_PutVar.ans k)]
def impl_numbers.cuts : List (Nat × Keep) := [(58, ⟨[(5, none), (12, some []), (13, some []), (14, some [])], []⟩)]
noncomputable def impl_numbers.K0 : List Fr := framesAt [true, true, false, true, false] (bodyOf Tryz.f96 impl_numbers.cuts) []
def impl_numbers.N0 (x5z : Bool) (x5 : List Int) (x12z : Bool) (x12 : List Int) (x13 x14 : Int) : St := stOf 29 29 2 [(5, .val ⟨(.nums 5 .u8 x5z x5), [.l 5 0], true, some (.l 5 0)⟩), (12, .val ⟨(.nums 3 .i64 x12z x12), [], false, none⟩), (13, .val (V.s (.int .i64 x13))), (14, .val (V.s (.int .i64 x14)))] []
theorem impl_numbers.s0 (k : Nat) (G : List Fr → St → Option Res) (a0 : Int) (a1z : Bool) (a1 : List Int) (yx5z : Bool) (yx5 : List Int) (yx12z : Bool) (yx12 : List Int) (yx13 yx14 : Int) : resume Tryz.prog (impl_numbers.Cs k) G (finish Tryz.prog [] Tryz.f96 [.v (.int .u8 a0), .v (.nums 3 .i64 a1z a1)]) 100000 impl_numbers.K0 (impl_numbers.N0 yx5z yx5 yx12z yx12 yx13 yx14) = impl_numbers.l0b (fun r => some (impl_numbers.enc r)) (fun x5z x5 x12z x12 x13 x14 => G impl_numbers.K0 (impl_numbers.N0 x5z x5 x12z x12 x13 x14)) k yx5z yx5 yx12z yx12 yx13 yx14 := by kernel_rfl
theorem impl_numbers.bn {R R' : Type} (e : R → R') (ret : Bool × List Int → Option R) (j0 : Bool → (List Int) → Bool → (List Int) → Int → Int → Option R) (k : Nat) (a0 : Int) (a1z : Bool) (a1 : List Int) : impl_numbers.b (fun r => (ret r).map e) (fun x5z x5 x12z x12 x13 x14 => (j0 x5z x5 x12z x12 x13 x14).map e) k a0 a1z a1 = (impl_numbers.b ret j0 k a0 a1z a1).map e := by
  unfold impl_numbers.b
  repeat' first | with_reducible refine nat_cond ?_ ?_ | with_reducible refine nat_bind fun _ => ?_ | rfl
theorem impl_numbers.l0n {R R' : Type} (e : R → R') (ret : Bool × List Int → Option R) (j0 : Bool → (List Int) → Bool → (List Int) → Int → Int → Option R) (k : Nat) (x5z : Bool) (x5 : List Int) (x12z : Bool) (x12 : List Int) (x13 x14 : Int) : impl_numbers.l0b (fun r => (ret r).map e) (fun x5z x5 x12z x12 x13 x14 => (j0 x5z x5 x12z x12 x13 x14).map e) k x5z x5 x12z x12 x13 x14 = (impl_numbers.l0b ret j0 k x5z x5 x12z x12 x13 x14).map e := by
  unfold impl_numbers.l0b
  repeat' first | with_reducible refine nat_cond ?_ ?_ | with_reducible refine nat_bind fun _ => ?_ | rfl
theorem impl_numbers.rq (a0 : Int) (a1z : Bool) (a1 : List Int) : ∀ k, (∀ (x5z : Bool) (x5 : List Int) (x12z : Bool) (x12 : List Int) (x13 x14 : Int), rounds Tryz.prog impl_numbers.Cs (finish Tryz.prog [] Tryz.f96 [.v (.int .u8 a0), .v (.nums 3 .i64 a1z a1)]) 100000 k impl_numbers.K0 (impl_numbers.N0 x5z x5 x12z x12 x13 x14) = (impl_numbers.l0 k x5z x5 x12z x12 x13 x14).map impl_numbers.enc)
  | 0 => fun _ _ _ _ _ _ => rfl
  | k + 1 => by
    have ih := impl_numbers.rq a0 a1z a1 k
    refine fun _ _ _ _ _ _ => ?_
    · refine (impl_numbers.s0 k _ a0 a1z a1 _ _ _ _ _ _).trans (Eq.trans ?_ (impl_numbers.l0n impl_numbers.enc some (impl_numbers.l0 k) k _ _ _ _ _ _))
      simp only [ih, Option.map_some]
theorem impl_numbers.eq (k : Nat) (a0 : Int) (a1z : Bool) (a1 : List Int) : answer Tryz.prog impl_numbers.Cs 100000 impl_numbers.cuts [] Tryz.f96 (k + 1) [.v (.int .u8 a0), .v (.nums 3 .i64 a1z a1)] = (impl_numbers.f (k + 1) a0 a1z a1).map impl_numbers.enc := by
  have ih := impl_numbers.rq a0 a1z a1 k
  refine Eq.trans (b := impl_numbers.b (fun r => some (impl_numbers.enc r)) (fun x5z x5 x12z x12 x13 x14 => rounds Tryz.prog impl_numbers.Cs (finish Tryz.prog [] Tryz.f96 [.v (.int .u8 a0), .v (.nums 3 .i64 a1z a1)]) 100000 k impl_numbers.K0 (impl_numbers.N0 x5z x5 x12z x12 x13 x14)) k a0 a1z a1) (by kernel_rfl) (Eq.trans ?_ (impl_numbers.bn impl_numbers.enc some (impl_numbers.l0 k) k a0 a1z a1))
  simp only [ih, Option.map_some]
theorem impl_numbers.sound (k : Nat) : SoundF Tryz.prog 96 (fun a => (impl_numbers.ans k a).val) := by
  refine sound_plain (fun args res h => ?_) (fun t n => rfl)
  unfold impl_numbers.ans at h
  dsimp only at h
  split at h
  · cases k with
    | zero => cases h
    | succ k =>
      unfold Ans.val at h
      rw [← impl_numbers.eq] at h
      exact answer_sound mixed Tryz.func96 _ _ _ (k + 1) (fun j _ => tab_sound (tab_cons (impl_PutVar.sound j) (tab_nil))) _ _ h
  · exact (Ans.no_val h).elim

def impl_areHashes.b {R : Type} (ret : Bool → Option R) (j0 : Bool → (List T) → Int → Int → Option R) (k : Nat) (a0z : Bool) (a0 : List T) : Option R :=
  j0 a0z a0 ((a0).length : Int) 0
def impl_areHashes.l0b {R : Type} (ret : Bool → Option R) (j0 : Bool → (List T) → Int → Int → Option R) (k : Nat) (x5z : Bool) (x5 : List T) (x6 x7 : Int) : Option R :=
  cond (decide (x7 < x6)) (cond (decide (0 ≤ x7)) (cond (decide (x7 < ((x5).length : Int))) (cond (!(decide (((((((x5).getD (x7).toNat .bad).cells.getD 0 .bad)).toNums).length : Int) = 32))) (ret false) (j0 x5z x5 x6 (wrap64 (x7 + 1)))) (none)) (none)) (ret true)
def impl_areHashes.l0 : Nat → Bool → (List T) → Int → Int → Option Bool
  | 0, _, _, _, _ => none
  | k + 1, x5z, x5, x6, x7 => impl_areHashes.l0b some (impl_areHashes.l0 k) k x5z x5 x6 x7
def impl_areHashes.f : Nat → Bool → (List T) → Option Bool
  | 0, _, _ => none
  | k + 1, a0z, a0 => impl_areHashes.b some (impl_areHashes.l0 k) k a0z a0
def impl_areHashes.enc (r : Bool) : Res := ⟨[.vals false [((.bool r), true)]], []⟩
def impl_areHashes.ans (k : Nat) : List Arg → Ans
  | [.v (.sl 28 a0z a0)] => ⟨impl_areHashes.f k a0z a0, impl_areHashes.enc⟩
  | _ => Ans.no
def impl_areHashes.Cs (k : Nat) : CallSem := tab []
def impl_areHashes.cuts : List (Nat × Keep) := [(26, ⟨[(5, some []), (6, some []), (7, some [])], []⟩)]
noncomputable def impl_areHashes.K0 : List Fr := framesAt [true, false, true, false] (bodyOf Tryz.f85 impl_areHashes.cuts) []
def impl_areHashes.N0 (x5z : Bool) (x5 : List T) (x6 x7 : Int) : St := stOf 15 15 1 [(5, .val ⟨(.sl 28 x5z x5), [], false, none⟩), (6, .val (V.s (.int .i64 x6))), (7, .val (V.s (.int .i64 x7)))] []
theorem impl_areHashes.s0 (k : Nat) (G : List Fr → St → Option Res) (a0z : Bool) (a0 : List T) (yx5z : Bool) (yx5 : List T) (yx6 yx7 : Int) : resume Tryz.prog (impl_areHashes.Cs k) G (finish Tryz.prog [] Tryz.f85 [.v (.sl 28 a0z a0)]) 100000 impl_areHashes.K0 (impl_areHashes.N0 yx5z yx5 yx6 yx7) = impl_areHashes.l0b (fun r => some (impl_areHashes.enc r)) (fun x5z x5 x6 x7 => G impl_areHashes.K0 (impl_areHashes.N0 x5z x5 x6 x7)) k yx5z yx5 yx6 yx7 := by kernel_rfl
theorem impl_areHashes.bn {R R' : Type} (e : R → R') (ret : Bool → Option R) (j0 : Bool → (List T) → Int → Int → Option R) (k : Nat) (a0z : Bool) (a0 : List T) : impl_areHashes.b (fun r => (ret r).map e) (fun x5z x5 x6 x7 => (j0 x5z x5 x6 x7).map e) k a0z a0 = (impl_areHashes.b ret j0 k a0z a0).map e := by
  unfold impl_areHashes.b
  repeat' first | with_reducible refine nat_cond ?_ ?_ | with_reducible refine nat_bind fun _ => ?_ | rfl
theorem impl_areHashes.l0n {R R' : Type} (e : R → R') (ret : Bool → Option R) (j0 : Bool → (List T) → Int → Int → Option R) (k : Nat) (x5z : Bool) (x5 : List T) (x6 x7 : Int) : impl_areHashes.l0b (fun r => (ret r).map e) (fun x5z x5 x6 x7 => (j0 x5z x5 x6 x7).map e) k x5z x5 x6 x7 = (impl_areHashes.l0b ret j0 k x5z x5 x6 x7).map e := by
  unfold impl_areHashes.l0b
  repeat' first | with_reducible refine nat_cond ?_ ?_ | with_reducible refine nat_bind fun _ => ?_ | rfl
theorem impl_areHashes.rq (a0z : Bool) (a0 : List T) : ∀ k, (∀ (x5z : Bool) (x5 : List T) (x6 x7 : Int), rounds Tryz.prog impl_areHashes.Cs (finish Tryz.prog [] Tryz.f85 [.v (.sl 28 a0z a0)]) 100000 k impl_areHashes.K0 (impl_areHashes.N0 x5z x5 x6 x7) = (impl_areHashes.l0 k x5z x5 x6 x7).map impl_areHashes.enc)
  | 0 => fun _ _ _ _ => rfl
  | k + 1 => by
    have ih := impl_areHashes.rq a0z a0 k
    refine fun _ _ _ _ => ?_
    · refine (impl_areHashes.s0 k _ a0z a0 _ _ _ _).trans (Eq.trans ?_ (impl_areHashes.l0n impl_areHashes.enc some (impl_areHashes.l0 k) k _ _ _ _))
      simp only [ih, Option.map_some]
theorem impl_areHashes.eq (k : Nat) (a0z : Bool) (a0 : List T) : answer Tryz.prog impl_areHashes.Cs 100000 impl_areHashes.cuts [] Tryz.f85 (k + 1) [.v (.sl 28 a0z a0)] = (impl_areHashes.f (k + 1) a0z a0).map impl_areHashes.enc := by
  have ih := impl_areHashes.rq a0z a0 k
  refine Eq.trans (b := impl_areHashes.b (fun r => some (impl_areHashes.enc r)) (fun x5z x5 x6 x7 => rounds Tryz.prog impl_areHashes.Cs (finish Tryz.prog [] Tryz.f85 [.v (.sl 28 a0z a0)]) 100000 k impl_areHashes.K0 (impl_areHashes.N0 x5z x5 x6 x7)) k a0z a0) (by kernel_rfl) (Eq.trans ?_ (impl_areHashes.bn impl_areHashes.enc some (impl_areHashes.l0 k) k a0z a0))
  simp only [ih, Option.map_some]
theorem impl_areHashes.sound (k : Nat) : SoundF Tryz.prog 85 (fun a => (impl_areHashes.ans k a).val) := by
  refine sound_plain (fun args res h => ?_) (fun t n => rfl)
  unfold impl_areHashes.ans at h
  dsimp only at h
  split at h
  · cases k with
    | zero => cases h
    | succ k =>
      unfold Ans.val at h
      rw [← impl_areHashes.eq] at h
      exact answer_sound mixed Tryz.func85 _ _ _ (k + 1) (fun j _ => tab_sound (tab_nil)) _ _ h
  · exact (Ans.no_val h).elim

def impl_VoteBytes.b {R : Type} (ret : Bool × List Int → Option R) (k : Nat) (a0 a1 : Int) (a2z : Bool) (a2 : List Int) : Option R :=
  (impl_numbers.f k 86 false ([a0, a1] : List Int)).bind fun t0 => cond t0.1 (ret (true, ([] : List Int))) ((impl_areHashes.f k false ([(.nums 5 .u8 a2z a2)] : List T)).bind fun t1 => cond (!t1) (ret (true, ([] : List Int))) (cond (decide ((t0.2).length + (a2).length < 140737488355328)) (ret (((a2).isEmpty && t0.1), (t0.2 ++ a2))) (none)))
def impl_VoteBytes.f : Nat → Int → Int → Bool → (List Int) → Option (Bool × List Int)
  | 0, _, _, _, _ => none
  | k + 1, a0, a1, a2z, a2 => impl_VoteBytes.b some k a0 a1 a2z a2
def impl_VoteBytes.enc (r : Bool × List Int) : Res := ⟨[.vals false [((.nums 5 .u8 r.1 r.2), true)]], []⟩
def impl_VoteBytes.ans (k : Nat) : List Arg → Ans
  | [.v (.int .i64 a0), .v (.int .i64 a1), .v (.nums 5 .u8 a2z a2)] => ⟨impl_VoteBytes.f k a0 a1 a2z a2, impl_VoteBytes.enc⟩
  | _ => Ans.no
def impl_VoteBytes.Cs (k : Nat) : CallSem := tab [(96, impl_numbers.ans k), (85, impl_areHashes.ans k)]
theorem impl_VoteBytes.eq (k : Nat) (a0 a1 : Int) (a2z : Bool) (a2 : List Int) : answer Tryz.prog impl_VoteBytes.Cs 100000 [] [] Tryz.f81 (k + 1) [.v (.int .i64 a0), .v (.int .i64 a1), .v (.nums 5 .u8 a2z a2)] = (impl_VoteBytes.f (k + 1) a0 a1 a2z a2).map impl_VoteBytes.enc := by
  refine Eq.trans (b := impl_VoteBytes.b (fun r => some (impl_VoteBytes.enc r)) k a0 a1 a2z a2) (by kernel_rfl) ?_
  show _ = (impl_VoteBytes.b some k a0 a1 a2z a2).map impl_VoteBytes.enc
  unfold impl_VoteBytes.b
  repeat' first | with_reducible refine nat_cond ?_ ?_ | with_reducible refine nat_bind fun _ => ?_ | rfl
theorem impl_VoteBytes.sound (k : Nat) : SoundF Tryz.prog 81 (fun a => (impl_VoteBytes.ans k a).val) := by
  refine sound_plain (fun args res h => ?_) (fun t n => rfl)
  unfold impl_VoteBytes.ans at h
  dsimp only at h
  split at h
  · cases k with
    | zero => cases h
    | succ k =>
      unfold Ans.val at h
      rw [← impl_VoteBytes.eq] at h
      exact answer_sound mixed Tryz.func81 _ _ _ (k + 1) (fun j _ => tab_sound (tab_cons (impl_numbers.sound j) (tab_cons (impl_areHashes.sound j) (tab_nil)))) _ _ h
  · exact (Ans.no_val h).elim

def impl_ShaInit.b {R : Type} (ret : Bool × List Int → Option R) (k : Nat) : Option R :=
  ret (false, ([1779033703, 3144134277, 1013904242, 2773480762, 1359893119, 2600822924, 528734635, 1541459225] : List Int))
def impl_ShaInit.f : Nat → Option (Bool × List Int)
  | 0 => none
  | k + 1 => impl_ShaInit.b some k
def impl_ShaInit.enc (r : Bool × List Int) : Res := ⟨[.vals false [((.nums 3 .i64 r.1 r.2), true)]], []⟩
def impl_ShaInit.ans (k : Nat) : List Arg → Ans
  | [] => ⟨impl_ShaInit.f k, impl_ShaInit.enc⟩
  | _ => Ans.no
def impl_ShaInit.Cs (k : Nat) : CallSem := tab []
theorem impl_ShaInit.eq (k : Nat) : answer Tryz.prog impl_ShaInit.Cs 100000 [] [] Tryz.f107 (k + 1) [] = (impl_ShaInit.f (k + 1)).map impl_ShaInit.enc := by
  refine Eq.trans (b := impl_ShaInit.b (fun r => some (impl_ShaInit.enc r)) k) (by kernel_rfl) ?_
  show _ = (impl_ShaInit.b some k).map impl_ShaInit.enc
  unfold impl_ShaInit.b
  repeat' first | with_reducible refine nat_cond ?_ ?_ | with_reducible refine nat_bind fun _ => ?_ | rfl
theorem impl_ShaInit.sound (k : Nat) : SoundF Tryz.prog 107 (fun a => (impl_ShaInit.ans k a).val) := by
  refine sound_plain (fun args res h => ?_) (fun t n => rfl)
  unfold impl_ShaInit.ans at h
  dsimp only at h
  split at h
  · cases k with
    | zero => cases h
    | succ k =>
      unfold Ans.val at h
      rw [← impl_ShaInit.eq] at h
      exact answer_sound mixed Tryz.func107 _ _ _ (k + 1) (fun j _ => tab_sound (tab_nil)) _ _ h
  · exact (Ans.no_val h).elim

def impl_ShaPad.b {R : Type} (ret : Bool × List Int → Option R) (j0 : Bool → (List Int) → (List Int) → Option R) (j1 : Bool → (List Int) → (List Int) → Int → Option R) (k : Nat) (a0z : Bool) (a0 : List Int) : Option R :=
  (impl_copyBytes.f k a0z a0).bind fun t0 => cond (decide ((t0.2).length + 1 < 140737488355328)) (j0 a0z a0 (t0.2 ++ ([128] : List Int))) (none)
def impl_ShaPad.l0b {R : Type} (ret : Bool × List Int → Option R) (j0 : Bool → (List Int) → (List Int) → Option R) (j1 : Bool → (List Int) → (List Int) → Int → Option R) (k : Nat) (x0z : Bool) (x0 x3 : List Int) : Option R :=
  cond (!(decide ((Int.tmod ((x3).length : Int) 64) = 56))) (cond (decide ((x3).length + 1 < 140737488355328)) (j0 x0z x0 (x3 ++ ([0] : List Int))) (none)) (j1 x0z x0 x3 7)
def impl_ShaPad.l1b {R : Type} (ret : Bool × List Int → Option R) (j0 : Bool → (List Int) → (List Int) → Option R) (j1 : Bool → (List Int) → (List Int) → Int → Option R) (k : Nat) (x0z : Bool) (x0 x3 : List Int) (x4 : Int) : Option R :=
  cond (decide (x4 ≥ 0)) (cond (decide (0 ≤ (wrap64 ((8 : Int) * x4)))) (cond (decide ((x3).length + 1 < 140737488355328)) (j1 x0z x0 (x3 ++ ([(((shrI .i64 (wrap64 ((8 : Int) * ((x0).length : Int))) (wrap64 ((8 : Int) * x4)))) % 256)] : List Int)) (wrap64 (x4 - 1))) (none)) (none)) (ret (false, x3))
mutual
def impl_ShaPad.l0 : Nat → Bool → (List Int) → (List Int) → Option (Bool × List Int)
  | 0, _, _, _ => none
  | k + 1, x0z, x0, x3 => impl_ShaPad.l0b some (impl_ShaPad.l0 k) (impl_ShaPad.l1 k) k x0z x0 x3
def impl_ShaPad.l1 : Nat → Bool → (List Int) → (List Int) → Int → Option (Bool × List Int)
  | 0, _, _, _, _ => none
  | k + 1, x0z, x0, x3, x4 => impl_ShaPad.l1b some (impl_ShaPad.l0 k) (impl_ShaPad.l1 k) k x0z x0 x3 x4
end
def impl_ShaPad.f : Nat → Bool → (List Int) → Option (Bool × List Int)
  | 0, _, _ => none
  | k + 1, a0z, a0 => impl_ShaPad.b some (impl_ShaPad.l0 k) (impl_ShaPad.l1 k) k a0z a0
def impl_ShaPad.enc (r : Bool × List Int) : Res := ⟨[.vals false [((.nums 5 .u8 r.1 r.2), true)]], []⟩
def impl_ShaPad.ans (k : Nat) : List Arg → Ans
  | [.v (.nums 5 .u8 a0z a0)] => ⟨impl_ShaPad.f k a0z a0, impl_ShaPad.enc⟩
  | _ => Ans.no
def impl_ShaPad.Cs (k : Nat) : CallSem := tab [(31, impl_copyBytes.ans k)]
def impl_ShaPad.cuts : List (Nat × Keep) := [(28, ⟨[(0, some []), (3, none)], []⟩), (122, ⟨[(0, some []), (3, none), (4, some [])], []⟩)]
noncomputable def impl_ShaPad.K0 : List Fr := framesAt [true, true, false, false] (bodyOf Tryz.f108 impl_ShaPad.cuts) []
def impl_ShaPad.N0 (x0z : Bool) (x0 x3 : List Int) : St := stOf 31 31 1 [(0, .val ⟨(.nums 5 .u8 x0z x0), [], false, none⟩), (3, .val ⟨(.nums 5 .u8 false x3), [.l 3 0], true, some (.l 3 0)⟩)] []
noncomputable def impl_ShaPad.K1 : List Fr := framesAt [true, true, true, false, true, false] (bodyOf Tryz.f108 impl_ShaPad.cuts) []
def impl_ShaPad.N1 (x0z : Bool) (x0 x3 : List Int) (x4 : Int) : St := stOf 31 31 1 [(0, .val ⟨(.nums 5 .u8 x0z x0), [], false, none⟩), (3, .val ⟨(.nums 5 .u8 false x3), [.l 3 0], true, some (.l 3 0)⟩), (4, .val (V.s (.int .i64 x4)))] []
theorem impl_ShaPad.s0 (k : Nat) (G : List Fr → St → Option Res) (a0z : Bool) (a0 : List Int) (yx0z : Bool) (yx0 yx3 : List Int) : resume Tryz.prog (impl_ShaPad.Cs k) G (finish Tryz.prog [] Tryz.f108 [.v (.nums 5 .u8 a0z a0)]) 100000 impl_ShaPad.K0 (impl_ShaPad.N0 yx0z yx0 yx3) = impl_ShaPad.l0b (fun r => some (impl_ShaPad.enc r)) (fun x0z x0 x3 => G impl_ShaPad.K0 (impl_ShaPad.N0 x0z x0 x3)) (fun x0z x0 x3 x4 => G impl_ShaPad.K1 (impl_ShaPad.N1 x0z x0 x3 x4)) k yx0z yx0 yx3 := by kernel_rfl
theorem impl_ShaPad.s1 (k : Nat) (G : List Fr → St → Option Res) (a0z : Bool) (a0 : List Int) (yx0z : Bool) (yx0 yx3 : List Int) (yx4 : Int) : resume Tryz.prog (impl_ShaPad.Cs k) G (finish Tryz.prog [] Tryz.f108 [.v (.nums 5 .u8 a0z a0)]) 100000 impl_ShaPad.K1 (impl_ShaPad.N1 yx0z yx0 yx3 yx4) = impl_ShaPad.l1b (fun r => some (impl_ShaPad.enc r)) (fun x0z x0 x3 => G impl_ShaPad.K0 (impl_ShaPad.N0 x0z x0 x3)) (fun x0z x0 x3 x4 => G impl_ShaPad.K1 (impl_ShaPad.N1 x0z x0 x3 x4)) k yx0z yx0 yx3 yx4 := by kernel_rfl
theorem impl_ShaPad.bn {R R' : Type} (e : R → R') (ret : Bool × List Int → Option R) (j0 : Bool → (List Int) → (List Int) → Option R) (j1 : Bool → (List Int) → (List Int) → Int → Option R) (k : Nat) (a0z : Bool) (a0 : List Int) : impl_ShaPad.b (fun r => (ret r).map e) (fun x0z x0 x3 => (j0 x0z x0 x3).map e) (fun x0z x0 x3 x4 => (j1 x0z x0 x3 x4).map e) k a0z a0 = (impl_ShaPad.b ret j0 j1 k a0z a0).map e := by
  unfold impl_ShaPad.b
  repeat' first | with_reducible refine nat_cond ?_ ?_ | with_reducible refine nat_bind fun _ => ?_ | rfl
theorem impl_ShaPad.l0n {R R' : Type} (e : R → R') (ret : Bool × List Int → Option R) (j0 : Bool → (List Int) → (List Int) → Option R) (j1 : Bool → (List Int) → (List Int) → Int → Option R) (k : Nat) (x0z : Bool) (x0 x3 : List Int) : impl_ShaPad.l0b (fun r => (ret r).map e) (fun x0z x0 x3 => (j0 x0z x0 x3).map e) (fun x0z x0 x3 x4 => (j1 x0z x0 x3 x4).map e) k x0z x0 x3 = (impl_ShaPad.l0b ret j0 j1 k x0z x0 x3).map e := by
  unfold impl_ShaPad.l0b
  repeat' first | with_reducible refine nat_cond ?_ ?_ | with_reducible refine nat_bind fun _ => ?_ | rfl
theorem impl_ShaPad.l1n {R R' : Type} (e : R → R') (ret : Bool × List Int → Option R) (j0 : Bool → (List Int) → (List Int) → Option R) (j1 : Bool → (List Int) → (List Int) → Int → Option R) (k : Nat) (x0z : Bool) (x0 x3 : List Int) (x4 : Int) : impl_ShaPad.l1b (fun r => (ret r).map e) (fun x0z x0 x3 => (j0 x0z x0 x3).map e) (fun x0z x0 x3 x4 => (j1 x0z x0 x3 x4).map e) k x0z x0 x3 x4 = (impl_ShaPad.l1b ret j0 j1 k x0z x0 x3 x4).map e := by
  unfold impl_ShaPad.l1b
  repeat' first | with_reducible refine nat_cond ?_ ?_ | with_reducible refine nat_bind fun _ => ?_ | rfl
theorem impl_ShaPad.rq (a0z : Bool) (a0 : List Int) : ∀ k, (∀ (x0z : Bool) (x0 x3 : List Int), rounds Tryz.prog impl_ShaPad.Cs (finish Tryz.prog [] Tryz.f108 [.v (.nums 5 .u8 a0z a0)]) 100000 k impl_ShaPad.K0 (impl_ShaPad.N0 x0z x0 x3) = (impl_ShaPad.l0 k x0z x0 x3).map impl_ShaPad.enc) ∧ (∀ (x0z : Bool) (x0 x3 : List Int) (x4 : Int), rounds Tryz.prog impl_ShaPad.Cs (finish Tryz.prog [] Tryz.f108 [.v (.nums 5 .u8 a0z a0)]) 100000 k impl_ShaPad.K1 (impl_ShaPad.N1 x0z x0 x3 x4) = (impl_ShaPad.l1 k x0z x0 x3 x4).map impl_ShaPad.enc)
  | 0 => ⟨fun _ _ _ => rfl, fun _ _ _ _ => rfl⟩
  | k + 1 => by
    have ih := impl_ShaPad.rq a0z a0 k
    refine ⟨fun _ _ _ => ?_, fun _ _ _ _ => ?_⟩
    · refine (impl_ShaPad.s0 k _ a0z a0 _ _ _).trans (Eq.trans ?_ (impl_ShaPad.l0n impl_ShaPad.enc some (impl_ShaPad.l0 k) (impl_ShaPad.l1 k) k _ _ _))
      simp only [ih.1, ih.2, Option.map_some]
    · refine (impl_ShaPad.s1 k _ a0z a0 _ _ _ _).trans (Eq.trans ?_ (impl_ShaPad.l1n impl_ShaPad.enc some (impl_ShaPad.l0 k) (impl_ShaPad.l1 k) k _ _ _ _))
      simp only [ih.1, ih.2, Option.map_some]
theorem impl_ShaPad.eq (k : Nat) (a0z : Bool) (a0 : List Int) : answer Tryz.prog impl_ShaPad.Cs 100000 impl_ShaPad.cuts [] Tryz.f108 (k + 1) [.v (.nums 5 .u8 a0z a0)] = (impl_ShaPad.f (k + 1) a0z a0).map impl_ShaPad.enc := by
  have ih := impl_ShaPad.rq a0z a0 k
  refine Eq.trans (b := impl_ShaPad.b (fun r => some (impl_ShaPad.enc r)) (fun x0z x0 x3 => rounds Tryz.prog impl_ShaPad.Cs (finish Tryz.prog [] Tryz.f108 [.v (.nums 5 .u8 a0z a0)]) 100000 k impl_ShaPad.K0 (impl_ShaPad.N0 x0z x0 x3)) (fun x0z x0 x3 x4 => rounds Tryz.prog impl_ShaPad.Cs (finish Tryz.prog [] Tryz.f108 [.v (.nums 5 .u8 a0z a0)]) 100000 k impl_ShaPad.K1 (impl_ShaPad.N1 x0z x0 x3 x4)) k a0z a0) (by kernel_rfl) (Eq.trans ?_ (impl_ShaPad.bn impl_ShaPad.enc some (impl_ShaPad.l0 k) (impl_ShaPad.l1 k) k a0z a0))
  simp only [ih.1, ih.2, Option.map_some]
theorem impl_ShaPad.sound (k : Nat) : SoundF Tryz.prog 108 (fun a => (impl_ShaPad.ans k a).val) := by
  refine sound_plain (fun args res h => ?_) (fun t n => rfl)
  unfold impl_ShaPad.ans at h
  dsimp only at h
  split at h
  · cases k with
    | zero => cases h
    | succ k =>
      unfold Ans.val at h
      rw [← impl_ShaPad.eq] at h
      exact answer_sound mixed Tryz.func108 _ _ _ (k + 1) (fun j _ => tab_sound (tab_cons (impl_copyBytes.sound j) (tab_nil))) _ _ h
  · exact (Ans.no_val h).elim

end Go.Proofs.YtbpcnodmgphinaaGreatG
