/- What the functions compute, printed by a program of this repo; each is shown to be what the machine of values answers. No condition. -/
import Derived.Test.YtbpcnodmgphinaaGreatProg
import Derived.KernelRfl
import Derived.Test.YtbpcnodmgphinaaGreatGFnExactGathere
namespace Go.Proofs.YtbpcnodmgphinaaGreatG
open Go Go.Proofs.YtbpcnodmgphinaaGreatRv Go.Proofs Go.RowKit
set_option linter.unusedVariables false
set_option linter.unusedSimpArgs false
def laws_markVoteS.b {R : Type} (ret : Int × Bool × List T → Option R) (j0 : Bool → (List T) → Int → Int → Option R) (k : Nat) (a0z : Bool) (a0 : List T) (a1 : Int) : Option R :=
  j0 a0z a0 a1 0
def laws_markVoteS.y1 (x0 : List T) (x1 x5 : Int) : List T := ((x0).set (x5).toNat (.agg [(.int .i64 x1), (.int .i64 ((((x0).getD (x5).toNat .bad).cells.getD 1 .bad)).toInt), (.nums 5 .u8 ((((x0).getD (x5).toNat .bad).cells.getD 2 .bad)).isNil ((((x0).getD (x5).toNat .bad).cells.getD 2 .bad)).toNums), (.int .i64 ((((x0).getD (x5).toNat .bad).cells.getD 3 .bad)).toInt), (.nums 5 .u8 ((((x0).getD (x5).toNat .bad).cells.getD 4 .bad)).isNil ((((x0).getD (x5).toNat .bad).cells.getD 4 .bad)).toNums)]))
def laws_markVoteS.y2 (x0 : List T) (x1 x5 : Int) : List T := (((laws_markVoteS.y1 x0 x1 x5)).set (x5).toNat (.agg [(.int .i64 (((((laws_markVoteS.y1 x0 x1 x5)).getD (x5).toNat .bad).cells.getD 0 .bad)).toInt), (.int .i64 (wrap64 (x1 + 1))), (.nums 5 .u8 (((((laws_markVoteS.y1 x0 x1 x5)).getD (x5).toNat .bad).cells.getD 2 .bad)).isNil (((((laws_markVoteS.y1 x0 x1 x5)).getD (x5).toNat .bad).cells.getD 2 .bad)).toNums), (.int .i64 (((((laws_markVoteS.y1 x0 x1 x5)).getD (x5).toNat .bad).cells.getD 3 .bad)).toInt), (.nums 5 .u8 (((((laws_markVoteS.y1 x0 x1 x5)).getD (x5).toNat .bad).cells.getD 4 .bad)).isNil (((((laws_markVoteS.y1 x0 x1 x5)).getD (x5).toNat .bad).cells.getD 4 .bad)).toNums)]))
def laws_markVoteS.y3 (x0 : List T) (x1 x5 : Int) (t0 : (Int × Bool × List Int)) : List T := (((laws_markVoteS.y2 x0 x1 x5)).set (x5).toNat (.agg [(.int .i64 (((((laws_markVoteS.y2 x0 x1 x5)).getD (x5).toNat .bad).cells.getD 0 .bad)).toInt), (.int .i64 (((((laws_markVoteS.y2 x0 x1 x5)).getD (x5).toNat .bad).cells.getD 1 .bad)).toInt), (.nums 5 .u8 t0.2.1 t0.2.2), (.int .i64 (((((laws_markVoteS.y2 x0 x1 x5)).getD (x5).toNat .bad).cells.getD 3 .bad)).toInt), (.nums 5 .u8 (((((laws_markVoteS.y2 x0 x1 x5)).getD (x5).toNat .bad).cells.getD 4 .bad)).isNil (((((laws_markVoteS.y2 x0 x1 x5)).getD (x5).toNat .bad).cells.getD 4 .bad)).toNums)]))
def laws_markVoteS.y4 (x0 : List T) (x1 x5 : Int) (t0 : (Int × Bool × List Int)) : List T := (((laws_markVoteS.y3 x0 x1 x5 t0)).set (x5).toNat (.agg [(.int .i64 (((((laws_markVoteS.y3 x0 x1 x5 t0)).getD (x5).toNat .bad).cells.getD 0 .bad)).toInt), (.int .i64 (((((laws_markVoteS.y3 x0 x1 x5 t0)).getD (x5).toNat .bad).cells.getD 1 .bad)).toInt), (.nums 5 .u8 (((((laws_markVoteS.y3 x0 x1 x5 t0)).getD (x5).toNat .bad).cells.getD 2 .bad)).isNil (((((laws_markVoteS.y3 x0 x1 x5 t0)).getD (x5).toNat .bad).cells.getD 2 .bad)).toNums), (.int .i64 t0.1), (.nums 5 .u8 (((((laws_markVoteS.y3 x0 x1 x5 t0)).getD (x5).toNat .bad).cells.getD 4 .bad)).isNil (((((laws_markVoteS.y3 x0 x1 x5 t0)).getD (x5).toNat .bad).cells.getD 4 .bad)).toNums)]))
def laws_markVoteS.l0b {R : Type} (ret : Int × Bool × List T → Option R) (j0 : Bool → (List T) → Int → Int → Option R) (k : Nat) (x0z : Bool) (x0 : List T) (x1 x5 : Int) : Option R :=
  cond (decide (x5 < ((x0).length : Int))) (cond (decide (0 ≤ x5)) (cond (decide (x5 < ((x0).length : Int))) (cond (decide (0 ≤ x5)) (cond (decide (x5 < (((laws_markVoteS.y1 x0 x1 x5)).length : Int))) (cond (decide (0 ≤ x5)) (cond (decide (x5 < (((laws_markVoteS.y2 x0 x1 x5)).length : Int))) ((laws_markByteS.f k ((((((laws_markVoteS.y2 x0 x1 x5)).getD (x5).toNat .bad).cells.getD 2 .bad)).isNil) ((((((laws_markVoteS.y2 x0 x1 x5)).getD (x5).toNat .bad).cells.getD 2 .bad)).toNums) (wrap64 ((wrap64 (x1 + 1)) + 1))).bind fun t0 => cond (decide (0 ≤ x5)) (cond (decide (x5 < (((laws_markVoteS.y3 x0 x1 x5 t0)).length : Int))) (cond (decide (0 ≤ x5)) (cond (decide (x5 < (((laws_markVoteS.y4 x0 x1 x5 t0)).length : Int))) ((laws_markByteS.f k ((((((laws_markVoteS.y4 x0 x1 x5 t0)).getD (x5).toNat .bad).cells.getD 4 .bad)).isNil) ((((((laws_markVoteS.y4 x0 x1 x5 t0)).getD (x5).toNat .bad).cells.getD 4 .bad)).toNums) (wrap64 (t0.1 + 1))).bind fun t1 => j0 x0z (((laws_markVoteS.y4 x0 x1 x5 t0)).set (x5).toNat (.agg [(.int .i64 (((((laws_markVoteS.y4 x0 x1 x5 t0)).getD (x5).toNat .bad).cells.getD 0 .bad)).toInt), (.int .i64 (((((laws_markVoteS.y4 x0 x1 x5 t0)).getD (x5).toNat .bad).cells.getD 1 .bad)).toInt), (.nums 5 .u8 (((((laws_markVoteS.y4 x0 x1 x5 t0)).getD (x5).toNat .bad).cells.getD 2 .bad)).isNil (((((laws_markVoteS.y4 x0 x1 x5 t0)).getD (x5).toNat .bad).cells.getD 2 .bad)).toNums), (.int .i64 (((((laws_markVoteS.y4 x0 x1 x5 t0)).getD (x5).toNat .bad).cells.getD 3 .bad)).toInt), (.nums 5 .u8 t1.2.1 t1.2.2)])) t1.1 (wrap64 (x5 + 1))) (none)) (none)) (none)) (none)) (none)) (none)) (none)) (none)) (none)) (none)) (ret (x1, x0z, x0))
def laws_markVoteS.l0 : Nat → Bool → (List T) → Int → Int → Option (Int × Bool × List T)
  | 0, _, _, _, _ => none
  | k + 1, x0z, x0, x1, x5 => laws_markVoteS.l0b some (laws_markVoteS.l0 k) k x0z x0 x1 x5
def laws_markVoteS.f : Nat → Bool → (List T) → Int → Option (Int × Bool × List T)
  | 0, _, _, _ => none
  | k + 1, a0z, a0, a1 => laws_markVoteS.b some (laws_markVoteS.l0 k) k a0z a0 a1
def laws_markVoteS.enc (r : Int × Bool × List T) : Res := ⟨[.vals false [((.int .i64 r.1), true)]], [[((.sl 59 r.2.1 r.2.2), true)]]⟩
def laws_markVoteS.ans (k : Nat) : List Arg → Ans
  | [.own (.sl 59 a0z a0), .v (.int .i64 a1)] => ⟨laws_markVoteS.f k a0z a0 a1, laws_markVoteS.enc⟩
  | _ => Ans.no
def laws_markVoteS.Cs (k : Nat) : CallSem := tab [(18, laws_markByteS.ans k)]
def laws_markVoteS.cuts : List (Nat × Keep) := [(26, ⟨[(0, none), (1, some []), (5, some [])], []⟩)]
noncomputable def laws_markVoteS.K0 : List Fr := framesAt [true, false, true, false] (bodyOf Tryz.f17 laws_markVoteS.cuts) []
def laws_markVoteS.N0 (x0z : Bool) (x0 : List T) (x1 x5 : Int) : St := stOf 48 48 2 [(0, .val ⟨(.sl 59 x0z x0), [.h 0], true, some (.h 0)⟩), (1, .val (V.s (.int .i64 x1))), (5, .val (V.s (.int .i64 x5)))] []
theorem laws_markVoteS.s (k : Nat) (a0z : Bool) (a0 : List T) (a1 : Int) : answerM Tryz.prog laws_markVoteS.Cs 100000 laws_markVoteS.cuts Tryz.f17 (k + 1) [.own (.sl 59 a0z a0), .v (.int .i64 a1)] = laws_markVoteS.b (fun r => some (laws_markVoteS.enc r)) (fun x0z x0 x1 x5 => rounds Tryz.prog laws_markVoteS.Cs (finishM Tryz.prog Tryz.f17 (.sl 59 a0z a0)) 100000 k laws_markVoteS.K0 (laws_markVoteS.N0 x0z x0 x1 x5)) k a0z a0 a1 := by kernel_rfl
theorem laws_markVoteS.s0 (k : Nat) (G : List Fr → St → Option Res) (a0z : Bool) (a0 : List T) (a1 : Int) (yx0z : Bool) (yx0 : List T) (yx1 yx5 : Int) : resume Tryz.prog (laws_markVoteS.Cs k) G (finishM Tryz.prog Tryz.f17 (.sl 59 a0z a0)) 100000 laws_markVoteS.K0 (laws_markVoteS.N0 yx0z yx0 yx1 yx5) = laws_markVoteS.l0b (fun r => some (laws_markVoteS.enc r)) (fun x0z x0 x1 x5 => G laws_markVoteS.K0 (laws_markVoteS.N0 x0z x0 x1 x5)) k yx0z yx0 yx1 yx5 := by kernel_rfl
theorem laws_markVoteS.b_nat {R R' : Type} (e : R → R') (ret : Int × Bool × List T → Option R) (j0 : Bool → (List T) → Int → Int → Option R) (k : Nat) (a0z : Bool) (a0 : List T) (a1 : Int) : laws_markVoteS.b (fun r => (ret r).map e) (fun x0z x0 x1 x5 => (j0 x0z x0 x1 x5).map e) k a0z a0 a1 = (laws_markVoteS.b ret j0 k a0z a0 a1).map e := by
  unfold laws_markVoteS.b
  repeat' first | with_reducible refine nat_cond ?_ ?_ | with_reducible refine nat_bind fun _ => ?_ | rfl
theorem laws_markVoteS.l0b_nat {R R' : Type} (e : R → R') (ret : Int × Bool × List T → Option R) (j0 : Bool → (List T) → Int → Int → Option R) (k : Nat) (x0z : Bool) (x0 : List T) (x1 x5 : Int) : laws_markVoteS.l0b (fun r => (ret r).map e) (fun x0z x0 x1 x5 => (j0 x0z x0 x1 x5).map e) k x0z x0 x1 x5 = (laws_markVoteS.l0b ret j0 k x0z x0 x1 x5).map e := by
  unfold laws_markVoteS.l0b
  repeat' first | with_reducible refine nat_cond ?_ ?_ | with_reducible refine nat_bind fun _ => ?_ | rfl
theorem laws_markVoteS.rounds_eq (a0z : Bool) (a0 : List T) (a1 : Int) : ∀ k, (∀ (x0z : Bool) (x0 : List T) (x1 x5 : Int), rounds Tryz.prog laws_markVoteS.Cs (finishM Tryz.prog Tryz.f17 (.sl 59 a0z a0)) 100000 k laws_markVoteS.K0 (laws_markVoteS.N0 x0z x0 x1 x5) = (laws_markVoteS.l0 k x0z x0 x1 x5).map laws_markVoteS.enc)
  | 0 => fun _ _ _ _ => rfl
  | k + 1 => by
    have ih := laws_markVoteS.rounds_eq a0z a0 a1 k
    refine fun _ _ _ _ => ?_
    · refine (laws_markVoteS.s0 k _ a0z a0 a1 _ _ _ _).trans (Eq.trans ?_ (laws_markVoteS.l0b_nat laws_markVoteS.enc some (laws_markVoteS.l0 k) k _ _ _ _))
      simp only [ih, Option.map_some]
theorem laws_markVoteS.eq (k : Nat) (a0z : Bool) (a0 : List T) (a1 : Int) : answerM Tryz.prog laws_markVoteS.Cs 100000 laws_markVoteS.cuts Tryz.f17 (k + 1) [.own (.sl 59 a0z a0), .v (.int .i64 a1)] = (laws_markVoteS.f (k + 1) a0z a0 a1).map laws_markVoteS.enc := by
  have ih := laws_markVoteS.rounds_eq a0z a0 a1 k
  refine (laws_markVoteS.s k a0z a0 a1).trans (Eq.trans ?_ (laws_markVoteS.b_nat laws_markVoteS.enc some (laws_markVoteS.l0 k) k a0z a0 a1))
  simp only [ih, Option.map_some]
theorem laws_markVoteS.sound (k : Nat) : SoundF Tryz.prog 17 (fun a => (laws_markVoteS.ans k a).val) := by
  refine sound_mark (fun args hne => ?_) (fun t n l m h => ?_)
  · unfold laws_markVoteS.ans
    split
    · exact (hne _ _ rfl).elim
    · rfl
  unfold laws_markVoteS.ans at h
  dsimp only at h
  split at h
  · rename_i heq
    cases heq
    cases k with
    | zero => cases h
    | succ k =>
      unfold Ans.val at h
      rw [← laws_markVoteS.eq] at h
      exact answerM_sound (Cs := laws_markVoteS.Cs) mixed Tryz.func17 100000 laws_markVoteS.cuts (k + 1) (fun j _ => tab_sound (tab_cons (laws_markByteS.sound j) (tab_nil))) _ _ _ _ h
  · exact (Ans.no_val h).elim

def laws_markByteSS.b {R : Type} (ret : Int × Bool × List T → Option R) (j0 : Bool → (List T) → Int → Int → Option R) (k : Nat) (a0z : Bool) (a0 : List T) (a1 : Int) : Option R :=
  j0 a0z a0 a1 0
def laws_markByteSS.l0b {R : Type} (ret : Int × Bool × List T → Option R) (j0 : Bool → (List T) → Int → Int → Option R) (k : Nat) (x0z : Bool) (x0 : List T) (x1 x5 : Int) : Option R :=
  cond (decide (x5 < ((x0).length : Int))) (cond (decide (0 ≤ x5)) (cond (decide (x5 < ((x0).length : Int))) ((laws_markByteS.f k (((((x0).getD (x5).toNat .bad).cells.getD 0 .bad)).isNil) (((((x0).getD (x5).toNat .bad).cells.getD 0 .bad)).toNums) x1).bind fun t0 => j0 x0z ((x0).set (x5).toNat (.nums 5 .u8 t0.2.1 t0.2.2)) t0.1 (wrap64 (x5 + 1))) (none)) (none)) (ret (x1, x0z, x0))
def laws_markByteSS.l0 : Nat → Bool → (List T) → Int → Int → Option (Int × Bool × List T)
  | 0, _, _, _, _ => none
  | k + 1, x0z, x0, x1, x5 => laws_markByteSS.l0b some (laws_markByteSS.l0 k) k x0z x0 x1 x5
def laws_markByteSS.f : Nat → Bool → (List T) → Int → Option (Int × Bool × List T)
  | 0, _, _, _ => none
  | k + 1, a0z, a0, a1 => laws_markByteSS.b some (laws_markByteSS.l0 k) k a0z a0 a1
def laws_markByteSS.enc (r : Int × Bool × List T) : Res := ⟨[.vals false [((.int .i64 r.1), true)]], [[((.sl 28 r.2.1 r.2.2), true)]]⟩
def laws_markByteSS.ans (k : Nat) : List Arg → Ans
  | [.own (.sl 28 a0z a0), .v (.int .i64 a1)] => ⟨laws_markByteSS.f k a0z a0 a1, laws_markByteSS.enc⟩
  | _ => Ans.no
def laws_markByteSS.Cs (k : Nat) : CallSem := tab [(18, laws_markByteS.ans k)]
def laws_markByteSS.cuts : List (Nat × Keep) := [(26, ⟨[(0, none), (1, some []), (5, some [])], []⟩)]
noncomputable def laws_markByteSS.K0 : List Fr := framesAt [true, false, true, false] (bodyOf Tryz.f42 laws_markByteSS.cuts) []
def laws_markByteSS.N0 (x0z : Bool) (x0 : List T) (x1 x5 : Int) : St := stOf 19 19 2 [(0, .val ⟨(.sl 28 x0z x0), [.h 0], true, some (.h 0)⟩), (1, .val (V.s (.int .i64 x1))), (5, .val (V.s (.int .i64 x5)))] []
theorem laws_markByteSS.s (k : Nat) (a0z : Bool) (a0 : List T) (a1 : Int) : answerM Tryz.prog laws_markByteSS.Cs 100000 laws_markByteSS.cuts Tryz.f42 (k + 1) [.own (.sl 28 a0z a0), .v (.int .i64 a1)] = laws_markByteSS.b (fun r => some (laws_markByteSS.enc r)) (fun x0z x0 x1 x5 => rounds Tryz.prog laws_markByteSS.Cs (finishM Tryz.prog Tryz.f42 (.sl 28 a0z a0)) 100000 k laws_markByteSS.K0 (laws_markByteSS.N0 x0z x0 x1 x5)) k a0z a0 a1 := by kernel_rfl
theorem laws_markByteSS.s0 (k : Nat) (G : List Fr → St → Option Res) (a0z : Bool) (a0 : List T) (a1 : Int) (yx0z : Bool) (yx0 : List T) (yx1 yx5 : Int) : resume Tryz.prog (laws_markByteSS.Cs k) G (finishM Tryz.prog Tryz.f42 (.sl 28 a0z a0)) 100000 laws_markByteSS.K0 (laws_markByteSS.N0 yx0z yx0 yx1 yx5) = laws_markByteSS.l0b (fun r => some (laws_markByteSS.enc r)) (fun x0z x0 x1 x5 => G laws_markByteSS.K0 (laws_markByteSS.N0 x0z x0 x1 x5)) k yx0z yx0 yx1 yx5 := by kernel_rfl
theorem laws_markByteSS.b_nat {R R' : Type} (e : R → R') (ret : Int × Bool × List T → Option R) (j0 : Bool → (List T) → Int → Int → Option R) (k : Nat) (a0z : Bool) (a0 : List T) (a1 : Int) : laws_markByteSS.b (fun r => (ret r).map e) (fun x0z x0 x1 x5 => (j0 x0z x0 x1 x5).map e) k a0z a0 a1 = (laws_markByteSS.b ret j0 k a0z a0 a1).map e := by
  unfold laws_markByteSS.b
  repeat' first | with_reducible refine nat_cond ?_ ?_ | with_reducible refine nat_bind fun _ => ?_ | rfl
theorem laws_markByteSS.l0b_nat {R R' : Type} (e : R → R') (ret : Int × Bool × List T → Option R) (j0 : Bool → (List T) → Int → Int → Option R) (k : Nat) (x0z : Bool) (x0 : List T) (x1 x5 : Int) : laws_markByteSS.l0b (fun r => (ret r).map e) (fun x0z x0 x1 x5 => (j0 x0z x0 x1 x5).map e) k x0z x0 x1 x5 = (laws_markByteSS.l0b ret j0 k x0z x0 x1 x5).map e := by
  unfold laws_markByteSS.l0b
  repeat' first | with_reducible refine nat_cond ?_ ?_ | with_reducible refine nat_bind fun _ => ?_ | rfl
theorem laws_markByteSS.rounds_eq (a0z : Bool) (a0 : List T) (a1 : Int) : ∀ k, (∀ (x0z : Bool) (x0 : List T) (x1 x5 : Int), rounds Tryz.prog laws_markByteSS.Cs (finishM Tryz.prog Tryz.f42 (.sl 28 a0z a0)) 100000 k laws_markByteSS.K0 (laws_markByteSS.N0 x0z x0 x1 x5) = (laws_markByteSS.l0 k x0z x0 x1 x5).map laws_markByteSS.enc)
  | 0 => fun _ _ _ _ => rfl
  | k + 1 => by
    have ih := laws_markByteSS.rounds_eq a0z a0 a1 k
    refine fun _ _ _ _ => ?_
    · refine (laws_markByteSS.s0 k _ a0z a0 a1 _ _ _ _).trans (Eq.trans ?_ (laws_markByteSS.l0b_nat laws_markByteSS.enc some (laws_markByteSS.l0 k) k _ _ _ _))
      simp only [ih, Option.map_some]
theorem laws_markByteSS.eq (k : Nat) (a0z : Bool) (a0 : List T) (a1 : Int) : answerM Tryz.prog laws_markByteSS.Cs 100000 laws_markByteSS.cuts Tryz.f42 (k + 1) [.own (.sl 28 a0z a0), .v (.int .i64 a1)] = (laws_markByteSS.f (k + 1) a0z a0 a1).map laws_markByteSS.enc := by
  have ih := laws_markByteSS.rounds_eq a0z a0 a1 k
  refine (laws_markByteSS.s k a0z a0 a1).trans (Eq.trans ?_ (laws_markByteSS.b_nat laws_markByteSS.enc some (laws_markByteSS.l0 k) k a0z a0 a1))
  simp only [ih, Option.map_some]
theorem laws_markByteSS.sound (k : Nat) : SoundF Tryz.prog 42 (fun a => (laws_markByteSS.ans k a).val) := by
  refine sound_mark (fun args hne => ?_) (fun t n l m h => ?_)
  · unfold laws_markByteSS.ans
    split
    · exact (hne _ _ rfl).elim
    · rfl
  unfold laws_markByteSS.ans at h
  dsimp only at h
  split at h
  · rename_i heq
    cases heq
    cases k with
    | zero => cases h
    | succ k =>
      unfold Ans.val at h
      rw [← laws_markByteSS.eq] at h
      exact answerM_sound (Cs := laws_markByteSS.Cs) mixed Tryz.func42 100000 laws_markByteSS.cuts (k + 1) (fun j _ => tab_sound (tab_cons (laws_markByteS.sound j) (tab_nil))) _ _ _ _ h
  · exact (Ans.no_val h).elim

def laws_markQc.b {R : Type} (ret : Int × Int × Int × Bool × (List Int) × Bool × (List Int) × Bool × List T → Option R) (k : Nat) (a0_0 a0_1 : Int) (a0_2z : Bool) (a0_2 : List Int) (a0_3z : Bool) (a0_3 : List Int) (a0_4z : Bool) (a0_4 : List T) (a1 : Int) : Option R :=
  (laws_markByteS.f k a0_2z a0_2 a1).bind fun t0 => (laws_markByteS.f k a0_3z a0_3 t0.1).bind fun t1 => (laws_markByteSS.f k a0_4z a0_4 t1.1).bind fun t2 => ret (t2.1, a0_0, a0_1, t0.2.1, t0.2.2, t1.2.1, t1.2.2, t2.2.1, t2.2.2)
def laws_markQc.f : Nat → Int → Int → Bool → (List Int) → Bool → (List Int) → Bool → (List T) → Int → Option (Int × Int × Int × Bool × (List Int) × Bool × (List Int) × Bool × List T)
  | 0, _, _, _, _, _, _, _, _, _ => none
  | k + 1, a0_0, a0_1, a0_2z, a0_2, a0_3z, a0_3, a0_4z, a0_4, a1 => laws_markQc.b some k a0_0 a0_1 a0_2z a0_2 a0_3z a0_3 a0_4z a0_4 a1
def laws_markQc.enc (r : Int × Int × Int × Bool × (List Int) × Bool × (List Int) × Bool × List T) : Res := ⟨[.vals false [((.int .i64 r.1), true)]], [[((.int .i64 r.2.1), true), ((.int .i64 r.2.2.1), true), ((.nums 5 .u8 r.2.2.2.1 r.2.2.2.2.1), true), ((.nums 5 .u8 r.2.2.2.2.2.1 r.2.2.2.2.2.2.1), true), ((.sl 28 r.2.2.2.2.2.2.2.1 r.2.2.2.2.2.2.2.2), true)]]⟩
def laws_markQc.ans (k : Nat) : List Arg → Ans
  | [.own (.agg [(.int .i64 a0_0), (.int .i64 a0_1), (.nums 5 .u8 a0_2z a0_2), (.nums 5 .u8 a0_3z a0_3), (.sl 28 a0_4z a0_4)]), .v (.int .i64 a1)] => ⟨laws_markQc.f k a0_0 a0_1 a0_2z a0_2 a0_3z a0_3 a0_4z a0_4 a1, laws_markQc.enc⟩
  | _ => Ans.no
def laws_markQc.Cs (k : Nat) : CallSem := tab [(18, laws_markByteS.ans k), (42, laws_markByteSS.ans k)]
def laws_markQc.cuts : List (Nat × Keep) := []
theorem laws_markQc.s (k : Nat) (a0_0 a0_1 : Int) (a0_2z : Bool) (a0_2 : List Int) (a0_3z : Bool) (a0_3 : List Int) (a0_4z : Bool) (a0_4 : List T) (a1 : Int) : answerM Tryz.prog laws_markQc.Cs 100000 laws_markQc.cuts Tryz.f19 (k + 1) [.own (.agg [(.int .i64 a0_0), (.int .i64 a0_1), (.nums 5 .u8 a0_2z a0_2), (.nums 5 .u8 a0_3z a0_3), (.sl 28 a0_4z a0_4)]), .v (.int .i64 a1)] = laws_markQc.b (fun r => some (laws_markQc.enc r)) k a0_0 a0_1 a0_2z a0_2 a0_3z a0_3 a0_4z a0_4 a1 := by kernel_rfl
theorem laws_markQc.b_nat {R R' : Type} (e : R → R') (ret : Int × Int × Int × Bool × (List Int) × Bool × (List Int) × Bool × List T → Option R) (k : Nat) (a0_0 a0_1 : Int) (a0_2z : Bool) (a0_2 : List Int) (a0_3z : Bool) (a0_3 : List Int) (a0_4z : Bool) (a0_4 : List T) (a1 : Int) : laws_markQc.b (fun r => (ret r).map e) k a0_0 a0_1 a0_2z a0_2 a0_3z a0_3 a0_4z a0_4 a1 = (laws_markQc.b ret k a0_0 a0_1 a0_2z a0_2 a0_3z a0_3 a0_4z a0_4 a1).map e := by
  unfold laws_markQc.b
  repeat' first | with_reducible refine nat_cond ?_ ?_ | with_reducible refine nat_bind fun _ => ?_ | rfl
theorem laws_markQc.eq (k : Nat) (a0_0 a0_1 : Int) (a0_2z : Bool) (a0_2 : List Int) (a0_3z : Bool) (a0_3 : List Int) (a0_4z : Bool) (a0_4 : List T) (a1 : Int) : answerM Tryz.prog laws_markQc.Cs 100000 laws_markQc.cuts Tryz.f19 (k + 1) [.own (.agg [(.int .i64 a0_0), (.int .i64 a0_1), (.nums 5 .u8 a0_2z a0_2), (.nums 5 .u8 a0_3z a0_3), (.sl 28 a0_4z a0_4)]), .v (.int .i64 a1)] = (laws_markQc.f (k + 1) a0_0 a0_1 a0_2z a0_2 a0_3z a0_3 a0_4z a0_4 a1).map laws_markQc.enc := by
  refine (laws_markQc.s k a0_0 a0_1 a0_2z a0_2 a0_3z a0_3 a0_4z a0_4 a1).trans (Eq.trans ?_ (laws_markQc.b_nat laws_markQc.enc some k a0_0 a0_1 a0_2z a0_2 a0_3z a0_3 a0_4z a0_4 a1))
  simp only [Option.map_some]
theorem laws_markQc.sound (k : Nat) : SoundF Tryz.prog 19 (fun a => (laws_markQc.ans k a).val) := by
  refine sound_mark (fun args hne => ?_) (fun t n l m h => ?_)
  · unfold laws_markQc.ans
    split
    · exact (hne _ _ rfl).elim
    · rfl
  unfold laws_markQc.ans at h
  dsimp only at h
  split at h
  · rename_i heq
    cases heq
    cases k with
    | zero => cases h
    | succ k =>
      unfold Ans.val at h
      rw [← laws_markQc.eq] at h
      exact answerM_sound (Cs := laws_markQc.Cs) mixed Tryz.func19 100000 laws_markQc.cuts (k + 1) (fun j _ => tab_sound (tab_cons (laws_markByteS.sound j) (tab_cons (laws_markByteSS.sound j) (tab_nil)))) _ _ _ _ h
  · exact (Ans.no_val h).elim

def laws_heldByteS.b {R : Type} (ret : Int → Option R) (j0 : Bool → (List Int) → Int → Int → Option R) (k : Nat) (a0z : Bool) (a0 : List Int) (a1 : Int) : Option R :=
  j0 a0z a0 a1 0
def laws_heldByteS.l0b {R : Type} (ret : Int → Option R) (j0 : Bool → (List Int) → Int → Int → Option R) (k : Nat) (x0z : Bool) (x0 : List Int) (x1 x5 : Int) : Option R :=
  cond (decide (x5 < ((x0).length : Int))) (cond (decide (0 ≤ x5)) (cond (decide (x5 < ((x0).length : Int))) (cond (!(decide ((rdI x0 x5) = ((x1) % 256)))) (ret (-1)) (j0 x0z x0 (wrap64 (x1 + 1)) (wrap64 (x5 + 1)))) (none)) (none)) (ret x1)
def laws_heldByteS.l0 : Nat → Bool → (List Int) → Int → Int → Option Int
  | 0, _, _, _, _ => none
  | k + 1, x0z, x0, x1, x5 => laws_heldByteS.l0b some (laws_heldByteS.l0 k) k x0z x0 x1 x5
def laws_heldByteS.f : Nat → Bool → (List Int) → Int → Option Int
  | 0, _, _, _ => none
  | k + 1, a0z, a0, a1 => laws_heldByteS.b some (laws_heldByteS.l0 k) k a0z a0 a1
def laws_heldByteS.enc (r : Int) : Res := ⟨[.vals false [((.int .i64 r), true)]], []⟩
def laws_heldByteS.ans (k : Nat) : List Arg → Ans
  | [.v (.nums 5 .u8 a0z a0), .v (.int .i64 a1)] => ⟨laws_heldByteS.f k a0z a0 a1, laws_heldByteS.enc⟩
  | _ => Ans.no
def laws_heldByteS.Cs (k : Nat) : CallSem := tab []
def laws_heldByteS.cuts : List (Nat × Keep) := [(26, ⟨[(0, some []), (1, some []), (5, some [])], []⟩)]
noncomputable def laws_heldByteS.K0 : List Fr := framesAt [true, false, true, false] (bodyOf Tryz.f43 laws_heldByteS.cuts) []
def laws_heldByteS.N0 (x0z : Bool) (x0 : List Int) (x1 x5 : Int) : St := stOf 22 22 2 [(0, .val ⟨(.nums 5 .u8 x0z x0), [], false, none⟩), (1, .val (V.s (.int .i64 x1))), (5, .val (V.s (.int .i64 x5)))] []
theorem laws_heldByteS.s0 (k : Nat) (G : List Fr → St → Option Res) (a0z : Bool) (a0 : List Int) (a1 : Int) (yx0z : Bool) (yx0 : List Int) (yx1 yx5 : Int) : resume Tryz.prog (laws_heldByteS.Cs k) G (finish Tryz.prog [] Tryz.f43 [.v (.nums 5 .u8 a0z a0), .v (.int .i64 a1)]) 100000 laws_heldByteS.K0 (laws_heldByteS.N0 yx0z yx0 yx1 yx5) = laws_heldByteS.l0b (fun r => some (laws_heldByteS.enc r)) (fun x0z x0 x1 x5 => G laws_heldByteS.K0 (laws_heldByteS.N0 x0z x0 x1 x5)) k yx0z yx0 yx1 yx5 := by kernel_rfl
theorem laws_heldByteS.bn {R R' : Type} (e : R → R') (ret : Int → Option R) (j0 : Bool → (List Int) → Int → Int → Option R) (k : Nat) (a0z : Bool) (a0 : List Int) (a1 : Int) : laws_heldByteS.b (fun r => (ret r).map e) (fun x0z x0 x1 x5 => (j0 x0z x0 x1 x5).map e) k a0z a0 a1 = (laws_heldByteS.b ret j0 k a0z a0 a1).map e := by
  unfold laws_heldByteS.b
  repeat' first | with_reducible refine nat_cond ?_ ?_ | with_reducible refine nat_bind fun _ => ?_ | rfl
theorem laws_heldByteS.l0n {R R' : Type} (e : R → R') (ret : Int → Option R) (j0 : Bool → (List Int) → Int → Int → Option R) (k : Nat) (x0z : Bool) (x0 : List Int) (x1 x5 : Int) : laws_heldByteS.l0b (fun r => (ret r).map e) (fun x0z x0 x1 x5 => (j0 x0z x0 x1 x5).map e) k x0z x0 x1 x5 = (laws_heldByteS.l0b ret j0 k x0z x0 x1 x5).map e := by
  unfold laws_heldByteS.l0b
  repeat' first | with_reducible refine nat_cond ?_ ?_ | with_reducible refine nat_bind fun _ => ?_ | rfl
theorem laws_heldByteS.rq (a0z : Bool) (a0 : List Int) (a1 : Int) : ∀ k, (∀ (x0z : Bool) (x0 : List Int) (x1 x5 : Int), rounds Tryz.prog laws_heldByteS.Cs (finish Tryz.prog [] Tryz.f43 [.v (.nums 5 .u8 a0z a0), .v (.int .i64 a1)]) 100000 k laws_heldByteS.K0 (laws_heldByteS.N0 x0z x0 x1 x5) = (laws_heldByteS.l0 k x0z x0 x1 x5).map laws_heldByteS.enc)
  | 0 => fun _ _ _ _ => rfl
  | k + 1 => by
    have ih := laws_heldByteS.rq a0z a0 a1 k
    refine fun _ _ _ _ => ?_
    · refine (laws_heldByteS.s0 k _ a0z a0 a1 _ _ _ _).trans (Eq.trans ?_ (laws_heldByteS.l0n laws_heldByteS.enc some (laws_heldByteS.l0 k) k _ _ _ _))
      simp only [ih, Option.map_some]
theorem laws_heldByteS.eq (k : Nat) (a0z : Bool) (a0 : List Int) (a1 : Int) : answer Tryz.prog laws_heldByteS.Cs 100000 laws_heldByteS.cuts [] Tryz.f43 (k + 1) [.v (.nums 5 .u8 a0z a0), .v (.int .i64 a1)] = (laws_heldByteS.f (k + 1) a0z a0 a1).map laws_heldByteS.enc := by
  have ih := laws_heldByteS.rq a0z a0 a1 k
  refine Eq.trans (b := laws_heldByteS.b (fun r => some (laws_heldByteS.enc r)) (fun x0z x0 x1 x5 => rounds Tryz.prog laws_heldByteS.Cs (finish Tryz.prog [] Tryz.f43 [.v (.nums 5 .u8 a0z a0), .v (.int .i64 a1)]) 100000 k laws_heldByteS.K0 (laws_heldByteS.N0 x0z x0 x1 x5)) k a0z a0 a1) (by kernel_rfl) (Eq.trans ?_ (laws_heldByteS.bn laws_heldByteS.enc some (laws_heldByteS.l0 k) k a0z a0 a1))
  simp only [ih, Option.map_some]
theorem laws_heldByteS.sound (k : Nat) : SoundF Tryz.prog 43 (fun a => (laws_heldByteS.ans k a).val) := by
  refine sound_plain (fun args res h => ?_) (fun t n => rfl)
  unfold laws_heldByteS.ans at h
  dsimp only at h
  split at h
  · cases k with
    | zero => cases h
    | succ k =>
      unfold Ans.val at h
      rw [← laws_heldByteS.eq] at h
      exact answer_sound mixed Tryz.func43 _ _ _ (k + 1) (fun j _ => tab_sound (tab_nil)) _ _ h
  · exact (Ans.no_val h).elim

def laws_heldByteSS.b {R : Type} (ret : Int → Option R) (j0 : Bool → (List T) → Int → Int → Option R) (k : Nat) (a0z : Bool) (a0 : List T) (a1 : Int) : Option R :=
  j0 a0z a0 a1 0
def laws_heldByteSS.l0b {R : Type} (ret : Int → Option R) (j0 : Bool → (List T) → Int → Int → Option R) (k : Nat) (x0z : Bool) (x0 : List T) (x1 x5 : Int) : Option R :=
  cond (decide (x5 < ((x0).length : Int))) (cond (decide (0 ≤ x5)) (cond (decide (x5 < ((x0).length : Int))) ((laws_heldByteS.f k (((((x0).getD (x5).toNat .bad).cells.getD 0 .bad)).isNil) (((((x0).getD (x5).toNat .bad).cells.getD 0 .bad)).toNums) x1).bind fun t0 => cond (decide (t0 < 0)) (ret (-1)) (j0 x0z x0 t0 (wrap64 (x5 + 1)))) (none)) (none)) (ret x1)
def laws_heldByteSS.l0 : Nat → Bool → (List T) → Int → Int → Option Int
  | 0, _, _, _, _ => none
  | k + 1, x0z, x0, x1, x5 => laws_heldByteSS.l0b some (laws_heldByteSS.l0 k) k x0z x0 x1 x5
def laws_heldByteSS.f : Nat → Bool → (List T) → Int → Option Int
  | 0, _, _, _ => none
  | k + 1, a0z, a0, a1 => laws_heldByteSS.b some (laws_heldByteSS.l0 k) k a0z a0 a1
def laws_heldByteSS.enc (r : Int) : Res := ⟨[.vals false [((.int .i64 r), true)]], []⟩
def laws_heldByteSS.ans (k : Nat) : List Arg → Ans
  | [.v (.sl 28 a0z a0), .v (.int .i64 a1)] => ⟨laws_heldByteSS.f k a0z a0 a1, laws_heldByteSS.enc⟩
  | _ => Ans.no
def laws_heldByteSS.Cs (k : Nat) : CallSem := tab [(43, laws_heldByteS.ans k)]
def laws_heldByteSS.cuts : List (Nat × Keep) := [(26, ⟨[(0, some []), (1, some []), (5, some [])], []⟩)]
noncomputable def laws_heldByteSS.K0 : List Fr := framesAt [true, false, true, false] (bodyOf Tryz.f44 laws_heldByteSS.cuts) []
def laws_heldByteSS.N0 (x0z : Bool) (x0 : List T) (x1 x5 : Int) : St := stOf 21 21 2 [(0, .val ⟨(.sl 28 x0z x0), [], false, none⟩), (1, .val (V.s (.int .i64 x1))), (5, .val (V.s (.int .i64 x5)))] []
theorem laws_heldByteSS.s0 (k : Nat) (G : List Fr → St → Option Res) (a0z : Bool) (a0 : List T) (a1 : Int) (yx0z : Bool) (yx0 : List T) (yx1 yx5 : Int) : resume Tryz.prog (laws_heldByteSS.Cs k) G (finish Tryz.prog [] Tryz.f44 [.v (.sl 28 a0z a0), .v (.int .i64 a1)]) 100000 laws_heldByteSS.K0 (laws_heldByteSS.N0 yx0z yx0 yx1 yx5) = laws_heldByteSS.l0b (fun r => some (laws_heldByteSS.enc r)) (fun x0z x0 x1 x5 => G laws_heldByteSS.K0 (laws_heldByteSS.N0 x0z x0 x1 x5)) k yx0z yx0 yx1 yx5 := by kernel_rfl
theorem laws_heldByteSS.bn {R R' : Type} (e : R → R') (ret : Int → Option R) (j0 : Bool → (List T) → Int → Int → Option R) (k : Nat) (a0z : Bool) (a0 : List T) (a1 : Int) : laws_heldByteSS.b (fun r => (ret r).map e) (fun x0z x0 x1 x5 => (j0 x0z x0 x1 x5).map e) k a0z a0 a1 = (laws_heldByteSS.b ret j0 k a0z a0 a1).map e := by
  unfold laws_heldByteSS.b
  repeat' first | with_reducible refine nat_cond ?_ ?_ | with_reducible refine nat_bind fun _ => ?_ | rfl
theorem laws_heldByteSS.l0n {R R' : Type} (e : R → R') (ret : Int → Option R) (j0 : Bool → (List T) → Int → Int → Option R) (k : Nat) (x0z : Bool) (x0 : List T) (x1 x5 : Int) : laws_heldByteSS.l0b (fun r => (ret r).map e) (fun x0z x0 x1 x5 => (j0 x0z x0 x1 x5).map e) k x0z x0 x1 x5 = (laws_heldByteSS.l0b ret j0 k x0z x0 x1 x5).map e := by
  unfold laws_heldByteSS.l0b
  repeat' first | with_reducible refine nat_cond ?_ ?_ | with_reducible refine nat_bind fun _ => ?_ | rfl
theorem laws_heldByteSS.rq (a0z : Bool) (a0 : List T) (a1 : Int) : ∀ k, (∀ (x0z : Bool) (x0 : List T) (x1 x5 : Int), rounds Tryz.prog laws_heldByteSS.Cs (finish Tryz.prog [] Tryz.f44 [.v (.sl 28 a0z a0), .v (.int .i64 a1)]) 100000 k laws_heldByteSS.K0 (laws_heldByteSS.N0 x0z x0 x1 x5) = (laws_heldByteSS.l0 k x0z x0 x1 x5).map laws_heldByteSS.enc)
  | 0 => fun _ _ _ _ => rfl
  | k + 1 => by
    have ih := laws_heldByteSS.rq a0z a0 a1 k
    refine fun _ _ _ _ => ?_
    · refine (laws_heldByteSS.s0 k _ a0z a0 a1 _ _ _ _).trans (Eq.trans ?_ (laws_heldByteSS.l0n laws_heldByteSS.enc some (laws_heldByteSS.l0 k) k _ _ _ _))
      simp only [ih, Option.map_some]
theorem laws_heldByteSS.eq (k : Nat) (a0z : Bool) (a0 : List T) (a1 : Int) : answer Tryz.prog laws_heldByteSS.Cs 100000 laws_heldByteSS.cuts [] Tryz.f44 (k + 1) [.v (.sl 28 a0z a0), .v (.int .i64 a1)] = (laws_heldByteSS.f (k + 1) a0z a0 a1).map laws_heldByteSS.enc := by
  have ih := laws_heldByteSS.rq a0z a0 a1 k
  refine Eq.trans (b := laws_heldByteSS.b (fun r => some (laws_heldByteSS.enc r)) (fun x0z x0 x1 x5 => rounds Tryz.prog laws_heldByteSS.Cs (finish Tryz.prog [] Tryz.f44 [.v (.sl 28 a0z a0), .v (.int .i64 a1)]) 100000 k laws_heldByteSS.K0 (laws_heldByteSS.N0 x0z x0 x1 x5)) k a0z a0 a1) (by kernel_rfl) (Eq.trans ?_ (laws_heldByteSS.bn laws_heldByteSS.enc some (laws_heldByteSS.l0 k) k a0z a0 a1))
  simp only [ih, Option.map_some]
theorem laws_heldByteSS.sound (k : Nat) : SoundF Tryz.prog 44 (fun a => (laws_heldByteSS.ans k a).val) := by
  refine sound_plain (fun args res h => ?_) (fun t n => rfl)
  unfold laws_heldByteSS.ans at h
  dsimp only at h
  split at h
  · cases k with
    | zero => cases h
    | succ k =>
      unfold Ans.val at h
      rw [← laws_heldByteSS.eq] at h
      exact answer_sound mixed Tryz.func44 _ _ _ (k + 1) (fun j _ => tab_sound (tab_cons (laws_heldByteS.sound j) (tab_nil))) _ _ h
  · exact (Ans.no_val h).elim

def laws_heldQc.b {R : Type} (ret : Int → Option R) (k : Nat) (a0_0 a0_1 : Int) (a0_2z : Bool) (a0_2 : List Int) (a0_3z : Bool) (a0_3 : List Int) (a0_4z : Bool) (a0_4 : List T) (a1 : Int) : Option R :=
  (laws_heldByteS.f k a0_2z a0_2 a1).bind fun t0 => cond (decide (t0 < 0)) (ret (-1)) ((laws_heldByteS.f k a0_3z a0_3 t0).bind fun t1 => cond (decide (t1 < 0)) (ret (-1)) ((laws_heldByteSS.f k a0_4z a0_4 t1).bind fun t2 => cond (decide (t2 < 0)) (ret (-1)) (ret t2)))
def laws_heldQc.f : Nat → Int → Int → Bool → (List Int) → Bool → (List Int) → Bool → (List T) → Int → Option Int
  | 0, _, _, _, _, _, _, _, _, _ => none
  | k + 1, a0_0, a0_1, a0_2z, a0_2, a0_3z, a0_3, a0_4z, a0_4, a1 => laws_heldQc.b some k a0_0 a0_1 a0_2z a0_2 a0_3z a0_3 a0_4z a0_4 a1
def laws_heldQc.enc (r : Int) : Res := ⟨[.vals false [((.int .i64 r), true)]], []⟩
def laws_heldQc.ans (k : Nat) : List Arg → Ans
  | [.v (.agg [(.int .i64 a0_0), (.int .i64 a0_1), (.nums 5 .u8 a0_2z a0_2), (.nums 5 .u8 a0_3z a0_3), (.sl 28 a0_4z a0_4)]), .v (.int .i64 a1)] => ⟨laws_heldQc.f k a0_0 a0_1 a0_2z a0_2 a0_3z a0_3 a0_4z a0_4 a1, laws_heldQc.enc⟩
  | _ => Ans.no
def laws_heldQc.Cs (k : Nat) : CallSem := tab [(43, laws_heldByteS.ans k), (44, laws_heldByteSS.ans k)]
theorem laws_heldQc.eq (k : Nat) (a0_0 a0_1 : Int) (a0_2z : Bool) (a0_2 : List Int) (a0_3z : Bool) (a0_3 : List Int) (a0_4z : Bool) (a0_4 : List T) (a1 : Int) : answer Tryz.prog laws_heldQc.Cs 100000 [] [] Tryz.f20 (k + 1) [.v (.agg [(.int .i64 a0_0), (.int .i64 a0_1), (.nums 5 .u8 a0_2z a0_2), (.nums 5 .u8 a0_3z a0_3), (.sl 28 a0_4z a0_4)]), .v (.int .i64 a1)] = (laws_heldQc.f (k + 1) a0_0 a0_1 a0_2z a0_2 a0_3z a0_3 a0_4z a0_4 a1).map laws_heldQc.enc := by
  refine Eq.trans (b := laws_heldQc.b (fun r => some (laws_heldQc.enc r)) k a0_0 a0_1 a0_2z a0_2 a0_3z a0_3 a0_4z a0_4 a1) (by kernel_rfl) ?_
  show _ = (laws_heldQc.b some k a0_0 a0_1 a0_2z a0_2 a0_3z a0_3 a0_4z a0_4 a1).map laws_heldQc.enc
  unfold laws_heldQc.b
  repeat' first | with_reducible refine nat_cond ?_ ?_ | with_reducible refine nat_bind fun _ => ?_ | rfl
theorem laws_heldQc.sound (k : Nat) : SoundF Tryz.prog 20 (fun a => (laws_heldQc.ans k a).val) := by
  refine sound_plain (fun args res h => ?_) (fun t n => rfl)
  unfold laws_heldQc.ans at h
  dsimp only at h
  split at h
  · cases k with
    | zero => cases h
    | succ k =>
      unfold Ans.val at h
      rw [← laws_heldQc.eq] at h
      exact answer_sound mixed Tryz.func20 _ _ _ (k + 1) (fun j _ => tab_sound (tab_cons (laws_heldByteS.sound j) (tab_cons (laws_heldByteSS.sound j) (tab_nil)))) _ _ h
  · exact (Ans.no_val h).elim

def laws_FnExactGather.b {R : Type} (ret : Bool → Option R) (k : Nat) (a0_0 a0_1 : Int) (a0_2 a0_3 a0_4 : Int) (a1_0z : Bool) (a1_0 : List T) (a2z : Bool) (a2 : List T) (a3 a4 : Int) (a5z : Bool) (a5 : List Int) : Option R :=
  cond (decide (((a5).length : Int) > 1048576)) (ret true) ((laws_szTable.f k a1_0z a1_0 1048576).bind fun t0 => cond (decide (t0 < 0)) (ret true) ((laws_szVoteS.f k a2z a2 t0).bind fun t1 => cond (decide (t1 < 0)) (ret true) ((laws_toLimits.f k a0_0 a0_1 a0_2 a0_3 a0_4).bind fun t2 => (laws_toTable.f k a1_0z a1_0).bind fun t3 => (laws_toVoteS.f k a2z a2).bind fun t4 => (laws_toByteS.f k a5z a5).bind fun t5 => (spec_Gather.f k t2.1 t2.2.1 t2.2.2.1 t2.2.2.2.1 t2.2.2.2.2 t3.1 t3.2 t4.1 t4.2 a3 a4 t5.1 t5.2).bind fun t6 => (laws_toTable.f k a1_0z a1_0).bind fun t7 => (laws_toVoteS.f k a2z a2).bind fun t8 => (laws_toByteS.f k a5z a5).bind fun t9 => (laws_toLimits.f k a0_0 a0_1 a0_2 a0_3 a0_4).bind fun t10 => (impl_Gather.f k t10.1 t10.2.1 t10.2.2.1 t10.2.2.2.1 t10.2.2.2.2 t7.1 t7.2 t8.1 t8.2 a3 a4 t9.1 t9.2).bind fun t11 => (laws_eqQc.f k t11.1 t11.2.1 t11.2.2.1 t11.2.2.2.1 t11.2.2.2.2.1 t11.2.2.2.2.2.1 t11.2.2.2.2.2.2.1 t11.2.2.2.2.2.2.2.1 t6.1 t6.2.1 t6.2.2.1 t6.2.2.2.1 t6.2.2.2.2.1 t6.2.2.2.2.2.1 t6.2.2.2.2.2.2.1 t6.2.2.2.2.2.2.2.1).bind fun t12 => cond (!t12) (ret false) (cond (!(t11.2.2.2.2.2.2.2.2 == t6.2.2.2.2.2.2.2.2)) (ret false) ((laws_toTable.f k a1_0z a1_0).bind fun t13 => (laws_eqTable.f k t7.1 t7.2 t13.1 t13.2).bind fun t14 => cond (!t14) (ret false) ((laws_toVoteS.f k a2z a2).bind fun t15 => (laws_eqVoteS.f k t8.1 t8.2 t15.1 t15.2).bind fun t16 => cond (!t16) (ret false) ((laws_toByteS.f k a5z a5).bind fun t17 => (laws_eqByteS.f k t9.1 t9.2 t17.1 t17.2).bind fun t18 => cond (!t18) (ret false) ((laws_markTable.f k t7.1 t7.2 1).bind fun t19 => (laws_markVoteS.f k t8.1 t8.2 t19.1).bind fun t20 => (laws_markByteS.f k t9.1 t9.2 t20.1).bind fun t21 => cond (decide (t21.1 < 0)) (ret false) ((laws_eqQc.f k t11.1 t11.2.1 t11.2.2.1 t11.2.2.2.1 t11.2.2.2.2.1 t11.2.2.2.2.2.1 t11.2.2.2.2.2.2.1 t11.2.2.2.2.2.2.2.1 t6.1 t6.2.1 t6.2.2.1 t6.2.2.2.1 t6.2.2.2.2.1 t6.2.2.2.2.2.1 t6.2.2.2.2.2.2.1 t6.2.2.2.2.2.2.2.1).bind fun t22 => cond (!t22) (ret false) (cond (!(t11.2.2.2.2.2.2.2.2 == t6.2.2.2.2.2.2.2.2)) (ret false) ((laws_markQc.f k t11.1 t11.2.1 t11.2.2.1 t11.2.2.2.1 t11.2.2.2.2.1 t11.2.2.2.2.2.1 t11.2.2.2.2.2.2.1 t11.2.2.2.2.2.2.2.1 1).bind fun t23 => (laws_heldQc.f k t11.1 t11.2.1 t23.2.2.2.1 t23.2.2.2.2.1 t23.2.2.2.2.2.1 t23.2.2.2.2.2.2.1 t23.2.2.2.2.2.2.2.1 t23.2.2.2.2.2.2.2.2 1).bind fun t24 => cond (decide (t24 < 0)) (ret false) (cond (!(decide (t24 = t23.1))) (ret false) ((laws_toLimits.f k a0_0 a0_1 a0_2 a0_3 a0_4).bind fun t25 => (laws_toTable.f k a1_0z a1_0).bind fun t26 => (laws_toVoteS.f k a2z a2).bind fun t27 => (laws_toByteS.f k a5z a5).bind fun t28 => (impl_Gather.f k t25.1 t25.2.1 t25.2.2.1 t25.2.2.2.1 t25.2.2.2.2 t26.1 t26.2 t27.1 t27.2 a3 a4 t28.1 t28.2).bind fun t29 => (laws_eqQc.f k t29.1 t29.2.1 t29.2.2.1 t29.2.2.2.1 t29.2.2.2.2.1 t29.2.2.2.2.2.1 t29.2.2.2.2.2.2.1 t29.2.2.2.2.2.2.2.1 t6.1 t6.2.1 t6.2.2.1 t6.2.2.2.1 t6.2.2.2.2.1 t6.2.2.2.2.2.1 t6.2.2.2.2.2.2.1 t6.2.2.2.2.2.2.2.1).bind fun t30 => cond (!t30) (ret false) (cond (!(t29.2.2.2.2.2.2.2.2 == t6.2.2.2.2.2.2.2.2)) (ret false) ((laws_heldQc.f k t11.1 t11.2.1 t23.2.2.2.1 t23.2.2.2.2.1 t23.2.2.2.2.2.1 t23.2.2.2.2.2.2.1 t23.2.2.2.2.2.2.2.1 t23.2.2.2.2.2.2.2.2 1).bind fun t31 => cond (decide (t31 < 0)) (ret false) (cond (!(decide (t31 = t23.1))) (ret false) (ret true)))))))))))))))))
def laws_FnExactGather.f : Nat → Int → Int → Int → Int → Int → Bool → (List T) → Bool → (List T) → Int → Int → Bool → (List Int) → Option Bool
  | 0, _, _, _, _, _, _, _, _, _, _, _, _, _ => none
  | k + 1, a0_0, a0_1, a0_2, a0_3, a0_4, a1_0z, a1_0, a2z, a2, a3, a4, a5z, a5 => laws_FnExactGather.b some k a0_0 a0_1 a0_2 a0_3 a0_4 a1_0z a1_0 a2z a2 a3 a4 a5z a5
def laws_FnExactGather.enc (r : Bool) : Res := ⟨[.vals false [((.bool r), true)]], []⟩
def laws_FnExactGather.ans (k : Nat) : List Arg → Ans
  | [.v (.agg [(.int .i64 a0_0), (.int .i64 a0_1), (.int .i64 a0_2), (.int .i64 a0_3), (.int .i64 a0_4)]), .v (.agg [(.sl 77 a1_0z a1_0)]), .v (.sl 57 a2z a2), .v (.int .i64 a3), .v (.int .i64 a4), .v (.nums 5 .u8 a5z a5)] => ⟨laws_FnExactGather.f k a0_0 a0_1 a0_2 a0_3 a0_4 a1_0z a1_0 a2z a2 a3 a4 a5z a5, laws_FnExactGather.enc⟩
  | _ => Ans.no
def laws_FnExactGather.Cs (k : Nat) : CallSem := tab [(4, laws_szTable.ans k), (5, laws_szVoteS.ans k), (7, laws_toLimits.ans k), (8, laws_toTable.ans k), (10, laws_toByteS.ans k), (9, laws_toVoteS.ans k), (6, spec_Gather.ans k), (11, impl_Gather.ans k), (12, laws_eqQc.ans k), (15, laws_eqByteS.ans k), (13, laws_eqTable.ans k), (14, laws_eqVoteS.ans k), (16, laws_markTable.ans k), (18, laws_markByteS.ans k), (17, laws_markVoteS.ans k), (19, laws_markQc.ans k), (20, laws_heldQc.ans k)]
theorem laws_FnExactGather.eq (k : Nat) (a0_0 a0_1 : Int) (a0_2 a0_3 a0_4 : Int) (a1_0z : Bool) (a1_0 : List T) (a2z : Bool) (a2 : List T) (a3 a4 : Int) (a5z : Bool) (a5 : List Int) : answer Tryz.prog laws_FnExactGather.Cs 100000 [] [] Tryz.f3 (k + 1) [.v (.agg [(.int .i64 a0_0), (.int .i64 a0_1), (.int .i64 a0_2), (.int .i64 a0_3), (.int .i64 a0_4)]), .v (.agg [(.sl 77 a1_0z a1_0)]), .v (.sl 57 a2z a2), .v (.int .i64 a3), .v (.int .i64 a4), .v (.nums 5 .u8 a5z a5)] = (laws_FnExactGather.f (k + 1) a0_0 a0_1 a0_2 a0_3 a0_4 a1_0z a1_0 a2z a2 a3 a4 a5z a5).map laws_FnExactGather.enc := by
  refine Eq.trans (b := laws_FnExactGather.b (fun r => some (laws_FnExactGather.enc r)) k a0_0 a0_1 a0_2 a0_3 a0_4 a1_0z a1_0 a2z a2 a3 a4 a5z a5) (by kernel_rfl) ?_
  show _ = (laws_FnExactGather.b some k a0_0 a0_1 a0_2 a0_3 a0_4 a1_0z a1_0 a2z a2 a3 a4 a5z a5).map laws_FnExactGather.enc
  unfold laws_FnExactGather.b
  repeat' first | with_reducible refine nat_cond ?_ ?_ | with_reducible refine nat_bind fun _ => ?_ | rfl
theorem laws_FnExactGather.sound (k : Nat) : SoundF Tryz.prog 3 (fun a => (laws_FnExactGather.ans k a).val) := by
  refine sound_plain (fun args res h => ?_) (fun t n => rfl)
  unfold laws_FnExactGather.ans at h
  dsimp only at h
  split at h
  · cases k with
    | zero => cases h
    | succ k =>
      unfold Ans.val at h
      rw [← laws_FnExactGather.eq] at h
      exact answer_sound mixed Tryz.func3 _ _ _ (k + 1) (fun j _ => tab_sound (tab_cons (laws_szTable.sound j) (tab_cons (laws_szVoteS.sound j) (tab_cons (laws_toLimits.sound j) (tab_cons (laws_toTable.sound j) (tab_cons (laws_toByteS.sound j) (tab_cons (laws_toVoteS.sound j) (tab_cons (spec_Gather.sound j) (tab_cons (impl_Gather.sound j) (tab_cons (laws_eqQc.sound j) (tab_cons (laws_eqByteS.sound j) (tab_cons (laws_eqTable.sound j) (tab_cons (laws_eqVoteS.sound j) (tab_cons (laws_markTable.sound j) (tab_cons (laws_markByteS.sound j) (tab_cons (laws_markVoteS.sound j) (tab_cons (laws_markQc.sound j) (tab_cons (laws_heldQc.sound j) (tab_nil))))))))))))))))))) _ _ h
  · exact (Ans.no_val h).elim
end Go.Proofs.YtbpcnodmgphinaaGreatG
