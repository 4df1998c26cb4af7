/- What the functions compute, printed by a program of this repo; each is shown to be what the machine of values answers. No condition. -/
import Derived.Test.YtadnejogdohfkaaProg
import Derived.KernelRfl
import Derived.Test.YtadnejogdohfkaaGFnExactTallyd
namespace Go.Proofs.YtadnejogdohfkaaG
open Go Go.Proofs.YtadnejogdohfkaaRv Go.Proofs
set_option linter.unusedVariables false
set_option linter.unusedSimpArgs false
/-! loop.example/g00790/laws.markTable -/
def laws_markTable.b {R : Type} (ret : Int × Bool × List T → Option R) (k : Nat) (a0_0z : Bool) (a0_0 : List T) (a1 : Int) : Option R :=
  (laws_markRowS.f k a0_0z a0_0 a1).bind fun t0 => ret (t0.1, t0.2.1, t0.2.2)
def laws_markTable.f : Nat → Bool → (List T) → Int → Option (Int × Bool × List T)
  | 0, _, _, _ => none
  | k + 1, a0_0z, a0_0, a1 => laws_markTable.b some k a0_0z a0_0 a1
def laws_markTable.enc (r : Int × Bool × List T) : Res := ⟨[.vals false [((.int .i64 r.1), true)]], [[((.sl 160 r.2.1 r.2.2), true)]]⟩
def laws_markTable.ans (k : Nat) : List Arg → Ans
  | [.own (.agg [(.sl 160 a0_0z a0_0)]), .v (.int .i64 a1)] => ⟨laws_markTable.f k a0_0z a0_0 a1, laws_markTable.enc⟩
  | _ => Ans.no
def laws_markTable.Cs (k : Nat) : CallSem := tab [(128, laws_markRowS.ans k)]
def laws_markTable.cuts : List (Nat × Keep) := []
theorem laws_markTable.s (k : Nat) (a0_0z : Bool) (a0_0 : List T) (a1 : Int) : answerM Try.prog laws_markTable.Cs 100000 laws_markTable.cuts Try.f46 (k + 1) [.own (.agg [(.sl 160 a0_0z a0_0)]), .v (.int .i64 a1)] = laws_markTable.b (fun r => some (laws_markTable.enc r)) k a0_0z a0_0 a1 := by kernel_rfl
theorem laws_markTable.b_nat {R R' : Type} (e : R → R') (ret : Int × Bool × List T → Option R) (k : Nat) (a0_0z : Bool) (a0_0 : List T) (a1 : Int) : laws_markTable.b (fun r => (ret r).map e) k a0_0z a0_0 a1 = (laws_markTable.b ret k a0_0z a0_0 a1).map e := by
  unfold laws_markTable.b
  repeat' first | with_reducible refine nat_cond ?_ ?_ | with_reducible refine nat_bind fun _ => ?_ | rfl
theorem laws_markTable.eq (k : Nat) (a0_0z : Bool) (a0_0 : List T) (a1 : Int) : answerM Try.prog laws_markTable.Cs 100000 laws_markTable.cuts Try.f46 (k + 1) [.own (.agg [(.sl 160 a0_0z a0_0)]), .v (.int .i64 a1)] = (laws_markTable.f (k + 1) a0_0z a0_0 a1).map laws_markTable.enc := by
  refine (laws_markTable.s k a0_0z a0_0 a1).trans (Eq.trans ?_ (laws_markTable.b_nat laws_markTable.enc some k a0_0z a0_0 a1))
  simp only [Option.map_some]
theorem laws_markTable.sound (k : Nat) : SoundF Try.prog 46 (fun a => (laws_markTable.ans k a).val) := by
  refine sound_mark (fun args hne => ?_) (fun t n l m h => ?_)
  · unfold laws_markTable.ans
    split
    · exact (hne _ _ rfl).elim
    · rfl
  unfold laws_markTable.ans at h
  dsimp only at h
  split at h
  · rename_i heq
    cases heq
    cases k with
    | zero => cases h
    | succ k =>
      unfold Ans.val at h
      rw [← laws_markTable.eq] at h
      exact answerM_sound (Cs := laws_markTable.Cs) mixed Try.func46 100000 laws_markTable.cuts (k + 1) (fun j _ => tab_sound (tab_cons (laws_markRowS.sound j) (tab_nil))) _ _ _ _ h
  · exact (Ans.no_val h).elim

/-! loop.example/g00790/laws.markVoteS -/
def laws_markVoteS.b {R : Type} (ret : Int × Bool × List T → Option R) (j0 : Bool → (List T) → Int → Int → Option R) (k : Nat) (a0z : Bool) (a0 : List T) (a1 : Int) : Option R :=
  j0 a0z a0 a1 0
def laws_markVoteS.y1 (x0 : List T) (x1 : Int) (x5 : Int) : List T := ((x0).set (x5).toNat (.agg [(.int .i64 x1), (.int .i64 ((((x0).getD (x5).toNat .bad).cells.getD 1 .bad)).toInt), (.nums 5 .u8 ((((x0).getD (x5).toNat .bad).cells.getD 2 .bad)).isNil ((((x0).getD (x5).toNat .bad).cells.getD 2 .bad)).toNums), (.int .i64 ((((x0).getD (x5).toNat .bad).cells.getD 3 .bad)).toInt), (.nums 5 .u8 ((((x0).getD (x5).toNat .bad).cells.getD 4 .bad)).isNil ((((x0).getD (x5).toNat .bad).cells.getD 4 .bad)).toNums)]))
def laws_markVoteS.y2 (x0 : List T) (x1 : Int) (x5 : Int) : List T := (((laws_markVoteS.y1 x0 x1 x5)).set (x5).toNat (.agg [(.int .i64 (((((laws_markVoteS.y1 x0 x1 x5)).getD (x5).toNat .bad).cells.getD 0 .bad)).toInt), (.int .i64 (RowKit.wrap64 (x1 + 1))), (.nums 5 .u8 (((((laws_markVoteS.y1 x0 x1 x5)).getD (x5).toNat .bad).cells.getD 2 .bad)).isNil (((((laws_markVoteS.y1 x0 x1 x5)).getD (x5).toNat .bad).cells.getD 2 .bad)).toNums), (.int .i64 (((((laws_markVoteS.y1 x0 x1 x5)).getD (x5).toNat .bad).cells.getD 3 .bad)).toInt), (.nums 5 .u8 (((((laws_markVoteS.y1 x0 x1 x5)).getD (x5).toNat .bad).cells.getD 4 .bad)).isNil (((((laws_markVoteS.y1 x0 x1 x5)).getD (x5).toNat .bad).cells.getD 4 .bad)).toNums)]))
def laws_markVoteS.y3 (x0 : List T) (x1 : Int) (x5 : Int) (t0 : (Int × Bool × List Int)) : List T := (((laws_markVoteS.y2 x0 x1 x5)).set (x5).toNat (.agg [(.int .i64 (((((laws_markVoteS.y2 x0 x1 x5)).getD (x5).toNat .bad).cells.getD 0 .bad)).toInt), (.int .i64 (((((laws_markVoteS.y2 x0 x1 x5)).getD (x5).toNat .bad).cells.getD 1 .bad)).toInt), (.nums 5 .u8 t0.2.1 t0.2.2), (.int .i64 (((((laws_markVoteS.y2 x0 x1 x5)).getD (x5).toNat .bad).cells.getD 3 .bad)).toInt), (.nums 5 .u8 (((((laws_markVoteS.y2 x0 x1 x5)).getD (x5).toNat .bad).cells.getD 4 .bad)).isNil (((((laws_markVoteS.y2 x0 x1 x5)).getD (x5).toNat .bad).cells.getD 4 .bad)).toNums)]))
def laws_markVoteS.y4 (x0 : List T) (x1 : Int) (x5 : Int) (t0 : (Int × Bool × List Int)) : List T := (((laws_markVoteS.y3 x0 x1 x5 t0)).set (x5).toNat (.agg [(.int .i64 (((((laws_markVoteS.y3 x0 x1 x5 t0)).getD (x5).toNat .bad).cells.getD 0 .bad)).toInt), (.int .i64 (((((laws_markVoteS.y3 x0 x1 x5 t0)).getD (x5).toNat .bad).cells.getD 1 .bad)).toInt), (.nums 5 .u8 (((((laws_markVoteS.y3 x0 x1 x5 t0)).getD (x5).toNat .bad).cells.getD 2 .bad)).isNil (((((laws_markVoteS.y3 x0 x1 x5 t0)).getD (x5).toNat .bad).cells.getD 2 .bad)).toNums), (.int .i64 t0.1), (.nums 5 .u8 (((((laws_markVoteS.y3 x0 x1 x5 t0)).getD (x5).toNat .bad).cells.getD 4 .bad)).isNil (((((laws_markVoteS.y3 x0 x1 x5 t0)).getD (x5).toNat .bad).cells.getD 4 .bad)).toNums)]))
def laws_markVoteS.l0b {R : Type} (ret : Int × Bool × List T → Option R) (j0 : Bool → (List T) → Int → Int → Option R) (k : Nat) (x0z : Bool) (x0 : List T) (x1 : Int) (x5 : Int) : Option R :=
  cond (decide (x5 < ((x0).length : Int))) (cond (decide ((0 : Int) ≤ x5)) (cond (decide (x5 < ((x0).length : Int))) (cond (decide ((0 : Int) ≤ x5)) (cond (decide (x5 < (((laws_markVoteS.y1 x0 x1 x5)).length : Int))) (cond (decide ((0 : Int) ≤ x5)) (cond (decide (x5 < (((laws_markVoteS.y2 x0 x1 x5)).length : Int))) ((laws_markByteS.f k ((((((laws_markVoteS.y2 x0 x1 x5)).getD (x5).toNat .bad).cells.getD 2 .bad)).isNil) ((((((laws_markVoteS.y2 x0 x1 x5)).getD (x5).toNat .bad).cells.getD 2 .bad)).toNums) (RowKit.wrap64 ((RowKit.wrap64 (x1 + 1)) + 1))).bind fun t0 => cond (decide ((0 : Int) ≤ x5)) (cond (decide (x5 < (((laws_markVoteS.y3 x0 x1 x5 t0)).length : Int))) (cond (decide ((0 : Int) ≤ x5)) (cond (decide (x5 < (((laws_markVoteS.y4 x0 x1 x5 t0)).length : Int))) ((laws_markByteS.f k ((((((laws_markVoteS.y4 x0 x1 x5 t0)).getD (x5).toNat .bad).cells.getD 4 .bad)).isNil) ((((((laws_markVoteS.y4 x0 x1 x5 t0)).getD (x5).toNat .bad).cells.getD 4 .bad)).toNums) (RowKit.wrap64 (t0.1 + 1))).bind fun t1 => j0 x0z (((laws_markVoteS.y4 x0 x1 x5 t0)).set (x5).toNat (.agg [(.int .i64 (((((laws_markVoteS.y4 x0 x1 x5 t0)).getD (x5).toNat .bad).cells.getD 0 .bad)).toInt), (.int .i64 (((((laws_markVoteS.y4 x0 x1 x5 t0)).getD (x5).toNat .bad).cells.getD 1 .bad)).toInt), (.nums 5 .u8 (((((laws_markVoteS.y4 x0 x1 x5 t0)).getD (x5).toNat .bad).cells.getD 2 .bad)).isNil (((((laws_markVoteS.y4 x0 x1 x5 t0)).getD (x5).toNat .bad).cells.getD 2 .bad)).toNums), (.int .i64 (((((laws_markVoteS.y4 x0 x1 x5 t0)).getD (x5).toNat .bad).cells.getD 3 .bad)).toInt), (.nums 5 .u8 t1.2.1 t1.2.2)])) t1.1 (RowKit.wrap64 (x5 + 1))) (none)) (none)) (none)) (none)) (none)) (none)) (none)) (none)) (none)) (none)) (ret (x1, x0z, x0))
def laws_markVoteS.l0 : Nat → Bool → (List T) → Int → Int → Option (Int × Bool × List T)
  | 0, _, _, _, _ => none
  | k + 1, x0z, x0, x1, x5 => laws_markVoteS.l0b some (laws_markVoteS.l0 k) k x0z x0 x1 x5
def laws_markVoteS.f : Nat → Bool → (List T) → Int → Option (Int × Bool × List T)
  | 0, _, _, _ => none
  | k + 1, a0z, a0, a1 => laws_markVoteS.b some (laws_markVoteS.l0 k) k a0z a0 a1
def laws_markVoteS.enc (r : Int × Bool × List T) : Res := ⟨[.vals false [((.int .i64 r.1), true)]], [[((.sl 93 r.2.1 r.2.2), true)]]⟩
def laws_markVoteS.ans (k : Nat) : List Arg → Ans
  | [.own (.sl 93 a0z a0), .v (.int .i64 a1)] => ⟨laws_markVoteS.f k a0z a0 a1, laws_markVoteS.enc⟩
  | _ => Ans.no
def laws_markVoteS.Cs (k : Nat) : CallSem := tab [(54, laws_markByteS.ans k)]
def laws_markVoteS.cuts : List (Nat × Keep) := [(26, ⟨[(0, none), (1, some []), (5, some [])], []⟩)]
noncomputable def laws_markVoteS.K0 : List Fr := framesAt [true, false, true, false] (bodyOf Try.f73 laws_markVoteS.cuts) []
def laws_markVoteS.N0 (x0z : Bool) (x0 : List T) (x1 : Int) (x5 : Int) : St := stOf 48 48 2 [(0, .val ⟨(.sl 93 x0z x0), [.h 0], true, some (.h 0)⟩), (1, .val (V.s (.int .i64 x1))), (5, .val (V.s (.int .i64 x5)))] []
theorem laws_markVoteS.s (k : Nat) (a0z : Bool) (a0 : List T) (a1 : Int) : answerM Try.prog laws_markVoteS.Cs 100000 laws_markVoteS.cuts Try.f73 (k + 1) [.own (.sl 93 a0z a0), .v (.int .i64 a1)] = laws_markVoteS.b (fun r => some (laws_markVoteS.enc r)) (fun x0z x0 x1 x5 => rounds Try.prog laws_markVoteS.Cs (finishM Try.prog Try.f73 (.sl 93 a0z a0)) 100000 k laws_markVoteS.K0 (laws_markVoteS.N0 x0z x0 x1 x5)) k a0z a0 a1 := by kernel_rfl
theorem laws_markVoteS.s0 (k : Nat) (G : List Fr → St → Option Res) (a0z : Bool) (a0 : List T) (a1 : Int) (yx0z : Bool) (yx0 : List T) (yx1 : Int) (yx5 : Int) : resume Try.prog (laws_markVoteS.Cs k) G (finishM Try.prog Try.f73 (.sl 93 a0z a0)) 100000 laws_markVoteS.K0 (laws_markVoteS.N0 yx0z yx0 yx1 yx5) = laws_markVoteS.l0b (fun r => some (laws_markVoteS.enc r)) (fun x0z x0 x1 x5 => G laws_markVoteS.K0 (laws_markVoteS.N0 x0z x0 x1 x5)) k yx0z yx0 yx1 yx5 := by kernel_rfl
theorem laws_markVoteS.b_nat {R R' : Type} (e : R → R') (ret : Int × Bool × List T → Option R) (j0 : Bool → (List T) → Int → Int → Option R) (k : Nat) (a0z : Bool) (a0 : List T) (a1 : Int) : laws_markVoteS.b (fun r => (ret r).map e) (fun x0z x0 x1 x5 => (j0 x0z x0 x1 x5).map e) k a0z a0 a1 = (laws_markVoteS.b ret j0 k a0z a0 a1).map e := by
  unfold laws_markVoteS.b
  repeat' first | with_reducible refine nat_cond ?_ ?_ | with_reducible refine nat_bind fun _ => ?_ | rfl
theorem laws_markVoteS.l0b_nat {R R' : Type} (e : R → R') (ret : Int × Bool × List T → Option R) (j0 : Bool → (List T) → Int → Int → Option R) (k : Nat) (x0z : Bool) (x0 : List T) (x1 : Int) (x5 : Int) : laws_markVoteS.l0b (fun r => (ret r).map e) (fun x0z x0 x1 x5 => (j0 x0z x0 x1 x5).map e) k x0z x0 x1 x5 = (laws_markVoteS.l0b ret j0 k x0z x0 x1 x5).map e := by
  unfold laws_markVoteS.l0b
  repeat' first | with_reducible refine nat_cond ?_ ?_ | with_reducible refine nat_bind fun _ => ?_ | rfl
theorem laws_markVoteS.rounds_eq (a0z : Bool) (a0 : List T) (a1 : Int) : ∀ k, (∀ (x0z : Bool) (x0 : List T) (x1 : Int) (x5 : Int), rounds Try.prog laws_markVoteS.Cs (finishM Try.prog Try.f73 (.sl 93 a0z a0)) 100000 k laws_markVoteS.K0 (laws_markVoteS.N0 x0z x0 x1 x5) = (laws_markVoteS.l0 k x0z x0 x1 x5).map laws_markVoteS.enc)
  | 0 => fun _ _ _ _ => rfl
  | k + 1 => by
    have ih := laws_markVoteS.rounds_eq a0z a0 a1 k
    refine fun _ _ _ _ => ?_
    · refine (laws_markVoteS.s0 k _ a0z a0 a1 _ _ _ _).trans (Eq.trans ?_ (laws_markVoteS.l0b_nat laws_markVoteS.enc some (laws_markVoteS.l0 k) k _ _ _ _))
      simp only [ih, Option.map_some]
theorem laws_markVoteS.eq (k : Nat) (a0z : Bool) (a0 : List T) (a1 : Int) : answerM Try.prog laws_markVoteS.Cs 100000 laws_markVoteS.cuts Try.f73 (k + 1) [.own (.sl 93 a0z a0), .v (.int .i64 a1)] = (laws_markVoteS.f (k + 1) a0z a0 a1).map laws_markVoteS.enc := by
  have ih := laws_markVoteS.rounds_eq a0z a0 a1 k
  refine (laws_markVoteS.s k a0z a0 a1).trans (Eq.trans ?_ (laws_markVoteS.b_nat laws_markVoteS.enc some (laws_markVoteS.l0 k) k a0z a0 a1))
  simp only [ih, Option.map_some]
theorem laws_markVoteS.sound (k : Nat) : SoundF Try.prog 73 (fun a => (laws_markVoteS.ans k a).val) := by
  refine sound_mark (fun args hne => ?_) (fun t n l m h => ?_)
  · unfold laws_markVoteS.ans
    split
    · exact (hne _ _ rfl).elim
    · rfl
  unfold laws_markVoteS.ans at h
  dsimp only at h
  split at h
  · rename_i heq
    cases heq
    cases k with
    | zero => cases h
    | succ k =>
      unfold Ans.val at h
      rw [← laws_markVoteS.eq] at h
      exact answerM_sound (Cs := laws_markVoteS.Cs) mixed Try.func73 100000 laws_markVoteS.cuts (k + 1) (fun j _ => tab_sound (tab_cons (laws_markByteS.sound j) (tab_nil))) _ _ _ _ h
  · exact (Ans.no_val h).elim

/-! loop.example/g00790/laws.heldByteS -/
def laws_heldByteS.b {R : Type} (ret : Int → Option R) (j0 : Bool → (List Int) → Int → Int → Option R) (k : Nat) (a0z : Bool) (a0 : List Int) (a1 : Int) : Option R :=
  j0 a0z a0 a1 0
def laws_heldByteS.l0b {R : Type} (ret : Int → Option R) (j0 : Bool → (List Int) → Int → Int → Option R) (k : Nat) (x0z : Bool) (x0 : List Int) (x1 : Int) (x5 : Int) : Option R :=
  cond (decide (x5 < ((x0).length : Int))) (cond (decide ((0 : Int) ≤ x5)) (cond (decide (x5 < ((x0).length : Int))) (cond (!(decide ((rdI x0 x5) = ((x1) % 256)))) (ret (-1)) (j0 x0z x0 (RowKit.wrap64 (x1 + 1)) (RowKit.wrap64 (x5 + 1)))) (none)) (none)) (ret x1)
def laws_heldByteS.l0 : Nat → Bool → (List Int) → Int → Int → Option Int
  | 0, _, _, _, _ => none
  | k + 1, x0z, x0, x1, x5 => laws_heldByteS.l0b some (laws_heldByteS.l0 k) k x0z x0 x1 x5
def laws_heldByteS.f : Nat → Bool → (List Int) → Int → Option Int
  | 0, _, _, _ => none
  | k + 1, a0z, a0, a1 => laws_heldByteS.b some (laws_heldByteS.l0 k) k a0z a0 a1
def laws_heldByteS.enc (r : Int) : Res := ⟨[.vals false [((.int .i64 r), true)]], []⟩
def laws_heldByteS.ans (k : Nat) : List Arg → Ans
  | [.v (.nums 5 .u8 a0z a0), .v (.int .i64 a1)] => ⟨laws_heldByteS.f k a0z a0 a1, laws_heldByteS.enc⟩
  | _ => Ans.no
def laws_heldByteS.Cs (k : Nat) : CallSem := tab []
def laws_heldByteS.cuts : List (Nat × Keep) := [(26, ⟨[(0, some []), (1, some []), (5, some [])], []⟩)]
noncomputable def laws_heldByteS.K0 : List Fr := framesAt [true, false, true, false] (bodyOf Try.f59 laws_heldByteS.cuts) []
def laws_heldByteS.N0 (x0z : Bool) (x0 : List Int) (x1 : Int) (x5 : Int) : St := stOf 22 22 2 [(0, .val ⟨(.nums 5 .u8 x0z x0), [], false, none⟩), (1, .val (V.s (.int .i64 x1))), (5, .val (V.s (.int .i64 x5)))] []
theorem laws_heldByteS.s (k : Nat) (a0z : Bool) (a0 : List Int) (a1 : Int) : answer Try.prog laws_heldByteS.Cs 100000 laws_heldByteS.cuts [] Try.f59 (k + 1) [.v (.nums 5 .u8 a0z a0), .v (.int .i64 a1)] = laws_heldByteS.b (fun r => some (laws_heldByteS.enc r)) (fun x0z x0 x1 x5 => rounds Try.prog laws_heldByteS.Cs (finish Try.prog [] Try.f59 [.v (.nums 5 .u8 a0z a0), .v (.int .i64 a1)]) 100000 k laws_heldByteS.K0 (laws_heldByteS.N0 x0z x0 x1 x5)) k a0z a0 a1 := by kernel_rfl
theorem laws_heldByteS.s0 (k : Nat) (G : List Fr → St → Option Res) (a0z : Bool) (a0 : List Int) (a1 : Int) (yx0z : Bool) (yx0 : List Int) (yx1 : Int) (yx5 : Int) : resume Try.prog (laws_heldByteS.Cs k) G (finish Try.prog [] Try.f59 [.v (.nums 5 .u8 a0z a0), .v (.int .i64 a1)]) 100000 laws_heldByteS.K0 (laws_heldByteS.N0 yx0z yx0 yx1 yx5) = laws_heldByteS.l0b (fun r => some (laws_heldByteS.enc r)) (fun x0z x0 x1 x5 => G laws_heldByteS.K0 (laws_heldByteS.N0 x0z x0 x1 x5)) k yx0z yx0 yx1 yx5 := by kernel_rfl
theorem laws_heldByteS.b_nat {R R' : Type} (e : R → R') (ret : Int → Option R) (j0 : Bool → (List Int) → Int → Int → Option R) (k : Nat) (a0z : Bool) (a0 : List Int) (a1 : Int) : laws_heldByteS.b (fun r => (ret r).map e) (fun x0z x0 x1 x5 => (j0 x0z x0 x1 x5).map e) k a0z a0 a1 = (laws_heldByteS.b ret j0 k a0z a0 a1).map e := by
  unfold laws_heldByteS.b
  repeat' first | with_reducible refine nat_cond ?_ ?_ | with_reducible refine nat_bind fun _ => ?_ | rfl
theorem laws_heldByteS.l0b_nat {R R' : Type} (e : R → R') (ret : Int → Option R) (j0 : Bool → (List Int) → Int → Int → Option R) (k : Nat) (x0z : Bool) (x0 : List Int) (x1 : Int) (x5 : Int) : laws_heldByteS.l0b (fun r => (ret r).map e) (fun x0z x0 x1 x5 => (j0 x0z x0 x1 x5).map e) k x0z x0 x1 x5 = (laws_heldByteS.l0b ret j0 k x0z x0 x1 x5).map e := by
  unfold laws_heldByteS.l0b
  repeat' first | with_reducible refine nat_cond ?_ ?_ | with_reducible refine nat_bind fun _ => ?_ | rfl
theorem laws_heldByteS.rounds_eq (a0z : Bool) (a0 : List Int) (a1 : Int) : ∀ k, (∀ (x0z : Bool) (x0 : List Int) (x1 : Int) (x5 : Int), rounds Try.prog laws_heldByteS.Cs (finish Try.prog [] Try.f59 [.v (.nums 5 .u8 a0z a0), .v (.int .i64 a1)]) 100000 k laws_heldByteS.K0 (laws_heldByteS.N0 x0z x0 x1 x5) = (laws_heldByteS.l0 k x0z x0 x1 x5).map laws_heldByteS.enc)
  | 0 => fun _ _ _ _ => rfl
  | k + 1 => by
    have ih := laws_heldByteS.rounds_eq a0z a0 a1 k
    refine fun _ _ _ _ => ?_
    · refine (laws_heldByteS.s0 k _ a0z a0 a1 _ _ _ _).trans (Eq.trans ?_ (laws_heldByteS.l0b_nat laws_heldByteS.enc some (laws_heldByteS.l0 k) k _ _ _ _))
      simp only [ih, Option.map_some]
theorem laws_heldByteS.eq (k : Nat) (a0z : Bool) (a0 : List Int) (a1 : Int) : answer Try.prog laws_heldByteS.Cs 100000 laws_heldByteS.cuts [] Try.f59 (k + 1) [.v (.nums 5 .u8 a0z a0), .v (.int .i64 a1)] = (laws_heldByteS.f (k + 1) a0z a0 a1).map laws_heldByteS.enc := by
  have ih := laws_heldByteS.rounds_eq a0z a0 a1 k
  refine (laws_heldByteS.s k a0z a0 a1).trans (Eq.trans ?_ (laws_heldByteS.b_nat laws_heldByteS.enc some (laws_heldByteS.l0 k) k a0z a0 a1))
  simp only [ih, Option.map_some]
theorem laws_heldByteS.sound (k : Nat) : SoundF Try.prog 59 (fun a => (laws_heldByteS.ans k a).val) := by
  refine sound_plain (fun args res h => ?_) (fun t n => rfl)
  unfold laws_heldByteS.ans at h
  dsimp only at h
  split at h
  · cases k with
    | zero => cases h
    | succ k =>
      unfold Ans.val at h
      rw [← laws_heldByteS.eq] at h
      exact answer_sound mixed Try.func59 _ _ _ (k + 1) (fun j _ => tab_sound (tab_nil)) _ _ h
  · exact (Ans.no_val h).elim

/-! loop.example/g00790/laws.FnExactTally -/
def laws_FnExactTally.b {R : Type} (ret : Bool → Option R) (k : Nat) (a0_0z : Bool) (a0_0 : List T) (a1z : Bool) (a1 : List T) (a2 : Int) (a3z : Bool) (a3 : List Int) : Option R :=
  cond (decide (((a3).length : Int) > 1048576)) (ret true) ((laws_szTable.f k a0_0z a0_0 1048576).bind fun t0 => cond (decide (t0 < 0)) (ret true) ((laws_szVoteS.f k a1z a1 t0).bind fun t1 => cond (decide (t1 < 0)) (ret true) ((laws_toTable.f k a0_0z a0_0).bind fun t2 => (laws_toVoteS.f k a1z a1).bind fun t3 => (laws_toByteS.f k a3z a3).bind fun t4 => (spec_Tally.f k t2.1 t2.2 t3.1 t3.2 a2 t4.1 t4.2).bind fun t5 => (laws_toTable.f k a0_0z a0_0).bind fun t6 => (laws_toVoteS.f k a1z a1).bind fun t7 => (laws_toByteS.f k a3z a3).bind fun t8 => (impl_Tally.f k t6.1 t6.2 t7.1 t7.2 a2 t8.1 t8.2).bind fun t9 => (laws_eqByteS.f k t9.1 t9.2 t5.1 t5.2).bind fun t10 => cond (!t10) (ret false) ((laws_toTable.f k a0_0z a0_0).bind fun t11 => (laws_eqTable.f k t6.1 t6.2 t11.1 t11.2).bind fun t12 => cond (!t12) (ret false) ((laws_toVoteS.f k a1z a1).bind fun t13 => (laws_eqVoteS.f k t7.1 t7.2 t13.1 t13.2).bind fun t14 => cond (!t14) (ret false) ((laws_toByteS.f k a3z a3).bind fun t15 => (laws_eqByteS.f k t8.1 t8.2 t15.1 t15.2).bind fun t16 => cond (!t16) (ret false) ((laws_markTable.f k t6.1 t6.2 1).bind fun t17 => (laws_markVoteS.f k t7.1 t7.2 t17.1).bind fun t18 => (laws_markByteS.f k t8.1 t8.2 t18.1).bind fun t19 => cond (decide (t19.1 < 0)) (ret false) ((laws_eqByteS.f k t9.1 t9.2 t5.1 t5.2).bind fun t20 => cond (!t20) (ret false) ((laws_markByteS.f k t9.1 t9.2 1).bind fun t21 => (laws_heldByteS.f k t21.2.1 t21.2.2 1).bind fun t22 => cond (decide (t22 < 0)) (ret false) (cond (!(decide (t22 = t21.1))) (ret false) ((laws_toTable.f k a0_0z a0_0).bind fun t23 => (laws_toVoteS.f k a1z a1).bind fun t24 => (laws_toByteS.f k a3z a3).bind fun t25 => (impl_Tally.f k t23.1 t23.2 t24.1 t24.2 a2 t25.1 t25.2).bind fun t26 => (laws_eqByteS.f k t26.1 t26.2 t5.1 t5.2).bind fun t27 => cond (!t27) (ret false) ((laws_heldByteS.f k t21.2.1 t21.2.2 1).bind fun t28 => cond (decide (t28 < 0)) (ret false) (cond (!(decide (t28 = t21.1))) (ret false) (ret true))))))))))))))
def laws_FnExactTally.f : Nat → Bool → (List T) → Bool → (List T) → Int → Bool → (List Int) → Option Bool
  | 0, _, _, _, _, _, _, _ => none
  | k + 1, a0_0z, a0_0, a1z, a1, a2, a3z, a3 => laws_FnExactTally.b some k a0_0z a0_0 a1z a1 a2 a3z a3
def laws_FnExactTally.enc (r : Bool) : Res := ⟨[.vals false [((.bool r), true)]], []⟩
def laws_FnExactTally.ans (k : Nat) : List Arg → Ans
  | [.v (.agg [(.sl 187 a0_0z a0_0)]), .v (.sl 172 a1z a1), .v (.int .i64 a2), .v (.nums 5 .u8 a3z a3)] => ⟨laws_FnExactTally.f k a0_0z a0_0 a1z a1 a2 a3z a3, laws_FnExactTally.enc⟩
  | _ => Ans.no
def laws_FnExactTally.Cs (k : Nat) : CallSem := tab [(30, laws_szTable.ans k), (68, laws_szVoteS.ans k), (33, laws_toTable.ans k), (50, laws_toByteS.ans k), (70, laws_toVoteS.ans k), (69, spec_Tally.ans k), (71, impl_Tally.ans k), (53, laws_eqByteS.ans k), (36, laws_eqTable.ans k), (72, laws_eqVoteS.ans k), (46, laws_markTable.ans k), (54, laws_markByteS.ans k), (73, laws_markVoteS.ans k), (59, laws_heldByteS.ans k)]
def laws_FnExactTally.cuts : List (Nat × Keep) := []
theorem laws_FnExactTally.s (k : Nat) (a0_0z : Bool) (a0_0 : List T) (a1z : Bool) (a1 : List T) (a2 : Int) (a3z : Bool) (a3 : List Int) : answer Try.prog laws_FnExactTally.Cs 100000 laws_FnExactTally.cuts [] Try.f13 (k + 1) [.v (.agg [(.sl 187 a0_0z a0_0)]), .v (.sl 172 a1z a1), .v (.int .i64 a2), .v (.nums 5 .u8 a3z a3)] = laws_FnExactTally.b (fun r => some (laws_FnExactTally.enc r)) k a0_0z a0_0 a1z a1 a2 a3z a3 := by kernel_rfl
theorem laws_FnExactTally.b_nat {R R' : Type} (e : R → R') (ret : Bool → Option R) (k : Nat) (a0_0z : Bool) (a0_0 : List T) (a1z : Bool) (a1 : List T) (a2 : Int) (a3z : Bool) (a3 : List Int) : laws_FnExactTally.b (fun r => (ret r).map e) k a0_0z a0_0 a1z a1 a2 a3z a3 = (laws_FnExactTally.b ret k a0_0z a0_0 a1z a1 a2 a3z a3).map e := by
  unfold laws_FnExactTally.b
  repeat' first | with_reducible refine nat_cond ?_ ?_ | with_reducible refine nat_bind fun _ => ?_ | rfl
theorem laws_FnExactTally.eq (k : Nat) (a0_0z : Bool) (a0_0 : List T) (a1z : Bool) (a1 : List T) (a2 : Int) (a3z : Bool) (a3 : List Int) : answer Try.prog laws_FnExactTally.Cs 100000 laws_FnExactTally.cuts [] Try.f13 (k + 1) [.v (.agg [(.sl 187 a0_0z a0_0)]), .v (.sl 172 a1z a1), .v (.int .i64 a2), .v (.nums 5 .u8 a3z a3)] = (laws_FnExactTally.f (k + 1) a0_0z a0_0 a1z a1 a2 a3z a3).map laws_FnExactTally.enc := by
  refine (laws_FnExactTally.s k a0_0z a0_0 a1z a1 a2 a3z a3).trans (Eq.trans ?_ (laws_FnExactTally.b_nat laws_FnExactTally.enc some k a0_0z a0_0 a1z a1 a2 a3z a3))
  simp only [Option.map_some]
theorem laws_FnExactTally.sound (k : Nat) : SoundF Try.prog 13 (fun a => (laws_FnExactTally.ans k a).val) := by
  refine sound_plain (fun args res h => ?_) (fun t n => rfl)
  unfold laws_FnExactTally.ans at h
  dsimp only at h
  split at h
  · cases k with
    | zero => cases h
    | succ k =>
      unfold Ans.val at h
      rw [← laws_FnExactTally.eq] at h
      exact answer_sound mixed Try.func13 _ _ _ (k + 1) (fun j _ => tab_sound (tab_cons (laws_szTable.sound j) (tab_cons (laws_szVoteS.sound j) (tab_cons (laws_toTable.sound j) (tab_cons (laws_toByteS.sound j) (tab_cons (laws_toVoteS.sound j) (tab_cons (spec_Tally.sound j) (tab_cons (impl_Tally.sound j) (tab_cons (laws_eqByteS.sound j) (tab_cons (laws_eqTable.sound j) (tab_cons (laws_eqVoteS.sound j) (tab_cons (laws_markTable.sound j) (tab_cons (laws_markByteS.sound j) (tab_cons (laws_markVoteS.sound j) (tab_cons (laws_heldByteS.sound j) (tab_nil)))))))))))))))) _ _ h
  · exact (Ans.no_val h).elim
end Go.Proofs.YtadnejogdohfkaaG
