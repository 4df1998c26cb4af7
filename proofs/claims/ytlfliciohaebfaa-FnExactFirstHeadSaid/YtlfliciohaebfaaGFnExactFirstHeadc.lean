/- What the functions compute, printed by a program of this repo; each is shown to be what the machine of values answers. No condition. -/
import Derived.Test.YtlfliciohaebfaaProg
import Derived.KernelRfl
import Derived.Test.YtlfliciohaebfaaGFnExactFirstHeadb
namespace Go.Proofs.YtlfliciohaebfaaG
open Go Go.Proofs.YtlfliciohaebfaaRv Go.Proofs
set_option linter.unusedVariables false
set_option linter.unusedSimpArgs false
/-! loop.example/g00790/laws.markByteS -/
def laws_markByteS.b {R : Type} (ret : Int × Bool × List Int → Option R) (j0 : Bool → (List Int) → Int → Int → Option R) (k : Nat) (a0z : Bool) (a0 : List Int) (a1 : Int) : Option R :=
  j0 a0z a0 a1 0
def laws_markByteS.l0b {R : Type} (ret : Int × Bool × List Int → Option R) (j0 : Bool → (List Int) → Int → Int → Option R) (k : Nat) (x0z : Bool) (x0 : List Int) (x1 : Int) (x5 : Int) : Option R :=
  cond (decide (x5 < ((x0).length : Int))) (cond (decide ((0 : Int) ≤ x5)) (cond (decide (x5 < ((x0).length : Int))) (j0 x0z ((x0).set (x5).toNat ((x1) % 256)) (RowKit.wrap64 (x1 + 1)) (RowKit.wrap64 (x5 + 1))) (none)) (none)) (ret (x1, x0z, x0))
def laws_markByteS.l0 : Nat → Bool → (List Int) → Int → Int → Option (Int × Bool × List Int)
  | 0, _, _, _, _ => none
  | k + 1, x0z, x0, x1, x5 => laws_markByteS.l0b some (laws_markByteS.l0 k) k x0z x0 x1 x5
def laws_markByteS.f : Nat → Bool → (List Int) → Int → Option (Int × Bool × List Int)
  | 0, _, _, _ => none
  | k + 1, a0z, a0, a1 => laws_markByteS.b some (laws_markByteS.l0 k) k a0z a0 a1
def laws_markByteS.enc (r : Int × Bool × List Int) : Res := ⟨[.vals false [((.int .i64 r.1), true)]], [[((.nums 5 .u8 r.2.1 r.2.2), true)]]⟩
def laws_markByteS.ans (k : Nat) : List Arg → Ans
  | [.own (.nums 5 .u8 a0z a0), .v (.int .i64 a1)] => ⟨laws_markByteS.f k a0z a0 a1, laws_markByteS.enc⟩
  | _ => Ans.no
def laws_markByteS.Cs (k : Nat) : CallSem := tab []
def laws_markByteS.cuts : List (Nat × Keep) := [(26, ⟨[(0, none), (1, some []), (5, some [])], []⟩)]
noncomputable def laws_markByteS.K0 : List Fr := framesAt [true, false, true, false] (bodyOf Try.f34 laws_markByteS.cuts) []
def laws_markByteS.N0 (x0z : Bool) (x0 : List Int) (x1 : Int) (x5 : Int) : St := stOf 20 20 2 [(0, .val ⟨(.nums 5 .u8 x0z x0), [.h 0], true, some (.h 0)⟩), (1, .val (V.s (.int .i64 x1))), (5, .val (V.s (.int .i64 x5)))] []
theorem laws_markByteS.s (k : Nat) (a0z : Bool) (a0 : List Int) (a1 : Int) : answerM Try.prog laws_markByteS.Cs 100000 laws_markByteS.cuts Try.f34 (k + 1) [.own (.nums 5 .u8 a0z a0), .v (.int .i64 a1)] = laws_markByteS.b (fun r => some (laws_markByteS.enc r)) (fun x0z x0 x1 x5 => rounds Try.prog laws_markByteS.Cs (finishM Try.prog Try.f34 (.nums 5 .u8 a0z a0)) 100000 k laws_markByteS.K0 (laws_markByteS.N0 x0z x0 x1 x5)) k a0z a0 a1 := by kernel_rfl
theorem laws_markByteS.s0 (k : Nat) (G : List Fr → St → Option Res) (a0z : Bool) (a0 : List Int) (a1 : Int) (yx0z : Bool) (yx0 : List Int) (yx1 : Int) (yx5 : Int) : resume Try.prog (laws_markByteS.Cs k) G (finishM Try.prog Try.f34 (.nums 5 .u8 a0z a0)) 100000 laws_markByteS.K0 (laws_markByteS.N0 yx0z yx0 yx1 yx5) = laws_markByteS.l0b (fun r => some (laws_markByteS.enc r)) (fun x0z x0 x1 x5 => G laws_markByteS.K0 (laws_markByteS.N0 x0z x0 x1 x5)) k yx0z yx0 yx1 yx5 := by kernel_rfl
theorem laws_markByteS.b_nat {R R' : Type} (e : R → R') (ret : Int × Bool × List Int → Option R) (j0 : Bool → (List Int) → Int → Int → Option R) (k : Nat) (a0z : Bool) (a0 : List Int) (a1 : Int) : laws_markByteS.b (fun r => (ret r).map e) (fun x0z x0 x1 x5 => (j0 x0z x0 x1 x5).map e) k a0z a0 a1 = (laws_markByteS.b ret j0 k a0z a0 a1).map e := by
  unfold laws_markByteS.b
  repeat' first | with_reducible refine nat_cond ?_ ?_ | with_reducible refine nat_bind fun _ => ?_ | rfl
theorem laws_markByteS.l0b_nat {R R' : Type} (e : R → R') (ret : Int × Bool × List Int → Option R) (j0 : Bool → (List Int) → Int → Int → Option R) (k : Nat) (x0z : Bool) (x0 : List Int) (x1 : Int) (x5 : Int) : laws_markByteS.l0b (fun r => (ret r).map e) (fun x0z x0 x1 x5 => (j0 x0z x0 x1 x5).map e) k x0z x0 x1 x5 = (laws_markByteS.l0b ret j0 k x0z x0 x1 x5).map e := by
  unfold laws_markByteS.l0b
  repeat' first | with_reducible refine nat_cond ?_ ?_ | with_reducible refine nat_bind fun _ => ?_ | rfl
theorem laws_markByteS.rounds_eq (a0z : Bool) (a0 : List Int) (a1 : Int) : ∀ k, (∀ (x0z : Bool) (x0 : List Int) (x1 : Int) (x5 : Int), rounds Try.prog laws_markByteS.Cs (finishM Try.prog Try.f34 (.nums 5 .u8 a0z a0)) 100000 k laws_markByteS.K0 (laws_markByteS.N0 x0z x0 x1 x5) = (laws_markByteS.l0 k x0z x0 x1 x5).map laws_markByteS.enc)
  | 0 => fun _ _ _ _ => rfl
  | k + 1 => by
    have ih := laws_markByteS.rounds_eq a0z a0 a1 k
    refine fun _ _ _ _ => ?_
    · refine (laws_markByteS.s0 k _ a0z a0 a1 _ _ _ _).trans (Eq.trans ?_ (laws_markByteS.l0b_nat laws_markByteS.enc some (laws_markByteS.l0 k) k _ _ _ _))
      simp only [ih, Option.map_some]
theorem laws_markByteS.eq (k : Nat) (a0z : Bool) (a0 : List Int) (a1 : Int) : answerM Try.prog laws_markByteS.Cs 100000 laws_markByteS.cuts Try.f34 (k + 1) [.own (.nums 5 .u8 a0z a0), .v (.int .i64 a1)] = (laws_markByteS.f (k + 1) a0z a0 a1).map laws_markByteS.enc := by
  have ih := laws_markByteS.rounds_eq a0z a0 a1 k
  refine (laws_markByteS.s k a0z a0 a1).trans (Eq.trans ?_ (laws_markByteS.b_nat laws_markByteS.enc some (laws_markByteS.l0 k) k a0z a0 a1))
  simp only [ih, Option.map_some]
theorem laws_markByteS.sound (k : Nat) : SoundF Try.prog 34 (fun a => (laws_markByteS.ans k a).val) := by
  refine sound_mark (fun args hne => ?_) (fun t n l m h => ?_)
  · unfold laws_markByteS.ans
    split
    · exact (hne _ _ rfl).elim
    · rfl
  unfold laws_markByteS.ans at h
  dsimp only at h
  split at h
  · rename_i heq
    cases heq
    cases k with
    | zero => cases h
    | succ k =>
      unfold Ans.val at h
      rw [← laws_markByteS.eq] at h
      exact answerM_sound (Cs := laws_markByteS.Cs) mixed Try.func34 100000 laws_markByteS.cuts (k + 1) (fun j _ => tab_sound (tab_nil)) _ _ _ _ h
  · exact (Ans.no_val h).elim

/-! loop.example/g00790/laws.markRowS -/
def laws_markRowS.b {R : Type} (ret : Int × Bool × List T → Option R) (j0 : Bool → (List T) → Int → Int → Option R) (k : Nat) (a0z : Bool) (a0 : List T) (a1 : Int) : Option R :=
  j0 a0z a0 a1 0
def laws_markRowS.l0b {R : Type} (ret : Int × Bool × List T → Option R) (j0 : Bool → (List T) → Int → Int → Option R) (k : Nat) (x0z : Bool) (x0 : List T) (x1 : Int) (x5 : Int) : Option R :=
  cond (decide (x5 < ((x0).length : Int))) (cond (decide ((0 : Int) ≤ x5)) (cond (decide (x5 < ((x0).length : Int))) (cond (decide ((0 : Int) ≤ x5)) (cond (decide (x5 < ((((x0).set (x5).toNat (.agg [(.int .i64 x1), (.nums 5 .u8 ((((x0).getD (x5).toNat .bad).cells.getD 1 .bad)).isNil ((((x0).getD (x5).toNat .bad).cells.getD 1 .bad)).toNums)]))).length : Int))) ((laws_markByteS.f k (((((((x0).set (x5).toNat (.agg [(.int .i64 x1), (.nums 5 .u8 ((((x0).getD (x5).toNat .bad).cells.getD 1 .bad)).isNil ((((x0).getD (x5).toNat .bad).cells.getD 1 .bad)).toNums)]))).getD (x5).toNat .bad).cells.getD 1 .bad)).isNil) (((((((x0).set (x5).toNat (.agg [(.int .i64 x1), (.nums 5 .u8 ((((x0).getD (x5).toNat .bad).cells.getD 1 .bad)).isNil ((((x0).getD (x5).toNat .bad).cells.getD 1 .bad)).toNums)]))).getD (x5).toNat .bad).cells.getD 1 .bad)).toNums) (RowKit.wrap64 (x1 + 1))).bind fun t0 => j0 x0z ((((x0).set (x5).toNat (.agg [(.int .i64 x1), (.nums 5 .u8 ((((x0).getD (x5).toNat .bad).cells.getD 1 .bad)).isNil ((((x0).getD (x5).toNat .bad).cells.getD 1 .bad)).toNums)]))).set (x5).toNat (.agg [(.int .i64 ((((((x0).set (x5).toNat (.agg [(.int .i64 x1), (.nums 5 .u8 ((((x0).getD (x5).toNat .bad).cells.getD 1 .bad)).isNil ((((x0).getD (x5).toNat .bad).cells.getD 1 .bad)).toNums)]))).getD (x5).toNat .bad).cells.getD 0 .bad)).toInt), (.nums 5 .u8 t0.2.1 t0.2.2)])) t0.1 (RowKit.wrap64 (x5 + 1))) (none)) (none)) (none)) (none)) (ret (x1, x0z, x0))
def laws_markRowS.l0 : Nat → Bool → (List T) → Int → Int → Option (Int × Bool × List T)
  | 0, _, _, _, _ => none
  | k + 1, x0z, x0, x1, x5 => laws_markRowS.l0b some (laws_markRowS.l0 k) k x0z x0 x1 x5
def laws_markRowS.f : Nat → Bool → (List T) → Int → Option (Int × Bool × List T)
  | 0, _, _, _ => none
  | k + 1, a0z, a0, a1 => laws_markRowS.b some (laws_markRowS.l0 k) k a0z a0 a1
def laws_markRowS.enc (r : Int × Bool × List T) : Res := ⟨[.vals false [((.int .i64 r.1), true)]], [[((.sl 44 r.2.1 r.2.2), true)]]⟩
def laws_markRowS.ans (k : Nat) : List Arg → Ans
  | [.own (.sl 44 a0z a0), .v (.int .i64 a1)] => ⟨laws_markRowS.f k a0z a0 a1, laws_markRowS.enc⟩
  | _ => Ans.no
def laws_markRowS.Cs (k : Nat) : CallSem := tab [(34, laws_markByteS.ans k)]
def laws_markRowS.cuts : List (Nat × Keep) := [(26, ⟨[(0, none), (1, some []), (5, some [])], []⟩)]
noncomputable def laws_markRowS.K0 : List Fr := framesAt [true, false, true, false] (bodyOf Try.f110 laws_markRowS.cuts) []
def laws_markRowS.N0 (x0z : Bool) (x0 : List T) (x1 : Int) (x5 : Int) : St := stOf 27 27 2 [(0, .val ⟨(.sl 44 x0z x0), [.h 0], true, some (.h 0)⟩), (1, .val (V.s (.int .i64 x1))), (5, .val (V.s (.int .i64 x5)))] []
theorem laws_markRowS.s (k : Nat) (a0z : Bool) (a0 : List T) (a1 : Int) : answerM Try.prog laws_markRowS.Cs 100000 laws_markRowS.cuts Try.f110 (k + 1) [.own (.sl 44 a0z a0), .v (.int .i64 a1)] = laws_markRowS.b (fun r => some (laws_markRowS.enc r)) (fun x0z x0 x1 x5 => rounds Try.prog laws_markRowS.Cs (finishM Try.prog Try.f110 (.sl 44 a0z a0)) 100000 k laws_markRowS.K0 (laws_markRowS.N0 x0z x0 x1 x5)) k a0z a0 a1 := by kernel_rfl
theorem laws_markRowS.s0 (k : Nat) (G : List Fr → St → Option Res) (a0z : Bool) (a0 : List T) (a1 : Int) (yx0z : Bool) (yx0 : List T) (yx1 : Int) (yx5 : Int) : resume Try.prog (laws_markRowS.Cs k) G (finishM Try.prog Try.f110 (.sl 44 a0z a0)) 100000 laws_markRowS.K0 (laws_markRowS.N0 yx0z yx0 yx1 yx5) = laws_markRowS.l0b (fun r => some (laws_markRowS.enc r)) (fun x0z x0 x1 x5 => G laws_markRowS.K0 (laws_markRowS.N0 x0z x0 x1 x5)) k yx0z yx0 yx1 yx5 := by kernel_rfl
theorem laws_markRowS.b_nat {R R' : Type} (e : R → R') (ret : Int × Bool × List T → Option R) (j0 : Bool → (List T) → Int → Int → Option R) (k : Nat) (a0z : Bool) (a0 : List T) (a1 : Int) : laws_markRowS.b (fun r => (ret r).map e) (fun x0z x0 x1 x5 => (j0 x0z x0 x1 x5).map e) k a0z a0 a1 = (laws_markRowS.b ret j0 k a0z a0 a1).map e := by
  unfold laws_markRowS.b
  repeat' first | with_reducible refine nat_cond ?_ ?_ | with_reducible refine nat_bind fun _ => ?_ | rfl
theorem laws_markRowS.l0b_nat {R R' : Type} (e : R → R') (ret : Int × Bool × List T → Option R) (j0 : Bool → (List T) → Int → Int → Option R) (k : Nat) (x0z : Bool) (x0 : List T) (x1 : Int) (x5 : Int) : laws_markRowS.l0b (fun r => (ret r).map e) (fun x0z x0 x1 x5 => (j0 x0z x0 x1 x5).map e) k x0z x0 x1 x5 = (laws_markRowS.l0b ret j0 k x0z x0 x1 x5).map e := by
  unfold laws_markRowS.l0b
  repeat' first | with_reducible refine nat_cond ?_ ?_ | with_reducible refine nat_bind fun _ => ?_ | rfl
theorem laws_markRowS.rounds_eq (a0z : Bool) (a0 : List T) (a1 : Int) : ∀ k, (∀ (x0z : Bool) (x0 : List T) (x1 : Int) (x5 : Int), rounds Try.prog laws_markRowS.Cs (finishM Try.prog Try.f110 (.sl 44 a0z a0)) 100000 k laws_markRowS.K0 (laws_markRowS.N0 x0z x0 x1 x5) = (laws_markRowS.l0 k x0z x0 x1 x5).map laws_markRowS.enc)
  | 0 => fun _ _ _ _ => rfl
  | k + 1 => by
    have ih := laws_markRowS.rounds_eq a0z a0 a1 k
    refine fun _ _ _ _ => ?_
    · refine (laws_markRowS.s0 k _ a0z a0 a1 _ _ _ _).trans (Eq.trans ?_ (laws_markRowS.l0b_nat laws_markRowS.enc some (laws_markRowS.l0 k) k _ _ _ _))
      simp only [ih, Option.map_some]
theorem laws_markRowS.eq (k : Nat) (a0z : Bool) (a0 : List T) (a1 : Int) : answerM Try.prog laws_markRowS.Cs 100000 laws_markRowS.cuts Try.f110 (k + 1) [.own (.sl 44 a0z a0), .v (.int .i64 a1)] = (laws_markRowS.f (k + 1) a0z a0 a1).map laws_markRowS.enc := by
  have ih := laws_markRowS.rounds_eq a0z a0 a1 k
  refine (laws_markRowS.s k a0z a0 a1).trans (Eq.trans ?_ (laws_markRowS.b_nat laws_markRowS.enc some (laws_markRowS.l0 k) k a0z a0 a1))
  simp only [ih, Option.map_some]
theorem laws_markRowS.sound (k : Nat) : SoundF Try.prog 110 (fun a => (laws_markRowS.ans k a).val) := by
  refine sound_mark (fun args hne => ?_) (fun t n l m h => ?_)
  · unfold laws_markRowS.ans
    split
    · exact (hne _ _ rfl).elim
    · rfl
  unfold laws_markRowS.ans at h
  dsimp only at h
  split at h
  · rename_i heq
    cases heq
    cases k with
    | zero => cases h
    | succ k =>
      unfold Ans.val at h
      rw [← laws_markRowS.eq] at h
      exact answerM_sound (Cs := laws_markRowS.Cs) mixed Try.func110 100000 laws_markRowS.cuts (k + 1) (fun j _ => tab_sound (tab_cons (laws_markByteS.sound j) (tab_nil))) _ _ _ _ h
  · exact (Ans.no_val h).elim

/-! loop.example/g00790/laws.markTable -/
def laws_markTable.b {R : Type} (ret : Int × Bool × List T → Option R) (k : Nat) (a0_0z : Bool) (a0_0 : List T) (a1 : Int) : Option R :=
  (laws_markRowS.f k a0_0z a0_0 a1).bind fun t0 => ret (t0.1, t0.2.1, t0.2.2)
def laws_markTable.f : Nat → Bool → (List T) → Int → Option (Int × Bool × List T)
  | 0, _, _, _ => none
  | k + 1, a0_0z, a0_0, a1 => laws_markTable.b some k a0_0z a0_0 a1
def laws_markTable.enc (r : Int × Bool × List T) : Res := ⟨[.vals false [((.int .i64 r.1), true)]], [[((.sl 44 r.2.1 r.2.2), true)]]⟩
def laws_markTable.ans (k : Nat) : List Arg → Ans
  | [.own (.agg [(.sl 44 a0_0z a0_0)]), .v (.int .i64 a1)] => ⟨laws_markTable.f k a0_0z a0_0 a1, laws_markTable.enc⟩
  | _ => Ans.no
def laws_markTable.Cs (k : Nat) : CallSem := tab [(110, laws_markRowS.ans k)]
def laws_markTable.cuts : List (Nat × Keep) := []
theorem laws_markTable.s (k : Nat) (a0_0z : Bool) (a0_0 : List T) (a1 : Int) : answerM Try.prog laws_markTable.Cs 100000 laws_markTable.cuts Try.f33 (k + 1) [.own (.agg [(.sl 44 a0_0z a0_0)]), .v (.int .i64 a1)] = laws_markTable.b (fun r => some (laws_markTable.enc r)) k a0_0z a0_0 a1 := by kernel_rfl
theorem laws_markTable.b_nat {R R' : Type} (e : R → R') (ret : Int × Bool × List T → Option R) (k : Nat) (a0_0z : Bool) (a0_0 : List T) (a1 : Int) : laws_markTable.b (fun r => (ret r).map e) k a0_0z a0_0 a1 = (laws_markTable.b ret k a0_0z a0_0 a1).map e := by
  unfold laws_markTable.b
  repeat' first | with_reducible refine nat_cond ?_ ?_ | with_reducible refine nat_bind fun _ => ?_ | rfl
theorem laws_markTable.eq (k : Nat) (a0_0z : Bool) (a0_0 : List T) (a1 : Int) : answerM Try.prog laws_markTable.Cs 100000 laws_markTable.cuts Try.f33 (k + 1) [.own (.agg [(.sl 44 a0_0z a0_0)]), .v (.int .i64 a1)] = (laws_markTable.f (k + 1) a0_0z a0_0 a1).map laws_markTable.enc := by
  refine (laws_markTable.s k a0_0z a0_0 a1).trans (Eq.trans ?_ (laws_markTable.b_nat laws_markTable.enc some k a0_0z a0_0 a1))
  simp only [Option.map_some]
theorem laws_markTable.sound (k : Nat) : SoundF Try.prog 33 (fun a => (laws_markTable.ans k a).val) := by
  refine sound_mark (fun args hne => ?_) (fun t n l m h => ?_)
  · unfold laws_markTable.ans
    split
    · exact (hne _ _ rfl).elim
    · rfl
  unfold laws_markTable.ans at h
  dsimp only at h
  split at h
  · rename_i heq
    cases heq
    cases k with
    | zero => cases h
    | succ k =>
      unfold Ans.val at h
      rw [← laws_markTable.eq] at h
      exact answerM_sound (Cs := laws_markTable.Cs) mixed Try.func33 100000 laws_markTable.cuts (k + 1) (fun j _ => tab_sound (tab_cons (laws_markRowS.sound j) (tab_nil))) _ _ _ _ h
  · exact (Ans.no_val h).elim

/-! loop.example/g00790/laws.markByteSS -/
def laws_markByteSS.b {R : Type} (ret : Int × Bool × List T → Option R) (j0 : Bool → (List T) → Int → Int → Option R) (k : Nat) (a0z : Bool) (a0 : List T) (a1 : Int) : Option R :=
  j0 a0z a0 a1 0
def laws_markByteSS.l0b {R : Type} (ret : Int × Bool × List T → Option R) (j0 : Bool → (List T) → Int → Int → Option R) (k : Nat) (x0z : Bool) (x0 : List T) (x1 : Int) (x5 : Int) : Option R :=
  cond (decide (x5 < ((x0).length : Int))) (cond (decide ((0 : Int) ≤ x5)) (cond (decide (x5 < ((x0).length : Int))) ((laws_markByteS.f k (((((x0).getD (x5).toNat .bad).cells.getD 0 .bad)).isNil) (((((x0).getD (x5).toNat .bad).cells.getD 0 .bad)).toNums) x1).bind fun t0 => j0 x0z ((x0).set (x5).toNat (.nums 5 .u8 t0.2.1 t0.2.2)) t0.1 (RowKit.wrap64 (x5 + 1))) (none)) (none)) (ret (x1, x0z, x0))
def laws_markByteSS.l0 : Nat → Bool → (List T) → Int → Int → Option (Int × Bool × List T)
  | 0, _, _, _, _ => none
  | k + 1, x0z, x0, x1, x5 => laws_markByteSS.l0b some (laws_markByteSS.l0 k) k x0z x0 x1 x5
def laws_markByteSS.f : Nat → Bool → (List T) → Int → Option (Int × Bool × List T)
  | 0, _, _, _ => none
  | k + 1, a0z, a0, a1 => laws_markByteSS.b some (laws_markByteSS.l0 k) k a0z a0 a1
def laws_markByteSS.enc (r : Int × Bool × List T) : Res := ⟨[.vals false [((.int .i64 r.1), true)]], [[((.sl 22 r.2.1 r.2.2), true)]]⟩
def laws_markByteSS.ans (k : Nat) : List Arg → Ans
  | [.own (.sl 22 a0z a0), .v (.int .i64 a1)] => ⟨laws_markByteSS.f k a0z a0 a1, laws_markByteSS.enc⟩
  | _ => Ans.no
def laws_markByteSS.Cs (k : Nat) : CallSem := tab [(34, laws_markByteS.ans k)]
def laws_markByteSS.cuts : List (Nat × Keep) := [(26, ⟨[(0, none), (1, some []), (5, some [])], []⟩)]
noncomputable def laws_markByteSS.K0 : List Fr := framesAt [true, false, true, false] (bodyOf Try.f63 laws_markByteSS.cuts) []
def laws_markByteSS.N0 (x0z : Bool) (x0 : List T) (x1 : Int) (x5 : Int) : St := stOf 19 19 2 [(0, .val ⟨(.sl 22 x0z x0), [.h 0], true, some (.h 0)⟩), (1, .val (V.s (.int .i64 x1))), (5, .val (V.s (.int .i64 x5)))] []
theorem laws_markByteSS.s (k : Nat) (a0z : Bool) (a0 : List T) (a1 : Int) : answerM Try.prog laws_markByteSS.Cs 100000 laws_markByteSS.cuts Try.f63 (k + 1) [.own (.sl 22 a0z a0), .v (.int .i64 a1)] = laws_markByteSS.b (fun r => some (laws_markByteSS.enc r)) (fun x0z x0 x1 x5 => rounds Try.prog laws_markByteSS.Cs (finishM Try.prog Try.f63 (.sl 22 a0z a0)) 100000 k laws_markByteSS.K0 (laws_markByteSS.N0 x0z x0 x1 x5)) k a0z a0 a1 := by kernel_rfl
theorem laws_markByteSS.s0 (k : Nat) (G : List Fr → St → Option Res) (a0z : Bool) (a0 : List T) (a1 : Int) (yx0z : Bool) (yx0 : List T) (yx1 : Int) (yx5 : Int) : resume Try.prog (laws_markByteSS.Cs k) G (finishM Try.prog Try.f63 (.sl 22 a0z a0)) 100000 laws_markByteSS.K0 (laws_markByteSS.N0 yx0z yx0 yx1 yx5) = laws_markByteSS.l0b (fun r => some (laws_markByteSS.enc r)) (fun x0z x0 x1 x5 => G laws_markByteSS.K0 (laws_markByteSS.N0 x0z x0 x1 x5)) k yx0z yx0 yx1 yx5 := by kernel_rfl
theorem laws_markByteSS.b_nat {R R' : Type} (e : R → R') (ret : Int × Bool × List T → Option R) (j0 : Bool → (List T) → Int → Int → Option R) (k : Nat) (a0z : Bool) (a0 : List T) (a1 : Int) : laws_markByteSS.b (fun r => (ret r).map e) (fun x0z x0 x1 x5 => (j0 x0z x0 x1 x5).map e) k a0z a0 a1 = (laws_markByteSS.b ret j0 k a0z a0 a1).map e := by
  unfold laws_markByteSS.b
  repeat' first | with_reducible refine nat_cond ?_ ?_ | with_reducible refine nat_bind fun _ => ?_ | rfl
theorem laws_markByteSS.l0b_nat {R R' : Type} (e : R → R') (ret : Int × Bool × List T → Option R) (j0 : Bool → (List T) → Int → Int → Option R) (k : Nat) (x0z : Bool) (x0 : List T) (x1 : Int) (x5 : Int) : laws_markByteSS.l0b (fun r => (ret r).map e) (fun x0z x0 x1 x5 => (j0 x0z x0 x1 x5).map e) k x0z x0 x1 x5 = (laws_markByteSS.l0b ret j0 k x0z x0 x1 x5).map e := by
  unfold laws_markByteSS.l0b
  repeat' first | with_reducible refine nat_cond ?_ ?_ | with_reducible refine nat_bind fun _ => ?_ | rfl
theorem laws_markByteSS.rounds_eq (a0z : Bool) (a0 : List T) (a1 : Int) : ∀ k, (∀ (x0z : Bool) (x0 : List T) (x1 : Int) (x5 : Int), rounds Try.prog laws_markByteSS.Cs (finishM Try.prog Try.f63 (.sl 22 a0z a0)) 100000 k laws_markByteSS.K0 (laws_markByteSS.N0 x0z x0 x1 x5) = (laws_markByteSS.l0 k x0z x0 x1 x5).map laws_markByteSS.enc)
  | 0 => fun _ _ _ _ => rfl
  | k + 1 => by
    have ih := laws_markByteSS.rounds_eq a0z a0 a1 k
    refine fun _ _ _ _ => ?_
    · refine (laws_markByteSS.s0 k _ a0z a0 a1 _ _ _ _).trans (Eq.trans ?_ (laws_markByteSS.l0b_nat laws_markByteSS.enc some (laws_markByteSS.l0 k) k _ _ _ _))
      simp only [ih, Option.map_some]
theorem laws_markByteSS.eq (k : Nat) (a0z : Bool) (a0 : List T) (a1 : Int) : answerM Try.prog laws_markByteSS.Cs 100000 laws_markByteSS.cuts Try.f63 (k + 1) [.own (.sl 22 a0z a0), .v (.int .i64 a1)] = (laws_markByteSS.f (k + 1) a0z a0 a1).map laws_markByteSS.enc := by
  have ih := laws_markByteSS.rounds_eq a0z a0 a1 k
  refine (laws_markByteSS.s k a0z a0 a1).trans (Eq.trans ?_ (laws_markByteSS.b_nat laws_markByteSS.enc some (laws_markByteSS.l0 k) k a0z a0 a1))
  simp only [ih, Option.map_some]
theorem laws_markByteSS.sound (k : Nat) : SoundF Try.prog 63 (fun a => (laws_markByteSS.ans k a).val) := by
  refine sound_mark (fun args hne => ?_) (fun t n l m h => ?_)
  · unfold laws_markByteSS.ans
    split
    · exact (hne _ _ rfl).elim
    · rfl
  unfold laws_markByteSS.ans at h
  dsimp only at h
  split at h
  · rename_i heq
    cases heq
    cases k with
    | zero => cases h
    | succ k =>
      unfold Ans.val at h
      rw [← laws_markByteSS.eq] at h
      exact answerM_sound (Cs := laws_markByteSS.Cs) mixed Try.func63 100000 laws_markByteSS.cuts (k + 1) (fun j _ => tab_sound (tab_cons (laws_markByteS.sound j) (tab_nil))) _ _ _ _ h
  · exact (Ans.no_val h).elim

/-! loop.example/g00790/laws.markQc -/
def laws_markQc.b {R : Type} (ret : Int × Int × Int × Bool × (List Int) × Bool × (List Int) × Bool × List T → Option R) (k : Nat) (a0_0 : Int) (a0_1 : Int) (a0_2z : Bool) (a0_2 : List Int) (a0_3z : Bool) (a0_3 : List Int) (a0_4z : Bool) (a0_4 : List T) (a1 : Int) : Option R :=
  (laws_markByteS.f k a0_2z a0_2 a1).bind fun t0 => (laws_markByteS.f k a0_3z a0_3 t0.1).bind fun t1 => (laws_markByteSS.f k a0_4z a0_4 t1.1).bind fun t2 => ret (t2.1, a0_0, a0_1, t0.2.1, t0.2.2, t1.2.1, t1.2.2, t2.2.1, t2.2.2)
def laws_markQc.f : Nat → Int → Int → Bool → (List Int) → Bool → (List Int) → Bool → (List T) → Int → Option (Int × Int × Int × Bool × (List Int) × Bool × (List Int) × Bool × List T)
  | 0, _, _, _, _, _, _, _, _, _ => none
  | k + 1, a0_0, a0_1, a0_2z, a0_2, a0_3z, a0_3, a0_4z, a0_4, a1 => laws_markQc.b some k a0_0 a0_1 a0_2z a0_2 a0_3z a0_3 a0_4z a0_4 a1
def laws_markQc.enc (r : Int × Int × Int × Bool × (List Int) × Bool × (List Int) × Bool × List T) : Res := ⟨[.vals false [((.int .i64 r.1), true)]], [[((.int .i64 r.2.1), true), ((.int .i64 r.2.2.1), true), ((.nums 5 .u8 r.2.2.2.1 r.2.2.2.2.1), true), ((.nums 5 .u8 r.2.2.2.2.2.1 r.2.2.2.2.2.2.1), true), ((.sl 22 r.2.2.2.2.2.2.2.1 r.2.2.2.2.2.2.2.2), true)]]⟩
def laws_markQc.ans (k : Nat) : List Arg → Ans
  | [.own (.agg [(.int .i64 a0_0), (.int .i64 a0_1), (.nums 5 .u8 a0_2z a0_2), (.nums 5 .u8 a0_3z a0_3), (.sl 22 a0_4z a0_4)]), .v (.int .i64 a1)] => ⟨laws_markQc.f k a0_0 a0_1 a0_2z a0_2 a0_3z a0_3 a0_4z a0_4 a1, laws_markQc.enc⟩
  | _ => Ans.no
def laws_markQc.Cs (k : Nat) : CallSem := tab [(34, laws_markByteS.ans k), (63, laws_markByteSS.ans k)]
def laws_markQc.cuts : List (Nat × Keep) := []
theorem laws_markQc.s (k : Nat) (a0_0 : Int) (a0_1 : Int) (a0_2z : Bool) (a0_2 : List Int) (a0_3z : Bool) (a0_3 : List Int) (a0_4z : Bool) (a0_4 : List T) (a1 : Int) : answerM Try.prog laws_markQc.Cs 100000 laws_markQc.cuts Try.f79 (k + 1) [.own (.agg [(.int .i64 a0_0), (.int .i64 a0_1), (.nums 5 .u8 a0_2z a0_2), (.nums 5 .u8 a0_3z a0_3), (.sl 22 a0_4z a0_4)]), .v (.int .i64 a1)] = laws_markQc.b (fun r => some (laws_markQc.enc r)) k a0_0 a0_1 a0_2z a0_2 a0_3z a0_3 a0_4z a0_4 a1 := by kernel_rfl
theorem laws_markQc.b_nat {R R' : Type} (e : R → R') (ret : Int × Int × Int × Bool × (List Int) × Bool × (List Int) × Bool × List T → Option R) (k : Nat) (a0_0 : Int) (a0_1 : Int) (a0_2z : Bool) (a0_2 : List Int) (a0_3z : Bool) (a0_3 : List Int) (a0_4z : Bool) (a0_4 : List T) (a1 : Int) : laws_markQc.b (fun r => (ret r).map e) k a0_0 a0_1 a0_2z a0_2 a0_3z a0_3 a0_4z a0_4 a1 = (laws_markQc.b ret k a0_0 a0_1 a0_2z a0_2 a0_3z a0_3 a0_4z a0_4 a1).map e := by
  unfold laws_markQc.b
  repeat' first | with_reducible refine nat_cond ?_ ?_ | with_reducible refine nat_bind fun _ => ?_ | rfl
theorem laws_markQc.eq (k : Nat) (a0_0 : Int) (a0_1 : Int) (a0_2z : Bool) (a0_2 : List Int) (a0_3z : Bool) (a0_3 : List Int) (a0_4z : Bool) (a0_4 : List T) (a1 : Int) : answerM Try.prog laws_markQc.Cs 100000 laws_markQc.cuts Try.f79 (k + 1) [.own (.agg [(.int .i64 a0_0), (.int .i64 a0_1), (.nums 5 .u8 a0_2z a0_2), (.nums 5 .u8 a0_3z a0_3), (.sl 22 a0_4z a0_4)]), .v (.int .i64 a1)] = (laws_markQc.f (k + 1) a0_0 a0_1 a0_2z a0_2 a0_3z a0_3 a0_4z a0_4 a1).map laws_markQc.enc := by
  refine (laws_markQc.s k a0_0 a0_1 a0_2z a0_2 a0_3z a0_3 a0_4z a0_4 a1).trans (Eq.trans ?_ (laws_markQc.b_nat laws_markQc.enc some k a0_0 a0_1 a0_2z a0_2 a0_3z a0_3 a0_4z a0_4 a1))
  simp only [Option.map_some]
theorem laws_markQc.sound (k : Nat) : SoundF Try.prog 79 (fun a => (laws_markQc.ans k a).val) := by
  refine sound_mark (fun args hne => ?_) (fun t n l m h => ?_)
  · unfold laws_markQc.ans
    split
    · exact (hne _ _ rfl).elim
    · rfl
  unfold laws_markQc.ans at h
  dsimp only at h
  split at h
  · rename_i heq
    cases heq
    cases k with
    | zero => cases h
    | succ k =>
      unfold Ans.val at h
      rw [← laws_markQc.eq] at h
      exact answerM_sound (Cs := laws_markQc.Cs) mixed Try.func79 100000 laws_markQc.cuts (k + 1) (fun j _ => tab_sound (tab_cons (laws_markByteS.sound j) (tab_cons (laws_markByteSS.sound j) (tab_nil)))) _ _ _ _ h
  · exact (Ans.no_val h).elim

/-! loop.example/g00790/laws.markHead -/
def laws_markHead.b {R : Type} (ret : Int × Int × Int × Int × Bool × (List Int) × Bool × (List Int) × Int × Int × Bool × (List Int) × Bool × (List Int) × Bool × List T → Option R) (k : Nat) (a0_0 : Int) (a0_1 : Int) (a0_2 : Int) (a0_3z : Bool) (a0_3 : List Int) (a0_4z : Bool) (a0_4 : List Int) (a0_5 : Int) (a0_6 : Int) (a0_7z : Bool) (a0_7 : List Int) (a0_8z : Bool) (a0_8 : List Int) (a0_9z : Bool) (a0_9 : List T) (a1 : Int) : Option R :=
  (laws_markByteS.f k a0_3z a0_3 a1).bind fun t0 => (laws_markByteS.f k a0_4z a0_4 t0.1).bind fun t1 => (laws_markQc.f k a0_5 a0_6 a0_7z a0_7 a0_8z a0_8 a0_9z a0_9 t1.1).bind fun t2 => ret (t2.1, a0_0, a0_1, a0_2, t0.2.1, t0.2.2, t1.2.1, t1.2.2, a0_5, a0_6, t2.2.2.2.1, t2.2.2.2.2.1, t2.2.2.2.2.2.1, t2.2.2.2.2.2.2.1, t2.2.2.2.2.2.2.2.1, t2.2.2.2.2.2.2.2.2)
def laws_markHead.f : Nat → Int → Int → Int → Bool → (List Int) → Bool → (List Int) → Int → Int → Bool → (List Int) → Bool → (List Int) → Bool → (List T) → Int → Option (Int × Int × Int × Int × Bool × (List Int) × Bool × (List Int) × Int × Int × Bool × (List Int) × Bool × (List Int) × Bool × List T)
  | 0, _, _, _, _, _, _, _, _, _, _, _, _, _, _, _, _ => none
  | k + 1, a0_0, a0_1, a0_2, a0_3z, a0_3, a0_4z, a0_4, a0_5, a0_6, a0_7z, a0_7, a0_8z, a0_8, a0_9z, a0_9, a1 => laws_markHead.b some k a0_0 a0_1 a0_2 a0_3z a0_3 a0_4z a0_4 a0_5 a0_6 a0_7z a0_7 a0_8z a0_8 a0_9z a0_9 a1
def laws_markHead.enc (r : Int × Int × Int × Int × Bool × (List Int) × Bool × (List Int) × Int × Int × Bool × (List Int) × Bool × (List Int) × Bool × List T) : Res := ⟨[.vals false [((.int .i64 r.1), true)]], [[((.int .i64 r.2.1), true), ((.int .i64 r.2.2.1), true), ((.int .i64 r.2.2.2.1), true), ((.nums 5 .u8 r.2.2.2.2.1 r.2.2.2.2.2.1), true), ((.nums 5 .u8 r.2.2.2.2.2.2.1 r.2.2.2.2.2.2.2.1), true), ((.int .i64 r.2.2.2.2.2.2.2.2.1), true), ((.int .i64 r.2.2.2.2.2.2.2.2.2.1), true), ((.nums 5 .u8 r.2.2.2.2.2.2.2.2.2.2.1 r.2.2.2.2.2.2.2.2.2.2.2.1), true), ((.nums 5 .u8 r.2.2.2.2.2.2.2.2.2.2.2.2.1 r.2.2.2.2.2.2.2.2.2.2.2.2.2.1), true), ((.sl 22 r.2.2.2.2.2.2.2.2.2.2.2.2.2.2.1 r.2.2.2.2.2.2.2.2.2.2.2.2.2.2.2), true)]]⟩
def laws_markHead.ans (k : Nat) : List Arg → Ans
  | [.own (.agg [(.int .i64 a0_0), (.int .i64 a0_1), (.int .i64 a0_2), (.nums 5 .u8 a0_3z a0_3), (.nums 5 .u8 a0_4z a0_4), (.int .i64 a0_5), (.int .i64 a0_6), (.nums 5 .u8 a0_7z a0_7), (.nums 5 .u8 a0_8z a0_8), (.sl 22 a0_9z a0_9)]), .v (.int .i64 a1)] => ⟨laws_markHead.f k a0_0 a0_1 a0_2 a0_3z a0_3 a0_4z a0_4 a0_5 a0_6 a0_7z a0_7 a0_8z a0_8 a0_9z a0_9 a1, laws_markHead.enc⟩
  | _ => Ans.no
def laws_markHead.Cs (k : Nat) : CallSem := tab [(34, laws_markByteS.ans k), (79, laws_markQc.ans k)]
def laws_markHead.cuts : List (Nat × Keep) := []
theorem laws_markHead.s (k : Nat) (a0_0 : Int) (a0_1 : Int) (a0_2 : Int) (a0_3z : Bool) (a0_3 : List Int) (a0_4z : Bool) (a0_4 : List Int) (a0_5 : Int) (a0_6 : Int) (a0_7z : Bool) (a0_7 : List Int) (a0_8z : Bool) (a0_8 : List Int) (a0_9z : Bool) (a0_9 : List T) (a1 : Int) : answerM Try.prog laws_markHead.Cs 100000 laws_markHead.cuts Try.f35 (k + 1) [.own (.agg [(.int .i64 a0_0), (.int .i64 a0_1), (.int .i64 a0_2), (.nums 5 .u8 a0_3z a0_3), (.nums 5 .u8 a0_4z a0_4), (.int .i64 a0_5), (.int .i64 a0_6), (.nums 5 .u8 a0_7z a0_7), (.nums 5 .u8 a0_8z a0_8), (.sl 22 a0_9z a0_9)]), .v (.int .i64 a1)] = laws_markHead.b (fun r => some (laws_markHead.enc r)) k a0_0 a0_1 a0_2 a0_3z a0_3 a0_4z a0_4 a0_5 a0_6 a0_7z a0_7 a0_8z a0_8 a0_9z a0_9 a1 := by kernel_rfl
theorem laws_markHead.b_nat {R R' : Type} (e : R → R') (ret : Int × Int × Int × Int × Bool × (List Int) × Bool × (List Int) × Int × Int × Bool × (List Int) × Bool × (List Int) × Bool × List T → Option R) (k : Nat) (a0_0 : Int) (a0_1 : Int) (a0_2 : Int) (a0_3z : Bool) (a0_3 : List Int) (a0_4z : Bool) (a0_4 : List Int) (a0_5 : Int) (a0_6 : Int) (a0_7z : Bool) (a0_7 : List Int) (a0_8z : Bool) (a0_8 : List Int) (a0_9z : Bool) (a0_9 : List T) (a1 : Int) : laws_markHead.b (fun r => (ret r).map e) k a0_0 a0_1 a0_2 a0_3z a0_3 a0_4z a0_4 a0_5 a0_6 a0_7z a0_7 a0_8z a0_8 a0_9z a0_9 a1 = (laws_markHead.b ret k a0_0 a0_1 a0_2 a0_3z a0_3 a0_4z a0_4 a0_5 a0_6 a0_7z a0_7 a0_8z a0_8 a0_9z a0_9 a1).map e := by
  unfold laws_markHead.b
  repeat' first | with_reducible refine nat_cond ?_ ?_ | with_reducible refine nat_bind fun _ => ?_ | rfl
theorem laws_markHead.eq (k : Nat) (a0_0 : Int) (a0_1 : Int) (a0_2 : Int) (a0_3z : Bool) (a0_3 : List Int) (a0_4z : Bool) (a0_4 : List Int) (a0_5 : Int) (a0_6 : Int) (a0_7z : Bool) (a0_7 : List Int) (a0_8z : Bool) (a0_8 : List Int) (a0_9z : Bool) (a0_9 : List T) (a1 : Int) : answerM Try.prog laws_markHead.Cs 100000 laws_markHead.cuts Try.f35 (k + 1) [.own (.agg [(.int .i64 a0_0), (.int .i64 a0_1), (.int .i64 a0_2), (.nums 5 .u8 a0_3z a0_3), (.nums 5 .u8 a0_4z a0_4), (.int .i64 a0_5), (.int .i64 a0_6), (.nums 5 .u8 a0_7z a0_7), (.nums 5 .u8 a0_8z a0_8), (.sl 22 a0_9z a0_9)]), .v (.int .i64 a1)] = (laws_markHead.f (k + 1) a0_0 a0_1 a0_2 a0_3z a0_3 a0_4z a0_4 a0_5 a0_6 a0_7z a0_7 a0_8z a0_8 a0_9z a0_9 a1).map laws_markHead.enc := by
  refine (laws_markHead.s k a0_0 a0_1 a0_2 a0_3z a0_3 a0_4z a0_4 a0_5 a0_6 a0_7z a0_7 a0_8z a0_8 a0_9z a0_9 a1).trans (Eq.trans ?_ (laws_markHead.b_nat laws_markHead.enc some k a0_0 a0_1 a0_2 a0_3z a0_3 a0_4z a0_4 a0_5 a0_6 a0_7z a0_7 a0_8z a0_8 a0_9z a0_9 a1))
  simp only [Option.map_some]
theorem laws_markHead.sound (k : Nat) : SoundF Try.prog 35 (fun a => (laws_markHead.ans k a).val) := by
  refine sound_mark (fun args hne => ?_) (fun t n l m h => ?_)
  · unfold laws_markHead.ans
    split
    · exact (hne _ _ rfl).elim
    · rfl
  unfold laws_markHead.ans at h
  dsimp only at h
  split at h
  · rename_i heq
    cases heq
    cases k with
    | zero => cases h
    | succ k =>
      unfold Ans.val at h
      rw [← laws_markHead.eq] at h
      exact answerM_sound (Cs := laws_markHead.Cs) mixed Try.func35 100000 laws_markHead.cuts (k + 1) (fun j _ => tab_sound (tab_cons (laws_markByteS.sound j) (tab_cons (laws_markQc.sound j) (tab_nil)))) _ _ _ _ h
  · exact (Ans.no_val h).elim

/-! loop.example/g00790/laws.heldByteS -/
def laws_heldByteS.b {R : Type} (ret : Int → Option R) (j0 : Bool → (List Int) → Int → Int → Option R) (k : Nat) (a0z : Bool) (a0 : List Int) (a1 : Int) : Option R :=
  j0 a0z a0 a1 0
def laws_heldByteS.l0b {R : Type} (ret : Int → Option R) (j0 : Bool → (List Int) → Int → Int → Option R) (k : Nat) (x0z : Bool) (x0 : List Int) (x1 : Int) (x5 : Int) : Option R :=
  cond (decide (x5 < ((x0).length : Int))) (cond (decide ((0 : Int) ≤ x5)) (cond (decide (x5 < ((x0).length : Int))) (cond (!(decide ((rdI x0 x5) = ((x1) % 256)))) (ret (-1)) (j0 x0z x0 (RowKit.wrap64 (x1 + 1)) (RowKit.wrap64 (x5 + 1)))) (none)) (none)) (ret x1)
def laws_heldByteS.l0 : Nat → Bool → (List Int) → Int → Int → Option Int
  | 0, _, _, _, _ => none
  | k + 1, x0z, x0, x1, x5 => laws_heldByteS.l0b some (laws_heldByteS.l0 k) k x0z x0 x1 x5
def laws_heldByteS.f : Nat → Bool → (List Int) → Int → Option Int
  | 0, _, _, _ => none
  | k + 1, a0z, a0, a1 => laws_heldByteS.b some (laws_heldByteS.l0 k) k a0z a0 a1
def laws_heldByteS.enc (r : Int) : Res := ⟨[.vals false [((.int .i64 r), true)]], []⟩
def laws_heldByteS.ans (k : Nat) : List Arg → Ans
  | [.v (.nums 5 .u8 a0z a0), .v (.int .i64 a1)] => ⟨laws_heldByteS.f k a0z a0 a1, laws_heldByteS.enc⟩
  | _ => Ans.no
def laws_heldByteS.Cs (k : Nat) : CallSem := tab []
def laws_heldByteS.cuts : List (Nat × Keep) := [(26, ⟨[(0, some []), (1, some []), (5, some [])], []⟩)]
noncomputable def laws_heldByteS.K0 : List Fr := framesAt [true, false, true, false] (bodyOf Try.f80 laws_heldByteS.cuts) []
def laws_heldByteS.N0 (x0z : Bool) (x0 : List Int) (x1 : Int) (x5 : Int) : St := stOf 22 22 2 [(0, .val ⟨(.nums 5 .u8 x0z x0), [], false, none⟩), (1, .val (V.s (.int .i64 x1))), (5, .val (V.s (.int .i64 x5)))] []
theorem laws_heldByteS.s (k : Nat) (a0z : Bool) (a0 : List Int) (a1 : Int) : answer Try.prog laws_heldByteS.Cs 100000 laws_heldByteS.cuts [] Try.f80 (k + 1) [.v (.nums 5 .u8 a0z a0), .v (.int .i64 a1)] = laws_heldByteS.b (fun r => some (laws_heldByteS.enc r)) (fun x0z x0 x1 x5 => rounds Try.prog laws_heldByteS.Cs (finish Try.prog [] Try.f80 [.v (.nums 5 .u8 a0z a0), .v (.int .i64 a1)]) 100000 k laws_heldByteS.K0 (laws_heldByteS.N0 x0z x0 x1 x5)) k a0z a0 a1 := by kernel_rfl
theorem laws_heldByteS.s0 (k : Nat) (G : List Fr → St → Option Res) (a0z : Bool) (a0 : List Int) (a1 : Int) (yx0z : Bool) (yx0 : List Int) (yx1 : Int) (yx5 : Int) : resume Try.prog (laws_heldByteS.Cs k) G (finish Try.prog [] Try.f80 [.v (.nums 5 .u8 a0z a0), .v (.int .i64 a1)]) 100000 laws_heldByteS.K0 (laws_heldByteS.N0 yx0z yx0 yx1 yx5) = laws_heldByteS.l0b (fun r => some (laws_heldByteS.enc r)) (fun x0z x0 x1 x5 => G laws_heldByteS.K0 (laws_heldByteS.N0 x0z x0 x1 x5)) k yx0z yx0 yx1 yx5 := by kernel_rfl
theorem laws_heldByteS.b_nat {R R' : Type} (e : R → R') (ret : Int → Option R) (j0 : Bool → (List Int) → Int → Int → Option R) (k : Nat) (a0z : Bool) (a0 : List Int) (a1 : Int) : laws_heldByteS.b (fun r => (ret r).map e) (fun x0z x0 x1 x5 => (j0 x0z x0 x1 x5).map e) k a0z a0 a1 = (laws_heldByteS.b ret j0 k a0z a0 a1).map e := by
  unfold laws_heldByteS.b
  repeat' first | with_reducible refine nat_cond ?_ ?_ | with_reducible refine nat_bind fun _ => ?_ | rfl
theorem laws_heldByteS.l0b_nat {R R' : Type} (e : R → R') (ret : Int → Option R) (j0 : Bool → (List Int) → Int → Int → Option R) (k : Nat) (x0z : Bool) (x0 : List Int) (x1 : Int) (x5 : Int) : laws_heldByteS.l0b (fun r => (ret r).map e) (fun x0z x0 x1 x5 => (j0 x0z x0 x1 x5).map e) k x0z x0 x1 x5 = (laws_heldByteS.l0b ret j0 k x0z x0 x1 x5).map e := by
  unfold laws_heldByteS.l0b
  repeat' first | with_reducible refine nat_cond ?_ ?_ | with_reducible refine nat_bind fun _ => ?_ | rfl
theorem laws_heldByteS.rounds_eq (a0z : Bool) (a0 : List Int) (a1 : Int) : ∀ k, (∀ (x0z : Bool) (x0 : List Int) (x1 : Int) (x5 : Int), rounds Try.prog laws_heldByteS.Cs (finish Try.prog [] Try.f80 [.v (.nums 5 .u8 a0z a0), .v (.int .i64 a1)]) 100000 k laws_heldByteS.K0 (laws_heldByteS.N0 x0z x0 x1 x5) = (laws_heldByteS.l0 k x0z x0 x1 x5).map laws_heldByteS.enc)
  | 0 => fun _ _ _ _ => rfl
  | k + 1 => by
    have ih := laws_heldByteS.rounds_eq a0z a0 a1 k
    refine fun _ _ _ _ => ?_
    · refine (laws_heldByteS.s0 k _ a0z a0 a1 _ _ _ _).trans (Eq.trans ?_ (laws_heldByteS.l0b_nat laws_heldByteS.enc some (laws_heldByteS.l0 k) k _ _ _ _))
      simp only [ih, Option.map_some]
theorem laws_heldByteS.eq (k : Nat) (a0z : Bool) (a0 : List Int) (a1 : Int) : answer Try.prog laws_heldByteS.Cs 100000 laws_heldByteS.cuts [] Try.f80 (k + 1) [.v (.nums 5 .u8 a0z a0), .v (.int .i64 a1)] = (laws_heldByteS.f (k + 1) a0z a0 a1).map laws_heldByteS.enc := by
  have ih := laws_heldByteS.rounds_eq a0z a0 a1 k
  refine (laws_heldByteS.s k a0z a0 a1).trans (Eq.trans ?_ (laws_heldByteS.b_nat laws_heldByteS.enc some (laws_heldByteS.l0 k) k a0z a0 a1))
  simp only [ih, Option.map_some]
theorem laws_heldByteS.sound (k : Nat) : SoundF Try.prog 80 (fun a => (laws_heldByteS.ans k a).val) := by
  refine sound_plain (fun args res h => ?_) (fun t n => rfl)
  unfold laws_heldByteS.ans at h
  dsimp only at h
  split at h
  · cases k with
    | zero => cases h
    | succ k =>
      unfold Ans.val at h
      rw [← laws_heldByteS.eq] at h
      exact answer_sound mixed Try.func80 _ _ _ (k + 1) (fun j _ => tab_sound (tab_nil)) _ _ h
  · exact (Ans.no_val h).elim

/-! loop.example/g00790/laws.heldByteSS -/
def laws_heldByteSS.b {R : Type} (ret : Int → Option R) (j0 : Bool → (List T) → Int → Int → Option R) (k : Nat) (a0z : Bool) (a0 : List T) (a1 : Int) : Option R :=
  j0 a0z a0 a1 0
def laws_heldByteSS.l0b {R : Type} (ret : Int → Option R) (j0 : Bool → (List T) → Int → Int → Option R) (k : Nat) (x0z : Bool) (x0 : List T) (x1 : Int) (x5 : Int) : Option R :=
  cond (decide (x5 < ((x0).length : Int))) (cond (decide ((0 : Int) ≤ x5)) (cond (decide (x5 < ((x0).length : Int))) ((laws_heldByteS.f k (((((x0).getD (x5).toNat .bad).cells.getD 0 .bad)).isNil) (((((x0).getD (x5).toNat .bad).cells.getD 0 .bad)).toNums) x1).bind fun t0 => cond (decide (t0 < 0)) (ret (-1)) (j0 x0z x0 t0 (RowKit.wrap64 (x5 + 1)))) (none)) (none)) (ret x1)
def laws_heldByteSS.l0 : Nat → Bool → (List T) → Int → Int → Option Int
  | 0, _, _, _, _ => none
  | k + 1, x0z, x0, x1, x5 => laws_heldByteSS.l0b some (laws_heldByteSS.l0 k) k x0z x0 x1 x5
def laws_heldByteSS.f : Nat → Bool → (List T) → Int → Option Int
  | 0, _, _, _ => none
  | k + 1, a0z, a0, a1 => laws_heldByteSS.b some (laws_heldByteSS.l0 k) k a0z a0 a1
def laws_heldByteSS.enc (r : Int) : Res := ⟨[.vals false [((.int .i64 r), true)]], []⟩
def laws_heldByteSS.ans (k : Nat) : List Arg → Ans
  | [.v (.sl 22 a0z a0), .v (.int .i64 a1)] => ⟨laws_heldByteSS.f k a0z a0 a1, laws_heldByteSS.enc⟩
  | _ => Ans.no
def laws_heldByteSS.Cs (k : Nat) : CallSem := tab [(80, laws_heldByteS.ans k)]
def laws_heldByteSS.cuts : List (Nat × Keep) := [(26, ⟨[(0, some []), (1, some []), (5, some [])], []⟩)]
noncomputable def laws_heldByteSS.K0 : List Fr := framesAt [true, false, true, false] (bodyOf Try.f64 laws_heldByteSS.cuts) []
def laws_heldByteSS.N0 (x0z : Bool) (x0 : List T) (x1 : Int) (x5 : Int) : St := stOf 21 21 2 [(0, .val ⟨(.sl 22 x0z x0), [], false, none⟩), (1, .val (V.s (.int .i64 x1))), (5, .val (V.s (.int .i64 x5)))] []
theorem laws_heldByteSS.s (k : Nat) (a0z : Bool) (a0 : List T) (a1 : Int) : answer Try.prog laws_heldByteSS.Cs 100000 laws_heldByteSS.cuts [] Try.f64 (k + 1) [.v (.sl 22 a0z a0), .v (.int .i64 a1)] = laws_heldByteSS.b (fun r => some (laws_heldByteSS.enc r)) (fun x0z x0 x1 x5 => rounds Try.prog laws_heldByteSS.Cs (finish Try.prog [] Try.f64 [.v (.sl 22 a0z a0), .v (.int .i64 a1)]) 100000 k laws_heldByteSS.K0 (laws_heldByteSS.N0 x0z x0 x1 x5)) k a0z a0 a1 := by kernel_rfl
theorem laws_heldByteSS.s0 (k : Nat) (G : List Fr → St → Option Res) (a0z : Bool) (a0 : List T) (a1 : Int) (yx0z : Bool) (yx0 : List T) (yx1 : Int) (yx5 : Int) : resume Try.prog (laws_heldByteSS.Cs k) G (finish Try.prog [] Try.f64 [.v (.sl 22 a0z a0), .v (.int .i64 a1)]) 100000 laws_heldByteSS.K0 (laws_heldByteSS.N0 yx0z yx0 yx1 yx5) = laws_heldByteSS.l0b (fun r => some (laws_heldByteSS.enc r)) (fun x0z x0 x1 x5 => G laws_heldByteSS.K0 (laws_heldByteSS.N0 x0z x0 x1 x5)) k yx0z yx0 yx1 yx5 := by kernel_rfl
theorem laws_heldByteSS.b_nat {R R' : Type} (e : R → R') (ret : Int → Option R) (j0 : Bool → (List T) → Int → Int → Option R) (k : Nat) (a0z : Bool) (a0 : List T) (a1 : Int) : laws_heldByteSS.b (fun r => (ret r).map e) (fun x0z x0 x1 x5 => (j0 x0z x0 x1 x5).map e) k a0z a0 a1 = (laws_heldByteSS.b ret j0 k a0z a0 a1).map e := by
  unfold laws_heldByteSS.b
  repeat' first | with_reducible refine nat_cond ?_ ?_ | with_reducible refine nat_bind fun _ => ?_ | rfl
theorem laws_heldByteSS.l0b_nat {R R' : Type} (e : R → R') (ret : Int → Option R) (j0 : Bool → (List T) → Int → Int → Option R) (k : Nat) (x0z : Bool) (x0 : List T) (x1 : Int) (x5 : Int) : laws_heldByteSS.l0b (fun r => (ret r).map e) (fun x0z x0 x1 x5 => (j0 x0z x0 x1 x5).map e) k x0z x0 x1 x5 = (laws_heldByteSS.l0b ret j0 k x0z x0 x1 x5).map e := by
  unfold laws_heldByteSS.l0b
  repeat' first | with_reducible refine nat_cond ?_ ?_ | with_reducible refine nat_bind fun _ => ?_ | rfl
theorem laws_heldByteSS.rounds_eq (a0z : Bool) (a0 : List T) (a1 : Int) : ∀ k, (∀ (x0z : Bool) (x0 : List T) (x1 : Int) (x5 : Int), rounds Try.prog laws_heldByteSS.Cs (finish Try.prog [] Try.f64 [.v (.sl 22 a0z a0), .v (.int .i64 a1)]) 100000 k laws_heldByteSS.K0 (laws_heldByteSS.N0 x0z x0 x1 x5) = (laws_heldByteSS.l0 k x0z x0 x1 x5).map laws_heldByteSS.enc)
  | 0 => fun _ _ _ _ => rfl
  | k + 1 => by
    have ih := laws_heldByteSS.rounds_eq a0z a0 a1 k
    refine fun _ _ _ _ => ?_
    · refine (laws_heldByteSS.s0 k _ a0z a0 a1 _ _ _ _).trans (Eq.trans ?_ (laws_heldByteSS.l0b_nat laws_heldByteSS.enc some (laws_heldByteSS.l0 k) k _ _ _ _))
      simp only [ih, Option.map_some]
theorem laws_heldByteSS.eq (k : Nat) (a0z : Bool) (a0 : List T) (a1 : Int) : answer Try.prog laws_heldByteSS.Cs 100000 laws_heldByteSS.cuts [] Try.f64 (k + 1) [.v (.sl 22 a0z a0), .v (.int .i64 a1)] = (laws_heldByteSS.f (k + 1) a0z a0 a1).map laws_heldByteSS.enc := by
  have ih := laws_heldByteSS.rounds_eq a0z a0 a1 k
  refine (laws_heldByteSS.s k a0z a0 a1).trans (Eq.trans ?_ (laws_heldByteSS.b_nat laws_heldByteSS.enc some (laws_heldByteSS.l0 k) k a0z a0 a1))
  simp only [ih, Option.map_some]
theorem laws_heldByteSS.sound (k : Nat) : SoundF Try.prog 64 (fun a => (laws_heldByteSS.ans k a).val) := by
  refine sound_plain (fun args res h => ?_) (fun t n => rfl)
  unfold laws_heldByteSS.ans at h
  dsimp only at h
  split at h
  · cases k with
    | zero => cases h
    | succ k =>
      unfold Ans.val at h
      rw [← laws_heldByteSS.eq] at h
      exact answer_sound mixed Try.func64 _ _ _ (k + 1) (fun j _ => tab_sound (tab_cons (laws_heldByteS.sound j) (tab_nil))) _ _ h
  · exact (Ans.no_val h).elim

/-! loop.example/g00790/laws.heldQc -/
def laws_heldQc.b {R : Type} (ret : Int → Option R) (k : Nat) (a0_0 : Int) (a0_1 : Int) (a0_2z : Bool) (a0_2 : List Int) (a0_3z : Bool) (a0_3 : List Int) (a0_4z : Bool) (a0_4 : List T) (a1 : Int) : Option R :=
  (laws_heldByteS.f k a0_2z a0_2 a1).bind fun t0 => cond (decide (t0 < 0)) (ret (-1)) ((laws_heldByteS.f k a0_3z a0_3 t0).bind fun t1 => cond (decide (t1 < 0)) (ret (-1)) ((laws_heldByteSS.f k a0_4z a0_4 t1).bind fun t2 => cond (decide (t2 < 0)) (ret (-1)) (ret t2)))
def laws_heldQc.f : Nat → Int → Int → Bool → (List Int) → Bool → (List Int) → Bool → (List T) → Int → Option Int
  | 0, _, _, _, _, _, _, _, _, _ => none
  | k + 1, a0_0, a0_1, a0_2z, a0_2, a0_3z, a0_3, a0_4z, a0_4, a1 => laws_heldQc.b some k a0_0 a0_1 a0_2z a0_2 a0_3z a0_3 a0_4z a0_4 a1
def laws_heldQc.enc (r : Int) : Res := ⟨[.vals false [((.int .i64 r), true)]], []⟩
def laws_heldQc.ans (k : Nat) : List Arg → Ans
  | [.v (.agg [(.int .i64 a0_0), (.int .i64 a0_1), (.nums 5 .u8 a0_2z a0_2), (.nums 5 .u8 a0_3z a0_3), (.sl 22 a0_4z a0_4)]), .v (.int .i64 a1)] => ⟨laws_heldQc.f k a0_0 a0_1 a0_2z a0_2 a0_3z a0_3 a0_4z a0_4 a1, laws_heldQc.enc⟩
  | _ => Ans.no
def laws_heldQc.Cs (k : Nat) : CallSem := tab [(80, laws_heldByteS.ans k), (64, laws_heldByteSS.ans k)]
def laws_heldQc.cuts : List (Nat × Keep) := []
theorem laws_heldQc.s (k : Nat) (a0_0 : Int) (a0_1 : Int) (a0_2z : Bool) (a0_2 : List Int) (a0_3z : Bool) (a0_3 : List Int) (a0_4z : Bool) (a0_4 : List T) (a1 : Int) : answer Try.prog laws_heldQc.Cs 100000 laws_heldQc.cuts [] Try.f111 (k + 1) [.v (.agg [(.int .i64 a0_0), (.int .i64 a0_1), (.nums 5 .u8 a0_2z a0_2), (.nums 5 .u8 a0_3z a0_3), (.sl 22 a0_4z a0_4)]), .v (.int .i64 a1)] = laws_heldQc.b (fun r => some (laws_heldQc.enc r)) k a0_0 a0_1 a0_2z a0_2 a0_3z a0_3 a0_4z a0_4 a1 := by kernel_rfl
theorem laws_heldQc.b_nat {R R' : Type} (e : R → R') (ret : Int → Option R) (k : Nat) (a0_0 : Int) (a0_1 : Int) (a0_2z : Bool) (a0_2 : List Int) (a0_3z : Bool) (a0_3 : List Int) (a0_4z : Bool) (a0_4 : List T) (a1 : Int) : laws_heldQc.b (fun r => (ret r).map e) k a0_0 a0_1 a0_2z a0_2 a0_3z a0_3 a0_4z a0_4 a1 = (laws_heldQc.b ret k a0_0 a0_1 a0_2z a0_2 a0_3z a0_3 a0_4z a0_4 a1).map e := by
  unfold laws_heldQc.b
  repeat' first | with_reducible refine nat_cond ?_ ?_ | with_reducible refine nat_bind fun _ => ?_ | rfl
theorem laws_heldQc.eq (k : Nat) (a0_0 : Int) (a0_1 : Int) (a0_2z : Bool) (a0_2 : List Int) (a0_3z : Bool) (a0_3 : List Int) (a0_4z : Bool) (a0_4 : List T) (a1 : Int) : answer Try.prog laws_heldQc.Cs 100000 laws_heldQc.cuts [] Try.f111 (k + 1) [.v (.agg [(.int .i64 a0_0), (.int .i64 a0_1), (.nums 5 .u8 a0_2z a0_2), (.nums 5 .u8 a0_3z a0_3), (.sl 22 a0_4z a0_4)]), .v (.int .i64 a1)] = (laws_heldQc.f (k + 1) a0_0 a0_1 a0_2z a0_2 a0_3z a0_3 a0_4z a0_4 a1).map laws_heldQc.enc := by
  refine (laws_heldQc.s k a0_0 a0_1 a0_2z a0_2 a0_3z a0_3 a0_4z a0_4 a1).trans (Eq.trans ?_ (laws_heldQc.b_nat laws_heldQc.enc some k a0_0 a0_1 a0_2z a0_2 a0_3z a0_3 a0_4z a0_4 a1))
  simp only [Option.map_some]
theorem laws_heldQc.sound (k : Nat) : SoundF Try.prog 111 (fun a => (laws_heldQc.ans k a).val) := by
  refine sound_plain (fun args res h => ?_) (fun t n => rfl)
  unfold laws_heldQc.ans at h
  dsimp only at h
  split at h
  · cases k with
    | zero => cases h
    | succ k =>
      unfold Ans.val at h
      rw [← laws_heldQc.eq] at h
      exact answer_sound mixed Try.func111 _ _ _ (k + 1) (fun j _ => tab_sound (tab_cons (laws_heldByteS.sound j) (tab_cons (laws_heldByteSS.sound j) (tab_nil)))) _ _ h
  · exact (Ans.no_val h).elim

/-! loop.example/g00790/laws.heldHead -/
def laws_heldHead.b {R : Type} (ret : Int → Option R) (k : Nat) (a0_0 : Int) (a0_1 : Int) (a0_2 : Int) (a0_3z : Bool) (a0_3 : List Int) (a0_4z : Bool) (a0_4 : List Int) (a0_5 : Int) (a0_6 : Int) (a0_7z : Bool) (a0_7 : List Int) (a0_8z : Bool) (a0_8 : List Int) (a0_9z : Bool) (a0_9 : List T) (a1 : Int) : Option R :=
  (laws_heldByteS.f k a0_3z a0_3 a1).bind fun t0 => cond (decide (t0 < 0)) (ret (-1)) ((laws_heldByteS.f k a0_4z a0_4 t0).bind fun t1 => cond (decide (t1 < 0)) (ret (-1)) ((laws_heldQc.f k a0_5 a0_6 a0_7z a0_7 a0_8z a0_8 a0_9z a0_9 t1).bind fun t2 => cond (decide (t2 < 0)) (ret (-1)) (ret t2)))
def laws_heldHead.f : Nat → Int → Int → Int → Bool → (List Int) → Bool → (List Int) → Int → Int → Bool → (List Int) → Bool → (List Int) → Bool → (List T) → Int → Option Int
  | 0, _, _, _, _, _, _, _, _, _, _, _, _, _, _, _, _ => none
  | k + 1, a0_0, a0_1, a0_2, a0_3z, a0_3, a0_4z, a0_4, a0_5, a0_6, a0_7z, a0_7, a0_8z, a0_8, a0_9z, a0_9, a1 => laws_heldHead.b some k a0_0 a0_1 a0_2 a0_3z a0_3 a0_4z a0_4 a0_5 a0_6 a0_7z a0_7 a0_8z a0_8 a0_9z a0_9 a1
def laws_heldHead.enc (r : Int) : Res := ⟨[.vals false [((.int .i64 r), true)]], []⟩
def laws_heldHead.ans (k : Nat) : List Arg → Ans
  | [.v (.agg [(.int .i64 a0_0), (.int .i64 a0_1), (.int .i64 a0_2), (.nums 5 .u8 a0_3z a0_3), (.nums 5 .u8 a0_4z a0_4), (.int .i64 a0_5), (.int .i64 a0_6), (.nums 5 .u8 a0_7z a0_7), (.nums 5 .u8 a0_8z a0_8), (.sl 22 a0_9z a0_9)]), .v (.int .i64 a1)] => ⟨laws_heldHead.f k a0_0 a0_1 a0_2 a0_3z a0_3 a0_4z a0_4 a0_5 a0_6 a0_7z a0_7 a0_8z a0_8 a0_9z a0_9 a1, laws_heldHead.enc⟩
  | _ => Ans.no
def laws_heldHead.Cs (k : Nat) : CallSem := tab [(80, laws_heldByteS.ans k), (111, laws_heldQc.ans k)]
def laws_heldHead.cuts : List (Nat × Keep) := []
theorem laws_heldHead.s (k : Nat) (a0_0 : Int) (a0_1 : Int) (a0_2 : Int) (a0_3z : Bool) (a0_3 : List Int) (a0_4z : Bool) (a0_4 : List Int) (a0_5 : Int) (a0_6 : Int) (a0_7z : Bool) (a0_7 : List Int) (a0_8z : Bool) (a0_8 : List Int) (a0_9z : Bool) (a0_9 : List T) (a1 : Int) : answer Try.prog laws_heldHead.Cs 100000 laws_heldHead.cuts [] Try.f36 (k + 1) [.v (.agg [(.int .i64 a0_0), (.int .i64 a0_1), (.int .i64 a0_2), (.nums 5 .u8 a0_3z a0_3), (.nums 5 .u8 a0_4z a0_4), (.int .i64 a0_5), (.int .i64 a0_6), (.nums 5 .u8 a0_7z a0_7), (.nums 5 .u8 a0_8z a0_8), (.sl 22 a0_9z a0_9)]), .v (.int .i64 a1)] = laws_heldHead.b (fun r => some (laws_heldHead.enc r)) k a0_0 a0_1 a0_2 a0_3z a0_3 a0_4z a0_4 a0_5 a0_6 a0_7z a0_7 a0_8z a0_8 a0_9z a0_9 a1 := by kernel_rfl
theorem laws_heldHead.b_nat {R R' : Type} (e : R → R') (ret : Int → Option R) (k : Nat) (a0_0 : Int) (a0_1 : Int) (a0_2 : Int) (a0_3z : Bool) (a0_3 : List Int) (a0_4z : Bool) (a0_4 : List Int) (a0_5 : Int) (a0_6 : Int) (a0_7z : Bool) (a0_7 : List Int) (a0_8z : Bool) (a0_8 : List Int) (a0_9z : Bool) (a0_9 : List T) (a1 : Int) : laws_heldHead.b (fun r => (ret r).map e) k a0_0 a0_1 a0_2 a0_3z a0_3 a0_4z a0_4 a0_5 a0_6 a0_7z a0_7 a0_8z a0_8 a0_9z a0_9 a1 = (laws_heldHead.b ret k a0_0 a0_1 a0_2 a0_3z a0_3 a0_4z a0_4 a0_5 a0_6 a0_7z a0_7 a0_8z a0_8 a0_9z a0_9 a1).map e := by
  unfold laws_heldHead.b
  repeat' first | with_reducible refine nat_cond ?_ ?_ | with_reducible refine nat_bind fun _ => ?_ | rfl
theorem laws_heldHead.eq (k : Nat) (a0_0 : Int) (a0_1 : Int) (a0_2 : Int) (a0_3z : Bool) (a0_3 : List Int) (a0_4z : Bool) (a0_4 : List Int) (a0_5 : Int) (a0_6 : Int) (a0_7z : Bool) (a0_7 : List Int) (a0_8z : Bool) (a0_8 : List Int) (a0_9z : Bool) (a0_9 : List T) (a1 : Int) : answer Try.prog laws_heldHead.Cs 100000 laws_heldHead.cuts [] Try.f36 (k + 1) [.v (.agg [(.int .i64 a0_0), (.int .i64 a0_1), (.int .i64 a0_2), (.nums 5 .u8 a0_3z a0_3), (.nums 5 .u8 a0_4z a0_4), (.int .i64 a0_5), (.int .i64 a0_6), (.nums 5 .u8 a0_7z a0_7), (.nums 5 .u8 a0_8z a0_8), (.sl 22 a0_9z a0_9)]), .v (.int .i64 a1)] = (laws_heldHead.f (k + 1) a0_0 a0_1 a0_2 a0_3z a0_3 a0_4z a0_4 a0_5 a0_6 a0_7z a0_7 a0_8z a0_8 a0_9z a0_9 a1).map laws_heldHead.enc := by
  refine (laws_heldHead.s k a0_0 a0_1 a0_2 a0_3z a0_3 a0_4z a0_4 a0_5 a0_6 a0_7z a0_7 a0_8z a0_8 a0_9z a0_9 a1).trans (Eq.trans ?_ (laws_heldHead.b_nat laws_heldHead.enc some k a0_0 a0_1 a0_2 a0_3z a0_3 a0_4z a0_4 a0_5 a0_6 a0_7z a0_7 a0_8z a0_8 a0_9z a0_9 a1))
  simp only [Option.map_some]
theorem laws_heldHead.sound (k : Nat) : SoundF Try.prog 36 (fun a => (laws_heldHead.ans k a).val) := by
  refine sound_plain (fun args res h => ?_) (fun t n => rfl)
  unfold laws_heldHead.ans at h
  dsimp only at h
  split at h
  · cases k with
    | zero => cases h
    | succ k =>
      unfold Ans.val at h
      rw [← laws_heldHead.eq] at h
      exact answer_sound mixed Try.func36 _ _ _ (k + 1) (fun j _ => tab_sound (tab_cons (laws_heldByteS.sound j) (tab_cons (laws_heldQc.sound j) (tab_nil)))) _ _ h
  · exact (Ans.no_val h).elim

/-! loop.example/g00790/laws.FnExactFirstHead -/
def laws_FnExactFirstHead.b {R : Type} (ret : Bool → Option R) (k : Nat) (a0_0 : Int) (a0_1 : Int) (a0_2 : Int) (a0_3 : Int) (a0_4 : Int) (a1_0z : Bool) (a1_0 : List T) (a2 : Int) (a3z : Bool) (a3 : List Int) : Option R :=
  cond (decide (((a3).length : Int) > 1048576)) (ret true) ((laws_szTable.f k a1_0z a1_0 1048576).bind fun t0 => cond (decide (t0 < 0)) (ret true) ((laws_toLimits.f k a0_0 a0_1 a0_2 a0_3 a0_4).bind fun t1 => (laws_toTable.f k a1_0z a1_0).bind fun t2 => (laws_toByteS.f k a3z a3).bind fun t3 => (spec_FirstHead.f k t1.1 t1.2.1 t1.2.2.1 t1.2.2.2.1 t1.2.2.2.2 t2.1 t2.2 a2 t3.1 t3.2).bind fun t4 => (laws_toTable.f k a1_0z a1_0).bind fun t5 => (laws_toByteS.f k a3z a3).bind fun t6 => (laws_toLimits.f k a0_0 a0_1 a0_2 a0_3 a0_4).bind fun t7 => (impl_FirstHead.f k t7.1 t7.2.1 t7.2.2.1 t7.2.2.2.1 t7.2.2.2.2 t5.1 t5.2 a2 t6.1 t6.2).bind fun t8 => (laws_eqHead.f k t8.1 t8.2.1 t8.2.2.1 t8.2.2.2.1 t8.2.2.2.2.1 t8.2.2.2.2.2.1 t8.2.2.2.2.2.2.1 t8.2.2.2.2.2.2.2.1 t8.2.2.2.2.2.2.2.2.1 t8.2.2.2.2.2.2.2.2.2.1 t8.2.2.2.2.2.2.2.2.2.2.1 t8.2.2.2.2.2.2.2.2.2.2.2.1 t8.2.2.2.2.2.2.2.2.2.2.2.2.1 t8.2.2.2.2.2.2.2.2.2.2.2.2.2.1 t8.2.2.2.2.2.2.2.2.2.2.2.2.2.2.1 t4.1 t4.2.1 t4.2.2.1 t4.2.2.2.1 t4.2.2.2.2.1 t4.2.2.2.2.2.1 t4.2.2.2.2.2.2.1 t4.2.2.2.2.2.2.2.1 t4.2.2.2.2.2.2.2.2.1 t4.2.2.2.2.2.2.2.2.2.1 t4.2.2.2.2.2.2.2.2.2.2.1 t4.2.2.2.2.2.2.2.2.2.2.2.1 t4.2.2.2.2.2.2.2.2.2.2.2.2.1 t4.2.2.2.2.2.2.2.2.2.2.2.2.2.1 t4.2.2.2.2.2.2.2.2.2.2.2.2.2.2.1).bind fun t9 => cond (!t9) (ret false) (cond (!(t8.2.2.2.2.2.2.2.2.2.2.2.2.2.2.2 == t4.2.2.2.2.2.2.2.2.2.2.2.2.2.2.2)) (ret false) ((laws_toTable.f k a1_0z a1_0).bind fun t10 => (laws_eqTable.f k t5.1 t5.2 t10.1 t10.2).bind fun t11 => cond (!t11) (ret false) ((laws_toByteS.f k a3z a3).bind fun t12 => (laws_eqByteS.f k t6.1 t6.2 t12.1 t12.2).bind fun t13 => cond (!t13) (ret false) ((laws_markTable.f k t5.1 t5.2 1).bind fun t14 => (laws_markByteS.f k t6.1 t6.2 t14.1).bind fun t15 => cond (decide (t15.1 < 0)) (ret false) ((laws_eqHead.f k t8.1 t8.2.1 t8.2.2.1 t8.2.2.2.1 t8.2.2.2.2.1 t8.2.2.2.2.2.1 t8.2.2.2.2.2.2.1 t8.2.2.2.2.2.2.2.1 t8.2.2.2.2.2.2.2.2.1 t8.2.2.2.2.2.2.2.2.2.1 t8.2.2.2.2.2.2.2.2.2.2.1 t8.2.2.2.2.2.2.2.2.2.2.2.1 t8.2.2.2.2.2.2.2.2.2.2.2.2.1 t8.2.2.2.2.2.2.2.2.2.2.2.2.2.1 t8.2.2.2.2.2.2.2.2.2.2.2.2.2.2.1 t4.1 t4.2.1 t4.2.2.1 t4.2.2.2.1 t4.2.2.2.2.1 t4.2.2.2.2.2.1 t4.2.2.2.2.2.2.1 t4.2.2.2.2.2.2.2.1 t4.2.2.2.2.2.2.2.2.1 t4.2.2.2.2.2.2.2.2.2.1 t4.2.2.2.2.2.2.2.2.2.2.1 t4.2.2.2.2.2.2.2.2.2.2.2.1 t4.2.2.2.2.2.2.2.2.2.2.2.2.1 t4.2.2.2.2.2.2.2.2.2.2.2.2.2.1 t4.2.2.2.2.2.2.2.2.2.2.2.2.2.2.1).bind fun t16 => cond (!t16) (ret false) (cond (!(t8.2.2.2.2.2.2.2.2.2.2.2.2.2.2.2 == t4.2.2.2.2.2.2.2.2.2.2.2.2.2.2.2)) (ret false) ((laws_markHead.f k t8.1 t8.2.1 t8.2.2.1 t8.2.2.2.1 t8.2.2.2.2.1 t8.2.2.2.2.2.1 t8.2.2.2.2.2.2.1 t8.2.2.2.2.2.2.2.1 t8.2.2.2.2.2.2.2.2.1 t8.2.2.2.2.2.2.2.2.2.1 t8.2.2.2.2.2.2.2.2.2.2.1 t8.2.2.2.2.2.2.2.2.2.2.2.1 t8.2.2.2.2.2.2.2.2.2.2.2.2.1 t8.2.2.2.2.2.2.2.2.2.2.2.2.2.1 t8.2.2.2.2.2.2.2.2.2.2.2.2.2.2.1 1).bind fun t17 => (laws_heldHead.f k t8.1 t8.2.1 t8.2.2.1 t17.2.2.2.2.1 t17.2.2.2.2.2.1 t17.2.2.2.2.2.2.1 t17.2.2.2.2.2.2.2.1 t8.2.2.2.2.2.2.2.1 t8.2.2.2.2.2.2.2.2.1 t17.2.2.2.2.2.2.2.2.2.2.1 t17.2.2.2.2.2.2.2.2.2.2.2.1 t17.2.2.2.2.2.2.2.2.2.2.2.2.1 t17.2.2.2.2.2.2.2.2.2.2.2.2.2.1 t17.2.2.2.2.2.2.2.2.2.2.2.2.2.2.1 t17.2.2.2.2.2.2.2.2.2.2.2.2.2.2.2 1).bind fun t18 => cond (decide (t18 < 0)) (ret false) (cond (!(decide (t18 = t17.1))) (ret false) ((laws_toLimits.f k a0_0 a0_1 a0_2 a0_3 a0_4).bind fun t19 => (laws_toTable.f k a1_0z a1_0).bind fun t20 => (laws_toByteS.f k a3z a3).bind fun t21 => (impl_FirstHead.f k t19.1 t19.2.1 t19.2.2.1 t19.2.2.2.1 t19.2.2.2.2 t20.1 t20.2 a2 t21.1 t21.2).bind fun t22 => (laws_eqHead.f k t22.1 t22.2.1 t22.2.2.1 t22.2.2.2.1 t22.2.2.2.2.1 t22.2.2.2.2.2.1 t22.2.2.2.2.2.2.1 t22.2.2.2.2.2.2.2.1 t22.2.2.2.2.2.2.2.2.1 t22.2.2.2.2.2.2.2.2.2.1 t22.2.2.2.2.2.2.2.2.2.2.1 t22.2.2.2.2.2.2.2.2.2.2.2.1 t22.2.2.2.2.2.2.2.2.2.2.2.2.1 t22.2.2.2.2.2.2.2.2.2.2.2.2.2.1 t22.2.2.2.2.2.2.2.2.2.2.2.2.2.2.1 t4.1 t4.2.1 t4.2.2.1 t4.2.2.2.1 t4.2.2.2.2.1 t4.2.2.2.2.2.1 t4.2.2.2.2.2.2.1 t4.2.2.2.2.2.2.2.1 t4.2.2.2.2.2.2.2.2.1 t4.2.2.2.2.2.2.2.2.2.1 t4.2.2.2.2.2.2.2.2.2.2.1 t4.2.2.2.2.2.2.2.2.2.2.2.1 t4.2.2.2.2.2.2.2.2.2.2.2.2.1 t4.2.2.2.2.2.2.2.2.2.2.2.2.2.1 t4.2.2.2.2.2.2.2.2.2.2.2.2.2.2.1).bind fun t23 => cond (!t23) (ret false) (cond (!(t22.2.2.2.2.2.2.2.2.2.2.2.2.2.2.2 == t4.2.2.2.2.2.2.2.2.2.2.2.2.2.2.2)) (ret false) ((laws_heldHead.f k t8.1 t8.2.1 t8.2.2.1 t17.2.2.2.2.1 t17.2.2.2.2.2.1 t17.2.2.2.2.2.2.1 t17.2.2.2.2.2.2.2.1 t8.2.2.2.2.2.2.2.1 t8.2.2.2.2.2.2.2.2.1 t17.2.2.2.2.2.2.2.2.2.2.1 t17.2.2.2.2.2.2.2.2.2.2.2.1 t17.2.2.2.2.2.2.2.2.2.2.2.2.1 t17.2.2.2.2.2.2.2.2.2.2.2.2.2.1 t17.2.2.2.2.2.2.2.2.2.2.2.2.2.2.1 t17.2.2.2.2.2.2.2.2.2.2.2.2.2.2.2 1).bind fun t24 => cond (decide (t24 < 0)) (ret false) (cond (!(decide (t24 = t17.1))) (ret false) (ret true)))))))))))))))
def laws_FnExactFirstHead.f : Nat → Int → Int → Int → Int → Int → Bool → (List T) → Int → Bool → (List Int) → Option Bool
  | 0, _, _, _, _, _, _, _, _, _, _ => none
  | k + 1, a0_0, a0_1, a0_2, a0_3, a0_4, a1_0z, a1_0, a2, a3z, a3 => laws_FnExactFirstHead.b some k a0_0 a0_1 a0_2 a0_3 a0_4 a1_0z a1_0 a2 a3z a3
def laws_FnExactFirstHead.enc (r : Bool) : Res := ⟨[.vals false [((.bool r), true)]], []⟩
def laws_FnExactFirstHead.ans (k : Nat) : List Arg → Ans
  | [.v (.agg [(.int .i64 a0_0), (.int .i64 a0_1), (.int .i64 a0_2), (.int .i64 a0_3), (.int .i64 a0_4)]), .v (.agg [(.sl 191 a1_0z a1_0)]), .v (.int .i64 a2), .v (.nums 5 .u8 a3z a3)] => ⟨laws_FnExactFirstHead.f k a0_0 a0_1 a0_2 a0_3 a0_4 a1_0z a1_0 a2 a3z a3, laws_FnExactFirstHead.enc⟩
  | _ => Ans.no
def laws_FnExactFirstHead.Cs (k : Nat) : CallSem := tab [(24, laws_szTable.ans k), (26, laws_toLimits.ans k), (27, laws_toTable.ans k), (28, laws_toByteS.ans k), (25, spec_FirstHead.ans k), (29, impl_FirstHead.ans k), (30, laws_eqHead.ans k), (32, laws_eqByteS.ans k), (31, laws_eqTable.ans k), (33, laws_markTable.ans k), (34, laws_markByteS.ans k), (35, laws_markHead.ans k), (36, laws_heldHead.ans k)]
def laws_FnExactFirstHead.cuts : List (Nat × Keep) := []
theorem laws_FnExactFirstHead.s (k : Nat) (a0_0 : Int) (a0_1 : Int) (a0_2 : Int) (a0_3 : Int) (a0_4 : Int) (a1_0z : Bool) (a1_0 : List T) (a2 : Int) (a3z : Bool) (a3 : List Int) : answer Try.prog laws_FnExactFirstHead.Cs 100000 laws_FnExactFirstHead.cuts [] Try.f4 (k + 1) [.v (.agg [(.int .i64 a0_0), (.int .i64 a0_1), (.int .i64 a0_2), (.int .i64 a0_3), (.int .i64 a0_4)]), .v (.agg [(.sl 191 a1_0z a1_0)]), .v (.int .i64 a2), .v (.nums 5 .u8 a3z a3)] = laws_FnExactFirstHead.b (fun r => some (laws_FnExactFirstHead.enc r)) k a0_0 a0_1 a0_2 a0_3 a0_4 a1_0z a1_0 a2 a3z a3 := by kernel_rfl
theorem laws_FnExactFirstHead.b_nat {R R' : Type} (e : R → R') (ret : Bool → Option R) (k : Nat) (a0_0 : Int) (a0_1 : Int) (a0_2 : Int) (a0_3 : Int) (a0_4 : Int) (a1_0z : Bool) (a1_0 : List T) (a2 : Int) (a3z : Bool) (a3 : List Int) : laws_FnExactFirstHead.b (fun r => (ret r).map e) k a0_0 a0_1 a0_2 a0_3 a0_4 a1_0z a1_0 a2 a3z a3 = (laws_FnExactFirstHead.b ret k a0_0 a0_1 a0_2 a0_3 a0_4 a1_0z a1_0 a2 a3z a3).map e := by
  unfold laws_FnExactFirstHead.b
  repeat' first | with_reducible refine nat_cond ?_ ?_ | with_reducible refine nat_bind fun _ => ?_ | rfl
theorem laws_FnExactFirstHead.eq (k : Nat) (a0_0 : Int) (a0_1 : Int) (a0_2 : Int) (a0_3 : Int) (a0_4 : Int) (a1_0z : Bool) (a1_0 : List T) (a2 : Int) (a3z : Bool) (a3 : List Int) : answer Try.prog laws_FnExactFirstHead.Cs 100000 laws_FnExactFirstHead.cuts [] Try.f4 (k + 1) [.v (.agg [(.int .i64 a0_0), (.int .i64 a0_1), (.int .i64 a0_2), (.int .i64 a0_3), (.int .i64 a0_4)]), .v (.agg [(.sl 191 a1_0z a1_0)]), .v (.int .i64 a2), .v (.nums 5 .u8 a3z a3)] = (laws_FnExactFirstHead.f (k + 1) a0_0 a0_1 a0_2 a0_3 a0_4 a1_0z a1_0 a2 a3z a3).map laws_FnExactFirstHead.enc := by
  refine (laws_FnExactFirstHead.s k a0_0 a0_1 a0_2 a0_3 a0_4 a1_0z a1_0 a2 a3z a3).trans (Eq.trans ?_ (laws_FnExactFirstHead.b_nat laws_FnExactFirstHead.enc some k a0_0 a0_1 a0_2 a0_3 a0_4 a1_0z a1_0 a2 a3z a3))
  simp only [Option.map_some]
theorem laws_FnExactFirstHead.sound (k : Nat) : SoundF Try.prog 4 (fun a => (laws_FnExactFirstHead.ans k a).val) := by
  refine sound_plain (fun args res h => ?_) (fun t n => rfl)
  unfold laws_FnExactFirstHead.ans at h
  dsimp only at h
  split at h
  · cases k with
    | zero => cases h
    | succ k =>
      unfold Ans.val at h
      rw [← laws_FnExactFirstHead.eq] at h
      exact answer_sound mixed Try.func4 _ _ _ (k + 1) (fun j _ => tab_sound (tab_cons (laws_szTable.sound j) (tab_cons (laws_toLimits.sound j) (tab_cons (laws_toTable.sound j) (tab_cons (laws_toByteS.sound j) (tab_cons (spec_FirstHead.sound j) (tab_cons (impl_FirstHead.sound j) (tab_cons (laws_eqHead.sound j) (tab_cons (laws_eqByteS.sound j) (tab_cons (laws_eqTable.sound j) (tab_cons (laws_markTable.sound j) (tab_cons (laws_markByteS.sound j) (tab_cons (laws_markHead.sound j) (tab_cons (laws_heldHead.sound j) (tab_nil))))))))))))))) _ _ h
  · exact (Ans.no_val h).elim
end Go.Proofs.YtlfliciohaebfaaG
