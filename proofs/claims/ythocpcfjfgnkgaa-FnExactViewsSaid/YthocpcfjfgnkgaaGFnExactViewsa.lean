/- What the functions compute, printed by a program of this repo; each is shown to be what the machine of values answers. No condition. -/
import Derived.Test.YthocpcfjfgnkgaaProg
import Derived.KernelRfl
import Derived.Test.YthocpcfjfgnkgaaLay
namespace Go.Proofs.YthocpcfjfgnkgaaG
open Go Go.Proofs.YthocpcfjfgnkgaaRv Go.Proofs
set_option linter.unusedVariables false
set_option linter.unusedSimpArgs false
theorem mixed : Try.prog.follows .mixedOrders = true := by kernel_rfl
/-! loop.example/g00790/laws.szByteS -/
def laws_szByteS.b {R : Type} (ret : Int → Option R) (k : Nat) (a0z : Bool) (a0 : List Int) (a1 : Int) : Option R :=
  cond (decide ((RowKit.wrap64 (a1 - ((a0).length : Int))) < 0)) (ret (-1)) (ret (RowKit.wrap64 (a1 - ((a0).length : Int))))
def laws_szByteS.f : Nat → Bool → (List Int) → Int → Option Int
  | 0, _, _, _ => none
  | k + 1, a0z, a0, a1 => laws_szByteS.b some k a0z a0 a1
def laws_szByteS.enc (r : Int) : Res := ⟨[.vals false [((.int .i64 r), true)]], []⟩
def laws_szByteS.ans (k : Nat) : List Arg → Ans
  | [.v (.nums 5 .u8 a0z a0), .v (.int .i64 a1)] => ⟨laws_szByteS.f k a0z a0 a1, laws_szByteS.enc⟩
  | _ => Ans.no
def laws_szByteS.Cs (k : Nat) : CallSem := tab []
def laws_szByteS.cuts : List (Nat × Keep) := []
theorem laws_szByteS.s (k : Nat) (a0z : Bool) (a0 : List Int) (a1 : Int) : answer Try.prog laws_szByteS.Cs 100000 laws_szByteS.cuts [] Try.f51 (k + 1) [.v (.nums 5 .u8 a0z a0), .v (.int .i64 a1)] = laws_szByteS.b (fun r => some (laws_szByteS.enc r)) k a0z a0 a1 := by kernel_rfl
theorem laws_szByteS.b_nat {R R' : Type} (e : R → R') (ret : Int → Option R) (k : Nat) (a0z : Bool) (a0 : List Int) (a1 : Int) : laws_szByteS.b (fun r => (ret r).map e) k a0z a0 a1 = (laws_szByteS.b ret k a0z a0 a1).map e := by
  unfold laws_szByteS.b
  repeat' first | with_reducible refine nat_cond ?_ ?_ | with_reducible refine nat_bind fun _ => ?_ | rfl
theorem laws_szByteS.eq (k : Nat) (a0z : Bool) (a0 : List Int) (a1 : Int) : answer Try.prog laws_szByteS.Cs 100000 laws_szByteS.cuts [] Try.f51 (k + 1) [.v (.nums 5 .u8 a0z a0), .v (.int .i64 a1)] = (laws_szByteS.f (k + 1) a0z a0 a1).map laws_szByteS.enc := by
  refine (laws_szByteS.s k a0z a0 a1).trans (Eq.trans ?_ (laws_szByteS.b_nat laws_szByteS.enc some k a0z a0 a1))
  simp only [Option.map_some]
theorem laws_szByteS.sound (k : Nat) : SoundF Try.prog 51 (fun a => (laws_szByteS.ans k a).val) := by
  refine sound_plain (fun args res h => ?_) (fun t n => rfl)
  unfold laws_szByteS.ans at h
  dsimp only at h
  split at h
  · cases k with
    | zero => cases h
    | succ k =>
      unfold Ans.val at h
      rw [← laws_szByteS.eq] at h
      exact answer_sound mixed Try.func51 _ _ _ (k + 1) (fun j _ => tab_sound (tab_nil)) _ _ h
  · exact (Ans.no_val h).elim

/-! loop.example/g00790/laws.szVote -/
def laws_szVote.b {R : Type} (ret : Int → Option R) (k : Nat) (a0_0 : Int) (a0_1 : Int) (a0_2z : Bool) (a0_2 : List Int) (a0_3 : Int) (a0_4z : Bool) (a0_4 : List Int) (a1 : Int) : Option R :=
  (laws_szByteS.f k a0_2z a0_2 a1).bind fun t0 => cond (decide (t0 < 0)) (ret (-1)) ((laws_szByteS.f k a0_4z a0_4 t0).bind fun t1 => cond (decide (t1 < 0)) (ret (-1)) (ret t1))
def laws_szVote.f : Nat → Int → Int → Bool → (List Int) → Int → Bool → (List Int) → Int → Option Int
  | 0, _, _, _, _, _, _, _, _ => none
  | k + 1, a0_0, a0_1, a0_2z, a0_2, a0_3, a0_4z, a0_4, a1 => laws_szVote.b some k a0_0 a0_1 a0_2z a0_2 a0_3 a0_4z a0_4 a1
def laws_szVote.enc (r : Int) : Res := ⟨[.vals false [((.int .i64 r), true)]], []⟩
def laws_szVote.ans (k : Nat) : List Arg → Ans
  | [.v (.agg [(.int .i64 a0_0), (.int .i64 a0_1), (.nums 5 .u8 a0_2z a0_2), (.int .i64 a0_3), (.nums 5 .u8 a0_4z a0_4)]), .v (.int .i64 a1)] => ⟨laws_szVote.f k a0_0 a0_1 a0_2z a0_2 a0_3 a0_4z a0_4 a1, laws_szVote.enc⟩
  | _ => Ans.no
def laws_szVote.Cs (k : Nat) : CallSem := tab [(51, laws_szByteS.ans k)]
def laws_szVote.cuts : List (Nat × Keep) := []
theorem laws_szVote.s (k : Nat) (a0_0 : Int) (a0_1 : Int) (a0_2z : Bool) (a0_2 : List Int) (a0_3 : Int) (a0_4z : Bool) (a0_4 : List Int) (a1 : Int) : answer Try.prog laws_szVote.Cs 100000 laws_szVote.cuts [] Try.f32 (k + 1) [.v (.agg [(.int .i64 a0_0), (.int .i64 a0_1), (.nums 5 .u8 a0_2z a0_2), (.int .i64 a0_3), (.nums 5 .u8 a0_4z a0_4)]), .v (.int .i64 a1)] = laws_szVote.b (fun r => some (laws_szVote.enc r)) k a0_0 a0_1 a0_2z a0_2 a0_3 a0_4z a0_4 a1 := by kernel_rfl
theorem laws_szVote.b_nat {R R' : Type} (e : R → R') (ret : Int → Option R) (k : Nat) (a0_0 : Int) (a0_1 : Int) (a0_2z : Bool) (a0_2 : List Int) (a0_3 : Int) (a0_4z : Bool) (a0_4 : List Int) (a1 : Int) : laws_szVote.b (fun r => (ret r).map e) k a0_0 a0_1 a0_2z a0_2 a0_3 a0_4z a0_4 a1 = (laws_szVote.b ret k a0_0 a0_1 a0_2z a0_2 a0_3 a0_4z a0_4 a1).map e := by
  unfold laws_szVote.b
  repeat' first | with_reducible refine nat_cond ?_ ?_ | with_reducible refine nat_bind fun _ => ?_ | rfl
theorem laws_szVote.eq (k : Nat) (a0_0 : Int) (a0_1 : Int) (a0_2z : Bool) (a0_2 : List Int) (a0_3 : Int) (a0_4z : Bool) (a0_4 : List Int) (a1 : Int) : answer Try.prog laws_szVote.Cs 100000 laws_szVote.cuts [] Try.f32 (k + 1) [.v (.agg [(.int .i64 a0_0), (.int .i64 a0_1), (.nums 5 .u8 a0_2z a0_2), (.int .i64 a0_3), (.nums 5 .u8 a0_4z a0_4)]), .v (.int .i64 a1)] = (laws_szVote.f (k + 1) a0_0 a0_1 a0_2z a0_2 a0_3 a0_4z a0_4 a1).map laws_szVote.enc := by
  refine (laws_szVote.s k a0_0 a0_1 a0_2z a0_2 a0_3 a0_4z a0_4 a1).trans (Eq.trans ?_ (laws_szVote.b_nat laws_szVote.enc some k a0_0 a0_1 a0_2z a0_2 a0_3 a0_4z a0_4 a1))
  simp only [Option.map_some]
theorem laws_szVote.sound (k : Nat) : SoundF Try.prog 32 (fun a => (laws_szVote.ans k a).val) := by
  refine sound_plain (fun args res h => ?_) (fun t n => rfl)
  unfold laws_szVote.ans at h
  dsimp only at h
  split at h
  · cases k with
    | zero => cases h
    | succ k =>
      unfold Ans.val at h
      rw [← laws_szVote.eq] at h
      exact answer_sound mixed Try.func32 _ _ _ (k + 1) (fun j _ => tab_sound (tab_cons (laws_szByteS.sound j) (tab_nil))) _ _ h
  · exact (Ans.no_val h).elim

/-! loop.example/g00790/laws.szVoteS -/
def laws_szVoteS.b {R : Type} (ret : Int → Option R) (j0 : Bool → (List T) → Int → Int → Option R) (k : Nat) (a0z : Bool) (a0 : List T) (a1 : Int) : Option R :=
  cond (decide ((RowKit.wrap64 (a1 - ((a0).length : Int))) < 0)) (ret (-1)) (j0 a0z a0 (RowKit.wrap64 (a1 - ((a0).length : Int))) 0)
def laws_szVoteS.l0b {R : Type} (ret : Int → Option R) (j0 : Bool → (List T) → Int → Int → Option R) (k : Nat) (x0z : Bool) (x0 : List T) (x1 : Int) (x5 : Int) : Option R :=
  cond (decide (x5 < ((x0).length : Int))) (cond (decide ((0 : Int) ≤ x5)) (cond (decide (x5 < ((x0).length : Int))) ((laws_szVote.f k (((((x0).getD (x5).toNat .bad).cells.getD 0 .bad)).toInt) (((((x0).getD (x5).toNat .bad).cells.getD 1 .bad)).toInt) (((((x0).getD (x5).toNat .bad).cells.getD 2 .bad)).isNil) (((((x0).getD (x5).toNat .bad).cells.getD 2 .bad)).toNums) (((((x0).getD (x5).toNat .bad).cells.getD 3 .bad)).toInt) (((((x0).getD (x5).toNat .bad).cells.getD 4 .bad)).isNil) (((((x0).getD (x5).toNat .bad).cells.getD 4 .bad)).toNums) x1).bind fun t0 => cond (decide (t0 < 0)) (ret (-1)) (j0 x0z x0 t0 (RowKit.wrap64 (x5 + 1)))) (none)) (none)) (ret x1)
def laws_szVoteS.l0 : Nat → Bool → (List T) → Int → Int → Option Int
  | 0, _, _, _, _ => none
  | k + 1, x0z, x0, x1, x5 => laws_szVoteS.l0b some (laws_szVoteS.l0 k) k x0z x0 x1 x5
def laws_szVoteS.f : Nat → Bool → (List T) → Int → Option Int
  | 0, _, _, _ => none
  | k + 1, a0z, a0, a1 => laws_szVoteS.b some (laws_szVoteS.l0 k) k a0z a0 a1
def laws_szVoteS.enc (r : Int) : Res := ⟨[.vals false [((.int .i64 r), true)]], []⟩
def laws_szVoteS.ans (k : Nat) : List Arg → Ans
  | [.v (.sl 64 a0z a0), .v (.int .i64 a1)] => ⟨laws_szVoteS.f k a0z a0 a1, laws_szVoteS.enc⟩
  | _ => Ans.no
def laws_szVoteS.Cs (k : Nat) : CallSem := tab [(32, laws_szVote.ans k)]
def laws_szVoteS.cuts : List (Nat × Keep) := [(122, ⟨[(0, some []), (1, some []), (5, some [])], []⟩)]
noncomputable def laws_szVoteS.K0 : List Fr := framesAt [true, true, true, false, true, false] (bodyOf Try.f11 laws_szVoteS.cuts) []
def laws_szVoteS.N0 (x0z : Bool) (x0 : List T) (x1 : Int) (x5 : Int) : St := stOf 27 27 2 [(0, .val ⟨(.sl 64 x0z x0), [], false, none⟩), (1, .val (V.s (.int .i64 x1))), (5, .val (V.s (.int .i64 x5)))] []
theorem laws_szVoteS.s (k : Nat) (a0z : Bool) (a0 : List T) (a1 : Int) : answer Try.prog laws_szVoteS.Cs 100000 laws_szVoteS.cuts [] Try.f11 (k + 1) [.v (.sl 64 a0z a0), .v (.int .i64 a1)] = laws_szVoteS.b (fun r => some (laws_szVoteS.enc r)) (fun x0z x0 x1 x5 => rounds Try.prog laws_szVoteS.Cs (finish Try.prog [] Try.f11 [.v (.sl 64 a0z a0), .v (.int .i64 a1)]) 100000 k laws_szVoteS.K0 (laws_szVoteS.N0 x0z x0 x1 x5)) k a0z a0 a1 := by kernel_rfl
theorem laws_szVoteS.s0 (k : Nat) (G : List Fr → St → Option Res) (a0z : Bool) (a0 : List T) (a1 : Int) (yx0z : Bool) (yx0 : List T) (yx1 : Int) (yx5 : Int) : resume Try.prog (laws_szVoteS.Cs k) G (finish Try.prog [] Try.f11 [.v (.sl 64 a0z a0), .v (.int .i64 a1)]) 100000 laws_szVoteS.K0 (laws_szVoteS.N0 yx0z yx0 yx1 yx5) = laws_szVoteS.l0b (fun r => some (laws_szVoteS.enc r)) (fun x0z x0 x1 x5 => G laws_szVoteS.K0 (laws_szVoteS.N0 x0z x0 x1 x5)) k yx0z yx0 yx1 yx5 := by kernel_rfl
theorem laws_szVoteS.b_nat {R R' : Type} (e : R → R') (ret : Int → Option R) (j0 : Bool → (List T) → Int → Int → Option R) (k : Nat) (a0z : Bool) (a0 : List T) (a1 : Int) : laws_szVoteS.b (fun r => (ret r).map e) (fun x0z x0 x1 x5 => (j0 x0z x0 x1 x5).map e) k a0z a0 a1 = (laws_szVoteS.b ret j0 k a0z a0 a1).map e := by
  unfold laws_szVoteS.b
  repeat' first | with_reducible refine nat_cond ?_ ?_ | with_reducible refine nat_bind fun _ => ?_ | rfl
theorem laws_szVoteS.l0b_nat {R R' : Type} (e : R → R') (ret : Int → Option R) (j0 : Bool → (List T) → Int → Int → Option R) (k : Nat) (x0z : Bool) (x0 : List T) (x1 : Int) (x5 : Int) : laws_szVoteS.l0b (fun r => (ret r).map e) (fun x0z x0 x1 x5 => (j0 x0z x0 x1 x5).map e) k x0z x0 x1 x5 = (laws_szVoteS.l0b ret j0 k x0z x0 x1 x5).map e := by
  unfold laws_szVoteS.l0b
  repeat' first | with_reducible refine nat_cond ?_ ?_ | with_reducible refine nat_bind fun _ => ?_ | rfl
theorem laws_szVoteS.rounds_eq (a0z : Bool) (a0 : List T) (a1 : Int) : ∀ k, (∀ (x0z : Bool) (x0 : List T) (x1 : Int) (x5 : Int), rounds Try.prog laws_szVoteS.Cs (finish Try.prog [] Try.f11 [.v (.sl 64 a0z a0), .v (.int .i64 a1)]) 100000 k laws_szVoteS.K0 (laws_szVoteS.N0 x0z x0 x1 x5) = (laws_szVoteS.l0 k x0z x0 x1 x5).map laws_szVoteS.enc)
  | 0 => fun _ _ _ _ => rfl
  | k + 1 => by
    have ih := laws_szVoteS.rounds_eq a0z a0 a1 k
    refine fun _ _ _ _ => ?_
    · refine (laws_szVoteS.s0 k _ a0z a0 a1 _ _ _ _).trans (Eq.trans ?_ (laws_szVoteS.l0b_nat laws_szVoteS.enc some (laws_szVoteS.l0 k) k _ _ _ _))
      simp only [ih, Option.map_some]
theorem laws_szVoteS.eq (k : Nat) (a0z : Bool) (a0 : List T) (a1 : Int) : answer Try.prog laws_szVoteS.Cs 100000 laws_szVoteS.cuts [] Try.f11 (k + 1) [.v (.sl 64 a0z a0), .v (.int .i64 a1)] = (laws_szVoteS.f (k + 1) a0z a0 a1).map laws_szVoteS.enc := by
  have ih := laws_szVoteS.rounds_eq a0z a0 a1 k
  refine (laws_szVoteS.s k a0z a0 a1).trans (Eq.trans ?_ (laws_szVoteS.b_nat laws_szVoteS.enc some (laws_szVoteS.l0 k) k a0z a0 a1))
  simp only [ih, Option.map_some]
theorem laws_szVoteS.sound (k : Nat) : SoundF Try.prog 11 (fun a => (laws_szVoteS.ans k a).val) := by
  refine sound_plain (fun args res h => ?_) (fun t n => rfl)
  unfold laws_szVoteS.ans at h
  dsimp only at h
  split at h
  · cases k with
    | zero => cases h
    | succ k =>
      unfold Ans.val at h
      rw [← laws_szVoteS.eq] at h
      exact answer_sound mixed Try.func11 _ _ _ (k + 1) (fun j _ => tab_sound (tab_cons (laws_szVote.sound j) (tab_nil))) _ _ h
  · exact (Ans.no_val h).elim

/-! loop.example/g00790/laws.toByteS -/
def laws_toByteS.b {R : Type} (ret : Bool × List Int → Option R) (j0 : Bool → (List Int) → (List Int) → Int → Option R) (k : Nat) (a0z : Bool) (a0 : List Int) : Option R :=
  cond (decide (((a0).length : Int) = ((a0).length : Int))) (cond (decide ((0 : Int) ≤ ((a0).length : Int))) (cond (decide ((a0).length < 140737488355328)) (j0 a0z a0 (List.replicate (a0).length (0 : Int)) 0) (none)) (none)) (none)
def laws_toByteS.l0b {R : Type} (ret : Bool × List Int → Option R) (j0 : Bool → (List Int) → (List Int) → Int → Option R) (k : Nat) (x0z : Bool) (x0 : List Int) (x3 : List Int) (x4 : Int) : Option R :=
  cond (decide (x4 < ((x0).length : Int))) (cond (decide ((0 : Int) ≤ x4)) (cond (decide (x4 < ((x0).length : Int))) (cond (decide ((0 : Int) ≤ x4)) (cond (decide (x4 < ((x3).length : Int))) (j0 x0z x0 ((x3).set (x4).toNat (rdI x0 x4)) (RowKit.wrap64 (x4 + 1))) (none)) (none)) (none)) (none)) (ret (false, x3))
def laws_toByteS.l0 : Nat → Bool → (List Int) → (List Int) → Int → Option (Bool × List Int)
  | 0, _, _, _, _ => none
  | k + 1, x0z, x0, x3, x4 => laws_toByteS.l0b some (laws_toByteS.l0 k) k x0z x0 x3 x4
def laws_toByteS.f : Nat → Bool → (List Int) → Option (Bool × List Int)
  | 0, _, _ => none
  | k + 1, a0z, a0 => laws_toByteS.b some (laws_toByteS.l0 k) k a0z a0
def laws_toByteS.enc (r : Bool × List Int) : Res := ⟨[.vals false [((.nums 5 .u8 r.1 r.2), true)]], []⟩
def laws_toByteS.ans (k : Nat) : List Arg → Ans
  | [.v (.nums 5 .u8 a0z a0)] => ⟨laws_toByteS.f k a0z a0, laws_toByteS.enc⟩
  | _ => Ans.no
def laws_toByteS.Cs (k : Nat) : CallSem := tab []
def laws_toByteS.cuts : List (Nat × Keep) := [(58, ⟨[(0, some []), (3, none), (4, some [])], []⟩)]
noncomputable def laws_toByteS.K0 : List Fr := framesAt [true, true, false, true, false] (bodyOf Try.f52 laws_toByteS.cuts) []
def laws_toByteS.N0 (x0z : Bool) (x0 : List Int) (x3 : List Int) (x4 : Int) : St := stOf 22 22 1 [(0, .val ⟨(.nums 5 .u8 x0z x0), [], false, none⟩), (3, .val ⟨(.nums 5 .u8 false x3), [.l 3 0], true, some (.l 3 0)⟩), (4, .val (V.s (.int .i64 x4)))] []
theorem laws_toByteS.s (k : Nat) (a0z : Bool) (a0 : List Int) : answer Try.prog laws_toByteS.Cs 100000 laws_toByteS.cuts [] Try.f52 (k + 1) [.v (.nums 5 .u8 a0z a0)] = laws_toByteS.b (fun r => some (laws_toByteS.enc r)) (fun x0z x0 x3 x4 => rounds Try.prog laws_toByteS.Cs (finish Try.prog [] Try.f52 [.v (.nums 5 .u8 a0z a0)]) 100000 k laws_toByteS.K0 (laws_toByteS.N0 x0z x0 x3 x4)) k a0z a0 := by kernel_rfl
theorem laws_toByteS.s0 (k : Nat) (G : List Fr → St → Option Res) (a0z : Bool) (a0 : List Int) (yx0z : Bool) (yx0 : List Int) (yx3 : List Int) (yx4 : Int) : resume Try.prog (laws_toByteS.Cs k) G (finish Try.prog [] Try.f52 [.v (.nums 5 .u8 a0z a0)]) 100000 laws_toByteS.K0 (laws_toByteS.N0 yx0z yx0 yx3 yx4) = laws_toByteS.l0b (fun r => some (laws_toByteS.enc r)) (fun x0z x0 x3 x4 => G laws_toByteS.K0 (laws_toByteS.N0 x0z x0 x3 x4)) k yx0z yx0 yx3 yx4 := by kernel_rfl
theorem laws_toByteS.b_nat {R R' : Type} (e : R → R') (ret : Bool × List Int → Option R) (j0 : Bool → (List Int) → (List Int) → Int → Option R) (k : Nat) (a0z : Bool) (a0 : List Int) : laws_toByteS.b (fun r => (ret r).map e) (fun x0z x0 x3 x4 => (j0 x0z x0 x3 x4).map e) k a0z a0 = (laws_toByteS.b ret j0 k a0z a0).map e := by
  unfold laws_toByteS.b
  repeat' first | with_reducible refine nat_cond ?_ ?_ | with_reducible refine nat_bind fun _ => ?_ | rfl
theorem laws_toByteS.l0b_nat {R R' : Type} (e : R → R') (ret : Bool × List Int → Option R) (j0 : Bool → (List Int) → (List Int) → Int → Option R) (k : Nat) (x0z : Bool) (x0 : List Int) (x3 : List Int) (x4 : Int) : laws_toByteS.l0b (fun r => (ret r).map e) (fun x0z x0 x3 x4 => (j0 x0z x0 x3 x4).map e) k x0z x0 x3 x4 = (laws_toByteS.l0b ret j0 k x0z x0 x3 x4).map e := by
  unfold laws_toByteS.l0b
  repeat' first | with_reducible refine nat_cond ?_ ?_ | with_reducible refine nat_bind fun _ => ?_ | rfl
theorem laws_toByteS.rounds_eq (a0z : Bool) (a0 : List Int) : ∀ k, (∀ (x0z : Bool) (x0 : List Int) (x3 : List Int) (x4 : Int), rounds Try.prog laws_toByteS.Cs (finish Try.prog [] Try.f52 [.v (.nums 5 .u8 a0z a0)]) 100000 k laws_toByteS.K0 (laws_toByteS.N0 x0z x0 x3 x4) = (laws_toByteS.l0 k x0z x0 x3 x4).map laws_toByteS.enc)
  | 0 => fun _ _ _ _ => rfl
  | k + 1 => by
    have ih := laws_toByteS.rounds_eq a0z a0 k
    refine fun _ _ _ _ => ?_
    · refine (laws_toByteS.s0 k _ a0z a0 _ _ _ _).trans (Eq.trans ?_ (laws_toByteS.l0b_nat laws_toByteS.enc some (laws_toByteS.l0 k) k _ _ _ _))
      simp only [ih, Option.map_some]
theorem laws_toByteS.eq (k : Nat) (a0z : Bool) (a0 : List Int) : answer Try.prog laws_toByteS.Cs 100000 laws_toByteS.cuts [] Try.f52 (k + 1) [.v (.nums 5 .u8 a0z a0)] = (laws_toByteS.f (k + 1) a0z a0).map laws_toByteS.enc := by
  have ih := laws_toByteS.rounds_eq a0z a0 k
  refine (laws_toByteS.s k a0z a0).trans (Eq.trans ?_ (laws_toByteS.b_nat laws_toByteS.enc some (laws_toByteS.l0 k) k a0z a0))
  simp only [ih, Option.map_some]
theorem laws_toByteS.sound (k : Nat) : SoundF Try.prog 52 (fun a => (laws_toByteS.ans k a).val) := by
  refine sound_plain (fun args res h => ?_) (fun t n => rfl)
  unfold laws_toByteS.ans at h
  dsimp only at h
  split at h
  · cases k with
    | zero => cases h
    | succ k =>
      unfold Ans.val at h
      rw [← laws_toByteS.eq] at h
      exact answer_sound mixed Try.func52 _ _ _ (k + 1) (fun j _ => tab_sound (tab_nil)) _ _ h
  · exact (Ans.no_val h).elim

/-! loop.example/g00790/laws.toVote -/
def laws_toVote.b {R : Type} (ret : Int × Int × Bool × (List Int) × Int × Bool × List Int → Option R) (k : Nat) (a0_0 : Int) (a0_1 : Int) (a0_2z : Bool) (a0_2 : List Int) (a0_3 : Int) (a0_4z : Bool) (a0_4 : List Int) : Option R :=
  (laws_toByteS.f k a0_2z a0_2).bind fun t0 => (laws_toByteS.f k a0_4z a0_4).bind fun t1 => ret (a0_0, a0_1, t0.1, t0.2, a0_3, t1.1, t1.2)
def laws_toVote.f : Nat → Int → Int → Bool → (List Int) → Int → Bool → (List Int) → Option (Int × Int × Bool × (List Int) × Int × Bool × List Int)
  | 0, _, _, _, _, _, _, _ => none
  | k + 1, a0_0, a0_1, a0_2z, a0_2, a0_3, a0_4z, a0_4 => laws_toVote.b some k a0_0 a0_1 a0_2z a0_2 a0_3 a0_4z a0_4
def laws_toVote.enc (r : Int × Int × Bool × (List Int) × Int × Bool × List Int) : Res := ⟨[.vals true [((.int .i64 r.1), true), ((.int .i64 r.2.1), true), ((.nums 5 .u8 r.2.2.1 r.2.2.2.1), true), ((.int .i64 r.2.2.2.2.1), true), ((.nums 5 .u8 r.2.2.2.2.2.1 r.2.2.2.2.2.2), true)]], []⟩
def laws_toVote.ans (k : Nat) : List Arg → Ans
  | [.v (.agg [(.int .i64 a0_0), (.int .i64 a0_1), (.nums 5 .u8 a0_2z a0_2), (.int .i64 a0_3), (.nums 5 .u8 a0_4z a0_4)])] => ⟨laws_toVote.f k a0_0 a0_1 a0_2z a0_2 a0_3 a0_4z a0_4, laws_toVote.enc⟩
  | _ => Ans.no
def laws_toVote.Cs (k : Nat) : CallSem := tab [(52, laws_toByteS.ans k)]
def laws_toVote.cuts : List (Nat × Keep) := []
theorem laws_toVote.s (k : Nat) (a0_0 : Int) (a0_1 : Int) (a0_2z : Bool) (a0_2 : List Int) (a0_3 : Int) (a0_4z : Bool) (a0_4 : List Int) : answer Try.prog laws_toVote.Cs 100000 laws_toVote.cuts [] Try.f33 (k + 1) [.v (.agg [(.int .i64 a0_0), (.int .i64 a0_1), (.nums 5 .u8 a0_2z a0_2), (.int .i64 a0_3), (.nums 5 .u8 a0_4z a0_4)])] = laws_toVote.b (fun r => some (laws_toVote.enc r)) k a0_0 a0_1 a0_2z a0_2 a0_3 a0_4z a0_4 := by kernel_rfl
theorem laws_toVote.b_nat {R R' : Type} (e : R → R') (ret : Int × Int × Bool × (List Int) × Int × Bool × List Int → Option R) (k : Nat) (a0_0 : Int) (a0_1 : Int) (a0_2z : Bool) (a0_2 : List Int) (a0_3 : Int) (a0_4z : Bool) (a0_4 : List Int) : laws_toVote.b (fun r => (ret r).map e) k a0_0 a0_1 a0_2z a0_2 a0_3 a0_4z a0_4 = (laws_toVote.b ret k a0_0 a0_1 a0_2z a0_2 a0_3 a0_4z a0_4).map e := by
  unfold laws_toVote.b
  repeat' first | with_reducible refine nat_cond ?_ ?_ | with_reducible refine nat_bind fun _ => ?_ | rfl
theorem laws_toVote.eq (k : Nat) (a0_0 : Int) (a0_1 : Int) (a0_2z : Bool) (a0_2 : List Int) (a0_3 : Int) (a0_4z : Bool) (a0_4 : List Int) : answer Try.prog laws_toVote.Cs 100000 laws_toVote.cuts [] Try.f33 (k + 1) [.v (.agg [(.int .i64 a0_0), (.int .i64 a0_1), (.nums 5 .u8 a0_2z a0_2), (.int .i64 a0_3), (.nums 5 .u8 a0_4z a0_4)])] = (laws_toVote.f (k + 1) a0_0 a0_1 a0_2z a0_2 a0_3 a0_4z a0_4).map laws_toVote.enc := by
  refine (laws_toVote.s k a0_0 a0_1 a0_2z a0_2 a0_3 a0_4z a0_4).trans (Eq.trans ?_ (laws_toVote.b_nat laws_toVote.enc some k a0_0 a0_1 a0_2z a0_2 a0_3 a0_4z a0_4))
  simp only [Option.map_some]
theorem laws_toVote.sound (k : Nat) : SoundF Try.prog 33 (fun a => (laws_toVote.ans k a).val) := by
  refine sound_plain (fun args res h => ?_) (fun t n => rfl)
  unfold laws_toVote.ans at h
  dsimp only at h
  split at h
  · cases k with
    | zero => cases h
    | succ k =>
      unfold Ans.val at h
      rw [← laws_toVote.eq] at h
      exact answer_sound mixed Try.func33 _ _ _ (k + 1) (fun j _ => tab_sound (tab_cons (laws_toByteS.sound j) (tab_nil))) _ _ h
  · exact (Ans.no_val h).elim

/-! loop.example/g00790/laws.toVoteS -/
def laws_toVoteS.b {R : Type} (ret : Bool × List T → Option R) (j0 : Bool → (List T) → (List T) → Int → Option R) (k : Nat) (a0z : Bool) (a0 : List T) : Option R :=
  cond (decide (((a0).length : Int) = ((a0).length : Int))) (cond (decide ((0 : Int) ≤ ((a0).length : Int))) (cond (decide ((a0).length < 1954687338268)) (j0 a0z a0 (List.replicate (a0).length (.agg [(.int .i64 0), (.int .i64 0), (.nums 5 .u8 true ([] : List Int)), (.int .i64 0), (.nums 5 .u8 true ([] : List Int))])) 0) (none)) (none)) (none)
def laws_toVoteS.l0b {R : Type} (ret : Bool × List T → Option R) (j0 : Bool → (List T) → (List T) → Int → Option R) (k : Nat) (x0z : Bool) (x0 : List T) (x3 : List T) (x4 : Int) : Option R :=
  cond (decide (x4 < ((x0).length : Int))) (cond (decide ((0 : Int) ≤ x4)) (cond (decide (x4 < ((x0).length : Int))) ((laws_toVote.f k (((((x0).getD (x4).toNat .bad).cells.getD 0 .bad)).toInt) (((((x0).getD (x4).toNat .bad).cells.getD 1 .bad)).toInt) (((((x0).getD (x4).toNat .bad).cells.getD 2 .bad)).isNil) (((((x0).getD (x4).toNat .bad).cells.getD 2 .bad)).toNums) (((((x0).getD (x4).toNat .bad).cells.getD 3 .bad)).toInt) (((((x0).getD (x4).toNat .bad).cells.getD 4 .bad)).isNil) (((((x0).getD (x4).toNat .bad).cells.getD 4 .bad)).toNums)).bind fun t0 => cond (decide ((0 : Int) ≤ x4)) (cond (decide (x4 < ((x3).length : Int))) (j0 x0z x0 ((x3).set (x4).toNat (.agg [(.int .i64 t0.1), (.int .i64 t0.2.1), (.nums 5 .u8 t0.2.2.1 t0.2.2.2.1), (.int .i64 t0.2.2.2.2.1), (.nums 5 .u8 t0.2.2.2.2.2.1 t0.2.2.2.2.2.2)])) (RowKit.wrap64 (x4 + 1))) (none)) (none)) (none)) (none)) (ret (false, x3))
def laws_toVoteS.l0 : Nat → Bool → (List T) → (List T) → Int → Option (Bool × List T)
  | 0, _, _, _, _ => none
  | k + 1, x0z, x0, x3, x4 => laws_toVoteS.l0b some (laws_toVoteS.l0 k) k x0z x0 x3 x4
def laws_toVoteS.f : Nat → Bool → (List T) → Option (Bool × List T)
  | 0, _, _ => none
  | k + 1, a0z, a0 => laws_toVoteS.b some (laws_toVoteS.l0 k) k a0z a0
def laws_toVoteS.enc (r : Bool × List T) : Res := ⟨[.vals false [((.sl 33 r.1 r.2), true)]], []⟩
def laws_toVoteS.ans (k : Nat) : List Arg → Ans
  | [.v (.sl 64 a0z a0)] => ⟨laws_toVoteS.f k a0z a0, laws_toVoteS.enc⟩
  | _ => Ans.no
def laws_toVoteS.Cs (k : Nat) : CallSem := tab [(33, laws_toVote.ans k)]
def laws_toVoteS.cuts : List (Nat × Keep) := [(58, ⟨[(0, some []), (3, none), (4, some [])], []⟩)]
noncomputable def laws_toVoteS.K0 : List Fr := framesAt [true, true, false, true, false] (bodyOf Try.f13 laws_toVoteS.cuts) []
def laws_toVoteS.N0 (x0z : Bool) (x0 : List T) (x3 : List T) (x4 : Int) : St := stOf 23 23 1 [(0, .val ⟨(.sl 64 x0z x0), [], false, none⟩), (3, .val ⟨(.sl 33 false x3), [.l 3 0], true, some (.l 3 0)⟩), (4, .val (V.s (.int .i64 x4)))] []
theorem laws_toVoteS.s (k : Nat) (a0z : Bool) (a0 : List T) : answer Try.prog laws_toVoteS.Cs 100000 laws_toVoteS.cuts [] Try.f13 (k + 1) [.v (.sl 64 a0z a0)] = laws_toVoteS.b (fun r => some (laws_toVoteS.enc r)) (fun x0z x0 x3 x4 => rounds Try.prog laws_toVoteS.Cs (finish Try.prog [] Try.f13 [.v (.sl 64 a0z a0)]) 100000 k laws_toVoteS.K0 (laws_toVoteS.N0 x0z x0 x3 x4)) k a0z a0 := by kernel_rfl
theorem laws_toVoteS.s0 (k : Nat) (G : List Fr → St → Option Res) (a0z : Bool) (a0 : List T) (yx0z : Bool) (yx0 : List T) (yx3 : List T) (yx4 : Int) : resume Try.prog (laws_toVoteS.Cs k) G (finish Try.prog [] Try.f13 [.v (.sl 64 a0z a0)]) 100000 laws_toVoteS.K0 (laws_toVoteS.N0 yx0z yx0 yx3 yx4) = laws_toVoteS.l0b (fun r => some (laws_toVoteS.enc r)) (fun x0z x0 x3 x4 => G laws_toVoteS.K0 (laws_toVoteS.N0 x0z x0 x3 x4)) k yx0z yx0 yx3 yx4 := by kernel_rfl
theorem laws_toVoteS.b_nat {R R' : Type} (e : R → R') (ret : Bool × List T → Option R) (j0 : Bool → (List T) → (List T) → Int → Option R) (k : Nat) (a0z : Bool) (a0 : List T) : laws_toVoteS.b (fun r => (ret r).map e) (fun x0z x0 x3 x4 => (j0 x0z x0 x3 x4).map e) k a0z a0 = (laws_toVoteS.b ret j0 k a0z a0).map e := by
  unfold laws_toVoteS.b
  repeat' first | with_reducible refine nat_cond ?_ ?_ | with_reducible refine nat_bind fun _ => ?_ | rfl
theorem laws_toVoteS.l0b_nat {R R' : Type} (e : R → R') (ret : Bool × List T → Option R) (j0 : Bool → (List T) → (List T) → Int → Option R) (k : Nat) (x0z : Bool) (x0 : List T) (x3 : List T) (x4 : Int) : laws_toVoteS.l0b (fun r => (ret r).map e) (fun x0z x0 x3 x4 => (j0 x0z x0 x3 x4).map e) k x0z x0 x3 x4 = (laws_toVoteS.l0b ret j0 k x0z x0 x3 x4).map e := by
  unfold laws_toVoteS.l0b
  repeat' first | with_reducible refine nat_cond ?_ ?_ | with_reducible refine nat_bind fun _ => ?_ | rfl
theorem laws_toVoteS.rounds_eq (a0z : Bool) (a0 : List T) : ∀ k, (∀ (x0z : Bool) (x0 : List T) (x3 : List T) (x4 : Int), rounds Try.prog laws_toVoteS.Cs (finish Try.prog [] Try.f13 [.v (.sl 64 a0z a0)]) 100000 k laws_toVoteS.K0 (laws_toVoteS.N0 x0z x0 x3 x4) = (laws_toVoteS.l0 k x0z x0 x3 x4).map laws_toVoteS.enc)
  | 0 => fun _ _ _ _ => rfl
  | k + 1 => by
    have ih := laws_toVoteS.rounds_eq a0z a0 k
    refine fun _ _ _ _ => ?_
    · refine (laws_toVoteS.s0 k _ a0z a0 _ _ _ _).trans (Eq.trans ?_ (laws_toVoteS.l0b_nat laws_toVoteS.enc some (laws_toVoteS.l0 k) k _ _ _ _))
      simp only [ih, Option.map_some]
theorem laws_toVoteS.eq (k : Nat) (a0z : Bool) (a0 : List T) : answer Try.prog laws_toVoteS.Cs 100000 laws_toVoteS.cuts [] Try.f13 (k + 1) [.v (.sl 64 a0z a0)] = (laws_toVoteS.f (k + 1) a0z a0).map laws_toVoteS.enc := by
  have ih := laws_toVoteS.rounds_eq a0z a0 k
  refine (laws_toVoteS.s k a0z a0).trans (Eq.trans ?_ (laws_toVoteS.b_nat laws_toVoteS.enc some (laws_toVoteS.l0 k) k a0z a0))
  simp only [ih, Option.map_some]
theorem laws_toVoteS.sound (k : Nat) : SoundF Try.prog 13 (fun a => (laws_toVoteS.ans k a).val) := by
  refine sound_plain (fun args res h => ?_) (fun t n => rfl)
  unfold laws_toVoteS.ans at h
  dsimp only at h
  split at h
  · cases k with
    | zero => cases h
    | succ k =>
      unfold Ans.val at h
      rw [← laws_toVoteS.eq] at h
      exact answer_sound mixed Try.func13 _ _ _ (k + 1) (fun j _ => tab_sound (tab_cons (laws_toVote.sound j) (tab_nil))) _ _ h
  · exact (Ans.no_val h).elim

/-! loop.example/g00790/spec.Views -/
def spec_Views.b {R : Type} (ret : Bool × List Int → Option R) (j0 : Bool → (List Int) → Bool → (List T) → Int → Int → Option R) (j1 : Bool → (List Int) → Int → Bool → (List T) → Int → Int → Int → Int → Bool → (List Int) → Int → Bool → (List Int) → Option R) (j2 : Bool → (List Int) → Int → Bool → (List T) → Int → Int → Int → Int → Bool → (List Int) → Int → Bool → (List Int) → Option R) (j3 : Bool → (List Int) → Int → Bool → (List T) → Int → Int → Int → Int → Bool → (List Int) → Int → Bool → (List Int) → Option R) (k : Nat) (a0z : Bool) (a0 : List T) : Option R :=
  j0 false ([] : List Int) a0z a0 ((a0).length : Int) 0
def spec_Views.l0b {R : Type} (ret : Bool × List Int → Option R) (j0 : Bool → (List Int) → Bool → (List T) → Int → Int → Option R) (j1 : Bool → (List Int) → Int → Bool → (List T) → Int → Int → Int → Int → Bool → (List Int) → Int → Bool → (List Int) → Option R) (j2 : Bool → (List Int) → Int → Bool → (List T) → Int → Int → Int → Int → Bool → (List Int) → Int → Bool → (List Int) → Option R) (j3 : Bool → (List Int) → Int → Bool → (List T) → Int → Int → Int → Int → Bool → (List Int) → Int → Bool → (List Int) → Option R) (k : Nat) (x3z : Bool) (x3 : List Int) (x9z : Bool) (x9 : List T) (x10 : Int) (x11 : Int) : Option R :=
  cond (decide (x11 < x10)) (cond (decide ((0 : Int) ≤ x11)) (cond (decide (x11 < ((x9).length : Int))) (j1 x3z x3 0 x9z x9 x10 x11 (((((x9).getD (x11).toNat .bad).cells.getD 0 .bad)).toInt) (((((x9).getD (x11).toNat .bad).cells.getD 1 .bad)).toInt) (((((x9).getD (x11).toNat .bad).cells.getD 2 .bad)).isNil) (((((x9).getD (x11).toNat .bad).cells.getD 2 .bad)).toNums) (((((x9).getD (x11).toNat .bad).cells.getD 3 .bad)).toInt) (((((x9).getD (x11).toNat .bad).cells.getD 4 .bad)).isNil) (((((x9).getD (x11).toNat .bad).cells.getD 4 .bad)).toNums)) (none)) (none)) (ret (x3z, x3))
def spec_Views.l1b {R : Type} (ret : Bool × List Int → Option R) (j0 : Bool → (List Int) → Bool → (List T) → Int → Int → Option R) (j1 : Bool → (List Int) → Int → Bool → (List T) → Int → Int → Int → Int → Bool → (List Int) → Int → Bool → (List Int) → Option R) (j2 : Bool → (List Int) → Int → Bool → (List T) → Int → Int → Int → Int → Bool → (List Int) → Int → Bool → (List Int) → Option R) (j3 : Bool → (List Int) → Int → Bool → (List T) → Int → Int → Int → Int → Bool → (List Int) → Int → Bool → (List Int) → Option R) (k : Nat) (x3z : Bool) (x3 : List Int) (x6 : Int) (x9z : Bool) (x9 : List T) (x10 : Int) (x11 : Int) (c5_0 : Int) (c5_1 : Int) (c5_2z : Bool) (c5_2 : List Int) (c5_3 : Int) (c5_4z : Bool) (c5_4 : List Int) : Option R :=
  cond (decide (x6 < ((x3).length : Int))) (cond (decide ((0 : Int) ≤ x6)) (cond (decide (x6 < ((x3).length : Int))) (cond (decide ((rdI x3 x6) < c5_0)) (j1 x3z x3 (RowKit.wrap64 (x6 + 1)) x9z x9 x10 x11 c5_0 c5_1 c5_2z c5_2 c5_3 c5_4z c5_4) (j2 x3z x3 x6 x9z x9 x10 x11 c5_0 c5_1 c5_2z c5_2 c5_3 c5_4z c5_4)) (none)) (none)) (j2 x3z x3 x6 x9z x9 x10 x11 c5_0 c5_1 c5_2z c5_2 c5_3 c5_4z c5_4)
def spec_Views.l2b {R : Type} (ret : Bool × List Int → Option R) (j0 : Bool → (List Int) → Bool → (List T) → Int → Int → Option R) (j1 : Bool → (List Int) → Int → Bool → (List T) → Int → Int → Int → Int → Bool → (List Int) → Int → Bool → (List Int) → Option R) (j2 : Bool → (List Int) → Int → Bool → (List T) → Int → Int → Int → Int → Bool → (List Int) → Int → Bool → (List Int) → Option R) (j3 : Bool → (List Int) → Int → Bool → (List T) → Int → Int → Int → Int → Bool → (List Int) → Int → Bool → (List Int) → Option R) (k : Nat) (x3z : Bool) (x3 : List Int) (x6 : Int) (x9z : Bool) (x9 : List T) (x10 : Int) (x11 : Int) (c5_0 : Int) (c5_1 : Int) (c5_2z : Bool) (c5_2 : List Int) (c5_3 : Int) (c5_4z : Bool) (c5_4 : List Int) : Option R :=
  cond (decide (x6 < ((x3).length : Int))) (cond (decide ((0 : Int) ≤ x6)) (cond (decide (x6 < ((x3).length : Int))) (cond (decide ((rdI x3 x6) = c5_0)) (j0 x3z x3 x9z x9 x10 (RowKit.wrap64 (x11 + 1))) (j3 x3z x3 x6 x9z x9 x10 x11 c5_0 c5_1 c5_2z c5_2 c5_3 c5_4z c5_4)) (none)) (none)) (j3 x3z x3 x6 x9z x9 x10 x11 c5_0 c5_1 c5_2z c5_2 c5_3 c5_4z c5_4)
def spec_Views.l3b {R : Type} (ret : Bool × List Int → Option R) (j0 : Bool → (List Int) → Bool → (List T) → Int → Int → Option R) (j1 : Bool → (List Int) → Int → Bool → (List T) → Int → Int → Int → Int → Bool → (List Int) → Int → Bool → (List Int) → Option R) (j2 : Bool → (List Int) → Int → Bool → (List T) → Int → Int → Int → Int → Bool → (List Int) → Int → Bool → (List Int) → Option R) (j3 : Bool → (List Int) → Int → Bool → (List T) → Int → Int → Int → Int → Bool → (List Int) → Int → Bool → (List Int) → Option R) (k : Nat) (x3z : Bool) (x3 : List Int) (x6 : Int) (x9z : Bool) (x9 : List T) (x10 : Int) (x11 : Int) (c5_0 : Int) (c5_1 : Int) (c5_2z : Bool) (c5_2 : List Int) (c5_3 : Int) (c5_4z : Bool) (c5_4 : List Int) : Option R :=
  cond (decide ((0 : Int) ≤ x6)) (cond (decide (x6 ≤ ((x3).length : Int))) (cond (decide ((0 : Int) ≤ x6)) (cond (decide (0 + ((((x3).take (x6).toNat).drop 0)).length < 17592186044416)) (cond (decide (((((x3).take (x6).toNat).drop 0)).length + 1 < 17592186044416)) (cond (decide ((0 : Int) ≤ ((x3).length : Int))) (cond (decide (((x3).length : Int) ≤ ((x3).length : Int))) (cond (decide ((0 : Int) ≤ x6)) (cond (decide (x6 ≤ ((x3).length : Int))) (cond (decide ((((((x3).take (x6).toNat).drop 0) ++ ([c5_0] : List Int))).length + ((((x3).take (x3).length).drop (x6).toNat)).length < 17592186044416)) (j0 (((((x3).take (x3).length).drop (x6).toNat)).isEmpty && false) (((((x3).take (x6).toNat).drop 0) ++ ([c5_0] : List Int)) ++ (((x3).take (x3).length).drop (x6).toNat)) x9z x9 x10 (RowKit.wrap64 (x11 + 1))) (none)) (none)) (none)) (none)) (none)) (none)) (none)) (none)) (none)) (none)
mutual
def spec_Views.l0 : Nat → Bool → (List Int) → Bool → (List T) → Int → Int → Option (Bool × List Int)
  | 0, _, _, _, _, _, _ => none
  | k + 1, x3z, x3, x9z, x9, x10, x11 => spec_Views.l0b some (spec_Views.l0 k) (spec_Views.l1 k) (spec_Views.l2 k) (spec_Views.l3 k) k x3z x3 x9z x9 x10 x11
def spec_Views.l1 : Nat → Bool → (List Int) → Int → Bool → (List T) → Int → Int → Int → Int → Bool → (List Int) → Int → Bool → (List Int) → Option (Bool × List Int)
  | 0, _, _, _, _, _, _, _, _, _, _, _, _, _, _ => none
  | k + 1, x3z, x3, x6, x9z, x9, x10, x11, c5_0, c5_1, c5_2z, c5_2, c5_3, c5_4z, c5_4 => spec_Views.l1b some (spec_Views.l0 k) (spec_Views.l1 k) (spec_Views.l2 k) (spec_Views.l3 k) k x3z x3 x6 x9z x9 x10 x11 c5_0 c5_1 c5_2z c5_2 c5_3 c5_4z c5_4
def spec_Views.l2 : Nat → Bool → (List Int) → Int → Bool → (List T) → Int → Int → Int → Int → Bool → (List Int) → Int → Bool → (List Int) → Option (Bool × List Int)
  | 0, _, _, _, _, _, _, _, _, _, _, _, _, _, _ => none
  | k + 1, x3z, x3, x6, x9z, x9, x10, x11, c5_0, c5_1, c5_2z, c5_2, c5_3, c5_4z, c5_4 => spec_Views.l2b some (spec_Views.l0 k) (spec_Views.l1 k) (spec_Views.l2 k) (spec_Views.l3 k) k x3z x3 x6 x9z x9 x10 x11 c5_0 c5_1 c5_2z c5_2 c5_3 c5_4z c5_4
def spec_Views.l3 : Nat → Bool → (List Int) → Int → Bool → (List T) → Int → Int → Int → Int → Bool → (List Int) → Int → Bool → (List Int) → Option (Bool × List Int)
  | 0, _, _, _, _, _, _, _, _, _, _, _, _, _, _ => none
  | k + 1, x3z, x3, x6, x9z, x9, x10, x11, c5_0, c5_1, c5_2z, c5_2, c5_3, c5_4z, c5_4 => spec_Views.l3b some (spec_Views.l0 k) (spec_Views.l1 k) (spec_Views.l2 k) (spec_Views.l3 k) k x3z x3 x6 x9z x9 x10 x11 c5_0 c5_1 c5_2z c5_2 c5_3 c5_4z c5_4
end
def spec_Views.f : Nat → Bool → (List T) → Option (Bool × List Int)
  | 0, _, _ => none
  | k + 1, a0z, a0 => spec_Views.b some (spec_Views.l0 k) (spec_Views.l1 k) (spec_Views.l2 k) (spec_Views.l3 k) k a0z a0
def spec_Views.enc (r : Bool × List Int) : Res := ⟨[.vals false [((.nums 3 .i64 r.1 r.2), true)]], []⟩
def spec_Views.ans (k : Nat) : List Arg → Ans
  | [.v (.sl 33 a0z a0)] => ⟨spec_Views.f k a0z a0, spec_Views.enc⟩
  | _ => Ans.no
def spec_Views.Cs (k : Nat) : CallSem := tab []
def spec_Views.cuts : List (Nat × Keep) := [(58, ⟨[(3, none), (9, some []), (10, some []), (11, some [])], []⟩), (29900, ⟨[(3, none), (5, some []), (6, some []), (9, some []), (10, some []), (11, some [])], [(5, [some [], some [], some [], some [], some []])]⟩), (7475, ⟨[(3, none), (5, some []), (6, some []), (9, some []), (10, some []), (11, some [])], [(5, [some [], some [], some [], some [], some []])]⟩), (14951, ⟨[(3, none), (5, some []), (6, some []), (9, some []), (10, some []), (11, some [])], [(5, [some [], some [], some [], some [], some []])]⟩)]
noncomputable def spec_Views.K0 : List Fr := framesAt [true, true, false, true, false] (bodyOf Try.f12 spec_Views.cuts) []
def spec_Views.N0 (x3z : Bool) (x3 : List Int) (x9z : Bool) (x9 : List T) (x10 : Int) (x11 : Int) : St := stOf 60 60 1 [(3, .val ⟨(.nums 3 .i64 x3z x3), [.l 3 0], true, some (.l 3 0)⟩), (9, .val ⟨(.sl 33 x9z x9), [], false, none⟩), (10, .val (V.s (.int .i64 x10))), (11, .val (V.s (.int .i64 x11)))] []
noncomputable def spec_Views.K1 : List Fr := framesAt [true, true, false, true, false, false, true, true, false, false, true, true, false, false] (bodyOf Try.f12 spec_Views.cuts) []
def spec_Views.N1 (x3z : Bool) (x3 : List Int) (x6 : Int) (x9z : Bool) (x9 : List T) (x10 : Int) (x11 : Int) (c5_0 : Int) (c5_1 : Int) (c5_2z : Bool) (c5_2 : List Int) (c5_3 : Int) (c5_4z : Bool) (c5_4 : List Int) : St := stOf 60 60 1 [(3, .val ⟨(.nums 3 .i64 x3z x3), [.l 3 0], true, some (.l 3 0)⟩), (5, .bp 5 0), (6, .val (V.s (.int .i64 x6))), (9, .val ⟨(.sl 33 x9z x9), [], false, none⟩), (10, .val (V.s (.int .i64 x10))), (11, .val (V.s (.int .i64 x11)))] [(5, .cells [V.s (.int .i64 c5_0), V.s (.int .i64 c5_1), ⟨(.nums 5 .u8 c5_2z c5_2), [], false, none⟩, V.s (.int .i64 c5_3), ⟨(.nums 5 .u8 c5_4z c5_4), [], false, none⟩])]
noncomputable def spec_Views.K2 : List Fr := framesAt [true, true, false, true, false, false, true, true, false, false, true, true] (bodyOf Try.f12 spec_Views.cuts) []
def spec_Views.N2 (x3z : Bool) (x3 : List Int) (x6 : Int) (x9z : Bool) (x9 : List T) (x10 : Int) (x11 : Int) (c5_0 : Int) (c5_1 : Int) (c5_2z : Bool) (c5_2 : List Int) (c5_3 : Int) (c5_4z : Bool) (c5_4 : List Int) : St := stOf 60 60 1 [(3, .val ⟨(.nums 3 .i64 x3z x3), [.l 3 0], true, some (.l 3 0)⟩), (5, .bp 5 0), (6, .val (V.s (.int .i64 x6))), (9, .val ⟨(.sl 33 x9z x9), [], false, none⟩), (10, .val (V.s (.int .i64 x10))), (11, .val (V.s (.int .i64 x11)))] [(5, .cells [V.s (.int .i64 c5_0), V.s (.int .i64 c5_1), ⟨(.nums 5 .u8 c5_2z c5_2), [], false, none⟩, V.s (.int .i64 c5_3), ⟨(.nums 5 .u8 c5_4z c5_4), [], false, none⟩])]
noncomputable def spec_Views.K3 : List Fr := framesAt [true, true, false, true, false, false, true, true, false, false, true, true, true] (bodyOf Try.f12 spec_Views.cuts) []
def spec_Views.N3 (x3z : Bool) (x3 : List Int) (x6 : Int) (x9z : Bool) (x9 : List T) (x10 : Int) (x11 : Int) (c5_0 : Int) (c5_1 : Int) (c5_2z : Bool) (c5_2 : List Int) (c5_3 : Int) (c5_4z : Bool) (c5_4 : List Int) : St := stOf 60 60 1 [(3, .val ⟨(.nums 3 .i64 x3z x3), [.l 3 0], true, some (.l 3 0)⟩), (5, .bp 5 0), (6, .val (V.s (.int .i64 x6))), (9, .val ⟨(.sl 33 x9z x9), [], false, none⟩), (10, .val (V.s (.int .i64 x10))), (11, .val (V.s (.int .i64 x11)))] [(5, .cells [V.s (.int .i64 c5_0), V.s (.int .i64 c5_1), ⟨(.nums 5 .u8 c5_2z c5_2), [], false, none⟩, V.s (.int .i64 c5_3), ⟨(.nums 5 .u8 c5_4z c5_4), [], false, none⟩])]
theorem spec_Views.s (k : Nat) (a0z : Bool) (a0 : List T) : answer Try.prog spec_Views.Cs 100000 spec_Views.cuts [] Try.f12 (k + 1) [.v (.sl 33 a0z a0)] = spec_Views.b (fun r => some (spec_Views.enc r)) (fun x3z x3 x9z x9 x10 x11 => rounds Try.prog spec_Views.Cs (finish Try.prog [] Try.f12 [.v (.sl 33 a0z a0)]) 100000 k spec_Views.K0 (spec_Views.N0 x3z x3 x9z x9 x10 x11)) (fun x3z x3 x6 x9z x9 x10 x11 c5_0 c5_1 c5_2z c5_2 c5_3 c5_4z c5_4 => rounds Try.prog spec_Views.Cs (finish Try.prog [] Try.f12 [.v (.sl 33 a0z a0)]) 100000 k spec_Views.K1 (spec_Views.N1 x3z x3 x6 x9z x9 x10 x11 c5_0 c5_1 c5_2z c5_2 c5_3 c5_4z c5_4)) (fun x3z x3 x6 x9z x9 x10 x11 c5_0 c5_1 c5_2z c5_2 c5_3 c5_4z c5_4 => rounds Try.prog spec_Views.Cs (finish Try.prog [] Try.f12 [.v (.sl 33 a0z a0)]) 100000 k spec_Views.K2 (spec_Views.N2 x3z x3 x6 x9z x9 x10 x11 c5_0 c5_1 c5_2z c5_2 c5_3 c5_4z c5_4)) (fun x3z x3 x6 x9z x9 x10 x11 c5_0 c5_1 c5_2z c5_2 c5_3 c5_4z c5_4 => rounds Try.prog spec_Views.Cs (finish Try.prog [] Try.f12 [.v (.sl 33 a0z a0)]) 100000 k spec_Views.K3 (spec_Views.N3 x3z x3 x6 x9z x9 x10 x11 c5_0 c5_1 c5_2z c5_2 c5_3 c5_4z c5_4)) k a0z a0 := by kernel_rfl
theorem spec_Views.s0 (k : Nat) (G : List Fr → St → Option Res) (a0z : Bool) (a0 : List T) (yx3z : Bool) (yx3 : List Int) (yx9z : Bool) (yx9 : List T) (yx10 : Int) (yx11 : Int) : resume Try.prog (spec_Views.Cs k) G (finish Try.prog [] Try.f12 [.v (.sl 33 a0z a0)]) 100000 spec_Views.K0 (spec_Views.N0 yx3z yx3 yx9z yx9 yx10 yx11) = spec_Views.l0b (fun r => some (spec_Views.enc r)) (fun x3z x3 x9z x9 x10 x11 => G spec_Views.K0 (spec_Views.N0 x3z x3 x9z x9 x10 x11)) (fun x3z x3 x6 x9z x9 x10 x11 c5_0 c5_1 c5_2z c5_2 c5_3 c5_4z c5_4 => G spec_Views.K1 (spec_Views.N1 x3z x3 x6 x9z x9 x10 x11 c5_0 c5_1 c5_2z c5_2 c5_3 c5_4z c5_4)) (fun x3z x3 x6 x9z x9 x10 x11 c5_0 c5_1 c5_2z c5_2 c5_3 c5_4z c5_4 => G spec_Views.K2 (spec_Views.N2 x3z x3 x6 x9z x9 x10 x11 c5_0 c5_1 c5_2z c5_2 c5_3 c5_4z c5_4)) (fun x3z x3 x6 x9z x9 x10 x11 c5_0 c5_1 c5_2z c5_2 c5_3 c5_4z c5_4 => G spec_Views.K3 (spec_Views.N3 x3z x3 x6 x9z x9 x10 x11 c5_0 c5_1 c5_2z c5_2 c5_3 c5_4z c5_4)) k yx3z yx3 yx9z yx9 yx10 yx11 := by kernel_rfl
theorem spec_Views.s1 (k : Nat) (G : List Fr → St → Option Res) (a0z : Bool) (a0 : List T) (yx3z : Bool) (yx3 : List Int) (yx6 : Int) (yx9z : Bool) (yx9 : List T) (yx10 : Int) (yx11 : Int) (yc5_0 : Int) (yc5_1 : Int) (yc5_2z : Bool) (yc5_2 : List Int) (yc5_3 : Int) (yc5_4z : Bool) (yc5_4 : List Int) : resume Try.prog (spec_Views.Cs k) G (finish Try.prog [] Try.f12 [.v (.sl 33 a0z a0)]) 100000 spec_Views.K1 (spec_Views.N1 yx3z yx3 yx6 yx9z yx9 yx10 yx11 yc5_0 yc5_1 yc5_2z yc5_2 yc5_3 yc5_4z yc5_4) = spec_Views.l1b (fun r => some (spec_Views.enc r)) (fun x3z x3 x9z x9 x10 x11 => G spec_Views.K0 (spec_Views.N0 x3z x3 x9z x9 x10 x11)) (fun x3z x3 x6 x9z x9 x10 x11 c5_0 c5_1 c5_2z c5_2 c5_3 c5_4z c5_4 => G spec_Views.K1 (spec_Views.N1 x3z x3 x6 x9z x9 x10 x11 c5_0 c5_1 c5_2z c5_2 c5_3 c5_4z c5_4)) (fun x3z x3 x6 x9z x9 x10 x11 c5_0 c5_1 c5_2z c5_2 c5_3 c5_4z c5_4 => G spec_Views.K2 (spec_Views.N2 x3z x3 x6 x9z x9 x10 x11 c5_0 c5_1 c5_2z c5_2 c5_3 c5_4z c5_4)) (fun x3z x3 x6 x9z x9 x10 x11 c5_0 c5_1 c5_2z c5_2 c5_3 c5_4z c5_4 => G spec_Views.K3 (spec_Views.N3 x3z x3 x6 x9z x9 x10 x11 c5_0 c5_1 c5_2z c5_2 c5_3 c5_4z c5_4)) k yx3z yx3 yx6 yx9z yx9 yx10 yx11 yc5_0 yc5_1 yc5_2z yc5_2 yc5_3 yc5_4z yc5_4 := by kernel_rfl
theorem spec_Views.s2 (k : Nat) (G : List Fr → St → Option Res) (a0z : Bool) (a0 : List T) (yx3z : Bool) (yx3 : List Int) (yx6 : Int) (yx9z : Bool) (yx9 : List T) (yx10 : Int) (yx11 : Int) (yc5_0 : Int) (yc5_1 : Int) (yc5_2z : Bool) (yc5_2 : List Int) (yc5_3 : Int) (yc5_4z : Bool) (yc5_4 : List Int) : resume Try.prog (spec_Views.Cs k) G (finish Try.prog [] Try.f12 [.v (.sl 33 a0z a0)]) 100000 spec_Views.K2 (spec_Views.N2 yx3z yx3 yx6 yx9z yx9 yx10 yx11 yc5_0 yc5_1 yc5_2z yc5_2 yc5_3 yc5_4z yc5_4) = spec_Views.l2b (fun r => some (spec_Views.enc r)) (fun x3z x3 x9z x9 x10 x11 => G spec_Views.K0 (spec_Views.N0 x3z x3 x9z x9 x10 x11)) (fun x3z x3 x6 x9z x9 x10 x11 c5_0 c5_1 c5_2z c5_2 c5_3 c5_4z c5_4 => G spec_Views.K1 (spec_Views.N1 x3z x3 x6 x9z x9 x10 x11 c5_0 c5_1 c5_2z c5_2 c5_3 c5_4z c5_4)) (fun x3z x3 x6 x9z x9 x10 x11 c5_0 c5_1 c5_2z c5_2 c5_3 c5_4z c5_4 => G spec_Views.K2 (spec_Views.N2 x3z x3 x6 x9z x9 x10 x11 c5_0 c5_1 c5_2z c5_2 c5_3 c5_4z c5_4)) (fun x3z x3 x6 x9z x9 x10 x11 c5_0 c5_1 c5_2z c5_2 c5_3 c5_4z c5_4 => G spec_Views.K3 (spec_Views.N3 x3z x3 x6 x9z x9 x10 x11 c5_0 c5_1 c5_2z c5_2 c5_3 c5_4z c5_4)) k yx3z yx3 yx6 yx9z yx9 yx10 yx11 yc5_0 yc5_1 yc5_2z yc5_2 yc5_3 yc5_4z yc5_4 := by kernel_rfl
theorem spec_Views.s3 (k : Nat) (G : List Fr → St → Option Res) (a0z : Bool) (a0 : List T) (yx3z : Bool) (yx3 : List Int) (yx6 : Int) (yx9z : Bool) (yx9 : List T) (yx10 : Int) (yx11 : Int) (yc5_0 : Int) (yc5_1 : Int) (yc5_2z : Bool) (yc5_2 : List Int) (yc5_3 : Int) (yc5_4z : Bool) (yc5_4 : List Int) : resume Try.prog (spec_Views.Cs k) G (finish Try.prog [] Try.f12 [.v (.sl 33 a0z a0)]) 100000 spec_Views.K3 (spec_Views.N3 yx3z yx3 yx6 yx9z yx9 yx10 yx11 yc5_0 yc5_1 yc5_2z yc5_2 yc5_3 yc5_4z yc5_4) = spec_Views.l3b (fun r => some (spec_Views.enc r)) (fun x3z x3 x9z x9 x10 x11 => G spec_Views.K0 (spec_Views.N0 x3z x3 x9z x9 x10 x11)) (fun x3z x3 x6 x9z x9 x10 x11 c5_0 c5_1 c5_2z c5_2 c5_3 c5_4z c5_4 => G spec_Views.K1 (spec_Views.N1 x3z x3 x6 x9z x9 x10 x11 c5_0 c5_1 c5_2z c5_2 c5_3 c5_4z c5_4)) (fun x3z x3 x6 x9z x9 x10 x11 c5_0 c5_1 c5_2z c5_2 c5_3 c5_4z c5_4 => G spec_Views.K2 (spec_Views.N2 x3z x3 x6 x9z x9 x10 x11 c5_0 c5_1 c5_2z c5_2 c5_3 c5_4z c5_4)) (fun x3z x3 x6 x9z x9 x10 x11 c5_0 c5_1 c5_2z c5_2 c5_3 c5_4z c5_4 => G spec_Views.K3 (spec_Views.N3 x3z x3 x6 x9z x9 x10 x11 c5_0 c5_1 c5_2z c5_2 c5_3 c5_4z c5_4)) k yx3z yx3 yx6 yx9z yx9 yx10 yx11 yc5_0 yc5_1 yc5_2z yc5_2 yc5_3 yc5_4z yc5_4 := by kernel_rfl
theorem spec_Views.b_nat {R R' : Type} (e : R → R') (ret : Bool × List Int → Option R) (j0 : Bool → (List Int) → Bool → (List T) → Int → Int → Option R) (j1 : Bool → (List Int) → Int → Bool → (List T) → Int → Int → Int → Int → Bool → (List Int) → Int → Bool → (List Int) → Option R) (j2 : Bool → (List Int) → Int → Bool → (List T) → Int → Int → Int → Int → Bool → (List Int) → Int → Bool → (List Int) → Option R) (j3 : Bool → (List Int) → Int → Bool → (List T) → Int → Int → Int → Int → Bool → (List Int) → Int → Bool → (List Int) → Option R) (k : Nat) (a0z : Bool) (a0 : List T) : spec_Views.b (fun r => (ret r).map e) (fun x3z x3 x9z x9 x10 x11 => (j0 x3z x3 x9z x9 x10 x11).map e) (fun x3z x3 x6 x9z x9 x10 x11 c5_0 c5_1 c5_2z c5_2 c5_3 c5_4z c5_4 => (j1 x3z x3 x6 x9z x9 x10 x11 c5_0 c5_1 c5_2z c5_2 c5_3 c5_4z c5_4).map e) (fun x3z x3 x6 x9z x9 x10 x11 c5_0 c5_1 c5_2z c5_2 c5_3 c5_4z c5_4 => (j2 x3z x3 x6 x9z x9 x10 x11 c5_0 c5_1 c5_2z c5_2 c5_3 c5_4z c5_4).map e) (fun x3z x3 x6 x9z x9 x10 x11 c5_0 c5_1 c5_2z c5_2 c5_3 c5_4z c5_4 => (j3 x3z x3 x6 x9z x9 x10 x11 c5_0 c5_1 c5_2z c5_2 c5_3 c5_4z c5_4).map e) k a0z a0 = (spec_Views.b ret j0 j1 j2 j3 k a0z a0).map e := by
  unfold spec_Views.b
  repeat' first | with_reducible refine nat_cond ?_ ?_ | with_reducible refine nat_bind fun _ => ?_ | rfl
theorem spec_Views.l0b_nat {R R' : Type} (e : R → R') (ret : Bool × List Int → Option R) (j0 : Bool → (List Int) → Bool → (List T) → Int → Int → Option R) (j1 : Bool → (List Int) → Int → Bool → (List T) → Int → Int → Int → Int → Bool → (List Int) → Int → Bool → (List Int) → Option R) (j2 : Bool → (List Int) → Int → Bool → (List T) → Int → Int → Int → Int → Bool → (List Int) → Int → Bool → (List Int) → Option R) (j3 : Bool → (List Int) → Int → Bool → (List T) → Int → Int → Int → Int → Bool → (List Int) → Int → Bool → (List Int) → Option R) (k : Nat) (x3z : Bool) (x3 : List Int) (x9z : Bool) (x9 : List T) (x10 : Int) (x11 : Int) : spec_Views.l0b (fun r => (ret r).map e) (fun x3z x3 x9z x9 x10 x11 => (j0 x3z x3 x9z x9 x10 x11).map e) (fun x3z x3 x6 x9z x9 x10 x11 c5_0 c5_1 c5_2z c5_2 c5_3 c5_4z c5_4 => (j1 x3z x3 x6 x9z x9 x10 x11 c5_0 c5_1 c5_2z c5_2 c5_3 c5_4z c5_4).map e) (fun x3z x3 x6 x9z x9 x10 x11 c5_0 c5_1 c5_2z c5_2 c5_3 c5_4z c5_4 => (j2 x3z x3 x6 x9z x9 x10 x11 c5_0 c5_1 c5_2z c5_2 c5_3 c5_4z c5_4).map e) (fun x3z x3 x6 x9z x9 x10 x11 c5_0 c5_1 c5_2z c5_2 c5_3 c5_4z c5_4 => (j3 x3z x3 x6 x9z x9 x10 x11 c5_0 c5_1 c5_2z c5_2 c5_3 c5_4z c5_4).map e) k x3z x3 x9z x9 x10 x11 = (spec_Views.l0b ret j0 j1 j2 j3 k x3z x3 x9z x9 x10 x11).map e := by
  unfold spec_Views.l0b
  repeat' first | with_reducible refine nat_cond ?_ ?_ | with_reducible refine nat_bind fun _ => ?_ | rfl
theorem spec_Views.l1b_nat {R R' : Type} (e : R → R') (ret : Bool × List Int → Option R) (j0 : Bool → (List Int) → Bool → (List T) → Int → Int → Option R) (j1 : Bool → (List Int) → Int → Bool → (List T) → Int → Int → Int → Int → Bool → (List Int) → Int → Bool → (List Int) → Option R) (j2 : Bool → (List Int) → Int → Bool → (List T) → Int → Int → Int → Int → Bool → (List Int) → Int → Bool → (List Int) → Option R) (j3 : Bool → (List Int) → Int → Bool → (List T) → Int → Int → Int → Int → Bool → (List Int) → Int → Bool → (List Int) → Option R) (k : Nat) (x3z : Bool) (x3 : List Int) (x6 : Int) (x9z : Bool) (x9 : List T) (x10 : Int) (x11 : Int) (c5_0 : Int) (c5_1 : Int) (c5_2z : Bool) (c5_2 : List Int) (c5_3 : Int) (c5_4z : Bool) (c5_4 : List Int) : spec_Views.l1b (fun r => (ret r).map e) (fun x3z x3 x9z x9 x10 x11 => (j0 x3z x3 x9z x9 x10 x11).map e) (fun x3z x3 x6 x9z x9 x10 x11 c5_0 c5_1 c5_2z c5_2 c5_3 c5_4z c5_4 => (j1 x3z x3 x6 x9z x9 x10 x11 c5_0 c5_1 c5_2z c5_2 c5_3 c5_4z c5_4).map e) (fun x3z x3 x6 x9z x9 x10 x11 c5_0 c5_1 c5_2z c5_2 c5_3 c5_4z c5_4 => (j2 x3z x3 x6 x9z x9 x10 x11 c5_0 c5_1 c5_2z c5_2 c5_3 c5_4z c5_4).map e) (fun x3z x3 x6 x9z x9 x10 x11 c5_0 c5_1 c5_2z c5_2 c5_3 c5_4z c5_4 => (j3 x3z x3 x6 x9z x9 x10 x11 c5_0 c5_1 c5_2z c5_2 c5_3 c5_4z c5_4).map e) k x3z x3 x6 x9z x9 x10 x11 c5_0 c5_1 c5_2z c5_2 c5_3 c5_4z c5_4 = (spec_Views.l1b ret j0 j1 j2 j3 k x3z x3 x6 x9z x9 x10 x11 c5_0 c5_1 c5_2z c5_2 c5_3 c5_4z c5_4).map e := by
  unfold spec_Views.l1b
  repeat' first | with_reducible refine nat_cond ?_ ?_ | with_reducible refine nat_bind fun _ => ?_ | rfl
theorem spec_Views.l2b_nat {R R' : Type} (e : R → R') (ret : Bool × List Int → Option R) (j0 : Bool → (List Int) → Bool → (List T) → Int → Int → Option R) (j1 : Bool → (List Int) → Int → Bool → (List T) → Int → Int → Int → Int → Bool → (List Int) → Int → Bool → (List Int) → Option R) (j2 : Bool → (List Int) → Int → Bool → (List T) → Int → Int → Int → Int → Bool → (List Int) → Int → Bool → (List Int) → Option R) (j3 : Bool → (List Int) → Int → Bool → (List T) → Int → Int → Int → Int → Bool → (List Int) → Int → Bool → (List Int) → Option R) (k : Nat) (x3z : Bool) (x3 : List Int) (x6 : Int) (x9z : Bool) (x9 : List T) (x10 : Int) (x11 : Int) (c5_0 : Int) (c5_1 : Int) (c5_2z : Bool) (c5_2 : List Int) (c5_3 : Int) (c5_4z : Bool) (c5_4 : List Int) : spec_Views.l2b (fun r => (ret r).map e) (fun x3z x3 x9z x9 x10 x11 => (j0 x3z x3 x9z x9 x10 x11).map e) (fun x3z x3 x6 x9z x9 x10 x11 c5_0 c5_1 c5_2z c5_2 c5_3 c5_4z c5_4 => (j1 x3z x3 x6 x9z x9 x10 x11 c5_0 c5_1 c5_2z c5_2 c5_3 c5_4z c5_4).map e) (fun x3z x3 x6 x9z x9 x10 x11 c5_0 c5_1 c5_2z c5_2 c5_3 c5_4z c5_4 => (j2 x3z x3 x6 x9z x9 x10 x11 c5_0 c5_1 c5_2z c5_2 c5_3 c5_4z c5_4).map e) (fun x3z x3 x6 x9z x9 x10 x11 c5_0 c5_1 c5_2z c5_2 c5_3 c5_4z c5_4 => (j3 x3z x3 x6 x9z x9 x10 x11 c5_0 c5_1 c5_2z c5_2 c5_3 c5_4z c5_4).map e) k x3z x3 x6 x9z x9 x10 x11 c5_0 c5_1 c5_2z c5_2 c5_3 c5_4z c5_4 = (spec_Views.l2b ret j0 j1 j2 j3 k x3z x3 x6 x9z x9 x10 x11 c5_0 c5_1 c5_2z c5_2 c5_3 c5_4z c5_4).map e := by
  unfold spec_Views.l2b
  repeat' first | with_reducible refine nat_cond ?_ ?_ | with_reducible refine nat_bind fun _ => ?_ | rfl
theorem spec_Views.l3b_nat {R R' : Type} (e : R → R') (ret : Bool × List Int → Option R) (j0 : Bool → (List Int) → Bool → (List T) → Int → Int → Option R) (j1 : Bool → (List Int) → Int → Bool → (List T) → Int → Int → Int → Int → Bool → (List Int) → Int → Bool → (List Int) → Option R) (j2 : Bool → (List Int) → Int → Bool → (List T) → Int → Int → Int → Int → Bool → (List Int) → Int → Bool → (List Int) → Option R) (j3 : Bool → (List Int) → Int → Bool → (List T) → Int → Int → Int → Int → Bool → (List Int) → Int → Bool → (List Int) → Option R) (k : Nat) (x3z : Bool) (x3 : List Int) (x6 : Int) (x9z : Bool) (x9 : List T) (x10 : Int) (x11 : Int) (c5_0 : Int) (c5_1 : Int) (c5_2z : Bool) (c5_2 : List Int) (c5_3 : Int) (c5_4z : Bool) (c5_4 : List Int) : spec_Views.l3b (fun r => (ret r).map e) (fun x3z x3 x9z x9 x10 x11 => (j0 x3z x3 x9z x9 x10 x11).map e) (fun x3z x3 x6 x9z x9 x10 x11 c5_0 c5_1 c5_2z c5_2 c5_3 c5_4z c5_4 => (j1 x3z x3 x6 x9z x9 x10 x11 c5_0 c5_1 c5_2z c5_2 c5_3 c5_4z c5_4).map e) (fun x3z x3 x6 x9z x9 x10 x11 c5_0 c5_1 c5_2z c5_2 c5_3 c5_4z c5_4 => (j2 x3z x3 x6 x9z x9 x10 x11 c5_0 c5_1 c5_2z c5_2 c5_3 c5_4z c5_4).map e) (fun x3z x3 x6 x9z x9 x10 x11 c5_0 c5_1 c5_2z c5_2 c5_3 c5_4z c5_4 => (j3 x3z x3 x6 x9z x9 x10 x11 c5_0 c5_1 c5_2z c5_2 c5_3 c5_4z c5_4).map e) k x3z x3 x6 x9z x9 x10 x11 c5_0 c5_1 c5_2z c5_2 c5_3 c5_4z c5_4 = (spec_Views.l3b ret j0 j1 j2 j3 k x3z x3 x6 x9z x9 x10 x11 c5_0 c5_1 c5_2z c5_2 c5_3 c5_4z c5_4).map e := by
  unfold spec_Views.l3b
  repeat' first | with_reducible refine nat_cond ?_ ?_ | with_reducible refine nat_bind fun _ => ?_ | rfl
theorem spec_Views.rounds_eq (a0z : Bool) (a0 : List T) : ∀ k, (∀ (x3z : Bool) (x3 : List Int) (x9z : Bool) (x9 : List T) (x10 : Int) (x11 : Int), rounds Try.prog spec_Views.Cs (finish Try.prog [] Try.f12 [.v (.sl 33 a0z a0)]) 100000 k spec_Views.K0 (spec_Views.N0 x3z x3 x9z x9 x10 x11) = (spec_Views.l0 k x3z x3 x9z x9 x10 x11).map spec_Views.enc) ∧ (∀ (x3z : Bool) (x3 : List Int) (x6 : Int) (x9z : Bool) (x9 : List T) (x10 : Int) (x11 : Int) (c5_0 : Int) (c5_1 : Int) (c5_2z : Bool) (c5_2 : List Int) (c5_3 : Int) (c5_4z : Bool) (c5_4 : List Int), rounds Try.prog spec_Views.Cs (finish Try.prog [] Try.f12 [.v (.sl 33 a0z a0)]) 100000 k spec_Views.K1 (spec_Views.N1 x3z x3 x6 x9z x9 x10 x11 c5_0 c5_1 c5_2z c5_2 c5_3 c5_4z c5_4) = (spec_Views.l1 k x3z x3 x6 x9z x9 x10 x11 c5_0 c5_1 c5_2z c5_2 c5_3 c5_4z c5_4).map spec_Views.enc) ∧ (∀ (x3z : Bool) (x3 : List Int) (x6 : Int) (x9z : Bool) (x9 : List T) (x10 : Int) (x11 : Int) (c5_0 : Int) (c5_1 : Int) (c5_2z : Bool) (c5_2 : List Int) (c5_3 : Int) (c5_4z : Bool) (c5_4 : List Int), rounds Try.prog spec_Views.Cs (finish Try.prog [] Try.f12 [.v (.sl 33 a0z a0)]) 100000 k spec_Views.K2 (spec_Views.N2 x3z x3 x6 x9z x9 x10 x11 c5_0 c5_1 c5_2z c5_2 c5_3 c5_4z c5_4) = (spec_Views.l2 k x3z x3 x6 x9z x9 x10 x11 c5_0 c5_1 c5_2z c5_2 c5_3 c5_4z c5_4).map spec_Views.enc) ∧ (∀ (x3z : Bool) (x3 : List Int) (x6 : Int) (x9z : Bool) (x9 : List T) (x10 : Int) (x11 : Int) (c5_0 : Int) (c5_1 : Int) (c5_2z : Bool) (c5_2 : List Int) (c5_3 : Int) (c5_4z : Bool) (c5_4 : List Int), rounds Try.prog spec_Views.Cs (finish Try.prog [] Try.f12 [.v (.sl 33 a0z a0)]) 100000 k spec_Views.K3 (spec_Views.N3 x3z x3 x6 x9z x9 x10 x11 c5_0 c5_1 c5_2z c5_2 c5_3 c5_4z c5_4) = (spec_Views.l3 k x3z x3 x6 x9z x9 x10 x11 c5_0 c5_1 c5_2z c5_2 c5_3 c5_4z c5_4).map spec_Views.enc)
  | 0 => ⟨fun _ _ _ _ _ _ => rfl, fun _ _ _ _ _ _ _ _ _ _ _ _ _ _ => rfl, fun _ _ _ _ _ _ _ _ _ _ _ _ _ _ => rfl, fun _ _ _ _ _ _ _ _ _ _ _ _ _ _ => rfl⟩
  | k + 1 => by
    have ih := spec_Views.rounds_eq a0z a0 k
    refine ⟨fun _ _ _ _ _ _ => ?_, fun _ _ _ _ _ _ _ _ _ _ _ _ _ _ => ?_, fun _ _ _ _ _ _ _ _ _ _ _ _ _ _ => ?_, fun _ _ _ _ _ _ _ _ _ _ _ _ _ _ => ?_⟩
    · refine (spec_Views.s0 k _ a0z a0 _ _ _ _ _ _).trans (Eq.trans ?_ (spec_Views.l0b_nat spec_Views.enc some (spec_Views.l0 k) (spec_Views.l1 k) (spec_Views.l2 k) (spec_Views.l3 k) k _ _ _ _ _ _))
      simp only [ih.1, ih.2.1, ih.2.2.1, ih.2.2.2, Option.map_some]
    · refine (spec_Views.s1 k _ a0z a0 _ _ _ _ _ _ _ _ _ _ _ _ _ _).trans (Eq.trans ?_ (spec_Views.l1b_nat spec_Views.enc some (spec_Views.l0 k) (spec_Views.l1 k) (spec_Views.l2 k) (spec_Views.l3 k) k _ _ _ _ _ _ _ _ _ _ _ _ _ _))
      simp only [ih.1, ih.2.1, ih.2.2.1, ih.2.2.2, Option.map_some]
    · refine (spec_Views.s2 k _ a0z a0 _ _ _ _ _ _ _ _ _ _ _ _ _ _).trans (Eq.trans ?_ (spec_Views.l2b_nat spec_Views.enc some (spec_Views.l0 k) (spec_Views.l1 k) (spec_Views.l2 k) (spec_Views.l3 k) k _ _ _ _ _ _ _ _ _ _ _ _ _ _))
      simp only [ih.1, ih.2.1, ih.2.2.1, ih.2.2.2, Option.map_some]
    · refine (spec_Views.s3 k _ a0z a0 _ _ _ _ _ _ _ _ _ _ _ _ _ _).trans (Eq.trans ?_ (spec_Views.l3b_nat spec_Views.enc some (spec_Views.l0 k) (spec_Views.l1 k) (spec_Views.l2 k) (spec_Views.l3 k) k _ _ _ _ _ _ _ _ _ _ _ _ _ _))
      simp only [ih.1, ih.2.1, ih.2.2.1, ih.2.2.2, Option.map_some]
theorem spec_Views.eq (k : Nat) (a0z : Bool) (a0 : List T) : answer Try.prog spec_Views.Cs 100000 spec_Views.cuts [] Try.f12 (k + 1) [.v (.sl 33 a0z a0)] = (spec_Views.f (k + 1) a0z a0).map spec_Views.enc := by
  have ih := spec_Views.rounds_eq a0z a0 k
  refine (spec_Views.s k a0z a0).trans (Eq.trans ?_ (spec_Views.b_nat spec_Views.enc some (spec_Views.l0 k) (spec_Views.l1 k) (spec_Views.l2 k) (spec_Views.l3 k) k a0z a0))
  simp only [ih.1, ih.2.1, ih.2.2.1, ih.2.2.2, Option.map_some]
theorem spec_Views.sound (k : Nat) : SoundF Try.prog 12 (fun a => (spec_Views.ans k a).val) := by
  refine sound_plain (fun args res h => ?_) (fun t n => rfl)
  unfold spec_Views.ans at h
  dsimp only at h
  split at h
  · cases k with
    | zero => cases h
    | succ k =>
      unfold Ans.val at h
      rw [← spec_Views.eq] at h
      exact answer_sound mixed Try.func12 _ _ _ (k + 1) (fun j _ => tab_sound (tab_nil)) _ _ h
  · exact (Ans.no_val h).elim

/-! slices_Sort__intint -/
def slices_Sort__intint.f (k : Nat) (a0z : Bool) (a0 : List Int) : Option (Bool × List Int) := cond (sortOk a0) (some (a0z, sortI a0)) none
def slices_Sort__intint.enc (r : Bool × List Int) : Res := ⟨[], [[((.nums 3 .i64 r.1 r.2), true)]]⟩
def slices_Sort__intint.ans (k : Nat) : List Arg → Ans
  | [.own (.nums 3 .i64 a0z a0)] => ⟨slices_Sort__intint.f k a0z a0, slices_Sort__intint.enc⟩
  | _ => Ans.no
theorem slices_Sort__intint.sound (k : Nat) : SoundF Try.prog 30 (fun a => (slices_Sort__intint.ans k a).val) := by
  refine ext_sort lay_Sort (e := 3) (fun args h => ?_) (fun z l res h => sort_val h)
  unfold slices_Sort__intint.ans
  split
  · exact (h _ _ rfl).elim
  · rfl

/-! slices_Compact__intint -/
def slices_Compact__intint.f (k : Nat) (a0z : Bool) (a0 : List Int) : Option (Bool × List Int) := some (a0z, compI a0)
def slices_Compact__intint.enc (r : Bool × List Int) : Res := ⟨[.vals false [((.nums 3 .i64 r.1 r.2), true)]], []⟩
def slices_Compact__intint.ans (k : Nat) : List Arg → Ans
  | [.own (.nums 3 .i64 a0z a0)] => ⟨slices_Compact__intint.f k a0z a0, slices_Compact__intint.enc⟩
  | _ => Ans.no
theorem slices_Compact__intint.sound (k : Nat) : SoundF Try.prog 31 (fun a => (slices_Compact__intint.ans k a).val) := by
  refine ext_cut lay_Compact (e := 3) (fun args h => ?_) (fun z l => rfl)
  unfold slices_Compact__intint.ans
  split
  · exact (h _ _ rfl).elim
  · rfl

/-! loop.example/g00790/impl.Views -/
def impl_Views.b {R : Type} (ret : Bool × List Int → Option R) (j0 : (List Int) → Bool → (List T) → Int → Int → Option R) (k : Nat) (a0z : Bool) (a0 : List T) : Option R :=
  j0 ([] : List Int) a0z a0 ((a0).length : Int) 0
def impl_Views.l0b {R : Type} (ret : Bool × List Int → Option R) (j0 : (List Int) → Bool → (List T) → Int → Int → Option R) (k : Nat) (x3 : List Int) (x7z : Bool) (x7 : List T) (x8 : Int) (x9 : Int) : Option R :=
  cond (decide (x9 < x8)) (cond (decide ((0 : Int) ≤ x9)) (cond (decide (x9 < ((x7).length : Int))) (cond (decide ((x3).length + 1 < 17592186044416)) (j0 (x3 ++ ([((((x7).getD (x9).toNat .bad).cells.getD 0 .bad)).toInt] : List Int)) x7z x7 x8 (RowKit.wrap64 (x9 + 1))) (none)) (none)) (none)) ((slices_Sort__intint.f k false x3).bind fun t0 => (slices_Compact__intint.f k t0.1 t0.2).bind fun t1 => ret (t1.1, t1.2))
def impl_Views.l0 : Nat → (List Int) → Bool → (List T) → Int → Int → Option (Bool × List Int)
  | 0, _, _, _, _, _ => none
  | k + 1, x3, x7z, x7, x8, x9 => impl_Views.l0b some (impl_Views.l0 k) k x3 x7z x7 x8 x9
def impl_Views.f : Nat → Bool → (List T) → Option (Bool × List Int)
  | 0, _, _ => none
  | k + 1, a0z, a0 => impl_Views.b some (impl_Views.l0 k) k a0z a0
def impl_Views.enc (r : Bool × List Int) : Res := ⟨[.vals false [((.nums 3 .i64 r.1 r.2), true)]], []⟩
def impl_Views.ans (k : Nat) : List Arg → Ans
  | [.v (.sl 33 a0z a0)] => ⟨impl_Views.f k a0z a0, impl_Views.enc⟩
  | _ => Ans.no
def impl_Views.Cs (k : Nat) : CallSem := tab [(30, slices_Sort__intint.ans k), (31, slices_Compact__intint.ans k)]
def impl_Views.cuts : List (Nat × Keep) := [(58, ⟨[(3, none), (7, some []), (8, some []), (9, some [])], []⟩)]
noncomputable def impl_Views.K0 : List Fr := framesAt [true, true, false, true, false] (bodyOf Try.f10 impl_Views.cuts) []
def impl_Views.N0 (x3 : List Int) (x7z : Bool) (x7 : List T) (x8 : Int) (x9 : Int) : St := stOf 23 23 1 [(3, .val ⟨(.nums 3 .i64 false x3), [.l 3 0], true, some (.l 3 0)⟩), (7, .val ⟨(.sl 33 x7z x7), [], false, none⟩), (8, .val (V.s (.int .i64 x8))), (9, .val (V.s (.int .i64 x9)))] []
theorem impl_Views.s (k : Nat) (a0z : Bool) (a0 : List T) : answer Try.prog impl_Views.Cs 100000 impl_Views.cuts [] Try.f10 (k + 1) [.v (.sl 33 a0z a0)] = impl_Views.b (fun r => some (impl_Views.enc r)) (fun x3 x7z x7 x8 x9 => rounds Try.prog impl_Views.Cs (finish Try.prog [] Try.f10 [.v (.sl 33 a0z a0)]) 100000 k impl_Views.K0 (impl_Views.N0 x3 x7z x7 x8 x9)) k a0z a0 := by kernel_rfl
theorem impl_Views.s0 (k : Nat) (G : List Fr → St → Option Res) (a0z : Bool) (a0 : List T) (yx3 : List Int) (yx7z : Bool) (yx7 : List T) (yx8 : Int) (yx9 : Int) : resume Try.prog (impl_Views.Cs k) G (finish Try.prog [] Try.f10 [.v (.sl 33 a0z a0)]) 100000 impl_Views.K0 (impl_Views.N0 yx3 yx7z yx7 yx8 yx9) = impl_Views.l0b (fun r => some (impl_Views.enc r)) (fun x3 x7z x7 x8 x9 => G impl_Views.K0 (impl_Views.N0 x3 x7z x7 x8 x9)) k yx3 yx7z yx7 yx8 yx9 := by kernel_rfl
theorem impl_Views.b_nat {R R' : Type} (e : R → R') (ret : Bool × List Int → Option R) (j0 : (List Int) → Bool → (List T) → Int → Int → Option R) (k : Nat) (a0z : Bool) (a0 : List T) : impl_Views.b (fun r => (ret r).map e) (fun x3 x7z x7 x8 x9 => (j0 x3 x7z x7 x8 x9).map e) k a0z a0 = (impl_Views.b ret j0 k a0z a0).map e := by
  unfold impl_Views.b
  repeat' first | with_reducible refine nat_cond ?_ ?_ | with_reducible refine nat_bind fun _ => ?_ | rfl
theorem impl_Views.l0b_nat {R R' : Type} (e : R → R') (ret : Bool × List Int → Option R) (j0 : (List Int) → Bool → (List T) → Int → Int → Option R) (k : Nat) (x3 : List Int) (x7z : Bool) (x7 : List T) (x8 : Int) (x9 : Int) : impl_Views.l0b (fun r => (ret r).map e) (fun x3 x7z x7 x8 x9 => (j0 x3 x7z x7 x8 x9).map e) k x3 x7z x7 x8 x9 = (impl_Views.l0b ret j0 k x3 x7z x7 x8 x9).map e := by
  unfold impl_Views.l0b
  repeat' first | with_reducible refine nat_cond ?_ ?_ | with_reducible refine nat_bind fun _ => ?_ | rfl
theorem impl_Views.rounds_eq (a0z : Bool) (a0 : List T) : ∀ k, (∀ (x3 : List Int) (x7z : Bool) (x7 : List T) (x8 : Int) (x9 : Int), rounds Try.prog impl_Views.Cs (finish Try.prog [] Try.f10 [.v (.sl 33 a0z a0)]) 100000 k impl_Views.K0 (impl_Views.N0 x3 x7z x7 x8 x9) = (impl_Views.l0 k x3 x7z x7 x8 x9).map impl_Views.enc)
  | 0 => fun _ _ _ _ _ => rfl
  | k + 1 => by
    have ih := impl_Views.rounds_eq a0z a0 k
    refine fun _ _ _ _ _ => ?_
    · refine (impl_Views.s0 k _ a0z a0 _ _ _ _ _).trans (Eq.trans ?_ (impl_Views.l0b_nat impl_Views.enc some (impl_Views.l0 k) k _ _ _ _ _))
      simp only [ih, Option.map_some]
theorem impl_Views.eq (k : Nat) (a0z : Bool) (a0 : List T) : answer Try.prog impl_Views.Cs 100000 impl_Views.cuts [] Try.f10 (k + 1) [.v (.sl 33 a0z a0)] = (impl_Views.f (k + 1) a0z a0).map impl_Views.enc := by
  have ih := impl_Views.rounds_eq a0z a0 k
  refine (impl_Views.s k a0z a0).trans (Eq.trans ?_ (impl_Views.b_nat impl_Views.enc some (impl_Views.l0 k) k a0z a0))
  simp only [ih, Option.map_some]
theorem impl_Views.sound (k : Nat) : SoundF Try.prog 10 (fun a => (impl_Views.ans k a).val) := by
  refine sound_plain (fun args res h => ?_) (fun t n => rfl)
  unfold impl_Views.ans at h
  dsimp only at h
  split at h
  · cases k with
    | zero => cases h
    | succ k =>
      unfold Ans.val at h
      rw [← impl_Views.eq] at h
      exact answer_sound mixed Try.func10 _ _ _ (k + 1) (fun j _ => tab_sound (tab_cons (slices_Sort__intint.sound j) (tab_cons (slices_Compact__intint.sound j) (tab_nil)))) _ _ h
  · exact (Ans.no_val h).elim

/-! loop.example/g00790/laws.eqIntS -/
def laws_eqIntS.b {R : Type} (ret : Bool → Option R) (j0 : Bool → (List Int) → Bool → (List Int) → Int → Option R) (k : Nat) (a0z : Bool) (a0 : List Int) (a1z : Bool) (a1 : List Int) : Option R :=
  cond (!(decide (((a0).length : Int) = ((a1).length : Int)))) (ret false) (j0 a0z a0 a1z a1 0)
def laws_eqIntS.l0b {R : Type} (ret : Bool → Option R) (j0 : Bool → (List Int) → Bool → (List Int) → Int → Option R) (k : Nat) (x0z : Bool) (x0 : List Int) (x1z : Bool) (x1 : List Int) (x5 : Int) : Option R :=
  cond (decide (x5 < ((x0).length : Int))) (cond (decide ((0 : Int) ≤ x5)) (cond (decide (x5 < ((x0).length : Int))) (cond (decide ((0 : Int) ≤ x5)) (cond (decide (x5 < ((x1).length : Int))) (cond (!(decide ((rdI x0 x5) = (rdI x1 x5)))) (ret false) (j0 x0z x0 x1z x1 (RowKit.wrap64 (x5 + 1)))) (none)) (none)) (none)) (none)) (ret true)
def laws_eqIntS.l0 : Nat → Bool → (List Int) → Bool → (List Int) → Int → Option Bool
  | 0, _, _, _, _, _ => none
  | k + 1, x0z, x0, x1z, x1, x5 => laws_eqIntS.l0b some (laws_eqIntS.l0 k) k x0z x0 x1z x1 x5
def laws_eqIntS.f : Nat → Bool → (List Int) → Bool → (List Int) → Option Bool
  | 0, _, _, _, _ => none
  | k + 1, a0z, a0, a1z, a1 => laws_eqIntS.b some (laws_eqIntS.l0 k) k a0z a0 a1z a1
def laws_eqIntS.enc (r : Bool) : Res := ⟨[.vals false [((.bool r), true)]], []⟩
def laws_eqIntS.ans (k : Nat) : List Arg → Ans
  | [.v (.nums 3 .i64 a0z a0), .v (.nums 3 .i64 a1z a1)] => ⟨laws_eqIntS.f k a0z a0 a1z a1, laws_eqIntS.enc⟩
  | _ => Ans.no
def laws_eqIntS.Cs (k : Nat) : CallSem := tab []
def laws_eqIntS.cuts : List (Nat × Keep) := [(58, ⟨[(0, some []), (1, some []), (5, some [])], []⟩)]
noncomputable def laws_eqIntS.K0 : List Fr := framesAt [true, true, false, true, false] (bodyOf Try.f14 laws_eqIntS.cuts) []
def laws_eqIntS.N0 (x0z : Bool) (x0 : List Int) (x1z : Bool) (x1 : List Int) (x5 : Int) : St := stOf 26 26 2 [(0, .val ⟨(.nums 3 .i64 x0z x0), [], false, none⟩), (1, .val ⟨(.nums 3 .i64 x1z x1), [], false, none⟩), (5, .val (V.s (.int .i64 x5)))] []
theorem laws_eqIntS.s (k : Nat) (a0z : Bool) (a0 : List Int) (a1z : Bool) (a1 : List Int) : answer Try.prog laws_eqIntS.Cs 100000 laws_eqIntS.cuts [] Try.f14 (k + 1) [.v (.nums 3 .i64 a0z a0), .v (.nums 3 .i64 a1z a1)] = laws_eqIntS.b (fun r => some (laws_eqIntS.enc r)) (fun x0z x0 x1z x1 x5 => rounds Try.prog laws_eqIntS.Cs (finish Try.prog [] Try.f14 [.v (.nums 3 .i64 a0z a0), .v (.nums 3 .i64 a1z a1)]) 100000 k laws_eqIntS.K0 (laws_eqIntS.N0 x0z x0 x1z x1 x5)) k a0z a0 a1z a1 := by kernel_rfl
theorem laws_eqIntS.s0 (k : Nat) (G : List Fr → St → Option Res) (a0z : Bool) (a0 : List Int) (a1z : Bool) (a1 : List Int) (yx0z : Bool) (yx0 : List Int) (yx1z : Bool) (yx1 : List Int) (yx5 : Int) : resume Try.prog (laws_eqIntS.Cs k) G (finish Try.prog [] Try.f14 [.v (.nums 3 .i64 a0z a0), .v (.nums 3 .i64 a1z a1)]) 100000 laws_eqIntS.K0 (laws_eqIntS.N0 yx0z yx0 yx1z yx1 yx5) = laws_eqIntS.l0b (fun r => some (laws_eqIntS.enc r)) (fun x0z x0 x1z x1 x5 => G laws_eqIntS.K0 (laws_eqIntS.N0 x0z x0 x1z x1 x5)) k yx0z yx0 yx1z yx1 yx5 := by kernel_rfl
theorem laws_eqIntS.b_nat {R R' : Type} (e : R → R') (ret : Bool → Option R) (j0 : Bool → (List Int) → Bool → (List Int) → Int → Option R) (k : Nat) (a0z : Bool) (a0 : List Int) (a1z : Bool) (a1 : List Int) : laws_eqIntS.b (fun r => (ret r).map e) (fun x0z x0 x1z x1 x5 => (j0 x0z x0 x1z x1 x5).map e) k a0z a0 a1z a1 = (laws_eqIntS.b ret j0 k a0z a0 a1z a1).map e := by
  unfold laws_eqIntS.b
  repeat' first | with_reducible refine nat_cond ?_ ?_ | with_reducible refine nat_bind fun _ => ?_ | rfl
theorem laws_eqIntS.l0b_nat {R R' : Type} (e : R → R') (ret : Bool → Option R) (j0 : Bool → (List Int) → Bool → (List Int) → Int → Option R) (k : Nat) (x0z : Bool) (x0 : List Int) (x1z : Bool) (x1 : List Int) (x5 : Int) : laws_eqIntS.l0b (fun r => (ret r).map e) (fun x0z x0 x1z x1 x5 => (j0 x0z x0 x1z x1 x5).map e) k x0z x0 x1z x1 x5 = (laws_eqIntS.l0b ret j0 k x0z x0 x1z x1 x5).map e := by
  unfold laws_eqIntS.l0b
  repeat' first | with_reducible refine nat_cond ?_ ?_ | with_reducible refine nat_bind fun _ => ?_ | rfl
theorem laws_eqIntS.rounds_eq (a0z : Bool) (a0 : List Int) (a1z : Bool) (a1 : List Int) : ∀ k, (∀ (x0z : Bool) (x0 : List Int) (x1z : Bool) (x1 : List Int) (x5 : Int), rounds Try.prog laws_eqIntS.Cs (finish Try.prog [] Try.f14 [.v (.nums 3 .i64 a0z a0), .v (.nums 3 .i64 a1z a1)]) 100000 k laws_eqIntS.K0 (laws_eqIntS.N0 x0z x0 x1z x1 x5) = (laws_eqIntS.l0 k x0z x0 x1z x1 x5).map laws_eqIntS.enc)
  | 0 => fun _ _ _ _ _ => rfl
  | k + 1 => by
    have ih := laws_eqIntS.rounds_eq a0z a0 a1z a1 k
    refine fun _ _ _ _ _ => ?_
    · refine (laws_eqIntS.s0 k _ a0z a0 a1z a1 _ _ _ _ _).trans (Eq.trans ?_ (laws_eqIntS.l0b_nat laws_eqIntS.enc some (laws_eqIntS.l0 k) k _ _ _ _ _))
      simp only [ih, Option.map_some]
theorem laws_eqIntS.eq (k : Nat) (a0z : Bool) (a0 : List Int) (a1z : Bool) (a1 : List Int) : answer Try.prog laws_eqIntS.Cs 100000 laws_eqIntS.cuts [] Try.f14 (k + 1) [.v (.nums 3 .i64 a0z a0), .v (.nums 3 .i64 a1z a1)] = (laws_eqIntS.f (k + 1) a0z a0 a1z a1).map laws_eqIntS.enc := by
  have ih := laws_eqIntS.rounds_eq a0z a0 a1z a1 k
  refine (laws_eqIntS.s k a0z a0 a1z a1).trans (Eq.trans ?_ (laws_eqIntS.b_nat laws_eqIntS.enc some (laws_eqIntS.l0 k) k a0z a0 a1z a1))
  simp only [ih, Option.map_some]
theorem laws_eqIntS.sound (k : Nat) : SoundF Try.prog 14 (fun a => (laws_eqIntS.ans k a).val) := by
  refine sound_plain (fun args res h => ?_) (fun t n => rfl)
  unfold laws_eqIntS.ans at h
  dsimp only at h
  split at h
  · cases k with
    | zero => cases h
    | succ k =>
      unfold Ans.val at h
      rw [← laws_eqIntS.eq] at h
      exact answer_sound mixed Try.func14 _ _ _ (k + 1) (fun j _ => tab_sound (tab_nil)) _ _ h
  · exact (Ans.no_val h).elim

/-! loop.example/g00790/laws.eqByteS -/
def laws_eqByteS.b {R : Type} (ret : Bool → Option R) (j0 : Bool → (List Int) → Bool → (List Int) → Int → Option R) (k : Nat) (a0z : Bool) (a0 : List Int) (a1z : Bool) (a1 : List Int) : Option R :=
  cond (!(decide (((a0).length : Int) = ((a1).length : Int)))) (ret false) (j0 a0z a0 a1z a1 0)
def laws_eqByteS.l0b {R : Type} (ret : Bool → Option R) (j0 : Bool → (List Int) → Bool → (List Int) → Int → Option R) (k : Nat) (x0z : Bool) (x0 : List Int) (x1z : Bool) (x1 : List Int) (x5 : Int) : Option R :=
  cond (decide (x5 < ((x0).length : Int))) (cond (decide ((0 : Int) ≤ x5)) (cond (decide (x5 < ((x0).length : Int))) (cond (decide ((0 : Int) ≤ x5)) (cond (decide (x5 < ((x1).length : Int))) (cond (!(decide ((rdI x0 x5) = (rdI x1 x5)))) (ret false) (j0 x0z x0 x1z x1 (RowKit.wrap64 (x5 + 1)))) (none)) (none)) (none)) (none)) (ret true)
def laws_eqByteS.l0 : Nat → Bool → (List Int) → Bool → (List Int) → Int → Option Bool
  | 0, _, _, _, _, _ => none
  | k + 1, x0z, x0, x1z, x1, x5 => laws_eqByteS.l0b some (laws_eqByteS.l0 k) k x0z x0 x1z x1 x5
def laws_eqByteS.f : Nat → Bool → (List Int) → Bool → (List Int) → Option Bool
  | 0, _, _, _, _ => none
  | k + 1, a0z, a0, a1z, a1 => laws_eqByteS.b some (laws_eqByteS.l0 k) k a0z a0 a1z a1
def laws_eqByteS.enc (r : Bool) : Res := ⟨[.vals false [((.bool r), true)]], []⟩
def laws_eqByteS.ans (k : Nat) : List Arg → Ans
  | [.v (.nums 5 .u8 a0z a0), .v (.nums 5 .u8 a1z a1)] => ⟨laws_eqByteS.f k a0z a0 a1z a1, laws_eqByteS.enc⟩
  | _ => Ans.no
def laws_eqByteS.Cs (k : Nat) : CallSem := tab []
def laws_eqByteS.cuts : List (Nat × Keep) := [(58, ⟨[(0, some []), (1, some []), (5, some [])], []⟩)]
noncomputable def laws_eqByteS.K0 : List Fr := framesAt [true, true, false, true, false] (bodyOf Try.f53 laws_eqByteS.cuts) []
def laws_eqByteS.N0 (x0z : Bool) (x0 : List Int) (x1z : Bool) (x1 : List Int) (x5 : Int) : St := stOf 26 26 2 [(0, .val ⟨(.nums 5 .u8 x0z x0), [], false, none⟩), (1, .val ⟨(.nums 5 .u8 x1z x1), [], false, none⟩), (5, .val (V.s (.int .i64 x5)))] []
theorem laws_eqByteS.s (k : Nat) (a0z : Bool) (a0 : List Int) (a1z : Bool) (a1 : List Int) : answer Try.prog laws_eqByteS.Cs 100000 laws_eqByteS.cuts [] Try.f53 (k + 1) [.v (.nums 5 .u8 a0z a0), .v (.nums 5 .u8 a1z a1)] = laws_eqByteS.b (fun r => some (laws_eqByteS.enc r)) (fun x0z x0 x1z x1 x5 => rounds Try.prog laws_eqByteS.Cs (finish Try.prog [] Try.f53 [.v (.nums 5 .u8 a0z a0), .v (.nums 5 .u8 a1z a1)]) 100000 k laws_eqByteS.K0 (laws_eqByteS.N0 x0z x0 x1z x1 x5)) k a0z a0 a1z a1 := by kernel_rfl
theorem laws_eqByteS.s0 (k : Nat) (G : List Fr → St → Option Res) (a0z : Bool) (a0 : List Int) (a1z : Bool) (a1 : List Int) (yx0z : Bool) (yx0 : List Int) (yx1z : Bool) (yx1 : List Int) (yx5 : Int) : resume Try.prog (laws_eqByteS.Cs k) G (finish Try.prog [] Try.f53 [.v (.nums 5 .u8 a0z a0), .v (.nums 5 .u8 a1z a1)]) 100000 laws_eqByteS.K0 (laws_eqByteS.N0 yx0z yx0 yx1z yx1 yx5) = laws_eqByteS.l0b (fun r => some (laws_eqByteS.enc r)) (fun x0z x0 x1z x1 x5 => G laws_eqByteS.K0 (laws_eqByteS.N0 x0z x0 x1z x1 x5)) k yx0z yx0 yx1z yx1 yx5 := by kernel_rfl
theorem laws_eqByteS.b_nat {R R' : Type} (e : R → R') (ret : Bool → Option R) (j0 : Bool → (List Int) → Bool → (List Int) → Int → Option R) (k : Nat) (a0z : Bool) (a0 : List Int) (a1z : Bool) (a1 : List Int) : laws_eqByteS.b (fun r => (ret r).map e) (fun x0z x0 x1z x1 x5 => (j0 x0z x0 x1z x1 x5).map e) k a0z a0 a1z a1 = (laws_eqByteS.b ret j0 k a0z a0 a1z a1).map e := by
  unfold laws_eqByteS.b
  repeat' first | with_reducible refine nat_cond ?_ ?_ | with_reducible refine nat_bind fun _ => ?_ | rfl
theorem laws_eqByteS.l0b_nat {R R' : Type} (e : R → R') (ret : Bool → Option R) (j0 : Bool → (List Int) → Bool → (List Int) → Int → Option R) (k : Nat) (x0z : Bool) (x0 : List Int) (x1z : Bool) (x1 : List Int) (x5 : Int) : laws_eqByteS.l0b (fun r => (ret r).map e) (fun x0z x0 x1z x1 x5 => (j0 x0z x0 x1z x1 x5).map e) k x0z x0 x1z x1 x5 = (laws_eqByteS.l0b ret j0 k x0z x0 x1z x1 x5).map e := by
  unfold laws_eqByteS.l0b
  repeat' first | with_reducible refine nat_cond ?_ ?_ | with_reducible refine nat_bind fun _ => ?_ | rfl
theorem laws_eqByteS.rounds_eq (a0z : Bool) (a0 : List Int) (a1z : Bool) (a1 : List Int) : ∀ k, (∀ (x0z : Bool) (x0 : List Int) (x1z : Bool) (x1 : List Int) (x5 : Int), rounds Try.prog laws_eqByteS.Cs (finish Try.prog [] Try.f53 [.v (.nums 5 .u8 a0z a0), .v (.nums 5 .u8 a1z a1)]) 100000 k laws_eqByteS.K0 (laws_eqByteS.N0 x0z x0 x1z x1 x5) = (laws_eqByteS.l0 k x0z x0 x1z x1 x5).map laws_eqByteS.enc)
  | 0 => fun _ _ _ _ _ => rfl
  | k + 1 => by
    have ih := laws_eqByteS.rounds_eq a0z a0 a1z a1 k
    refine fun _ _ _ _ _ => ?_
    · refine (laws_eqByteS.s0 k _ a0z a0 a1z a1 _ _ _ _ _).trans (Eq.trans ?_ (laws_eqByteS.l0b_nat laws_eqByteS.enc some (laws_eqByteS.l0 k) k _ _ _ _ _))
      simp only [ih, Option.map_some]
theorem laws_eqByteS.eq (k : Nat) (a0z : Bool) (a0 : List Int) (a1z : Bool) (a1 : List Int) : answer Try.prog laws_eqByteS.Cs 100000 laws_eqByteS.cuts [] Try.f53 (k + 1) [.v (.nums 5 .u8 a0z a0), .v (.nums 5 .u8 a1z a1)] = (laws_eqByteS.f (k + 1) a0z a0 a1z a1).map laws_eqByteS.enc := by
  have ih := laws_eqByteS.rounds_eq a0z a0 a1z a1 k
  refine (laws_eqByteS.s k a0z a0 a1z a1).trans (Eq.trans ?_ (laws_eqByteS.b_nat laws_eqByteS.enc some (laws_eqByteS.l0 k) k a0z a0 a1z a1))
  simp only [ih, Option.map_some]
theorem laws_eqByteS.sound (k : Nat) : SoundF Try.prog 53 (fun a => (laws_eqByteS.ans k a).val) := by
  refine sound_plain (fun args res h => ?_) (fun t n => rfl)
  unfold laws_eqByteS.ans at h
  dsimp only at h
  split at h
  · cases k with
    | zero => cases h
    | succ k =>
      unfold Ans.val at h
      rw [← laws_eqByteS.eq] at h
      exact answer_sound mixed Try.func53 _ _ _ (k + 1) (fun j _ => tab_sound (tab_nil)) _ _ h
  · exact (Ans.no_val h).elim

/-! loop.example/g00790/laws.eqVote -/
def laws_eqVote.b {R : Type} (ret : Bool → Option R) (k : Nat) (a0_0 : Int) (a0_1 : Int) (a0_2z : Bool) (a0_2 : List Int) (a0_3 : Int) (a0_4z : Bool) (a0_4 : List Int) (a1_0 : Int) (a1_1 : Int) (a1_2z : Bool) (a1_2 : List Int) (a1_3 : Int) (a1_4z : Bool) (a1_4 : List Int) : Option R :=
  cond (!(decide (a0_0 = a1_0))) (ret false) (cond (!(decide (a0_1 = a1_1))) (ret false) ((laws_eqByteS.f k a0_2z a0_2 a1_2z a1_2).bind fun t0 => cond (!t0) (ret false) (cond (!(decide (a0_3 = a1_3))) (ret false) ((laws_eqByteS.f k a0_4z a0_4 a1_4z a1_4).bind fun t1 => cond (!t1) (ret false) (ret true)))))
def laws_eqVote.f : Nat → Int → Int → Bool → (List Int) → Int → Bool → (List Int) → Int → Int → Bool → (List Int) → Int → Bool → (List Int) → Option Bool
  | 0, _, _, _, _, _, _, _, _, _, _, _, _, _, _ => none
  | k + 1, a0_0, a0_1, a0_2z, a0_2, a0_3, a0_4z, a0_4, a1_0, a1_1, a1_2z, a1_2, a1_3, a1_4z, a1_4 => laws_eqVote.b some k a0_0 a0_1 a0_2z a0_2 a0_3 a0_4z a0_4 a1_0 a1_1 a1_2z a1_2 a1_3 a1_4z a1_4
def laws_eqVote.enc (r : Bool) : Res := ⟨[.vals false [((.bool r), true)]], []⟩
def laws_eqVote.ans (k : Nat) : List Arg → Ans
  | [.v (.agg [(.int .i64 a0_0), (.int .i64 a0_1), (.nums 5 .u8 a0_2z a0_2), (.int .i64 a0_3), (.nums 5 .u8 a0_4z a0_4)]), .v (.agg [(.int .i64 a1_0), (.int .i64 a1_1), (.nums 5 .u8 a1_2z a1_2), (.int .i64 a1_3), (.nums 5 .u8 a1_4z a1_4)])] => ⟨laws_eqVote.f k a0_0 a0_1 a0_2z a0_2 a0_3 a0_4z a0_4 a1_0 a1_1 a1_2z a1_2 a1_3 a1_4z a1_4, laws_eqVote.enc⟩
  | _ => Ans.no
def laws_eqVote.Cs (k : Nat) : CallSem := tab [(53, laws_eqByteS.ans k)]
def laws_eqVote.cuts : List (Nat × Keep) := []
theorem laws_eqVote.s (k : Nat) (a0_0 : Int) (a0_1 : Int) (a0_2z : Bool) (a0_2 : List Int) (a0_3 : Int) (a0_4z : Bool) (a0_4 : List Int) (a1_0 : Int) (a1_1 : Int) (a1_2z : Bool) (a1_2 : List Int) (a1_3 : Int) (a1_4z : Bool) (a1_4 : List Int) : answer Try.prog laws_eqVote.Cs 100000 laws_eqVote.cuts [] Try.f34 (k + 1) [.v (.agg [(.int .i64 a0_0), (.int .i64 a0_1), (.nums 5 .u8 a0_2z a0_2), (.int .i64 a0_3), (.nums 5 .u8 a0_4z a0_4)]), .v (.agg [(.int .i64 a1_0), (.int .i64 a1_1), (.nums 5 .u8 a1_2z a1_2), (.int .i64 a1_3), (.nums 5 .u8 a1_4z a1_4)])] = laws_eqVote.b (fun r => some (laws_eqVote.enc r)) k a0_0 a0_1 a0_2z a0_2 a0_3 a0_4z a0_4 a1_0 a1_1 a1_2z a1_2 a1_3 a1_4z a1_4 := by kernel_rfl
theorem laws_eqVote.b_nat {R R' : Type} (e : R → R') (ret : Bool → Option R) (k : Nat) (a0_0 : Int) (a0_1 : Int) (a0_2z : Bool) (a0_2 : List Int) (a0_3 : Int) (a0_4z : Bool) (a0_4 : List Int) (a1_0 : Int) (a1_1 : Int) (a1_2z : Bool) (a1_2 : List Int) (a1_3 : Int) (a1_4z : Bool) (a1_4 : List Int) : laws_eqVote.b (fun r => (ret r).map e) k a0_0 a0_1 a0_2z a0_2 a0_3 a0_4z a0_4 a1_0 a1_1 a1_2z a1_2 a1_3 a1_4z a1_4 = (laws_eqVote.b ret k a0_0 a0_1 a0_2z a0_2 a0_3 a0_4z a0_4 a1_0 a1_1 a1_2z a1_2 a1_3 a1_4z a1_4).map e := by
  unfold laws_eqVote.b
  repeat' first | with_reducible refine nat_cond ?_ ?_ | with_reducible refine nat_bind fun _ => ?_ | rfl
theorem laws_eqVote.eq (k : Nat) (a0_0 : Int) (a0_1 : Int) (a0_2z : Bool) (a0_2 : List Int) (a0_3 : Int) (a0_4z : Bool) (a0_4 : List Int) (a1_0 : Int) (a1_1 : Int) (a1_2z : Bool) (a1_2 : List Int) (a1_3 : Int) (a1_4z : Bool) (a1_4 : List Int) : answer Try.prog laws_eqVote.Cs 100000 laws_eqVote.cuts [] Try.f34 (k + 1) [.v (.agg [(.int .i64 a0_0), (.int .i64 a0_1), (.nums 5 .u8 a0_2z a0_2), (.int .i64 a0_3), (.nums 5 .u8 a0_4z a0_4)]), .v (.agg [(.int .i64 a1_0), (.int .i64 a1_1), (.nums 5 .u8 a1_2z a1_2), (.int .i64 a1_3), (.nums 5 .u8 a1_4z a1_4)])] = (laws_eqVote.f (k + 1) a0_0 a0_1 a0_2z a0_2 a0_3 a0_4z a0_4 a1_0 a1_1 a1_2z a1_2 a1_3 a1_4z a1_4).map laws_eqVote.enc := by
  refine (laws_eqVote.s k a0_0 a0_1 a0_2z a0_2 a0_3 a0_4z a0_4 a1_0 a1_1 a1_2z a1_2 a1_3 a1_4z a1_4).trans (Eq.trans ?_ (laws_eqVote.b_nat laws_eqVote.enc some k a0_0 a0_1 a0_2z a0_2 a0_3 a0_4z a0_4 a1_0 a1_1 a1_2z a1_2 a1_3 a1_4z a1_4))
  simp only [Option.map_some]
theorem laws_eqVote.sound (k : Nat) : SoundF Try.prog 34 (fun a => (laws_eqVote.ans k a).val) := by
  refine sound_plain (fun args res h => ?_) (fun t n => rfl)
  unfold laws_eqVote.ans at h
  dsimp only at h
  split at h
  · cases k with
    | zero => cases h
    | succ k =>
      unfold Ans.val at h
      rw [← laws_eqVote.eq] at h
      exact answer_sound mixed Try.func34 _ _ _ (k + 1) (fun j _ => tab_sound (tab_cons (laws_eqByteS.sound j) (tab_nil))) _ _ h
  · exact (Ans.no_val h).elim

/-! loop.example/g00790/laws.eqVoteS -/
def laws_eqVoteS.b {R : Type} (ret : Bool → Option R) (j0 : Bool → (List T) → Bool → (List T) → Int → Option R) (k : Nat) (a0z : Bool) (a0 : List T) (a1z : Bool) (a1 : List T) : Option R :=
  cond (!(decide (((a0).length : Int) = ((a1).length : Int)))) (ret false) (j0 a0z a0 a1z a1 0)
def laws_eqVoteS.l0b {R : Type} (ret : Bool → Option R) (j0 : Bool → (List T) → Bool → (List T) → Int → Option R) (k : Nat) (x0z : Bool) (x0 : List T) (x1z : Bool) (x1 : List T) (x5 : Int) : Option R :=
  cond (decide (x5 < ((x0).length : Int))) (cond (decide ((0 : Int) ≤ x5)) (cond (decide (x5 < ((x0).length : Int))) (cond (decide ((0 : Int) ≤ x5)) (cond (decide (x5 < ((x1).length : Int))) ((laws_eqVote.f k (((((x0).getD (x5).toNat .bad).cells.getD 0 .bad)).toInt) (((((x0).getD (x5).toNat .bad).cells.getD 1 .bad)).toInt) (((((x0).getD (x5).toNat .bad).cells.getD 2 .bad)).isNil) (((((x0).getD (x5).toNat .bad).cells.getD 2 .bad)).toNums) (((((x0).getD (x5).toNat .bad).cells.getD 3 .bad)).toInt) (((((x0).getD (x5).toNat .bad).cells.getD 4 .bad)).isNil) (((((x0).getD (x5).toNat .bad).cells.getD 4 .bad)).toNums) (((((x1).getD (x5).toNat .bad).cells.getD 0 .bad)).toInt) (((((x1).getD (x5).toNat .bad).cells.getD 1 .bad)).toInt) (((((x1).getD (x5).toNat .bad).cells.getD 2 .bad)).isNil) (((((x1).getD (x5).toNat .bad).cells.getD 2 .bad)).toNums) (((((x1).getD (x5).toNat .bad).cells.getD 3 .bad)).toInt) (((((x1).getD (x5).toNat .bad).cells.getD 4 .bad)).isNil) (((((x1).getD (x5).toNat .bad).cells.getD 4 .bad)).toNums)).bind fun t0 => cond (!t0) (ret false) (j0 x0z x0 x1z x1 (RowKit.wrap64 (x5 + 1)))) (none)) (none)) (none)) (none)) (ret true)
def laws_eqVoteS.l0 : Nat → Bool → (List T) → Bool → (List T) → Int → Option Bool
  | 0, _, _, _, _, _ => none
  | k + 1, x0z, x0, x1z, x1, x5 => laws_eqVoteS.l0b some (laws_eqVoteS.l0 k) k x0z x0 x1z x1 x5
def laws_eqVoteS.f : Nat → Bool → (List T) → Bool → (List T) → Option Bool
  | 0, _, _, _, _ => none
  | k + 1, a0z, a0, a1z, a1 => laws_eqVoteS.b some (laws_eqVoteS.l0 k) k a0z a0 a1z a1
def laws_eqVoteS.enc (r : Bool) : Res := ⟨[.vals false [((.bool r), true)]], []⟩
def laws_eqVoteS.ans (k : Nat) : List Arg → Ans
  | [.v (.sl 33 a0z a0), .v (.sl 33 a1z a1)] => ⟨laws_eqVoteS.f k a0z a0 a1z a1, laws_eqVoteS.enc⟩
  | _ => Ans.no
def laws_eqVoteS.Cs (k : Nat) : CallSem := tab [(34, laws_eqVote.ans k)]
def laws_eqVoteS.cuts : List (Nat × Keep) := [(58, ⟨[(0, some []), (1, some []), (5, some [])], []⟩)]
noncomputable def laws_eqVoteS.K0 : List Fr := framesAt [true, true, false, true, false] (bodyOf Try.f15 laws_eqVoteS.cuts) []
def laws_eqVoteS.N0 (x0z : Bool) (x0 : List T) (x1z : Bool) (x1 : List T) (x5 : Int) : St := stOf 27 27 2 [(0, .val ⟨(.sl 33 x0z x0), [], false, none⟩), (1, .val ⟨(.sl 33 x1z x1), [], false, none⟩), (5, .val (V.s (.int .i64 x5)))] []
theorem laws_eqVoteS.s (k : Nat) (a0z : Bool) (a0 : List T) (a1z : Bool) (a1 : List T) : answer Try.prog laws_eqVoteS.Cs 100000 laws_eqVoteS.cuts [] Try.f15 (k + 1) [.v (.sl 33 a0z a0), .v (.sl 33 a1z a1)] = laws_eqVoteS.b (fun r => some (laws_eqVoteS.enc r)) (fun x0z x0 x1z x1 x5 => rounds Try.prog laws_eqVoteS.Cs (finish Try.prog [] Try.f15 [.v (.sl 33 a0z a0), .v (.sl 33 a1z a1)]) 100000 k laws_eqVoteS.K0 (laws_eqVoteS.N0 x0z x0 x1z x1 x5)) k a0z a0 a1z a1 := by kernel_rfl
theorem laws_eqVoteS.s0 (k : Nat) (G : List Fr → St → Option Res) (a0z : Bool) (a0 : List T) (a1z : Bool) (a1 : List T) (yx0z : Bool) (yx0 : List T) (yx1z : Bool) (yx1 : List T) (yx5 : Int) : resume Try.prog (laws_eqVoteS.Cs k) G (finish Try.prog [] Try.f15 [.v (.sl 33 a0z a0), .v (.sl 33 a1z a1)]) 100000 laws_eqVoteS.K0 (laws_eqVoteS.N0 yx0z yx0 yx1z yx1 yx5) = laws_eqVoteS.l0b (fun r => some (laws_eqVoteS.enc r)) (fun x0z x0 x1z x1 x5 => G laws_eqVoteS.K0 (laws_eqVoteS.N0 x0z x0 x1z x1 x5)) k yx0z yx0 yx1z yx1 yx5 := by kernel_rfl
theorem laws_eqVoteS.b_nat {R R' : Type} (e : R → R') (ret : Bool → Option R) (j0 : Bool → (List T) → Bool → (List T) → Int → Option R) (k : Nat) (a0z : Bool) (a0 : List T) (a1z : Bool) (a1 : List T) : laws_eqVoteS.b (fun r => (ret r).map e) (fun x0z x0 x1z x1 x5 => (j0 x0z x0 x1z x1 x5).map e) k a0z a0 a1z a1 = (laws_eqVoteS.b ret j0 k a0z a0 a1z a1).map e := by
  unfold laws_eqVoteS.b
  repeat' first | with_reducible refine nat_cond ?_ ?_ | with_reducible refine nat_bind fun _ => ?_ | rfl
theorem laws_eqVoteS.l0b_nat {R R' : Type} (e : R → R') (ret : Bool → Option R) (j0 : Bool → (List T) → Bool → (List T) → Int → Option R) (k : Nat) (x0z : Bool) (x0 : List T) (x1z : Bool) (x1 : List T) (x5 : Int) : laws_eqVoteS.l0b (fun r => (ret r).map e) (fun x0z x0 x1z x1 x5 => (j0 x0z x0 x1z x1 x5).map e) k x0z x0 x1z x1 x5 = (laws_eqVoteS.l0b ret j0 k x0z x0 x1z x1 x5).map e := by
  unfold laws_eqVoteS.l0b
  repeat' first | with_reducible refine nat_cond ?_ ?_ | with_reducible refine nat_bind fun _ => ?_ | rfl
theorem laws_eqVoteS.rounds_eq (a0z : Bool) (a0 : List T) (a1z : Bool) (a1 : List T) : ∀ k, (∀ (x0z : Bool) (x0 : List T) (x1z : Bool) (x1 : List T) (x5 : Int), rounds Try.prog laws_eqVoteS.Cs (finish Try.prog [] Try.f15 [.v (.sl 33 a0z a0), .v (.sl 33 a1z a1)]) 100000 k laws_eqVoteS.K0 (laws_eqVoteS.N0 x0z x0 x1z x1 x5) = (laws_eqVoteS.l0 k x0z x0 x1z x1 x5).map laws_eqVoteS.enc)
  | 0 => fun _ _ _ _ _ => rfl
  | k + 1 => by
    have ih := laws_eqVoteS.rounds_eq a0z a0 a1z a1 k
    refine fun _ _ _ _ _ => ?_
    · refine (laws_eqVoteS.s0 k _ a0z a0 a1z a1 _ _ _ _ _).trans (Eq.trans ?_ (laws_eqVoteS.l0b_nat laws_eqVoteS.enc some (laws_eqVoteS.l0 k) k _ _ _ _ _))
      simp only [ih, Option.map_some]
theorem laws_eqVoteS.eq (k : Nat) (a0z : Bool) (a0 : List T) (a1z : Bool) (a1 : List T) : answer Try.prog laws_eqVoteS.Cs 100000 laws_eqVoteS.cuts [] Try.f15 (k + 1) [.v (.sl 33 a0z a0), .v (.sl 33 a1z a1)] = (laws_eqVoteS.f (k + 1) a0z a0 a1z a1).map laws_eqVoteS.enc := by
  have ih := laws_eqVoteS.rounds_eq a0z a0 a1z a1 k
  refine (laws_eqVoteS.s k a0z a0 a1z a1).trans (Eq.trans ?_ (laws_eqVoteS.b_nat laws_eqVoteS.enc some (laws_eqVoteS.l0 k) k a0z a0 a1z a1))
  simp only [ih, Option.map_some]
theorem laws_eqVoteS.sound (k : Nat) : SoundF Try.prog 15 (fun a => (laws_eqVoteS.ans k a).val) := by
  refine sound_plain (fun args res h => ?_) (fun t n => rfl)
  unfold laws_eqVoteS.ans at h
  dsimp only at h
  split at h
  · cases k with
    | zero => cases h
    | succ k =>
      unfold Ans.val at h
      rw [← laws_eqVoteS.eq] at h
      exact answer_sound mixed Try.func15 _ _ _ (k + 1) (fun j _ => tab_sound (tab_cons (laws_eqVote.sound j) (tab_nil))) _ _ h
  · exact (Ans.no_val h).elim

/-! loop.example/g00790/laws.markByteS -/
def laws_markByteS.b {R : Type} (ret : Int × Bool × List Int → Option R) (j0 : Bool → (List Int) → Int → Int → Option R) (k : Nat) (a0z : Bool) (a0 : List Int) (a1 : Int) : Option R :=
  j0 a0z a0 a1 0
def laws_markByteS.l0b {R : Type} (ret : Int × Bool × List Int → Option R) (j0 : Bool → (List Int) → Int → Int → Option R) (k : Nat) (x0z : Bool) (x0 : List Int) (x1 : Int) (x5 : Int) : Option R :=
  cond (decide (x5 < ((x0).length : Int))) (cond (decide ((0 : Int) ≤ x5)) (cond (decide (x5 < ((x0).length : Int))) (j0 x0z ((x0).set (x5).toNat ((x1) % 256)) (RowKit.wrap64 (x1 + 1)) (RowKit.wrap64 (x5 + 1))) (none)) (none)) (ret (x1, x0z, x0))
def laws_markByteS.l0 : Nat → Bool → (List Int) → Int → Int → Option (Int × Bool × List Int)
  | 0, _, _, _, _ => none
  | k + 1, x0z, x0, x1, x5 => laws_markByteS.l0b some (laws_markByteS.l0 k) k x0z x0 x1 x5
def laws_markByteS.f : Nat → Bool → (List Int) → Int → Option (Int × Bool × List Int)
  | 0, _, _, _ => none
  | k + 1, a0z, a0, a1 => laws_markByteS.b some (laws_markByteS.l0 k) k a0z a0 a1
def laws_markByteS.enc (r : Int × Bool × List Int) : Res := ⟨[.vals false [((.int .i64 r.1), true)]], [[((.nums 5 .u8 r.2.1 r.2.2), true)]]⟩
def laws_markByteS.ans (k : Nat) : List Arg → Ans
  | [.own (.nums 5 .u8 a0z a0), .v (.int .i64 a1)] => ⟨laws_markByteS.f k a0z a0 a1, laws_markByteS.enc⟩
  | _ => Ans.no
def laws_markByteS.Cs (k : Nat) : CallSem := tab []
def laws_markByteS.cuts : List (Nat × Keep) := [(26, ⟨[(0, none), (1, some []), (5, some [])], []⟩)]
noncomputable def laws_markByteS.K0 : List Fr := framesAt [true, false, true, false] (bodyOf Try.f35 laws_markByteS.cuts) []
def laws_markByteS.N0 (x0z : Bool) (x0 : List Int) (x1 : Int) (x5 : Int) : St := stOf 20 20 2 [(0, .val ⟨(.nums 5 .u8 x0z x0), [.h 0], true, some (.h 0)⟩), (1, .val (V.s (.int .i64 x1))), (5, .val (V.s (.int .i64 x5)))] []
theorem laws_markByteS.s (k : Nat) (a0z : Bool) (a0 : List Int) (a1 : Int) : answerM Try.prog laws_markByteS.Cs 100000 laws_markByteS.cuts Try.f35 (k + 1) [.own (.nums 5 .u8 a0z a0), .v (.int .i64 a1)] = laws_markByteS.b (fun r => some (laws_markByteS.enc r)) (fun x0z x0 x1 x5 => rounds Try.prog laws_markByteS.Cs (finishM Try.prog Try.f35 (.nums 5 .u8 a0z a0)) 100000 k laws_markByteS.K0 (laws_markByteS.N0 x0z x0 x1 x5)) k a0z a0 a1 := by kernel_rfl
theorem laws_markByteS.s0 (k : Nat) (G : List Fr → St → Option Res) (a0z : Bool) (a0 : List Int) (a1 : Int) (yx0z : Bool) (yx0 : List Int) (yx1 : Int) (yx5 : Int) : resume Try.prog (laws_markByteS.Cs k) G (finishM Try.prog Try.f35 (.nums 5 .u8 a0z a0)) 100000 laws_markByteS.K0 (laws_markByteS.N0 yx0z yx0 yx1 yx5) = laws_markByteS.l0b (fun r => some (laws_markByteS.enc r)) (fun x0z x0 x1 x5 => G laws_markByteS.K0 (laws_markByteS.N0 x0z x0 x1 x5)) k yx0z yx0 yx1 yx5 := by kernel_rfl
theorem laws_markByteS.b_nat {R R' : Type} (e : R → R') (ret : Int × Bool × List Int → Option R) (j0 : Bool → (List Int) → Int → Int → Option R) (k : Nat) (a0z : Bool) (a0 : List Int) (a1 : Int) : laws_markByteS.b (fun r => (ret r).map e) (fun x0z x0 x1 x5 => (j0 x0z x0 x1 x5).map e) k a0z a0 a1 = (laws_markByteS.b ret j0 k a0z a0 a1).map e := by
  unfold laws_markByteS.b
  repeat' first | with_reducible refine nat_cond ?_ ?_ | with_reducible refine nat_bind fun _ => ?_ | rfl
theorem laws_markByteS.l0b_nat {R R' : Type} (e : R → R') (ret : Int × Bool × List Int → Option R) (j0 : Bool → (List Int) → Int → Int → Option R) (k : Nat) (x0z : Bool) (x0 : List Int) (x1 : Int) (x5 : Int) : laws_markByteS.l0b (fun r => (ret r).map e) (fun x0z x0 x1 x5 => (j0 x0z x0 x1 x5).map e) k x0z x0 x1 x5 = (laws_markByteS.l0b ret j0 k x0z x0 x1 x5).map e := by
  unfold laws_markByteS.l0b
  repeat' first | with_reducible refine nat_cond ?_ ?_ | with_reducible refine nat_bind fun _ => ?_ | rfl
theorem laws_markByteS.rounds_eq (a0z : Bool) (a0 : List Int) (a1 : Int) : ∀ k, (∀ (x0z : Bool) (x0 : List Int) (x1 : Int) (x5 : Int), rounds Try.prog laws_markByteS.Cs (finishM Try.prog Try.f35 (.nums 5 .u8 a0z a0)) 100000 k laws_markByteS.K0 (laws_markByteS.N0 x0z x0 x1 x5) = (laws_markByteS.l0 k x0z x0 x1 x5).map laws_markByteS.enc)
  | 0 => fun _ _ _ _ => rfl
  | k + 1 => by
    have ih := laws_markByteS.rounds_eq a0z a0 a1 k
    refine fun _ _ _ _ => ?_
    · refine (laws_markByteS.s0 k _ a0z a0 a1 _ _ _ _).trans (Eq.trans ?_ (laws_markByteS.l0b_nat laws_markByteS.enc some (laws_markByteS.l0 k) k _ _ _ _))
      simp only [ih, Option.map_some]
theorem laws_markByteS.eq (k : Nat) (a0z : Bool) (a0 : List Int) (a1 : Int) : answerM Try.prog laws_markByteS.Cs 100000 laws_markByteS.cuts Try.f35 (k + 1) [.own (.nums 5 .u8 a0z a0), .v (.int .i64 a1)] = (laws_markByteS.f (k + 1) a0z a0 a1).map laws_markByteS.enc := by
  have ih := laws_markByteS.rounds_eq a0z a0 a1 k
  refine (laws_markByteS.s k a0z a0 a1).trans (Eq.trans ?_ (laws_markByteS.b_nat laws_markByteS.enc some (laws_markByteS.l0 k) k a0z a0 a1))
  simp only [ih, Option.map_some]
theorem laws_markByteS.sound (k : Nat) : SoundF Try.prog 35 (fun a => (laws_markByteS.ans k a).val) := by
  refine sound_mark (fun args hne => ?_) (fun t n l m h => ?_)
  · unfold laws_markByteS.ans
    split
    · exact (hne _ _ rfl).elim
    · rfl
  unfold laws_markByteS.ans at h
  dsimp only at h
  split at h
  · rename_i heq
    cases heq
    cases k with
    | zero => cases h
    | succ k =>
      unfold Ans.val at h
      rw [← laws_markByteS.eq] at h
      exact answerM_sound (Cs := laws_markByteS.Cs) mixed Try.func35 100000 laws_markByteS.cuts (k + 1) (fun j _ => tab_sound (tab_nil)) _ _ _ _ h
  · exact (Ans.no_val h).elim

/-! loop.example/g00790/laws.markVoteS -/
def laws_markVoteS.b {R : Type} (ret : Int × Bool × List T → Option R) (j0 : Bool → (List T) → Int → Int → Option R) (k : Nat) (a0z : Bool) (a0 : List T) (a1 : Int) : Option R :=
  j0 a0z a0 a1 0
def laws_markVoteS.y1 (x0 : List T) (x1 : Int) (x5 : Int) : List T := ((x0).set (x5).toNat (.agg [(.int .i64 x1), (.int .i64 ((((x0).getD (x5).toNat .bad).cells.getD 1 .bad)).toInt), (.nums 5 .u8 ((((x0).getD (x5).toNat .bad).cells.getD 2 .bad)).isNil ((((x0).getD (x5).toNat .bad).cells.getD 2 .bad)).toNums), (.int .i64 ((((x0).getD (x5).toNat .bad).cells.getD 3 .bad)).toInt), (.nums 5 .u8 ((((x0).getD (x5).toNat .bad).cells.getD 4 .bad)).isNil ((((x0).getD (x5).toNat .bad).cells.getD 4 .bad)).toNums)]))
def laws_markVoteS.y2 (x0 : List T) (x1 : Int) (x5 : Int) : List T := (((laws_markVoteS.y1 x0 x1 x5)).set (x5).toNat (.agg [(.int .i64 (((((laws_markVoteS.y1 x0 x1 x5)).getD (x5).toNat .bad).cells.getD 0 .bad)).toInt), (.int .i64 (RowKit.wrap64 (x1 + 1))), (.nums 5 .u8 (((((laws_markVoteS.y1 x0 x1 x5)).getD (x5).toNat .bad).cells.getD 2 .bad)).isNil (((((laws_markVoteS.y1 x0 x1 x5)).getD (x5).toNat .bad).cells.getD 2 .bad)).toNums), (.int .i64 (((((laws_markVoteS.y1 x0 x1 x5)).getD (x5).toNat .bad).cells.getD 3 .bad)).toInt), (.nums 5 .u8 (((((laws_markVoteS.y1 x0 x1 x5)).getD (x5).toNat .bad).cells.getD 4 .bad)).isNil (((((laws_markVoteS.y1 x0 x1 x5)).getD (x5).toNat .bad).cells.getD 4 .bad)).toNums)]))
def laws_markVoteS.y3 (x0 : List T) (x1 : Int) (x5 : Int) (t0 : (Int × Bool × List Int)) : List T := (((laws_markVoteS.y2 x0 x1 x5)).set (x5).toNat (.agg [(.int .i64 (((((laws_markVoteS.y2 x0 x1 x5)).getD (x5).toNat .bad).cells.getD 0 .bad)).toInt), (.int .i64 (((((laws_markVoteS.y2 x0 x1 x5)).getD (x5).toNat .bad).cells.getD 1 .bad)).toInt), (.nums 5 .u8 t0.2.1 t0.2.2), (.int .i64 (((((laws_markVoteS.y2 x0 x1 x5)).getD (x5).toNat .bad).cells.getD 3 .bad)).toInt), (.nums 5 .u8 (((((laws_markVoteS.y2 x0 x1 x5)).getD (x5).toNat .bad).cells.getD 4 .bad)).isNil (((((laws_markVoteS.y2 x0 x1 x5)).getD (x5).toNat .bad).cells.getD 4 .bad)).toNums)]))
def laws_markVoteS.y4 (x0 : List T) (x1 : Int) (x5 : Int) (t0 : (Int × Bool × List Int)) : List T := (((laws_markVoteS.y3 x0 x1 x5 t0)).set (x5).toNat (.agg [(.int .i64 (((((laws_markVoteS.y3 x0 x1 x5 t0)).getD (x5).toNat .bad).cells.getD 0 .bad)).toInt), (.int .i64 (((((laws_markVoteS.y3 x0 x1 x5 t0)).getD (x5).toNat .bad).cells.getD 1 .bad)).toInt), (.nums 5 .u8 (((((laws_markVoteS.y3 x0 x1 x5 t0)).getD (x5).toNat .bad).cells.getD 2 .bad)).isNil (((((laws_markVoteS.y3 x0 x1 x5 t0)).getD (x5).toNat .bad).cells.getD 2 .bad)).toNums), (.int .i64 t0.1), (.nums 5 .u8 (((((laws_markVoteS.y3 x0 x1 x5 t0)).getD (x5).toNat .bad).cells.getD 4 .bad)).isNil (((((laws_markVoteS.y3 x0 x1 x5 t0)).getD (x5).toNat .bad).cells.getD 4 .bad)).toNums)]))
def laws_markVoteS.y5 (x0 : List T) (x1 : Int) (x5 : Int) (t0 : (Int × Bool × List Int)) (t1 : (Int × Bool × List Int)) : List T := (((laws_markVoteS.y4 x0 x1 x5 t0)).set (x5).toNat (.agg [(.int .i64 (((((laws_markVoteS.y4 x0 x1 x5 t0)).getD (x5).toNat .bad).cells.getD 0 .bad)).toInt), (.int .i64 (((((laws_markVoteS.y4 x0 x1 x5 t0)).getD (x5).toNat .bad).cells.getD 1 .bad)).toInt), (.nums 5 .u8 (((((laws_markVoteS.y4 x0 x1 x5 t0)).getD (x5).toNat .bad).cells.getD 2 .bad)).isNil (((((laws_markVoteS.y4 x0 x1 x5 t0)).getD (x5).toNat .bad).cells.getD 2 .bad)).toNums), (.int .i64 (((((laws_markVoteS.y4 x0 x1 x5 t0)).getD (x5).toNat .bad).cells.getD 3 .bad)).toInt), (.nums 5 .u8 t1.2.1 t1.2.2)]))
def laws_markVoteS.l0b {R : Type} (ret : Int × Bool × List T → Option R) (j0 : Bool → (List T) → Int → Int → Option R) (k : Nat) (x0z : Bool) (x0 : List T) (x1 : Int) (x5 : Int) : Option R :=
  cond (decide (x5 < ((x0).length : Int))) (cond (decide ((0 : Int) ≤ x5)) (cond (decide (x5 < ((x0).length : Int))) (cond (decide ((0 : Int) ≤ x5)) (cond (decide (x5 < (((laws_markVoteS.y1 x0 x1 x5)).length : Int))) (cond (decide ((0 : Int) ≤ x5)) (cond (decide (x5 < (((laws_markVoteS.y2 x0 x1 x5)).length : Int))) ((laws_markByteS.f k ((((((laws_markVoteS.y2 x0 x1 x5)).getD (x5).toNat .bad).cells.getD 2 .bad)).isNil) ((((((laws_markVoteS.y2 x0 x1 x5)).getD (x5).toNat .bad).cells.getD 2 .bad)).toNums) (RowKit.wrap64 ((RowKit.wrap64 (x1 + 1)) + 1))).bind fun t0 => cond (decide ((0 : Int) ≤ x5)) (cond (decide (x5 < (((laws_markVoteS.y3 x0 x1 x5 t0)).length : Int))) (cond (decide ((0 : Int) ≤ x5)) (cond (decide (x5 < (((laws_markVoteS.y4 x0 x1 x5 t0)).length : Int))) ((laws_markByteS.f k ((((((laws_markVoteS.y4 x0 x1 x5 t0)).getD (x5).toNat .bad).cells.getD 4 .bad)).isNil) ((((((laws_markVoteS.y4 x0 x1 x5 t0)).getD (x5).toNat .bad).cells.getD 4 .bad)).toNums) (RowKit.wrap64 (t0.1 + 1))).bind fun t1 => j0 x0z (laws_markVoteS.y5 x0 x1 x5 t0 t1) t1.1 (RowKit.wrap64 (x5 + 1))) (none)) (none)) (none)) (none)) (none)) (none)) (none)) (none)) (none)) (none)) (ret (x1, x0z, x0))
def laws_markVoteS.l0 : Nat → Bool → (List T) → Int → Int → Option (Int × Bool × List T)
  | 0, _, _, _, _ => none
  | k + 1, x0z, x0, x1, x5 => laws_markVoteS.l0b some (laws_markVoteS.l0 k) k x0z x0 x1 x5
def laws_markVoteS.f : Nat → Bool → (List T) → Int → Option (Int × Bool × List T)
  | 0, _, _, _ => none
  | k + 1, a0z, a0, a1 => laws_markVoteS.b some (laws_markVoteS.l0 k) k a0z a0 a1
def laws_markVoteS.enc (r : Int × Bool × List T) : Res := ⟨[.vals false [((.int .i64 r.1), true)]], [[((.sl 33 r.2.1 r.2.2), true)]]⟩
def laws_markVoteS.ans (k : Nat) : List Arg → Ans
  | [.own (.sl 33 a0z a0), .v (.int .i64 a1)] => ⟨laws_markVoteS.f k a0z a0 a1, laws_markVoteS.enc⟩
  | _ => Ans.no
def laws_markVoteS.Cs (k : Nat) : CallSem := tab [(35, laws_markByteS.ans k)]
def laws_markVoteS.cuts : List (Nat × Keep) := [(26, ⟨[(0, none), (1, some []), (5, some [])], []⟩)]
noncomputable def laws_markVoteS.K0 : List Fr := framesAt [true, false, true, false] (bodyOf Try.f16 laws_markVoteS.cuts) []
def laws_markVoteS.N0 (x0z : Bool) (x0 : List T) (x1 : Int) (x5 : Int) : St := stOf 48 48 2 [(0, .val ⟨(.sl 33 x0z x0), [.h 0], true, some (.h 0)⟩), (1, .val (V.s (.int .i64 x1))), (5, .val (V.s (.int .i64 x5)))] []
theorem laws_markVoteS.s (k : Nat) (a0z : Bool) (a0 : List T) (a1 : Int) : answerM Try.prog laws_markVoteS.Cs 100000 laws_markVoteS.cuts Try.f16 (k + 1) [.own (.sl 33 a0z a0), .v (.int .i64 a1)] = laws_markVoteS.b (fun r => some (laws_markVoteS.enc r)) (fun x0z x0 x1 x5 => rounds Try.prog laws_markVoteS.Cs (finishM Try.prog Try.f16 (.sl 33 a0z a0)) 100000 k laws_markVoteS.K0 (laws_markVoteS.N0 x0z x0 x1 x5)) k a0z a0 a1 := by kernel_rfl
theorem laws_markVoteS.s0 (k : Nat) (G : List Fr → St → Option Res) (a0z : Bool) (a0 : List T) (a1 : Int) (yx0z : Bool) (yx0 : List T) (yx1 : Int) (yx5 : Int) : resume Try.prog (laws_markVoteS.Cs k) G (finishM Try.prog Try.f16 (.sl 33 a0z a0)) 100000 laws_markVoteS.K0 (laws_markVoteS.N0 yx0z yx0 yx1 yx5) = laws_markVoteS.l0b (fun r => some (laws_markVoteS.enc r)) (fun x0z x0 x1 x5 => G laws_markVoteS.K0 (laws_markVoteS.N0 x0z x0 x1 x5)) k yx0z yx0 yx1 yx5 := by kernel_rfl
theorem laws_markVoteS.b_nat {R R' : Type} (e : R → R') (ret : Int × Bool × List T → Option R) (j0 : Bool → (List T) → Int → Int → Option R) (k : Nat) (a0z : Bool) (a0 : List T) (a1 : Int) : laws_markVoteS.b (fun r => (ret r).map e) (fun x0z x0 x1 x5 => (j0 x0z x0 x1 x5).map e) k a0z a0 a1 = (laws_markVoteS.b ret j0 k a0z a0 a1).map e := by
  unfold laws_markVoteS.b
  repeat' first | with_reducible refine nat_cond ?_ ?_ | with_reducible refine nat_bind fun _ => ?_ | rfl
theorem laws_markVoteS.l0b_nat {R R' : Type} (e : R → R') (ret : Int × Bool × List T → Option R) (j0 : Bool → (List T) → Int → Int → Option R) (k : Nat) (x0z : Bool) (x0 : List T) (x1 : Int) (x5 : Int) : laws_markVoteS.l0b (fun r => (ret r).map e) (fun x0z x0 x1 x5 => (j0 x0z x0 x1 x5).map e) k x0z x0 x1 x5 = (laws_markVoteS.l0b ret j0 k x0z x0 x1 x5).map e := by
  unfold laws_markVoteS.l0b
  repeat' first | with_reducible refine nat_cond ?_ ?_ | with_reducible refine nat_bind fun _ => ?_ | rfl
theorem laws_markVoteS.rounds_eq (a0z : Bool) (a0 : List T) (a1 : Int) : ∀ k, (∀ (x0z : Bool) (x0 : List T) (x1 : Int) (x5 : Int), rounds Try.prog laws_markVoteS.Cs (finishM Try.prog Try.f16 (.sl 33 a0z a0)) 100000 k laws_markVoteS.K0 (laws_markVoteS.N0 x0z x0 x1 x5) = (laws_markVoteS.l0 k x0z x0 x1 x5).map laws_markVoteS.enc)
  | 0 => fun _ _ _ _ => rfl
  | k + 1 => by
    have ih := laws_markVoteS.rounds_eq a0z a0 a1 k
    refine fun _ _ _ _ => ?_
    · refine (laws_markVoteS.s0 k _ a0z a0 a1 _ _ _ _).trans (Eq.trans ?_ (laws_markVoteS.l0b_nat laws_markVoteS.enc some (laws_markVoteS.l0 k) k _ _ _ _))
      simp only [ih, Option.map_some]
theorem laws_markVoteS.eq (k : Nat) (a0z : Bool) (a0 : List T) (a1 : Int) : answerM Try.prog laws_markVoteS.Cs 100000 laws_markVoteS.cuts Try.f16 (k + 1) [.own (.sl 33 a0z a0), .v (.int .i64 a1)] = (laws_markVoteS.f (k + 1) a0z a0 a1).map laws_markVoteS.enc := by
  have ih := laws_markVoteS.rounds_eq a0z a0 a1 k
  refine (laws_markVoteS.s k a0z a0 a1).trans (Eq.trans ?_ (laws_markVoteS.b_nat laws_markVoteS.enc some (laws_markVoteS.l0 k) k a0z a0 a1))
  simp only [ih, Option.map_some]
theorem laws_markVoteS.sound (k : Nat) : SoundF Try.prog 16 (fun a => (laws_markVoteS.ans k a).val) := by
  refine sound_mark (fun args hne => ?_) (fun t n l m h => ?_)
  · unfold laws_markVoteS.ans
    split
    · exact (hne _ _ rfl).elim
    · rfl
  unfold laws_markVoteS.ans at h
  dsimp only at h
  split at h
  · rename_i heq
    cases heq
    cases k with
    | zero => cases h
    | succ k =>
      unfold Ans.val at h
      rw [← laws_markVoteS.eq] at h
      exact answerM_sound (Cs := laws_markVoteS.Cs) mixed Try.func16 100000 laws_markVoteS.cuts (k + 1) (fun j _ => tab_sound (tab_cons (laws_markByteS.sound j) (tab_nil))) _ _ _ _ h
  · exact (Ans.no_val h).elim

/-! loop.example/g00790/laws.markIntS -/
def laws_markIntS.b {R : Type} (ret : Int × Bool × List Int → Option R) (j0 : Bool → (List Int) → Int → Int → Option R) (k : Nat) (a0z : Bool) (a0 : List Int) (a1 : Int) : Option R :=
  j0 a0z a0 a1 0
def laws_markIntS.l0b {R : Type} (ret : Int × Bool × List Int → Option R) (j0 : Bool → (List Int) → Int → Int → Option R) (k : Nat) (x0z : Bool) (x0 : List Int) (x1 : Int) (x5 : Int) : Option R :=
  cond (decide (x5 < ((x0).length : Int))) (cond (decide ((0 : Int) ≤ x5)) (cond (decide (x5 < ((x0).length : Int))) (j0 x0z ((x0).set (x5).toNat x1) (RowKit.wrap64 (x1 + 1)) (RowKit.wrap64 (x5 + 1))) (none)) (none)) (ret (x1, x0z, x0))
def laws_markIntS.l0 : Nat → Bool → (List Int) → Int → Int → Option (Int × Bool × List Int)
  | 0, _, _, _, _ => none
  | k + 1, x0z, x0, x1, x5 => laws_markIntS.l0b some (laws_markIntS.l0 k) k x0z x0 x1 x5
def laws_markIntS.f : Nat → Bool → (List Int) → Int → Option (Int × Bool × List Int)
  | 0, _, _, _ => none
  | k + 1, a0z, a0, a1 => laws_markIntS.b some (laws_markIntS.l0 k) k a0z a0 a1
def laws_markIntS.enc (r : Int × Bool × List Int) : Res := ⟨[.vals false [((.int .i64 r.1), true)]], [[((.nums 3 .i64 r.2.1 r.2.2), true)]]⟩
def laws_markIntS.ans (k : Nat) : List Arg → Ans
  | [.own (.nums 3 .i64 a0z a0), .v (.int .i64 a1)] => ⟨laws_markIntS.f k a0z a0 a1, laws_markIntS.enc⟩
  | _ => Ans.no
def laws_markIntS.Cs (k : Nat) : CallSem := tab []
def laws_markIntS.cuts : List (Nat × Keep) := [(26, ⟨[(0, none), (1, some []), (5, some [])], []⟩)]
noncomputable def laws_markIntS.K0 : List Fr := framesAt [true, false, true, false] (bodyOf Try.f17 laws_markIntS.cuts) []
def laws_markIntS.N0 (x0z : Bool) (x0 : List Int) (x1 : Int) (x5 : Int) : St := stOf 19 19 2 [(0, .val ⟨(.nums 3 .i64 x0z x0), [.h 0], true, some (.h 0)⟩), (1, .val (V.s (.int .i64 x1))), (5, .val (V.s (.int .i64 x5)))] []
theorem laws_markIntS.s (k : Nat) (a0z : Bool) (a0 : List Int) (a1 : Int) : answerM Try.prog laws_markIntS.Cs 100000 laws_markIntS.cuts Try.f17 (k + 1) [.own (.nums 3 .i64 a0z a0), .v (.int .i64 a1)] = laws_markIntS.b (fun r => some (laws_markIntS.enc r)) (fun x0z x0 x1 x5 => rounds Try.prog laws_markIntS.Cs (finishM Try.prog Try.f17 (.nums 3 .i64 a0z a0)) 100000 k laws_markIntS.K0 (laws_markIntS.N0 x0z x0 x1 x5)) k a0z a0 a1 := by kernel_rfl
theorem laws_markIntS.s0 (k : Nat) (G : List Fr → St → Option Res) (a0z : Bool) (a0 : List Int) (a1 : Int) (yx0z : Bool) (yx0 : List Int) (yx1 : Int) (yx5 : Int) : resume Try.prog (laws_markIntS.Cs k) G (finishM Try.prog Try.f17 (.nums 3 .i64 a0z a0)) 100000 laws_markIntS.K0 (laws_markIntS.N0 yx0z yx0 yx1 yx5) = laws_markIntS.l0b (fun r => some (laws_markIntS.enc r)) (fun x0z x0 x1 x5 => G laws_markIntS.K0 (laws_markIntS.N0 x0z x0 x1 x5)) k yx0z yx0 yx1 yx5 := by kernel_rfl
theorem laws_markIntS.b_nat {R R' : Type} (e : R → R') (ret : Int × Bool × List Int → Option R) (j0 : Bool → (List Int) → Int → Int → Option R) (k : Nat) (a0z : Bool) (a0 : List Int) (a1 : Int) : laws_markIntS.b (fun r => (ret r).map e) (fun x0z x0 x1 x5 => (j0 x0z x0 x1 x5).map e) k a0z a0 a1 = (laws_markIntS.b ret j0 k a0z a0 a1).map e := by
  unfold laws_markIntS.b
  repeat' first | with_reducible refine nat_cond ?_ ?_ | with_reducible refine nat_bind fun _ => ?_ | rfl
theorem laws_markIntS.l0b_nat {R R' : Type} (e : R → R') (ret : Int × Bool × List Int → Option R) (j0 : Bool → (List Int) → Int → Int → Option R) (k : Nat) (x0z : Bool) (x0 : List Int) (x1 : Int) (x5 : Int) : laws_markIntS.l0b (fun r => (ret r).map e) (fun x0z x0 x1 x5 => (j0 x0z x0 x1 x5).map e) k x0z x0 x1 x5 = (laws_markIntS.l0b ret j0 k x0z x0 x1 x5).map e := by
  unfold laws_markIntS.l0b
  repeat' first | with_reducible refine nat_cond ?_ ?_ | with_reducible refine nat_bind fun _ => ?_ | rfl
theorem laws_markIntS.rounds_eq (a0z : Bool) (a0 : List Int) (a1 : Int) : ∀ k, (∀ (x0z : Bool) (x0 : List Int) (x1 : Int) (x5 : Int), rounds Try.prog laws_markIntS.Cs (finishM Try.prog Try.f17 (.nums 3 .i64 a0z a0)) 100000 k laws_markIntS.K0 (laws_markIntS.N0 x0z x0 x1 x5) = (laws_markIntS.l0 k x0z x0 x1 x5).map laws_markIntS.enc)
  | 0 => fun _ _ _ _ => rfl
  | k + 1 => by
    have ih := laws_markIntS.rounds_eq a0z a0 a1 k
    refine fun _ _ _ _ => ?_
    · refine (laws_markIntS.s0 k _ a0z a0 a1 _ _ _ _).trans (Eq.trans ?_ (laws_markIntS.l0b_nat laws_markIntS.enc some (laws_markIntS.l0 k) k _ _ _ _))
      simp only [ih, Option.map_some]
theorem laws_markIntS.eq (k : Nat) (a0z : Bool) (a0 : List Int) (a1 : Int) : answerM Try.prog laws_markIntS.Cs 100000 laws_markIntS.cuts Try.f17 (k + 1) [.own (.nums 3 .i64 a0z a0), .v (.int .i64 a1)] = (laws_markIntS.f (k + 1) a0z a0 a1).map laws_markIntS.enc := by
  have ih := laws_markIntS.rounds_eq a0z a0 a1 k
  refine (laws_markIntS.s k a0z a0 a1).trans (Eq.trans ?_ (laws_markIntS.b_nat laws_markIntS.enc some (laws_markIntS.l0 k) k a0z a0 a1))
  simp only [ih, Option.map_some]
theorem laws_markIntS.sound (k : Nat) : SoundF Try.prog 17 (fun a => (laws_markIntS.ans k a).val) := by
  refine sound_mark (fun args hne => ?_) (fun t n l m h => ?_)
  · unfold laws_markIntS.ans
    split
    · exact (hne _ _ rfl).elim
    · rfl
  unfold laws_markIntS.ans at h
  dsimp only at h
  split at h
  · rename_i heq
    cases heq
    cases k with
    | zero => cases h
    | succ k =>
      unfold Ans.val at h
      rw [← laws_markIntS.eq] at h
      exact answerM_sound (Cs := laws_markIntS.Cs) mixed Try.func17 100000 laws_markIntS.cuts (k + 1) (fun j _ => tab_sound (tab_nil)) _ _ _ _ h
  · exact (Ans.no_val h).elim

end Go.Proofs.YthocpcfjfgnkgaaG
