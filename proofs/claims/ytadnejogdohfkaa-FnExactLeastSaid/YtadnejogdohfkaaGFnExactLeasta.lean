/- What the functions compute, printed by a program of this repo; each is shown to be what the machine of values answers. No condition. -/
import Derived.Test.YtadnejogdohfkaaProg
import Derived.KernelRfl
import Derived.Test.YtadnejogdohfkaaRvD
namespace Go.Proofs.YtadnejogdohfkaaG
open Go Go.Proofs.YtadnejogdohfkaaRv Go.Proofs
set_option linter.unusedVariables false
set_option linter.unusedSimpArgs false
theorem mixed : Try.prog.follows .mixedOrders = true := by kernel_rfl
/-! loop.example/g00790/laws.szByteS -/
def laws_szByteS.b {R : Type} (ret : Int → Option R) (k : Nat) (a0z : Bool) (a0 : List Int) (a1 : Int) : Option R :=
  cond (decide ((RowKit.wrap64 (a1 - ((a0).length : Int))) < 0)) (ret (-1)) (ret (RowKit.wrap64 (a1 - ((a0).length : Int))))
def laws_szByteS.f : Nat → Bool → (List Int) → Int → Option Int
  | 0, _, _, _ => none
  | k + 1, a0z, a0, a1 => laws_szByteS.b some k a0z a0 a1
def laws_szByteS.enc (r : Int) : Res := ⟨[.vals false [((.int .i64 r), true)]], []⟩
def laws_szByteS.ans (k : Nat) : List Arg → Ans
  | [.v (.nums 5 .u8 a0z a0), .v (.int .i64 a1)] => ⟨laws_szByteS.f k a0z a0 a1, laws_szByteS.enc⟩
  | _ => Ans.no
def laws_szByteS.Cs (k : Nat) : CallSem := tab []
def laws_szByteS.cuts : List (Nat × Keep) := []
theorem laws_szByteS.s (k : Nat) (a0z : Bool) (a0 : List Int) (a1 : Int) : answer Try.prog laws_szByteS.Cs 100000 laws_szByteS.cuts [] Try.f97 (k + 1) [.v (.nums 5 .u8 a0z a0), .v (.int .i64 a1)] = laws_szByteS.b (fun r => some (laws_szByteS.enc r)) k a0z a0 a1 := by kernel_rfl
theorem laws_szByteS.b_nat {R R' : Type} (e : R → R') (ret : Int → Option R) (k : Nat) (a0z : Bool) (a0 : List Int) (a1 : Int) : laws_szByteS.b (fun r => (ret r).map e) k a0z a0 a1 = (laws_szByteS.b ret k a0z a0 a1).map e := by
  unfold laws_szByteS.b
  repeat' first | with_reducible refine nat_cond ?_ ?_ | with_reducible refine nat_bind fun _ => ?_ | rfl
theorem laws_szByteS.eq (k : Nat) (a0z : Bool) (a0 : List Int) (a1 : Int) : answer Try.prog laws_szByteS.Cs 100000 laws_szByteS.cuts [] Try.f97 (k + 1) [.v (.nums 5 .u8 a0z a0), .v (.int .i64 a1)] = (laws_szByteS.f (k + 1) a0z a0 a1).map laws_szByteS.enc := by
  refine (laws_szByteS.s k a0z a0 a1).trans (Eq.trans ?_ (laws_szByteS.b_nat laws_szByteS.enc some k a0z a0 a1))
  simp only [Option.map_some]
theorem laws_szByteS.sound (k : Nat) : SoundF Try.prog 97 (fun a => (laws_szByteS.ans k a).val) := by
  refine sound_plain (fun args res h => ?_) (fun t n => rfl)
  unfold laws_szByteS.ans at h
  dsimp only at h
  split at h
  · cases k with
    | zero => cases h
    | succ k =>
      unfold Ans.val at h
      rw [← laws_szByteS.eq] at h
      exact answer_sound mixed Try.func97 _ _ _ (k + 1) (fun j _ => tab_sound (tab_nil)) _ _ h
  · exact (Ans.no_val h).elim

/-! loop.example/g00790/laws.szRow -/
def laws_szRow.b {R : Type} (ret : Int → Option R) (k : Nat) (a0_0 : Int) (a0_1z : Bool) (a0_1 : List Int) (a1 : Int) : Option R :=
  (laws_szByteS.f k a0_1z a0_1 a1).bind fun t0 => cond (decide (t0 < 0)) (ret (-1)) (ret t0)
def laws_szRow.f : Nat → Int → Bool → (List Int) → Int → Option Int
  | 0, _, _, _, _ => none
  | k + 1, a0_0, a0_1z, a0_1, a1 => laws_szRow.b some k a0_0 a0_1z a0_1 a1
def laws_szRow.enc (r : Int) : Res := ⟨[.vals false [((.int .i64 r), true)]], []⟩
def laws_szRow.ans (k : Nat) : List Arg → Ans
  | [.v (.agg [(.int .i64 a0_0), (.nums 5 .u8 a0_1z a0_1)]), .v (.int .i64 a1)] => ⟨laws_szRow.f k a0_0 a0_1z a0_1 a1, laws_szRow.enc⟩
  | _ => Ans.no
def laws_szRow.Cs (k : Nat) : CallSem := tab [(97, laws_szByteS.ans k)]
def laws_szRow.cuts : List (Nat × Keep) := []
theorem laws_szRow.s (k : Nat) (a0_0 : Int) (a0_1z : Bool) (a0_1 : List Int) (a1 : Int) : answer Try.prog laws_szRow.Cs 100000 laws_szRow.cuts [] Try.f165 (k + 1) [.v (.agg [(.int .i64 a0_0), (.nums 5 .u8 a0_1z a0_1)]), .v (.int .i64 a1)] = laws_szRow.b (fun r => some (laws_szRow.enc r)) k a0_0 a0_1z a0_1 a1 := by kernel_rfl
theorem laws_szRow.b_nat {R R' : Type} (e : R → R') (ret : Int → Option R) (k : Nat) (a0_0 : Int) (a0_1z : Bool) (a0_1 : List Int) (a1 : Int) : laws_szRow.b (fun r => (ret r).map e) k a0_0 a0_1z a0_1 a1 = (laws_szRow.b ret k a0_0 a0_1z a0_1 a1).map e := by
  unfold laws_szRow.b
  repeat' first | with_reducible refine nat_cond ?_ ?_ | with_reducible refine nat_bind fun _ => ?_ | rfl
theorem laws_szRow.eq (k : Nat) (a0_0 : Int) (a0_1z : Bool) (a0_1 : List Int) (a1 : Int) : answer Try.prog laws_szRow.Cs 100000 laws_szRow.cuts [] Try.f165 (k + 1) [.v (.agg [(.int .i64 a0_0), (.nums 5 .u8 a0_1z a0_1)]), .v (.int .i64 a1)] = (laws_szRow.f (k + 1) a0_0 a0_1z a0_1 a1).map laws_szRow.enc := by
  refine (laws_szRow.s k a0_0 a0_1z a0_1 a1).trans (Eq.trans ?_ (laws_szRow.b_nat laws_szRow.enc some k a0_0 a0_1z a0_1 a1))
  simp only [Option.map_some]
theorem laws_szRow.sound (k : Nat) : SoundF Try.prog 165 (fun a => (laws_szRow.ans k a).val) := by
  refine sound_plain (fun args res h => ?_) (fun t n => rfl)
  unfold laws_szRow.ans at h
  dsimp only at h
  split at h
  · cases k with
    | zero => cases h
    | succ k =>
      unfold Ans.val at h
      rw [← laws_szRow.eq] at h
      exact answer_sound mixed Try.func165 _ _ _ (k + 1) (fun j _ => tab_sound (tab_cons (laws_szByteS.sound j) (tab_nil))) _ _ h
  · exact (Ans.no_val h).elim

/-! loop.example/g00790/laws.szRowS -/
def laws_szRowS.b {R : Type} (ret : Int → Option R) (j0 : Bool → (List T) → Int → Int → Option R) (k : Nat) (a0z : Bool) (a0 : List T) (a1 : Int) : Option R :=
  cond (decide ((RowKit.wrap64 (a1 - ((a0).length : Int))) < 0)) (ret (-1)) (j0 a0z a0 (RowKit.wrap64 (a1 - ((a0).length : Int))) 0)
def laws_szRowS.l0b {R : Type} (ret : Int → Option R) (j0 : Bool → (List T) → Int → Int → Option R) (k : Nat) (x0z : Bool) (x0 : List T) (x1 : Int) (x5 : Int) : Option R :=
  cond (decide (x5 < ((x0).length : Int))) (cond (decide ((0 : Int) ≤ x5)) (cond (decide (x5 < ((x0).length : Int))) ((laws_szRow.f k (((((x0).getD (x5).toNat .bad).cells.getD 0 .bad)).toInt) (((((x0).getD (x5).toNat .bad).cells.getD 1 .bad)).isNil) (((((x0).getD (x5).toNat .bad).cells.getD 1 .bad)).toNums) x1).bind fun t0 => cond (decide (t0 < 0)) (ret (-1)) (j0 x0z x0 t0 (RowKit.wrap64 (x5 + 1)))) (none)) (none)) (ret x1)
def laws_szRowS.l0 : Nat → Bool → (List T) → Int → Int → Option Int
  | 0, _, _, _, _ => none
  | k + 1, x0z, x0, x1, x5 => laws_szRowS.l0b some (laws_szRowS.l0 k) k x0z x0 x1 x5
def laws_szRowS.f : Nat → Bool → (List T) → Int → Option Int
  | 0, _, _, _ => none
  | k + 1, a0z, a0, a1 => laws_szRowS.b some (laws_szRowS.l0 k) k a0z a0 a1
def laws_szRowS.enc (r : Int) : Res := ⟨[.vals false [((.int .i64 r), true)]], []⟩
def laws_szRowS.ans (k : Nat) : List Arg → Ans
  | [.v (.sl 187 a0z a0), .v (.int .i64 a1)] => ⟨laws_szRowS.f k a0z a0 a1, laws_szRowS.enc⟩
  | _ => Ans.no
def laws_szRowS.Cs (k : Nat) : CallSem := tab [(165, laws_szRow.ans k)]
def laws_szRowS.cuts : List (Nat × Keep) := [(122, ⟨[(0, some []), (1, some []), (5, some [])], []⟩)]
noncomputable def laws_szRowS.K0 : List Fr := framesAt [true, true, true, false, true, false] (bodyOf Try.f96 laws_szRowS.cuts) []
def laws_szRowS.N0 (x0z : Bool) (x0 : List T) (x1 : Int) (x5 : Int) : St := stOf 27 27 2 [(0, .val ⟨(.sl 187 x0z x0), [], false, none⟩), (1, .val (V.s (.int .i64 x1))), (5, .val (V.s (.int .i64 x5)))] []
theorem laws_szRowS.s (k : Nat) (a0z : Bool) (a0 : List T) (a1 : Int) : answer Try.prog laws_szRowS.Cs 100000 laws_szRowS.cuts [] Try.f96 (k + 1) [.v (.sl 187 a0z a0), .v (.int .i64 a1)] = laws_szRowS.b (fun r => some (laws_szRowS.enc r)) (fun x0z x0 x1 x5 => rounds Try.prog laws_szRowS.Cs (finish Try.prog [] Try.f96 [.v (.sl 187 a0z a0), .v (.int .i64 a1)]) 100000 k laws_szRowS.K0 (laws_szRowS.N0 x0z x0 x1 x5)) k a0z a0 a1 := by kernel_rfl
theorem laws_szRowS.s0 (k : Nat) (G : List Fr → St → Option Res) (a0z : Bool) (a0 : List T) (a1 : Int) (yx0z : Bool) (yx0 : List T) (yx1 : Int) (yx5 : Int) : resume Try.prog (laws_szRowS.Cs k) G (finish Try.prog [] Try.f96 [.v (.sl 187 a0z a0), .v (.int .i64 a1)]) 100000 laws_szRowS.K0 (laws_szRowS.N0 yx0z yx0 yx1 yx5) = laws_szRowS.l0b (fun r => some (laws_szRowS.enc r)) (fun x0z x0 x1 x5 => G laws_szRowS.K0 (laws_szRowS.N0 x0z x0 x1 x5)) k yx0z yx0 yx1 yx5 := by kernel_rfl
theorem laws_szRowS.b_nat {R R' : Type} (e : R → R') (ret : Int → Option R) (j0 : Bool → (List T) → Int → Int → Option R) (k : Nat) (a0z : Bool) (a0 : List T) (a1 : Int) : laws_szRowS.b (fun r => (ret r).map e) (fun x0z x0 x1 x5 => (j0 x0z x0 x1 x5).map e) k a0z a0 a1 = (laws_szRowS.b ret j0 k a0z a0 a1).map e := by
  unfold laws_szRowS.b
  repeat' first | with_reducible refine nat_cond ?_ ?_ | with_reducible refine nat_bind fun _ => ?_ | rfl
theorem laws_szRowS.l0b_nat {R R' : Type} (e : R → R') (ret : Int → Option R) (j0 : Bool → (List T) → Int → Int → Option R) (k : Nat) (x0z : Bool) (x0 : List T) (x1 : Int) (x5 : Int) : laws_szRowS.l0b (fun r => (ret r).map e) (fun x0z x0 x1 x5 => (j0 x0z x0 x1 x5).map e) k x0z x0 x1 x5 = (laws_szRowS.l0b ret j0 k x0z x0 x1 x5).map e := by
  unfold laws_szRowS.l0b
  repeat' first | with_reducible refine nat_cond ?_ ?_ | with_reducible refine nat_bind fun _ => ?_ | rfl
theorem laws_szRowS.rounds_eq (a0z : Bool) (a0 : List T) (a1 : Int) : ∀ k, (∀ (x0z : Bool) (x0 : List T) (x1 : Int) (x5 : Int), rounds Try.prog laws_szRowS.Cs (finish Try.prog [] Try.f96 [.v (.sl 187 a0z a0), .v (.int .i64 a1)]) 100000 k laws_szRowS.K0 (laws_szRowS.N0 x0z x0 x1 x5) = (laws_szRowS.l0 k x0z x0 x1 x5).map laws_szRowS.enc)
  | 0 => fun _ _ _ _ => rfl
  | k + 1 => by
    have ih := laws_szRowS.rounds_eq a0z a0 a1 k
    refine fun _ _ _ _ => ?_
    · refine (laws_szRowS.s0 k _ a0z a0 a1 _ _ _ _).trans (Eq.trans ?_ (laws_szRowS.l0b_nat laws_szRowS.enc some (laws_szRowS.l0 k) k _ _ _ _))
      simp only [ih, Option.map_some]
theorem laws_szRowS.eq (k : Nat) (a0z : Bool) (a0 : List T) (a1 : Int) : answer Try.prog laws_szRowS.Cs 100000 laws_szRowS.cuts [] Try.f96 (k + 1) [.v (.sl 187 a0z a0), .v (.int .i64 a1)] = (laws_szRowS.f (k + 1) a0z a0 a1).map laws_szRowS.enc := by
  have ih := laws_szRowS.rounds_eq a0z a0 a1 k
  refine (laws_szRowS.s k a0z a0 a1).trans (Eq.trans ?_ (laws_szRowS.b_nat laws_szRowS.enc some (laws_szRowS.l0 k) k a0z a0 a1))
  simp only [ih, Option.map_some]
theorem laws_szRowS.sound (k : Nat) : SoundF Try.prog 96 (fun a => (laws_szRowS.ans k a).val) := by
  refine sound_plain (fun args res h => ?_) (fun t n => rfl)
  unfold laws_szRowS.ans at h
  dsimp only at h
  split at h
  · cases k with
    | zero => cases h
    | succ k =>
      unfold Ans.val at h
      rw [← laws_szRowS.eq] at h
      exact answer_sound mixed Try.func96 _ _ _ (k + 1) (fun j _ => tab_sound (tab_cons (laws_szRow.sound j) (tab_nil))) _ _ h
  · exact (Ans.no_val h).elim

/-! loop.example/g00790/laws.szTable -/
def laws_szTable.b {R : Type} (ret : Int → Option R) (k : Nat) (a0_0z : Bool) (a0_0 : List T) (a1 : Int) : Option R :=
  (laws_szRowS.f k a0_0z a0_0 a1).bind fun t0 => cond (decide (t0 < 0)) (ret (-1)) (ret t0)
def laws_szTable.f : Nat → Bool → (List T) → Int → Option Int
  | 0, _, _, _ => none
  | k + 1, a0_0z, a0_0, a1 => laws_szTable.b some k a0_0z a0_0 a1
def laws_szTable.enc (r : Int) : Res := ⟨[.vals false [((.int .i64 r), true)]], []⟩
def laws_szTable.ans (k : Nat) : List Arg → Ans
  | [.v (.agg [(.sl 187 a0_0z a0_0)]), .v (.int .i64 a1)] => ⟨laws_szTable.f k a0_0z a0_0 a1, laws_szTable.enc⟩
  | _ => Ans.no
def laws_szTable.Cs (k : Nat) : CallSem := tab [(96, laws_szRowS.ans k)]
def laws_szTable.cuts : List (Nat × Keep) := []
theorem laws_szTable.s (k : Nat) (a0_0z : Bool) (a0_0 : List T) (a1 : Int) : answer Try.prog laws_szTable.Cs 100000 laws_szTable.cuts [] Try.f30 (k + 1) [.v (.agg [(.sl 187 a0_0z a0_0)]), .v (.int .i64 a1)] = laws_szTable.b (fun r => some (laws_szTable.enc r)) k a0_0z a0_0 a1 := by kernel_rfl
theorem laws_szTable.b_nat {R R' : Type} (e : R → R') (ret : Int → Option R) (k : Nat) (a0_0z : Bool) (a0_0 : List T) (a1 : Int) : laws_szTable.b (fun r => (ret r).map e) k a0_0z a0_0 a1 = (laws_szTable.b ret k a0_0z a0_0 a1).map e := by
  unfold laws_szTable.b
  repeat' first | with_reducible refine nat_cond ?_ ?_ | with_reducible refine nat_bind fun _ => ?_ | rfl
theorem laws_szTable.eq (k : Nat) (a0_0z : Bool) (a0_0 : List T) (a1 : Int) : answer Try.prog laws_szTable.Cs 100000 laws_szTable.cuts [] Try.f30 (k + 1) [.v (.agg [(.sl 187 a0_0z a0_0)]), .v (.int .i64 a1)] = (laws_szTable.f (k + 1) a0_0z a0_0 a1).map laws_szTable.enc := by
  refine (laws_szTable.s k a0_0z a0_0 a1).trans (Eq.trans ?_ (laws_szTable.b_nat laws_szTable.enc some k a0_0z a0_0 a1))
  simp only [Option.map_some]
theorem laws_szTable.sound (k : Nat) : SoundF Try.prog 30 (fun a => (laws_szTable.ans k a).val) := by
  refine sound_plain (fun args res h => ?_) (fun t n => rfl)
  unfold laws_szTable.ans at h
  dsimp only at h
  split at h
  · cases k with
    | zero => cases h
    | succ k =>
      unfold Ans.val at h
      rw [← laws_szTable.eq] at h
      exact answer_sound mixed Try.func30 _ _ _ (k + 1) (fun j _ => tab_sound (tab_cons (laws_szRowS.sound j) (tab_nil))) _ _ h
  · exact (Ans.no_val h).elim

/-! loop.example/g00790/laws.toByteS -/
def laws_toByteS.b {R : Type} (ret : Bool × List Int → Option R) (j0 : Bool → (List Int) → (List Int) → Int → Option R) (k : Nat) (a0z : Bool) (a0 : List Int) : Option R :=
  cond (decide (((a0).length : Int) = ((a0).length : Int))) (cond (decide ((0 : Int) ≤ ((a0).length : Int))) (cond (decide ((a0).length < 140737488355328)) (j0 a0z a0 (List.replicate (a0).length (0 : Int)) 0) (none)) (none)) (none)
def laws_toByteS.l0b {R : Type} (ret : Bool × List Int → Option R) (j0 : Bool → (List Int) → (List Int) → Int → Option R) (k : Nat) (x0z : Bool) (x0 : List Int) (x3 : List Int) (x4 : Int) : Option R :=
  cond (decide (x4 < ((x0).length : Int))) (cond (decide ((0 : Int) ≤ x4)) (cond (decide (x4 < ((x0).length : Int))) (cond (decide ((0 : Int) ≤ x4)) (cond (decide (x4 < ((x3).length : Int))) (j0 x0z x0 ((x3).set (x4).toNat (rdI x0 x4)) (RowKit.wrap64 (x4 + 1))) (none)) (none)) (none)) (none)) (ret (false, x3))
def laws_toByteS.l0 : Nat → Bool → (List Int) → (List Int) → Int → Option (Bool × List Int)
  | 0, _, _, _, _ => none
  | k + 1, x0z, x0, x3, x4 => laws_toByteS.l0b some (laws_toByteS.l0 k) k x0z x0 x3 x4
def laws_toByteS.f : Nat → Bool → (List Int) → Option (Bool × List Int)
  | 0, _, _ => none
  | k + 1, a0z, a0 => laws_toByteS.b some (laws_toByteS.l0 k) k a0z a0
def laws_toByteS.enc (r : Bool × List Int) : Res := ⟨[.vals false [((.nums 5 .u8 r.1 r.2), true)]], []⟩
def laws_toByteS.ans (k : Nat) : List Arg → Ans
  | [.v (.nums 5 .u8 a0z a0)] => ⟨laws_toByteS.f k a0z a0, laws_toByteS.enc⟩
  | _ => Ans.no
def laws_toByteS.Cs (k : Nat) : CallSem := tab []
def laws_toByteS.cuts : List (Nat × Keep) := [(58, ⟨[(0, some []), (3, none), (4, some [])], []⟩)]
noncomputable def laws_toByteS.K0 : List Fr := framesAt [true, true, false, true, false] (bodyOf Try.f50 laws_toByteS.cuts) []
def laws_toByteS.N0 (x0z : Bool) (x0 : List Int) (x3 : List Int) (x4 : Int) : St := stOf 22 22 1 [(0, .val ⟨(.nums 5 .u8 x0z x0), [], false, none⟩), (3, .val ⟨(.nums 5 .u8 false x3), [.l 3 0], true, some (.l 3 0)⟩), (4, .val (V.s (.int .i64 x4)))] []
theorem laws_toByteS.s (k : Nat) (a0z : Bool) (a0 : List Int) : answer Try.prog laws_toByteS.Cs 100000 laws_toByteS.cuts [] Try.f50 (k + 1) [.v (.nums 5 .u8 a0z a0)] = laws_toByteS.b (fun r => some (laws_toByteS.enc r)) (fun x0z x0 x3 x4 => rounds Try.prog laws_toByteS.Cs (finish Try.prog [] Try.f50 [.v (.nums 5 .u8 a0z a0)]) 100000 k laws_toByteS.K0 (laws_toByteS.N0 x0z x0 x3 x4)) k a0z a0 := by kernel_rfl
theorem laws_toByteS.s0 (k : Nat) (G : List Fr → St → Option Res) (a0z : Bool) (a0 : List Int) (yx0z : Bool) (yx0 : List Int) (yx3 : List Int) (yx4 : Int) : resume Try.prog (laws_toByteS.Cs k) G (finish Try.prog [] Try.f50 [.v (.nums 5 .u8 a0z a0)]) 100000 laws_toByteS.K0 (laws_toByteS.N0 yx0z yx0 yx3 yx4) = laws_toByteS.l0b (fun r => some (laws_toByteS.enc r)) (fun x0z x0 x3 x4 => G laws_toByteS.K0 (laws_toByteS.N0 x0z x0 x3 x4)) k yx0z yx0 yx3 yx4 := by kernel_rfl
theorem laws_toByteS.b_nat {R R' : Type} (e : R → R') (ret : Bool × List Int → Option R) (j0 : Bool → (List Int) → (List Int) → Int → Option R) (k : Nat) (a0z : Bool) (a0 : List Int) : laws_toByteS.b (fun r => (ret r).map e) (fun x0z x0 x3 x4 => (j0 x0z x0 x3 x4).map e) k a0z a0 = (laws_toByteS.b ret j0 k a0z a0).map e := by
  unfold laws_toByteS.b
  repeat' first | with_reducible refine nat_cond ?_ ?_ | with_reducible refine nat_bind fun _ => ?_ | rfl
theorem laws_toByteS.l0b_nat {R R' : Type} (e : R → R') (ret : Bool × List Int → Option R) (j0 : Bool → (List Int) → (List Int) → Int → Option R) (k : Nat) (x0z : Bool) (x0 : List Int) (x3 : List Int) (x4 : Int) : laws_toByteS.l0b (fun r => (ret r).map e) (fun x0z x0 x3 x4 => (j0 x0z x0 x3 x4).map e) k x0z x0 x3 x4 = (laws_toByteS.l0b ret j0 k x0z x0 x3 x4).map e := by
  unfold laws_toByteS.l0b
  repeat' first | with_reducible refine nat_cond ?_ ?_ | with_reducible refine nat_bind fun _ => ?_ | rfl
theorem laws_toByteS.rounds_eq (a0z : Bool) (a0 : List Int) : ∀ k, (∀ (x0z : Bool) (x0 : List Int) (x3 : List Int) (x4 : Int), rounds Try.prog laws_toByteS.Cs (finish Try.prog [] Try.f50 [.v (.nums 5 .u8 a0z a0)]) 100000 k laws_toByteS.K0 (laws_toByteS.N0 x0z x0 x3 x4) = (laws_toByteS.l0 k x0z x0 x3 x4).map laws_toByteS.enc)
  | 0 => fun _ _ _ _ => rfl
  | k + 1 => by
    have ih := laws_toByteS.rounds_eq a0z a0 k
    refine fun _ _ _ _ => ?_
    · refine (laws_toByteS.s0 k _ a0z a0 _ _ _ _).trans (Eq.trans ?_ (laws_toByteS.l0b_nat laws_toByteS.enc some (laws_toByteS.l0 k) k _ _ _ _))
      simp only [ih, Option.map_some]
theorem laws_toByteS.eq (k : Nat) (a0z : Bool) (a0 : List Int) : answer Try.prog laws_toByteS.Cs 100000 laws_toByteS.cuts [] Try.f50 (k + 1) [.v (.nums 5 .u8 a0z a0)] = (laws_toByteS.f (k + 1) a0z a0).map laws_toByteS.enc := by
  have ih := laws_toByteS.rounds_eq a0z a0 k
  refine (laws_toByteS.s k a0z a0).trans (Eq.trans ?_ (laws_toByteS.b_nat laws_toByteS.enc some (laws_toByteS.l0 k) k a0z a0))
  simp only [ih, Option.map_some]
theorem laws_toByteS.sound (k : Nat) : SoundF Try.prog 50 (fun a => (laws_toByteS.ans k a).val) := by
  refine sound_plain (fun args res h => ?_) (fun t n => rfl)
  unfold laws_toByteS.ans at h
  dsimp only at h
  split at h
  · cases k with
    | zero => cases h
    | succ k =>
      unfold Ans.val at h
      rw [← laws_toByteS.eq] at h
      exact answer_sound mixed Try.func50 _ _ _ (k + 1) (fun j _ => tab_sound (tab_nil)) _ _ h
  · exact (Ans.no_val h).elim

/-! loop.example/g00790/laws.toRow -/
def laws_toRow.b {R : Type} (ret : Int × Bool × List Int → Option R) (k : Nat) (a0_0 : Int) (a0_1z : Bool) (a0_1 : List Int) : Option R :=
  (laws_toByteS.f k a0_1z a0_1).bind fun t0 => ret (a0_0, t0.1, t0.2)
def laws_toRow.f : Nat → Int → Bool → (List Int) → Option (Int × Bool × List Int)
  | 0, _, _, _ => none
  | k + 1, a0_0, a0_1z, a0_1 => laws_toRow.b some k a0_0 a0_1z a0_1
def laws_toRow.enc (r : Int × Bool × List Int) : Res := ⟨[.vals true [((.int .i64 r.1), true), ((.nums 5 .u8 r.2.1 r.2.2), true)]], []⟩
def laws_toRow.ans (k : Nat) : List Arg → Ans
  | [.v (.agg [(.int .i64 a0_0), (.nums 5 .u8 a0_1z a0_1)])] => ⟨laws_toRow.f k a0_0 a0_1z a0_1, laws_toRow.enc⟩
  | _ => Ans.no
def laws_toRow.Cs (k : Nat) : CallSem := tab [(50, laws_toByteS.ans k)]
def laws_toRow.cuts : List (Nat × Keep) := []
theorem laws_toRow.s (k : Nat) (a0_0 : Int) (a0_1z : Bool) (a0_1 : List Int) : answer Try.prog laws_toRow.Cs 100000 laws_toRow.cuts [] Try.f171 (k + 1) [.v (.agg [(.int .i64 a0_0), (.nums 5 .u8 a0_1z a0_1)])] = laws_toRow.b (fun r => some (laws_toRow.enc r)) k a0_0 a0_1z a0_1 := by kernel_rfl
theorem laws_toRow.b_nat {R R' : Type} (e : R → R') (ret : Int × Bool × List Int → Option R) (k : Nat) (a0_0 : Int) (a0_1z : Bool) (a0_1 : List Int) : laws_toRow.b (fun r => (ret r).map e) k a0_0 a0_1z a0_1 = (laws_toRow.b ret k a0_0 a0_1z a0_1).map e := by
  unfold laws_toRow.b
  repeat' first | with_reducible refine nat_cond ?_ ?_ | with_reducible refine nat_bind fun _ => ?_ | rfl
theorem laws_toRow.eq (k : Nat) (a0_0 : Int) (a0_1z : Bool) (a0_1 : List Int) : answer Try.prog laws_toRow.Cs 100000 laws_toRow.cuts [] Try.f171 (k + 1) [.v (.agg [(.int .i64 a0_0), (.nums 5 .u8 a0_1z a0_1)])] = (laws_toRow.f (k + 1) a0_0 a0_1z a0_1).map laws_toRow.enc := by
  refine (laws_toRow.s k a0_0 a0_1z a0_1).trans (Eq.trans ?_ (laws_toRow.b_nat laws_toRow.enc some k a0_0 a0_1z a0_1))
  simp only [Option.map_some]
theorem laws_toRow.sound (k : Nat) : SoundF Try.prog 171 (fun a => (laws_toRow.ans k a).val) := by
  refine sound_plain (fun args res h => ?_) (fun t n => rfl)
  unfold laws_toRow.ans at h
  dsimp only at h
  split at h
  · cases k with
    | zero => cases h
    | succ k =>
      unfold Ans.val at h
      rw [← laws_toRow.eq] at h
      exact answer_sound mixed Try.func171 _ _ _ (k + 1) (fun j _ => tab_sound (tab_cons (laws_toByteS.sound j) (tab_nil))) _ _ h
  · exact (Ans.no_val h).elim

/-! loop.example/g00790/laws.toRowS -/
def laws_toRowS.b {R : Type} (ret : Bool × List T → Option R) (j0 : Bool → (List T) → (List T) → Int → Option R) (k : Nat) (a0z : Bool) (a0 : List T) : Option R :=
  cond (decide (((a0).length : Int) = ((a0).length : Int))) (cond (decide ((0 : Int) ≤ ((a0).length : Int))) (cond (decide ((a0).length < 4398046511104)) (j0 a0z a0 (List.replicate (a0).length (.agg [(.int .i64 0), (.nums 5 .u8 true ([] : List Int))])) 0) (none)) (none)) (none)
def laws_toRowS.l0b {R : Type} (ret : Bool × List T → Option R) (j0 : Bool → (List T) → (List T) → Int → Option R) (k : Nat) (x0z : Bool) (x0 : List T) (x3 : List T) (x4 : Int) : Option R :=
  cond (decide (x4 < ((x0).length : Int))) (cond (decide ((0 : Int) ≤ x4)) (cond (decide (x4 < ((x0).length : Int))) ((laws_toRow.f k (((((x0).getD (x4).toNat .bad).cells.getD 0 .bad)).toInt) (((((x0).getD (x4).toNat .bad).cells.getD 1 .bad)).isNil) (((((x0).getD (x4).toNat .bad).cells.getD 1 .bad)).toNums)).bind fun t0 => cond (decide ((0 : Int) ≤ x4)) (cond (decide (x4 < ((x3).length : Int))) (j0 x0z x0 ((x3).set (x4).toNat (.agg [(.int .i64 t0.1), (.nums 5 .u8 t0.2.1 t0.2.2)])) (RowKit.wrap64 (x4 + 1))) (none)) (none)) (none)) (none)) (ret (false, x3))
def laws_toRowS.l0 : Nat → Bool → (List T) → (List T) → Int → Option (Bool × List T)
  | 0, _, _, _, _ => none
  | k + 1, x0z, x0, x3, x4 => laws_toRowS.l0b some (laws_toRowS.l0 k) k x0z x0 x3 x4
def laws_toRowS.f : Nat → Bool → (List T) → Option (Bool × List T)
  | 0, _, _ => none
  | k + 1, a0z, a0 => laws_toRowS.b some (laws_toRowS.l0 k) k a0z a0
def laws_toRowS.enc (r : Bool × List T) : Res := ⟨[.vals false [((.sl 160 r.1 r.2), true)]], []⟩
def laws_toRowS.ans (k : Nat) : List Arg → Ans
  | [.v (.sl 187 a0z a0)] => ⟨laws_toRowS.f k a0z a0, laws_toRowS.enc⟩
  | _ => Ans.no
def laws_toRowS.Cs (k : Nat) : CallSem := tab [(171, laws_toRow.ans k)]
def laws_toRowS.cuts : List (Nat × Keep) := [(58, ⟨[(0, some []), (3, none), (4, some [])], []⟩)]
noncomputable def laws_toRowS.K0 : List Fr := framesAt [true, true, false, true, false] (bodyOf Try.f103 laws_toRowS.cuts) []
def laws_toRowS.N0 (x0z : Bool) (x0 : List T) (x3 : List T) (x4 : Int) : St := stOf 23 23 1 [(0, .val ⟨(.sl 187 x0z x0), [], false, none⟩), (3, .val ⟨(.sl 160 false x3), [.l 3 0], true, some (.l 3 0)⟩), (4, .val (V.s (.int .i64 x4)))] []
theorem laws_toRowS.s (k : Nat) (a0z : Bool) (a0 : List T) : answer Try.prog laws_toRowS.Cs 100000 laws_toRowS.cuts [] Try.f103 (k + 1) [.v (.sl 187 a0z a0)] = laws_toRowS.b (fun r => some (laws_toRowS.enc r)) (fun x0z x0 x3 x4 => rounds Try.prog laws_toRowS.Cs (finish Try.prog [] Try.f103 [.v (.sl 187 a0z a0)]) 100000 k laws_toRowS.K0 (laws_toRowS.N0 x0z x0 x3 x4)) k a0z a0 := by kernel_rfl
theorem laws_toRowS.s0 (k : Nat) (G : List Fr → St → Option Res) (a0z : Bool) (a0 : List T) (yx0z : Bool) (yx0 : List T) (yx3 : List T) (yx4 : Int) : resume Try.prog (laws_toRowS.Cs k) G (finish Try.prog [] Try.f103 [.v (.sl 187 a0z a0)]) 100000 laws_toRowS.K0 (laws_toRowS.N0 yx0z yx0 yx3 yx4) = laws_toRowS.l0b (fun r => some (laws_toRowS.enc r)) (fun x0z x0 x3 x4 => G laws_toRowS.K0 (laws_toRowS.N0 x0z x0 x3 x4)) k yx0z yx0 yx3 yx4 := by kernel_rfl
theorem laws_toRowS.b_nat {R R' : Type} (e : R → R') (ret : Bool × List T → Option R) (j0 : Bool → (List T) → (List T) → Int → Option R) (k : Nat) (a0z : Bool) (a0 : List T) : laws_toRowS.b (fun r => (ret r).map e) (fun x0z x0 x3 x4 => (j0 x0z x0 x3 x4).map e) k a0z a0 = (laws_toRowS.b ret j0 k a0z a0).map e := by
  unfold laws_toRowS.b
  repeat' first | with_reducible refine nat_cond ?_ ?_ | with_reducible refine nat_bind fun _ => ?_ | rfl
theorem laws_toRowS.l0b_nat {R R' : Type} (e : R → R') (ret : Bool × List T → Option R) (j0 : Bool → (List T) → (List T) → Int → Option R) (k : Nat) (x0z : Bool) (x0 : List T) (x3 : List T) (x4 : Int) : laws_toRowS.l0b (fun r => (ret r).map e) (fun x0z x0 x3 x4 => (j0 x0z x0 x3 x4).map e) k x0z x0 x3 x4 = (laws_toRowS.l0b ret j0 k x0z x0 x3 x4).map e := by
  unfold laws_toRowS.l0b
  repeat' first | with_reducible refine nat_cond ?_ ?_ | with_reducible refine nat_bind fun _ => ?_ | rfl
theorem laws_toRowS.rounds_eq (a0z : Bool) (a0 : List T) : ∀ k, (∀ (x0z : Bool) (x0 : List T) (x3 : List T) (x4 : Int), rounds Try.prog laws_toRowS.Cs (finish Try.prog [] Try.f103 [.v (.sl 187 a0z a0)]) 100000 k laws_toRowS.K0 (laws_toRowS.N0 x0z x0 x3 x4) = (laws_toRowS.l0 k x0z x0 x3 x4).map laws_toRowS.enc)
  | 0 => fun _ _ _ _ => rfl
  | k + 1 => by
    have ih := laws_toRowS.rounds_eq a0z a0 k
    refine fun _ _ _ _ => ?_
    · refine (laws_toRowS.s0 k _ a0z a0 _ _ _ _).trans (Eq.trans ?_ (laws_toRowS.l0b_nat laws_toRowS.enc some (laws_toRowS.l0 k) k _ _ _ _))
      simp only [ih, Option.map_some]
theorem laws_toRowS.eq (k : Nat) (a0z : Bool) (a0 : List T) : answer Try.prog laws_toRowS.Cs 100000 laws_toRowS.cuts [] Try.f103 (k + 1) [.v (.sl 187 a0z a0)] = (laws_toRowS.f (k + 1) a0z a0).map laws_toRowS.enc := by
  have ih := laws_toRowS.rounds_eq a0z a0 k
  refine (laws_toRowS.s k a0z a0).trans (Eq.trans ?_ (laws_toRowS.b_nat laws_toRowS.enc some (laws_toRowS.l0 k) k a0z a0))
  simp only [ih, Option.map_some]
theorem laws_toRowS.sound (k : Nat) : SoundF Try.prog 103 (fun a => (laws_toRowS.ans k a).val) := by
  refine sound_plain (fun args res h => ?_) (fun t n => rfl)
  unfold laws_toRowS.ans at h
  dsimp only at h
  split at h
  · cases k with
    | zero => cases h
    | succ k =>
      unfold Ans.val at h
      rw [← laws_toRowS.eq] at h
      exact answer_sound mixed Try.func103 _ _ _ (k + 1) (fun j _ => tab_sound (tab_cons (laws_toRow.sound j) (tab_nil))) _ _ h
  · exact (Ans.no_val h).elim

/-! loop.example/g00790/laws.toTable -/
def laws_toTable.b {R : Type} (ret : Bool × List T → Option R) (k : Nat) (a0_0z : Bool) (a0_0 : List T) : Option R :=
  (laws_toRowS.f k a0_0z a0_0).bind fun t0 => ret (t0.1, t0.2)
def laws_toTable.f : Nat → Bool → (List T) → Option (Bool × List T)
  | 0, _, _ => none
  | k + 1, a0_0z, a0_0 => laws_toTable.b some k a0_0z a0_0
def laws_toTable.enc (r : Bool × List T) : Res := ⟨[.vals true [((.sl 160 r.1 r.2), true)]], []⟩
def laws_toTable.ans (k : Nat) : List Arg → Ans
  | [.v (.agg [(.sl 187 a0_0z a0_0)])] => ⟨laws_toTable.f k a0_0z a0_0, laws_toTable.enc⟩
  | _ => Ans.no
def laws_toTable.Cs (k : Nat) : CallSem := tab [(103, laws_toRowS.ans k)]
def laws_toTable.cuts : List (Nat × Keep) := []
theorem laws_toTable.s (k : Nat) (a0_0z : Bool) (a0_0 : List T) : answer Try.prog laws_toTable.Cs 100000 laws_toTable.cuts [] Try.f33 (k + 1) [.v (.agg [(.sl 187 a0_0z a0_0)])] = laws_toTable.b (fun r => some (laws_toTable.enc r)) k a0_0z a0_0 := by kernel_rfl
theorem laws_toTable.b_nat {R R' : Type} (e : R → R') (ret : Bool × List T → Option R) (k : Nat) (a0_0z : Bool) (a0_0 : List T) : laws_toTable.b (fun r => (ret r).map e) k a0_0z a0_0 = (laws_toTable.b ret k a0_0z a0_0).map e := by
  unfold laws_toTable.b
  repeat' first | with_reducible refine nat_cond ?_ ?_ | with_reducible refine nat_bind fun _ => ?_ | rfl
theorem laws_toTable.eq (k : Nat) (a0_0z : Bool) (a0_0 : List T) : answer Try.prog laws_toTable.Cs 100000 laws_toTable.cuts [] Try.f33 (k + 1) [.v (.agg [(.sl 187 a0_0z a0_0)])] = (laws_toTable.f (k + 1) a0_0z a0_0).map laws_toTable.enc := by
  refine (laws_toTable.s k a0_0z a0_0).trans (Eq.trans ?_ (laws_toTable.b_nat laws_toTable.enc some k a0_0z a0_0))
  simp only [Option.map_some]
theorem laws_toTable.sound (k : Nat) : SoundF Try.prog 33 (fun a => (laws_toTable.ans k a).val) := by
  refine sound_plain (fun args res h => ?_) (fun t n => rfl)
  unfold laws_toTable.ans at h
  dsimp only at h
  split at h
  · cases k with
    | zero => cases h
    | succ k =>
      unfold Ans.val at h
      rw [← laws_toTable.eq] at h
      exact answer_sound mixed Try.func33 _ _ _ (k + 1) (fun j _ => tab_sound (tab_cons (laws_toRowS.sound j) (tab_nil))) _ _ h
  · exact (Ans.no_val h).elim

/-! loop.example/g00790/spec.l01In -/
def spec_l01In.b {R : Type} (ret : Bool → Option R) (k : Nat) (a0 : Int) (a1 : Int) (a2 : Int) : Option R :=
  cond (decide (a0 ≥ a1)) (ret (decide (a0 ≤ a2))) (ret false)
def spec_l01In.f : Nat → Int → Int → Int → Option Bool
  | 0, _, _, _ => none
  | k + 1, a0, a1, a2 => spec_l01In.b some k a0 a1 a2
def spec_l01In.enc (r : Bool) : Res := ⟨[.vals false [((.bool r), true)]], []⟩
def spec_l01In.ans (k : Nat) : List Arg → Ans
  | [.v (.int .i64 a0), .v (.int .i64 a1), .v (.int .i64 a2)] => ⟨spec_l01In.f k a0 a1 a2, spec_l01In.enc⟩
  | _ => Ans.no
def spec_l01In.Cs (k : Nat) : CallSem := tab []
def spec_l01In.cuts : List (Nat × Keep) := []
theorem spec_l01In.s (k : Nat) (a0 : Int) (a1 : Int) (a2 : Int) : answer Try.prog spec_l01In.Cs 100000 spec_l01In.cuts [] Try.f122 (k + 1) [.v (.int .i64 a0), .v (.int .i64 a1), .v (.int .i64 a2)] = spec_l01In.b (fun r => some (spec_l01In.enc r)) k a0 a1 a2 := by kernel_rfl
theorem spec_l01In.b_nat {R R' : Type} (e : R → R') (ret : Bool → Option R) (k : Nat) (a0 : Int) (a1 : Int) (a2 : Int) : spec_l01In.b (fun r => (ret r).map e) k a0 a1 a2 = (spec_l01In.b ret k a0 a1 a2).map e := by
  unfold spec_l01In.b
  repeat' first | with_reducible refine nat_cond ?_ ?_ | with_reducible refine nat_bind fun _ => ?_ | rfl
theorem spec_l01In.eq (k : Nat) (a0 : Int) (a1 : Int) (a2 : Int) : answer Try.prog spec_l01In.Cs 100000 spec_l01In.cuts [] Try.f122 (k + 1) [.v (.int .i64 a0), .v (.int .i64 a1), .v (.int .i64 a2)] = (spec_l01In.f (k + 1) a0 a1 a2).map spec_l01In.enc := by
  refine (spec_l01In.s k a0 a1 a2).trans (Eq.trans ?_ (spec_l01In.b_nat spec_l01In.enc some k a0 a1 a2))
  simp only [Option.map_some]
theorem spec_l01In.sound (k : Nat) : SoundF Try.prog 122 (fun a => (spec_l01In.ans k a).val) := by
  refine sound_plain (fun args res h => ?_) (fun t n => rfl)
  unfold spec_l01In.ans at h
  dsimp only at h
  split at h
  · cases k with
    | zero => cases h
    | succ k =>
      unfold Ans.val at h
      rw [← spec_l01In.eq] at h
      exact answer_sound mixed Try.func122 _ _ _ (k + 1) (fun j _ => tab_sound (tab_nil)) _ _ h
  · exact (Ans.no_val h).elim

/-! loop.example/g00790/spec.l02Signers -/
def spec_l02Signers.b {R : Type} (ret : Bool → Option R) (k : Nat) (a0 : Int) : Option R :=
  (spec_l01In.f k a0 1 10).bind fun t0 => ret t0
def spec_l02Signers.f : Nat → Int → Option Bool
  | 0, _ => none
  | k + 1, a0 => spec_l02Signers.b some k a0
def spec_l02Signers.enc (r : Bool) : Res := ⟨[.vals false [((.bool r), true)]], []⟩
def spec_l02Signers.ans (k : Nat) : List Arg → Ans
  | [.v (.int .i64 a0)] => ⟨spec_l02Signers.f k a0, spec_l02Signers.enc⟩
  | _ => Ans.no
def spec_l02Signers.Cs (k : Nat) : CallSem := tab [(122, spec_l01In.ans k)]
def spec_l02Signers.cuts : List (Nat × Keep) := []
theorem spec_l02Signers.s (k : Nat) (a0 : Int) : answer Try.prog spec_l02Signers.Cs 100000 spec_l02Signers.cuts [] Try.f155 (k + 1) [.v (.int .i64 a0)] = spec_l02Signers.b (fun r => some (spec_l02Signers.enc r)) k a0 := by kernel_rfl
theorem spec_l02Signers.b_nat {R R' : Type} (e : R → R') (ret : Bool → Option R) (k : Nat) (a0 : Int) : spec_l02Signers.b (fun r => (ret r).map e) k a0 = (spec_l02Signers.b ret k a0).map e := by
  unfold spec_l02Signers.b
  repeat' first | with_reducible refine nat_cond ?_ ?_ | with_reducible refine nat_bind fun _ => ?_ | rfl
theorem spec_l02Signers.eq (k : Nat) (a0 : Int) : answer Try.prog spec_l02Signers.Cs 100000 spec_l02Signers.cuts [] Try.f155 (k + 1) [.v (.int .i64 a0)] = (spec_l02Signers.f (k + 1) a0).map spec_l02Signers.enc := by
  refine (spec_l02Signers.s k a0).trans (Eq.trans ?_ (spec_l02Signers.b_nat spec_l02Signers.enc some k a0))
  simp only [Option.map_some]
theorem spec_l02Signers.sound (k : Nat) : SoundF Try.prog 155 (fun a => (spec_l02Signers.ans k a).val) := by
  refine sound_plain (fun args res h => ?_) (fun t n => rfl)
  unfold spec_l02Signers.ans at h
  dsimp only at h
  split at h
  · cases k with
    | zero => cases h
    | succ k =>
      unfold Ans.val at h
      rw [← spec_l02Signers.eq] at h
      exact answer_sound mixed Try.func155 _ _ _ (k + 1) (fun j _ => tab_sound (tab_cons (spec_l01In.sound j) (tab_nil))) _ _ h
  · exact (Ans.no_val h).elim

/-! loop.example/g00790/spec.TableOk -/
def spec_TableOk.b {R : Type} (ret : Bool → Option R) (j0 : Bool → (List T) → Int → Int → Bool → (List T) → Option R) (k : Nat) (a0_0z : Bool) (a0_0 : List T) : Option R :=
  j0 a0_0z a0_0 ((a0_0).length : Int) 0 a0_0z a0_0
def spec_TableOk.l0b {R : Type} (ret : Bool → Option R) (j0 : Bool → (List T) → Int → Int → Bool → (List T) → Option R) (k : Nat) (x6z : Bool) (x6 : List T) (x7 : Int) (x8 : Int) (c1_0z : Bool) (c1_0 : List T) : Option R :=
  cond (decide (x8 < x7)) (cond (decide ((0 : Int) ≤ x8)) (cond (decide (x8 < ((x6).length : Int))) ((spec_l01In.f k (((((x6).getD (x8).toNat .bad).cells.getD 0 .bad)).toInt) 1 1099511627776).bind fun t0 => cond (!t0) (ret false) ((spec_l01In.f k ((((((x6).getD (x8).toNat .bad).cells.getD 1 .bad)).toNums).length : Int) 1 64).bind fun t1 => cond (!t1) (ret false) (j0 x6z x6 x7 (RowKit.wrap64 (x8 + 1)) c1_0z c1_0))) (none)) (none)) ((spec_l02Signers.f k ((c1_0).length : Int)).bind fun t0 => ret t0)
def spec_TableOk.l0 : Nat → Bool → (List T) → Int → Int → Bool → (List T) → Option Bool
  | 0, _, _, _, _, _, _ => none
  | k + 1, x6z, x6, x7, x8, c1_0z, c1_0 => spec_TableOk.l0b some (spec_TableOk.l0 k) k x6z x6 x7 x8 c1_0z c1_0
def spec_TableOk.f : Nat → Bool → (List T) → Option Bool
  | 0, _, _ => none
  | k + 1, a0_0z, a0_0 => spec_TableOk.b some (spec_TableOk.l0 k) k a0_0z a0_0
def spec_TableOk.enc (r : Bool) : Res := ⟨[.vals false [((.bool r), true)]], []⟩
def spec_TableOk.ans (k : Nat) : List Arg → Ans
  | [.v (.agg [(.sl 160 a0_0z a0_0)])] => ⟨spec_TableOk.f k a0_0z a0_0, spec_TableOk.enc⟩
  | _ => Ans.no
def spec_TableOk.Cs (k : Nat) : CallSem := tab [(122, spec_l01In.ans k), (155, spec_l02Signers.ans k)]
def spec_TableOk.cuts : List (Nat × Keep) := [(26, ⟨[(1, some []), (6, some []), (7, some []), (8, some [])], [(1, [some []])]⟩)]
noncomputable def spec_TableOk.K0 : List Fr := framesAt [true, false, true, false] (bodyOf Try.f121 spec_TableOk.cuts) []
def spec_TableOk.N0 (x6z : Bool) (x6 : List T) (x7 : Int) (x8 : Int) (c1_0z : Bool) (c1_0 : List T) : St := stOf 28 28 1 [(1, .bp 1 0), (6, .val ⟨(.sl 160 x6z x6), [], false, none⟩), (7, .val (V.s (.int .i64 x7))), (8, .val (V.s (.int .i64 x8)))] [(1, .cells [⟨(.sl 160 c1_0z c1_0), [], false, none⟩])]
theorem spec_TableOk.s (k : Nat) (a0_0z : Bool) (a0_0 : List T) : answer Try.prog spec_TableOk.Cs 100000 spec_TableOk.cuts [] Try.f121 (k + 1) [.v (.agg [(.sl 160 a0_0z a0_0)])] = spec_TableOk.b (fun r => some (spec_TableOk.enc r)) (fun x6z x6 x7 x8 c1_0z c1_0 => rounds Try.prog spec_TableOk.Cs (finish Try.prog [] Try.f121 [.v (.agg [(.sl 160 a0_0z a0_0)])]) 100000 k spec_TableOk.K0 (spec_TableOk.N0 x6z x6 x7 x8 c1_0z c1_0)) k a0_0z a0_0 := by kernel_rfl
theorem spec_TableOk.s0 (k : Nat) (G : List Fr → St → Option Res) (a0_0z : Bool) (a0_0 : List T) (yx6z : Bool) (yx6 : List T) (yx7 : Int) (yx8 : Int) (yc1_0z : Bool) (yc1_0 : List T) : resume Try.prog (spec_TableOk.Cs k) G (finish Try.prog [] Try.f121 [.v (.agg [(.sl 160 a0_0z a0_0)])]) 100000 spec_TableOk.K0 (spec_TableOk.N0 yx6z yx6 yx7 yx8 yc1_0z yc1_0) = spec_TableOk.l0b (fun r => some (spec_TableOk.enc r)) (fun x6z x6 x7 x8 c1_0z c1_0 => G spec_TableOk.K0 (spec_TableOk.N0 x6z x6 x7 x8 c1_0z c1_0)) k yx6z yx6 yx7 yx8 yc1_0z yc1_0 := by kernel_rfl
theorem spec_TableOk.b_nat {R R' : Type} (e : R → R') (ret : Bool → Option R) (j0 : Bool → (List T) → Int → Int → Bool → (List T) → Option R) (k : Nat) (a0_0z : Bool) (a0_0 : List T) : spec_TableOk.b (fun r => (ret r).map e) (fun x6z x6 x7 x8 c1_0z c1_0 => (j0 x6z x6 x7 x8 c1_0z c1_0).map e) k a0_0z a0_0 = (spec_TableOk.b ret j0 k a0_0z a0_0).map e := by
  unfold spec_TableOk.b
  repeat' first | with_reducible refine nat_cond ?_ ?_ | with_reducible refine nat_bind fun _ => ?_ | rfl
theorem spec_TableOk.l0b_nat {R R' : Type} (e : R → R') (ret : Bool → Option R) (j0 : Bool → (List T) → Int → Int → Bool → (List T) → Option R) (k : Nat) (x6z : Bool) (x6 : List T) (x7 : Int) (x8 : Int) (c1_0z : Bool) (c1_0 : List T) : spec_TableOk.l0b (fun r => (ret r).map e) (fun x6z x6 x7 x8 c1_0z c1_0 => (j0 x6z x6 x7 x8 c1_0z c1_0).map e) k x6z x6 x7 x8 c1_0z c1_0 = (spec_TableOk.l0b ret j0 k x6z x6 x7 x8 c1_0z c1_0).map e := by
  unfold spec_TableOk.l0b
  repeat' first | with_reducible refine nat_cond ?_ ?_ | with_reducible refine nat_bind fun _ => ?_ | rfl
theorem spec_TableOk.rounds_eq (a0_0z : Bool) (a0_0 : List T) : ∀ k, (∀ (x6z : Bool) (x6 : List T) (x7 : Int) (x8 : Int) (c1_0z : Bool) (c1_0 : List T), rounds Try.prog spec_TableOk.Cs (finish Try.prog [] Try.f121 [.v (.agg [(.sl 160 a0_0z a0_0)])]) 100000 k spec_TableOk.K0 (spec_TableOk.N0 x6z x6 x7 x8 c1_0z c1_0) = (spec_TableOk.l0 k x6z x6 x7 x8 c1_0z c1_0).map spec_TableOk.enc)
  | 0 => fun _ _ _ _ _ _ => rfl
  | k + 1 => by
    have ih := spec_TableOk.rounds_eq a0_0z a0_0 k
    refine fun _ _ _ _ _ _ => ?_
    · refine (spec_TableOk.s0 k _ a0_0z a0_0 _ _ _ _ _ _).trans (Eq.trans ?_ (spec_TableOk.l0b_nat spec_TableOk.enc some (spec_TableOk.l0 k) k _ _ _ _ _ _))
      simp only [ih, Option.map_some]
theorem spec_TableOk.eq (k : Nat) (a0_0z : Bool) (a0_0 : List T) : answer Try.prog spec_TableOk.Cs 100000 spec_TableOk.cuts [] Try.f121 (k + 1) [.v (.agg [(.sl 160 a0_0z a0_0)])] = (spec_TableOk.f (k + 1) a0_0z a0_0).map spec_TableOk.enc := by
  have ih := spec_TableOk.rounds_eq a0_0z a0_0 k
  refine (spec_TableOk.s k a0_0z a0_0).trans (Eq.trans ?_ (spec_TableOk.b_nat spec_TableOk.enc some (spec_TableOk.l0 k) k a0_0z a0_0))
  simp only [ih, Option.map_some]
theorem spec_TableOk.sound (k : Nat) : SoundF Try.prog 121 (fun a => (spec_TableOk.ans k a).val) := by
  refine sound_plain (fun args res h => ?_) (fun t n => rfl)
  unfold spec_TableOk.ans at h
  dsimp only at h
  split at h
  · cases k with
    | zero => cases h
    | succ k =>
      unfold Ans.val at h
      rw [← spec_TableOk.eq] at h
      exact answer_sound mixed Try.func121 _ _ _ (k + 1) (fun j _ => tab_sound (tab_cons (spec_l01In.sound j) (tab_cons (spec_l02Signers.sound j) (tab_nil)))) _ _ h
  · exact (Ans.no_val h).elim

/-! loop.example/g00790/spec.BitsSize -/
def spec_BitsSize.b {R : Type} (ret : Int → Option R) (k : Nat) (a0 : Int) : Option R :=
  cond (decide (a0 < 1)) (ret 0) (ret (RowKit.wrap64 ((RowKit.wrap64 (Int.tdiv (RowKit.wrap64 (a0 - 1)) 8)) + 1)))
def spec_BitsSize.f : Nat → Int → Option Int
  | 0, _ => none
  | k + 1, a0 => spec_BitsSize.b some k a0
def spec_BitsSize.enc (r : Int) : Res := ⟨[.vals false [((.int .i64 r), true)]], []⟩
def spec_BitsSize.ans (k : Nat) : List Arg → Ans
  | [.v (.int .i64 a0)] => ⟨spec_BitsSize.f k a0, spec_BitsSize.enc⟩
  | _ => Ans.no
def spec_BitsSize.Cs (k : Nat) : CallSem := tab []
def spec_BitsSize.cuts : List (Nat × Keep) := []
theorem spec_BitsSize.s (k : Nat) (a0 : Int) : answer Try.prog spec_BitsSize.Cs 100000 spec_BitsSize.cuts [] Try.f134 (k + 1) [.v (.int .i64 a0)] = spec_BitsSize.b (fun r => some (spec_BitsSize.enc r)) k a0 := by kernel_rfl
theorem spec_BitsSize.b_nat {R R' : Type} (e : R → R') (ret : Int → Option R) (k : Nat) (a0 : Int) : spec_BitsSize.b (fun r => (ret r).map e) k a0 = (spec_BitsSize.b ret k a0).map e := by
  unfold spec_BitsSize.b
  repeat' first | with_reducible refine nat_cond ?_ ?_ | with_reducible refine nat_bind fun _ => ?_ | rfl
theorem spec_BitsSize.eq (k : Nat) (a0 : Int) : answer Try.prog spec_BitsSize.Cs 100000 spec_BitsSize.cuts [] Try.f134 (k + 1) [.v (.int .i64 a0)] = (spec_BitsSize.f (k + 1) a0).map spec_BitsSize.enc := by
  refine (spec_BitsSize.s k a0).trans (Eq.trans ?_ (spec_BitsSize.b_nat spec_BitsSize.enc some k a0))
  simp only [Option.map_some]
theorem spec_BitsSize.sound (k : Nat) : SoundF Try.prog 134 (fun a => (spec_BitsSize.ans k a).val) := by
  refine sound_plain (fun args res h => ?_) (fun t n => rfl)
  unfold spec_BitsSize.ans at h
  dsimp only at h
  split at h
  · cases k with
    | zero => cases h
    | succ k =>
      unfold Ans.val at h
      rw [← spec_BitsSize.eq] at h
      exact answer_sound mixed Try.func134 _ _ _ (k + 1) (fun j _ => tab_sound (tab_nil)) _ _ h
  · exact (Ans.no_val h).elim

/-! loop.example/g00790/spec.l01Top -/
def spec_l01Top.b {R : Type} (ret : Int → Option R) (k : Nat) (a0 : Int) : Option R :=
  cond (decide ((0 : Int) ≤ (RowKit.wrap64 ((8 : Int) * a0)))) (ret (shlI .i64 1 (RowKit.wrap64 ((8 : Int) * a0)))) (none)
def spec_l01Top.f : Nat → Int → Option Int
  | 0, _ => none
  | k + 1, a0 => spec_l01Top.b some k a0
def spec_l01Top.enc (r : Int) : Res := ⟨[.vals false [((.int .i64 r), true)]], []⟩
def spec_l01Top.ans (k : Nat) : List Arg → Ans
  | [.v (.int .i64 a0)] => ⟨spec_l01Top.f k a0, spec_l01Top.enc⟩
  | _ => Ans.no
def spec_l01Top.Cs (k : Nat) : CallSem := tab []
def spec_l01Top.cuts : List (Nat × Keep) := []
theorem spec_l01Top.s (k : Nat) (a0 : Int) : answer Try.prog spec_l01Top.Cs 100000 spec_l01Top.cuts [] Try.f187 (k + 1) [.v (.int .i64 a0)] = spec_l01Top.b (fun r => some (spec_l01Top.enc r)) k a0 := by kernel_rfl
theorem spec_l01Top.b_nat {R R' : Type} (e : R → R') (ret : Int → Option R) (k : Nat) (a0 : Int) : spec_l01Top.b (fun r => (ret r).map e) k a0 = (spec_l01Top.b ret k a0).map e := by
  unfold spec_l01Top.b
  repeat' first | with_reducible refine nat_cond ?_ ?_ | with_reducible refine nat_bind fun _ => ?_ | rfl
theorem spec_l01Top.eq (k : Nat) (a0 : Int) : answer Try.prog spec_l01Top.Cs 100000 spec_l01Top.cuts [] Try.f187 (k + 1) [.v (.int .i64 a0)] = (spec_l01Top.f (k + 1) a0).map spec_l01Top.enc := by
  refine (spec_l01Top.s k a0).trans (Eq.trans ?_ (spec_l01Top.b_nat spec_l01Top.enc some k a0))
  simp only [Option.map_some]
theorem spec_l01Top.sound (k : Nat) : SoundF Try.prog 187 (fun a => (spec_l01Top.ans k a).val) := by
  refine sound_plain (fun args res h => ?_) (fun t n => rfl)
  unfold spec_l01Top.ans at h
  dsimp only at h
  split at h
  · cases k with
    | zero => cases h
    | succ k =>
      unfold Ans.val at h
      rw [← spec_l01Top.eq] at h
      exact answer_sound mixed Try.func187 _ _ _ (k + 1) (fun j _ => tab_sound (tab_nil)) _ _ h
  · exact (Ans.no_val h).elim

/-! loop.example/g00790/spec.l01Copy -/
def spec_l01Copy.b {R : Type} (ret : Bool × List Int → Option R) (k : Nat) (a0z : Bool) (a0 : List Int) : Option R :=
  cond (decide (0 + (a0).length < 140737488355328)) (ret (((a0).isEmpty && false), a0)) (none)
def spec_l01Copy.f : Nat → Bool → (List Int) → Option (Bool × List Int)
  | 0, _, _ => none
  | k + 1, a0z, a0 => spec_l01Copy.b some k a0z a0
def spec_l01Copy.enc (r : Bool × List Int) : Res := ⟨[.vals false [((.nums 5 .u8 r.1 r.2), true)]], []⟩
def spec_l01Copy.ans (k : Nat) : List Arg → Ans
  | [.v (.nums 5 .u8 a0z a0)] => ⟨spec_l01Copy.f k a0z a0, spec_l01Copy.enc⟩
  | _ => Ans.no
def spec_l01Copy.Cs (k : Nat) : CallSem := tab []
def spec_l01Copy.cuts : List (Nat × Keep) := []
theorem spec_l01Copy.s (k : Nat) (a0z : Bool) (a0 : List Int) : answer Try.prog spec_l01Copy.Cs 100000 spec_l01Copy.cuts [] Try.f130 (k + 1) [.v (.nums 5 .u8 a0z a0)] = spec_l01Copy.b (fun r => some (spec_l01Copy.enc r)) k a0z a0 := by kernel_rfl
theorem spec_l01Copy.b_nat {R R' : Type} (e : R → R') (ret : Bool × List Int → Option R) (k : Nat) (a0z : Bool) (a0 : List Int) : spec_l01Copy.b (fun r => (ret r).map e) k a0z a0 = (spec_l01Copy.b ret k a0z a0).map e := by
  unfold spec_l01Copy.b
  repeat' first | with_reducible refine nat_cond ?_ ?_ | with_reducible refine nat_bind fun _ => ?_ | rfl
theorem spec_l01Copy.eq (k : Nat) (a0z : Bool) (a0 : List Int) : answer Try.prog spec_l01Copy.Cs 100000 spec_l01Copy.cuts [] Try.f130 (k + 1) [.v (.nums 5 .u8 a0z a0)] = (spec_l01Copy.f (k + 1) a0z a0).map spec_l01Copy.enc := by
  refine (spec_l01Copy.s k a0z a0).trans (Eq.trans ?_ (spec_l01Copy.b_nat spec_l01Copy.enc some k a0z a0))
  simp only [Option.map_some]
theorem spec_l01Copy.sound (k : Nat) : SoundF Try.prog 130 (fun a => (spec_l01Copy.ans k a).val) := by
  refine sound_plain (fun args res h => ?_) (fun t n => rfl)
  unfold spec_l01Copy.ans at h
  dsimp only at h
  split at h
  · cases k with
    | zero => cases h
    | succ k =>
      unfold Ans.val at h
      rw [← spec_l01Copy.eq] at h
      exact answer_sound mixed Try.func130 _ _ _ (k + 1) (fun j _ => tab_sound (tab_nil)) _ _ h
  · exact (Ans.no_val h).elim

/-! loop.example/g00790/spec.PutFix -/
def spec_PutFix.b {R : Type} (ret : Bool × (List Int) × Bool → Option R) (j0 : Int → Int → Bool → (List Int) → Int → Option R) (k : Nat) (a0z : Bool) (a0 : List Int) (a1 : Int) (a2 : Int) : Option R :=
  (spec_l01In.f k a2 1 7).bind fun t0 => cond (!t0) (ret (true, ([] : List Int), false)) (cond (decide (a1 < 0)) (ret (true, ([] : List Int), false)) ((spec_l01Top.f k a2).bind fun t1 => cond (decide (a1 ≥ t1)) (ret (true, ([] : List Int), false)) ((spec_l01Copy.f k a0z a0).bind fun t2 => j0 a1 a2 t2.1 t2.2 0)))
def spec_PutFix.l0b {R : Type} (ret : Bool × (List Int) × Bool → Option R) (j0 : Int → Int → Bool → (List Int) → Int → Option R) (k : Nat) (x1 : Int) (x2 : Int) (x8z : Bool) (x8 : List Int) (x9 : Int) : Option R :=
  cond (decide (x9 < x2)) (cond (decide ((x8).length + 1 < 140737488355328)) (j0 (RowKit.wrap64 (Int.tdiv x1 256)) x2 false (x8 ++ ([(((Int.tmod x1 256)) % 256)] : List Int)) (RowKit.wrap64 (x9 + 1))) (none)) (ret (x8z, x8, true))
def spec_PutFix.l0 : Nat → Int → Int → Bool → (List Int) → Int → Option (Bool × (List Int) × Bool)
  | 0, _, _, _, _, _ => none
  | k + 1, x1, x2, x8z, x8, x9 => spec_PutFix.l0b some (spec_PutFix.l0 k) k x1 x2 x8z x8 x9
def spec_PutFix.f : Nat → Bool → (List Int) → Int → Int → Option (Bool × (List Int) × Bool)
  | 0, _, _, _, _ => none
  | k + 1, a0z, a0, a1, a2 => spec_PutFix.b some (spec_PutFix.l0 k) k a0z a0 a1 a2
def spec_PutFix.enc (r : Bool × (List Int) × Bool) : Res := ⟨[.vals false [((.nums 5 .u8 r.1 r.2.1), true)], .vals false [((.bool r.2.2), true)]], []⟩
def spec_PutFix.ans (k : Nat) : List Arg → Ans
  | [.v (.nums 5 .u8 a0z a0), .v (.int .i64 a1), .v (.int .i64 a2)] => ⟨spec_PutFix.f k a0z a0 a1 a2, spec_PutFix.enc⟩
  | _ => Ans.no
def spec_PutFix.Cs (k : Nat) : CallSem := tab [(122, spec_l01In.ans k), (187, spec_l01Top.ans k), (130, spec_l01Copy.ans k)]
def spec_PutFix.cuts : List (Nat × Keep) := [(122, ⟨[(1, some []), (2, some []), (8, none), (9, some [])], []⟩)]
noncomputable def spec_PutFix.K0 : List Fr := framesAt [true, true, true, false, true, false] (bodyOf Try.f133 spec_PutFix.cuts) []
def spec_PutFix.N0 (x1 : Int) (x2 : Int) (x8z : Bool) (x8 : List Int) (x9 : Int) : St := stOf 39 39 3 [(1, .val (V.s (.int .i64 x1))), (2, .val (V.s (.int .i64 x2))), (8, .val ⟨(.nums 5 .u8 x8z x8), [.l 8 0], true, some (.l 8 0)⟩), (9, .val (V.s (.int .i64 x9)))] []
theorem spec_PutFix.s (k : Nat) (a0z : Bool) (a0 : List Int) (a1 : Int) (a2 : Int) : answer Try.prog spec_PutFix.Cs 100000 spec_PutFix.cuts [] Try.f133 (k + 1) [.v (.nums 5 .u8 a0z a0), .v (.int .i64 a1), .v (.int .i64 a2)] = spec_PutFix.b (fun r => some (spec_PutFix.enc r)) (fun x1 x2 x8z x8 x9 => rounds Try.prog spec_PutFix.Cs (finish Try.prog [] Try.f133 [.v (.nums 5 .u8 a0z a0), .v (.int .i64 a1), .v (.int .i64 a2)]) 100000 k spec_PutFix.K0 (spec_PutFix.N0 x1 x2 x8z x8 x9)) k a0z a0 a1 a2 := by kernel_rfl
theorem spec_PutFix.s0 (k : Nat) (G : List Fr → St → Option Res) (a0z : Bool) (a0 : List Int) (a1 : Int) (a2 : Int) (yx1 : Int) (yx2 : Int) (yx8z : Bool) (yx8 : List Int) (yx9 : Int) : resume Try.prog (spec_PutFix.Cs k) G (finish Try.prog [] Try.f133 [.v (.nums 5 .u8 a0z a0), .v (.int .i64 a1), .v (.int .i64 a2)]) 100000 spec_PutFix.K0 (spec_PutFix.N0 yx1 yx2 yx8z yx8 yx9) = spec_PutFix.l0b (fun r => some (spec_PutFix.enc r)) (fun x1 x2 x8z x8 x9 => G spec_PutFix.K0 (spec_PutFix.N0 x1 x2 x8z x8 x9)) k yx1 yx2 yx8z yx8 yx9 := by kernel_rfl
theorem spec_PutFix.b_nat {R R' : Type} (e : R → R') (ret : Bool × (List Int) × Bool → Option R) (j0 : Int → Int → Bool → (List Int) → Int → Option R) (k : Nat) (a0z : Bool) (a0 : List Int) (a1 : Int) (a2 : Int) : spec_PutFix.b (fun r => (ret r).map e) (fun x1 x2 x8z x8 x9 => (j0 x1 x2 x8z x8 x9).map e) k a0z a0 a1 a2 = (spec_PutFix.b ret j0 k a0z a0 a1 a2).map e := by
  unfold spec_PutFix.b
  repeat' first | with_reducible refine nat_cond ?_ ?_ | with_reducible refine nat_bind fun _ => ?_ | rfl
theorem spec_PutFix.l0b_nat {R R' : Type} (e : R → R') (ret : Bool × (List Int) × Bool → Option R) (j0 : Int → Int → Bool → (List Int) → Int → Option R) (k : Nat) (x1 : Int) (x2 : Int) (x8z : Bool) (x8 : List Int) (x9 : Int) : spec_PutFix.l0b (fun r => (ret r).map e) (fun x1 x2 x8z x8 x9 => (j0 x1 x2 x8z x8 x9).map e) k x1 x2 x8z x8 x9 = (spec_PutFix.l0b ret j0 k x1 x2 x8z x8 x9).map e := by
  unfold spec_PutFix.l0b
  repeat' first | with_reducible refine nat_cond ?_ ?_ | with_reducible refine nat_bind fun _ => ?_ | rfl
theorem spec_PutFix.rounds_eq (a0z : Bool) (a0 : List Int) (a1 : Int) (a2 : Int) : ∀ k, (∀ (x1 : Int) (x2 : Int) (x8z : Bool) (x8 : List Int) (x9 : Int), rounds Try.prog spec_PutFix.Cs (finish Try.prog [] Try.f133 [.v (.nums 5 .u8 a0z a0), .v (.int .i64 a1), .v (.int .i64 a2)]) 100000 k spec_PutFix.K0 (spec_PutFix.N0 x1 x2 x8z x8 x9) = (spec_PutFix.l0 k x1 x2 x8z x8 x9).map spec_PutFix.enc)
  | 0 => fun _ _ _ _ _ => rfl
  | k + 1 => by
    have ih := spec_PutFix.rounds_eq a0z a0 a1 a2 k
    refine fun _ _ _ _ _ => ?_
    · refine (spec_PutFix.s0 k _ a0z a0 a1 a2 _ _ _ _ _).trans (Eq.trans ?_ (spec_PutFix.l0b_nat spec_PutFix.enc some (spec_PutFix.l0 k) k _ _ _ _ _))
      simp only [ih, Option.map_some]
theorem spec_PutFix.eq (k : Nat) (a0z : Bool) (a0 : List Int) (a1 : Int) (a2 : Int) : answer Try.prog spec_PutFix.Cs 100000 spec_PutFix.cuts [] Try.f133 (k + 1) [.v (.nums 5 .u8 a0z a0), .v (.int .i64 a1), .v (.int .i64 a2)] = (spec_PutFix.f (k + 1) a0z a0 a1 a2).map spec_PutFix.enc := by
  have ih := spec_PutFix.rounds_eq a0z a0 a1 a2 k
  refine (spec_PutFix.s k a0z a0 a1 a2).trans (Eq.trans ?_ (spec_PutFix.b_nat spec_PutFix.enc some (spec_PutFix.l0 k) k a0z a0 a1 a2))
  simp only [ih, Option.map_some]
theorem spec_PutFix.sound (k : Nat) : SoundF Try.prog 133 (fun a => (spec_PutFix.ans k a).val) := by
  refine sound_plain (fun args res h => ?_) (fun t n => rfl)
  unfold spec_PutFix.ans at h
  dsimp only at h
  split at h
  · cases k with
    | zero => cases h
    | succ k =>
      unfold Ans.val at h
      rw [← spec_PutFix.eq] at h
      exact answer_sound mixed Try.func133 _ _ _ (k + 1) (fun j _ => tab_sound (tab_cons (spec_l01In.sound j) (tab_cons (spec_l01Top.sound j) (tab_cons (spec_l01Copy.sound j) (tab_nil))))) _ _ h
  · exact (Ans.no_val h).elim

/-! loop.example/g00790/spec.BitsHas -/
def spec_BitsHas.b {R : Type} (ret : Bool → Option R) (k : Nat) (a0z : Bool) (a0 : List Int) (a1 : Int) : Option R :=
  cond (decide (a1 ≥ 0)) (cond (decide ((RowKit.wrap64 (Int.tdiv a1 8)) < ((a0).length : Int))) (cond (decide ((0 : Int) ≤ (RowKit.wrap64 (Int.tdiv a1 8)))) (cond (decide ((RowKit.wrap64 (Int.tdiv a1 8)) < ((a0).length : Int))) (cond (decide ((0 : Int) ≤ (Int.tmod a1 8))) (ret (decide ((Int.tmod (shrI .i64 (RowKit.wrap64 ((rdI a0 (RowKit.wrap64 (Int.tdiv a1 8))))) (Int.tmod a1 8)) 2) = 1))) (none)) (none)) (none)) (ret false)) (ret false)
def spec_BitsHas.f : Nat → Bool → (List Int) → Int → Option Bool
  | 0, _, _, _ => none
  | k + 1, a0z, a0, a1 => spec_BitsHas.b some k a0z a0 a1
def spec_BitsHas.enc (r : Bool) : Res := ⟨[.vals false [((.bool r), true)]], []⟩
def spec_BitsHas.ans (k : Nat) : List Arg → Ans
  | [.v (.nums 5 .u8 a0z a0), .v (.int .i64 a1)] => ⟨spec_BitsHas.f k a0z a0 a1, spec_BitsHas.enc⟩
  | _ => Ans.no
def spec_BitsHas.Cs (k : Nat) : CallSem := tab []
def spec_BitsHas.cuts : List (Nat × Keep) := []
theorem spec_BitsHas.s (k : Nat) (a0z : Bool) (a0 : List Int) (a1 : Int) : answer Try.prog spec_BitsHas.Cs 100000 spec_BitsHas.cuts [] Try.f188 (k + 1) [.v (.nums 5 .u8 a0z a0), .v (.int .i64 a1)] = spec_BitsHas.b (fun r => some (spec_BitsHas.enc r)) k a0z a0 a1 := by kernel_rfl
theorem spec_BitsHas.b_nat {R R' : Type} (e : R → R') (ret : Bool → Option R) (k : Nat) (a0z : Bool) (a0 : List Int) (a1 : Int) : spec_BitsHas.b (fun r => (ret r).map e) k a0z a0 a1 = (spec_BitsHas.b ret k a0z a0 a1).map e := by
  unfold spec_BitsHas.b
  repeat' first | with_reducible refine nat_cond ?_ ?_ | with_reducible refine nat_bind fun _ => ?_ | rfl
theorem spec_BitsHas.eq (k : Nat) (a0z : Bool) (a0 : List Int) (a1 : Int) : answer Try.prog spec_BitsHas.Cs 100000 spec_BitsHas.cuts [] Try.f188 (k + 1) [.v (.nums 5 .u8 a0z a0), .v (.int .i64 a1)] = (spec_BitsHas.f (k + 1) a0z a0 a1).map spec_BitsHas.enc := by
  refine (spec_BitsHas.s k a0z a0 a1).trans (Eq.trans ?_ (spec_BitsHas.b_nat spec_BitsHas.enc some k a0z a0 a1))
  simp only [Option.map_some]
theorem spec_BitsHas.sound (k : Nat) : SoundF Try.prog 188 (fun a => (spec_BitsHas.ans k a).val) := by
  refine sound_plain (fun args res h => ?_) (fun t n => rfl)
  unfold spec_BitsHas.ans at h
  dsimp only at h
  split at h
  · cases k with
    | zero => cases h
    | succ k =>
      unfold Ans.val at h
      rw [← spec_BitsHas.eq] at h
      exact answer_sound mixed Try.func188 _ _ _ (k + 1) (fun j _ => tab_sound (tab_nil)) _ _ h
  · exact (Ans.no_val h).elim

/-! loop.example/g00790/spec.BitsList -/
def spec_BitsList.b {R : Type} (ret : Bool × List Int → Option R) (j0 : Bool → (List Int) → (List Int) → Int → Option R) (k : Nat) (a0z : Bool) (a0 : List Int) : Option R :=
  j0 a0z a0 ([] : List Int) 0
def spec_BitsList.l0b {R : Type} (ret : Bool × List Int → Option R) (j0 : Bool → (List Int) → (List Int) → Int → Option R) (k : Nat) (x0z : Bool) (x0 : List Int) (x3 : List Int) (x4 : Int) : Option R :=
  cond (decide (x4 < (RowKit.wrap64 ((8 : Int) * ((x0).length : Int))))) ((spec_BitsHas.f k x0z x0 x4).bind fun t0 => cond t0 (cond (decide ((x3).length + 1 < 17592186044416)) (j0 x0z x0 (x3 ++ ([x4] : List Int)) (RowKit.wrap64 (x4 + 1))) (none)) (j0 x0z x0 x3 (RowKit.wrap64 (x4 + 1)))) (ret (false, x3))
def spec_BitsList.l0 : Nat → Bool → (List Int) → (List Int) → Int → Option (Bool × List Int)
  | 0, _, _, _, _ => none
  | k + 1, x0z, x0, x3, x4 => spec_BitsList.l0b some (spec_BitsList.l0 k) k x0z x0 x3 x4
def spec_BitsList.f : Nat → Bool → (List Int) → Option (Bool × List Int)
  | 0, _, _ => none
  | k + 1, a0z, a0 => spec_BitsList.b some (spec_BitsList.l0 k) k a0z a0
def spec_BitsList.enc (r : Bool × List Int) : Res := ⟨[.vals false [((.nums 3 .i64 r.1 r.2), true)]], []⟩
def spec_BitsList.ans (k : Nat) : List Arg → Ans
  | [.v (.nums 5 .u8 a0z a0)] => ⟨spec_BitsList.f k a0z a0, spec_BitsList.enc⟩
  | _ => Ans.no
def spec_BitsList.Cs (k : Nat) : CallSem := tab [(188, spec_BitsHas.ans k)]
def spec_BitsList.cuts : List (Nat × Keep) := [(58, ⟨[(0, some []), (3, none), (4, some [])], []⟩)]
noncomputable def spec_BitsList.K0 : List Fr := framesAt [true, true, false, true, false] (bodyOf Try.f136 spec_BitsList.cuts) []
def spec_BitsList.N0 (x0z : Bool) (x0 : List Int) (x3 : List Int) (x4 : Int) : St := stOf 21 21 1 [(0, .val ⟨(.nums 5 .u8 x0z x0), [], false, none⟩), (3, .val ⟨(.nums 3 .i64 false x3), [.l 3 0], true, some (.l 3 0)⟩), (4, .val (V.s (.int .i64 x4)))] []
theorem spec_BitsList.s (k : Nat) (a0z : Bool) (a0 : List Int) : answer Try.prog spec_BitsList.Cs 100000 spec_BitsList.cuts [] Try.f136 (k + 1) [.v (.nums 5 .u8 a0z a0)] = spec_BitsList.b (fun r => some (spec_BitsList.enc r)) (fun x0z x0 x3 x4 => rounds Try.prog spec_BitsList.Cs (finish Try.prog [] Try.f136 [.v (.nums 5 .u8 a0z a0)]) 100000 k spec_BitsList.K0 (spec_BitsList.N0 x0z x0 x3 x4)) k a0z a0 := by kernel_rfl
theorem spec_BitsList.s0 (k : Nat) (G : List Fr → St → Option Res) (a0z : Bool) (a0 : List Int) (yx0z : Bool) (yx0 : List Int) (yx3 : List Int) (yx4 : Int) : resume Try.prog (spec_BitsList.Cs k) G (finish Try.prog [] Try.f136 [.v (.nums 5 .u8 a0z a0)]) 100000 spec_BitsList.K0 (spec_BitsList.N0 yx0z yx0 yx3 yx4) = spec_BitsList.l0b (fun r => some (spec_BitsList.enc r)) (fun x0z x0 x3 x4 => G spec_BitsList.K0 (spec_BitsList.N0 x0z x0 x3 x4)) k yx0z yx0 yx3 yx4 := by kernel_rfl
theorem spec_BitsList.b_nat {R R' : Type} (e : R → R') (ret : Bool × List Int → Option R) (j0 : Bool → (List Int) → (List Int) → Int → Option R) (k : Nat) (a0z : Bool) (a0 : List Int) : spec_BitsList.b (fun r => (ret r).map e) (fun x0z x0 x3 x4 => (j0 x0z x0 x3 x4).map e) k a0z a0 = (spec_BitsList.b ret j0 k a0z a0).map e := by
  unfold spec_BitsList.b
  repeat' first | with_reducible refine nat_cond ?_ ?_ | with_reducible refine nat_bind fun _ => ?_ | rfl
theorem spec_BitsList.l0b_nat {R R' : Type} (e : R → R') (ret : Bool × List Int → Option R) (j0 : Bool → (List Int) → (List Int) → Int → Option R) (k : Nat) (x0z : Bool) (x0 : List Int) (x3 : List Int) (x4 : Int) : spec_BitsList.l0b (fun r => (ret r).map e) (fun x0z x0 x3 x4 => (j0 x0z x0 x3 x4).map e) k x0z x0 x3 x4 = (spec_BitsList.l0b ret j0 k x0z x0 x3 x4).map e := by
  unfold spec_BitsList.l0b
  repeat' first | with_reducible refine nat_cond ?_ ?_ | with_reducible refine nat_bind fun _ => ?_ | rfl
theorem spec_BitsList.rounds_eq (a0z : Bool) (a0 : List Int) : ∀ k, (∀ (x0z : Bool) (x0 : List Int) (x3 : List Int) (x4 : Int), rounds Try.prog spec_BitsList.Cs (finish Try.prog [] Try.f136 [.v (.nums 5 .u8 a0z a0)]) 100000 k spec_BitsList.K0 (spec_BitsList.N0 x0z x0 x3 x4) = (spec_BitsList.l0 k x0z x0 x3 x4).map spec_BitsList.enc)
  | 0 => fun _ _ _ _ => rfl
  | k + 1 => by
    have ih := spec_BitsList.rounds_eq a0z a0 k
    refine fun _ _ _ _ => ?_
    · refine (spec_BitsList.s0 k _ a0z a0 _ _ _ _).trans (Eq.trans ?_ (spec_BitsList.l0b_nat spec_BitsList.enc some (spec_BitsList.l0 k) k _ _ _ _))
      simp only [ih, Option.map_some]
theorem spec_BitsList.eq (k : Nat) (a0z : Bool) (a0 : List Int) : answer Try.prog spec_BitsList.Cs 100000 spec_BitsList.cuts [] Try.f136 (k + 1) [.v (.nums 5 .u8 a0z a0)] = (spec_BitsList.f (k + 1) a0z a0).map spec_BitsList.enc := by
  have ih := spec_BitsList.rounds_eq a0z a0 k
  refine (spec_BitsList.s k a0z a0).trans (Eq.trans ?_ (spec_BitsList.b_nat spec_BitsList.enc some (spec_BitsList.l0 k) k a0z a0))
  simp only [ih, Option.map_some]
theorem spec_BitsList.sound (k : Nat) : SoundF Try.prog 136 (fun a => (spec_BitsList.ans k a).val) := by
  refine sound_plain (fun args res h => ?_) (fun t n => rfl)
  unfold spec_BitsList.ans at h
  dsimp only at h
  split at h
  · cases k with
    | zero => cases h
    | succ k =>
      unfold Ans.val at h
      rw [← spec_BitsList.eq] at h
      exact answer_sound mixed Try.func136 _ _ _ (k + 1) (fun j _ => tab_sound (tab_cons (spec_BitsHas.sound j) (tab_nil))) _ _ h
  · exact (Ans.no_val h).elim

/-! loop.example/g00790/spec.BitsOk -/
def spec_BitsOk.b {R : Type} (ret : Bool → Option R) (k : Nat) (a0z : Bool) (a0 : List Int) (a1 : Int) : Option R :=
  (spec_l02Signers.f k a1).bind fun t0 => cond (!t0) (ret false) ((spec_BitsSize.f k a1).bind fun t1 => cond (!(decide (((a0).length : Int) = t1))) (ret false) ((spec_BitsList.f k a0z a0).bind fun t2 => cond (decide (((t2.2).length : Int) = 0)) (ret true) (cond (decide ((0 : Int) ≤ (RowKit.wrap64 (((t2.2).length : Int) - 1)))) (cond (decide ((RowKit.wrap64 (((t2.2).length : Int) - 1)) < ((t2.2).length : Int))) (ret (decide ((rdI t2.2 (RowKit.wrap64 (((t2.2).length : Int) - 1))) < a1))) (none)) (none))))
def spec_BitsOk.f : Nat → Bool → (List Int) → Int → Option Bool
  | 0, _, _, _ => none
  | k + 1, a0z, a0, a1 => spec_BitsOk.b some k a0z a0 a1
def spec_BitsOk.enc (r : Bool) : Res := ⟨[.vals false [((.bool r), true)]], []⟩
def spec_BitsOk.ans (k : Nat) : List Arg → Ans
  | [.v (.nums 5 .u8 a0z a0), .v (.int .i64 a1)] => ⟨spec_BitsOk.f k a0z a0 a1, spec_BitsOk.enc⟩
  | _ => Ans.no
def spec_BitsOk.Cs (k : Nat) : CallSem := tab [(155, spec_l02Signers.ans k), (134, spec_BitsSize.ans k), (136, spec_BitsList.ans k)]
def spec_BitsOk.cuts : List (Nat × Keep) := []
theorem spec_BitsOk.s (k : Nat) (a0z : Bool) (a0 : List Int) (a1 : Int) : answer Try.prog spec_BitsOk.Cs 100000 spec_BitsOk.cuts [] Try.f138 (k + 1) [.v (.nums 5 .u8 a0z a0), .v (.int .i64 a1)] = spec_BitsOk.b (fun r => some (spec_BitsOk.enc r)) k a0z a0 a1 := by kernel_rfl
theorem spec_BitsOk.b_nat {R R' : Type} (e : R → R') (ret : Bool → Option R) (k : Nat) (a0z : Bool) (a0 : List Int) (a1 : Int) : spec_BitsOk.b (fun r => (ret r).map e) k a0z a0 a1 = (spec_BitsOk.b ret k a0z a0 a1).map e := by
  unfold spec_BitsOk.b
  repeat' first | with_reducible refine nat_cond ?_ ?_ | with_reducible refine nat_bind fun _ => ?_ | rfl
theorem spec_BitsOk.eq (k : Nat) (a0z : Bool) (a0 : List Int) (a1 : Int) : answer Try.prog spec_BitsOk.Cs 100000 spec_BitsOk.cuts [] Try.f138 (k + 1) [.v (.nums 5 .u8 a0z a0), .v (.int .i64 a1)] = (spec_BitsOk.f (k + 1) a0z a0 a1).map spec_BitsOk.enc := by
  refine (spec_BitsOk.s k a0z a0 a1).trans (Eq.trans ?_ (spec_BitsOk.b_nat spec_BitsOk.enc some k a0z a0 a1))
  simp only [Option.map_some]
theorem spec_BitsOk.sound (k : Nat) : SoundF Try.prog 138 (fun a => (spec_BitsOk.ans k a).val) := by
  refine sound_plain (fun args res h => ?_) (fun t n => rfl)
  unfold spec_BitsOk.ans at h
  dsimp only at h
  split at h
  · cases k with
    | zero => cases h
    | succ k =>
      unfold Ans.val at h
      rw [← spec_BitsOk.eq] at h
      exact answer_sound mixed Try.func138 _ _ _ (k + 1) (fun j _ => tab_sound (tab_cons (spec_l02Signers.sound j) (tab_cons (spec_BitsSize.sound j) (tab_cons (spec_BitsList.sound j) (tab_nil))))) _ _ h
  · exact (Ans.no_val h).elim

/-! loop.example/g00790/spec.WeightOf -/
def spec_WeightOf.b {R : Type} (ret : Int → Option R) (j0 : Bool → (List Int) → Int → Bool → (List T) → Int → Int → Option R) (k : Nat) (a0_0z : Bool) (a0_0 : List T) (a1z : Bool) (a1 : List Int) : Option R :=
  (spec_TableOk.f k a0_0z a0_0).bind fun t0 => cond (!t0) (ret 0) ((spec_BitsOk.f k a1z a1 ((a0_0).length : Int)).bind fun t1 => cond (!t1) (ret 0) (j0 a1z a1 0 a0_0z a0_0 ((a0_0).length : Int) 0))
def spec_WeightOf.l0b {R : Type} (ret : Int → Option R) (j0 : Bool → (List Int) → Int → Bool → (List T) → Int → Int → Option R) (k : Nat) (x1z : Bool) (x1 : List Int) (x5 : Int) (x20z : Bool) (x20 : List T) (x21 : Int) (x22 : Int) : Option R :=
  cond (decide (x22 < x21)) (cond (decide ((0 : Int) ≤ x22)) (cond (decide (x22 < ((x20).length : Int))) ((spec_BitsHas.f k x1z x1 x22).bind fun t0 => cond t0 (j0 x1z x1 (RowKit.wrap64 (x5 + ((((x20).getD (x22).toNat .bad).cells.getD 0 .bad)).toInt)) x20z x20 x21 (RowKit.wrap64 (x22 + 1))) (j0 x1z x1 x5 x20z x20 x21 (RowKit.wrap64 (x22 + 1)))) (none)) (none)) (ret x5)
def spec_WeightOf.l0 : Nat → Bool → (List Int) → Int → Bool → (List T) → Int → Int → Option Int
  | 0, _, _, _, _, _, _, _ => none
  | k + 1, x1z, x1, x5, x20z, x20, x21, x22 => spec_WeightOf.l0b some (spec_WeightOf.l0 k) k x1z x1 x5 x20z x20 x21 x22
def spec_WeightOf.f : Nat → Bool → (List T) → Bool → (List Int) → Option Int
  | 0, _, _, _, _ => none
  | k + 1, a0_0z, a0_0, a1z, a1 => spec_WeightOf.b some (spec_WeightOf.l0 k) k a0_0z a0_0 a1z a1
def spec_WeightOf.enc (r : Int) : Res := ⟨[.vals false [((.int .i64 r), true)]], []⟩
def spec_WeightOf.ans (k : Nat) : List Arg → Ans
  | [.v (.agg [(.sl 160 a0_0z a0_0)]), .v (.nums 5 .u8 a1z a1)] => ⟨spec_WeightOf.f k a0_0z a0_0 a1z a1, spec_WeightOf.enc⟩
  | _ => Ans.no
def spec_WeightOf.Cs (k : Nat) : CallSem := tab [(121, spec_TableOk.ans k), (138, spec_BitsOk.ans k), (188, spec_BitsHas.ans k)]
def spec_WeightOf.cuts : List (Nat × Keep) := [(122, ⟨[(1, some []), (5, some []), (20, some []), (21, some []), (22, some [])], []⟩)]
noncomputable def spec_WeightOf.K0 : List Fr := framesAt [true, true, true, false, true, false] (bodyOf Try.f169 spec_WeightOf.cuts) []
def spec_WeightOf.N0 (x1z : Bool) (x1 : List Int) (x5 : Int) (x20z : Bool) (x20 : List T) (x21 : Int) (x22 : Int) : St := stOf 36 36 2 [(1, .val ⟨(.nums 5 .u8 x1z x1), [], false, none⟩), (5, .val (V.s (.int .i64 x5))), (20, .val ⟨(.sl 160 x20z x20), [], false, none⟩), (21, .val (V.s (.int .i64 x21))), (22, .val (V.s (.int .i64 x22)))] []
theorem spec_WeightOf.s (k : Nat) (a0_0z : Bool) (a0_0 : List T) (a1z : Bool) (a1 : List Int) : answer Try.prog spec_WeightOf.Cs 100000 spec_WeightOf.cuts [] Try.f169 (k + 1) [.v (.agg [(.sl 160 a0_0z a0_0)]), .v (.nums 5 .u8 a1z a1)] = spec_WeightOf.b (fun r => some (spec_WeightOf.enc r)) (fun x1z x1 x5 x20z x20 x21 x22 => rounds Try.prog spec_WeightOf.Cs (finish Try.prog [] Try.f169 [.v (.agg [(.sl 160 a0_0z a0_0)]), .v (.nums 5 .u8 a1z a1)]) 100000 k spec_WeightOf.K0 (spec_WeightOf.N0 x1z x1 x5 x20z x20 x21 x22)) k a0_0z a0_0 a1z a1 := by kernel_rfl
theorem spec_WeightOf.s0 (k : Nat) (G : List Fr → St → Option Res) (a0_0z : Bool) (a0_0 : List T) (a1z : Bool) (a1 : List Int) (yx1z : Bool) (yx1 : List Int) (yx5 : Int) (yx20z : Bool) (yx20 : List T) (yx21 : Int) (yx22 : Int) : resume Try.prog (spec_WeightOf.Cs k) G (finish Try.prog [] Try.f169 [.v (.agg [(.sl 160 a0_0z a0_0)]), .v (.nums 5 .u8 a1z a1)]) 100000 spec_WeightOf.K0 (spec_WeightOf.N0 yx1z yx1 yx5 yx20z yx20 yx21 yx22) = spec_WeightOf.l0b (fun r => some (spec_WeightOf.enc r)) (fun x1z x1 x5 x20z x20 x21 x22 => G spec_WeightOf.K0 (spec_WeightOf.N0 x1z x1 x5 x20z x20 x21 x22)) k yx1z yx1 yx5 yx20z yx20 yx21 yx22 := by kernel_rfl
theorem spec_WeightOf.b_nat {R R' : Type} (e : R → R') (ret : Int → Option R) (j0 : Bool → (List Int) → Int → Bool → (List T) → Int → Int → Option R) (k : Nat) (a0_0z : Bool) (a0_0 : List T) (a1z : Bool) (a1 : List Int) : spec_WeightOf.b (fun r => (ret r).map e) (fun x1z x1 x5 x20z x20 x21 x22 => (j0 x1z x1 x5 x20z x20 x21 x22).map e) k a0_0z a0_0 a1z a1 = (spec_WeightOf.b ret j0 k a0_0z a0_0 a1z a1).map e := by
  unfold spec_WeightOf.b
  repeat' first | with_reducible refine nat_cond ?_ ?_ | with_reducible refine nat_bind fun _ => ?_ | rfl
theorem spec_WeightOf.l0b_nat {R R' : Type} (e : R → R') (ret : Int → Option R) (j0 : Bool → (List Int) → Int → Bool → (List T) → Int → Int → Option R) (k : Nat) (x1z : Bool) (x1 : List Int) (x5 : Int) (x20z : Bool) (x20 : List T) (x21 : Int) (x22 : Int) : spec_WeightOf.l0b (fun r => (ret r).map e) (fun x1z x1 x5 x20z x20 x21 x22 => (j0 x1z x1 x5 x20z x20 x21 x22).map e) k x1z x1 x5 x20z x20 x21 x22 = (spec_WeightOf.l0b ret j0 k x1z x1 x5 x20z x20 x21 x22).map e := by
  unfold spec_WeightOf.l0b
  repeat' first | with_reducible refine nat_cond ?_ ?_ | with_reducible refine nat_bind fun _ => ?_ | rfl
theorem spec_WeightOf.rounds_eq (a0_0z : Bool) (a0_0 : List T) (a1z : Bool) (a1 : List Int) : ∀ k, (∀ (x1z : Bool) (x1 : List Int) (x5 : Int) (x20z : Bool) (x20 : List T) (x21 : Int) (x22 : Int), rounds Try.prog spec_WeightOf.Cs (finish Try.prog [] Try.f169 [.v (.agg [(.sl 160 a0_0z a0_0)]), .v (.nums 5 .u8 a1z a1)]) 100000 k spec_WeightOf.K0 (spec_WeightOf.N0 x1z x1 x5 x20z x20 x21 x22) = (spec_WeightOf.l0 k x1z x1 x5 x20z x20 x21 x22).map spec_WeightOf.enc)
  | 0 => fun _ _ _ _ _ _ _ => rfl
  | k + 1 => by
    have ih := spec_WeightOf.rounds_eq a0_0z a0_0 a1z a1 k
    refine fun _ _ _ _ _ _ _ => ?_
    · refine (spec_WeightOf.s0 k _ a0_0z a0_0 a1z a1 _ _ _ _ _ _ _).trans (Eq.trans ?_ (spec_WeightOf.l0b_nat spec_WeightOf.enc some (spec_WeightOf.l0 k) k _ _ _ _ _ _ _))
      simp only [ih, Option.map_some]
theorem spec_WeightOf.eq (k : Nat) (a0_0z : Bool) (a0_0 : List T) (a1z : Bool) (a1 : List Int) : answer Try.prog spec_WeightOf.Cs 100000 spec_WeightOf.cuts [] Try.f169 (k + 1) [.v (.agg [(.sl 160 a0_0z a0_0)]), .v (.nums 5 .u8 a1z a1)] = (spec_WeightOf.f (k + 1) a0_0z a0_0 a1z a1).map spec_WeightOf.enc := by
  have ih := spec_WeightOf.rounds_eq a0_0z a0_0 a1z a1 k
  refine (spec_WeightOf.s k a0_0z a0_0 a1z a1).trans (Eq.trans ?_ (spec_WeightOf.b_nat spec_WeightOf.enc some (spec_WeightOf.l0 k) k a0_0z a0_0 a1z a1))
  simp only [ih, Option.map_some]
theorem spec_WeightOf.sound (k : Nat) : SoundF Try.prog 169 (fun a => (spec_WeightOf.ans k a).val) := by
  refine sound_plain (fun args res h => ?_) (fun t n => rfl)
  unfold spec_WeightOf.ans at h
  dsimp only at h
  split at h
  · cases k with
    | zero => cases h
    | succ k =>
      unfold Ans.val at h
      rw [← spec_WeightOf.eq] at h
      exact answer_sound mixed Try.func169 _ _ _ (k + 1) (fun j _ => tab_sound (tab_cons (spec_TableOk.sound j) (tab_cons (spec_BitsOk.sound j) (tab_cons (spec_BitsHas.sound j) (tab_nil))))) _ _ h
  · exact (Ans.no_val h).elim

/-! loop.example/g00790/spec.TotalOf -/
def spec_TotalOf.b {R : Type} (ret : Int → Option R) (j0 : Int → Bool → (List T) → Int → Int → Option R) (k : Nat) (a0_0z : Bool) (a0_0 : List T) : Option R :=
  (spec_TableOk.f k a0_0z a0_0).bind fun t0 => cond (!t0) (ret 0) (j0 0 a0_0z a0_0 ((a0_0).length : Int) 0)
def spec_TotalOf.l0b {R : Type} (ret : Int → Option R) (j0 : Int → Bool → (List T) → Int → Int → Option R) (k : Nat) (x3 : Int) (x10z : Bool) (x10 : List T) (x11 : Int) (x12 : Int) : Option R :=
  cond (decide (x12 < x11)) (cond (decide ((0 : Int) ≤ x12)) (cond (decide (x12 < ((x10).length : Int))) (j0 (RowKit.wrap64 (x3 + ((((x10).getD (x12).toNat .bad).cells.getD 0 .bad)).toInt)) x10z x10 x11 (RowKit.wrap64 (x12 + 1))) (none)) (none)) (ret x3)
def spec_TotalOf.l0 : Nat → Int → Bool → (List T) → Int → Int → Option Int
  | 0, _, _, _, _, _ => none
  | k + 1, x3, x10z, x10, x11, x12 => spec_TotalOf.l0b some (spec_TotalOf.l0 k) k x3 x10z x10 x11 x12
def spec_TotalOf.f : Nat → Bool → (List T) → Option Int
  | 0, _, _ => none
  | k + 1, a0_0z, a0_0 => spec_TotalOf.b some (spec_TotalOf.l0 k) k a0_0z a0_0
def spec_TotalOf.enc (r : Int) : Res := ⟨[.vals false [((.int .i64 r), true)]], []⟩
def spec_TotalOf.ans (k : Nat) : List Arg → Ans
  | [.v (.agg [(.sl 160 a0_0z a0_0)])] => ⟨spec_TotalOf.f k a0_0z a0_0, spec_TotalOf.enc⟩
  | _ => Ans.no
def spec_TotalOf.Cs (k : Nat) : CallSem := tab [(121, spec_TableOk.ans k)]
def spec_TotalOf.cuts : List (Nat × Keep) := [(122, ⟨[(3, some []), (10, some []), (11, some []), (12, some [])], []⟩)]
noncomputable def spec_TotalOf.K0 : List Fr := framesAt [true, true, true, false, true, false] (bodyOf Try.f170 spec_TotalOf.cuts) []
def spec_TotalOf.N0 (x3 : Int) (x10z : Bool) (x10 : List T) (x11 : Int) (x12 : Int) : St := stOf 22 22 1 [(3, .val (V.s (.int .i64 x3))), (10, .val ⟨(.sl 160 x10z x10), [], false, none⟩), (11, .val (V.s (.int .i64 x11))), (12, .val (V.s (.int .i64 x12)))] []
theorem spec_TotalOf.s (k : Nat) (a0_0z : Bool) (a0_0 : List T) : answer Try.prog spec_TotalOf.Cs 100000 spec_TotalOf.cuts [] Try.f170 (k + 1) [.v (.agg [(.sl 160 a0_0z a0_0)])] = spec_TotalOf.b (fun r => some (spec_TotalOf.enc r)) (fun x3 x10z x10 x11 x12 => rounds Try.prog spec_TotalOf.Cs (finish Try.prog [] Try.f170 [.v (.agg [(.sl 160 a0_0z a0_0)])]) 100000 k spec_TotalOf.K0 (spec_TotalOf.N0 x3 x10z x10 x11 x12)) k a0_0z a0_0 := by kernel_rfl
theorem spec_TotalOf.s0 (k : Nat) (G : List Fr → St → Option Res) (a0_0z : Bool) (a0_0 : List T) (yx3 : Int) (yx10z : Bool) (yx10 : List T) (yx11 : Int) (yx12 : Int) : resume Try.prog (spec_TotalOf.Cs k) G (finish Try.prog [] Try.f170 [.v (.agg [(.sl 160 a0_0z a0_0)])]) 100000 spec_TotalOf.K0 (spec_TotalOf.N0 yx3 yx10z yx10 yx11 yx12) = spec_TotalOf.l0b (fun r => some (spec_TotalOf.enc r)) (fun x3 x10z x10 x11 x12 => G spec_TotalOf.K0 (spec_TotalOf.N0 x3 x10z x10 x11 x12)) k yx3 yx10z yx10 yx11 yx12 := by kernel_rfl
theorem spec_TotalOf.b_nat {R R' : Type} (e : R → R') (ret : Int → Option R) (j0 : Int → Bool → (List T) → Int → Int → Option R) (k : Nat) (a0_0z : Bool) (a0_0 : List T) : spec_TotalOf.b (fun r => (ret r).map e) (fun x3 x10z x10 x11 x12 => (j0 x3 x10z x10 x11 x12).map e) k a0_0z a0_0 = (spec_TotalOf.b ret j0 k a0_0z a0_0).map e := by
  unfold spec_TotalOf.b
  repeat' first | with_reducible refine nat_cond ?_ ?_ | with_reducible refine nat_bind fun _ => ?_ | rfl
theorem spec_TotalOf.l0b_nat {R R' : Type} (e : R → R') (ret : Int → Option R) (j0 : Int → Bool → (List T) → Int → Int → Option R) (k : Nat) (x3 : Int) (x10z : Bool) (x10 : List T) (x11 : Int) (x12 : Int) : spec_TotalOf.l0b (fun r => (ret r).map e) (fun x3 x10z x10 x11 x12 => (j0 x3 x10z x10 x11 x12).map e) k x3 x10z x10 x11 x12 = (spec_TotalOf.l0b ret j0 k x3 x10z x10 x11 x12).map e := by
  unfold spec_TotalOf.l0b
  repeat' first | with_reducible refine nat_cond ?_ ?_ | with_reducible refine nat_bind fun _ => ?_ | rfl
theorem spec_TotalOf.rounds_eq (a0_0z : Bool) (a0_0 : List T) : ∀ k, (∀ (x3 : Int) (x10z : Bool) (x10 : List T) (x11 : Int) (x12 : Int), rounds Try.prog spec_TotalOf.Cs (finish Try.prog [] Try.f170 [.v (.agg [(.sl 160 a0_0z a0_0)])]) 100000 k spec_TotalOf.K0 (spec_TotalOf.N0 x3 x10z x10 x11 x12) = (spec_TotalOf.l0 k x3 x10z x10 x11 x12).map spec_TotalOf.enc)
  | 0 => fun _ _ _ _ _ => rfl
  | k + 1 => by
    have ih := spec_TotalOf.rounds_eq a0_0z a0_0 k
    refine fun _ _ _ _ _ => ?_
    · refine (spec_TotalOf.s0 k _ a0_0z a0_0 _ _ _ _ _).trans (Eq.trans ?_ (spec_TotalOf.l0b_nat spec_TotalOf.enc some (spec_TotalOf.l0 k) k _ _ _ _ _))
      simp only [ih, Option.map_some]
theorem spec_TotalOf.eq (k : Nat) (a0_0z : Bool) (a0_0 : List T) : answer Try.prog spec_TotalOf.Cs 100000 spec_TotalOf.cuts [] Try.f170 (k + 1) [.v (.agg [(.sl 160 a0_0z a0_0)])] = (spec_TotalOf.f (k + 1) a0_0z a0_0).map spec_TotalOf.enc := by
  have ih := spec_TotalOf.rounds_eq a0_0z a0_0 k
  refine (spec_TotalOf.s k a0_0z a0_0).trans (Eq.trans ?_ (spec_TotalOf.b_nat spec_TotalOf.enc some (spec_TotalOf.l0 k) k a0_0z a0_0))
  simp only [ih, Option.map_some]
theorem spec_TotalOf.sound (k : Nat) : SoundF Try.prog 170 (fun a => (spec_TotalOf.ans k a).val) := by
  refine sound_plain (fun args res h => ?_) (fun t n => rfl)
  unfold spec_TotalOf.ans at h
  dsimp only at h
  split at h
  · cases k with
    | zero => cases h
    | succ k =>
      unfold Ans.val at h
      rw [← spec_TotalOf.eq] at h
      exact answer_sound mixed Try.func170 _ _ _ (k + 1) (fun j _ => tab_sound (tab_cons (spec_TableOk.sound j) (tab_nil))) _ _ h
  · exact (Ans.no_val h).elim

/-! loop.example/g00790/spec.IsQuorum -/
def spec_IsQuorum.b {R : Type} (ret : Bool → Option R) (k : Nat) (a0_0z : Bool) (a0_0 : List T) (a1z : Bool) (a1 : List Int) : Option R :=
  (spec_TableOk.f k a0_0z a0_0).bind fun t0 => cond t0 ((spec_WeightOf.f k a0_0z a0_0 a1z a1).bind fun t1 => (spec_TotalOf.f k a0_0z a0_0).bind fun t2 => ret (decide ((RowKit.wrap64 ((3 : Int) * t1)) > (RowKit.wrap64 ((2 : Int) * t2))))) (ret false)
def spec_IsQuorum.f : Nat → Bool → (List T) → Bool → (List Int) → Option Bool
  | 0, _, _, _, _ => none
  | k + 1, a0_0z, a0_0, a1z, a1 => spec_IsQuorum.b some k a0_0z a0_0 a1z a1
def spec_IsQuorum.enc (r : Bool) : Res := ⟨[.vals false [((.bool r), true)]], []⟩
def spec_IsQuorum.ans (k : Nat) : List Arg → Ans
  | [.v (.agg [(.sl 160 a0_0z a0_0)]), .v (.nums 5 .u8 a1z a1)] => ⟨spec_IsQuorum.f k a0_0z a0_0 a1z a1, spec_IsQuorum.enc⟩
  | _ => Ans.no
def spec_IsQuorum.Cs (k : Nat) : CallSem := tab [(121, spec_TableOk.ans k), (169, spec_WeightOf.ans k), (170, spec_TotalOf.ans k)]
def spec_IsQuorum.cuts : List (Nat × Keep) := []
theorem spec_IsQuorum.s (k : Nat) (a0_0z : Bool) (a0_0 : List T) (a1z : Bool) (a1 : List Int) : answer Try.prog spec_IsQuorum.Cs 100000 spec_IsQuorum.cuts [] Try.f102 (k + 1) [.v (.agg [(.sl 160 a0_0z a0_0)]), .v (.nums 5 .u8 a1z a1)] = spec_IsQuorum.b (fun r => some (spec_IsQuorum.enc r)) k a0_0z a0_0 a1z a1 := by kernel_rfl
theorem spec_IsQuorum.b_nat {R R' : Type} (e : R → R') (ret : Bool → Option R) (k : Nat) (a0_0z : Bool) (a0_0 : List T) (a1z : Bool) (a1 : List Int) : spec_IsQuorum.b (fun r => (ret r).map e) k a0_0z a0_0 a1z a1 = (spec_IsQuorum.b ret k a0_0z a0_0 a1z a1).map e := by
  unfold spec_IsQuorum.b
  repeat' first | with_reducible refine nat_cond ?_ ?_ | with_reducible refine nat_bind fun _ => ?_ | rfl
theorem spec_IsQuorum.eq (k : Nat) (a0_0z : Bool) (a0_0 : List T) (a1z : Bool) (a1 : List Int) : answer Try.prog spec_IsQuorum.Cs 100000 spec_IsQuorum.cuts [] Try.f102 (k + 1) [.v (.agg [(.sl 160 a0_0z a0_0)]), .v (.nums 5 .u8 a1z a1)] = (spec_IsQuorum.f (k + 1) a0_0z a0_0 a1z a1).map spec_IsQuorum.enc := by
  refine (spec_IsQuorum.s k a0_0z a0_0 a1z a1).trans (Eq.trans ?_ (spec_IsQuorum.b_nat spec_IsQuorum.enc some k a0_0z a0_0 a1z a1))
  simp only [Option.map_some]
theorem spec_IsQuorum.sound (k : Nat) : SoundF Try.prog 102 (fun a => (spec_IsQuorum.ans k a).val) := by
  refine sound_plain (fun args res h => ?_) (fun t n => rfl)
  unfold spec_IsQuorum.ans at h
  dsimp only at h
  split at h
  · cases k with
    | zero => cases h
    | succ k =>
      unfold Ans.val at h
      rw [← spec_IsQuorum.eq] at h
      exact answer_sound mixed Try.func102 _ _ _ (k + 1) (fun j _ => tab_sound (tab_cons (spec_TableOk.sound j) (tab_cons (spec_WeightOf.sound j) (tab_cons (spec_TotalOf.sound j) (tab_nil))))) _ _ h
  · exact (Ans.no_val h).elim

/-! loop.example/g00790/spec.l21Less -/
def spec_l21Less.b {R : Type} (ret : Bool → Option R) (j0 : Bool → (List Int) → Bool → (List Int) → Int → Int → Option R) (k : Nat) (a0z : Bool) (a0 : List Int) (a1z : Bool) (a1 : List Int) : Option R :=
  cond (!(decide (((a0).length : Int) = ((a1).length : Int)))) (ret (decide (((a0).length : Int) < ((a1).length : Int)))) (j0 a0z a0 a1z a1 ((a0).length : Int) 0)
def spec_l21Less.l0b {R : Type} (ret : Bool → Option R) (j0 : Bool → (List Int) → Bool → (List Int) → Int → Int → Option R) (k : Nat) (x0z : Bool) (x0 : List Int) (x1z : Bool) (x1 : List Int) (x17 : Int) (x18 : Int) : Option R :=
  cond (decide (x18 < x17)) (cond (decide ((0 : Int) ≤ x18)) (cond (decide (x18 < ((x0).length : Int))) (cond (decide ((0 : Int) ≤ x18)) (cond (decide (x18 < ((x1).length : Int))) (cond (!(decide ((rdI x0 x18) = (rdI x1 x18)))) (cond (decide ((0 : Int) ≤ x18)) (cond (decide (x18 < ((x0).length : Int))) (cond (decide ((0 : Int) ≤ x18)) (cond (decide (x18 < ((x1).length : Int))) (ret (decide ((rdI x0 x18) < (rdI x1 x18)))) (none)) (none)) (none)) (none)) (j0 x0z x0 x1z x1 x17 (RowKit.wrap64 (x18 + 1)))) (none)) (none)) (none)) (none)) (ret false)
def spec_l21Less.l0 : Nat → Bool → (List Int) → Bool → (List Int) → Int → Int → Option Bool
  | 0, _, _, _, _, _, _ => none
  | k + 1, x0z, x0, x1z, x1, x17, x18 => spec_l21Less.l0b some (spec_l21Less.l0 k) k x0z x0 x1z x1 x17 x18
def spec_l21Less.f : Nat → Bool → (List Int) → Bool → (List Int) → Option Bool
  | 0, _, _, _, _ => none
  | k + 1, a0z, a0, a1z, a1 => spec_l21Less.b some (spec_l21Less.l0 k) k a0z a0 a1z a1
def spec_l21Less.enc (r : Bool) : Res := ⟨[.vals false [((.bool r), true)]], []⟩
def spec_l21Less.ans (k : Nat) : List Arg → Ans
  | [.v (.nums 3 .i64 a0z a0), .v (.nums 3 .i64 a1z a1)] => ⟨spec_l21Less.f k a0z a0 a1z a1, spec_l21Less.enc⟩
  | _ => Ans.no
def spec_l21Less.Cs (k : Nat) : CallSem := tab []
def spec_l21Less.cuts : List (Nat × Keep) := [(58, ⟨[(0, some []), (1, some []), (17, some []), (18, some [])], []⟩)]
noncomputable def spec_l21Less.K0 : List Fr := framesAt [true, true, false, true, false] (bodyOf Try.f135 spec_l21Less.cuts) []
def spec_l21Less.N0 (x0z : Bool) (x0 : List Int) (x1z : Bool) (x1 : List Int) (x17 : Int) (x18 : Int) : St := stOf 40 40 2 [(0, .val ⟨(.nums 3 .i64 x0z x0), [], false, none⟩), (1, .val ⟨(.nums 3 .i64 x1z x1), [], false, none⟩), (17, .val (V.s (.int .i64 x17))), (18, .val (V.s (.int .i64 x18)))] []
theorem spec_l21Less.s (k : Nat) (a0z : Bool) (a0 : List Int) (a1z : Bool) (a1 : List Int) : answer Try.prog spec_l21Less.Cs 100000 spec_l21Less.cuts [] Try.f135 (k + 1) [.v (.nums 3 .i64 a0z a0), .v (.nums 3 .i64 a1z a1)] = spec_l21Less.b (fun r => some (spec_l21Less.enc r)) (fun x0z x0 x1z x1 x17 x18 => rounds Try.prog spec_l21Less.Cs (finish Try.prog [] Try.f135 [.v (.nums 3 .i64 a0z a0), .v (.nums 3 .i64 a1z a1)]) 100000 k spec_l21Less.K0 (spec_l21Less.N0 x0z x0 x1z x1 x17 x18)) k a0z a0 a1z a1 := by kernel_rfl
theorem spec_l21Less.s0 (k : Nat) (G : List Fr → St → Option Res) (a0z : Bool) (a0 : List Int) (a1z : Bool) (a1 : List Int) (yx0z : Bool) (yx0 : List Int) (yx1z : Bool) (yx1 : List Int) (yx17 : Int) (yx18 : Int) : resume Try.prog (spec_l21Less.Cs k) G (finish Try.prog [] Try.f135 [.v (.nums 3 .i64 a0z a0), .v (.nums 3 .i64 a1z a1)]) 100000 spec_l21Less.K0 (spec_l21Less.N0 yx0z yx0 yx1z yx1 yx17 yx18) = spec_l21Less.l0b (fun r => some (spec_l21Less.enc r)) (fun x0z x0 x1z x1 x17 x18 => G spec_l21Less.K0 (spec_l21Less.N0 x0z x0 x1z x1 x17 x18)) k yx0z yx0 yx1z yx1 yx17 yx18 := by kernel_rfl
theorem spec_l21Less.b_nat {R R' : Type} (e : R → R') (ret : Bool → Option R) (j0 : Bool → (List Int) → Bool → (List Int) → Int → Int → Option R) (k : Nat) (a0z : Bool) (a0 : List Int) (a1z : Bool) (a1 : List Int) : spec_l21Less.b (fun r => (ret r).map e) (fun x0z x0 x1z x1 x17 x18 => (j0 x0z x0 x1z x1 x17 x18).map e) k a0z a0 a1z a1 = (spec_l21Less.b ret j0 k a0z a0 a1z a1).map e := by
  unfold spec_l21Less.b
  repeat' first | with_reducible refine nat_cond ?_ ?_ | with_reducible refine nat_bind fun _ => ?_ | rfl
theorem spec_l21Less.l0b_nat {R R' : Type} (e : R → R') (ret : Bool → Option R) (j0 : Bool → (List Int) → Bool → (List Int) → Int → Int → Option R) (k : Nat) (x0z : Bool) (x0 : List Int) (x1z : Bool) (x1 : List Int) (x17 : Int) (x18 : Int) : spec_l21Less.l0b (fun r => (ret r).map e) (fun x0z x0 x1z x1 x17 x18 => (j0 x0z x0 x1z x1 x17 x18).map e) k x0z x0 x1z x1 x17 x18 = (spec_l21Less.l0b ret j0 k x0z x0 x1z x1 x17 x18).map e := by
  unfold spec_l21Less.l0b
  repeat' first | with_reducible refine nat_cond ?_ ?_ | with_reducible refine nat_bind fun _ => ?_ | rfl
theorem spec_l21Less.rounds_eq (a0z : Bool) (a0 : List Int) (a1z : Bool) (a1 : List Int) : ∀ k, (∀ (x0z : Bool) (x0 : List Int) (x1z : Bool) (x1 : List Int) (x17 : Int) (x18 : Int), rounds Try.prog spec_l21Less.Cs (finish Try.prog [] Try.f135 [.v (.nums 3 .i64 a0z a0), .v (.nums 3 .i64 a1z a1)]) 100000 k spec_l21Less.K0 (spec_l21Less.N0 x0z x0 x1z x1 x17 x18) = (spec_l21Less.l0 k x0z x0 x1z x1 x17 x18).map spec_l21Less.enc)
  | 0 => fun _ _ _ _ _ _ => rfl
  | k + 1 => by
    have ih := spec_l21Less.rounds_eq a0z a0 a1z a1 k
    refine fun _ _ _ _ _ _ => ?_
    · refine (spec_l21Less.s0 k _ a0z a0 a1z a1 _ _ _ _ _ _).trans (Eq.trans ?_ (spec_l21Less.l0b_nat spec_l21Less.enc some (spec_l21Less.l0 k) k _ _ _ _ _ _))
      simp only [ih, Option.map_some]
theorem spec_l21Less.eq (k : Nat) (a0z : Bool) (a0 : List Int) (a1z : Bool) (a1 : List Int) : answer Try.prog spec_l21Less.Cs 100000 spec_l21Less.cuts [] Try.f135 (k + 1) [.v (.nums 3 .i64 a0z a0), .v (.nums 3 .i64 a1z a1)] = (spec_l21Less.f (k + 1) a0z a0 a1z a1).map spec_l21Less.enc := by
  have ih := spec_l21Less.rounds_eq a0z a0 a1z a1 k
  refine (spec_l21Less.s k a0z a0 a1z a1).trans (Eq.trans ?_ (spec_l21Less.b_nat spec_l21Less.enc some (spec_l21Less.l0 k) k a0z a0 a1z a1))
  simp only [ih, Option.map_some]
theorem spec_l21Less.sound (k : Nat) : SoundF Try.prog 135 (fun a => (spec_l21Less.ans k a).val) := by
  refine sound_plain (fun args res h => ?_) (fun t n => rfl)
  unfold spec_l21Less.ans at h
  dsimp only at h
  split at h
  · cases k with
    | zero => cases h
    | succ k =>
      unfold Ans.val at h
      rw [← spec_l21Less.eq] at h
      exact answer_sound mixed Try.func135 _ _ _ (k + 1) (fun j _ => tab_sound (tab_nil)) _ _ h
  · exact (Ans.no_val h).elim

/-! loop.example/g00790/spec.Least -/
def spec_Least.b {R : Type} (ret : Bool × List Int → Option R) (j0 : Bool → (List Int) → Int → Int → Bool → (List T) → Option R) (k : Nat) (a0_0z : Bool) (a0_0 : List T) : Option R :=
  (spec_TableOk.f k a0_0z a0_0).bind fun t0 => cond (!t0) (ret (true, ([] : List Int))) (j0 false ([] : List Int) ((a0_0).length : Int) 0 a0_0z a0_0)
def spec_Least.l0b {R : Type} (ret : Bool × List Int → Option R) (j0 : Bool → (List Int) → Int → Int → Bool → (List T) → Option R) (k : Nat) (x3z : Bool) (x3 : List Int) (x4 : Int) (x5 : Int) (c1_0z : Bool) (c1_0 : List T) : Option R :=
  cond (decide ((0 : Int) ≤ x4)) (cond (decide (x5 < (shlI .i64 1 x4))) ((spec_BitsSize.f k x4).bind fun t0 => (spec_PutFix.f k true ([] : List Int) x5 t0).bind fun t1 => (spec_IsQuorum.f k c1_0z c1_0 t1.1 t1.2.1).bind fun t2 => cond t2 (cond (decide (((x3).length : Int) = 0)) (j0 t1.1 t1.2.1 x4 (RowKit.wrap64 (x5 + 1)) c1_0z c1_0) ((spec_BitsList.f k t1.1 t1.2.1).bind fun t3 => (spec_BitsList.f k x3z x3).bind fun t4 => (spec_l21Less.f k t3.1 t3.2 t4.1 t4.2).bind fun t5 => cond t5 (j0 t1.1 t1.2.1 x4 (RowKit.wrap64 (x5 + 1)) c1_0z c1_0) (j0 x3z x3 x4 (RowKit.wrap64 (x5 + 1)) c1_0z c1_0))) (j0 x3z x3 x4 (RowKit.wrap64 (x5 + 1)) c1_0z c1_0)) (ret (x3z, x3))) (none)
def spec_Least.l0 : Nat → Bool → (List Int) → Int → Int → Bool → (List T) → Option (Bool × List Int)
  | 0, _, _, _, _, _, _ => none
  | k + 1, x3z, x3, x4, x5, c1_0z, c1_0 => spec_Least.l0b some (spec_Least.l0 k) k x3z x3 x4 x5 c1_0z c1_0
def spec_Least.f : Nat → Bool → (List T) → Option (Bool × List Int)
  | 0, _, _ => none
  | k + 1, a0_0z, a0_0 => spec_Least.b some (spec_Least.l0 k) k a0_0z a0_0
def spec_Least.enc (r : Bool × List Int) : Res := ⟨[.vals false [((.nums 5 .u8 r.1 r.2), true)]], []⟩
def spec_Least.ans (k : Nat) : List Arg → Ans
  | [.v (.agg [(.sl 160 a0_0z a0_0)])] => ⟨spec_Least.f k a0_0z a0_0, spec_Least.enc⟩
  | _ => Ans.no
def spec_Least.Cs (k : Nat) : CallSem := tab [(121, spec_TableOk.ans k), (134, spec_BitsSize.ans k), (133, spec_PutFix.ans k), (102, spec_IsQuorum.ans k), (136, spec_BitsList.ans k), (135, spec_l21Less.ans k)]
def spec_Least.cuts : List (Nat × Keep) := [(250, ⟨[(1, some []), (3, none), (4, some []), (5, some [])], [(1, [some []])]⟩)]
noncomputable def spec_Least.K0 : List Fr := framesAt [true, true, true, true, false, true, false] (bodyOf Try.f57 spec_Least.cuts) []
def spec_Least.N0 (x3z : Bool) (x3 : List Int) (x4 : Int) (x5 : Int) (c1_0z : Bool) (c1_0 : List T) : St := stOf 45 45 1 [(1, .bp 1 0), (3, .val ⟨(.nums 5 .u8 x3z x3), [.l 3 0], true, some (.l 3 0)⟩), (4, .val (V.s (.int .i64 x4))), (5, .val (V.s (.int .i64 x5)))] [(1, .cells [⟨(.sl 160 c1_0z c1_0), [], false, none⟩])]
theorem spec_Least.s (k : Nat) (a0_0z : Bool) (a0_0 : List T) : answer Try.prog spec_Least.Cs 100000 spec_Least.cuts [] Try.f57 (k + 1) [.v (.agg [(.sl 160 a0_0z a0_0)])] = spec_Least.b (fun r => some (spec_Least.enc r)) (fun x3z x3 x4 x5 c1_0z c1_0 => rounds Try.prog spec_Least.Cs (finish Try.prog [] Try.f57 [.v (.agg [(.sl 160 a0_0z a0_0)])]) 100000 k spec_Least.K0 (spec_Least.N0 x3z x3 x4 x5 c1_0z c1_0)) k a0_0z a0_0 := by kernel_rfl
theorem spec_Least.s0 (k : Nat) (G : List Fr → St → Option Res) (a0_0z : Bool) (a0_0 : List T) (yx3z : Bool) (yx3 : List Int) (yx4 : Int) (yx5 : Int) (yc1_0z : Bool) (yc1_0 : List T) : resume Try.prog (spec_Least.Cs k) G (finish Try.prog [] Try.f57 [.v (.agg [(.sl 160 a0_0z a0_0)])]) 100000 spec_Least.K0 (spec_Least.N0 yx3z yx3 yx4 yx5 yc1_0z yc1_0) = spec_Least.l0b (fun r => some (spec_Least.enc r)) (fun x3z x3 x4 x5 c1_0z c1_0 => G spec_Least.K0 (spec_Least.N0 x3z x3 x4 x5 c1_0z c1_0)) k yx3z yx3 yx4 yx5 yc1_0z yc1_0 := by kernel_rfl
theorem spec_Least.b_nat {R R' : Type} (e : R → R') (ret : Bool × List Int → Option R) (j0 : Bool → (List Int) → Int → Int → Bool → (List T) → Option R) (k : Nat) (a0_0z : Bool) (a0_0 : List T) : spec_Least.b (fun r => (ret r).map e) (fun x3z x3 x4 x5 c1_0z c1_0 => (j0 x3z x3 x4 x5 c1_0z c1_0).map e) k a0_0z a0_0 = (spec_Least.b ret j0 k a0_0z a0_0).map e := by
  unfold spec_Least.b
  repeat' first | with_reducible refine nat_cond ?_ ?_ | with_reducible refine nat_bind fun _ => ?_ | rfl
theorem spec_Least.l0b_nat {R R' : Type} (e : R → R') (ret : Bool × List Int → Option R) (j0 : Bool → (List Int) → Int → Int → Bool → (List T) → Option R) (k : Nat) (x3z : Bool) (x3 : List Int) (x4 : Int) (x5 : Int) (c1_0z : Bool) (c1_0 : List T) : spec_Least.l0b (fun r => (ret r).map e) (fun x3z x3 x4 x5 c1_0z c1_0 => (j0 x3z x3 x4 x5 c1_0z c1_0).map e) k x3z x3 x4 x5 c1_0z c1_0 = (spec_Least.l0b ret j0 k x3z x3 x4 x5 c1_0z c1_0).map e := by
  unfold spec_Least.l0b
  repeat' first | with_reducible refine nat_cond ?_ ?_ | with_reducible refine nat_bind fun _ => ?_ | rfl
theorem spec_Least.rounds_eq (a0_0z : Bool) (a0_0 : List T) : ∀ k, (∀ (x3z : Bool) (x3 : List Int) (x4 : Int) (x5 : Int) (c1_0z : Bool) (c1_0 : List T), rounds Try.prog spec_Least.Cs (finish Try.prog [] Try.f57 [.v (.agg [(.sl 160 a0_0z a0_0)])]) 100000 k spec_Least.K0 (spec_Least.N0 x3z x3 x4 x5 c1_0z c1_0) = (spec_Least.l0 k x3z x3 x4 x5 c1_0z c1_0).map spec_Least.enc)
  | 0 => fun _ _ _ _ _ _ => rfl
  | k + 1 => by
    have ih := spec_Least.rounds_eq a0_0z a0_0 k
    refine fun _ _ _ _ _ _ => ?_
    · refine (spec_Least.s0 k _ a0_0z a0_0 _ _ _ _ _ _).trans (Eq.trans ?_ (spec_Least.l0b_nat spec_Least.enc some (spec_Least.l0 k) k _ _ _ _ _ _))
      simp only [ih, Option.map_some]
theorem spec_Least.eq (k : Nat) (a0_0z : Bool) (a0_0 : List T) : answer Try.prog spec_Least.Cs 100000 spec_Least.cuts [] Try.f57 (k + 1) [.v (.agg [(.sl 160 a0_0z a0_0)])] = (spec_Least.f (k + 1) a0_0z a0_0).map spec_Least.enc := by
  have ih := spec_Least.rounds_eq a0_0z a0_0 k
  refine (spec_Least.s k a0_0z a0_0).trans (Eq.trans ?_ (spec_Least.b_nat spec_Least.enc some (spec_Least.l0 k) k a0_0z a0_0))
  simp only [ih, Option.map_some]
theorem spec_Least.sound (k : Nat) : SoundF Try.prog 57 (fun a => (spec_Least.ans k a).val) := by
  refine sound_plain (fun args res h => ?_) (fun t n => rfl)
  unfold spec_Least.ans at h
  dsimp only at h
  split at h
  · cases k with
    | zero => cases h
    | succ k =>
      unfold Ans.val at h
      rw [← spec_Least.eq] at h
      exact answer_sound mixed Try.func57 _ _ _ (k + 1) (fun j _ => tab_sound (tab_cons (spec_TableOk.sound j) (tab_cons (spec_BitsSize.sound j) (tab_cons (spec_PutFix.sound j) (tab_cons (spec_IsQuorum.sound j) (tab_cons (spec_BitsList.sound j) (tab_cons (spec_l21Less.sound j) (tab_nil)))))))) _ _ h
  · exact (Ans.no_val h).elim

/-! loop.example/g00790/impl.within -/
def impl_within.b {R : Type} (ret : Bool → Option R) (k : Nat) (a0 : Int) (a1 : Int) (a2 : Int) : Option R :=
  cond (decide (a1 ≤ a0)) (ret (decide (a0 ≤ a2))) (ret false)
def impl_within.f : Nat → Int → Int → Int → Option Bool
  | 0, _, _, _ => none
  | k + 1, a0, a1, a2 => impl_within.b some k a0 a1 a2
def impl_within.enc (r : Bool) : Res := ⟨[.vals false [((.bool r), true)]], []⟩
def impl_within.ans (k : Nat) : List Arg → Ans
  | [.v (.int .i64 a0), .v (.int .i64 a1), .v (.int .i64 a2)] => ⟨impl_within.f k a0 a1 a2, impl_within.enc⟩
  | _ => Ans.no
def impl_within.Cs (k : Nat) : CallSem := tab []
def impl_within.cuts : List (Nat × Keep) := []
theorem impl_within.s (k : Nat) (a0 : Int) (a1 : Int) (a2 : Int) : answer Try.prog impl_within.Cs 100000 impl_within.cuts [] Try.f126 (k + 1) [.v (.int .i64 a0), .v (.int .i64 a1), .v (.int .i64 a2)] = impl_within.b (fun r => some (impl_within.enc r)) k a0 a1 a2 := by kernel_rfl
theorem impl_within.b_nat {R R' : Type} (e : R → R') (ret : Bool → Option R) (k : Nat) (a0 : Int) (a1 : Int) (a2 : Int) : impl_within.b (fun r => (ret r).map e) k a0 a1 a2 = (impl_within.b ret k a0 a1 a2).map e := by
  unfold impl_within.b
  repeat' first | with_reducible refine nat_cond ?_ ?_ | with_reducible refine nat_bind fun _ => ?_ | rfl
theorem impl_within.eq (k : Nat) (a0 : Int) (a1 : Int) (a2 : Int) : answer Try.prog impl_within.Cs 100000 impl_within.cuts [] Try.f126 (k + 1) [.v (.int .i64 a0), .v (.int .i64 a1), .v (.int .i64 a2)] = (impl_within.f (k + 1) a0 a1 a2).map impl_within.enc := by
  refine (impl_within.s k a0 a1 a2).trans (Eq.trans ?_ (impl_within.b_nat impl_within.enc some k a0 a1 a2))
  simp only [Option.map_some]
theorem impl_within.sound (k : Nat) : SoundF Try.prog 126 (fun a => (impl_within.ans k a).val) := by
  refine sound_plain (fun args res h => ?_) (fun t n => rfl)
  unfold impl_within.ans at h
  dsimp only at h
  split at h
  · cases k with
    | zero => cases h
    | succ k =>
      unfold Ans.val at h
      rw [← impl_within.eq] at h
      exact answer_sound mixed Try.func126 _ _ _ (k + 1) (fun j _ => tab_sound (tab_nil)) _ _ h
  · exact (Ans.no_val h).elim

/-! loop.example/g00790/impl.TableOk -/
def impl_TableOk.b {R : Type} (ret : Bool → Option R) (j0 : Bool → (List T) → Int → Int → Bool → (List T) → Option R) (k : Nat) (a0_0z : Bool) (a0_0 : List T) : Option R :=
  j0 a0_0z a0_0 ((a0_0).length : Int) 0 a0_0z a0_0
def impl_TableOk.l0b {R : Type} (ret : Bool → Option R) (j0 : Bool → (List T) → Int → Int → Bool → (List T) → Option R) (k : Nat) (x6z : Bool) (x6 : List T) (x7 : Int) (x8 : Int) (c1_0z : Bool) (c1_0 : List T) : Option R :=
  cond (decide (x8 < x7)) (cond (decide ((0 : Int) ≤ x8)) (cond (decide (x8 < ((x6).length : Int))) ((impl_within.f k (((((x6).getD (x8).toNat .bad).cells.getD 0 .bad)).toInt) 1 1099511627776).bind fun t0 => cond (!t0) (ret false) ((impl_within.f k ((((((x6).getD (x8).toNat .bad).cells.getD 1 .bad)).toNums).length : Int) 1 64).bind fun t1 => cond (!t1) (ret false) (j0 x6z x6 x7 (RowKit.wrap64 (x8 + 1)) c1_0z c1_0))) (none)) (none)) ((impl_within.f k ((c1_0).length : Int) 1 10).bind fun t0 => ret t0)
def impl_TableOk.l0 : Nat → Bool → (List T) → Int → Int → Bool → (List T) → Option Bool
  | 0, _, _, _, _, _, _ => none
  | k + 1, x6z, x6, x7, x8, c1_0z, c1_0 => impl_TableOk.l0b some (impl_TableOk.l0 k) k x6z x6 x7 x8 c1_0z c1_0
def impl_TableOk.f : Nat → Bool → (List T) → Option Bool
  | 0, _, _ => none
  | k + 1, a0_0z, a0_0 => impl_TableOk.b some (impl_TableOk.l0 k) k a0_0z a0_0
def impl_TableOk.enc (r : Bool) : Res := ⟨[.vals false [((.bool r), true)]], []⟩
def impl_TableOk.ans (k : Nat) : List Arg → Ans
  | [.v (.agg [(.sl 160 a0_0z a0_0)])] => ⟨impl_TableOk.f k a0_0z a0_0, impl_TableOk.enc⟩
  | _ => Ans.no
def impl_TableOk.Cs (k : Nat) : CallSem := tab [(126, impl_within.ans k)]
def impl_TableOk.cuts : List (Nat × Keep) := [(26, ⟨[(1, some []), (6, some []), (7, some []), (8, some [])], [(1, [some []])]⟩)]
noncomputable def impl_TableOk.K0 : List Fr := framesAt [true, false, true, false] (bodyOf Try.f125 impl_TableOk.cuts) []
def impl_TableOk.N0 (x6z : Bool) (x6 : List T) (x7 : Int) (x8 : Int) (c1_0z : Bool) (c1_0 : List T) : St := stOf 28 28 1 [(1, .bp 1 0), (6, .val ⟨(.sl 160 x6z x6), [], false, none⟩), (7, .val (V.s (.int .i64 x7))), (8, .val (V.s (.int .i64 x8)))] [(1, .cells [⟨(.sl 160 c1_0z c1_0), [], false, none⟩])]
theorem impl_TableOk.s (k : Nat) (a0_0z : Bool) (a0_0 : List T) : answer Try.prog impl_TableOk.Cs 100000 impl_TableOk.cuts [] Try.f125 (k + 1) [.v (.agg [(.sl 160 a0_0z a0_0)])] = impl_TableOk.b (fun r => some (impl_TableOk.enc r)) (fun x6z x6 x7 x8 c1_0z c1_0 => rounds Try.prog impl_TableOk.Cs (finish Try.prog [] Try.f125 [.v (.agg [(.sl 160 a0_0z a0_0)])]) 100000 k impl_TableOk.K0 (impl_TableOk.N0 x6z x6 x7 x8 c1_0z c1_0)) k a0_0z a0_0 := by kernel_rfl
theorem impl_TableOk.s0 (k : Nat) (G : List Fr → St → Option Res) (a0_0z : Bool) (a0_0 : List T) (yx6z : Bool) (yx6 : List T) (yx7 : Int) (yx8 : Int) (yc1_0z : Bool) (yc1_0 : List T) : resume Try.prog (impl_TableOk.Cs k) G (finish Try.prog [] Try.f125 [.v (.agg [(.sl 160 a0_0z a0_0)])]) 100000 impl_TableOk.K0 (impl_TableOk.N0 yx6z yx6 yx7 yx8 yc1_0z yc1_0) = impl_TableOk.l0b (fun r => some (impl_TableOk.enc r)) (fun x6z x6 x7 x8 c1_0z c1_0 => G impl_TableOk.K0 (impl_TableOk.N0 x6z x6 x7 x8 c1_0z c1_0)) k yx6z yx6 yx7 yx8 yc1_0z yc1_0 := by kernel_rfl
theorem impl_TableOk.b_nat {R R' : Type} (e : R → R') (ret : Bool → Option R) (j0 : Bool → (List T) → Int → Int → Bool → (List T) → Option R) (k : Nat) (a0_0z : Bool) (a0_0 : List T) : impl_TableOk.b (fun r => (ret r).map e) (fun x6z x6 x7 x8 c1_0z c1_0 => (j0 x6z x6 x7 x8 c1_0z c1_0).map e) k a0_0z a0_0 = (impl_TableOk.b ret j0 k a0_0z a0_0).map e := by
  unfold impl_TableOk.b
  repeat' first | with_reducible refine nat_cond ?_ ?_ | with_reducible refine nat_bind fun _ => ?_ | rfl
theorem impl_TableOk.l0b_nat {R R' : Type} (e : R → R') (ret : Bool → Option R) (j0 : Bool → (List T) → Int → Int → Bool → (List T) → Option R) (k : Nat) (x6z : Bool) (x6 : List T) (x7 : Int) (x8 : Int) (c1_0z : Bool) (c1_0 : List T) : impl_TableOk.l0b (fun r => (ret r).map e) (fun x6z x6 x7 x8 c1_0z c1_0 => (j0 x6z x6 x7 x8 c1_0z c1_0).map e) k x6z x6 x7 x8 c1_0z c1_0 = (impl_TableOk.l0b ret j0 k x6z x6 x7 x8 c1_0z c1_0).map e := by
  unfold impl_TableOk.l0b
  repeat' first | with_reducible refine nat_cond ?_ ?_ | with_reducible refine nat_bind fun _ => ?_ | rfl
theorem impl_TableOk.rounds_eq (a0_0z : Bool) (a0_0 : List T) : ∀ k, (∀ (x6z : Bool) (x6 : List T) (x7 : Int) (x8 : Int) (c1_0z : Bool) (c1_0 : List T), rounds Try.prog impl_TableOk.Cs (finish Try.prog [] Try.f125 [.v (.agg [(.sl 160 a0_0z a0_0)])]) 100000 k impl_TableOk.K0 (impl_TableOk.N0 x6z x6 x7 x8 c1_0z c1_0) = (impl_TableOk.l0 k x6z x6 x7 x8 c1_0z c1_0).map impl_TableOk.enc)
  | 0 => fun _ _ _ _ _ _ => rfl
  | k + 1 => by
    have ih := impl_TableOk.rounds_eq a0_0z a0_0 k
    refine fun _ _ _ _ _ _ => ?_
    · refine (impl_TableOk.s0 k _ a0_0z a0_0 _ _ _ _ _ _).trans (Eq.trans ?_ (impl_TableOk.l0b_nat impl_TableOk.enc some (impl_TableOk.l0 k) k _ _ _ _ _ _))
      simp only [ih, Option.map_some]
theorem impl_TableOk.eq (k : Nat) (a0_0z : Bool) (a0_0 : List T) : answer Try.prog impl_TableOk.Cs 100000 impl_TableOk.cuts [] Try.f125 (k + 1) [.v (.agg [(.sl 160 a0_0z a0_0)])] = (impl_TableOk.f (k + 1) a0_0z a0_0).map impl_TableOk.enc := by
  have ih := impl_TableOk.rounds_eq a0_0z a0_0 k
  refine (impl_TableOk.s k a0_0z a0_0).trans (Eq.trans ?_ (impl_TableOk.b_nat impl_TableOk.enc some (impl_TableOk.l0 k) k a0_0z a0_0))
  simp only [ih, Option.map_some]
theorem impl_TableOk.sound (k : Nat) : SoundF Try.prog 125 (fun a => (impl_TableOk.ans k a).val) := by
  refine sound_plain (fun args res h => ?_) (fun t n => rfl)
  unfold impl_TableOk.ans at h
  dsimp only at h
  split at h
  · cases k with
    | zero => cases h
    | succ k =>
      unfold Ans.val at h
      rw [← impl_TableOk.eq] at h
      exact answer_sound mixed Try.func125 _ _ _ (k + 1) (fun j _ => tab_sound (tab_cons (impl_within.sound j) (tab_nil))) _ _ h
  · exact (Ans.no_val h).elim

/-! loop.example/g00790/impl.BitsSize -/
def impl_BitsSize.b {R : Type} (ret : Int → Option R) (k : Nat) (a0 : Int) : Option R :=
  cond (decide (a0 < 1)) (ret 0) (ret (RowKit.wrap64 ((RowKit.wrap64 (Int.tdiv (RowKit.wrap64 (a0 - 1)) 8)) + 1)))
def impl_BitsSize.f : Nat → Int → Option Int
  | 0, _ => none
  | k + 1, a0 => impl_BitsSize.b some k a0
def impl_BitsSize.enc (r : Int) : Res := ⟨[.vals false [((.int .i64 r), true)]], []⟩
def impl_BitsSize.ans (k : Nat) : List Arg → Ans
  | [.v (.int .i64 a0)] => ⟨impl_BitsSize.f k a0, impl_BitsSize.enc⟩
  | _ => Ans.no
def impl_BitsSize.Cs (k : Nat) : CallSem := tab []
def impl_BitsSize.cuts : List (Nat × Keep) := []
theorem impl_BitsSize.s (k : Nat) (a0 : Int) : answer Try.prog impl_BitsSize.Cs 100000 impl_BitsSize.cuts [] Try.f189 (k + 1) [.v (.int .i64 a0)] = impl_BitsSize.b (fun r => some (impl_BitsSize.enc r)) k a0 := by kernel_rfl
theorem impl_BitsSize.b_nat {R R' : Type} (e : R → R') (ret : Int → Option R) (k : Nat) (a0 : Int) : impl_BitsSize.b (fun r => (ret r).map e) k a0 = (impl_BitsSize.b ret k a0).map e := by
  unfold impl_BitsSize.b
  repeat' first | with_reducible refine nat_cond ?_ ?_ | with_reducible refine nat_bind fun _ => ?_ | rfl
theorem impl_BitsSize.eq (k : Nat) (a0 : Int) : answer Try.prog impl_BitsSize.Cs 100000 impl_BitsSize.cuts [] Try.f189 (k + 1) [.v (.int .i64 a0)] = (impl_BitsSize.f (k + 1) a0).map impl_BitsSize.enc := by
  refine (impl_BitsSize.s k a0).trans (Eq.trans ?_ (impl_BitsSize.b_nat impl_BitsSize.enc some k a0))
  simp only [Option.map_some]
theorem impl_BitsSize.sound (k : Nat) : SoundF Try.prog 189 (fun a => (impl_BitsSize.ans k a).val) := by
  refine sound_plain (fun args res h => ?_) (fun t n => rfl)
  unfold impl_BitsSize.ans at h
  dsimp only at h
  split at h
  · cases k with
    | zero => cases h
    | succ k =>
      unfold Ans.val at h
      rw [← impl_BitsSize.eq] at h
      exact answer_sound mixed Try.func189 _ _ _ (k + 1) (fun j _ => tab_sound (tab_nil)) _ _ h
  · exact (Ans.no_val h).elim

/-! loop.example/g00790/impl.BitsNew -/
def impl_BitsNew.b {R : Type} (ret : Bool × List Int → Option R) (k : Nat) (a0 : Int) : Option R :=
  (impl_within.f k a0 1 10).bind fun t0 => cond (!t0) (ret (true, ([] : List Int))) ((impl_BitsSize.f k a0).bind fun t1 => cond (decide (t1 = t1)) (cond (decide ((0 : Int) ≤ t1)) (cond (decide ((t1).toNat < 140737488355328)) (ret (false, (List.replicate (t1).toNat (0 : Int)))) (none)) (none)) (none))
def impl_BitsNew.f : Nat → Int → Option (Bool × List Int)
  | 0, _ => none
  | k + 1, a0 => impl_BitsNew.b some k a0
def impl_BitsNew.enc (r : Bool × List Int) : Res := ⟨[.vals false [((.nums 5 .u8 r.1 r.2), true)]], []⟩
def impl_BitsNew.ans (k : Nat) : List Arg → Ans
  | [.v (.int .i64 a0)] => ⟨impl_BitsNew.f k a0, impl_BitsNew.enc⟩
  | _ => Ans.no
def impl_BitsNew.Cs (k : Nat) : CallSem := tab [(126, impl_within.ans k), (189, impl_BitsSize.ans k)]
def impl_BitsNew.cuts : List (Nat × Keep) := []
theorem impl_BitsNew.s (k : Nat) (a0 : Int) : answer Try.prog impl_BitsNew.Cs 100000 impl_BitsNew.cuts [] Try.f208 (k + 1) [.v (.int .i64 a0)] = impl_BitsNew.b (fun r => some (impl_BitsNew.enc r)) k a0 := by kernel_rfl
theorem impl_BitsNew.b_nat {R R' : Type} (e : R → R') (ret : Bool × List Int → Option R) (k : Nat) (a0 : Int) : impl_BitsNew.b (fun r => (ret r).map e) k a0 = (impl_BitsNew.b ret k a0).map e := by
  unfold impl_BitsNew.b
  repeat' first | with_reducible refine nat_cond ?_ ?_ | with_reducible refine nat_bind fun _ => ?_ | rfl
theorem impl_BitsNew.eq (k : Nat) (a0 : Int) : answer Try.prog impl_BitsNew.Cs 100000 impl_BitsNew.cuts [] Try.f208 (k + 1) [.v (.int .i64 a0)] = (impl_BitsNew.f (k + 1) a0).map impl_BitsNew.enc := by
  refine (impl_BitsNew.s k a0).trans (Eq.trans ?_ (impl_BitsNew.b_nat impl_BitsNew.enc some k a0))
  simp only [Option.map_some]
theorem impl_BitsNew.sound (k : Nat) : SoundF Try.prog 208 (fun a => (impl_BitsNew.ans k a).val) := by
  refine sound_plain (fun args res h => ?_) (fun t n => rfl)
  unfold impl_BitsNew.ans at h
  dsimp only at h
  split at h
  · cases k with
    | zero => cases h
    | succ k =>
      unfold Ans.val at h
      rw [← impl_BitsNew.eq] at h
      exact answer_sound mixed Try.func208 _ _ _ (k + 1) (fun j _ => tab_sound (tab_cons (impl_within.sound j) (tab_cons (impl_BitsSize.sound j) (tab_nil)))) _ _ h
  · exact (Ans.no_val h).elim

end Go.Proofs.YtadnejogdohfkaaG
