/- What the functions compute, printed by a program of this repo; each is shown to be what the machine of values answers. No condition. -/
import Derived.Test.YtlfliciohaebfaaProg
import Derived.KernelRfl
import Derived.Test.YtlfliciohaebfaaRvD
namespace Go.Proofs.YtlfliciohaebfaaG
open Go Go.Proofs.YtlfliciohaebfaaRv Go.Proofs
set_option linter.unusedVariables false
set_option linter.unusedSimpArgs false
theorem mixed : Try.prog.follows .mixedOrders = true := by kernel_rfl
/-! loop.example/g00790/laws.szByteS -/
def laws_szByteS.b {R : Type} (ret : Int → Option R) (k : Nat) (a0z : Bool) (a0 : List Int) (a1 : Int) : Option R :=
  cond (decide ((RowKit.wrap64 (a1 - ((a0).length : Int))) < 0)) (ret (-1)) (ret (RowKit.wrap64 (a1 - ((a0).length : Int))))
def laws_szByteS.f : Nat → Bool → (List Int) → Int → Option Int
  | 0, _, _, _ => none
  | k + 1, a0z, a0, a1 => laws_szByteS.b some k a0z a0 a1
def laws_szByteS.enc (r : Int) : Res := ⟨[.vals false [((.int .i64 r), true)]], []⟩
def laws_szByteS.ans (k : Nat) : List Arg → Ans
  | [.v (.nums 5 .u8 a0z a0), .v (.int .i64 a1)] => ⟨laws_szByteS.f k a0z a0 a1, laws_szByteS.enc⟩
  | _ => Ans.no
def laws_szByteS.Cs (k : Nat) : CallSem := tab []
def laws_szByteS.cuts : List (Nat × Keep) := []
theorem laws_szByteS.s (k : Nat) (a0z : Bool) (a0 : List Int) (a1 : Int) : answer Try.prog laws_szByteS.Cs 100000 laws_szByteS.cuts [] Try.f158 (k + 1) [.v (.nums 5 .u8 a0z a0), .v (.int .i64 a1)] = laws_szByteS.b (fun r => some (laws_szByteS.enc r)) k a0z a0 a1 := by kernel_rfl
theorem laws_szByteS.b_nat {R R' : Type} (e : R → R') (ret : Int → Option R) (k : Nat) (a0z : Bool) (a0 : List Int) (a1 : Int) : laws_szByteS.b (fun r => (ret r).map e) k a0z a0 a1 = (laws_szByteS.b ret k a0z a0 a1).map e := by
  unfold laws_szByteS.b
  repeat' first | with_reducible refine nat_cond ?_ ?_ | with_reducible refine nat_bind fun _ => ?_ | rfl
theorem laws_szByteS.eq (k : Nat) (a0z : Bool) (a0 : List Int) (a1 : Int) : answer Try.prog laws_szByteS.Cs 100000 laws_szByteS.cuts [] Try.f158 (k + 1) [.v (.nums 5 .u8 a0z a0), .v (.int .i64 a1)] = (laws_szByteS.f (k + 1) a0z a0 a1).map laws_szByteS.enc := by
  refine (laws_szByteS.s k a0z a0 a1).trans (Eq.trans ?_ (laws_szByteS.b_nat laws_szByteS.enc some k a0z a0 a1))
  simp only [Option.map_some]
theorem laws_szByteS.sound (k : Nat) : SoundF Try.prog 158 (fun a => (laws_szByteS.ans k a).val) := by
  refine sound_plain (fun args res h => ?_) (fun t n => rfl)
  unfold laws_szByteS.ans at h
  dsimp only at h
  split at h
  · cases k with
    | zero => cases h
    | succ k =>
      unfold Ans.val at h
      rw [← laws_szByteS.eq] at h
      exact answer_sound mixed Try.func158 _ _ _ (k + 1) (fun j _ => tab_sound (tab_nil)) _ _ h
  · exact (Ans.no_val h).elim

/-! loop.example/g00790/laws.szRow -/
def laws_szRow.b {R : Type} (ret : Int → Option R) (k : Nat) (a0_0 : Int) (a0_1z : Bool) (a0_1 : List Int) (a1 : Int) : Option R :=
  (laws_szByteS.f k a0_1z a0_1 a1).bind fun t0 => cond (decide (t0 < 0)) (ret (-1)) (ret t0)
def laws_szRow.f : Nat → Int → Bool → (List Int) → Int → Option Int
  | 0, _, _, _, _ => none
  | k + 1, a0_0, a0_1z, a0_1, a1 => laws_szRow.b some k a0_0 a0_1z a0_1 a1
def laws_szRow.enc (r : Int) : Res := ⟨[.vals false [((.int .i64 r), true)]], []⟩
def laws_szRow.ans (k : Nat) : List Arg → Ans
  | [.v (.agg [(.int .i64 a0_0), (.nums 5 .u8 a0_1z a0_1)]), .v (.int .i64 a1)] => ⟨laws_szRow.f k a0_0 a0_1z a0_1 a1, laws_szRow.enc⟩
  | _ => Ans.no
def laws_szRow.Cs (k : Nat) : CallSem := tab [(158, laws_szByteS.ans k)]
def laws_szRow.cuts : List (Nat × Keep) := []
theorem laws_szRow.s (k : Nat) (a0_0 : Int) (a0_1z : Bool) (a0_1 : List Int) (a1 : Int) : answer Try.prog laws_szRow.Cs 100000 laws_szRow.cuts [] Try.f174 (k + 1) [.v (.agg [(.int .i64 a0_0), (.nums 5 .u8 a0_1z a0_1)]), .v (.int .i64 a1)] = laws_szRow.b (fun r => some (laws_szRow.enc r)) k a0_0 a0_1z a0_1 a1 := by kernel_rfl
theorem laws_szRow.b_nat {R R' : Type} (e : R → R') (ret : Int → Option R) (k : Nat) (a0_0 : Int) (a0_1z : Bool) (a0_1 : List Int) (a1 : Int) : laws_szRow.b (fun r => (ret r).map e) k a0_0 a0_1z a0_1 a1 = (laws_szRow.b ret k a0_0 a0_1z a0_1 a1).map e := by
  unfold laws_szRow.b
  repeat' first | with_reducible refine nat_cond ?_ ?_ | with_reducible refine nat_bind fun _ => ?_ | rfl
theorem laws_szRow.eq (k : Nat) (a0_0 : Int) (a0_1z : Bool) (a0_1 : List Int) (a1 : Int) : answer Try.prog laws_szRow.Cs 100000 laws_szRow.cuts [] Try.f174 (k + 1) [.v (.agg [(.int .i64 a0_0), (.nums 5 .u8 a0_1z a0_1)]), .v (.int .i64 a1)] = (laws_szRow.f (k + 1) a0_0 a0_1z a0_1 a1).map laws_szRow.enc := by
  refine (laws_szRow.s k a0_0 a0_1z a0_1 a1).trans (Eq.trans ?_ (laws_szRow.b_nat laws_szRow.enc some k a0_0 a0_1z a0_1 a1))
  simp only [Option.map_some]
theorem laws_szRow.sound (k : Nat) : SoundF Try.prog 174 (fun a => (laws_szRow.ans k a).val) := by
  refine sound_plain (fun args res h => ?_) (fun t n => rfl)
  unfold laws_szRow.ans at h
  dsimp only at h
  split at h
  · cases k with
    | zero => cases h
    | succ k =>
      unfold Ans.val at h
      rw [← laws_szRow.eq] at h
      exact answer_sound mixed Try.func174 _ _ _ (k + 1) (fun j _ => tab_sound (tab_cons (laws_szByteS.sound j) (tab_nil))) _ _ h
  · exact (Ans.no_val h).elim

/-! loop.example/g00790/laws.szRowS -/
def laws_szRowS.b {R : Type} (ret : Int → Option R) (j0 : Bool → (List T) → Int → Int → Option R) (k : Nat) (a0z : Bool) (a0 : List T) (a1 : Int) : Option R :=
  cond (decide ((RowKit.wrap64 (a1 - ((a0).length : Int))) < 0)) (ret (-1)) (j0 a0z a0 (RowKit.wrap64 (a1 - ((a0).length : Int))) 0)
def laws_szRowS.l0b {R : Type} (ret : Int → Option R) (j0 : Bool → (List T) → Int → Int → Option R) (k : Nat) (x0z : Bool) (x0 : List T) (x1 : Int) (x5 : Int) : Option R :=
  cond (decide (x5 < ((x0).length : Int))) (cond (decide ((0 : Int) ≤ x5)) (cond (decide (x5 < ((x0).length : Int))) ((laws_szRow.f k (((((x0).getD (x5).toNat .bad).cells.getD 0 .bad)).toInt) (((((x0).getD (x5).toNat .bad).cells.getD 1 .bad)).isNil) (((((x0).getD (x5).toNat .bad).cells.getD 1 .bad)).toNums) x1).bind fun t0 => cond (decide (t0 < 0)) (ret (-1)) (j0 x0z x0 t0 (RowKit.wrap64 (x5 + 1)))) (none)) (none)) (ret x1)
def laws_szRowS.l0 : Nat → Bool → (List T) → Int → Int → Option Int
  | 0, _, _, _, _ => none
  | k + 1, x0z, x0, x1, x5 => laws_szRowS.l0b some (laws_szRowS.l0 k) k x0z x0 x1 x5
def laws_szRowS.f : Nat → Bool → (List T) → Int → Option Int
  | 0, _, _, _ => none
  | k + 1, a0z, a0, a1 => laws_szRowS.b some (laws_szRowS.l0 k) k a0z a0 a1
def laws_szRowS.enc (r : Int) : Res := ⟨[.vals false [((.int .i64 r), true)]], []⟩
def laws_szRowS.ans (k : Nat) : List Arg → Ans
  | [.v (.sl 191 a0z a0), .v (.int .i64 a1)] => ⟨laws_szRowS.f k a0z a0 a1, laws_szRowS.enc⟩
  | _ => Ans.no
def laws_szRowS.Cs (k : Nat) : CallSem := tab [(174, laws_szRow.ans k)]
def laws_szRowS.cuts : List (Nat × Keep) := [(122, ⟨[(0, some []), (1, some []), (5, some [])], []⟩)]
noncomputable def laws_szRowS.K0 : List Fr := framesAt [true, true, true, false, true, false] (bodyOf Try.f100 laws_szRowS.cuts) []
def laws_szRowS.N0 (x0z : Bool) (x0 : List T) (x1 : Int) (x5 : Int) : St := stOf 27 27 2 [(0, .val ⟨(.sl 191 x0z x0), [], false, none⟩), (1, .val (V.s (.int .i64 x1))), (5, .val (V.s (.int .i64 x5)))] []
theorem laws_szRowS.s (k : Nat) (a0z : Bool) (a0 : List T) (a1 : Int) : answer Try.prog laws_szRowS.Cs 100000 laws_szRowS.cuts [] Try.f100 (k + 1) [.v (.sl 191 a0z a0), .v (.int .i64 a1)] = laws_szRowS.b (fun r => some (laws_szRowS.enc r)) (fun x0z x0 x1 x5 => rounds Try.prog laws_szRowS.Cs (finish Try.prog [] Try.f100 [.v (.sl 191 a0z a0), .v (.int .i64 a1)]) 100000 k laws_szRowS.K0 (laws_szRowS.N0 x0z x0 x1 x5)) k a0z a0 a1 := by kernel_rfl
theorem laws_szRowS.s0 (k : Nat) (G : List Fr → St → Option Res) (a0z : Bool) (a0 : List T) (a1 : Int) (yx0z : Bool) (yx0 : List T) (yx1 : Int) (yx5 : Int) : resume Try.prog (laws_szRowS.Cs k) G (finish Try.prog [] Try.f100 [.v (.sl 191 a0z a0), .v (.int .i64 a1)]) 100000 laws_szRowS.K0 (laws_szRowS.N0 yx0z yx0 yx1 yx5) = laws_szRowS.l0b (fun r => some (laws_szRowS.enc r)) (fun x0z x0 x1 x5 => G laws_szRowS.K0 (laws_szRowS.N0 x0z x0 x1 x5)) k yx0z yx0 yx1 yx5 := by kernel_rfl
theorem laws_szRowS.b_nat {R R' : Type} (e : R → R') (ret : Int → Option R) (j0 : Bool → (List T) → Int → Int → Option R) (k : Nat) (a0z : Bool) (a0 : List T) (a1 : Int) : laws_szRowS.b (fun r => (ret r).map e) (fun x0z x0 x1 x5 => (j0 x0z x0 x1 x5).map e) k a0z a0 a1 = (laws_szRowS.b ret j0 k a0z a0 a1).map e := by
  unfold laws_szRowS.b
  repeat' first | with_reducible refine nat_cond ?_ ?_ | with_reducible refine nat_bind fun _ => ?_ | rfl
theorem laws_szRowS.l0b_nat {R R' : Type} (e : R → R') (ret : Int → Option R) (j0 : Bool → (List T) → Int → Int → Option R) (k : Nat) (x0z : Bool) (x0 : List T) (x1 : Int) (x5 : Int) : laws_szRowS.l0b (fun r => (ret r).map e) (fun x0z x0 x1 x5 => (j0 x0z x0 x1 x5).map e) k x0z x0 x1 x5 = (laws_szRowS.l0b ret j0 k x0z x0 x1 x5).map e := by
  unfold laws_szRowS.l0b
  repeat' first | with_reducible refine nat_cond ?_ ?_ | with_reducible refine nat_bind fun _ => ?_ | rfl
theorem laws_szRowS.rounds_eq (a0z : Bool) (a0 : List T) (a1 : Int) : ∀ k, (∀ (x0z : Bool) (x0 : List T) (x1 : Int) (x5 : Int), rounds Try.prog laws_szRowS.Cs (finish Try.prog [] Try.f100 [.v (.sl 191 a0z a0), .v (.int .i64 a1)]) 100000 k laws_szRowS.K0 (laws_szRowS.N0 x0z x0 x1 x5) = (laws_szRowS.l0 k x0z x0 x1 x5).map laws_szRowS.enc)
  | 0 => fun _ _ _ _ => rfl
  | k + 1 => by
    have ih := laws_szRowS.rounds_eq a0z a0 a1 k
    refine fun _ _ _ _ => ?_
    · refine (laws_szRowS.s0 k _ a0z a0 a1 _ _ _ _).trans (Eq.trans ?_ (laws_szRowS.l0b_nat laws_szRowS.enc some (laws_szRowS.l0 k) k _ _ _ _))
      simp only [ih, Option.map_some]
theorem laws_szRowS.eq (k : Nat) (a0z : Bool) (a0 : List T) (a1 : Int) : answer Try.prog laws_szRowS.Cs 100000 laws_szRowS.cuts [] Try.f100 (k + 1) [.v (.sl 191 a0z a0), .v (.int .i64 a1)] = (laws_szRowS.f (k + 1) a0z a0 a1).map laws_szRowS.enc := by
  have ih := laws_szRowS.rounds_eq a0z a0 a1 k
  refine (laws_szRowS.s k a0z a0 a1).trans (Eq.trans ?_ (laws_szRowS.b_nat laws_szRowS.enc some (laws_szRowS.l0 k) k a0z a0 a1))
  simp only [ih, Option.map_some]
theorem laws_szRowS.sound (k : Nat) : SoundF Try.prog 100 (fun a => (laws_szRowS.ans k a).val) := by
  refine sound_plain (fun args res h => ?_) (fun t n => rfl)
  unfold laws_szRowS.ans at h
  dsimp only at h
  split at h
  · cases k with
    | zero => cases h
    | succ k =>
      unfold Ans.val at h
      rw [← laws_szRowS.eq] at h
      exact answer_sound mixed Try.func100 _ _ _ (k + 1) (fun j _ => tab_sound (tab_cons (laws_szRow.sound j) (tab_nil))) _ _ h
  · exact (Ans.no_val h).elim

/-! loop.example/g00790/laws.szTable -/
def laws_szTable.b {R : Type} (ret : Int → Option R) (k : Nat) (a0_0z : Bool) (a0_0 : List T) (a1 : Int) : Option R :=
  (laws_szRowS.f k a0_0z a0_0 a1).bind fun t0 => cond (decide (t0 < 0)) (ret (-1)) (ret t0)
def laws_szTable.f : Nat → Bool → (List T) → Int → Option Int
  | 0, _, _, _ => none
  | k + 1, a0_0z, a0_0, a1 => laws_szTable.b some k a0_0z a0_0 a1
def laws_szTable.enc (r : Int) : Res := ⟨[.vals false [((.int .i64 r), true)]], []⟩
def laws_szTable.ans (k : Nat) : List Arg → Ans
  | [.v (.agg [(.sl 191 a0_0z a0_0)]), .v (.int .i64 a1)] => ⟨laws_szTable.f k a0_0z a0_0 a1, laws_szTable.enc⟩
  | _ => Ans.no
def laws_szTable.Cs (k : Nat) : CallSem := tab [(100, laws_szRowS.ans k)]
def laws_szTable.cuts : List (Nat × Keep) := []
theorem laws_szTable.s (k : Nat) (a0_0z : Bool) (a0_0 : List T) (a1 : Int) : answer Try.prog laws_szTable.Cs 100000 laws_szTable.cuts [] Try.f24 (k + 1) [.v (.agg [(.sl 191 a0_0z a0_0)]), .v (.int .i64 a1)] = laws_szTable.b (fun r => some (laws_szTable.enc r)) k a0_0z a0_0 a1 := by kernel_rfl
theorem laws_szTable.b_nat {R R' : Type} (e : R → R') (ret : Int → Option R) (k : Nat) (a0_0z : Bool) (a0_0 : List T) (a1 : Int) : laws_szTable.b (fun r => (ret r).map e) k a0_0z a0_0 a1 = (laws_szTable.b ret k a0_0z a0_0 a1).map e := by
  unfold laws_szTable.b
  repeat' first | with_reducible refine nat_cond ?_ ?_ | with_reducible refine nat_bind fun _ => ?_ | rfl
theorem laws_szTable.eq (k : Nat) (a0_0z : Bool) (a0_0 : List T) (a1 : Int) : answer Try.prog laws_szTable.Cs 100000 laws_szTable.cuts [] Try.f24 (k + 1) [.v (.agg [(.sl 191 a0_0z a0_0)]), .v (.int .i64 a1)] = (laws_szTable.f (k + 1) a0_0z a0_0 a1).map laws_szTable.enc := by
  refine (laws_szTable.s k a0_0z a0_0 a1).trans (Eq.trans ?_ (laws_szTable.b_nat laws_szTable.enc some k a0_0z a0_0 a1))
  simp only [Option.map_some]
theorem laws_szTable.sound (k : Nat) : SoundF Try.prog 24 (fun a => (laws_szTable.ans k a).val) := by
  refine sound_plain (fun args res h => ?_) (fun t n => rfl)
  unfold laws_szTable.ans at h
  dsimp only at h
  split at h
  · cases k with
    | zero => cases h
    | succ k =>
      unfold Ans.val at h
      rw [← laws_szTable.eq] at h
      exact answer_sound mixed Try.func24 _ _ _ (k + 1) (fun j _ => tab_sound (tab_cons (laws_szRowS.sound j) (tab_nil))) _ _ h
  · exact (Ans.no_val h).elim

/-! loop.example/g00790/laws.toLimits -/
def laws_toLimits.b {R : Type} (ret : Int × Int × Int × Int × Int → Option R) (k : Nat) (a0_0 : Int) (a0_1 : Int) (a0_2 : Int) (a0_3 : Int) (a0_4 : Int) : Option R :=
  ret (a0_0, a0_1, a0_2, a0_3, a0_4)
def laws_toLimits.f : Nat → Int → Int → Int → Int → Int → Option (Int × Int × Int × Int × Int)
  | 0, _, _, _, _, _ => none
  | k + 1, a0_0, a0_1, a0_2, a0_3, a0_4 => laws_toLimits.b some k a0_0 a0_1 a0_2 a0_3 a0_4
def laws_toLimits.enc (r : Int × Int × Int × Int × Int) : Res := ⟨[.vals true [((.int .i64 r.1), true), ((.int .i64 r.2.1), true), ((.int .i64 r.2.2.1), true), ((.int .i64 r.2.2.2.1), true), ((.int .i64 r.2.2.2.2), true)]], []⟩
def laws_toLimits.ans (k : Nat) : List Arg → Ans
  | [.v (.agg [(.int .i64 a0_0), (.int .i64 a0_1), (.int .i64 a0_2), (.int .i64 a0_3), (.int .i64 a0_4)])] => ⟨laws_toLimits.f k a0_0 a0_1 a0_2 a0_3 a0_4, laws_toLimits.enc⟩
  | _ => Ans.no
def laws_toLimits.Cs (k : Nat) : CallSem := tab []
def laws_toLimits.cuts : List (Nat × Keep) := []
theorem laws_toLimits.s (k : Nat) (a0_0 : Int) (a0_1 : Int) (a0_2 : Int) (a0_3 : Int) (a0_4 : Int) : answer Try.prog laws_toLimits.Cs 100000 laws_toLimits.cuts [] Try.f26 (k + 1) [.v (.agg [(.int .i64 a0_0), (.int .i64 a0_1), (.int .i64 a0_2), (.int .i64 a0_3), (.int .i64 a0_4)])] = laws_toLimits.b (fun r => some (laws_toLimits.enc r)) k a0_0 a0_1 a0_2 a0_3 a0_4 := by kernel_rfl
theorem laws_toLimits.b_nat {R R' : Type} (e : R → R') (ret : Int × Int × Int × Int × Int → Option R) (k : Nat) (a0_0 : Int) (a0_1 : Int) (a0_2 : Int) (a0_3 : Int) (a0_4 : Int) : laws_toLimits.b (fun r => (ret r).map e) k a0_0 a0_1 a0_2 a0_3 a0_4 = (laws_toLimits.b ret k a0_0 a0_1 a0_2 a0_3 a0_4).map e := by
  unfold laws_toLimits.b
  repeat' first | with_reducible refine nat_cond ?_ ?_ | with_reducible refine nat_bind fun _ => ?_ | rfl
theorem laws_toLimits.eq (k : Nat) (a0_0 : Int) (a0_1 : Int) (a0_2 : Int) (a0_3 : Int) (a0_4 : Int) : answer Try.prog laws_toLimits.Cs 100000 laws_toLimits.cuts [] Try.f26 (k + 1) [.v (.agg [(.int .i64 a0_0), (.int .i64 a0_1), (.int .i64 a0_2), (.int .i64 a0_3), (.int .i64 a0_4)])] = (laws_toLimits.f (k + 1) a0_0 a0_1 a0_2 a0_3 a0_4).map laws_toLimits.enc := by
  refine (laws_toLimits.s k a0_0 a0_1 a0_2 a0_3 a0_4).trans (Eq.trans ?_ (laws_toLimits.b_nat laws_toLimits.enc some k a0_0 a0_1 a0_2 a0_3 a0_4))
  simp only [Option.map_some]
theorem laws_toLimits.sound (k : Nat) : SoundF Try.prog 26 (fun a => (laws_toLimits.ans k a).val) := by
  refine sound_plain (fun args res h => ?_) (fun t n => rfl)
  unfold laws_toLimits.ans at h
  dsimp only at h
  split at h
  · cases k with
    | zero => cases h
    | succ k =>
      unfold Ans.val at h
      rw [← laws_toLimits.eq] at h
      exact answer_sound mixed Try.func26 _ _ _ (k + 1) (fun j _ => tab_sound (tab_nil)) _ _ h
  · exact (Ans.no_val h).elim

/-! loop.example/g00790/laws.toByteS -/
def laws_toByteS.b {R : Type} (ret : Bool × List Int → Option R) (j0 : Bool → (List Int) → (List Int) → Int → Option R) (k : Nat) (a0z : Bool) (a0 : List Int) : Option R :=
  cond (decide (((a0).length : Int) = ((a0).length : Int))) (cond (decide ((0 : Int) ≤ ((a0).length : Int))) (cond (decide ((a0).length < 140737488355328)) (j0 a0z a0 (List.replicate (a0).length (0 : Int)) 0) (none)) (none)) (none)
def laws_toByteS.l0b {R : Type} (ret : Bool × List Int → Option R) (j0 : Bool → (List Int) → (List Int) → Int → Option R) (k : Nat) (x0z : Bool) (x0 : List Int) (x3 : List Int) (x4 : Int) : Option R :=
  cond (decide (x4 < ((x0).length : Int))) (cond (decide ((0 : Int) ≤ x4)) (cond (decide (x4 < ((x0).length : Int))) (cond (decide ((0 : Int) ≤ x4)) (cond (decide (x4 < ((x3).length : Int))) (j0 x0z x0 ((x3).set (x4).toNat (rdI x0 x4)) (RowKit.wrap64 (x4 + 1))) (none)) (none)) (none)) (none)) (ret (false, x3))
def laws_toByteS.l0 : Nat → Bool → (List Int) → (List Int) → Int → Option (Bool × List Int)
  | 0, _, _, _, _ => none
  | k + 1, x0z, x0, x3, x4 => laws_toByteS.l0b some (laws_toByteS.l0 k) k x0z x0 x3 x4
def laws_toByteS.f : Nat → Bool → (List Int) → Option (Bool × List Int)
  | 0, _, _ => none
  | k + 1, a0z, a0 => laws_toByteS.b some (laws_toByteS.l0 k) k a0z a0
def laws_toByteS.enc (r : Bool × List Int) : Res := ⟨[.vals false [((.nums 5 .u8 r.1 r.2), true)]], []⟩
def laws_toByteS.ans (k : Nat) : List Arg → Ans
  | [.v (.nums 5 .u8 a0z a0)] => ⟨laws_toByteS.f k a0z a0, laws_toByteS.enc⟩
  | _ => Ans.no
def laws_toByteS.Cs (k : Nat) : CallSem := tab []
def laws_toByteS.cuts : List (Nat × Keep) := [(58, ⟨[(0, some []), (3, none), (4, some [])], []⟩)]
noncomputable def laws_toByteS.K0 : List Fr := framesAt [true, true, false, true, false] (bodyOf Try.f28 laws_toByteS.cuts) []
def laws_toByteS.N0 (x0z : Bool) (x0 : List Int) (x3 : List Int) (x4 : Int) : St := stOf 22 22 1 [(0, .val ⟨(.nums 5 .u8 x0z x0), [], false, none⟩), (3, .val ⟨(.nums 5 .u8 false x3), [.l 3 0], true, some (.l 3 0)⟩), (4, .val (V.s (.int .i64 x4)))] []
theorem laws_toByteS.s (k : Nat) (a0z : Bool) (a0 : List Int) : answer Try.prog laws_toByteS.Cs 100000 laws_toByteS.cuts [] Try.f28 (k + 1) [.v (.nums 5 .u8 a0z a0)] = laws_toByteS.b (fun r => some (laws_toByteS.enc r)) (fun x0z x0 x3 x4 => rounds Try.prog laws_toByteS.Cs (finish Try.prog [] Try.f28 [.v (.nums 5 .u8 a0z a0)]) 100000 k laws_toByteS.K0 (laws_toByteS.N0 x0z x0 x3 x4)) k a0z a0 := by kernel_rfl
theorem laws_toByteS.s0 (k : Nat) (G : List Fr → St → Option Res) (a0z : Bool) (a0 : List Int) (yx0z : Bool) (yx0 : List Int) (yx3 : List Int) (yx4 : Int) : resume Try.prog (laws_toByteS.Cs k) G (finish Try.prog [] Try.f28 [.v (.nums 5 .u8 a0z a0)]) 100000 laws_toByteS.K0 (laws_toByteS.N0 yx0z yx0 yx3 yx4) = laws_toByteS.l0b (fun r => some (laws_toByteS.enc r)) (fun x0z x0 x3 x4 => G laws_toByteS.K0 (laws_toByteS.N0 x0z x0 x3 x4)) k yx0z yx0 yx3 yx4 := by kernel_rfl
theorem laws_toByteS.b_nat {R R' : Type} (e : R → R') (ret : Bool × List Int → Option R) (j0 : Bool → (List Int) → (List Int) → Int → Option R) (k : Nat) (a0z : Bool) (a0 : List Int) : laws_toByteS.b (fun r => (ret r).map e) (fun x0z x0 x3 x4 => (j0 x0z x0 x3 x4).map e) k a0z a0 = (laws_toByteS.b ret j0 k a0z a0).map e := by
  unfold laws_toByteS.b
  repeat' first | with_reducible refine nat_cond ?_ ?_ | with_reducible refine nat_bind fun _ => ?_ | rfl
theorem laws_toByteS.l0b_nat {R R' : Type} (e : R → R') (ret : Bool × List Int → Option R) (j0 : Bool → (List Int) → (List Int) → Int → Option R) (k : Nat) (x0z : Bool) (x0 : List Int) (x3 : List Int) (x4 : Int) : laws_toByteS.l0b (fun r => (ret r).map e) (fun x0z x0 x3 x4 => (j0 x0z x0 x3 x4).map e) k x0z x0 x3 x4 = (laws_toByteS.l0b ret j0 k x0z x0 x3 x4).map e := by
  unfold laws_toByteS.l0b
  repeat' first | with_reducible refine nat_cond ?_ ?_ | with_reducible refine nat_bind fun _ => ?_ | rfl
theorem laws_toByteS.rounds_eq (a0z : Bool) (a0 : List Int) : ∀ k, (∀ (x0z : Bool) (x0 : List Int) (x3 : List Int) (x4 : Int), rounds Try.prog laws_toByteS.Cs (finish Try.prog [] Try.f28 [.v (.nums 5 .u8 a0z a0)]) 100000 k laws_toByteS.K0 (laws_toByteS.N0 x0z x0 x3 x4) = (laws_toByteS.l0 k x0z x0 x3 x4).map laws_toByteS.enc)
  | 0 => fun _ _ _ _ => rfl
  | k + 1 => by
    have ih := laws_toByteS.rounds_eq a0z a0 k
    refine fun _ _ _ _ => ?_
    · refine (laws_toByteS.s0 k _ a0z a0 _ _ _ _).trans (Eq.trans ?_ (laws_toByteS.l0b_nat laws_toByteS.enc some (laws_toByteS.l0 k) k _ _ _ _))
      simp only [ih, Option.map_some]
theorem laws_toByteS.eq (k : Nat) (a0z : Bool) (a0 : List Int) : answer Try.prog laws_toByteS.Cs 100000 laws_toByteS.cuts [] Try.f28 (k + 1) [.v (.nums 5 .u8 a0z a0)] = (laws_toByteS.f (k + 1) a0z a0).map laws_toByteS.enc := by
  have ih := laws_toByteS.rounds_eq a0z a0 k
  refine (laws_toByteS.s k a0z a0).trans (Eq.trans ?_ (laws_toByteS.b_nat laws_toByteS.enc some (laws_toByteS.l0 k) k a0z a0))
  simp only [ih, Option.map_some]
theorem laws_toByteS.sound (k : Nat) : SoundF Try.prog 28 (fun a => (laws_toByteS.ans k a).val) := by
  refine sound_plain (fun args res h => ?_) (fun t n => rfl)
  unfold laws_toByteS.ans at h
  dsimp only at h
  split at h
  · cases k with
    | zero => cases h
    | succ k =>
      unfold Ans.val at h
      rw [← laws_toByteS.eq] at h
      exact answer_sound mixed Try.func28 _ _ _ (k + 1) (fun j _ => tab_sound (tab_nil)) _ _ h
  · exact (Ans.no_val h).elim

/-! loop.example/g00790/laws.toRow -/
def laws_toRow.b {R : Type} (ret : Int × Bool × List Int → Option R) (k : Nat) (a0_0 : Int) (a0_1z : Bool) (a0_1 : List Int) : Option R :=
  (laws_toByteS.f k a0_1z a0_1).bind fun t0 => ret (a0_0, t0.1, t0.2)
def laws_toRow.f : Nat → Int → Bool → (List Int) → Option (Int × Bool × List Int)
  | 0, _, _, _ => none
  | k + 1, a0_0, a0_1z, a0_1 => laws_toRow.b some k a0_0 a0_1z a0_1
def laws_toRow.enc (r : Int × Bool × List Int) : Res := ⟨[.vals true [((.int .i64 r.1), true), ((.nums 5 .u8 r.2.1 r.2.2), true)]], []⟩
def laws_toRow.ans (k : Nat) : List Arg → Ans
  | [.v (.agg [(.int .i64 a0_0), (.nums 5 .u8 a0_1z a0_1)])] => ⟨laws_toRow.f k a0_0 a0_1z a0_1, laws_toRow.enc⟩
  | _ => Ans.no
def laws_toRow.Cs (k : Nat) : CallSem := tab [(28, laws_toByteS.ans k)]
def laws_toRow.cuts : List (Nat × Keep) := []
theorem laws_toRow.s (k : Nat) (a0_0 : Int) (a0_1z : Bool) (a0_1 : List Int) : answer Try.prog laws_toRow.Cs 100000 laws_toRow.cuts [] Try.f183 (k + 1) [.v (.agg [(.int .i64 a0_0), (.nums 5 .u8 a0_1z a0_1)])] = laws_toRow.b (fun r => some (laws_toRow.enc r)) k a0_0 a0_1z a0_1 := by kernel_rfl
theorem laws_toRow.b_nat {R R' : Type} (e : R → R') (ret : Int × Bool × List Int → Option R) (k : Nat) (a0_0 : Int) (a0_1z : Bool) (a0_1 : List Int) : laws_toRow.b (fun r => (ret r).map e) k a0_0 a0_1z a0_1 = (laws_toRow.b ret k a0_0 a0_1z a0_1).map e := by
  unfold laws_toRow.b
  repeat' first | with_reducible refine nat_cond ?_ ?_ | with_reducible refine nat_bind fun _ => ?_ | rfl
theorem laws_toRow.eq (k : Nat) (a0_0 : Int) (a0_1z : Bool) (a0_1 : List Int) : answer Try.prog laws_toRow.Cs 100000 laws_toRow.cuts [] Try.f183 (k + 1) [.v (.agg [(.int .i64 a0_0), (.nums 5 .u8 a0_1z a0_1)])] = (laws_toRow.f (k + 1) a0_0 a0_1z a0_1).map laws_toRow.enc := by
  refine (laws_toRow.s k a0_0 a0_1z a0_1).trans (Eq.trans ?_ (laws_toRow.b_nat laws_toRow.enc some k a0_0 a0_1z a0_1))
  simp only [Option.map_some]
theorem laws_toRow.sound (k : Nat) : SoundF Try.prog 183 (fun a => (laws_toRow.ans k a).val) := by
  refine sound_plain (fun args res h => ?_) (fun t n => rfl)
  unfold laws_toRow.ans at h
  dsimp only at h
  split at h
  · cases k with
    | zero => cases h
    | succ k =>
      unfold Ans.val at h
      rw [← laws_toRow.eq] at h
      exact answer_sound mixed Try.func183 _ _ _ (k + 1) (fun j _ => tab_sound (tab_cons (laws_toByteS.sound j) (tab_nil))) _ _ h
  · exact (Ans.no_val h).elim

/-! loop.example/g00790/laws.toRowS -/
def laws_toRowS.b {R : Type} (ret : Bool × List T → Option R) (j0 : Bool → (List T) → (List T) → Int → Option R) (k : Nat) (a0z : Bool) (a0 : List T) : Option R :=
  cond (decide (((a0).length : Int) = ((a0).length : Int))) (cond (decide ((0 : Int) ≤ ((a0).length : Int))) (cond (decide ((a0).length < 4398046511104)) (j0 a0z a0 (List.replicate (a0).length (.agg [(.int .i64 0), (.nums 5 .u8 true ([] : List Int))])) 0) (none)) (none)) (none)
def laws_toRowS.l0b {R : Type} (ret : Bool × List T → Option R) (j0 : Bool → (List T) → (List T) → Int → Option R) (k : Nat) (x0z : Bool) (x0 : List T) (x3 : List T) (x4 : Int) : Option R :=
  cond (decide (x4 < ((x0).length : Int))) (cond (decide ((0 : Int) ≤ x4)) (cond (decide (x4 < ((x0).length : Int))) ((laws_toRow.f k (((((x0).getD (x4).toNat .bad).cells.getD 0 .bad)).toInt) (((((x0).getD (x4).toNat .bad).cells.getD 1 .bad)).isNil) (((((x0).getD (x4).toNat .bad).cells.getD 1 .bad)).toNums)).bind fun t0 => cond (decide ((0 : Int) ≤ x4)) (cond (decide (x4 < ((x3).length : Int))) (j0 x0z x0 ((x3).set (x4).toNat (.agg [(.int .i64 t0.1), (.nums 5 .u8 t0.2.1 t0.2.2)])) (RowKit.wrap64 (x4 + 1))) (none)) (none)) (none)) (none)) (ret (false, x3))
def laws_toRowS.l0 : Nat → Bool → (List T) → (List T) → Int → Option (Bool × List T)
  | 0, _, _, _, _ => none
  | k + 1, x0z, x0, x3, x4 => laws_toRowS.l0b some (laws_toRowS.l0 k) k x0z x0 x3 x4
def laws_toRowS.f : Nat → Bool → (List T) → Option (Bool × List T)
  | 0, _, _ => none
  | k + 1, a0z, a0 => laws_toRowS.b some (laws_toRowS.l0 k) k a0z a0
def laws_toRowS.enc (r : Bool × List T) : Res := ⟨[.vals false [((.sl 44 r.1 r.2), true)]], []⟩
def laws_toRowS.ans (k : Nat) : List Arg → Ans
  | [.v (.sl 191 a0z a0)] => ⟨laws_toRowS.f k a0z a0, laws_toRowS.enc⟩
  | _ => Ans.no
def laws_toRowS.Cs (k : Nat) : CallSem := tab [(183, laws_toRow.ans k)]
def laws_toRowS.cuts : List (Nat × Keep) := [(58, ⟨[(0, some []), (3, none), (4, some [])], []⟩)]
noncomputable def laws_toRowS.K0 : List Fr := framesAt [true, true, false, true, false] (bodyOf Try.f105 laws_toRowS.cuts) []
def laws_toRowS.N0 (x0z : Bool) (x0 : List T) (x3 : List T) (x4 : Int) : St := stOf 23 23 1 [(0, .val ⟨(.sl 191 x0z x0), [], false, none⟩), (3, .val ⟨(.sl 44 false x3), [.l 3 0], true, some (.l 3 0)⟩), (4, .val (V.s (.int .i64 x4)))] []
theorem laws_toRowS.s (k : Nat) (a0z : Bool) (a0 : List T) : answer Try.prog laws_toRowS.Cs 100000 laws_toRowS.cuts [] Try.f105 (k + 1) [.v (.sl 191 a0z a0)] = laws_toRowS.b (fun r => some (laws_toRowS.enc r)) (fun x0z x0 x3 x4 => rounds Try.prog laws_toRowS.Cs (finish Try.prog [] Try.f105 [.v (.sl 191 a0z a0)]) 100000 k laws_toRowS.K0 (laws_toRowS.N0 x0z x0 x3 x4)) k a0z a0 := by kernel_rfl
theorem laws_toRowS.s0 (k : Nat) (G : List Fr → St → Option Res) (a0z : Bool) (a0 : List T) (yx0z : Bool) (yx0 : List T) (yx3 : List T) (yx4 : Int) : resume Try.prog (laws_toRowS.Cs k) G (finish Try.prog [] Try.f105 [.v (.sl 191 a0z a0)]) 100000 laws_toRowS.K0 (laws_toRowS.N0 yx0z yx0 yx3 yx4) = laws_toRowS.l0b (fun r => some (laws_toRowS.enc r)) (fun x0z x0 x3 x4 => G laws_toRowS.K0 (laws_toRowS.N0 x0z x0 x3 x4)) k yx0z yx0 yx3 yx4 := by kernel_rfl
theorem laws_toRowS.b_nat {R R' : Type} (e : R → R') (ret : Bool × List T → Option R) (j0 : Bool → (List T) → (List T) → Int → Option R) (k : Nat) (a0z : Bool) (a0 : List T) : laws_toRowS.b (fun r => (ret r).map e) (fun x0z x0 x3 x4 => (j0 x0z x0 x3 x4).map e) k a0z a0 = (laws_toRowS.b ret j0 k a0z a0).map e := by
  unfold laws_toRowS.b
  repeat' first | with_reducible refine nat_cond ?_ ?_ | with_reducible refine nat_bind fun _ => ?_ | rfl
theorem laws_toRowS.l0b_nat {R R' : Type} (e : R → R') (ret : Bool × List T → Option R) (j0 : Bool → (List T) → (List T) → Int → Option R) (k : Nat) (x0z : Bool) (x0 : List T) (x3 : List T) (x4 : Int) : laws_toRowS.l0b (fun r => (ret r).map e) (fun x0z x0 x3 x4 => (j0 x0z x0 x3 x4).map e) k x0z x0 x3 x4 = (laws_toRowS.l0b ret j0 k x0z x0 x3 x4).map e := by
  unfold laws_toRowS.l0b
  repeat' first | with_reducible refine nat_cond ?_ ?_ | with_reducible refine nat_bind fun _ => ?_ | rfl
theorem laws_toRowS.rounds_eq (a0z : Bool) (a0 : List T) : ∀ k, (∀ (x0z : Bool) (x0 : List T) (x3 : List T) (x4 : Int), rounds Try.prog laws_toRowS.Cs (finish Try.prog [] Try.f105 [.v (.sl 191 a0z a0)]) 100000 k laws_toRowS.K0 (laws_toRowS.N0 x0z x0 x3 x4) = (laws_toRowS.l0 k x0z x0 x3 x4).map laws_toRowS.enc)
  | 0 => fun _ _ _ _ => rfl
  | k + 1 => by
    have ih := laws_toRowS.rounds_eq a0z a0 k
    refine fun _ _ _ _ => ?_
    · refine (laws_toRowS.s0 k _ a0z a0 _ _ _ _).trans (Eq.trans ?_ (laws_toRowS.l0b_nat laws_toRowS.enc some (laws_toRowS.l0 k) k _ _ _ _))
      simp only [ih, Option.map_some]
theorem laws_toRowS.eq (k : Nat) (a0z : Bool) (a0 : List T) : answer Try.prog laws_toRowS.Cs 100000 laws_toRowS.cuts [] Try.f105 (k + 1) [.v (.sl 191 a0z a0)] = (laws_toRowS.f (k + 1) a0z a0).map laws_toRowS.enc := by
  have ih := laws_toRowS.rounds_eq a0z a0 k
  refine (laws_toRowS.s k a0z a0).trans (Eq.trans ?_ (laws_toRowS.b_nat laws_toRowS.enc some (laws_toRowS.l0 k) k a0z a0))
  simp only [ih, Option.map_some]
theorem laws_toRowS.sound (k : Nat) : SoundF Try.prog 105 (fun a => (laws_toRowS.ans k a).val) := by
  refine sound_plain (fun args res h => ?_) (fun t n => rfl)
  unfold laws_toRowS.ans at h
  dsimp only at h
  split at h
  · cases k with
    | zero => cases h
    | succ k =>
      unfold Ans.val at h
      rw [← laws_toRowS.eq] at h
      exact answer_sound mixed Try.func105 _ _ _ (k + 1) (fun j _ => tab_sound (tab_cons (laws_toRow.sound j) (tab_nil))) _ _ h
  · exact (Ans.no_val h).elim

/-! loop.example/g00790/laws.toTable -/
def laws_toTable.b {R : Type} (ret : Bool × List T → Option R) (k : Nat) (a0_0z : Bool) (a0_0 : List T) : Option R :=
  (laws_toRowS.f k a0_0z a0_0).bind fun t0 => ret (t0.1, t0.2)
def laws_toTable.f : Nat → Bool → (List T) → Option (Bool × List T)
  | 0, _, _ => none
  | k + 1, a0_0z, a0_0 => laws_toTable.b some k a0_0z a0_0
def laws_toTable.enc (r : Bool × List T) : Res := ⟨[.vals true [((.sl 44 r.1 r.2), true)]], []⟩
def laws_toTable.ans (k : Nat) : List Arg → Ans
  | [.v (.agg [(.sl 191 a0_0z a0_0)])] => ⟨laws_toTable.f k a0_0z a0_0, laws_toTable.enc⟩
  | _ => Ans.no
def laws_toTable.Cs (k : Nat) : CallSem := tab [(105, laws_toRowS.ans k)]
def laws_toTable.cuts : List (Nat × Keep) := []
theorem laws_toTable.s (k : Nat) (a0_0z : Bool) (a0_0 : List T) : answer Try.prog laws_toTable.Cs 100000 laws_toTable.cuts [] Try.f27 (k + 1) [.v (.agg [(.sl 191 a0_0z a0_0)])] = laws_toTable.b (fun r => some (laws_toTable.enc r)) k a0_0z a0_0 := by kernel_rfl
theorem laws_toTable.b_nat {R R' : Type} (e : R → R') (ret : Bool × List T → Option R) (k : Nat) (a0_0z : Bool) (a0_0 : List T) : laws_toTable.b (fun r => (ret r).map e) k a0_0z a0_0 = (laws_toTable.b ret k a0_0z a0_0).map e := by
  unfold laws_toTable.b
  repeat' first | with_reducible refine nat_cond ?_ ?_ | with_reducible refine nat_bind fun _ => ?_ | rfl
theorem laws_toTable.eq (k : Nat) (a0_0z : Bool) (a0_0 : List T) : answer Try.prog laws_toTable.Cs 100000 laws_toTable.cuts [] Try.f27 (k + 1) [.v (.agg [(.sl 191 a0_0z a0_0)])] = (laws_toTable.f (k + 1) a0_0z a0_0).map laws_toTable.enc := by
  refine (laws_toTable.s k a0_0z a0_0).trans (Eq.trans ?_ (laws_toTable.b_nat laws_toTable.enc some k a0_0z a0_0))
  simp only [Option.map_some]
theorem laws_toTable.sound (k : Nat) : SoundF Try.prog 27 (fun a => (laws_toTable.ans k a).val) := by
  refine sound_plain (fun args res h => ?_) (fun t n => rfl)
  unfold laws_toTable.ans at h
  dsimp only at h
  split at h
  · cases k with
    | zero => cases h
    | succ k =>
      unfold Ans.val at h
      rw [← laws_toTable.eq] at h
      exact answer_sound mixed Try.func27 _ _ _ (k + 1) (fun j _ => tab_sound (tab_cons (laws_toRowS.sound j) (tab_nil))) _ _ h
  · exact (Ans.no_val h).elim

/-! loop.example/g00790/spec.l01Copy -/
def spec_l01Copy.b {R : Type} (ret : Bool × List Int → Option R) (k : Nat) (a0z : Bool) (a0 : List Int) : Option R :=
  cond (decide (0 + (a0).length < 140737488355328)) (ret (((a0).isEmpty && false), a0)) (none)
def spec_l01Copy.f : Nat → Bool → (List Int) → Option (Bool × List Int)
  | 0, _, _ => none
  | k + 1, a0z, a0 => spec_l01Copy.b some k a0z a0
def spec_l01Copy.enc (r : Bool × List Int) : Res := ⟨[.vals false [((.nums 5 .u8 r.1 r.2), true)]], []⟩
def spec_l01Copy.ans (k : Nat) : List Arg → Ans
  | [.v (.nums 5 .u8 a0z a0)] => ⟨spec_l01Copy.f k a0z a0, spec_l01Copy.enc⟩
  | _ => Ans.no
def spec_l01Copy.Cs (k : Nat) : CallSem := tab []
def spec_l01Copy.cuts : List (Nat × Keep) := []
theorem spec_l01Copy.s (k : Nat) (a0z : Bool) (a0 : List Int) : answer Try.prog spec_l01Copy.Cs 100000 spec_l01Copy.cuts [] Try.f101 (k + 1) [.v (.nums 5 .u8 a0z a0)] = spec_l01Copy.b (fun r => some (spec_l01Copy.enc r)) k a0z a0 := by kernel_rfl
theorem spec_l01Copy.b_nat {R R' : Type} (e : R → R') (ret : Bool × List Int → Option R) (k : Nat) (a0z : Bool) (a0 : List Int) : spec_l01Copy.b (fun r => (ret r).map e) k a0z a0 = (spec_l01Copy.b ret k a0z a0).map e := by
  unfold spec_l01Copy.b
  repeat' first | with_reducible refine nat_cond ?_ ?_ | with_reducible refine nat_bind fun _ => ?_ | rfl
theorem spec_l01Copy.eq (k : Nat) (a0z : Bool) (a0 : List Int) : answer Try.prog spec_l01Copy.Cs 100000 spec_l01Copy.cuts [] Try.f101 (k + 1) [.v (.nums 5 .u8 a0z a0)] = (spec_l01Copy.f (k + 1) a0z a0).map spec_l01Copy.enc := by
  refine (spec_l01Copy.s k a0z a0).trans (Eq.trans ?_ (spec_l01Copy.b_nat spec_l01Copy.enc some k a0z a0))
  simp only [Option.map_some]
theorem spec_l01Copy.sound (k : Nat) : SoundF Try.prog 101 (fun a => (spec_l01Copy.ans k a).val) := by
  refine sound_plain (fun args res h => ?_) (fun t n => rfl)
  unfold spec_l01Copy.ans at h
  dsimp only at h
  split at h
  · cases k with
    | zero => cases h
    | succ k =>
      unfold Ans.val at h
      rw [← spec_l01Copy.eq] at h
      exact answer_sound mixed Try.func101 _ _ _ (k + 1) (fun j _ => tab_sound (tab_nil)) _ _ h
  · exact (Ans.no_val h).elim

/-! loop.example/g00790/spec.l01In -/
def spec_l01In.b {R : Type} (ret : Bool → Option R) (k : Nat) (a0 : Int) (a1 : Int) (a2 : Int) : Option R :=
  cond (decide (a0 ≥ a1)) (ret (decide (a0 ≤ a2))) (ret false)
def spec_l01In.f : Nat → Int → Int → Int → Option Bool
  | 0, _, _, _ => none
  | k + 1, a0, a1, a2 => spec_l01In.b some k a0 a1 a2
def spec_l01In.enc (r : Bool) : Res := ⟨[.vals false [((.bool r), true)]], []⟩
def spec_l01In.ans (k : Nat) : List Arg → Ans
  | [.v (.int .i64 a0), .v (.int .i64 a1), .v (.int .i64 a2)] => ⟨spec_l01In.f k a0 a1 a2, spec_l01In.enc⟩
  | _ => Ans.no
def spec_l01In.Cs (k : Nat) : CallSem := tab []
def spec_l01In.cuts : List (Nat × Keep) := []
theorem spec_l01In.s (k : Nat) (a0 : Int) (a1 : Int) (a2 : Int) : answer Try.prog spec_l01In.Cs 100000 spec_l01In.cuts [] Try.f179 (k + 1) [.v (.int .i64 a0), .v (.int .i64 a1), .v (.int .i64 a2)] = spec_l01In.b (fun r => some (spec_l01In.enc r)) k a0 a1 a2 := by kernel_rfl
theorem spec_l01In.b_nat {R R' : Type} (e : R → R') (ret : Bool → Option R) (k : Nat) (a0 : Int) (a1 : Int) (a2 : Int) : spec_l01In.b (fun r => (ret r).map e) k a0 a1 a2 = (spec_l01In.b ret k a0 a1 a2).map e := by
  unfold spec_l01In.b
  repeat' first | with_reducible refine nat_cond ?_ ?_ | with_reducible refine nat_bind fun _ => ?_ | rfl
theorem spec_l01In.eq (k : Nat) (a0 : Int) (a1 : Int) (a2 : Int) : answer Try.prog spec_l01In.Cs 100000 spec_l01In.cuts [] Try.f179 (k + 1) [.v (.int .i64 a0), .v (.int .i64 a1), .v (.int .i64 a2)] = (spec_l01In.f (k + 1) a0 a1 a2).map spec_l01In.enc := by
  refine (spec_l01In.s k a0 a1 a2).trans (Eq.trans ?_ (spec_l01In.b_nat spec_l01In.enc some k a0 a1 a2))
  simp only [Option.map_some]
theorem spec_l01In.sound (k : Nat) : SoundF Try.prog 179 (fun a => (spec_l01In.ans k a).val) := by
  refine sound_plain (fun args res h => ?_) (fun t n => rfl)
  unfold spec_l01In.ans at h
  dsimp only at h
  split at h
  · cases k with
    | zero => cases h
    | succ k =>
      unfold Ans.val at h
      rw [← spec_l01In.eq] at h
      exact answer_sound mixed Try.func179 _ _ _ (k + 1) (fun j _ => tab_sound (tab_nil)) _ _ h
  · exact (Ans.no_val h).elim

/-! loop.example/g00790/spec.l02Signers -/
def spec_l02Signers.b {R : Type} (ret : Bool → Option R) (k : Nat) (a0 : Int) : Option R :=
  (spec_l01In.f k a0 1 10).bind fun t0 => ret t0
def spec_l02Signers.f : Nat → Int → Option Bool
  | 0, _ => none
  | k + 1, a0 => spec_l02Signers.b some k a0
def spec_l02Signers.enc (r : Bool) : Res := ⟨[.vals false [((.bool r), true)]], []⟩
def spec_l02Signers.ans (k : Nat) : List Arg → Ans
  | [.v (.int .i64 a0)] => ⟨spec_l02Signers.f k a0, spec_l02Signers.enc⟩
  | _ => Ans.no
def spec_l02Signers.Cs (k : Nat) : CallSem := tab [(179, spec_l01In.ans k)]
def spec_l02Signers.cuts : List (Nat × Keep) := []
theorem spec_l02Signers.s (k : Nat) (a0 : Int) : answer Try.prog spec_l02Signers.Cs 100000 spec_l02Signers.cuts [] Try.f175 (k + 1) [.v (.int .i64 a0)] = spec_l02Signers.b (fun r => some (spec_l02Signers.enc r)) k a0 := by kernel_rfl
theorem spec_l02Signers.b_nat {R R' : Type} (e : R → R') (ret : Bool → Option R) (k : Nat) (a0 : Int) : spec_l02Signers.b (fun r => (ret r).map e) k a0 = (spec_l02Signers.b ret k a0).map e := by
  unfold spec_l02Signers.b
  repeat' first | with_reducible refine nat_cond ?_ ?_ | with_reducible refine nat_bind fun _ => ?_ | rfl
theorem spec_l02Signers.eq (k : Nat) (a0 : Int) : answer Try.prog spec_l02Signers.Cs 100000 spec_l02Signers.cuts [] Try.f175 (k + 1) [.v (.int .i64 a0)] = (spec_l02Signers.f (k + 1) a0).map spec_l02Signers.enc := by
  refine (spec_l02Signers.s k a0).trans (Eq.trans ?_ (spec_l02Signers.b_nat spec_l02Signers.enc some k a0))
  simp only [Option.map_some]
theorem spec_l02Signers.sound (k : Nat) : SoundF Try.prog 175 (fun a => (spec_l02Signers.ans k a).val) := by
  refine sound_plain (fun args res h => ?_) (fun t n => rfl)
  unfold spec_l02Signers.ans at h
  dsimp only at h
  split at h
  · cases k with
    | zero => cases h
    | succ k =>
      unfold Ans.val at h
      rw [← spec_l02Signers.eq] at h
      exact answer_sound mixed Try.func175 _ _ _ (k + 1) (fun j _ => tab_sound (tab_cons (spec_l01In.sound j) (tab_nil))) _ _ h
  · exact (Ans.no_val h).elim

/-! loop.example/g00790/spec.BitsSize -/
def spec_BitsSize.b {R : Type} (ret : Int → Option R) (k : Nat) (a0 : Int) : Option R :=
  cond (decide (a0 < 1)) (ret 0) (ret (RowKit.wrap64 ((RowKit.wrap64 (Int.tdiv (RowKit.wrap64 (a0 - 1)) 8)) + 1)))
def spec_BitsSize.f : Nat → Int → Option Int
  | 0, _ => none
  | k + 1, a0 => spec_BitsSize.b some k a0
def spec_BitsSize.enc (r : Int) : Res := ⟨[.vals false [((.int .i64 r), true)]], []⟩
def spec_BitsSize.ans (k : Nat) : List Arg → Ans
  | [.v (.int .i64 a0)] => ⟨spec_BitsSize.f k a0, spec_BitsSize.enc⟩
  | _ => Ans.no
def spec_BitsSize.Cs (k : Nat) : CallSem := tab []
def spec_BitsSize.cuts : List (Nat × Keep) := []
theorem spec_BitsSize.s (k : Nat) (a0 : Int) : answer Try.prog spec_BitsSize.Cs 100000 spec_BitsSize.cuts [] Try.f176 (k + 1) [.v (.int .i64 a0)] = spec_BitsSize.b (fun r => some (spec_BitsSize.enc r)) k a0 := by kernel_rfl
theorem spec_BitsSize.b_nat {R R' : Type} (e : R → R') (ret : Int → Option R) (k : Nat) (a0 : Int) : spec_BitsSize.b (fun r => (ret r).map e) k a0 = (spec_BitsSize.b ret k a0).map e := by
  unfold spec_BitsSize.b
  repeat' first | with_reducible refine nat_cond ?_ ?_ | with_reducible refine nat_bind fun _ => ?_ | rfl
theorem spec_BitsSize.eq (k : Nat) (a0 : Int) : answer Try.prog spec_BitsSize.Cs 100000 spec_BitsSize.cuts [] Try.f176 (k + 1) [.v (.int .i64 a0)] = (spec_BitsSize.f (k + 1) a0).map spec_BitsSize.enc := by
  refine (spec_BitsSize.s k a0).trans (Eq.trans ?_ (spec_BitsSize.b_nat spec_BitsSize.enc some k a0))
  simp only [Option.map_some]
theorem spec_BitsSize.sound (k : Nat) : SoundF Try.prog 176 (fun a => (spec_BitsSize.ans k a).val) := by
  refine sound_plain (fun args res h => ?_) (fun t n => rfl)
  unfold spec_BitsSize.ans at h
  dsimp only at h
  split at h
  · cases k with
    | zero => cases h
    | succ k =>
      unfold Ans.val at h
      rw [← spec_BitsSize.eq] at h
      exact answer_sound mixed Try.func176 _ _ _ (k + 1) (fun j _ => tab_sound (tab_nil)) _ _ h
  · exact (Ans.no_val h).elim

/-! loop.example/g00790/spec.BitsNew -/
def spec_BitsNew.b {R : Type} (ret : Bool × List Int → Option R) (k : Nat) (a0 : Int) : Option R :=
  (spec_l02Signers.f k a0).bind fun t0 => cond (!t0) (ret (true, ([] : List Int))) ((spec_BitsSize.f k a0).bind fun t1 => cond (decide (t1 = t1)) (cond (decide ((0 : Int) ≤ t1)) (cond (decide ((t1).toNat < 140737488355328)) (ret (false, (List.replicate (t1).toNat (0 : Int)))) (none)) (none)) (none))
def spec_BitsNew.f : Nat → Int → Option (Bool × List Int)
  | 0, _ => none
  | k + 1, a0 => spec_BitsNew.b some k a0
def spec_BitsNew.enc (r : Bool × List Int) : Res := ⟨[.vals false [((.nums 5 .u8 r.1 r.2), true)]], []⟩
def spec_BitsNew.ans (k : Nat) : List Arg → Ans
  | [.v (.int .i64 a0)] => ⟨spec_BitsNew.f k a0, spec_BitsNew.enc⟩
  | _ => Ans.no
def spec_BitsNew.Cs (k : Nat) : CallSem := tab [(175, spec_l02Signers.ans k), (176, spec_BitsSize.ans k)]
def spec_BitsNew.cuts : List (Nat × Keep) := []
theorem spec_BitsNew.s (k : Nat) (a0 : Int) : answer Try.prog spec_BitsNew.Cs 100000 spec_BitsNew.cuts [] Try.f102 (k + 1) [.v (.int .i64 a0)] = spec_BitsNew.b (fun r => some (spec_BitsNew.enc r)) k a0 := by kernel_rfl
theorem spec_BitsNew.b_nat {R R' : Type} (e : R → R') (ret : Bool × List Int → Option R) (k : Nat) (a0 : Int) : spec_BitsNew.b (fun r => (ret r).map e) k a0 = (spec_BitsNew.b ret k a0).map e := by
  unfold spec_BitsNew.b
  repeat' first | with_reducible refine nat_cond ?_ ?_ | with_reducible refine nat_bind fun _ => ?_ | rfl
theorem spec_BitsNew.eq (k : Nat) (a0 : Int) : answer Try.prog spec_BitsNew.Cs 100000 spec_BitsNew.cuts [] Try.f102 (k + 1) [.v (.int .i64 a0)] = (spec_BitsNew.f (k + 1) a0).map spec_BitsNew.enc := by
  refine (spec_BitsNew.s k a0).trans (Eq.trans ?_ (spec_BitsNew.b_nat spec_BitsNew.enc some k a0))
  simp only [Option.map_some]
theorem spec_BitsNew.sound (k : Nat) : SoundF Try.prog 102 (fun a => (spec_BitsNew.ans k a).val) := by
  refine sound_plain (fun args res h => ?_) (fun t n => rfl)
  unfold spec_BitsNew.ans at h
  dsimp only at h
  split at h
  · cases k with
    | zero => cases h
    | succ k =>
      unfold Ans.val at h
      rw [← spec_BitsNew.eq] at h
      exact answer_sound mixed Try.func102 _ _ _ (k + 1) (fun j _ => tab_sound (tab_cons (spec_l02Signers.sound j) (tab_cons (spec_BitsSize.sound j) (tab_nil)))) _ _ h
  · exact (Ans.no_val h).elim

/-! loop.example/g00790/spec.LimitsOk -/
def spec_LimitsOk.b {R : Type} (ret : Bool → Option R) (k : Nat) (a0_0 : Int) (a0_1 : Int) (a0_2 : Int) (a0_3 : Int) (a0_4 : Int) : Option R :=
  (spec_l02Signers.f k a0_0).bind fun t0 => cond t0 ((spec_l01In.f k a0_1 0 40).bind fun t1 => cond t1 ((spec_l01In.f k a0_2 0 8).bind fun t2 => cond t2 ((spec_l01In.f k a0_3 1 4000).bind fun t3 => cond t3 ((spec_l01In.f k a0_4 3 5).bind fun t4 => ret t4) (ret false)) (ret false)) (ret false)) (ret false)
def spec_LimitsOk.f : Nat → Int → Int → Int → Int → Int → Option Bool
  | 0, _, _, _, _, _ => none
  | k + 1, a0_0, a0_1, a0_2, a0_3, a0_4 => spec_LimitsOk.b some k a0_0 a0_1 a0_2 a0_3 a0_4
def spec_LimitsOk.enc (r : Bool) : Res := ⟨[.vals false [((.bool r), true)]], []⟩
def spec_LimitsOk.ans (k : Nat) : List Arg → Ans
  | [.v (.agg [(.int .i64 a0_0), (.int .i64 a0_1), (.int .i64 a0_2), (.int .i64 a0_3), (.int .i64 a0_4)])] => ⟨spec_LimitsOk.f k a0_0 a0_1 a0_2 a0_3 a0_4, spec_LimitsOk.enc⟩
  | _ => Ans.no
def spec_LimitsOk.Cs (k : Nat) : CallSem := tab [(175, spec_l02Signers.ans k), (179, spec_l01In.ans k)]
def spec_LimitsOk.cuts : List (Nat × Keep) := []
theorem spec_LimitsOk.s (k : Nat) (a0_0 : Int) (a0_1 : Int) (a0_2 : Int) (a0_3 : Int) (a0_4 : Int) : answer Try.prog spec_LimitsOk.Cs 100000 spec_LimitsOk.cuts [] Try.f177 (k + 1) [.v (.agg [(.int .i64 a0_0), (.int .i64 a0_1), (.int .i64 a0_2), (.int .i64 a0_3), (.int .i64 a0_4)])] = spec_LimitsOk.b (fun r => some (spec_LimitsOk.enc r)) k a0_0 a0_1 a0_2 a0_3 a0_4 := by kernel_rfl
theorem spec_LimitsOk.b_nat {R R' : Type} (e : R → R') (ret : Bool → Option R) (k : Nat) (a0_0 : Int) (a0_1 : Int) (a0_2 : Int) (a0_3 : Int) (a0_4 : Int) : spec_LimitsOk.b (fun r => (ret r).map e) k a0_0 a0_1 a0_2 a0_3 a0_4 = (spec_LimitsOk.b ret k a0_0 a0_1 a0_2 a0_3 a0_4).map e := by
  unfold spec_LimitsOk.b
  repeat' first | with_reducible refine nat_cond ?_ ?_ | with_reducible refine nat_bind fun _ => ?_ | rfl
theorem spec_LimitsOk.eq (k : Nat) (a0_0 : Int) (a0_1 : Int) (a0_2 : Int) (a0_3 : Int) (a0_4 : Int) : answer Try.prog spec_LimitsOk.Cs 100000 spec_LimitsOk.cuts [] Try.f177 (k + 1) [.v (.agg [(.int .i64 a0_0), (.int .i64 a0_1), (.int .i64 a0_2), (.int .i64 a0_3), (.int .i64 a0_4)])] = (spec_LimitsOk.f (k + 1) a0_0 a0_1 a0_2 a0_3 a0_4).map spec_LimitsOk.enc := by
  refine (spec_LimitsOk.s k a0_0 a0_1 a0_2 a0_3 a0_4).trans (Eq.trans ?_ (spec_LimitsOk.b_nat spec_LimitsOk.enc some k a0_0 a0_1 a0_2 a0_3 a0_4))
  simp only [Option.map_some]
theorem spec_LimitsOk.sound (k : Nat) : SoundF Try.prog 177 (fun a => (spec_LimitsOk.ans k a).val) := by
  refine sound_plain (fun args res h => ?_) (fun t n => rfl)
  unfold spec_LimitsOk.ans at h
  dsimp only at h
  split at h
  · cases k with
    | zero => cases h
    | succ k =>
      unfold Ans.val at h
      rw [← spec_LimitsOk.eq] at h
      exact answer_sound mixed Try.func177 _ _ _ (k + 1) (fun j _ => tab_sound (tab_cons (spec_l02Signers.sound j) (tab_cons (spec_l01In.sound j) (tab_nil)))) _ _ h
  · exact (Ans.no_val h).elim

/-! loop.example/g00790/spec.TableOk -/
def spec_TableOk.b {R : Type} (ret : Bool → Option R) (j0 : Bool → (List T) → Int → Int → Bool → (List T) → Option R) (k : Nat) (a0_0z : Bool) (a0_0 : List T) : Option R :=
  j0 a0_0z a0_0 ((a0_0).length : Int) 0 a0_0z a0_0
def spec_TableOk.l0b {R : Type} (ret : Bool → Option R) (j0 : Bool → (List T) → Int → Int → Bool → (List T) → Option R) (k : Nat) (x6z : Bool) (x6 : List T) (x7 : Int) (x8 : Int) (c1_0z : Bool) (c1_0 : List T) : Option R :=
  cond (decide (x8 < x7)) (cond (decide ((0 : Int) ≤ x8)) (cond (decide (x8 < ((x6).length : Int))) ((spec_l01In.f k (((((x6).getD (x8).toNat .bad).cells.getD 0 .bad)).toInt) 1 1099511627776).bind fun t0 => cond (!t0) (ret false) ((spec_l01In.f k ((((((x6).getD (x8).toNat .bad).cells.getD 1 .bad)).toNums).length : Int) 1 64).bind fun t1 => cond (!t1) (ret false) (j0 x6z x6 x7 (RowKit.wrap64 (x8 + 1)) c1_0z c1_0))) (none)) (none)) ((spec_l02Signers.f k ((c1_0).length : Int)).bind fun t0 => ret t0)
def spec_TableOk.l0 : Nat → Bool → (List T) → Int → Int → Bool → (List T) → Option Bool
  | 0, _, _, _, _, _, _ => none
  | k + 1, x6z, x6, x7, x8, c1_0z, c1_0 => spec_TableOk.l0b some (spec_TableOk.l0 k) k x6z x6 x7 x8 c1_0z c1_0
def spec_TableOk.f : Nat → Bool → (List T) → Option Bool
  | 0, _, _ => none
  | k + 1, a0_0z, a0_0 => spec_TableOk.b some (spec_TableOk.l0 k) k a0_0z a0_0
def spec_TableOk.enc (r : Bool) : Res := ⟨[.vals false [((.bool r), true)]], []⟩
def spec_TableOk.ans (k : Nat) : List Arg → Ans
  | [.v (.agg [(.sl 44 a0_0z a0_0)])] => ⟨spec_TableOk.f k a0_0z a0_0, spec_TableOk.enc⟩
  | _ => Ans.no
def spec_TableOk.Cs (k : Nat) : CallSem := tab [(175, spec_l02Signers.ans k), (179, spec_l01In.ans k)]
def spec_TableOk.cuts : List (Nat × Keep) := [(26, ⟨[(1, some []), (6, some []), (7, some []), (8, some [])], [(1, [some []])]⟩)]
noncomputable def spec_TableOk.K0 : List Fr := framesAt [true, false, true, false] (bodyOf Try.f145 spec_TableOk.cuts) []
def spec_TableOk.N0 (x6z : Bool) (x6 : List T) (x7 : Int) (x8 : Int) (c1_0z : Bool) (c1_0 : List T) : St := stOf 28 28 1 [(1, .bp 1 0), (6, .val ⟨(.sl 44 x6z x6), [], false, none⟩), (7, .val (V.s (.int .i64 x7))), (8, .val (V.s (.int .i64 x8)))] [(1, .cells [⟨(.sl 44 c1_0z c1_0), [], false, none⟩])]
theorem spec_TableOk.s (k : Nat) (a0_0z : Bool) (a0_0 : List T) : answer Try.prog spec_TableOk.Cs 100000 spec_TableOk.cuts [] Try.f145 (k + 1) [.v (.agg [(.sl 44 a0_0z a0_0)])] = spec_TableOk.b (fun r => some (spec_TableOk.enc r)) (fun x6z x6 x7 x8 c1_0z c1_0 => rounds Try.prog spec_TableOk.Cs (finish Try.prog [] Try.f145 [.v (.agg [(.sl 44 a0_0z a0_0)])]) 100000 k spec_TableOk.K0 (spec_TableOk.N0 x6z x6 x7 x8 c1_0z c1_0)) k a0_0z a0_0 := by kernel_rfl
theorem spec_TableOk.s0 (k : Nat) (G : List Fr → St → Option Res) (a0_0z : Bool) (a0_0 : List T) (yx6z : Bool) (yx6 : List T) (yx7 : Int) (yx8 : Int) (yc1_0z : Bool) (yc1_0 : List T) : resume Try.prog (spec_TableOk.Cs k) G (finish Try.prog [] Try.f145 [.v (.agg [(.sl 44 a0_0z a0_0)])]) 100000 spec_TableOk.K0 (spec_TableOk.N0 yx6z yx6 yx7 yx8 yc1_0z yc1_0) = spec_TableOk.l0b (fun r => some (spec_TableOk.enc r)) (fun x6z x6 x7 x8 c1_0z c1_0 => G spec_TableOk.K0 (spec_TableOk.N0 x6z x6 x7 x8 c1_0z c1_0)) k yx6z yx6 yx7 yx8 yc1_0z yc1_0 := by kernel_rfl
theorem spec_TableOk.b_nat {R R' : Type} (e : R → R') (ret : Bool → Option R) (j0 : Bool → (List T) → Int → Int → Bool → (List T) → Option R) (k : Nat) (a0_0z : Bool) (a0_0 : List T) : spec_TableOk.b (fun r => (ret r).map e) (fun x6z x6 x7 x8 c1_0z c1_0 => (j0 x6z x6 x7 x8 c1_0z c1_0).map e) k a0_0z a0_0 = (spec_TableOk.b ret j0 k a0_0z a0_0).map e := by
  unfold spec_TableOk.b
  repeat' first | with_reducible refine nat_cond ?_ ?_ | with_reducible refine nat_bind fun _ => ?_ | rfl
theorem spec_TableOk.l0b_nat {R R' : Type} (e : R → R') (ret : Bool → Option R) (j0 : Bool → (List T) → Int → Int → Bool → (List T) → Option R) (k : Nat) (x6z : Bool) (x6 : List T) (x7 : Int) (x8 : Int) (c1_0z : Bool) (c1_0 : List T) : spec_TableOk.l0b (fun r => (ret r).map e) (fun x6z x6 x7 x8 c1_0z c1_0 => (j0 x6z x6 x7 x8 c1_0z c1_0).map e) k x6z x6 x7 x8 c1_0z c1_0 = (spec_TableOk.l0b ret j0 k x6z x6 x7 x8 c1_0z c1_0).map e := by
  unfold spec_TableOk.l0b
  repeat' first | with_reducible refine nat_cond ?_ ?_ | with_reducible refine nat_bind fun _ => ?_ | rfl
theorem spec_TableOk.rounds_eq (a0_0z : Bool) (a0_0 : List T) : ∀ k, (∀ (x6z : Bool) (x6 : List T) (x7 : Int) (x8 : Int) (c1_0z : Bool) (c1_0 : List T), rounds Try.prog spec_TableOk.Cs (finish Try.prog [] Try.f145 [.v (.agg [(.sl 44 a0_0z a0_0)])]) 100000 k spec_TableOk.K0 (spec_TableOk.N0 x6z x6 x7 x8 c1_0z c1_0) = (spec_TableOk.l0 k x6z x6 x7 x8 c1_0z c1_0).map spec_TableOk.enc)
  | 0 => fun _ _ _ _ _ _ => rfl
  | k + 1 => by
    have ih := spec_TableOk.rounds_eq a0_0z a0_0 k
    refine fun _ _ _ _ _ _ => ?_
    · refine (spec_TableOk.s0 k _ a0_0z a0_0 _ _ _ _ _ _).trans (Eq.trans ?_ (spec_TableOk.l0b_nat spec_TableOk.enc some (spec_TableOk.l0 k) k _ _ _ _ _ _))
      simp only [ih, Option.map_some]
theorem spec_TableOk.eq (k : Nat) (a0_0z : Bool) (a0_0 : List T) : answer Try.prog spec_TableOk.Cs 100000 spec_TableOk.cuts [] Try.f145 (k + 1) [.v (.agg [(.sl 44 a0_0z a0_0)])] = (spec_TableOk.f (k + 1) a0_0z a0_0).map spec_TableOk.enc := by
  have ih := spec_TableOk.rounds_eq a0_0z a0_0 k
  refine (spec_TableOk.s k a0_0z a0_0).trans (Eq.trans ?_ (spec_TableOk.b_nat spec_TableOk.enc some (spec_TableOk.l0 k) k a0_0z a0_0))
  simp only [ih, Option.map_some]
theorem spec_TableOk.sound (k : Nat) : SoundF Try.prog 145 (fun a => (spec_TableOk.ans k a).val) := by
  refine sound_plain (fun args res h => ?_) (fun t n => rfl)
  unfold spec_TableOk.ans at h
  dsimp only at h
  split at h
  · cases k with
    | zero => cases h
    | succ k =>
      unfold Ans.val at h
      rw [← spec_TableOk.eq] at h
      exact answer_sound mixed Try.func145 _ _ _ (k + 1) (fun j _ => tab_sound (tab_cons (spec_l02Signers.sound j) (tab_cons (spec_l01In.sound j) (tab_nil)))) _ _ h
  · exact (Ans.no_val h).elim

/-! loop.example/g00790/spec.l23Goes -/
def spec_l23Goes.b {R : Type} (ret : Bool → Option R) (k : Nat) (a0_0 : Int) (a0_1 : Int) (a0_2 : Int) (a0_3 : Int) (a0_4 : Int) (a1_0z : Bool) (a1_0 : List T) : Option R :=
  (spec_LimitsOk.f k a0_0 a0_1 a0_2 a0_3 a0_4).bind fun t0 => cond t0 ((spec_TableOk.f k a1_0z a1_0).bind fun t1 => cond t1 (ret (decide (a0_0 = ((a1_0).length : Int)))) (ret false)) (ret false)
def spec_l23Goes.f : Nat → Int → Int → Int → Int → Int → Bool → (List T) → Option Bool
  | 0, _, _, _, _, _, _, _ => none
  | k + 1, a0_0, a0_1, a0_2, a0_3, a0_4, a1_0z, a1_0 => spec_l23Goes.b some k a0_0 a0_1 a0_2 a0_3 a0_4 a1_0z a1_0
def spec_l23Goes.enc (r : Bool) : Res := ⟨[.vals false [((.bool r), true)]], []⟩
def spec_l23Goes.ans (k : Nat) : List Arg → Ans
  | [.v (.agg [(.int .i64 a0_0), (.int .i64 a0_1), (.int .i64 a0_2), (.int .i64 a0_3), (.int .i64 a0_4)]), .v (.agg [(.sl 44 a1_0z a1_0)])] => ⟨spec_l23Goes.f k a0_0 a0_1 a0_2 a0_3 a0_4 a1_0z a1_0, spec_l23Goes.enc⟩
  | _ => Ans.no
def spec_l23Goes.Cs (k : Nat) : CallSem := tab [(177, spec_LimitsOk.ans k), (145, spec_TableOk.ans k)]
def spec_l23Goes.cuts : List (Nat × Keep) := []
theorem spec_l23Goes.s (k : Nat) (a0_0 : Int) (a0_1 : Int) (a0_2 : Int) (a0_3 : Int) (a0_4 : Int) (a1_0z : Bool) (a1_0 : List T) : answer Try.prog spec_l23Goes.Cs 100000 spec_l23Goes.cuts [] Try.f103 (k + 1) [.v (.agg [(.int .i64 a0_0), (.int .i64 a0_1), (.int .i64 a0_2), (.int .i64 a0_3), (.int .i64 a0_4)]), .v (.agg [(.sl 44 a1_0z a1_0)])] = spec_l23Goes.b (fun r => some (spec_l23Goes.enc r)) k a0_0 a0_1 a0_2 a0_3 a0_4 a1_0z a1_0 := by kernel_rfl
theorem spec_l23Goes.b_nat {R R' : Type} (e : R → R') (ret : Bool → Option R) (k : Nat) (a0_0 : Int) (a0_1 : Int) (a0_2 : Int) (a0_3 : Int) (a0_4 : Int) (a1_0z : Bool) (a1_0 : List T) : spec_l23Goes.b (fun r => (ret r).map e) k a0_0 a0_1 a0_2 a0_3 a0_4 a1_0z a1_0 = (spec_l23Goes.b ret k a0_0 a0_1 a0_2 a0_3 a0_4 a1_0z a1_0).map e := by
  unfold spec_l23Goes.b
  repeat' first | with_reducible refine nat_cond ?_ ?_ | with_reducible refine nat_bind fun _ => ?_ | rfl
theorem spec_l23Goes.eq (k : Nat) (a0_0 : Int) (a0_1 : Int) (a0_2 : Int) (a0_3 : Int) (a0_4 : Int) (a1_0z : Bool) (a1_0 : List T) : answer Try.prog spec_l23Goes.Cs 100000 spec_l23Goes.cuts [] Try.f103 (k + 1) [.v (.agg [(.int .i64 a0_0), (.int .i64 a0_1), (.int .i64 a0_2), (.int .i64 a0_3), (.int .i64 a0_4)]), .v (.agg [(.sl 44 a1_0z a1_0)])] = (spec_l23Goes.f (k + 1) a0_0 a0_1 a0_2 a0_3 a0_4 a1_0z a1_0).map spec_l23Goes.enc := by
  refine (spec_l23Goes.s k a0_0 a0_1 a0_2 a0_3 a0_4 a1_0z a1_0).trans (Eq.trans ?_ (spec_l23Goes.b_nat spec_l23Goes.enc some k a0_0 a0_1 a0_2 a0_3 a0_4 a1_0z a1_0))
  simp only [Option.map_some]
theorem spec_l23Goes.sound (k : Nat) : SoundF Try.prog 103 (fun a => (spec_l23Goes.ans k a).val) := by
  refine sound_plain (fun args res h => ?_) (fun t n => rfl)
  unfold spec_l23Goes.ans at h
  dsimp only at h
  split at h
  · cases k with
    | zero => cases h
    | succ k =>
      unfold Ans.val at h
      rw [← spec_l23Goes.eq] at h
      exact answer_sound mixed Try.func103 _ _ _ (k + 1) (fun j _ => tab_sound (tab_cons (spec_LimitsOk.sound j) (tab_cons (spec_TableOk.sound j) (tab_nil)))) _ _ h
  · exact (Ans.no_val h).elim

/-! loop.example/g00790/spec.l01Num -/
def spec_l01Num.b {R : Type} (ret : Bool → Option R) (k : Nat) (a0 : Int) : Option R :=
  (spec_l01In.f k a0 0 1152921504606846975).bind fun t0 => ret t0
def spec_l01Num.f : Nat → Int → Option Bool
  | 0, _ => none
  | k + 1, a0 => spec_l01Num.b some k a0
def spec_l01Num.enc (r : Bool) : Res := ⟨[.vals false [((.bool r), true)]], []⟩
def spec_l01Num.ans (k : Nat) : List Arg → Ans
  | [.v (.int .i64 a0)] => ⟨spec_l01Num.f k a0, spec_l01Num.enc⟩
  | _ => Ans.no
def spec_l01Num.Cs (k : Nat) : CallSem := tab [(179, spec_l01In.ans k)]
def spec_l01Num.cuts : List (Nat × Keep) := []
theorem spec_l01Num.s (k : Nat) (a0 : Int) : answer Try.prog spec_l01Num.Cs 100000 spec_l01Num.cuts [] Try.f178 (k + 1) [.v (.int .i64 a0)] = spec_l01Num.b (fun r => some (spec_l01Num.enc r)) k a0 := by kernel_rfl
theorem spec_l01Num.b_nat {R R' : Type} (e : R → R') (ret : Bool → Option R) (k : Nat) (a0 : Int) : spec_l01Num.b (fun r => (ret r).map e) k a0 = (spec_l01Num.b ret k a0).map e := by
  unfold spec_l01Num.b
  repeat' first | with_reducible refine nat_cond ?_ ?_ | with_reducible refine nat_bind fun _ => ?_ | rfl
theorem spec_l01Num.eq (k : Nat) (a0 : Int) : answer Try.prog spec_l01Num.Cs 100000 spec_l01Num.cuts [] Try.f178 (k + 1) [.v (.int .i64 a0)] = (spec_l01Num.f (k + 1) a0).map spec_l01Num.enc := by
  refine (spec_l01Num.s k a0).trans (Eq.trans ?_ (spec_l01Num.b_nat spec_l01Num.enc some k a0))
  simp only [Option.map_some]
theorem spec_l01Num.sound (k : Nat) : SoundF Try.prog 178 (fun a => (spec_l01Num.ans k a).val) := by
  refine sound_plain (fun args res h => ?_) (fun t n => rfl)
  unfold spec_l01Num.ans at h
  dsimp only at h
  split at h
  · cases k with
    | zero => cases h
    | succ k =>
      unfold Ans.val at h
      rw [← spec_l01Num.eq] at h
      exact answer_sound mixed Try.func178 _ _ _ (k + 1) (fun j _ => tab_sound (tab_cons (spec_l01In.sound j) (tab_nil))) _ _ h
  · exact (Ans.no_val h).elim

/-! loop.example/g00790/spec.l07Hash -/
def spec_l07Hash.b {R : Type} (ret : Bool → Option R) (k : Nat) (a0z : Bool) (a0 : List Int) : Option R :=
  ret (decide (((a0).length : Int) = 32))
def spec_l07Hash.f : Nat → Bool → (List Int) → Option Bool
  | 0, _, _ => none
  | k + 1, a0z, a0 => spec_l07Hash.b some k a0z a0
def spec_l07Hash.enc (r : Bool) : Res := ⟨[.vals false [((.bool r), true)]], []⟩
def spec_l07Hash.ans (k : Nat) : List Arg → Ans
  | [.v (.nums 5 .u8 a0z a0)] => ⟨spec_l07Hash.f k a0z a0, spec_l07Hash.enc⟩
  | _ => Ans.no
def spec_l07Hash.Cs (k : Nat) : CallSem := tab []
def spec_l07Hash.cuts : List (Nat × Keep) := []
theorem spec_l07Hash.s (k : Nat) (a0z : Bool) (a0 : List Int) : answer Try.prog spec_l07Hash.Cs 100000 spec_l07Hash.cuts [] Try.f180 (k + 1) [.v (.nums 5 .u8 a0z a0)] = spec_l07Hash.b (fun r => some (spec_l07Hash.enc r)) k a0z a0 := by kernel_rfl
theorem spec_l07Hash.b_nat {R R' : Type} (e : R → R') (ret : Bool → Option R) (k : Nat) (a0z : Bool) (a0 : List Int) : spec_l07Hash.b (fun r => (ret r).map e) k a0z a0 = (spec_l07Hash.b ret k a0z a0).map e := by
  unfold spec_l07Hash.b
  repeat' first | with_reducible refine nat_cond ?_ ?_ | with_reducible refine nat_bind fun _ => ?_ | rfl
theorem spec_l07Hash.eq (k : Nat) (a0z : Bool) (a0 : List Int) : answer Try.prog spec_l07Hash.Cs 100000 spec_l07Hash.cuts [] Try.f180 (k + 1) [.v (.nums 5 .u8 a0z a0)] = (spec_l07Hash.f (k + 1) a0z a0).map spec_l07Hash.enc := by
  refine (spec_l07Hash.s k a0z a0).trans (Eq.trans ?_ (spec_l07Hash.b_nat spec_l07Hash.enc some k a0z a0))
  simp only [Option.map_some]
theorem spec_l07Hash.sound (k : Nat) : SoundF Try.prog 180 (fun a => (spec_l07Hash.ans k a).val) := by
  refine sound_plain (fun args res h => ?_) (fun t n => rfl)
  unfold spec_l07Hash.ans at h
  dsimp only at h
  split at h
  · cases k with
    | zero => cases h
    | succ k =>
      unfold Ans.val at h
      rw [← spec_l07Hash.eq] at h
      exact answer_sound mixed Try.func180 _ _ _ (k + 1) (fun j _ => tab_sound (tab_nil)) _ _ h
  · exact (Ans.no_val h).elim

/-! loop.example/g00790/spec.BitsHas -/
def spec_BitsHas.b {R : Type} (ret : Bool → Option R) (k : Nat) (a0z : Bool) (a0 : List Int) (a1 : Int) : Option R :=
  cond (decide (a1 ≥ 0)) (cond (decide ((RowKit.wrap64 (Int.tdiv a1 8)) < ((a0).length : Int))) (cond (decide ((0 : Int) ≤ (RowKit.wrap64 (Int.tdiv a1 8)))) (cond (decide ((RowKit.wrap64 (Int.tdiv a1 8)) < ((a0).length : Int))) (cond (decide ((0 : Int) ≤ (Int.tmod a1 8))) (ret (decide ((Int.tmod (shrI .i64 (RowKit.wrap64 ((rdI a0 (RowKit.wrap64 (Int.tdiv a1 8))))) (Int.tmod a1 8)) 2) = 1))) (none)) (none)) (none)) (ret false)) (ret false)
def spec_BitsHas.f : Nat → Bool → (List Int) → Int → Option Bool
  | 0, _, _, _ => none
  | k + 1, a0z, a0, a1 => spec_BitsHas.b some k a0z a0 a1
def spec_BitsHas.enc (r : Bool) : Res := ⟨[.vals false [((.bool r), true)]], []⟩
def spec_BitsHas.ans (k : Nat) : List Arg → Ans
  | [.v (.nums 5 .u8 a0z a0), .v (.int .i64 a1)] => ⟨spec_BitsHas.f k a0z a0 a1, spec_BitsHas.enc⟩
  | _ => Ans.no
def spec_BitsHas.Cs (k : Nat) : CallSem := tab []
def spec_BitsHas.cuts : List (Nat × Keep) := []
theorem spec_BitsHas.s (k : Nat) (a0z : Bool) (a0 : List Int) (a1 : Int) : answer Try.prog spec_BitsHas.Cs 100000 spec_BitsHas.cuts [] Try.f203 (k + 1) [.v (.nums 5 .u8 a0z a0), .v (.int .i64 a1)] = spec_BitsHas.b (fun r => some (spec_BitsHas.enc r)) k a0z a0 a1 := by kernel_rfl
theorem spec_BitsHas.b_nat {R R' : Type} (e : R → R') (ret : Bool → Option R) (k : Nat) (a0z : Bool) (a0 : List Int) (a1 : Int) : spec_BitsHas.b (fun r => (ret r).map e) k a0z a0 a1 = (spec_BitsHas.b ret k a0z a0 a1).map e := by
  unfold spec_BitsHas.b
  repeat' first | with_reducible refine nat_cond ?_ ?_ | with_reducible refine nat_bind fun _ => ?_ | rfl
theorem spec_BitsHas.eq (k : Nat) (a0z : Bool) (a0 : List Int) (a1 : Int) : answer Try.prog spec_BitsHas.Cs 100000 spec_BitsHas.cuts [] Try.f203 (k + 1) [.v (.nums 5 .u8 a0z a0), .v (.int .i64 a1)] = (spec_BitsHas.f (k + 1) a0z a0 a1).map spec_BitsHas.enc := by
  refine (spec_BitsHas.s k a0z a0 a1).trans (Eq.trans ?_ (spec_BitsHas.b_nat spec_BitsHas.enc some k a0z a0 a1))
  simp only [Option.map_some]
theorem spec_BitsHas.sound (k : Nat) : SoundF Try.prog 203 (fun a => (spec_BitsHas.ans k a).val) := by
  refine sound_plain (fun args res h => ?_) (fun t n => rfl)
  unfold spec_BitsHas.ans at h
  dsimp only at h
  split at h
  · cases k with
    | zero => cases h
    | succ k =>
      unfold Ans.val at h
      rw [← spec_BitsHas.eq] at h
      exact answer_sound mixed Try.func203 _ _ _ (k + 1) (fun j _ => tab_sound (tab_nil)) _ _ h
  · exact (Ans.no_val h).elim

/-! loop.example/g00790/spec.BitsList -/
def spec_BitsList.b {R : Type} (ret : Bool × List Int → Option R) (j0 : Bool → (List Int) → (List Int) → Int → Option R) (k : Nat) (a0z : Bool) (a0 : List Int) : Option R :=
  j0 a0z a0 ([] : List Int) 0
def spec_BitsList.l0b {R : Type} (ret : Bool × List Int → Option R) (j0 : Bool → (List Int) → (List Int) → Int → Option R) (k : Nat) (x0z : Bool) (x0 : List Int) (x3 : List Int) (x4 : Int) : Option R :=
  cond (decide (x4 < (RowKit.wrap64 ((8 : Int) * ((x0).length : Int))))) ((spec_BitsHas.f k x0z x0 x4).bind fun t0 => cond t0 (cond (decide ((x3).length + 1 < 17592186044416)) (j0 x0z x0 (x3 ++ ([x4] : List Int)) (RowKit.wrap64 (x4 + 1))) (none)) (j0 x0z x0 x3 (RowKit.wrap64 (x4 + 1)))) (ret (false, x3))
def spec_BitsList.l0 : Nat → Bool → (List Int) → (List Int) → Int → Option (Bool × List Int)
  | 0, _, _, _, _ => none
  | k + 1, x0z, x0, x3, x4 => spec_BitsList.l0b some (spec_BitsList.l0 k) k x0z x0 x3 x4
def spec_BitsList.f : Nat → Bool → (List Int) → Option (Bool × List Int)
  | 0, _, _ => none
  | k + 1, a0z, a0 => spec_BitsList.b some (spec_BitsList.l0 k) k a0z a0
def spec_BitsList.enc (r : Bool × List Int) : Res := ⟨[.vals false [((.nums 3 .i64 r.1 r.2), true)]], []⟩
def spec_BitsList.ans (k : Nat) : List Arg → Ans
  | [.v (.nums 5 .u8 a0z a0)] => ⟨spec_BitsList.f k a0z a0, spec_BitsList.enc⟩
  | _ => Ans.no
def spec_BitsList.Cs (k : Nat) : CallSem := tab [(203, spec_BitsHas.ans k)]
def spec_BitsList.cuts : List (Nat × Keep) := [(58, ⟨[(0, some []), (3, none), (4, some [])], []⟩)]
noncomputable def spec_BitsList.K0 : List Fr := framesAt [true, true, false, true, false] (bodyOf Try.f206 spec_BitsList.cuts) []
def spec_BitsList.N0 (x0z : Bool) (x0 : List Int) (x3 : List Int) (x4 : Int) : St := stOf 21 21 1 [(0, .val ⟨(.nums 5 .u8 x0z x0), [], false, none⟩), (3, .val ⟨(.nums 3 .i64 false x3), [.l 3 0], true, some (.l 3 0)⟩), (4, .val (V.s (.int .i64 x4)))] []
theorem spec_BitsList.s (k : Nat) (a0z : Bool) (a0 : List Int) : answer Try.prog spec_BitsList.Cs 100000 spec_BitsList.cuts [] Try.f206 (k + 1) [.v (.nums 5 .u8 a0z a0)] = spec_BitsList.b (fun r => some (spec_BitsList.enc r)) (fun x0z x0 x3 x4 => rounds Try.prog spec_BitsList.Cs (finish Try.prog [] Try.f206 [.v (.nums 5 .u8 a0z a0)]) 100000 k spec_BitsList.K0 (spec_BitsList.N0 x0z x0 x3 x4)) k a0z a0 := by kernel_rfl
theorem spec_BitsList.s0 (k : Nat) (G : List Fr → St → Option Res) (a0z : Bool) (a0 : List Int) (yx0z : Bool) (yx0 : List Int) (yx3 : List Int) (yx4 : Int) : resume Try.prog (spec_BitsList.Cs k) G (finish Try.prog [] Try.f206 [.v (.nums 5 .u8 a0z a0)]) 100000 spec_BitsList.K0 (spec_BitsList.N0 yx0z yx0 yx3 yx4) = spec_BitsList.l0b (fun r => some (spec_BitsList.enc r)) (fun x0z x0 x3 x4 => G spec_BitsList.K0 (spec_BitsList.N0 x0z x0 x3 x4)) k yx0z yx0 yx3 yx4 := by kernel_rfl
theorem spec_BitsList.b_nat {R R' : Type} (e : R → R') (ret : Bool × List Int → Option R) (j0 : Bool → (List Int) → (List Int) → Int → Option R) (k : Nat) (a0z : Bool) (a0 : List Int) : spec_BitsList.b (fun r => (ret r).map e) (fun x0z x0 x3 x4 => (j0 x0z x0 x3 x4).map e) k a0z a0 = (spec_BitsList.b ret j0 k a0z a0).map e := by
  unfold spec_BitsList.b
  repeat' first | with_reducible refine nat_cond ?_ ?_ | with_reducible refine nat_bind fun _ => ?_ | rfl
theorem spec_BitsList.l0b_nat {R R' : Type} (e : R → R') (ret : Bool × List Int → Option R) (j0 : Bool → (List Int) → (List Int) → Int → Option R) (k : Nat) (x0z : Bool) (x0 : List Int) (x3 : List Int) (x4 : Int) : spec_BitsList.l0b (fun r => (ret r).map e) (fun x0z x0 x3 x4 => (j0 x0z x0 x3 x4).map e) k x0z x0 x3 x4 = (spec_BitsList.l0b ret j0 k x0z x0 x3 x4).map e := by
  unfold spec_BitsList.l0b
  repeat' first | with_reducible refine nat_cond ?_ ?_ | with_reducible refine nat_bind fun _ => ?_ | rfl
theorem spec_BitsList.rounds_eq (a0z : Bool) (a0 : List Int) : ∀ k, (∀ (x0z : Bool) (x0 : List Int) (x3 : List Int) (x4 : Int), rounds Try.prog spec_BitsList.Cs (finish Try.prog [] Try.f206 [.v (.nums 5 .u8 a0z a0)]) 100000 k spec_BitsList.K0 (spec_BitsList.N0 x0z x0 x3 x4) = (spec_BitsList.l0 k x0z x0 x3 x4).map spec_BitsList.enc)
  | 0 => fun _ _ _ _ => rfl
  | k + 1 => by
    have ih := spec_BitsList.rounds_eq a0z a0 k
    refine fun _ _ _ _ => ?_
    · refine (spec_BitsList.s0 k _ a0z a0 _ _ _ _).trans (Eq.trans ?_ (spec_BitsList.l0b_nat spec_BitsList.enc some (spec_BitsList.l0 k) k _ _ _ _))
      simp only [ih, Option.map_some]
theorem spec_BitsList.eq (k : Nat) (a0z : Bool) (a0 : List Int) : answer Try.prog spec_BitsList.Cs 100000 spec_BitsList.cuts [] Try.f206 (k + 1) [.v (.nums 5 .u8 a0z a0)] = (spec_BitsList.f (k + 1) a0z a0).map spec_BitsList.enc := by
  have ih := spec_BitsList.rounds_eq a0z a0 k
  refine (spec_BitsList.s k a0z a0).trans (Eq.trans ?_ (spec_BitsList.b_nat spec_BitsList.enc some (spec_BitsList.l0 k) k a0z a0))
  simp only [ih, Option.map_some]
theorem spec_BitsList.sound (k : Nat) : SoundF Try.prog 206 (fun a => (spec_BitsList.ans k a).val) := by
  refine sound_plain (fun args res h => ?_) (fun t n => rfl)
  unfold spec_BitsList.ans at h
  dsimp only at h
  split at h
  · cases k with
    | zero => cases h
    | succ k =>
      unfold Ans.val at h
      rw [← spec_BitsList.eq] at h
      exact answer_sound mixed Try.func206 _ _ _ (k + 1) (fun j _ => tab_sound (tab_cons (spec_BitsHas.sound j) (tab_nil))) _ _ h
  · exact (Ans.no_val h).elim

/-! loop.example/g00790/spec.BitsOk -/
def spec_BitsOk.b {R : Type} (ret : Bool → Option R) (k : Nat) (a0z : Bool) (a0 : List Int) (a1 : Int) : Option R :=
  (spec_l02Signers.f k a1).bind fun t0 => cond (!t0) (ret false) ((spec_BitsSize.f k a1).bind fun t1 => cond (!(decide (((a0).length : Int) = t1))) (ret false) ((spec_BitsList.f k a0z a0).bind fun t2 => cond (decide (((t2.2).length : Int) = 0)) (ret true) (cond (decide ((0 : Int) ≤ (RowKit.wrap64 (((t2.2).length : Int) - 1)))) (cond (decide ((RowKit.wrap64 (((t2.2).length : Int) - 1)) < ((t2.2).length : Int))) (ret (decide ((rdI t2.2 (RowKit.wrap64 (((t2.2).length : Int) - 1))) < a1))) (none)) (none))))
def spec_BitsOk.f : Nat → Bool → (List Int) → Int → Option Bool
  | 0, _, _, _ => none
  | k + 1, a0z, a0, a1 => spec_BitsOk.b some k a0z a0 a1
def spec_BitsOk.enc (r : Bool) : Res := ⟨[.vals false [((.bool r), true)]], []⟩
def spec_BitsOk.ans (k : Nat) : List Arg → Ans
  | [.v (.nums 5 .u8 a0z a0), .v (.int .i64 a1)] => ⟨spec_BitsOk.f k a0z a0 a1, spec_BitsOk.enc⟩
  | _ => Ans.no
def spec_BitsOk.Cs (k : Nat) : CallSem := tab [(175, spec_l02Signers.ans k), (176, spec_BitsSize.ans k), (206, spec_BitsList.ans k)]
def spec_BitsOk.cuts : List (Nat × Keep) := []
theorem spec_BitsOk.s (k : Nat) (a0z : Bool) (a0 : List Int) (a1 : Int) : answer Try.prog spec_BitsOk.Cs 100000 spec_BitsOk.cuts [] Try.f202 (k + 1) [.v (.nums 5 .u8 a0z a0), .v (.int .i64 a1)] = spec_BitsOk.b (fun r => some (spec_BitsOk.enc r)) k a0z a0 a1 := by kernel_rfl
theorem spec_BitsOk.b_nat {R R' : Type} (e : R → R') (ret : Bool → Option R) (k : Nat) (a0z : Bool) (a0 : List Int) (a1 : Int) : spec_BitsOk.b (fun r => (ret r).map e) k a0z a0 a1 = (spec_BitsOk.b ret k a0z a0 a1).map e := by
  unfold spec_BitsOk.b
  repeat' first | with_reducible refine nat_cond ?_ ?_ | with_reducible refine nat_bind fun _ => ?_ | rfl
theorem spec_BitsOk.eq (k : Nat) (a0z : Bool) (a0 : List Int) (a1 : Int) : answer Try.prog spec_BitsOk.Cs 100000 spec_BitsOk.cuts [] Try.f202 (k + 1) [.v (.nums 5 .u8 a0z a0), .v (.int .i64 a1)] = (spec_BitsOk.f (k + 1) a0z a0 a1).map spec_BitsOk.enc := by
  refine (spec_BitsOk.s k a0z a0 a1).trans (Eq.trans ?_ (spec_BitsOk.b_nat spec_BitsOk.enc some k a0z a0 a1))
  simp only [Option.map_some]
theorem spec_BitsOk.sound (k : Nat) : SoundF Try.prog 202 (fun a => (spec_BitsOk.ans k a).val) := by
  refine sound_plain (fun args res h => ?_) (fun t n => rfl)
  unfold spec_BitsOk.ans at h
  dsimp only at h
  split at h
  · cases k with
    | zero => cases h
    | succ k =>
      unfold Ans.val at h
      rw [← spec_BitsOk.eq] at h
      exact answer_sound mixed Try.func202 _ _ _ (k + 1) (fun j _ => tab_sound (tab_cons (spec_l02Signers.sound j) (tab_cons (spec_BitsSize.sound j) (tab_cons (spec_BitsList.sound j) (tab_nil))))) _ _ h
  · exact (Ans.no_val h).elim

/-! loop.example/g00790/spec.BitsCount -/
def spec_BitsCount.b {R : Type} (ret : Int → Option R) (k : Nat) (a0z : Bool) (a0 : List Int) : Option R :=
  (spec_BitsList.f k a0z a0).bind fun t0 => ret ((t0.2).length : Int)
def spec_BitsCount.f : Nat → Bool → (List Int) → Option Int
  | 0, _, _ => none
  | k + 1, a0z, a0 => spec_BitsCount.b some k a0z a0
def spec_BitsCount.enc (r : Int) : Res := ⟨[.vals false [((.int .i64 r), true)]], []⟩
def spec_BitsCount.ans (k : Nat) : List Arg → Ans
  | [.v (.nums 5 .u8 a0z a0)] => ⟨spec_BitsCount.f k a0z a0, spec_BitsCount.enc⟩
  | _ => Ans.no
def spec_BitsCount.Cs (k : Nat) : CallSem := tab [(206, spec_BitsList.ans k)]
def spec_BitsCount.cuts : List (Nat × Keep) := []
theorem spec_BitsCount.s (k : Nat) (a0z : Bool) (a0 : List Int) : answer Try.prog spec_BitsCount.Cs 100000 spec_BitsCount.cuts [] Try.f210 (k + 1) [.v (.nums 5 .u8 a0z a0)] = spec_BitsCount.b (fun r => some (spec_BitsCount.enc r)) k a0z a0 := by kernel_rfl
theorem spec_BitsCount.b_nat {R R' : Type} (e : R → R') (ret : Int → Option R) (k : Nat) (a0z : Bool) (a0 : List Int) : spec_BitsCount.b (fun r => (ret r).map e) k a0z a0 = (spec_BitsCount.b ret k a0z a0).map e := by
  unfold spec_BitsCount.b
  repeat' first | with_reducible refine nat_cond ?_ ?_ | with_reducible refine nat_bind fun _ => ?_ | rfl
theorem spec_BitsCount.eq (k : Nat) (a0z : Bool) (a0 : List Int) : answer Try.prog spec_BitsCount.Cs 100000 spec_BitsCount.cuts [] Try.f210 (k + 1) [.v (.nums 5 .u8 a0z a0)] = (spec_BitsCount.f (k + 1) a0z a0).map spec_BitsCount.enc := by
  refine (spec_BitsCount.s k a0z a0).trans (Eq.trans ?_ (spec_BitsCount.b_nat spec_BitsCount.enc some k a0z a0))
  simp only [Option.map_some]
theorem spec_BitsCount.sound (k : Nat) : SoundF Try.prog 210 (fun a => (spec_BitsCount.ans k a).val) := by
  refine sound_plain (fun args res h => ?_) (fun t n => rfl)
  unfold spec_BitsCount.ans at h
  dsimp only at h
  split at h
  · cases k with
    | zero => cases h
    | succ k =>
      unfold Ans.val at h
      rw [← spec_BitsCount.eq] at h
      exact answer_sound mixed Try.func210 _ _ _ (k + 1) (fun j _ => tab_sound (tab_cons (spec_BitsList.sound j) (tab_nil))) _ _ h
  · exact (Ans.no_val h).elim

/-! loop.example/g00790/spec.l08Hashes -/
def spec_l08Hashes.b {R : Type} (ret : Bool → Option R) (j0 : Bool → (List T) → Int → Int → Option R) (k : Nat) (a0z : Bool) (a0 : List T) : Option R :=
  j0 a0z a0 ((a0).length : Int) 0
def spec_l08Hashes.l0b {R : Type} (ret : Bool → Option R) (j0 : Bool → (List T) → Int → Int → Option R) (k : Nat) (x5z : Bool) (x5 : List T) (x6 : Int) (x7 : Int) : Option R :=
  cond (decide (x7 < x6)) (cond (decide ((0 : Int) ≤ x7)) (cond (decide (x7 < ((x5).length : Int))) ((spec_l07Hash.f k (((((x5).getD (x7).toNat .bad).cells.getD 0 .bad)).isNil) (((((x5).getD (x7).toNat .bad).cells.getD 0 .bad)).toNums)).bind fun t0 => cond (!t0) (ret false) (j0 x5z x5 x6 (RowKit.wrap64 (x7 + 1)))) (none)) (none)) (ret true)
def spec_l08Hashes.l0 : Nat → Bool → (List T) → Int → Int → Option Bool
  | 0, _, _, _, _ => none
  | k + 1, x5z, x5, x6, x7 => spec_l08Hashes.l0b some (spec_l08Hashes.l0 k) k x5z x5 x6 x7
def spec_l08Hashes.f : Nat → Bool → (List T) → Option Bool
  | 0, _, _ => none
  | k + 1, a0z, a0 => spec_l08Hashes.b some (spec_l08Hashes.l0 k) k a0z a0
def spec_l08Hashes.enc (r : Bool) : Res := ⟨[.vals false [((.bool r), true)]], []⟩
def spec_l08Hashes.ans (k : Nat) : List Arg → Ans
  | [.v (.sl 22 a0z a0)] => ⟨spec_l08Hashes.f k a0z a0, spec_l08Hashes.enc⟩
  | _ => Ans.no
def spec_l08Hashes.Cs (k : Nat) : CallSem := tab [(180, spec_l07Hash.ans k)]
def spec_l08Hashes.cuts : List (Nat × Keep) := [(26, ⟨[(5, some []), (6, some []), (7, some [])], []⟩)]
noncomputable def spec_l08Hashes.K0 : List Fr := framesAt [true, false, true, false] (bodyOf Try.f211 spec_l08Hashes.cuts) []
def spec_l08Hashes.N0 (x5z : Bool) (x5 : List T) (x6 : Int) (x7 : Int) : St := stOf 15 15 1 [(5, .val ⟨(.sl 22 x5z x5), [], false, none⟩), (6, .val (V.s (.int .i64 x6))), (7, .val (V.s (.int .i64 x7)))] []
theorem spec_l08Hashes.s (k : Nat) (a0z : Bool) (a0 : List T) : answer Try.prog spec_l08Hashes.Cs 100000 spec_l08Hashes.cuts [] Try.f211 (k + 1) [.v (.sl 22 a0z a0)] = spec_l08Hashes.b (fun r => some (spec_l08Hashes.enc r)) (fun x5z x5 x6 x7 => rounds Try.prog spec_l08Hashes.Cs (finish Try.prog [] Try.f211 [.v (.sl 22 a0z a0)]) 100000 k spec_l08Hashes.K0 (spec_l08Hashes.N0 x5z x5 x6 x7)) k a0z a0 := by kernel_rfl
theorem spec_l08Hashes.s0 (k : Nat) (G : List Fr → St → Option Res) (a0z : Bool) (a0 : List T) (yx5z : Bool) (yx5 : List T) (yx6 : Int) (yx7 : Int) : resume Try.prog (spec_l08Hashes.Cs k) G (finish Try.prog [] Try.f211 [.v (.sl 22 a0z a0)]) 100000 spec_l08Hashes.K0 (spec_l08Hashes.N0 yx5z yx5 yx6 yx7) = spec_l08Hashes.l0b (fun r => some (spec_l08Hashes.enc r)) (fun x5z x5 x6 x7 => G spec_l08Hashes.K0 (spec_l08Hashes.N0 x5z x5 x6 x7)) k yx5z yx5 yx6 yx7 := by kernel_rfl
theorem spec_l08Hashes.b_nat {R R' : Type} (e : R → R') (ret : Bool → Option R) (j0 : Bool → (List T) → Int → Int → Option R) (k : Nat) (a0z : Bool) (a0 : List T) : spec_l08Hashes.b (fun r => (ret r).map e) (fun x5z x5 x6 x7 => (j0 x5z x5 x6 x7).map e) k a0z a0 = (spec_l08Hashes.b ret j0 k a0z a0).map e := by
  unfold spec_l08Hashes.b
  repeat' first | with_reducible refine nat_cond ?_ ?_ | with_reducible refine nat_bind fun _ => ?_ | rfl
theorem spec_l08Hashes.l0b_nat {R R' : Type} (e : R → R') (ret : Bool → Option R) (j0 : Bool → (List T) → Int → Int → Option R) (k : Nat) (x5z : Bool) (x5 : List T) (x6 : Int) (x7 : Int) : spec_l08Hashes.l0b (fun r => (ret r).map e) (fun x5z x5 x6 x7 => (j0 x5z x5 x6 x7).map e) k x5z x5 x6 x7 = (spec_l08Hashes.l0b ret j0 k x5z x5 x6 x7).map e := by
  unfold spec_l08Hashes.l0b
  repeat' first | with_reducible refine nat_cond ?_ ?_ | with_reducible refine nat_bind fun _ => ?_ | rfl
theorem spec_l08Hashes.rounds_eq (a0z : Bool) (a0 : List T) : ∀ k, (∀ (x5z : Bool) (x5 : List T) (x6 : Int) (x7 : Int), rounds Try.prog spec_l08Hashes.Cs (finish Try.prog [] Try.f211 [.v (.sl 22 a0z a0)]) 100000 k spec_l08Hashes.K0 (spec_l08Hashes.N0 x5z x5 x6 x7) = (spec_l08Hashes.l0 k x5z x5 x6 x7).map spec_l08Hashes.enc)
  | 0 => fun _ _ _ _ => rfl
  | k + 1 => by
    have ih := spec_l08Hashes.rounds_eq a0z a0 k
    refine fun _ _ _ _ => ?_
    · refine (spec_l08Hashes.s0 k _ a0z a0 _ _ _ _).trans (Eq.trans ?_ (spec_l08Hashes.l0b_nat spec_l08Hashes.enc some (spec_l08Hashes.l0 k) k _ _ _ _))
      simp only [ih, Option.map_some]
theorem spec_l08Hashes.eq (k : Nat) (a0z : Bool) (a0 : List T) : answer Try.prog spec_l08Hashes.Cs 100000 spec_l08Hashes.cuts [] Try.f211 (k + 1) [.v (.sl 22 a0z a0)] = (spec_l08Hashes.f (k + 1) a0z a0).map spec_l08Hashes.enc := by
  have ih := spec_l08Hashes.rounds_eq a0z a0 k
  refine (spec_l08Hashes.s k a0z a0).trans (Eq.trans ?_ (spec_l08Hashes.b_nat spec_l08Hashes.enc some (spec_l08Hashes.l0 k) k a0z a0))
  simp only [ih, Option.map_some]
theorem spec_l08Hashes.sound (k : Nat) : SoundF Try.prog 211 (fun a => (spec_l08Hashes.ans k a).val) := by
  refine sound_plain (fun args res h => ?_) (fun t n => rfl)
  unfold spec_l08Hashes.ans at h
  dsimp only at h
  split at h
  · cases k with
    | zero => cases h
    | succ k =>
      unfold Ans.val at h
      rw [← spec_l08Hashes.eq] at h
      exact answer_sound mixed Try.func211 _ _ _ (k + 1) (fun j _ => tab_sound (tab_cons (spec_l07Hash.sound j) (tab_nil))) _ _ h
  · exact (Ans.no_val h).elim

/-! loop.example/g00790/spec.QcOk -/
def spec_QcOk.b {R : Type} (ret : Bool → Option R) (k : Nat) (a0_0 : Int) (a0_1 : Int) (a0_2 : Int) (a0_3 : Int) (a0_4 : Int) (a1_0 : Int) (a1_1 : Int) (a1_2z : Bool) (a1_2 : List Int) (a1_3z : Bool) (a1_3 : List Int) (a1_4z : Bool) (a1_4 : List T) : Option R :=
  (spec_LimitsOk.f k a0_0 a0_1 a0_2 a0_3 a0_4).bind fun t0 => cond t0 ((spec_l01Num.f k a1_0).bind fun t1 => cond t1 ((spec_l01Num.f k a1_1).bind fun t2 => cond t2 ((spec_l07Hash.f k a1_2z a1_2).bind fun t3 => cond t3 ((spec_BitsOk.f k a1_3z a1_3 a0_0).bind fun t4 => cond t4 ((spec_BitsCount.f k a1_3z a1_3).bind fun t5 => cond (decide (((a1_4).length : Int) = t5)) ((spec_l08Hashes.f k a1_4z a1_4).bind fun t6 => ret t6) (ret false)) (ret false)) (ret false)) (ret false)) (ret false)) (ret false)
def spec_QcOk.f : Nat → Int → Int → Int → Int → Int → Int → Int → Bool → (List Int) → Bool → (List Int) → Bool → (List T) → Option Bool
  | 0, _, _, _, _, _, _, _, _, _, _, _, _, _ => none
  | k + 1, a0_0, a0_1, a0_2, a0_3, a0_4, a1_0, a1_1, a1_2z, a1_2, a1_3z, a1_3, a1_4z, a1_4 => spec_QcOk.b some k a0_0 a0_1 a0_2 a0_3 a0_4 a1_0 a1_1 a1_2z a1_2 a1_3z a1_3 a1_4z a1_4
def spec_QcOk.enc (r : Bool) : Res := ⟨[.vals false [((.bool r), true)]], []⟩
def spec_QcOk.ans (k : Nat) : List Arg → Ans
  | [.v (.agg [(.int .i64 a0_0), (.int .i64 a0_1), (.int .i64 a0_2), (.int .i64 a0_3), (.int .i64 a0_4)]), .v (.agg [(.int .i64 a1_0), (.int .i64 a1_1), (.nums 5 .u8 a1_2z a1_2), (.nums 5 .u8 a1_3z a1_3), (.sl 22 a1_4z a1_4)])] => ⟨spec_QcOk.f k a0_0 a0_1 a0_2 a0_3 a0_4 a1_0 a1_1 a1_2z a1_2 a1_3z a1_3 a1_4z a1_4, spec_QcOk.enc⟩
  | _ => Ans.no
def spec_QcOk.Cs (k : Nat) : CallSem := tab [(177, spec_LimitsOk.ans k), (178, spec_l01Num.ans k), (180, spec_l07Hash.ans k), (202, spec_BitsOk.ans k), (210, spec_BitsCount.ans k), (211, spec_l08Hashes.ans k)]
def spec_QcOk.cuts : List (Nat × Keep) := []
theorem spec_QcOk.s (k : Nat) (a0_0 : Int) (a0_1 : Int) (a0_2 : Int) (a0_3 : Int) (a0_4 : Int) (a1_0 : Int) (a1_1 : Int) (a1_2z : Bool) (a1_2 : List Int) (a1_3z : Bool) (a1_3 : List Int) (a1_4z : Bool) (a1_4 : List T) : answer Try.prog spec_QcOk.Cs 100000 spec_QcOk.cuts [] Try.f181 (k + 1) [.v (.agg [(.int .i64 a0_0), (.int .i64 a0_1), (.int .i64 a0_2), (.int .i64 a0_3), (.int .i64 a0_4)]), .v (.agg [(.int .i64 a1_0), (.int .i64 a1_1), (.nums 5 .u8 a1_2z a1_2), (.nums 5 .u8 a1_3z a1_3), (.sl 22 a1_4z a1_4)])] = spec_QcOk.b (fun r => some (spec_QcOk.enc r)) k a0_0 a0_1 a0_2 a0_3 a0_4 a1_0 a1_1 a1_2z a1_2 a1_3z a1_3 a1_4z a1_4 := by kernel_rfl
theorem spec_QcOk.b_nat {R R' : Type} (e : R → R') (ret : Bool → Option R) (k : Nat) (a0_0 : Int) (a0_1 : Int) (a0_2 : Int) (a0_3 : Int) (a0_4 : Int) (a1_0 : Int) (a1_1 : Int) (a1_2z : Bool) (a1_2 : List Int) (a1_3z : Bool) (a1_3 : List Int) (a1_4z : Bool) (a1_4 : List T) : spec_QcOk.b (fun r => (ret r).map e) k a0_0 a0_1 a0_2 a0_3 a0_4 a1_0 a1_1 a1_2z a1_2 a1_3z a1_3 a1_4z a1_4 = (spec_QcOk.b ret k a0_0 a0_1 a0_2 a0_3 a0_4 a1_0 a1_1 a1_2z a1_2 a1_3z a1_3 a1_4z a1_4).map e := by
  unfold spec_QcOk.b
  repeat' first | with_reducible refine nat_cond ?_ ?_ | with_reducible refine nat_bind fun _ => ?_ | rfl
theorem spec_QcOk.eq (k : Nat) (a0_0 : Int) (a0_1 : Int) (a0_2 : Int) (a0_3 : Int) (a0_4 : Int) (a1_0 : Int) (a1_1 : Int) (a1_2z : Bool) (a1_2 : List Int) (a1_3z : Bool) (a1_3 : List Int) (a1_4z : Bool) (a1_4 : List T) : answer Try.prog spec_QcOk.Cs 100000 spec_QcOk.cuts [] Try.f181 (k + 1) [.v (.agg [(.int .i64 a0_0), (.int .i64 a0_1), (.int .i64 a0_2), (.int .i64 a0_3), (.int .i64 a0_4)]), .v (.agg [(.int .i64 a1_0), (.int .i64 a1_1), (.nums 5 .u8 a1_2z a1_2), (.nums 5 .u8 a1_3z a1_3), (.sl 22 a1_4z a1_4)])] = (spec_QcOk.f (k + 1) a0_0 a0_1 a0_2 a0_3 a0_4 a1_0 a1_1 a1_2z a1_2 a1_3z a1_3 a1_4z a1_4).map spec_QcOk.enc := by
  refine (spec_QcOk.s k a0_0 a0_1 a0_2 a0_3 a0_4 a1_0 a1_1 a1_2z a1_2 a1_3z a1_3 a1_4z a1_4).trans (Eq.trans ?_ (spec_QcOk.b_nat spec_QcOk.enc some k a0_0 a0_1 a0_2 a0_3 a0_4 a1_0 a1_1 a1_2z a1_2 a1_3z a1_3 a1_4z a1_4))
  simp only [Option.map_some]
theorem spec_QcOk.sound (k : Nat) : SoundF Try.prog 181 (fun a => (spec_QcOk.ans k a).val) := by
  refine sound_plain (fun args res h => ?_) (fun t n => rfl)
  unfold spec_QcOk.ans at h
  dsimp only at h
  split at h
  · cases k with
    | zero => cases h
    | succ k =>
      unfold Ans.val at h
      rw [← spec_QcOk.eq] at h
      exact answer_sound mixed Try.func181 _ _ _ (k + 1) (fun j _ => tab_sound (tab_cons (spec_LimitsOk.sound j) (tab_cons (spec_l01Num.sound j) (tab_cons (spec_l07Hash.sound j) (tab_cons (spec_BitsOk.sound j) (tab_cons (spec_BitsCount.sound j) (tab_cons (spec_l08Hashes.sound j) (tab_nil)))))))) _ _ h
  · exact (Ans.no_val h).elim

/-! loop.example/g00790/spec.SameBytes -/
def spec_SameBytes.b {R : Type} (ret : Bool → Option R) (k : Nat) (a0z : Bool) (a0 : List Int) (a1z : Bool) (a1 : List Int) : Option R :=
  ret (decide ((strOf a0) = (strOf a1)))
def spec_SameBytes.f : Nat → Bool → (List Int) → Bool → (List Int) → Option Bool
  | 0, _, _, _, _ => none
  | k + 1, a0z, a0, a1z, a1 => spec_SameBytes.b some k a0z a0 a1z a1
def spec_SameBytes.enc (r : Bool) : Res := ⟨[.vals false [((.bool r), true)]], []⟩
def spec_SameBytes.ans (k : Nat) : List Arg → Ans
  | [.v (.nums 5 .u8 a0z a0), .v (.nums 5 .u8 a1z a1)] => ⟨spec_SameBytes.f k a0z a0 a1z a1, spec_SameBytes.enc⟩
  | _ => Ans.no
def spec_SameBytes.Cs (k : Nat) : CallSem := tab []
def spec_SameBytes.cuts : List (Nat × Keep) := []
theorem spec_SameBytes.s (k : Nat) (a0z : Bool) (a0 : List Int) (a1z : Bool) (a1 : List Int) : answer Try.prog spec_SameBytes.Cs 100000 spec_SameBytes.cuts [] Try.f148 (k + 1) [.v (.nums 5 .u8 a0z a0), .v (.nums 5 .u8 a1z a1)] = spec_SameBytes.b (fun r => some (spec_SameBytes.enc r)) k a0z a0 a1z a1 := by kernel_rfl
theorem spec_SameBytes.b_nat {R R' : Type} (e : R → R') (ret : Bool → Option R) (k : Nat) (a0z : Bool) (a0 : List Int) (a1z : Bool) (a1 : List Int) : spec_SameBytes.b (fun r => (ret r).map e) k a0z a0 a1z a1 = (spec_SameBytes.b ret k a0z a0 a1z a1).map e := by
  unfold spec_SameBytes.b
  repeat' first | with_reducible refine nat_cond ?_ ?_ | with_reducible refine nat_bind fun _ => ?_ | rfl
theorem spec_SameBytes.eq (k : Nat) (a0z : Bool) (a0 : List Int) (a1z : Bool) (a1 : List Int) : answer Try.prog spec_SameBytes.Cs 100000 spec_SameBytes.cuts [] Try.f148 (k + 1) [.v (.nums 5 .u8 a0z a0), .v (.nums 5 .u8 a1z a1)] = (spec_SameBytes.f (k + 1) a0z a0 a1z a1).map spec_SameBytes.enc := by
  refine (spec_SameBytes.s k a0z a0 a1z a1).trans (Eq.trans ?_ (spec_SameBytes.b_nat spec_SameBytes.enc some k a0z a0 a1z a1))
  simp only [Option.map_some]
theorem spec_SameBytes.sound (k : Nat) : SoundF Try.prog 148 (fun a => (spec_SameBytes.ans k a).val) := by
  refine sound_plain (fun args res h => ?_) (fun t n => rfl)
  unfold spec_SameBytes.ans at h
  dsimp only at h
  split at h
  · cases k with
    | zero => cases h
    | succ k =>
      unfold Ans.val at h
      rw [← spec_SameBytes.eq] at h
      exact answer_sound mixed Try.func148 _ _ _ (k + 1) (fun j _ => tab_sound (tab_nil)) _ _ h
  · exact (Ans.no_val h).elim

/-! loop.example/g00790/spec.l13Fits -/
def spec_l13Fits.b {R : Type} (ret : Bool → Option R) (k : Nat) (a0_0 : Int) (a0_1 : Int) (a0_2 : Int) (a0_3z : Bool) (a0_3 : List Int) (a0_4z : Bool) (a0_4 : List Int) (a0_5 : Int) (a0_6 : Int) (a0_7z : Bool) (a0_7 : List Int) (a0_8z : Bool) (a0_8 : List Int) (a0_9z : Bool) (a0_9 : List T) : Option R :=
  cond (decide (a0_5 < a0_0)) (cond (decide (a0_6 = (RowKit.wrap64 (a0_1 - 1)))) ((spec_SameBytes.f k a0_7z a0_7 a0_3z a0_3).bind fun t0 => ret t0) (ret false)) (ret false)
def spec_l13Fits.f : Nat → Int → Int → Int → Bool → (List Int) → Bool → (List Int) → Int → Int → Bool → (List Int) → Bool → (List Int) → Bool → (List T) → Option Bool
  | 0, _, _, _, _, _, _, _, _, _, _, _, _, _, _, _ => none
  | k + 1, a0_0, a0_1, a0_2, a0_3z, a0_3, a0_4z, a0_4, a0_5, a0_6, a0_7z, a0_7, a0_8z, a0_8, a0_9z, a0_9 => spec_l13Fits.b some k a0_0 a0_1 a0_2 a0_3z a0_3 a0_4z a0_4 a0_5 a0_6 a0_7z a0_7 a0_8z a0_8 a0_9z a0_9
def spec_l13Fits.enc (r : Bool) : Res := ⟨[.vals false [((.bool r), true)]], []⟩
def spec_l13Fits.ans (k : Nat) : List Arg → Ans
  | [.v (.agg [(.int .i64 a0_0), (.int .i64 a0_1), (.int .i64 a0_2), (.nums 5 .u8 a0_3z a0_3), (.nums 5 .u8 a0_4z a0_4), (.int .i64 a0_5), (.int .i64 a0_6), (.nums 5 .u8 a0_7z a0_7), (.nums 5 .u8 a0_8z a0_8), (.sl 22 a0_9z a0_9)])] => ⟨spec_l13Fits.f k a0_0 a0_1 a0_2 a0_3z a0_3 a0_4z a0_4 a0_5 a0_6 a0_7z a0_7 a0_8z a0_8 a0_9z a0_9, spec_l13Fits.enc⟩
  | _ => Ans.no
def spec_l13Fits.Cs (k : Nat) : CallSem := tab [(148, spec_SameBytes.ans k)]
def spec_l13Fits.cuts : List (Nat × Keep) := []
theorem spec_l13Fits.s (k : Nat) (a0_0 : Int) (a0_1 : Int) (a0_2 : Int) (a0_3z : Bool) (a0_3 : List Int) (a0_4z : Bool) (a0_4 : List Int) (a0_5 : Int) (a0_6 : Int) (a0_7z : Bool) (a0_7 : List Int) (a0_8z : Bool) (a0_8 : List Int) (a0_9z : Bool) (a0_9 : List T) : answer Try.prog spec_l13Fits.Cs 100000 spec_l13Fits.cuts [] Try.f182 (k + 1) [.v (.agg [(.int .i64 a0_0), (.int .i64 a0_1), (.int .i64 a0_2), (.nums 5 .u8 a0_3z a0_3), (.nums 5 .u8 a0_4z a0_4), (.int .i64 a0_5), (.int .i64 a0_6), (.nums 5 .u8 a0_7z a0_7), (.nums 5 .u8 a0_8z a0_8), (.sl 22 a0_9z a0_9)])] = spec_l13Fits.b (fun r => some (spec_l13Fits.enc r)) k a0_0 a0_1 a0_2 a0_3z a0_3 a0_4z a0_4 a0_5 a0_6 a0_7z a0_7 a0_8z a0_8 a0_9z a0_9 := by kernel_rfl
theorem spec_l13Fits.b_nat {R R' : Type} (e : R → R') (ret : Bool → Option R) (k : Nat) (a0_0 : Int) (a0_1 : Int) (a0_2 : Int) (a0_3z : Bool) (a0_3 : List Int) (a0_4z : Bool) (a0_4 : List Int) (a0_5 : Int) (a0_6 : Int) (a0_7z : Bool) (a0_7 : List Int) (a0_8z : Bool) (a0_8 : List Int) (a0_9z : Bool) (a0_9 : List T) : spec_l13Fits.b (fun r => (ret r).map e) k a0_0 a0_1 a0_2 a0_3z a0_3 a0_4z a0_4 a0_5 a0_6 a0_7z a0_7 a0_8z a0_8 a0_9z a0_9 = (spec_l13Fits.b ret k a0_0 a0_1 a0_2 a0_3z a0_3 a0_4z a0_4 a0_5 a0_6 a0_7z a0_7 a0_8z a0_8 a0_9z a0_9).map e := by
  unfold spec_l13Fits.b
  repeat' first | with_reducible refine nat_cond ?_ ?_ | with_reducible refine nat_bind fun _ => ?_ | rfl
theorem spec_l13Fits.eq (k : Nat) (a0_0 : Int) (a0_1 : Int) (a0_2 : Int) (a0_3z : Bool) (a0_3 : List Int) (a0_4z : Bool) (a0_4 : List Int) (a0_5 : Int) (a0_6 : Int) (a0_7z : Bool) (a0_7 : List Int) (a0_8z : Bool) (a0_8 : List Int) (a0_9z : Bool) (a0_9 : List T) : answer Try.prog spec_l13Fits.Cs 100000 spec_l13Fits.cuts [] Try.f182 (k + 1) [.v (.agg [(.int .i64 a0_0), (.int .i64 a0_1), (.int .i64 a0_2), (.nums 5 .u8 a0_3z a0_3), (.nums 5 .u8 a0_4z a0_4), (.int .i64 a0_5), (.int .i64 a0_6), (.nums 5 .u8 a0_7z a0_7), (.nums 5 .u8 a0_8z a0_8), (.sl 22 a0_9z a0_9)])] = (spec_l13Fits.f (k + 1) a0_0 a0_1 a0_2 a0_3z a0_3 a0_4z a0_4 a0_5 a0_6 a0_7z a0_7 a0_8z a0_8 a0_9z a0_9).map spec_l13Fits.enc := by
  refine (spec_l13Fits.s k a0_0 a0_1 a0_2 a0_3z a0_3 a0_4z a0_4 a0_5 a0_6 a0_7z a0_7 a0_8z a0_8 a0_9z a0_9).trans (Eq.trans ?_ (spec_l13Fits.b_nat spec_l13Fits.enc some k a0_0 a0_1 a0_2 a0_3z a0_3 a0_4z a0_4 a0_5 a0_6 a0_7z a0_7 a0_8z a0_8 a0_9z a0_9))
  simp only [Option.map_some]
theorem spec_l13Fits.sound (k : Nat) : SoundF Try.prog 182 (fun a => (spec_l13Fits.ans k a).val) := by
  refine sound_plain (fun args res h => ?_) (fun t n => rfl)
  unfold spec_l13Fits.ans at h
  dsimp only at h
  split at h
  · cases k with
    | zero => cases h
    | succ k =>
      unfold Ans.val at h
      rw [← spec_l13Fits.eq] at h
      exact answer_sound mixed Try.func182 _ _ _ (k + 1) (fun j _ => tab_sound (tab_cons (spec_SameBytes.sound j) (tab_nil))) _ _ h
  · exact (Ans.no_val h).elim

/-! loop.example/g00790/spec.HeadOk -/
def spec_HeadOk.b {R : Type} (ret : Bool → Option R) (k : Nat) (a0_0 : Int) (a0_1 : Int) (a0_2 : Int) (a0_3 : Int) (a0_4 : Int) (a1_0 : Int) (a1_1 : Int) (a1_2 : Int) (a1_3z : Bool) (a1_3 : List Int) (a1_4z : Bool) (a1_4 : List Int) (a1_5 : Int) (a1_6 : Int) (a1_7z : Bool) (a1_7 : List Int) (a1_8z : Bool) (a1_8 : List Int) (a1_9z : Bool) (a1_9 : List T) : Option R :=
  (spec_LimitsOk.f k a0_0 a0_1 a0_2 a0_3 a0_4).bind fun t0 => cond t0 ((spec_l01Num.f k a1_0).bind fun t1 => cond t1 ((spec_l01In.f k a1_1 1 1152921504606846975).bind fun t2 => cond t2 ((spec_l01In.f k a1_2 0 (RowKit.wrap64 (a0_0 - 1))).bind fun t3 => cond t3 ((spec_l07Hash.f k a1_3z a1_3).bind fun t4 => cond t4 ((spec_l07Hash.f k a1_4z a1_4).bind fun t5 => cond t5 ((spec_QcOk.f k a0_0 a0_1 a0_2 a0_3 a0_4 a1_5 a1_6 a1_7z a1_7 a1_8z a1_8 a1_9z a1_9).bind fun t6 => cond t6 ((spec_l13Fits.f k a1_0 a1_1 a1_2 a1_3z a1_3 a1_4z a1_4 a1_5 a1_6 a1_7z a1_7 a1_8z a1_8 a1_9z a1_9).bind fun t7 => ret t7) (ret false)) (ret false)) (ret false)) (ret false)) (ret false)) (ret false)) (ret false)
def spec_HeadOk.f : Nat → Int → Int → Int → Int → Int → Int → Int → Int → Bool → (List Int) → Bool → (List Int) → Int → Int → Bool → (List Int) → Bool → (List Int) → Bool → (List T) → Option Bool
  | 0, _, _, _, _, _, _, _, _, _, _, _, _, _, _, _, _, _, _, _, _ => none
  | k + 1, a0_0, a0_1, a0_2, a0_3, a0_4, a1_0, a1_1, a1_2, a1_3z, a1_3, a1_4z, a1_4, a1_5, a1_6, a1_7z, a1_7, a1_8z, a1_8, a1_9z, a1_9 => spec_HeadOk.b some k a0_0 a0_1 a0_2 a0_3 a0_4 a1_0 a1_1 a1_2 a1_3z a1_3 a1_4z a1_4 a1_5 a1_6 a1_7z a1_7 a1_8z a1_8 a1_9z a1_9
def spec_HeadOk.enc (r : Bool) : Res := ⟨[.vals false [((.bool r), true)]], []⟩
def spec_HeadOk.ans (k : Nat) : List Arg → Ans
  | [.v (.agg [(.int .i64 a0_0), (.int .i64 a0_1), (.int .i64 a0_2), (.int .i64 a0_3), (.int .i64 a0_4)]), .v (.agg [(.int .i64 a1_0), (.int .i64 a1_1), (.int .i64 a1_2), (.nums 5 .u8 a1_3z a1_3), (.nums 5 .u8 a1_4z a1_4), (.int .i64 a1_5), (.int .i64 a1_6), (.nums 5 .u8 a1_7z a1_7), (.nums 5 .u8 a1_8z a1_8), (.sl 22 a1_9z a1_9)])] => ⟨spec_HeadOk.f k a0_0 a0_1 a0_2 a0_3 a0_4 a1_0 a1_1 a1_2 a1_3z a1_3 a1_4z a1_4 a1_5 a1_6 a1_7z a1_7 a1_8z a1_8 a1_9z a1_9, spec_HeadOk.enc⟩
  | _ => Ans.no
def spec_HeadOk.Cs (k : Nat) : CallSem := tab [(179, spec_l01In.ans k), (177, spec_LimitsOk.ans k), (178, spec_l01Num.ans k), (180, spec_l07Hash.ans k), (181, spec_QcOk.ans k), (182, spec_l13Fits.ans k)]
def spec_HeadOk.cuts : List (Nat × Keep) := []
theorem spec_HeadOk.s (k : Nat) (a0_0 : Int) (a0_1 : Int) (a0_2 : Int) (a0_3 : Int) (a0_4 : Int) (a1_0 : Int) (a1_1 : Int) (a1_2 : Int) (a1_3z : Bool) (a1_3 : List Int) (a1_4z : Bool) (a1_4 : List Int) (a1_5 : Int) (a1_6 : Int) (a1_7z : Bool) (a1_7 : List Int) (a1_8z : Bool) (a1_8 : List Int) (a1_9z : Bool) (a1_9 : List T) : answer Try.prog spec_HeadOk.Cs 100000 spec_HeadOk.cuts [] Try.f104 (k + 1) [.v (.agg [(.int .i64 a0_0), (.int .i64 a0_1), (.int .i64 a0_2), (.int .i64 a0_3), (.int .i64 a0_4)]), .v (.agg [(.int .i64 a1_0), (.int .i64 a1_1), (.int .i64 a1_2), (.nums 5 .u8 a1_3z a1_3), (.nums 5 .u8 a1_4z a1_4), (.int .i64 a1_5), (.int .i64 a1_6), (.nums 5 .u8 a1_7z a1_7), (.nums 5 .u8 a1_8z a1_8), (.sl 22 a1_9z a1_9)])] = spec_HeadOk.b (fun r => some (spec_HeadOk.enc r)) k a0_0 a0_1 a0_2 a0_3 a0_4 a1_0 a1_1 a1_2 a1_3z a1_3 a1_4z a1_4 a1_5 a1_6 a1_7z a1_7 a1_8z a1_8 a1_9z a1_9 := by kernel_rfl
theorem spec_HeadOk.b_nat {R R' : Type} (e : R → R') (ret : Bool → Option R) (k : Nat) (a0_0 : Int) (a0_1 : Int) (a0_2 : Int) (a0_3 : Int) (a0_4 : Int) (a1_0 : Int) (a1_1 : Int) (a1_2 : Int) (a1_3z : Bool) (a1_3 : List Int) (a1_4z : Bool) (a1_4 : List Int) (a1_5 : Int) (a1_6 : Int) (a1_7z : Bool) (a1_7 : List Int) (a1_8z : Bool) (a1_8 : List Int) (a1_9z : Bool) (a1_9 : List T) : spec_HeadOk.b (fun r => (ret r).map e) k a0_0 a0_1 a0_2 a0_3 a0_4 a1_0 a1_1 a1_2 a1_3z a1_3 a1_4z a1_4 a1_5 a1_6 a1_7z a1_7 a1_8z a1_8 a1_9z a1_9 = (spec_HeadOk.b ret k a0_0 a0_1 a0_2 a0_3 a0_4 a1_0 a1_1 a1_2 a1_3z a1_3 a1_4z a1_4 a1_5 a1_6 a1_7z a1_7 a1_8z a1_8 a1_9z a1_9).map e := by
  unfold spec_HeadOk.b
  repeat' first | with_reducible refine nat_cond ?_ ?_ | with_reducible refine nat_bind fun _ => ?_ | rfl
theorem spec_HeadOk.eq (k : Nat) (a0_0 : Int) (a0_1 : Int) (a0_2 : Int) (a0_3 : Int) (a0_4 : Int) (a1_0 : Int) (a1_1 : Int) (a1_2 : Int) (a1_3z : Bool) (a1_3 : List Int) (a1_4z : Bool) (a1_4 : List Int) (a1_5 : Int) (a1_6 : Int) (a1_7z : Bool) (a1_7 : List Int) (a1_8z : Bool) (a1_8 : List Int) (a1_9z : Bool) (a1_9 : List T) : answer Try.prog spec_HeadOk.Cs 100000 spec_HeadOk.cuts [] Try.f104 (k + 1) [.v (.agg [(.int .i64 a0_0), (.int .i64 a0_1), (.int .i64 a0_2), (.int .i64 a0_3), (.int .i64 a0_4)]), .v (.agg [(.int .i64 a1_0), (.int .i64 a1_1), (.int .i64 a1_2), (.nums 5 .u8 a1_3z a1_3), (.nums 5 .u8 a1_4z a1_4), (.int .i64 a1_5), (.int .i64 a1_6), (.nums 5 .u8 a1_7z a1_7), (.nums 5 .u8 a1_8z a1_8), (.sl 22 a1_9z a1_9)])] = (spec_HeadOk.f (k + 1) a0_0 a0_1 a0_2 a0_3 a0_4 a1_0 a1_1 a1_2 a1_3z a1_3 a1_4z a1_4 a1_5 a1_6 a1_7z a1_7 a1_8z a1_8 a1_9z a1_9).map spec_HeadOk.enc := by
  refine (spec_HeadOk.s k a0_0 a0_1 a0_2 a0_3 a0_4 a1_0 a1_1 a1_2 a1_3z a1_3 a1_4z a1_4 a1_5 a1_6 a1_7z a1_7 a1_8z a1_8 a1_9z a1_9).trans (Eq.trans ?_ (spec_HeadOk.b_nat spec_HeadOk.enc some k a0_0 a0_1 a0_2 a0_3 a0_4 a1_0 a1_1 a1_2 a1_3z a1_3 a1_4z a1_4 a1_5 a1_6 a1_7z a1_7 a1_8z a1_8 a1_9z a1_9))
  simp only [Option.map_some]
theorem spec_HeadOk.sound (k : Nat) : SoundF Try.prog 104 (fun a => (spec_HeadOk.ans k a).val) := by
  refine sound_plain (fun args res h => ?_) (fun t n => rfl)
  unfold spec_HeadOk.ans at h
  dsimp only at h
  split at h
  · cases k with
    | zero => cases h
    | succ k =>
      unfold Ans.val at h
      rw [← spec_HeadOk.eq] at h
      exact answer_sound mixed Try.func104 _ _ _ (k + 1) (fun j _ => tab_sound (tab_cons (spec_l01In.sound j) (tab_cons (spec_LimitsOk.sound j) (tab_cons (spec_l01Num.sound j) (tab_cons (spec_l07Hash.sound j) (tab_cons (spec_QcOk.sound j) (tab_cons (spec_l13Fits.sound j) (tab_nil)))))))) _ _ h
  · exact (Ans.no_val h).elim

/-! loop.example/g00790/spec.FirstHead -/
def spec_FirstHead.b {R : Type} (ret : Int × Int × Int × Bool × (List Int) × Bool × (List Int) × Int × Int × Bool × (List Int) × Bool × (List Int) × Bool × (List T) × Bool → Option R) (k : Nat) (a0_0 : Int) (a0_1 : Int) (a0_2 : Int) (a0_3 : Int) (a0_4 : Int) (a1_0z : Bool) (a1_0 : List T) (a2 : Int) (a3z : Bool) (a3 : List Int) : Option R :=
  (spec_l01Copy.f k a3z a3).bind fun t0 => (spec_BitsNew.f k a0_0).bind fun t1 => (spec_l23Goes.f k a0_0 a0_1 a0_2 a0_3 a0_4 a1_0z a1_0).bind fun t2 => cond (!t2) (ret (0, 0, 0, true, ([] : List Int), true, ([] : List Int), 0, 0, true, ([] : List Int), true, ([] : List Int), true, ([] : List T), false)) ((spec_HeadOk.f k a0_0 a0_1 a0_2 a0_3 a0_4 a2 1 0 false (List.replicate 32 (0 : Int)) t0.1 t0.2 0 0 false (List.replicate 32 (0 : Int)) t1.1 t1.2 true ([] : List T)).bind fun t3 => cond (!t3) (ret (0, 0, 0, true, ([] : List Int), true, ([] : List Int), 0, 0, true, ([] : List Int), true, ([] : List Int), true, ([] : List T), false)) (ret (a2, 1, 0, false, (List.replicate 32 (0 : Int)), t0.1, t0.2, 0, 0, false, (List.replicate 32 (0 : Int)), t1.1, t1.2, true, ([] : List T), true)))
def spec_FirstHead.f : Nat → Int → Int → Int → Int → Int → Bool → (List T) → Int → Bool → (List Int) → Option (Int × Int × Int × Bool × (List Int) × Bool × (List Int) × Int × Int × Bool × (List Int) × Bool × (List Int) × Bool × (List T) × Bool)
  | 0, _, _, _, _, _, _, _, _, _, _ => none
  | k + 1, a0_0, a0_1, a0_2, a0_3, a0_4, a1_0z, a1_0, a2, a3z, a3 => spec_FirstHead.b some k a0_0 a0_1 a0_2 a0_3 a0_4 a1_0z a1_0 a2 a3z a3
def spec_FirstHead.enc (r : Int × Int × Int × Bool × (List Int) × Bool × (List Int) × Int × Int × Bool × (List Int) × Bool × (List Int) × Bool × (List T) × Bool) : Res := ⟨[.vals true [((.int .i64 r.1), true), ((.int .i64 r.2.1), true), ((.int .i64 r.2.2.1), true), ((.nums 5 .u8 r.2.2.2.1 r.2.2.2.2.1), true), ((.nums 5 .u8 r.2.2.2.2.2.1 r.2.2.2.2.2.2.1), true), ((.int .i64 r.2.2.2.2.2.2.2.1), true), ((.int .i64 r.2.2.2.2.2.2.2.2.1), true), ((.nums 5 .u8 r.2.2.2.2.2.2.2.2.2.1 r.2.2.2.2.2.2.2.2.2.2.1), true), ((.nums 5 .u8 r.2.2.2.2.2.2.2.2.2.2.2.1 r.2.2.2.2.2.2.2.2.2.2.2.2.1), true), ((.sl 22 r.2.2.2.2.2.2.2.2.2.2.2.2.2.1 r.2.2.2.2.2.2.2.2.2.2.2.2.2.2.1), true)], .vals false [((.bool r.2.2.2.2.2.2.2.2.2.2.2.2.2.2.2), true)]], []⟩
def spec_FirstHead.ans (k : Nat) : List Arg → Ans
  | [.v (.agg [(.int .i64 a0_0), (.int .i64 a0_1), (.int .i64 a0_2), (.int .i64 a0_3), (.int .i64 a0_4)]), .v (.agg [(.sl 44 a1_0z a1_0)]), .v (.int .i64 a2), .v (.nums 5 .u8 a3z a3)] => ⟨spec_FirstHead.f k a0_0 a0_1 a0_2 a0_3 a0_4 a1_0z a1_0 a2 a3z a3, spec_FirstHead.enc⟩
  | _ => Ans.no
def spec_FirstHead.Cs (k : Nat) : CallSem := tab [(101, spec_l01Copy.ans k), (102, spec_BitsNew.ans k), (103, spec_l23Goes.ans k), (104, spec_HeadOk.ans k)]
def spec_FirstHead.cuts : List (Nat × Keep) := []
theorem spec_FirstHead.s (k : Nat) (a0_0 : Int) (a0_1 : Int) (a0_2 : Int) (a0_3 : Int) (a0_4 : Int) (a1_0z : Bool) (a1_0 : List T) (a2 : Int) (a3z : Bool) (a3 : List Int) : answer Try.prog spec_FirstHead.Cs 100000 spec_FirstHead.cuts [] Try.f25 (k + 1) [.v (.agg [(.int .i64 a0_0), (.int .i64 a0_1), (.int .i64 a0_2), (.int .i64 a0_3), (.int .i64 a0_4)]), .v (.agg [(.sl 44 a1_0z a1_0)]), .v (.int .i64 a2), .v (.nums 5 .u8 a3z a3)] = spec_FirstHead.b (fun r => some (spec_FirstHead.enc r)) k a0_0 a0_1 a0_2 a0_3 a0_4 a1_0z a1_0 a2 a3z a3 := by kernel_rfl
theorem spec_FirstHead.b_nat {R R' : Type} (e : R → R') (ret : Int × Int × Int × Bool × (List Int) × Bool × (List Int) × Int × Int × Bool × (List Int) × Bool × (List Int) × Bool × (List T) × Bool → Option R) (k : Nat) (a0_0 : Int) (a0_1 : Int) (a0_2 : Int) (a0_3 : Int) (a0_4 : Int) (a1_0z : Bool) (a1_0 : List T) (a2 : Int) (a3z : Bool) (a3 : List Int) : spec_FirstHead.b (fun r => (ret r).map e) k a0_0 a0_1 a0_2 a0_3 a0_4 a1_0z a1_0 a2 a3z a3 = (spec_FirstHead.b ret k a0_0 a0_1 a0_2 a0_3 a0_4 a1_0z a1_0 a2 a3z a3).map e := by
  unfold spec_FirstHead.b
  repeat' first | with_reducible refine nat_cond ?_ ?_ | with_reducible refine nat_bind fun _ => ?_ | rfl
theorem spec_FirstHead.eq (k : Nat) (a0_0 : Int) (a0_1 : Int) (a0_2 : Int) (a0_3 : Int) (a0_4 : Int) (a1_0z : Bool) (a1_0 : List T) (a2 : Int) (a3z : Bool) (a3 : List Int) : answer Try.prog spec_FirstHead.Cs 100000 spec_FirstHead.cuts [] Try.f25 (k + 1) [.v (.agg [(.int .i64 a0_0), (.int .i64 a0_1), (.int .i64 a0_2), (.int .i64 a0_3), (.int .i64 a0_4)]), .v (.agg [(.sl 44 a1_0z a1_0)]), .v (.int .i64 a2), .v (.nums 5 .u8 a3z a3)] = (spec_FirstHead.f (k + 1) a0_0 a0_1 a0_2 a0_3 a0_4 a1_0z a1_0 a2 a3z a3).map spec_FirstHead.enc := by
  refine (spec_FirstHead.s k a0_0 a0_1 a0_2 a0_3 a0_4 a1_0z a1_0 a2 a3z a3).trans (Eq.trans ?_ (spec_FirstHead.b_nat spec_FirstHead.enc some k a0_0 a0_1 a0_2 a0_3 a0_4 a1_0z a1_0 a2 a3z a3))
  simp only [Option.map_some]
theorem spec_FirstHead.sound (k : Nat) : SoundF Try.prog 25 (fun a => (spec_FirstHead.ans k a).val) := by
  refine sound_plain (fun args res h => ?_) (fun t n => rfl)
  unfold spec_FirstHead.ans at h
  dsimp only at h
  split at h
  · cases k with
    | zero => cases h
    | succ k =>
      unfold Ans.val at h
      rw [← spec_FirstHead.eq] at h
      exact answer_sound mixed Try.func25 _ _ _ (k + 1) (fun j _ => tab_sound (tab_cons (spec_l01Copy.sound j) (tab_cons (spec_BitsNew.sound j) (tab_cons (spec_l23Goes.sound j) (tab_cons (spec_HeadOk.sound j) (tab_nil)))))) _ _ h
  · exact (Ans.no_val h).elim

/-! loop.example/g00790/impl.copyBytes -/
def impl_copyBytes.b {R : Type} (ret : Bool × List Int → Option R) (k : Nat) (a0z : Bool) (a0 : List Int) : Option R :=
  cond (decide (0 + (a0).length < 140737488355328)) (ret (((a0).isEmpty && false), a0)) (none)
def impl_copyBytes.f : Nat → Bool → (List Int) → Option (Bool × List Int)
  | 0, _, _ => none
  | k + 1, a0z, a0 => impl_copyBytes.b some k a0z a0
def impl_copyBytes.enc (r : Bool × List Int) : Res := ⟨[.vals false [((.nums 5 .u8 r.1 r.2), true)]], []⟩
def impl_copyBytes.ans (k : Nat) : List Arg → Ans
  | [.v (.nums 5 .u8 a0z a0)] => ⟨impl_copyBytes.f k a0z a0, impl_copyBytes.enc⟩
  | _ => Ans.no
def impl_copyBytes.Cs (k : Nat) : CallSem := tab []
def impl_copyBytes.cuts : List (Nat × Keep) := []
theorem impl_copyBytes.s (k : Nat) (a0z : Bool) (a0 : List Int) : answer Try.prog impl_copyBytes.Cs 100000 impl_copyBytes.cuts [] Try.f94 (k + 1) [.v (.nums 5 .u8 a0z a0)] = impl_copyBytes.b (fun r => some (impl_copyBytes.enc r)) k a0z a0 := by kernel_rfl
theorem impl_copyBytes.b_nat {R R' : Type} (e : R → R') (ret : Bool × List Int → Option R) (k : Nat) (a0z : Bool) (a0 : List Int) : impl_copyBytes.b (fun r => (ret r).map e) k a0z a0 = (impl_copyBytes.b ret k a0z a0).map e := by
  unfold impl_copyBytes.b
  repeat' first | with_reducible refine nat_cond ?_ ?_ | with_reducible refine nat_bind fun _ => ?_ | rfl
theorem impl_copyBytes.eq (k : Nat) (a0z : Bool) (a0 : List Int) : answer Try.prog impl_copyBytes.Cs 100000 impl_copyBytes.cuts [] Try.f94 (k + 1) [.v (.nums 5 .u8 a0z a0)] = (impl_copyBytes.f (k + 1) a0z a0).map impl_copyBytes.enc := by
  refine (impl_copyBytes.s k a0z a0).trans (Eq.trans ?_ (impl_copyBytes.b_nat impl_copyBytes.enc some k a0z a0))
  simp only [Option.map_some]
theorem impl_copyBytes.sound (k : Nat) : SoundF Try.prog 94 (fun a => (impl_copyBytes.ans k a).val) := by
  refine sound_plain (fun args res h => ?_) (fun t n => rfl)
  unfold impl_copyBytes.ans at h
  dsimp only at h
  split at h
  · cases k with
    | zero => cases h
    | succ k =>
      unfold Ans.val at h
      rw [← impl_copyBytes.eq] at h
      exact answer_sound mixed Try.func94 _ _ _ (k + 1) (fun j _ => tab_sound (tab_nil)) _ _ h
  · exact (Ans.no_val h).elim

/-! loop.example/g00790/impl.within -/
def impl_within.b {R : Type} (ret : Bool → Option R) (k : Nat) (a0 : Int) (a1 : Int) (a2 : Int) : Option R :=
  cond (decide (a1 ≤ a0)) (ret (decide (a0 ≤ a2))) (ret false)
def impl_within.f : Nat → Int → Int → Int → Option Bool
  | 0, _, _, _ => none
  | k + 1, a0, a1, a2 => impl_within.b some k a0 a1 a2
def impl_within.enc (r : Bool) : Res := ⟨[.vals false [((.bool r), true)]], []⟩
def impl_within.ans (k : Nat) : List Arg → Ans
  | [.v (.int .i64 a0), .v (.int .i64 a1), .v (.int .i64 a2)] => ⟨impl_within.f k a0 a1 a2, impl_within.enc⟩
  | _ => Ans.no
def impl_within.Cs (k : Nat) : CallSem := tab []
def impl_within.cuts : List (Nat × Keep) := []
theorem impl_within.s (k : Nat) (a0 : Int) (a1 : Int) (a2 : Int) : answer Try.prog impl_within.Cs 100000 impl_within.cuts [] Try.f93 (k + 1) [.v (.int .i64 a0), .v (.int .i64 a1), .v (.int .i64 a2)] = impl_within.b (fun r => some (impl_within.enc r)) k a0 a1 a2 := by kernel_rfl
theorem impl_within.b_nat {R R' : Type} (e : R → R') (ret : Bool → Option R) (k : Nat) (a0 : Int) (a1 : Int) (a2 : Int) : impl_within.b (fun r => (ret r).map e) k a0 a1 a2 = (impl_within.b ret k a0 a1 a2).map e := by
  unfold impl_within.b
  repeat' first | with_reducible refine nat_cond ?_ ?_ | with_reducible refine nat_bind fun _ => ?_ | rfl
theorem impl_within.eq (k : Nat) (a0 : Int) (a1 : Int) (a2 : Int) : answer Try.prog impl_within.Cs 100000 impl_within.cuts [] Try.f93 (k + 1) [.v (.int .i64 a0), .v (.int .i64 a1), .v (.int .i64 a2)] = (impl_within.f (k + 1) a0 a1 a2).map impl_within.enc := by
  refine (impl_within.s k a0 a1 a2).trans (Eq.trans ?_ (impl_within.b_nat impl_within.enc some k a0 a1 a2))
  simp only [Option.map_some]
theorem impl_within.sound (k : Nat) : SoundF Try.prog 93 (fun a => (impl_within.ans k a).val) := by
  refine sound_plain (fun args res h => ?_) (fun t n => rfl)
  unfold impl_within.ans at h
  dsimp only at h
  split at h
  · cases k with
    | zero => cases h
    | succ k =>
      unfold Ans.val at h
      rw [← impl_within.eq] at h
      exact answer_sound mixed Try.func93 _ _ _ (k + 1) (fun j _ => tab_sound (tab_nil)) _ _ h
  · exact (Ans.no_val h).elim

/-! loop.example/g00790/impl.BitsSize -/
def impl_BitsSize.b {R : Type} (ret : Int → Option R) (k : Nat) (a0 : Int) : Option R :=
  cond (decide (a0 < 1)) (ret 0) (ret (RowKit.wrap64 ((RowKit.wrap64 (Int.tdiv (RowKit.wrap64 (a0 - 1)) 8)) + 1)))
def impl_BitsSize.f : Nat → Int → Option Int
  | 0, _ => none
  | k + 1, a0 => impl_BitsSize.b some k a0
def impl_BitsSize.enc (r : Int) : Res := ⟨[.vals false [((.int .i64 r), true)]], []⟩
def impl_BitsSize.ans (k : Nat) : List Arg → Ans
  | [.v (.int .i64 a0)] => ⟨impl_BitsSize.f k a0, impl_BitsSize.enc⟩
  | _ => Ans.no
def impl_BitsSize.Cs (k : Nat) : CallSem := tab []
def impl_BitsSize.cuts : List (Nat × Keep) := []
theorem impl_BitsSize.s (k : Nat) (a0 : Int) : answer Try.prog impl_BitsSize.Cs 100000 impl_BitsSize.cuts [] Try.f184 (k + 1) [.v (.int .i64 a0)] = impl_BitsSize.b (fun r => some (impl_BitsSize.enc r)) k a0 := by kernel_rfl
theorem impl_BitsSize.b_nat {R R' : Type} (e : R → R') (ret : Int → Option R) (k : Nat) (a0 : Int) : impl_BitsSize.b (fun r => (ret r).map e) k a0 = (impl_BitsSize.b ret k a0).map e := by
  unfold impl_BitsSize.b
  repeat' first | with_reducible refine nat_cond ?_ ?_ | with_reducible refine nat_bind fun _ => ?_ | rfl
theorem impl_BitsSize.eq (k : Nat) (a0 : Int) : answer Try.prog impl_BitsSize.Cs 100000 impl_BitsSize.cuts [] Try.f184 (k + 1) [.v (.int .i64 a0)] = (impl_BitsSize.f (k + 1) a0).map impl_BitsSize.enc := by
  refine (impl_BitsSize.s k a0).trans (Eq.trans ?_ (impl_BitsSize.b_nat impl_BitsSize.enc some k a0))
  simp only [Option.map_some]
theorem impl_BitsSize.sound (k : Nat) : SoundF Try.prog 184 (fun a => (impl_BitsSize.ans k a).val) := by
  refine sound_plain (fun args res h => ?_) (fun t n => rfl)
  unfold impl_BitsSize.ans at h
  dsimp only at h
  split at h
  · cases k with
    | zero => cases h
    | succ k =>
      unfold Ans.val at h
      rw [← impl_BitsSize.eq] at h
      exact answer_sound mixed Try.func184 _ _ _ (k + 1) (fun j _ => tab_sound (tab_nil)) _ _ h
  · exact (Ans.no_val h).elim

end Go.Proofs.YtlfliciohaebfaaG
