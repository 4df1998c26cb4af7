/- What the functions compute, printed by a program of this repo; each is shown to be what the machine of values answers. No condition. -/
import Derived.Test.YtadnejogdohfkaaProg
import Derived.KernelRfl
import Derived.Test.YtadnejogdohfkaaRvD
namespace Go.Proofs.YtadnejogdohfkaaG
open Go Go.Proofs.YtadnejogdohfkaaRv Go.Proofs
set_option linter.unusedVariables false
set_option linter.unusedSimpArgs false
theorem mixed : Try.prog.follows .mixedOrders = true := by kernel_rfl
/-! loop.example/g00790/laws.szByteS -/
def laws_szByteS.b {R : Type} (ret : Int → Option R) (k : Nat) (a0z : Bool) (a0 : List Int) (a1 : Int) : Option R :=
  cond (decide ((RowKit.wrap64 (a1 - ((a0).length : Int))) < 0)) (ret (-1)) (ret (RowKit.wrap64 (a1 - ((a0).length : Int))))
def laws_szByteS.f : Nat → Bool → (List Int) → Int → Option Int
  | 0, _, _, _ => none
  | k + 1, a0z, a0, a1 => laws_szByteS.b some k a0z a0 a1
def laws_szByteS.enc (r : Int) : Res := ⟨[.vals false [((.int .i64 r), true)]], []⟩
def laws_szByteS.ans (k : Nat) : List Arg → Ans
  | [.v (.nums 5 .u8 a0z a0), .v (.int .i64 a1)] => ⟨laws_szByteS.f k a0z a0 a1, laws_szByteS.enc⟩
  | _ => Ans.no
def laws_szByteS.Cs (k : Nat) : CallSem := tab []
def laws_szByteS.cuts : List (Nat × Keep) := []
theorem laws_szByteS.s (k : Nat) (a0z : Bool) (a0 : List Int) (a1 : Int) : answer Try.prog laws_szByteS.Cs 100000 laws_szByteS.cuts [] Try.f97 (k + 1) [.v (.nums 5 .u8 a0z a0), .v (.int .i64 a1)] = laws_szByteS.b (fun r => some (laws_szByteS.enc r)) k a0z a0 a1 := by kernel_rfl
theorem laws_szByteS.b_nat {R R' : Type} (e : R → R') (ret : Int → Option R) (k : Nat) (a0z : Bool) (a0 : List Int) (a1 : Int) : laws_szByteS.b (fun r => (ret r).map e) k a0z a0 a1 = (laws_szByteS.b ret k a0z a0 a1).map e := by
  unfold laws_szByteS.b
  repeat' first | with_reducible refine nat_cond ?_ ?_ | with_reducible refine nat_bind fun _ => ?_ | rfl
theorem laws_szByteS.eq (k : Nat) (a0z : Bool) (a0 : List Int) (a1 : Int) : answer Try.prog laws_szByteS.Cs 100000 laws_szByteS.cuts [] Try.f97 (k + 1) [.v (.nums 5 .u8 a0z a0), .v (.int .i64 a1)] = (laws_szByteS.f (k + 1) a0z a0 a1).map laws_szByteS.enc := by
  refine (laws_szByteS.s k a0z a0 a1).trans (Eq.trans ?_ (laws_szByteS.b_nat laws_szByteS.enc some k a0z a0 a1))
  simp only [Option.map_some]
theorem laws_szByteS.sound (k : Nat) : SoundF Try.prog 97 (fun a => (laws_szByteS.ans k a).val) := by
  refine sound_plain (fun args res h => ?_) (fun t n => rfl)
  unfold laws_szByteS.ans at h
  dsimp only at h
  split at h
  · cases k with
    | zero => cases h
    | succ k =>
      unfold Ans.val at h
      rw [← laws_szByteS.eq] at h
      exact answer_sound mixed Try.func97 _ _ _ (k + 1) (fun j _ => tab_sound (tab_nil)) _ _ h
  · exact (Ans.no_val h).elim

/-! loop.example/g00790/laws.szRow -/
def laws_szRow.b {R : Type} (ret : Int → Option R) (k : Nat) (a0_0 : Int) (a0_1z : Bool) (a0_1 : List Int) (a1 : Int) : Option R :=
  (laws_szByteS.f k a0_1z a0_1 a1).bind fun t0 => cond (decide (t0 < 0)) (ret (-1)) (ret t0)
def laws_szRow.f : Nat → Int → Bool → (List Int) → Int → Option Int
  | 0, _, _, _, _ => none
  | k + 1, a0_0, a0_1z, a0_1, a1 => laws_szRow.b some k a0_0 a0_1z a0_1 a1
def laws_szRow.enc (r : Int) : Res := ⟨[.vals false [((.int .i64 r), true)]], []⟩
def laws_szRow.ans (k : Nat) : List Arg → Ans
  | [.v (.agg [(.int .i64 a0_0), (.nums 5 .u8 a0_1z a0_1)]), .v (.int .i64 a1)] => ⟨laws_szRow.f k a0_0 a0_1z a0_1 a1, laws_szRow.enc⟩
  | _ => Ans.no
def laws_szRow.Cs (k : Nat) : CallSem := tab [(97, laws_szByteS.ans k)]
def laws_szRow.cuts : List (Nat × Keep) := []
theorem laws_szRow.s (k : Nat) (a0_0 : Int) (a0_1z : Bool) (a0_1 : List Int) (a1 : Int) : answer Try.prog laws_szRow.Cs 100000 laws_szRow.cuts [] Try.f165 (k + 1) [.v (.agg [(.int .i64 a0_0), (.nums 5 .u8 a0_1z a0_1)]), .v (.int .i64 a1)] = laws_szRow.b (fun r => some (laws_szRow.enc r)) k a0_0 a0_1z a0_1 a1 := by kernel_rfl
theorem laws_szRow.b_nat {R R' : Type} (e : R → R') (ret : Int → Option R) (k : Nat) (a0_0 : Int) (a0_1z : Bool) (a0_1 : List Int) (a1 : Int) : laws_szRow.b (fun r => (ret r).map e) k a0_0 a0_1z a0_1 a1 = (laws_szRow.b ret k a0_0 a0_1z a0_1 a1).map e := by
  unfold laws_szRow.b
  repeat' first | with_reducible refine nat_cond ?_ ?_ | with_reducible refine nat_bind fun _ => ?_ | rfl
theorem laws_szRow.eq (k : Nat) (a0_0 : Int) (a0_1z : Bool) (a0_1 : List Int) (a1 : Int) : answer Try.prog laws_szRow.Cs 100000 laws_szRow.cuts [] Try.f165 (k + 1) [.v (.agg [(.int .i64 a0_0), (.nums 5 .u8 a0_1z a0_1)]), .v (.int .i64 a1)] = (laws_szRow.f (k + 1) a0_0 a0_1z a0_1 a1).map laws_szRow.enc := by
  refine (laws_szRow.s k a0_0 a0_1z a0_1 a1).trans (Eq.trans ?_ (laws_szRow.b_nat laws_szRow.enc some k a0_0 a0_1z a0_1 a1))
  simp only [Option.map_some]
theorem laws_szRow.sound (k : Nat) : SoundF Try.prog 165 (fun a => (laws_szRow.ans k a).val) := by
  refine sound_plain (fun args res h => ?_) (fun t n => rfl)
  unfold laws_szRow.ans at h
  dsimp only at h
  split at h
  · cases k with
    | zero => cases h
    | succ k =>
      unfold Ans.val at h
      rw [← laws_szRow.eq] at h
      exact answer_sound mixed Try.func165 _ _ _ (k + 1) (fun j _ => tab_sound (tab_cons (laws_szByteS.sound j) (tab_nil))) _ _ h
  · exact (Ans.no_val h).elim

/-! loop.example/g00790/laws.szRowS -/
def laws_szRowS.b {R : Type} (ret : Int → Option R) (j0 : Bool → (List T) → Int → Int → Option R) (k : Nat) (a0z : Bool) (a0 : List T) (a1 : Int) : Option R :=
  cond (decide ((RowKit.wrap64 (a1 - ((a0).length : Int))) < 0)) (ret (-1)) (j0 a0z a0 (RowKit.wrap64 (a1 - ((a0).length : Int))) 0)
def laws_szRowS.l0b {R : Type} (ret : Int → Option R) (j0 : Bool → (List T) → Int → Int → Option R) (k : Nat) (x0z : Bool) (x0 : List T) (x1 : Int) (x5 : Int) : Option R :=
  cond (decide (x5 < ((x0).length : Int))) (cond (decide ((0 : Int) ≤ x5)) (cond (decide (x5 < ((x0).length : Int))) ((laws_szRow.f k (((((x0).getD (x5).toNat .bad).cells.getD 0 .bad)).toInt) (((((x0).getD (x5).toNat .bad).cells.getD 1 .bad)).isNil) (((((x0).getD (x5).toNat .bad).cells.getD 1 .bad)).toNums) x1).bind fun t0 => cond (decide (t0 < 0)) (ret (-1)) (j0 x0z x0 t0 (RowKit.wrap64 (x5 + 1)))) (none)) (none)) (ret x1)
def laws_szRowS.l0 : Nat → Bool → (List T) → Int → Int → Option Int
  | 0, _, _, _, _ => none
  | k + 1, x0z, x0, x1, x5 => laws_szRowS.l0b some (laws_szRowS.l0 k) k x0z x0 x1 x5
def laws_szRowS.f : Nat → Bool → (List T) → Int → Option Int
  | 0, _, _, _ => none
  | k + 1, a0z, a0, a1 => laws_szRowS.b some (laws_szRowS.l0 k) k a0z a0 a1
def laws_szRowS.enc (r : Int) : Res := ⟨[.vals false [((.int .i64 r), true)]], []⟩
def laws_szRowS.ans (k : Nat) : List Arg → Ans
  | [.v (.sl 187 a0z a0), .v (.int .i64 a1)] => ⟨laws_szRowS.f k a0z a0 a1, laws_szRowS.enc⟩
  | _ => Ans.no
def laws_szRowS.Cs (k : Nat) : CallSem := tab [(165, laws_szRow.ans k)]
def laws_szRowS.cuts : List (Nat × Keep) := [(122, ⟨[(0, some []), (1, some []), (5, some [])], []⟩)]
noncomputable def laws_szRowS.K0 : List Fr := framesAt [true, true, true, false, true, false] (bodyOf Try.f96 laws_szRowS.cuts) []
def laws_szRowS.N0 (x0z : Bool) (x0 : List T) (x1 : Int) (x5 : Int) : St := stOf 27 27 2 [(0, .val ⟨(.sl 187 x0z x0), [], false, none⟩), (1, .val (V.s (.int .i64 x1))), (5, .val (V.s (.int .i64 x5)))] []
theorem laws_szRowS.s (k : Nat) (a0z : Bool) (a0 : List T) (a1 : Int) : answer Try.prog laws_szRowS.Cs 100000 laws_szRowS.cuts [] Try.f96 (k + 1) [.v (.sl 187 a0z a0), .v (.int .i64 a1)] = laws_szRowS.b (fun r => some (laws_szRowS.enc r)) (fun x0z x0 x1 x5 => rounds Try.prog laws_szRowS.Cs (finish Try.prog [] Try.f96 [.v (.sl 187 a0z a0), .v (.int .i64 a1)]) 100000 k laws_szRowS.K0 (laws_szRowS.N0 x0z x0 x1 x5)) k a0z a0 a1 := by kernel_rfl
theorem laws_szRowS.s0 (k : Nat) (G : List Fr → St → Option Res) (a0z : Bool) (a0 : List T) (a1 : Int) (yx0z : Bool) (yx0 : List T) (yx1 : Int) (yx5 : Int) : resume Try.prog (laws_szRowS.Cs k) G (finish Try.prog [] Try.f96 [.v (.sl 187 a0z a0), .v (.int .i64 a1)]) 100000 laws_szRowS.K0 (laws_szRowS.N0 yx0z yx0 yx1 yx5) = laws_szRowS.l0b (fun r => some (laws_szRowS.enc r)) (fun x0z x0 x1 x5 => G laws_szRowS.K0 (laws_szRowS.N0 x0z x0 x1 x5)) k yx0z yx0 yx1 yx5 := by kernel_rfl
theorem laws_szRowS.b_nat {R R' : Type} (e : R → R') (ret : Int → Option R) (j0 : Bool → (List T) → Int → Int → Option R) (k : Nat) (a0z : Bool) (a0 : List T) (a1 : Int) : laws_szRowS.b (fun r => (ret r).map e) (fun x0z x0 x1 x5 => (j0 x0z x0 x1 x5).map e) k a0z a0 a1 = (laws_szRowS.b ret j0 k a0z a0 a1).map e := by
  unfold laws_szRowS.b
  repeat' first | with_reducible refine nat_cond ?_ ?_ | with_reducible refine nat_bind fun _ => ?_ | rfl
theorem laws_szRowS.l0b_nat {R R' : Type} (e : R → R') (ret : Int → Option R) (j0 : Bool → (List T) → Int → Int → Option R) (k : Nat) (x0z : Bool) (x0 : List T) (x1 : Int) (x5 : Int) : laws_szRowS.l0b (fun r => (ret r).map e) (fun x0z x0 x1 x5 => (j0 x0z x0 x1 x5).map e) k x0z x0 x1 x5 = (laws_szRowS.l0b ret j0 k x0z x0 x1 x5).map e := by
  unfold laws_szRowS.l0b
  repeat' first | with_reducible refine nat_cond ?_ ?_ | with_reducible refine nat_bind fun _ => ?_ | rfl
theorem laws_szRowS.rounds_eq (a0z : Bool) (a0 : List T) (a1 : Int) : ∀ k, (∀ (x0z : Bool) (x0 : List T) (x1 : Int) (x5 : Int), rounds Try.prog laws_szRowS.Cs (finish Try.prog [] Try.f96 [.v (.sl 187 a0z a0), .v (.int .i64 a1)]) 100000 k laws_szRowS.K0 (laws_szRowS.N0 x0z x0 x1 x5) = (laws_szRowS.l0 k x0z x0 x1 x5).map laws_szRowS.enc)
  | 0 => fun _ _ _ _ => rfl
  | k + 1 => by
    have ih := laws_szRowS.rounds_eq a0z a0 a1 k
    refine fun _ _ _ _ => ?_
    · refine (laws_szRowS.s0 k _ a0z a0 a1 _ _ _ _).trans (Eq.trans ?_ (laws_szRowS.l0b_nat laws_szRowS.enc some (laws_szRowS.l0 k) k _ _ _ _))
      simp only [ih, Option.map_some]
theorem laws_szRowS.eq (k : Nat) (a0z : Bool) (a0 : List T) (a1 : Int) : answer Try.prog laws_szRowS.Cs 100000 laws_szRowS.cuts [] Try.f96 (k + 1) [.v (.sl 187 a0z a0), .v (.int .i64 a1)] = (laws_szRowS.f (k + 1) a0z a0 a1).map laws_szRowS.enc := by
  have ih := laws_szRowS.rounds_eq a0z a0 a1 k
  refine (laws_szRowS.s k a0z a0 a1).trans (Eq.trans ?_ (laws_szRowS.b_nat laws_szRowS.enc some (laws_szRowS.l0 k) k a0z a0 a1))
  simp only [ih, Option.map_some]
theorem laws_szRowS.sound (k : Nat) : SoundF Try.prog 96 (fun a => (laws_szRowS.ans k a).val) := by
  refine sound_plain (fun args res h => ?_) (fun t n => rfl)
  unfold laws_szRowS.ans at h
  dsimp only at h
  split at h
  · cases k with
    | zero => cases h
    | succ k =>
      unfold Ans.val at h
      rw [← laws_szRowS.eq] at h
      exact answer_sound mixed Try.func96 _ _ _ (k + 1) (fun j _ => tab_sound (tab_cons (laws_szRow.sound j) (tab_nil))) _ _ h
  · exact (Ans.no_val h).elim

/-! loop.example/g00790/laws.szTable -/
def laws_szTable.b {R : Type} (ret : Int → Option R) (k : Nat) (a0_0z : Bool) (a0_0 : List T) (a1 : Int) : Option R :=
  (laws_szRowS.f k a0_0z a0_0 a1).bind fun t0 => cond (decide (t0 < 0)) (ret (-1)) (ret t0)
def laws_szTable.f : Nat → Bool → (List T) → Int → Option Int
  | 0, _, _, _ => none
  | k + 1, a0_0z, a0_0, a1 => laws_szTable.b some k a0_0z a0_0 a1
def laws_szTable.enc (r : Int) : Res := ⟨[.vals false [((.int .i64 r), true)]], []⟩
def laws_szTable.ans (k : Nat) : List Arg → Ans
  | [.v (.agg [(.sl 187 a0_0z a0_0)]), .v (.int .i64 a1)] => ⟨laws_szTable.f k a0_0z a0_0 a1, laws_szTable.enc⟩
  | _ => Ans.no
def laws_szTable.Cs (k : Nat) : CallSem := tab [(96, laws_szRowS.ans k)]
def laws_szTable.cuts : List (Nat × Keep) := []
theorem laws_szTable.s (k : Nat) (a0_0z : Bool) (a0_0 : List T) (a1 : Int) : answer Try.prog laws_szTable.Cs 100000 laws_szTable.cuts [] Try.f30 (k + 1) [.v (.agg [(.sl 187 a0_0z a0_0)]), .v (.int .i64 a1)] = laws_szTable.b (fun r => some (laws_szTable.enc r)) k a0_0z a0_0 a1 := by kernel_rfl
theorem laws_szTable.b_nat {R R' : Type} (e : R → R') (ret : Int → Option R) (k : Nat) (a0_0z : Bool) (a0_0 : List T) (a1 : Int) : laws_szTable.b (fun r => (ret r).map e) k a0_0z a0_0 a1 = (laws_szTable.b ret k a0_0z a0_0 a1).map e := by
  unfold laws_szTable.b
  repeat' first | with_reducible refine nat_cond ?_ ?_ | with_reducible refine nat_bind fun _ => ?_ | rfl
theorem laws_szTable.eq (k : Nat) (a0_0z : Bool) (a0_0 : List T) (a1 : Int) : answer Try.prog laws_szTable.Cs 100000 laws_szTable.cuts [] Try.f30 (k + 1) [.v (.agg [(.sl 187 a0_0z a0_0)]), .v (.int .i64 a1)] = (laws_szTable.f (k + 1) a0_0z a0_0 a1).map laws_szTable.enc := by
  refine (laws_szTable.s k a0_0z a0_0 a1).trans (Eq.trans ?_ (laws_szTable.b_nat laws_szTable.enc some k a0_0z a0_0 a1))
  simp only [Option.map_some]
theorem laws_szTable.sound (k : Nat) : SoundF Try.prog 30 (fun a => (laws_szTable.ans k a).val) := by
  refine sound_plain (fun args res h => ?_) (fun t n => rfl)
  unfold laws_szTable.ans at h
  dsimp only at h
  split at h
  · cases k with
    | zero => cases h
    | succ k =>
      unfold Ans.val at h
      rw [← laws_szTable.eq] at h
      exact answer_sound mixed Try.func30 _ _ _ (k + 1) (fun j _ => tab_sound (tab_cons (laws_szRowS.sound j) (tab_nil))) _ _ h
  · exact (Ans.no_val h).elim

/-! loop.example/g00790/laws.szEntry -/
def laws_szEntry.b {R : Type} (ret : Int → Option R) (k : Nat) (a0_0 : Int) (a0_1 : Int) (a0_2z : Bool) (a0_2 : List Int) (a1 : Int) : Option R :=
  (laws_szByteS.f k a0_2z a0_2 a1).bind fun t0 => cond (decide (t0 < 0)) (ret (-1)) (ret t0)
def laws_szEntry.f : Nat → Int → Int → Bool → (List Int) → Int → Option Int
  | 0, _, _, _, _, _ => none
  | k + 1, a0_0, a0_1, a0_2z, a0_2, a1 => laws_szEntry.b some k a0_0 a0_1 a0_2z a0_2 a1
def laws_szEntry.enc (r : Int) : Res := ⟨[.vals false [((.int .i64 r), true)]], []⟩
def laws_szEntry.ans (k : Nat) : List Arg → Ans
  | [.v (.agg [(.int .i64 a0_0), (.int .i64 a0_1), (.nums 5 .u8 a0_2z a0_2)]), .v (.int .i64 a1)] => ⟨laws_szEntry.f k a0_0 a0_1 a0_2z a0_2 a1, laws_szEntry.enc⟩
  | _ => Ans.no
def laws_szEntry.Cs (k : Nat) : CallSem := tab [(97, laws_szByteS.ans k)]
def laws_szEntry.cuts : List (Nat × Keep) := []
theorem laws_szEntry.s (k : Nat) (a0_0 : Int) (a0_1 : Int) (a0_2z : Bool) (a0_2 : List Int) (a1 : Int) : answer Try.prog laws_szEntry.Cs 100000 laws_szEntry.cuts [] Try.f177 (k + 1) [.v (.agg [(.int .i64 a0_0), (.int .i64 a0_1), (.nums 5 .u8 a0_2z a0_2)]), .v (.int .i64 a1)] = laws_szEntry.b (fun r => some (laws_szEntry.enc r)) k a0_0 a0_1 a0_2z a0_2 a1 := by kernel_rfl
theorem laws_szEntry.b_nat {R R' : Type} (e : R → R') (ret : Int → Option R) (k : Nat) (a0_0 : Int) (a0_1 : Int) (a0_2z : Bool) (a0_2 : List Int) (a1 : Int) : laws_szEntry.b (fun r => (ret r).map e) k a0_0 a0_1 a0_2z a0_2 a1 = (laws_szEntry.b ret k a0_0 a0_1 a0_2z a0_2 a1).map e := by
  unfold laws_szEntry.b
  repeat' first | with_reducible refine nat_cond ?_ ?_ | with_reducible refine nat_bind fun _ => ?_ | rfl
theorem laws_szEntry.eq (k : Nat) (a0_0 : Int) (a0_1 : Int) (a0_2z : Bool) (a0_2 : List Int) (a1 : Int) : answer Try.prog laws_szEntry.Cs 100000 laws_szEntry.cuts [] Try.f177 (k + 1) [.v (.agg [(.int .i64 a0_0), (.int .i64 a0_1), (.nums 5 .u8 a0_2z a0_2)]), .v (.int .i64 a1)] = (laws_szEntry.f (k + 1) a0_0 a0_1 a0_2z a0_2 a1).map laws_szEntry.enc := by
  refine (laws_szEntry.s k a0_0 a0_1 a0_2z a0_2 a1).trans (Eq.trans ?_ (laws_szEntry.b_nat laws_szEntry.enc some k a0_0 a0_1 a0_2z a0_2 a1))
  simp only [Option.map_some]
theorem laws_szEntry.sound (k : Nat) : SoundF Try.prog 177 (fun a => (laws_szEntry.ans k a).val) := by
  refine sound_plain (fun args res h => ?_) (fun t n => rfl)
  unfold laws_szEntry.ans at h
  dsimp only at h
  split at h
  · cases k with
    | zero => cases h
    | succ k =>
      unfold Ans.val at h
      rw [← laws_szEntry.eq] at h
      exact answer_sound mixed Try.func177 _ _ _ (k + 1) (fun j _ => tab_sound (tab_cons (laws_szByteS.sound j) (tab_nil))) _ _ h
  · exact (Ans.no_val h).elim

/-! loop.example/g00790/laws.szEntryS -/
def laws_szEntryS.b {R : Type} (ret : Int → Option R) (j0 : Bool → (List T) → Int → Int → Option R) (k : Nat) (a0z : Bool) (a0 : List T) (a1 : Int) : Option R :=
  cond (decide ((RowKit.wrap64 (a1 - ((a0).length : Int))) < 0)) (ret (-1)) (j0 a0z a0 (RowKit.wrap64 (a1 - ((a0).length : Int))) 0)
def laws_szEntryS.l0b {R : Type} (ret : Int → Option R) (j0 : Bool → (List T) → Int → Int → Option R) (k : Nat) (x0z : Bool) (x0 : List T) (x1 : Int) (x5 : Int) : Option R :=
  cond (decide (x5 < ((x0).length : Int))) (cond (decide ((0 : Int) ≤ x5)) (cond (decide (x5 < ((x0).length : Int))) ((laws_szEntry.f k (((((x0).getD (x5).toNat .bad).cells.getD 0 .bad)).toInt) (((((x0).getD (x5).toNat .bad).cells.getD 1 .bad)).toInt) (((((x0).getD (x5).toNat .bad).cells.getD 2 .bad)).isNil) (((((x0).getD (x5).toNat .bad).cells.getD 2 .bad)).toNums) x1).bind fun t0 => cond (decide (t0 < 0)) (ret (-1)) (j0 x0z x0 t0 (RowKit.wrap64 (x5 + 1)))) (none)) (none)) (ret x1)
def laws_szEntryS.l0 : Nat → Bool → (List T) → Int → Int → Option Int
  | 0, _, _, _, _ => none
  | k + 1, x0z, x0, x1, x5 => laws_szEntryS.l0b some (laws_szEntryS.l0 k) k x0z x0 x1 x5
def laws_szEntryS.f : Nat → Bool → (List T) → Int → Option Int
  | 0, _, _, _ => none
  | k + 1, a0z, a0, a1 => laws_szEntryS.b some (laws_szEntryS.l0 k) k a0z a0 a1
def laws_szEntryS.enc (r : Int) : Res := ⟨[.vals false [((.int .i64 r), true)]], []⟩
def laws_szEntryS.ans (k : Nat) : List Arg → Ans
  | [.v (.sl 195 a0z a0), .v (.int .i64 a1)] => ⟨laws_szEntryS.f k a0z a0 a1, laws_szEntryS.enc⟩
  | _ => Ans.no
def laws_szEntryS.Cs (k : Nat) : CallSem := tab [(177, laws_szEntry.ans k)]
def laws_szEntryS.cuts : List (Nat × Keep) := [(122, ⟨[(0, some []), (1, some []), (5, some [])], []⟩)]
noncomputable def laws_szEntryS.K0 : List Fr := framesAt [true, true, true, false, true, false] (bodyOf Try.f111 laws_szEntryS.cuts) []
def laws_szEntryS.N0 (x0z : Bool) (x0 : List T) (x1 : Int) (x5 : Int) : St := stOf 27 27 2 [(0, .val ⟨(.sl 195 x0z x0), [], false, none⟩), (1, .val (V.s (.int .i64 x1))), (5, .val (V.s (.int .i64 x5)))] []
theorem laws_szEntryS.s (k : Nat) (a0z : Bool) (a0 : List T) (a1 : Int) : answer Try.prog laws_szEntryS.Cs 100000 laws_szEntryS.cuts [] Try.f111 (k + 1) [.v (.sl 195 a0z a0), .v (.int .i64 a1)] = laws_szEntryS.b (fun r => some (laws_szEntryS.enc r)) (fun x0z x0 x1 x5 => rounds Try.prog laws_szEntryS.Cs (finish Try.prog [] Try.f111 [.v (.sl 195 a0z a0), .v (.int .i64 a1)]) 100000 k laws_szEntryS.K0 (laws_szEntryS.N0 x0z x0 x1 x5)) k a0z a0 a1 := by kernel_rfl
theorem laws_szEntryS.s0 (k : Nat) (G : List Fr → St → Option Res) (a0z : Bool) (a0 : List T) (a1 : Int) (yx0z : Bool) (yx0 : List T) (yx1 : Int) (yx5 : Int) : resume Try.prog (laws_szEntryS.Cs k) G (finish Try.prog [] Try.f111 [.v (.sl 195 a0z a0), .v (.int .i64 a1)]) 100000 laws_szEntryS.K0 (laws_szEntryS.N0 yx0z yx0 yx1 yx5) = laws_szEntryS.l0b (fun r => some (laws_szEntryS.enc r)) (fun x0z x0 x1 x5 => G laws_szEntryS.K0 (laws_szEntryS.N0 x0z x0 x1 x5)) k yx0z yx0 yx1 yx5 := by kernel_rfl
theorem laws_szEntryS.b_nat {R R' : Type} (e : R → R') (ret : Int → Option R) (j0 : Bool → (List T) → Int → Int → Option R) (k : Nat) (a0z : Bool) (a0 : List T) (a1 : Int) : laws_szEntryS.b (fun r => (ret r).map e) (fun x0z x0 x1 x5 => (j0 x0z x0 x1 x5).map e) k a0z a0 a1 = (laws_szEntryS.b ret j0 k a0z a0 a1).map e := by
  unfold laws_szEntryS.b
  repeat' first | with_reducible refine nat_cond ?_ ?_ | with_reducible refine nat_bind fun _ => ?_ | rfl
theorem laws_szEntryS.l0b_nat {R R' : Type} (e : R → R') (ret : Int → Option R) (j0 : Bool → (List T) → Int → Int → Option R) (k : Nat) (x0z : Bool) (x0 : List T) (x1 : Int) (x5 : Int) : laws_szEntryS.l0b (fun r => (ret r).map e) (fun x0z x0 x1 x5 => (j0 x0z x0 x1 x5).map e) k x0z x0 x1 x5 = (laws_szEntryS.l0b ret j0 k x0z x0 x1 x5).map e := by
  unfold laws_szEntryS.l0b
  repeat' first | with_reducible refine nat_cond ?_ ?_ | with_reducible refine nat_bind fun _ => ?_ | rfl
theorem laws_szEntryS.rounds_eq (a0z : Bool) (a0 : List T) (a1 : Int) : ∀ k, (∀ (x0z : Bool) (x0 : List T) (x1 : Int) (x5 : Int), rounds Try.prog laws_szEntryS.Cs (finish Try.prog [] Try.f111 [.v (.sl 195 a0z a0), .v (.int .i64 a1)]) 100000 k laws_szEntryS.K0 (laws_szEntryS.N0 x0z x0 x1 x5) = (laws_szEntryS.l0 k x0z x0 x1 x5).map laws_szEntryS.enc)
  | 0 => fun _ _ _ _ => rfl
  | k + 1 => by
    have ih := laws_szEntryS.rounds_eq a0z a0 a1 k
    refine fun _ _ _ _ => ?_
    · refine (laws_szEntryS.s0 k _ a0z a0 a1 _ _ _ _).trans (Eq.trans ?_ (laws_szEntryS.l0b_nat laws_szEntryS.enc some (laws_szEntryS.l0 k) k _ _ _ _))
      simp only [ih, Option.map_some]
theorem laws_szEntryS.eq (k : Nat) (a0z : Bool) (a0 : List T) (a1 : Int) : answer Try.prog laws_szEntryS.Cs 100000 laws_szEntryS.cuts [] Try.f111 (k + 1) [.v (.sl 195 a0z a0), .v (.int .i64 a1)] = (laws_szEntryS.f (k + 1) a0z a0 a1).map laws_szEntryS.enc := by
  have ih := laws_szEntryS.rounds_eq a0z a0 a1 k
  refine (laws_szEntryS.s k a0z a0 a1).trans (Eq.trans ?_ (laws_szEntryS.b_nat laws_szEntryS.enc some (laws_szEntryS.l0 k) k a0z a0 a1))
  simp only [ih, Option.map_some]
theorem laws_szEntryS.sound (k : Nat) : SoundF Try.prog 111 (fun a => (laws_szEntryS.ans k a).val) := by
  refine sound_plain (fun args res h => ?_) (fun t n => rfl)
  unfold laws_szEntryS.ans at h
  dsimp only at h
  split at h
  · cases k with
    | zero => cases h
    | succ k =>
      unfold Ans.val at h
      rw [← laws_szEntryS.eq] at h
      exact answer_sound mixed Try.func111 _ _ _ (k + 1) (fun j _ => tab_sound (tab_cons (laws_szEntry.sound j) (tab_nil))) _ _ h
  · exact (Ans.no_val h).elim

/-! loop.example/g00790/laws.szTc -/
def laws_szTc.b {R : Type} (ret : Int → Option R) (k : Nat) (a0_0 : Int) (a0_1z : Bool) (a0_1 : List T) (a1 : Int) : Option R :=
  (laws_szEntryS.f k a0_1z a0_1 a1).bind fun t0 => cond (decide (t0 < 0)) (ret (-1)) (ret t0)
def laws_szTc.f : Nat → Int → Bool → (List T) → Int → Option Int
  | 0, _, _, _, _ => none
  | k + 1, a0_0, a0_1z, a0_1, a1 => laws_szTc.b some k a0_0 a0_1z a0_1 a1
def laws_szTc.enc (r : Int) : Res := ⟨[.vals false [((.int .i64 r), true)]], []⟩
def laws_szTc.ans (k : Nat) : List Arg → Ans
  | [.v (.agg [(.int .i64 a0_0), (.sl 195 a0_1z a0_1)]), .v (.int .i64 a1)] => ⟨laws_szTc.f k a0_0 a0_1z a0_1 a1, laws_szTc.enc⟩
  | _ => Ans.no
def laws_szTc.Cs (k : Nat) : CallSem := tab [(111, laws_szEntryS.ans k)]
def laws_szTc.cuts : List (Nat × Keep) := []
theorem laws_szTc.s (k : Nat) (a0_0 : Int) (a0_1z : Bool) (a0_1 : List T) (a1 : Int) : answer Try.prog laws_szTc.Cs 100000 laws_szTc.cuts [] Try.f38 (k + 1) [.v (.agg [(.int .i64 a0_0), (.sl 195 a0_1z a0_1)]), .v (.int .i64 a1)] = laws_szTc.b (fun r => some (laws_szTc.enc r)) k a0_0 a0_1z a0_1 a1 := by kernel_rfl
theorem laws_szTc.b_nat {R R' : Type} (e : R → R') (ret : Int → Option R) (k : Nat) (a0_0 : Int) (a0_1z : Bool) (a0_1 : List T) (a1 : Int) : laws_szTc.b (fun r => (ret r).map e) k a0_0 a0_1z a0_1 a1 = (laws_szTc.b ret k a0_0 a0_1z a0_1 a1).map e := by
  unfold laws_szTc.b
  repeat' first | with_reducible refine nat_cond ?_ ?_ | with_reducible refine nat_bind fun _ => ?_ | rfl
theorem laws_szTc.eq (k : Nat) (a0_0 : Int) (a0_1z : Bool) (a0_1 : List T) (a1 : Int) : answer Try.prog laws_szTc.Cs 100000 laws_szTc.cuts [] Try.f38 (k + 1) [.v (.agg [(.int .i64 a0_0), (.sl 195 a0_1z a0_1)]), .v (.int .i64 a1)] = (laws_szTc.f (k + 1) a0_0 a0_1z a0_1 a1).map laws_szTc.enc := by
  refine (laws_szTc.s k a0_0 a0_1z a0_1 a1).trans (Eq.trans ?_ (laws_szTc.b_nat laws_szTc.enc some k a0_0 a0_1z a0_1 a1))
  simp only [Option.map_some]
theorem laws_szTc.sound (k : Nat) : SoundF Try.prog 38 (fun a => (laws_szTc.ans k a).val) := by
  refine sound_plain (fun args res h => ?_) (fun t n => rfl)
  unfold laws_szTc.ans at h
  dsimp only at h
  split at h
  · cases k with
    | zero => cases h
    | succ k =>
      unfold Ans.val at h
      rw [← laws_szTc.eq] at h
      exact answer_sound mixed Try.func38 _ _ _ (k + 1) (fun j _ => tab_sound (tab_cons (laws_szEntryS.sound j) (tab_nil))) _ _ h
  · exact (Ans.no_val h).elim

/-! loop.example/g00790/laws.toLimits -/
def laws_toLimits.b {R : Type} (ret : Int × Int × Int × Int × Int → Option R) (k : Nat) (a0_0 : Int) (a0_1 : Int) (a0_2 : Int) (a0_3 : Int) (a0_4 : Int) : Option R :=
  ret (a0_0, a0_1, a0_2, a0_3, a0_4)
def laws_toLimits.f : Nat → Int → Int → Int → Int → Int → Option (Int × Int × Int × Int × Int)
  | 0, _, _, _, _, _ => none
  | k + 1, a0_0, a0_1, a0_2, a0_3, a0_4 => laws_toLimits.b some k a0_0 a0_1 a0_2 a0_3 a0_4
def laws_toLimits.enc (r : Int × Int × Int × Int × Int) : Res := ⟨[.vals true [((.int .i64 r.1), true), ((.int .i64 r.2.1), true), ((.int .i64 r.2.2.1), true), ((.int .i64 r.2.2.2.1), true), ((.int .i64 r.2.2.2.2), true)]], []⟩
def laws_toLimits.ans (k : Nat) : List Arg → Ans
  | [.v (.agg [(.int .i64 a0_0), (.int .i64 a0_1), (.int .i64 a0_2), (.int .i64 a0_3), (.int .i64 a0_4)])] => ⟨laws_toLimits.f k a0_0 a0_1 a0_2 a0_3 a0_4, laws_toLimits.enc⟩
  | _ => Ans.no
def laws_toLimits.Cs (k : Nat) : CallSem := tab []
def laws_toLimits.cuts : List (Nat × Keep) := []
theorem laws_toLimits.s (k : Nat) (a0_0 : Int) (a0_1 : Int) (a0_2 : Int) (a0_3 : Int) (a0_4 : Int) : answer Try.prog laws_toLimits.Cs 100000 laws_toLimits.cuts [] Try.f16 (k + 1) [.v (.agg [(.int .i64 a0_0), (.int .i64 a0_1), (.int .i64 a0_2), (.int .i64 a0_3), (.int .i64 a0_4)])] = laws_toLimits.b (fun r => some (laws_toLimits.enc r)) k a0_0 a0_1 a0_2 a0_3 a0_4 := by kernel_rfl
theorem laws_toLimits.b_nat {R R' : Type} (e : R → R') (ret : Int × Int × Int × Int × Int → Option R) (k : Nat) (a0_0 : Int) (a0_1 : Int) (a0_2 : Int) (a0_3 : Int) (a0_4 : Int) : laws_toLimits.b (fun r => (ret r).map e) k a0_0 a0_1 a0_2 a0_3 a0_4 = (laws_toLimits.b ret k a0_0 a0_1 a0_2 a0_3 a0_4).map e := by
  unfold laws_toLimits.b
  repeat' first | with_reducible refine nat_cond ?_ ?_ | with_reducible refine nat_bind fun _ => ?_ | rfl
theorem laws_toLimits.eq (k : Nat) (a0_0 : Int) (a0_1 : Int) (a0_2 : Int) (a0_3 : Int) (a0_4 : Int) : answer Try.prog laws_toLimits.Cs 100000 laws_toLimits.cuts [] Try.f16 (k + 1) [.v (.agg [(.int .i64 a0_0), (.int .i64 a0_1), (.int .i64 a0_2), (.int .i64 a0_3), (.int .i64 a0_4)])] = (laws_toLimits.f (k + 1) a0_0 a0_1 a0_2 a0_3 a0_4).map laws_toLimits.enc := by
  refine (laws_toLimits.s k a0_0 a0_1 a0_2 a0_3 a0_4).trans (Eq.trans ?_ (laws_toLimits.b_nat laws_toLimits.enc some k a0_0 a0_1 a0_2 a0_3 a0_4))
  simp only [Option.map_some]
theorem laws_toLimits.sound (k : Nat) : SoundF Try.prog 16 (fun a => (laws_toLimits.ans k a).val) := by
  refine sound_plain (fun args res h => ?_) (fun t n => rfl)
  unfold laws_toLimits.ans at h
  dsimp only at h
  split at h
  · cases k with
    | zero => cases h
    | succ k =>
      unfold Ans.val at h
      rw [← laws_toLimits.eq] at h
      exact answer_sound mixed Try.func16 _ _ _ (k + 1) (fun j _ => tab_sound (tab_nil)) _ _ h
  · exact (Ans.no_val h).elim

/-! loop.example/g00790/laws.toByteS -/
def laws_toByteS.b {R : Type} (ret : Bool × List Int → Option R) (j0 : Bool → (List Int) → (List Int) → Int → Option R) (k : Nat) (a0z : Bool) (a0 : List Int) : Option R :=
  cond (decide (((a0).length : Int) = ((a0).length : Int))) (cond (decide ((0 : Int) ≤ ((a0).length : Int))) (cond (decide ((a0).length < 140737488355328)) (j0 a0z a0 (List.replicate (a0).length (0 : Int)) 0) (none)) (none)) (none)
def laws_toByteS.l0b {R : Type} (ret : Bool × List Int → Option R) (j0 : Bool → (List Int) → (List Int) → Int → Option R) (k : Nat) (x0z : Bool) (x0 : List Int) (x3 : List Int) (x4 : Int) : Option R :=
  cond (decide (x4 < ((x0).length : Int))) (cond (decide ((0 : Int) ≤ x4)) (cond (decide (x4 < ((x0).length : Int))) (cond (decide ((0 : Int) ≤ x4)) (cond (decide (x4 < ((x3).length : Int))) (j0 x0z x0 ((x3).set (x4).toNat (rdI x0 x4)) (RowKit.wrap64 (x4 + 1))) (none)) (none)) (none)) (none)) (ret (false, x3))
def laws_toByteS.l0 : Nat → Bool → (List Int) → (List Int) → Int → Option (Bool × List Int)
  | 0, _, _, _, _ => none
  | k + 1, x0z, x0, x3, x4 => laws_toByteS.l0b some (laws_toByteS.l0 k) k x0z x0 x3 x4
def laws_toByteS.f : Nat → Bool → (List Int) → Option (Bool × List Int)
  | 0, _, _ => none
  | k + 1, a0z, a0 => laws_toByteS.b some (laws_toByteS.l0 k) k a0z a0
def laws_toByteS.enc (r : Bool × List Int) : Res := ⟨[.vals false [((.nums 5 .u8 r.1 r.2), true)]], []⟩
def laws_toByteS.ans (k : Nat) : List Arg → Ans
  | [.v (.nums 5 .u8 a0z a0)] => ⟨laws_toByteS.f k a0z a0, laws_toByteS.enc⟩
  | _ => Ans.no
def laws_toByteS.Cs (k : Nat) : CallSem := tab []
def laws_toByteS.cuts : List (Nat × Keep) := [(58, ⟨[(0, some []), (3, none), (4, some [])], []⟩)]
noncomputable def laws_toByteS.K0 : List Fr := framesAt [true, true, false, true, false] (bodyOf Try.f50 laws_toByteS.cuts) []
def laws_toByteS.N0 (x0z : Bool) (x0 : List Int) (x3 : List Int) (x4 : Int) : St := stOf 22 22 1 [(0, .val ⟨(.nums 5 .u8 x0z x0), [], false, none⟩), (3, .val ⟨(.nums 5 .u8 false x3), [.l 3 0], true, some (.l 3 0)⟩), (4, .val (V.s (.int .i64 x4)))] []
theorem laws_toByteS.s (k : Nat) (a0z : Bool) (a0 : List Int) : answer Try.prog laws_toByteS.Cs 100000 laws_toByteS.cuts [] Try.f50 (k + 1) [.v (.nums 5 .u8 a0z a0)] = laws_toByteS.b (fun r => some (laws_toByteS.enc r)) (fun x0z x0 x3 x4 => rounds Try.prog laws_toByteS.Cs (finish Try.prog [] Try.f50 [.v (.nums 5 .u8 a0z a0)]) 100000 k laws_toByteS.K0 (laws_toByteS.N0 x0z x0 x3 x4)) k a0z a0 := by kernel_rfl
theorem laws_toByteS.s0 (k : Nat) (G : List Fr → St → Option Res) (a0z : Bool) (a0 : List Int) (yx0z : Bool) (yx0 : List Int) (yx3 : List Int) (yx4 : Int) : resume Try.prog (laws_toByteS.Cs k) G (finish Try.prog [] Try.f50 [.v (.nums 5 .u8 a0z a0)]) 100000 laws_toByteS.K0 (laws_toByteS.N0 yx0z yx0 yx3 yx4) = laws_toByteS.l0b (fun r => some (laws_toByteS.enc r)) (fun x0z x0 x3 x4 => G laws_toByteS.K0 (laws_toByteS.N0 x0z x0 x3 x4)) k yx0z yx0 yx3 yx4 := by kernel_rfl
theorem laws_toByteS.b_nat {R R' : Type} (e : R → R') (ret : Bool × List Int → Option R) (j0 : Bool → (List Int) → (List Int) → Int → Option R) (k : Nat) (a0z : Bool) (a0 : List Int) : laws_toByteS.b (fun r => (ret r).map e) (fun x0z x0 x3 x4 => (j0 x0z x0 x3 x4).map e) k a0z a0 = (laws_toByteS.b ret j0 k a0z a0).map e := by
  unfold laws_toByteS.b
  repeat' first | with_reducible refine nat_cond ?_ ?_ | with_reducible refine nat_bind fun _ => ?_ | rfl
theorem laws_toByteS.l0b_nat {R R' : Type} (e : R → R') (ret : Bool × List Int → Option R) (j0 : Bool → (List Int) → (List Int) → Int → Option R) (k : Nat) (x0z : Bool) (x0 : List Int) (x3 : List Int) (x4 : Int) : laws_toByteS.l0b (fun r => (ret r).map e) (fun x0z x0 x3 x4 => (j0 x0z x0 x3 x4).map e) k x0z x0 x3 x4 = (laws_toByteS.l0b ret j0 k x0z x0 x3 x4).map e := by
  unfold laws_toByteS.l0b
  repeat' first | with_reducible refine nat_cond ?_ ?_ | with_reducible refine nat_bind fun _ => ?_ | rfl
theorem laws_toByteS.rounds_eq (a0z : Bool) (a0 : List Int) : ∀ k, (∀ (x0z : Bool) (x0 : List Int) (x3 : List Int) (x4 : Int), rounds Try.prog laws_toByteS.Cs (finish Try.prog [] Try.f50 [.v (.nums 5 .u8 a0z a0)]) 100000 k laws_toByteS.K0 (laws_toByteS.N0 x0z x0 x3 x4) = (laws_toByteS.l0 k x0z x0 x3 x4).map laws_toByteS.enc)
  | 0 => fun _ _ _ _ => rfl
  | k + 1 => by
    have ih := laws_toByteS.rounds_eq a0z a0 k
    refine fun _ _ _ _ => ?_
    · refine (laws_toByteS.s0 k _ a0z a0 _ _ _ _).trans (Eq.trans ?_ (laws_toByteS.l0b_nat laws_toByteS.enc some (laws_toByteS.l0 k) k _ _ _ _))
      simp only [ih, Option.map_some]
theorem laws_toByteS.eq (k : Nat) (a0z : Bool) (a0 : List Int) : answer Try.prog laws_toByteS.Cs 100000 laws_toByteS.cuts [] Try.f50 (k + 1) [.v (.nums 5 .u8 a0z a0)] = (laws_toByteS.f (k + 1) a0z a0).map laws_toByteS.enc := by
  have ih := laws_toByteS.rounds_eq a0z a0 k
  refine (laws_toByteS.s k a0z a0).trans (Eq.trans ?_ (laws_toByteS.b_nat laws_toByteS.enc some (laws_toByteS.l0 k) k a0z a0))
  simp only [ih, Option.map_some]
theorem laws_toByteS.sound (k : Nat) : SoundF Try.prog 50 (fun a => (laws_toByteS.ans k a).val) := by
  refine sound_plain (fun args res h => ?_) (fun t n => rfl)
  unfold laws_toByteS.ans at h
  dsimp only at h
  split at h
  · cases k with
    | zero => cases h
    | succ k =>
      unfold Ans.val at h
      rw [← laws_toByteS.eq] at h
      exact answer_sound mixed Try.func50 _ _ _ (k + 1) (fun j _ => tab_sound (tab_nil)) _ _ h
  · exact (Ans.no_val h).elim

/-! loop.example/g00790/laws.toRow -/
def laws_toRow.b {R : Type} (ret : Int × Bool × List Int → Option R) (k : Nat) (a0_0 : Int) (a0_1z : Bool) (a0_1 : List Int) : Option R :=
  (laws_toByteS.f k a0_1z a0_1).bind fun t0 => ret (a0_0, t0.1, t0.2)
def laws_toRow.f : Nat → Int → Bool → (List Int) → Option (Int × Bool × List Int)
  | 0, _, _, _ => none
  | k + 1, a0_0, a0_1z, a0_1 => laws_toRow.b some k a0_0 a0_1z a0_1
def laws_toRow.enc (r : Int × Bool × List Int) : Res := ⟨[.vals true [((.int .i64 r.1), true), ((.nums 5 .u8 r.2.1 r.2.2), true)]], []⟩
def laws_toRow.ans (k : Nat) : List Arg → Ans
  | [.v (.agg [(.int .i64 a0_0), (.nums 5 .u8 a0_1z a0_1)])] => ⟨laws_toRow.f k a0_0 a0_1z a0_1, laws_toRow.enc⟩
  | _ => Ans.no
def laws_toRow.Cs (k : Nat) : CallSem := tab [(50, laws_toByteS.ans k)]
def laws_toRow.cuts : List (Nat × Keep) := []
theorem laws_toRow.s (k : Nat) (a0_0 : Int) (a0_1z : Bool) (a0_1 : List Int) : answer Try.prog laws_toRow.Cs 100000 laws_toRow.cuts [] Try.f171 (k + 1) [.v (.agg [(.int .i64 a0_0), (.nums 5 .u8 a0_1z a0_1)])] = laws_toRow.b (fun r => some (laws_toRow.enc r)) k a0_0 a0_1z a0_1 := by kernel_rfl
theorem laws_toRow.b_nat {R R' : Type} (e : R → R') (ret : Int × Bool × List Int → Option R) (k : Nat) (a0_0 : Int) (a0_1z : Bool) (a0_1 : List Int) : laws_toRow.b (fun r => (ret r).map e) k a0_0 a0_1z a0_1 = (laws_toRow.b ret k a0_0 a0_1z a0_1).map e := by
  unfold laws_toRow.b
  repeat' first | with_reducible refine nat_cond ?_ ?_ | with_reducible refine nat_bind fun _ => ?_ | rfl
theorem laws_toRow.eq (k : Nat) (a0_0 : Int) (a0_1z : Bool) (a0_1 : List Int) : answer Try.prog laws_toRow.Cs 100000 laws_toRow.cuts [] Try.f171 (k + 1) [.v (.agg [(.int .i64 a0_0), (.nums 5 .u8 a0_1z a0_1)])] = (laws_toRow.f (k + 1) a0_0 a0_1z a0_1).map laws_toRow.enc := by
  refine (laws_toRow.s k a0_0 a0_1z a0_1).trans (Eq.trans ?_ (laws_toRow.b_nat laws_toRow.enc some k a0_0 a0_1z a0_1))
  simp only [Option.map_some]
theorem laws_toRow.sound (k : Nat) : SoundF Try.prog 171 (fun a => (laws_toRow.ans k a).val) := by
  refine sound_plain (fun args res h => ?_) (fun t n => rfl)
  unfold laws_toRow.ans at h
  dsimp only at h
  split at h
  · cases k with
    | zero => cases h
    | succ k =>
      unfold Ans.val at h
      rw [← laws_toRow.eq] at h
      exact answer_sound mixed Try.func171 _ _ _ (k + 1) (fun j _ => tab_sound (tab_cons (laws_toByteS.sound j) (tab_nil))) _ _ h
  · exact (Ans.no_val h).elim

/-! loop.example/g00790/laws.toRowS -/
def laws_toRowS.b {R : Type} (ret : Bool × List T → Option R) (j0 : Bool → (List T) → (List T) → Int → Option R) (k : Nat) (a0z : Bool) (a0 : List T) : Option R :=
  cond (decide (((a0).length : Int) = ((a0).length : Int))) (cond (decide ((0 : Int) ≤ ((a0).length : Int))) (cond (decide ((a0).length < 4398046511104)) (j0 a0z a0 (List.replicate (a0).length (.agg [(.int .i64 0), (.nums 5 .u8 true ([] : List Int))])) 0) (none)) (none)) (none)
def laws_toRowS.l0b {R : Type} (ret : Bool × List T → Option R) (j0 : Bool → (List T) → (List T) → Int → Option R) (k : Nat) (x0z : Bool) (x0 : List T) (x3 : List T) (x4 : Int) : Option R :=
  cond (decide (x4 < ((x0).length : Int))) (cond (decide ((0 : Int) ≤ x4)) (cond (decide (x4 < ((x0).length : Int))) ((laws_toRow.f k (((((x0).getD (x4).toNat .bad).cells.getD 0 .bad)).toInt) (((((x0).getD (x4).toNat .bad).cells.getD 1 .bad)).isNil) (((((x0).getD (x4).toNat .bad).cells.getD 1 .bad)).toNums)).bind fun t0 => cond (decide ((0 : Int) ≤ x4)) (cond (decide (x4 < ((x3).length : Int))) (j0 x0z x0 ((x3).set (x4).toNat (.agg [(.int .i64 t0.1), (.nums 5 .u8 t0.2.1 t0.2.2)])) (RowKit.wrap64 (x4 + 1))) (none)) (none)) (none)) (none)) (ret (false, x3))
def laws_toRowS.l0 : Nat → Bool → (List T) → (List T) → Int → Option (Bool × List T)
  | 0, _, _, _, _ => none
  | k + 1, x0z, x0, x3, x4 => laws_toRowS.l0b some (laws_toRowS.l0 k) k x0z x0 x3 x4
def laws_toRowS.f : Nat → Bool → (List T) → Option (Bool × List T)
  | 0, _, _ => none
  | k + 1, a0z, a0 => laws_toRowS.b some (laws_toRowS.l0 k) k a0z a0
def laws_toRowS.enc (r : Bool × List T) : Res := ⟨[.vals false [((.sl 160 r.1 r.2), true)]], []⟩
def laws_toRowS.ans (k : Nat) : List Arg → Ans
  | [.v (.sl 187 a0z a0)] => ⟨laws_toRowS.f k a0z a0, laws_toRowS.enc⟩
  | _ => Ans.no
def laws_toRowS.Cs (k : Nat) : CallSem := tab [(171, laws_toRow.ans k)]
def laws_toRowS.cuts : List (Nat × Keep) := [(58, ⟨[(0, some []), (3, none), (4, some [])], []⟩)]
noncomputable def laws_toRowS.K0 : List Fr := framesAt [true, true, false, true, false] (bodyOf Try.f103 laws_toRowS.cuts) []
def laws_toRowS.N0 (x0z : Bool) (x0 : List T) (x3 : List T) (x4 : Int) : St := stOf 23 23 1 [(0, .val ⟨(.sl 187 x0z x0), [], false, none⟩), (3, .val ⟨(.sl 160 false x3), [.l 3 0], true, some (.l 3 0)⟩), (4, .val (V.s (.int .i64 x4)))] []
theorem laws_toRowS.s (k : Nat) (a0z : Bool) (a0 : List T) : answer Try.prog laws_toRowS.Cs 100000 laws_toRowS.cuts [] Try.f103 (k + 1) [.v (.sl 187 a0z a0)] = laws_toRowS.b (fun r => some (laws_toRowS.enc r)) (fun x0z x0 x3 x4 => rounds Try.prog laws_toRowS.Cs (finish Try.prog [] Try.f103 [.v (.sl 187 a0z a0)]) 100000 k laws_toRowS.K0 (laws_toRowS.N0 x0z x0 x3 x4)) k a0z a0 := by kernel_rfl
theorem laws_toRowS.s0 (k : Nat) (G : List Fr → St → Option Res) (a0z : Bool) (a0 : List T) (yx0z : Bool) (yx0 : List T) (yx3 : List T) (yx4 : Int) : resume Try.prog (laws_toRowS.Cs k) G (finish Try.prog [] Try.f103 [.v (.sl 187 a0z a0)]) 100000 laws_toRowS.K0 (laws_toRowS.N0 yx0z yx0 yx3 yx4) = laws_toRowS.l0b (fun r => some (laws_toRowS.enc r)) (fun x0z x0 x3 x4 => G laws_toRowS.K0 (laws_toRowS.N0 x0z x0 x3 x4)) k yx0z yx0 yx3 yx4 := by kernel_rfl
theorem laws_toRowS.b_nat {R R' : Type} (e : R → R') (ret : Bool × List T → Option R) (j0 : Bool → (List T) → (List T) → Int → Option R) (k : Nat) (a0z : Bool) (a0 : List T) : laws_toRowS.b (fun r => (ret r).map e) (fun x0z x0 x3 x4 => (j0 x0z x0 x3 x4).map e) k a0z a0 = (laws_toRowS.b ret j0 k a0z a0).map e := by
  unfold laws_toRowS.b
  repeat' first | with_reducible refine nat_cond ?_ ?_ | with_reducible refine nat_bind fun _ => ?_ | rfl
theorem laws_toRowS.l0b_nat {R R' : Type} (e : R → R') (ret : Bool × List T → Option R) (j0 : Bool → (List T) → (List T) → Int → Option R) (k : Nat) (x0z : Bool) (x0 : List T) (x3 : List T) (x4 : Int) : laws_toRowS.l0b (fun r => (ret r).map e) (fun x0z x0 x3 x4 => (j0 x0z x0 x3 x4).map e) k x0z x0 x3 x4 = (laws_toRowS.l0b ret j0 k x0z x0 x3 x4).map e := by
  unfold laws_toRowS.l0b
  repeat' first | with_reducible refine nat_cond ?_ ?_ | with_reducible refine nat_bind fun _ => ?_ | rfl
theorem laws_toRowS.rounds_eq (a0z : Bool) (a0 : List T) : ∀ k, (∀ (x0z : Bool) (x0 : List T) (x3 : List T) (x4 : Int), rounds Try.prog laws_toRowS.Cs (finish Try.prog [] Try.f103 [.v (.sl 187 a0z a0)]) 100000 k laws_toRowS.K0 (laws_toRowS.N0 x0z x0 x3 x4) = (laws_toRowS.l0 k x0z x0 x3 x4).map laws_toRowS.enc)
  | 0 => fun _ _ _ _ => rfl
  | k + 1 => by
    have ih := laws_toRowS.rounds_eq a0z a0 k
    refine fun _ _ _ _ => ?_
    · refine (laws_toRowS.s0 k _ a0z a0 _ _ _ _).trans (Eq.trans ?_ (laws_toRowS.l0b_nat laws_toRowS.enc some (laws_toRowS.l0 k) k _ _ _ _))
      simp only [ih, Option.map_some]
theorem laws_toRowS.eq (k : Nat) (a0z : Bool) (a0 : List T) : answer Try.prog laws_toRowS.Cs 100000 laws_toRowS.cuts [] Try.f103 (k + 1) [.v (.sl 187 a0z a0)] = (laws_toRowS.f (k + 1) a0z a0).map laws_toRowS.enc := by
  have ih := laws_toRowS.rounds_eq a0z a0 k
  refine (laws_toRowS.s k a0z a0).trans (Eq.trans ?_ (laws_toRowS.b_nat laws_toRowS.enc some (laws_toRowS.l0 k) k a0z a0))
  simp only [ih, Option.map_some]
theorem laws_toRowS.sound (k : Nat) : SoundF Try.prog 103 (fun a => (laws_toRowS.ans k a).val) := by
  refine sound_plain (fun args res h => ?_) (fun t n => rfl)
  unfold laws_toRowS.ans at h
  dsimp only at h
  split at h
  · cases k with
    | zero => cases h
    | succ k =>
      unfold Ans.val at h
      rw [← laws_toRowS.eq] at h
      exact answer_sound mixed Try.func103 _ _ _ (k + 1) (fun j _ => tab_sound (tab_cons (laws_toRow.sound j) (tab_nil))) _ _ h
  · exact (Ans.no_val h).elim

/-! loop.example/g00790/laws.toTable -/
def laws_toTable.b {R : Type} (ret : Bool × List T → Option R) (k : Nat) (a0_0z : Bool) (a0_0 : List T) : Option R :=
  (laws_toRowS.f k a0_0z a0_0).bind fun t0 => ret (t0.1, t0.2)
def laws_toTable.f : Nat → Bool → (List T) → Option (Bool × List T)
  | 0, _, _ => none
  | k + 1, a0_0z, a0_0 => laws_toTable.b some k a0_0z a0_0
def laws_toTable.enc (r : Bool × List T) : Res := ⟨[.vals true [((.sl 160 r.1 r.2), true)]], []⟩
def laws_toTable.ans (k : Nat) : List Arg → Ans
  | [.v (.agg [(.sl 187 a0_0z a0_0)])] => ⟨laws_toTable.f k a0_0z a0_0, laws_toTable.enc⟩
  | _ => Ans.no
def laws_toTable.Cs (k : Nat) : CallSem := tab [(103, laws_toRowS.ans k)]
def laws_toTable.cuts : List (Nat × Keep) := []
theorem laws_toTable.s (k : Nat) (a0_0z : Bool) (a0_0 : List T) : answer Try.prog laws_toTable.Cs 100000 laws_toTable.cuts [] Try.f33 (k + 1) [.v (.agg [(.sl 187 a0_0z a0_0)])] = laws_toTable.b (fun r => some (laws_toTable.enc r)) k a0_0z a0_0 := by kernel_rfl
theorem laws_toTable.b_nat {R R' : Type} (e : R → R') (ret : Bool × List T → Option R) (k : Nat) (a0_0z : Bool) (a0_0 : List T) : laws_toTable.b (fun r => (ret r).map e) k a0_0z a0_0 = (laws_toTable.b ret k a0_0z a0_0).map e := by
  unfold laws_toTable.b
  repeat' first | with_reducible refine nat_cond ?_ ?_ | with_reducible refine nat_bind fun _ => ?_ | rfl
theorem laws_toTable.eq (k : Nat) (a0_0z : Bool) (a0_0 : List T) : answer Try.prog laws_toTable.Cs 100000 laws_toTable.cuts [] Try.f33 (k + 1) [.v (.agg [(.sl 187 a0_0z a0_0)])] = (laws_toTable.f (k + 1) a0_0z a0_0).map laws_toTable.enc := by
  refine (laws_toTable.s k a0_0z a0_0).trans (Eq.trans ?_ (laws_toTable.b_nat laws_toTable.enc some k a0_0z a0_0))
  simp only [Option.map_some]
theorem laws_toTable.sound (k : Nat) : SoundF Try.prog 33 (fun a => (laws_toTable.ans k a).val) := by
  refine sound_plain (fun args res h => ?_) (fun t n => rfl)
  unfold laws_toTable.ans at h
  dsimp only at h
  split at h
  · cases k with
    | zero => cases h
    | succ k =>
      unfold Ans.val at h
      rw [← laws_toTable.eq] at h
      exact answer_sound mixed Try.func33 _ _ _ (k + 1) (fun j _ => tab_sound (tab_cons (laws_toRowS.sound j) (tab_nil))) _ _ h
  · exact (Ans.no_val h).elim

/-! loop.example/g00790/laws.toEntry -/
def laws_toEntry.b {R : Type} (ret : Int × Int × Bool × List Int → Option R) (k : Nat) (a0_0 : Int) (a0_1 : Int) (a0_2z : Bool) (a0_2 : List Int) : Option R :=
  (laws_toByteS.f k a0_2z a0_2).bind fun t0 => ret (a0_0, a0_1, t0.1, t0.2)
def laws_toEntry.f : Nat → Int → Int → Bool → (List Int) → Option (Int × Int × Bool × List Int)
  | 0, _, _, _, _ => none
  | k + 1, a0_0, a0_1, a0_2z, a0_2 => laws_toEntry.b some k a0_0 a0_1 a0_2z a0_2
def laws_toEntry.enc (r : Int × Int × Bool × List Int) : Res := ⟨[.vals true [((.int .i64 r.1), true), ((.int .i64 r.2.1), true), ((.nums 5 .u8 r.2.2.1 r.2.2.2), true)]], []⟩
def laws_toEntry.ans (k : Nat) : List Arg → Ans
  | [.v (.agg [(.int .i64 a0_0), (.int .i64 a0_1), (.nums 5 .u8 a0_2z a0_2)])] => ⟨laws_toEntry.f k a0_0 a0_1 a0_2z a0_2, laws_toEntry.enc⟩
  | _ => Ans.no
def laws_toEntry.Cs (k : Nat) : CallSem := tab [(50, laws_toByteS.ans k)]
def laws_toEntry.cuts : List (Nat × Keep) := []
theorem laws_toEntry.s (k : Nat) (a0_0 : Int) (a0_1 : Int) (a0_2z : Bool) (a0_2 : List Int) : answer Try.prog laws_toEntry.Cs 100000 laws_toEntry.cuts [] Try.f179 (k + 1) [.v (.agg [(.int .i64 a0_0), (.int .i64 a0_1), (.nums 5 .u8 a0_2z a0_2)])] = laws_toEntry.b (fun r => some (laws_toEntry.enc r)) k a0_0 a0_1 a0_2z a0_2 := by kernel_rfl
theorem laws_toEntry.b_nat {R R' : Type} (e : R → R') (ret : Int × Int × Bool × List Int → Option R) (k : Nat) (a0_0 : Int) (a0_1 : Int) (a0_2z : Bool) (a0_2 : List Int) : laws_toEntry.b (fun r => (ret r).map e) k a0_0 a0_1 a0_2z a0_2 = (laws_toEntry.b ret k a0_0 a0_1 a0_2z a0_2).map e := by
  unfold laws_toEntry.b
  repeat' first | with_reducible refine nat_cond ?_ ?_ | with_reducible refine nat_bind fun _ => ?_ | rfl
theorem laws_toEntry.eq (k : Nat) (a0_0 : Int) (a0_1 : Int) (a0_2z : Bool) (a0_2 : List Int) : answer Try.prog laws_toEntry.Cs 100000 laws_toEntry.cuts [] Try.f179 (k + 1) [.v (.agg [(.int .i64 a0_0), (.int .i64 a0_1), (.nums 5 .u8 a0_2z a0_2)])] = (laws_toEntry.f (k + 1) a0_0 a0_1 a0_2z a0_2).map laws_toEntry.enc := by
  refine (laws_toEntry.s k a0_0 a0_1 a0_2z a0_2).trans (Eq.trans ?_ (laws_toEntry.b_nat laws_toEntry.enc some k a0_0 a0_1 a0_2z a0_2))
  simp only [Option.map_some]
theorem laws_toEntry.sound (k : Nat) : SoundF Try.prog 179 (fun a => (laws_toEntry.ans k a).val) := by
  refine sound_plain (fun args res h => ?_) (fun t n => rfl)
  unfold laws_toEntry.ans at h
  dsimp only at h
  split at h
  · cases k with
    | zero => cases h
    | succ k =>
      unfold Ans.val at h
      rw [← laws_toEntry.eq] at h
      exact answer_sound mixed Try.func179 _ _ _ (k + 1) (fun j _ => tab_sound (tab_cons (laws_toByteS.sound j) (tab_nil))) _ _ h
  · exact (Ans.no_val h).elim

/-! loop.example/g00790/laws.toEntryS -/
def laws_toEntryS.b {R : Type} (ret : Bool × List T → Option R) (j0 : Bool → (List T) → (List T) → Int → Option R) (k : Nat) (a0z : Bool) (a0 : List T) : Option R :=
  cond (decide (((a0).length : Int) = ((a0).length : Int))) (cond (decide ((0 : Int) ≤ ((a0).length : Int))) (cond (decide ((a0).length < 3518437208883)) (j0 a0z a0 (List.replicate (a0).length (.agg [(.int .i64 0), (.int .i64 0), (.nums 5 .u8 true ([] : List Int))])) 0) (none)) (none)) (none)
def laws_toEntryS.l0b {R : Type} (ret : Bool × List T → Option R) (j0 : Bool → (List T) → (List T) → Int → Option R) (k : Nat) (x0z : Bool) (x0 : List T) (x3 : List T) (x4 : Int) : Option R :=
  cond (decide (x4 < ((x0).length : Int))) (cond (decide ((0 : Int) ≤ x4)) (cond (decide (x4 < ((x0).length : Int))) ((laws_toEntry.f k (((((x0).getD (x4).toNat .bad).cells.getD 0 .bad)).toInt) (((((x0).getD (x4).toNat .bad).cells.getD 1 .bad)).toInt) (((((x0).getD (x4).toNat .bad).cells.getD 2 .bad)).isNil) (((((x0).getD (x4).toNat .bad).cells.getD 2 .bad)).toNums)).bind fun t0 => cond (decide ((0 : Int) ≤ x4)) (cond (decide (x4 < ((x3).length : Int))) (j0 x0z x0 ((x3).set (x4).toNat (.agg [(.int .i64 t0.1), (.int .i64 t0.2.1), (.nums 5 .u8 t0.2.2.1 t0.2.2.2)])) (RowKit.wrap64 (x4 + 1))) (none)) (none)) (none)) (none)) (ret (false, x3))
def laws_toEntryS.l0 : Nat → Bool → (List T) → (List T) → Int → Option (Bool × List T)
  | 0, _, _, _, _ => none
  | k + 1, x0z, x0, x3, x4 => laws_toEntryS.l0b some (laws_toEntryS.l0 k) k x0z x0 x3 x4
def laws_toEntryS.f : Nat → Bool → (List T) → Option (Bool × List T)
  | 0, _, _ => none
  | k + 1, a0z, a0 => laws_toEntryS.b some (laws_toEntryS.l0 k) k a0z a0
def laws_toEntryS.enc (r : Bool × List T) : Res := ⟨[.vals false [((.sl 85 r.1 r.2), true)]], []⟩
def laws_toEntryS.ans (k : Nat) : List Arg → Ans
  | [.v (.sl 195 a0z a0)] => ⟨laws_toEntryS.f k a0z a0, laws_toEntryS.enc⟩
  | _ => Ans.no
def laws_toEntryS.Cs (k : Nat) : CallSem := tab [(179, laws_toEntry.ans k)]
def laws_toEntryS.cuts : List (Nat × Keep) := [(58, ⟨[(0, some []), (3, none), (4, some [])], []⟩)]
noncomputable def laws_toEntryS.K0 : List Fr := framesAt [true, true, false, true, false] (bodyOf Try.f115 laws_toEntryS.cuts) []
def laws_toEntryS.N0 (x0z : Bool) (x0 : List T) (x3 : List T) (x4 : Int) : St := stOf 23 23 1 [(0, .val ⟨(.sl 195 x0z x0), [], false, none⟩), (3, .val ⟨(.sl 85 false x3), [.l 3 0], true, some (.l 3 0)⟩), (4, .val (V.s (.int .i64 x4)))] []
theorem laws_toEntryS.s (k : Nat) (a0z : Bool) (a0 : List T) : answer Try.prog laws_toEntryS.Cs 100000 laws_toEntryS.cuts [] Try.f115 (k + 1) [.v (.sl 195 a0z a0)] = laws_toEntryS.b (fun r => some (laws_toEntryS.enc r)) (fun x0z x0 x3 x4 => rounds Try.prog laws_toEntryS.Cs (finish Try.prog [] Try.f115 [.v (.sl 195 a0z a0)]) 100000 k laws_toEntryS.K0 (laws_toEntryS.N0 x0z x0 x3 x4)) k a0z a0 := by kernel_rfl
theorem laws_toEntryS.s0 (k : Nat) (G : List Fr → St → Option Res) (a0z : Bool) (a0 : List T) (yx0z : Bool) (yx0 : List T) (yx3 : List T) (yx4 : Int) : resume Try.prog (laws_toEntryS.Cs k) G (finish Try.prog [] Try.f115 [.v (.sl 195 a0z a0)]) 100000 laws_toEntryS.K0 (laws_toEntryS.N0 yx0z yx0 yx3 yx4) = laws_toEntryS.l0b (fun r => some (laws_toEntryS.enc r)) (fun x0z x0 x3 x4 => G laws_toEntryS.K0 (laws_toEntryS.N0 x0z x0 x3 x4)) k yx0z yx0 yx3 yx4 := by kernel_rfl
theorem laws_toEntryS.b_nat {R R' : Type} (e : R → R') (ret : Bool × List T → Option R) (j0 : Bool → (List T) → (List T) → Int → Option R) (k : Nat) (a0z : Bool) (a0 : List T) : laws_toEntryS.b (fun r => (ret r).map e) (fun x0z x0 x3 x4 => (j0 x0z x0 x3 x4).map e) k a0z a0 = (laws_toEntryS.b ret j0 k a0z a0).map e := by
  unfold laws_toEntryS.b
  repeat' first | with_reducible refine nat_cond ?_ ?_ | with_reducible refine nat_bind fun _ => ?_ | rfl
theorem laws_toEntryS.l0b_nat {R R' : Type} (e : R → R') (ret : Bool × List T → Option R) (j0 : Bool → (List T) → (List T) → Int → Option R) (k : Nat) (x0z : Bool) (x0 : List T) (x3 : List T) (x4 : Int) : laws_toEntryS.l0b (fun r => (ret r).map e) (fun x0z x0 x3 x4 => (j0 x0z x0 x3 x4).map e) k x0z x0 x3 x4 = (laws_toEntryS.l0b ret j0 k x0z x0 x3 x4).map e := by
  unfold laws_toEntryS.l0b
  repeat' first | with_reducible refine nat_cond ?_ ?_ | with_reducible refine nat_bind fun _ => ?_ | rfl
theorem laws_toEntryS.rounds_eq (a0z : Bool) (a0 : List T) : ∀ k, (∀ (x0z : Bool) (x0 : List T) (x3 : List T) (x4 : Int), rounds Try.prog laws_toEntryS.Cs (finish Try.prog [] Try.f115 [.v (.sl 195 a0z a0)]) 100000 k laws_toEntryS.K0 (laws_toEntryS.N0 x0z x0 x3 x4) = (laws_toEntryS.l0 k x0z x0 x3 x4).map laws_toEntryS.enc)
  | 0 => fun _ _ _ _ => rfl
  | k + 1 => by
    have ih := laws_toEntryS.rounds_eq a0z a0 k
    refine fun _ _ _ _ => ?_
    · refine (laws_toEntryS.s0 k _ a0z a0 _ _ _ _).trans (Eq.trans ?_ (laws_toEntryS.l0b_nat laws_toEntryS.enc some (laws_toEntryS.l0 k) k _ _ _ _))
      simp only [ih, Option.map_some]
theorem laws_toEntryS.eq (k : Nat) (a0z : Bool) (a0 : List T) : answer Try.prog laws_toEntryS.Cs 100000 laws_toEntryS.cuts [] Try.f115 (k + 1) [.v (.sl 195 a0z a0)] = (laws_toEntryS.f (k + 1) a0z a0).map laws_toEntryS.enc := by
  have ih := laws_toEntryS.rounds_eq a0z a0 k
  refine (laws_toEntryS.s k a0z a0).trans (Eq.trans ?_ (laws_toEntryS.b_nat laws_toEntryS.enc some (laws_toEntryS.l0 k) k a0z a0))
  simp only [ih, Option.map_some]
theorem laws_toEntryS.sound (k : Nat) : SoundF Try.prog 115 (fun a => (laws_toEntryS.ans k a).val) := by
  refine sound_plain (fun args res h => ?_) (fun t n => rfl)
  unfold laws_toEntryS.ans at h
  dsimp only at h
  split at h
  · cases k with
    | zero => cases h
    | succ k =>
      unfold Ans.val at h
      rw [← laws_toEntryS.eq] at h
      exact answer_sound mixed Try.func115 _ _ _ (k + 1) (fun j _ => tab_sound (tab_cons (laws_toEntry.sound j) (tab_nil))) _ _ h
  · exact (Ans.no_val h).elim

/-! loop.example/g00790/laws.toTc -/
def laws_toTc.b {R : Type} (ret : Int × Bool × List T → Option R) (k : Nat) (a0_0 : Int) (a0_1z : Bool) (a0_1 : List T) : Option R :=
  (laws_toEntryS.f k a0_1z a0_1).bind fun t0 => ret (a0_0, t0.1, t0.2)
def laws_toTc.f : Nat → Int → Bool → (List T) → Option (Int × Bool × List T)
  | 0, _, _, _ => none
  | k + 1, a0_0, a0_1z, a0_1 => laws_toTc.b some k a0_0 a0_1z a0_1
def laws_toTc.enc (r : Int × Bool × List T) : Res := ⟨[.vals true [((.int .i64 r.1), true), ((.sl 85 r.2.1 r.2.2), true)]], []⟩
def laws_toTc.ans (k : Nat) : List Arg → Ans
  | [.v (.agg [(.int .i64 a0_0), (.sl 195 a0_1z a0_1)])] => ⟨laws_toTc.f k a0_0 a0_1z a0_1, laws_toTc.enc⟩
  | _ => Ans.no
def laws_toTc.Cs (k : Nat) : CallSem := tab [(115, laws_toEntryS.ans k)]
def laws_toTc.cuts : List (Nat × Keep) := []
theorem laws_toTc.s (k : Nat) (a0_0 : Int) (a0_1z : Bool) (a0_1 : List T) : answer Try.prog laws_toTc.Cs 100000 laws_toTc.cuts [] Try.f40 (k + 1) [.v (.agg [(.int .i64 a0_0), (.sl 195 a0_1z a0_1)])] = laws_toTc.b (fun r => some (laws_toTc.enc r)) k a0_0 a0_1z a0_1 := by kernel_rfl
theorem laws_toTc.b_nat {R R' : Type} (e : R → R') (ret : Int × Bool × List T → Option R) (k : Nat) (a0_0 : Int) (a0_1z : Bool) (a0_1 : List T) : laws_toTc.b (fun r => (ret r).map e) k a0_0 a0_1z a0_1 = (laws_toTc.b ret k a0_0 a0_1z a0_1).map e := by
  unfold laws_toTc.b
  repeat' first | with_reducible refine nat_cond ?_ ?_ | with_reducible refine nat_bind fun _ => ?_ | rfl
theorem laws_toTc.eq (k : Nat) (a0_0 : Int) (a0_1z : Bool) (a0_1 : List T) : answer Try.prog laws_toTc.Cs 100000 laws_toTc.cuts [] Try.f40 (k + 1) [.v (.agg [(.int .i64 a0_0), (.sl 195 a0_1z a0_1)])] = (laws_toTc.f (k + 1) a0_0 a0_1z a0_1).map laws_toTc.enc := by
  refine (laws_toTc.s k a0_0 a0_1z a0_1).trans (Eq.trans ?_ (laws_toTc.b_nat laws_toTc.enc some k a0_0 a0_1z a0_1))
  simp only [Option.map_some]
theorem laws_toTc.sound (k : Nat) : SoundF Try.prog 40 (fun a => (laws_toTc.ans k a).val) := by
  refine sound_plain (fun args res h => ?_) (fun t n => rfl)
  unfold laws_toTc.ans at h
  dsimp only at h
  split at h
  · cases k with
    | zero => cases h
    | succ k =>
      unfold Ans.val at h
      rw [← laws_toTc.eq] at h
      exact answer_sound mixed Try.func40 _ _ _ (k + 1) (fun j _ => tab_sound (tab_cons (laws_toEntryS.sound j) (tab_nil))) _ _ h
  · exact (Ans.no_val h).elim

/-! loop.example/g00790/spec.l01In -/
def spec_l01In.b {R : Type} (ret : Bool → Option R) (k : Nat) (a0 : Int) (a1 : Int) (a2 : Int) : Option R :=
  cond (decide (a0 ≥ a1)) (ret (decide (a0 ≤ a2))) (ret false)
def spec_l01In.f : Nat → Int → Int → Int → Option Bool
  | 0, _, _, _ => none
  | k + 1, a0, a1, a2 => spec_l01In.b some k a0 a1 a2
def spec_l01In.enc (r : Bool) : Res := ⟨[.vals false [((.bool r), true)]], []⟩
def spec_l01In.ans (k : Nat) : List Arg → Ans
  | [.v (.int .i64 a0), .v (.int .i64 a1), .v (.int .i64 a2)] => ⟨spec_l01In.f k a0 a1 a2, spec_l01In.enc⟩
  | _ => Ans.no
def spec_l01In.Cs (k : Nat) : CallSem := tab []
def spec_l01In.cuts : List (Nat × Keep) := []
theorem spec_l01In.s (k : Nat) (a0 : Int) (a1 : Int) (a2 : Int) : answer Try.prog spec_l01In.Cs 100000 spec_l01In.cuts [] Try.f122 (k + 1) [.v (.int .i64 a0), .v (.int .i64 a1), .v (.int .i64 a2)] = spec_l01In.b (fun r => some (spec_l01In.enc r)) k a0 a1 a2 := by kernel_rfl
theorem spec_l01In.b_nat {R R' : Type} (e : R → R') (ret : Bool → Option R) (k : Nat) (a0 : Int) (a1 : Int) (a2 : Int) : spec_l01In.b (fun r => (ret r).map e) k a0 a1 a2 = (spec_l01In.b ret k a0 a1 a2).map e := by
  unfold spec_l01In.b
  repeat' first | with_reducible refine nat_cond ?_ ?_ | with_reducible refine nat_bind fun _ => ?_ | rfl
theorem spec_l01In.eq (k : Nat) (a0 : Int) (a1 : Int) (a2 : Int) : answer Try.prog spec_l01In.Cs 100000 spec_l01In.cuts [] Try.f122 (k + 1) [.v (.int .i64 a0), .v (.int .i64 a1), .v (.int .i64 a2)] = (spec_l01In.f (k + 1) a0 a1 a2).map spec_l01In.enc := by
  refine (spec_l01In.s k a0 a1 a2).trans (Eq.trans ?_ (spec_l01In.b_nat spec_l01In.enc some k a0 a1 a2))
  simp only [Option.map_some]
theorem spec_l01In.sound (k : Nat) : SoundF Try.prog 122 (fun a => (spec_l01In.ans k a).val) := by
  refine sound_plain (fun args res h => ?_) (fun t n => rfl)
  unfold spec_l01In.ans at h
  dsimp only at h
  split at h
  · cases k with
    | zero => cases h
    | succ k =>
      unfold Ans.val at h
      rw [← spec_l01In.eq] at h
      exact answer_sound mixed Try.func122 _ _ _ (k + 1) (fun j _ => tab_sound (tab_nil)) _ _ h
  · exact (Ans.no_val h).elim

/-! loop.example/g00790/spec.l02Signers -/
def spec_l02Signers.b {R : Type} (ret : Bool → Option R) (k : Nat) (a0 : Int) : Option R :=
  (spec_l01In.f k a0 1 10).bind fun t0 => ret t0
def spec_l02Signers.f : Nat → Int → Option Bool
  | 0, _ => none
  | k + 1, a0 => spec_l02Signers.b some k a0
def spec_l02Signers.enc (r : Bool) : Res := ⟨[.vals false [((.bool r), true)]], []⟩
def spec_l02Signers.ans (k : Nat) : List Arg → Ans
  | [.v (.int .i64 a0)] => ⟨spec_l02Signers.f k a0, spec_l02Signers.enc⟩
  | _ => Ans.no
def spec_l02Signers.Cs (k : Nat) : CallSem := tab [(122, spec_l01In.ans k)]
def spec_l02Signers.cuts : List (Nat × Keep) := []
theorem spec_l02Signers.s (k : Nat) (a0 : Int) : answer Try.prog spec_l02Signers.Cs 100000 spec_l02Signers.cuts [] Try.f155 (k + 1) [.v (.int .i64 a0)] = spec_l02Signers.b (fun r => some (spec_l02Signers.enc r)) k a0 := by kernel_rfl
theorem spec_l02Signers.b_nat {R R' : Type} (e : R → R') (ret : Bool → Option R) (k : Nat) (a0 : Int) : spec_l02Signers.b (fun r => (ret r).map e) k a0 = (spec_l02Signers.b ret k a0).map e := by
  unfold spec_l02Signers.b
  repeat' first | with_reducible refine nat_cond ?_ ?_ | with_reducible refine nat_bind fun _ => ?_ | rfl
theorem spec_l02Signers.eq (k : Nat) (a0 : Int) : answer Try.prog spec_l02Signers.Cs 100000 spec_l02Signers.cuts [] Try.f155 (k + 1) [.v (.int .i64 a0)] = (spec_l02Signers.f (k + 1) a0).map spec_l02Signers.enc := by
  refine (spec_l02Signers.s k a0).trans (Eq.trans ?_ (spec_l02Signers.b_nat spec_l02Signers.enc some k a0))
  simp only [Option.map_some]
theorem spec_l02Signers.sound (k : Nat) : SoundF Try.prog 155 (fun a => (spec_l02Signers.ans k a).val) := by
  refine sound_plain (fun args res h => ?_) (fun t n => rfl)
  unfold spec_l02Signers.ans at h
  dsimp only at h
  split at h
  · cases k with
    | zero => cases h
    | succ k =>
      unfold Ans.val at h
      rw [← spec_l02Signers.eq] at h
      exact answer_sound mixed Try.func155 _ _ _ (k + 1) (fun j _ => tab_sound (tab_cons (spec_l01In.sound j) (tab_nil))) _ _ h
  · exact (Ans.no_val h).elim

/-! loop.example/g00790/spec.LimitsOk -/
def spec_LimitsOk.b {R : Type} (ret : Bool → Option R) (k : Nat) (a0_0 : Int) (a0_1 : Int) (a0_2 : Int) (a0_3 : Int) (a0_4 : Int) : Option R :=
  (spec_l02Signers.f k a0_0).bind fun t0 => cond t0 ((spec_l01In.f k a0_1 0 40).bind fun t1 => cond t1 ((spec_l01In.f k a0_2 0 8).bind fun t2 => cond t2 ((spec_l01In.f k a0_3 1 4000).bind fun t3 => cond t3 ((spec_l01In.f k a0_4 3 5).bind fun t4 => ret t4) (ret false)) (ret false)) (ret false)) (ret false)
def spec_LimitsOk.f : Nat → Int → Int → Int → Int → Int → Option Bool
  | 0, _, _, _, _, _ => none
  | k + 1, a0_0, a0_1, a0_2, a0_3, a0_4 => spec_LimitsOk.b some k a0_0 a0_1 a0_2 a0_3 a0_4
def spec_LimitsOk.enc (r : Bool) : Res := ⟨[.vals false [((.bool r), true)]], []⟩
def spec_LimitsOk.ans (k : Nat) : List Arg → Ans
  | [.v (.agg [(.int .i64 a0_0), (.int .i64 a0_1), (.int .i64 a0_2), (.int .i64 a0_3), (.int .i64 a0_4)])] => ⟨spec_LimitsOk.f k a0_0 a0_1 a0_2 a0_3 a0_4, spec_LimitsOk.enc⟩
  | _ => Ans.no
def spec_LimitsOk.Cs (k : Nat) : CallSem := tab [(155, spec_l02Signers.ans k), (122, spec_l01In.ans k)]
def spec_LimitsOk.cuts : List (Nat × Keep) := []
theorem spec_LimitsOk.s (k : Nat) (a0_0 : Int) (a0_1 : Int) (a0_2 : Int) (a0_3 : Int) (a0_4 : Int) : answer Try.prog spec_LimitsOk.Cs 100000 spec_LimitsOk.cuts [] Try.f81 (k + 1) [.v (.agg [(.int .i64 a0_0), (.int .i64 a0_1), (.int .i64 a0_2), (.int .i64 a0_3), (.int .i64 a0_4)])] = spec_LimitsOk.b (fun r => some (spec_LimitsOk.enc r)) k a0_0 a0_1 a0_2 a0_3 a0_4 := by kernel_rfl
theorem spec_LimitsOk.b_nat {R R' : Type} (e : R → R') (ret : Bool → Option R) (k : Nat) (a0_0 : Int) (a0_1 : Int) (a0_2 : Int) (a0_3 : Int) (a0_4 : Int) : spec_LimitsOk.b (fun r => (ret r).map e) k a0_0 a0_1 a0_2 a0_3 a0_4 = (spec_LimitsOk.b ret k a0_0 a0_1 a0_2 a0_3 a0_4).map e := by
  unfold spec_LimitsOk.b
  repeat' first | with_reducible refine nat_cond ?_ ?_ | with_reducible refine nat_bind fun _ => ?_ | rfl
theorem spec_LimitsOk.eq (k : Nat) (a0_0 : Int) (a0_1 : Int) (a0_2 : Int) (a0_3 : Int) (a0_4 : Int) : answer Try.prog spec_LimitsOk.Cs 100000 spec_LimitsOk.cuts [] Try.f81 (k + 1) [.v (.agg [(.int .i64 a0_0), (.int .i64 a0_1), (.int .i64 a0_2), (.int .i64 a0_3), (.int .i64 a0_4)])] = (spec_LimitsOk.f (k + 1) a0_0 a0_1 a0_2 a0_3 a0_4).map spec_LimitsOk.enc := by
  refine (spec_LimitsOk.s k a0_0 a0_1 a0_2 a0_3 a0_4).trans (Eq.trans ?_ (spec_LimitsOk.b_nat spec_LimitsOk.enc some k a0_0 a0_1 a0_2 a0_3 a0_4))
  simp only [Option.map_some]
theorem spec_LimitsOk.sound (k : Nat) : SoundF Try.prog 81 (fun a => (spec_LimitsOk.ans k a).val) := by
  refine sound_plain (fun args res h => ?_) (fun t n => rfl)
  unfold spec_LimitsOk.ans at h
  dsimp only at h
  split at h
  · cases k with
    | zero => cases h
    | succ k =>
      unfold Ans.val at h
      rw [← spec_LimitsOk.eq] at h
      exact answer_sound mixed Try.func81 _ _ _ (k + 1) (fun j _ => tab_sound (tab_cons (spec_l02Signers.sound j) (tab_cons (spec_l01In.sound j) (tab_nil)))) _ _ h
  · exact (Ans.no_val h).elim

/-! loop.example/g00790/spec.TableOk -/
def spec_TableOk.b {R : Type} (ret : Bool → Option R) (j0 : Bool → (List T) → Int → Int → Bool → (List T) → Option R) (k : Nat) (a0_0z : Bool) (a0_0 : List T) : Option R :=
  j0 a0_0z a0_0 ((a0_0).length : Int) 0 a0_0z a0_0
def spec_TableOk.l0b {R : Type} (ret : Bool → Option R) (j0 : Bool → (List T) → Int → Int → Bool → (List T) → Option R) (k : Nat) (x6z : Bool) (x6 : List T) (x7 : Int) (x8 : Int) (c1_0z : Bool) (c1_0 : List T) : Option R :=
  cond (decide (x8 < x7)) (cond (decide ((0 : Int) ≤ x8)) (cond (decide (x8 < ((x6).length : Int))) ((spec_l01In.f k (((((x6).getD (x8).toNat .bad).cells.getD 0 .bad)).toInt) 1 1099511627776).bind fun t0 => cond (!t0) (ret false) ((spec_l01In.f k ((((((x6).getD (x8).toNat .bad).cells.getD 1 .bad)).toNums).length : Int) 1 64).bind fun t1 => cond (!t1) (ret false) (j0 x6z x6 x7 (RowKit.wrap64 (x8 + 1)) c1_0z c1_0))) (none)) (none)) ((spec_l02Signers.f k ((c1_0).length : Int)).bind fun t0 => ret t0)
def spec_TableOk.l0 : Nat → Bool → (List T) → Int → Int → Bool → (List T) → Option Bool
  | 0, _, _, _, _, _, _ => none
  | k + 1, x6z, x6, x7, x8, c1_0z, c1_0 => spec_TableOk.l0b some (spec_TableOk.l0 k) k x6z x6 x7 x8 c1_0z c1_0
def spec_TableOk.f : Nat → Bool → (List T) → Option Bool
  | 0, _, _ => none
  | k + 1, a0_0z, a0_0 => spec_TableOk.b some (spec_TableOk.l0 k) k a0_0z a0_0
def spec_TableOk.enc (r : Bool) : Res := ⟨[.vals false [((.bool r), true)]], []⟩
def spec_TableOk.ans (k : Nat) : List Arg → Ans
  | [.v (.agg [(.sl 160 a0_0z a0_0)])] => ⟨spec_TableOk.f k a0_0z a0_0, spec_TableOk.enc⟩
  | _ => Ans.no
def spec_TableOk.Cs (k : Nat) : CallSem := tab [(155, spec_l02Signers.ans k), (122, spec_l01In.ans k)]
def spec_TableOk.cuts : List (Nat × Keep) := [(26, ⟨[(1, some []), (6, some []), (7, some []), (8, some [])], [(1, [some []])]⟩)]
noncomputable def spec_TableOk.K0 : List Fr := framesAt [true, false, true, false] (bodyOf Try.f121 spec_TableOk.cuts) []
def spec_TableOk.N0 (x6z : Bool) (x6 : List T) (x7 : Int) (x8 : Int) (c1_0z : Bool) (c1_0 : List T) : St := stOf 28 28 1 [(1, .bp 1 0), (6, .val ⟨(.sl 160 x6z x6), [], false, none⟩), (7, .val (V.s (.int .i64 x7))), (8, .val (V.s (.int .i64 x8)))] [(1, .cells [⟨(.sl 160 c1_0z c1_0), [], false, none⟩])]
theorem spec_TableOk.s (k : Nat) (a0_0z : Bool) (a0_0 : List T) : answer Try.prog spec_TableOk.Cs 100000 spec_TableOk.cuts [] Try.f121 (k + 1) [.v (.agg [(.sl 160 a0_0z a0_0)])] = spec_TableOk.b (fun r => some (spec_TableOk.enc r)) (fun x6z x6 x7 x8 c1_0z c1_0 => rounds Try.prog spec_TableOk.Cs (finish Try.prog [] Try.f121 [.v (.agg [(.sl 160 a0_0z a0_0)])]) 100000 k spec_TableOk.K0 (spec_TableOk.N0 x6z x6 x7 x8 c1_0z c1_0)) k a0_0z a0_0 := by kernel_rfl
theorem spec_TableOk.s0 (k : Nat) (G : List Fr → St → Option Res) (a0_0z : Bool) (a0_0 : List T) (yx6z : Bool) (yx6 : List T) (yx7 : Int) (yx8 : Int) (yc1_0z : Bool) (yc1_0 : List T) : resume Try.prog (spec_TableOk.Cs k) G (finish Try.prog [] Try.f121 [.v (.agg [(.sl 160 a0_0z a0_0)])]) 100000 spec_TableOk.K0 (spec_TableOk.N0 yx6z yx6 yx7 yx8 yc1_0z yc1_0) = spec_TableOk.l0b (fun r => some (spec_TableOk.enc r)) (fun x6z x6 x7 x8 c1_0z c1_0 => G spec_TableOk.K0 (spec_TableOk.N0 x6z x6 x7 x8 c1_0z c1_0)) k yx6z yx6 yx7 yx8 yc1_0z yc1_0 := by kernel_rfl
theorem spec_TableOk.b_nat {R R' : Type} (e : R → R') (ret : Bool → Option R) (j0 : Bool → (List T) → Int → Int → Bool → (List T) → Option R) (k : Nat) (a0_0z : Bool) (a0_0 : List T) : spec_TableOk.b (fun r => (ret r).map e) (fun x6z x6 x7 x8 c1_0z c1_0 => (j0 x6z x6 x7 x8 c1_0z c1_0).map e) k a0_0z a0_0 = (spec_TableOk.b ret j0 k a0_0z a0_0).map e := by
  unfold spec_TableOk.b
  repeat' first | with_reducible refine nat_cond ?_ ?_ | with_reducible refine nat_bind fun _ => ?_ | rfl
theorem spec_TableOk.l0b_nat {R R' : Type} (e : R → R') (ret : Bool → Option R) (j0 : Bool → (List T) → Int → Int → Bool → (List T) → Option R) (k : Nat) (x6z : Bool) (x6 : List T) (x7 : Int) (x8 : Int) (c1_0z : Bool) (c1_0 : List T) : spec_TableOk.l0b (fun r => (ret r).map e) (fun x6z x6 x7 x8 c1_0z c1_0 => (j0 x6z x6 x7 x8 c1_0z c1_0).map e) k x6z x6 x7 x8 c1_0z c1_0 = (spec_TableOk.l0b ret j0 k x6z x6 x7 x8 c1_0z c1_0).map e := by
  unfold spec_TableOk.l0b
  repeat' first | with_reducible refine nat_cond ?_ ?_ | with_reducible refine nat_bind fun _ => ?_ | rfl
theorem spec_TableOk.rounds_eq (a0_0z : Bool) (a0_0 : List T) : ∀ k, (∀ (x6z : Bool) (x6 : List T) (x7 : Int) (x8 : Int) (c1_0z : Bool) (c1_0 : List T), rounds Try.prog spec_TableOk.Cs (finish Try.prog [] Try.f121 [.v (.agg [(.sl 160 a0_0z a0_0)])]) 100000 k spec_TableOk.K0 (spec_TableOk.N0 x6z x6 x7 x8 c1_0z c1_0) = (spec_TableOk.l0 k x6z x6 x7 x8 c1_0z c1_0).map spec_TableOk.enc)
  | 0 => fun _ _ _ _ _ _ => rfl
  | k + 1 => by
    have ih := spec_TableOk.rounds_eq a0_0z a0_0 k
    refine fun _ _ _ _ _ _ => ?_
    · refine (spec_TableOk.s0 k _ a0_0z a0_0 _ _ _ _ _ _).trans (Eq.trans ?_ (spec_TableOk.l0b_nat spec_TableOk.enc some (spec_TableOk.l0 k) k _ _ _ _ _ _))
      simp only [ih, Option.map_some]
theorem spec_TableOk.eq (k : Nat) (a0_0z : Bool) (a0_0 : List T) : answer Try.prog spec_TableOk.Cs 100000 spec_TableOk.cuts [] Try.f121 (k + 1) [.v (.agg [(.sl 160 a0_0z a0_0)])] = (spec_TableOk.f (k + 1) a0_0z a0_0).map spec_TableOk.enc := by
  have ih := spec_TableOk.rounds_eq a0_0z a0_0 k
  refine (spec_TableOk.s k a0_0z a0_0).trans (Eq.trans ?_ (spec_TableOk.b_nat spec_TableOk.enc some (spec_TableOk.l0 k) k a0_0z a0_0))
  simp only [ih, Option.map_some]
theorem spec_TableOk.sound (k : Nat) : SoundF Try.prog 121 (fun a => (spec_TableOk.ans k a).val) := by
  refine sound_plain (fun args res h => ?_) (fun t n => rfl)
  unfold spec_TableOk.ans at h
  dsimp only at h
  split at h
  · cases k with
    | zero => cases h
    | succ k =>
      unfold Ans.val at h
      rw [← spec_TableOk.eq] at h
      exact answer_sound mixed Try.func121 _ _ _ (k + 1) (fun j _ => tab_sound (tab_cons (spec_l02Signers.sound j) (tab_cons (spec_l01In.sound j) (tab_nil)))) _ _ h
  · exact (Ans.no_val h).elim

/-! loop.example/g00790/spec.l23Goes -/
def spec_l23Goes.b {R : Type} (ret : Bool → Option R) (k : Nat) (a0_0 : Int) (a0_1 : Int) (a0_2 : Int) (a0_3 : Int) (a0_4 : Int) (a1_0z : Bool) (a1_0 : List T) : Option R :=
  (spec_LimitsOk.f k a0_0 a0_1 a0_2 a0_3 a0_4).bind fun t0 => cond t0 ((spec_TableOk.f k a1_0z a1_0).bind fun t1 => cond t1 (ret (decide (a0_0 = ((a1_0).length : Int)))) (ret false)) (ret false)
def spec_l23Goes.f : Nat → Int → Int → Int → Int → Int → Bool → (List T) → Option Bool
  | 0, _, _, _, _, _, _, _ => none
  | k + 1, a0_0, a0_1, a0_2, a0_3, a0_4, a1_0z, a1_0 => spec_l23Goes.b some k a0_0 a0_1 a0_2 a0_3 a0_4 a1_0z a1_0
def spec_l23Goes.enc (r : Bool) : Res := ⟨[.vals false [((.bool r), true)]], []⟩
def spec_l23Goes.ans (k : Nat) : List Arg → Ans
  | [.v (.agg [(.int .i64 a0_0), (.int .i64 a0_1), (.int .i64 a0_2), (.int .i64 a0_3), (.int .i64 a0_4)]), .v (.agg [(.sl 160 a1_0z a1_0)])] => ⟨spec_l23Goes.f k a0_0 a0_1 a0_2 a0_3 a0_4 a1_0z a1_0, spec_l23Goes.enc⟩
  | _ => Ans.no
def spec_l23Goes.Cs (k : Nat) : CallSem := tab [(81, spec_LimitsOk.ans k), (121, spec_TableOk.ans k)]
def spec_l23Goes.cuts : List (Nat × Keep) := []
theorem spec_l23Goes.s (k : Nat) (a0_0 : Int) (a0_1 : Int) (a0_2 : Int) (a0_3 : Int) (a0_4 : Int) (a1_0z : Bool) (a1_0 : List T) : answer Try.prog spec_l23Goes.Cs 100000 spec_l23Goes.cuts [] Try.f89 (k + 1) [.v (.agg [(.int .i64 a0_0), (.int .i64 a0_1), (.int .i64 a0_2), (.int .i64 a0_3), (.int .i64 a0_4)]), .v (.agg [(.sl 160 a1_0z a1_0)])] = spec_l23Goes.b (fun r => some (spec_l23Goes.enc r)) k a0_0 a0_1 a0_2 a0_3 a0_4 a1_0z a1_0 := by kernel_rfl
theorem spec_l23Goes.b_nat {R R' : Type} (e : R → R') (ret : Bool → Option R) (k : Nat) (a0_0 : Int) (a0_1 : Int) (a0_2 : Int) (a0_3 : Int) (a0_4 : Int) (a1_0z : Bool) (a1_0 : List T) : spec_l23Goes.b (fun r => (ret r).map e) k a0_0 a0_1 a0_2 a0_3 a0_4 a1_0z a1_0 = (spec_l23Goes.b ret k a0_0 a0_1 a0_2 a0_3 a0_4 a1_0z a1_0).map e := by
  unfold spec_l23Goes.b
  repeat' first | with_reducible refine nat_cond ?_ ?_ | with_reducible refine nat_bind fun _ => ?_ | rfl
theorem spec_l23Goes.eq (k : Nat) (a0_0 : Int) (a0_1 : Int) (a0_2 : Int) (a0_3 : Int) (a0_4 : Int) (a1_0z : Bool) (a1_0 : List T) : answer Try.prog spec_l23Goes.Cs 100000 spec_l23Goes.cuts [] Try.f89 (k + 1) [.v (.agg [(.int .i64 a0_0), (.int .i64 a0_1), (.int .i64 a0_2), (.int .i64 a0_3), (.int .i64 a0_4)]), .v (.agg [(.sl 160 a1_0z a1_0)])] = (spec_l23Goes.f (k + 1) a0_0 a0_1 a0_2 a0_3 a0_4 a1_0z a1_0).map spec_l23Goes.enc := by
  refine (spec_l23Goes.s k a0_0 a0_1 a0_2 a0_3 a0_4 a1_0z a1_0).trans (Eq.trans ?_ (spec_l23Goes.b_nat spec_l23Goes.enc some k a0_0 a0_1 a0_2 a0_3 a0_4 a1_0z a1_0))
  simp only [Option.map_some]
theorem spec_l23Goes.sound (k : Nat) : SoundF Try.prog 89 (fun a => (spec_l23Goes.ans k a).val) := by
  refine sound_plain (fun args res h => ?_) (fun t n => rfl)
  unfold spec_l23Goes.ans at h
  dsimp only at h
  split at h
  · cases k with
    | zero => cases h
    | succ k =>
      unfold Ans.val at h
      rw [← spec_l23Goes.eq] at h
      exact answer_sound mixed Try.func89 _ _ _ (k + 1) (fun j _ => tab_sound (tab_cons (spec_LimitsOk.sound j) (tab_cons (spec_TableOk.sound j) (tab_nil)))) _ _ h
  · exact (Ans.no_val h).elim

/-! loop.example/g00790/spec.l01Num -/
def spec_l01Num.b {R : Type} (ret : Bool → Option R) (k : Nat) (a0 : Int) : Option R :=
  (spec_l01In.f k a0 0 1152921504606846975).bind fun t0 => ret t0
def spec_l01Num.f : Nat → Int → Option Bool
  | 0, _ => none
  | k + 1, a0 => spec_l01Num.b some k a0
def spec_l01Num.enc (r : Bool) : Res := ⟨[.vals false [((.bool r), true)]], []⟩
def spec_l01Num.ans (k : Nat) : List Arg → Ans
  | [.v (.int .i64 a0)] => ⟨spec_l01Num.f k a0, spec_l01Num.enc⟩
  | _ => Ans.no
def spec_l01Num.Cs (k : Nat) : CallSem := tab [(122, spec_l01In.ans k)]
def spec_l01Num.cuts : List (Nat × Keep) := []
theorem spec_l01Num.s (k : Nat) (a0 : Int) : answer Try.prog spec_l01Num.Cs 100000 spec_l01Num.cuts [] Try.f152 (k + 1) [.v (.int .i64 a0)] = spec_l01Num.b (fun r => some (spec_l01Num.enc r)) k a0 := by kernel_rfl
theorem spec_l01Num.b_nat {R R' : Type} (e : R → R') (ret : Bool → Option R) (k : Nat) (a0 : Int) : spec_l01Num.b (fun r => (ret r).map e) k a0 = (spec_l01Num.b ret k a0).map e := by
  unfold spec_l01Num.b
  repeat' first | with_reducible refine nat_cond ?_ ?_ | with_reducible refine nat_bind fun _ => ?_ | rfl
theorem spec_l01Num.eq (k : Nat) (a0 : Int) : answer Try.prog spec_l01Num.Cs 100000 spec_l01Num.cuts [] Try.f152 (k + 1) [.v (.int .i64 a0)] = (spec_l01Num.f (k + 1) a0).map spec_l01Num.enc := by
  refine (spec_l01Num.s k a0).trans (Eq.trans ?_ (spec_l01Num.b_nat spec_l01Num.enc some k a0))
  simp only [Option.map_some]
theorem spec_l01Num.sound (k : Nat) : SoundF Try.prog 152 (fun a => (spec_l01Num.ans k a).val) := by
  refine sound_plain (fun args res h => ?_) (fun t n => rfl)
  unfold spec_l01Num.ans at h
  dsimp only at h
  split at h
  · cases k with
    | zero => cases h
    | succ k =>
      unfold Ans.val at h
      rw [← spec_l01Num.eq] at h
      exact answer_sound mixed Try.func152 _ _ _ (k + 1) (fun j _ => tab_sound (tab_cons (spec_l01In.sound j) (tab_nil))) _ _ h
  · exact (Ans.no_val h).elim

/-! loop.example/g00790/spec.l07Hash -/
def spec_l07Hash.b {R : Type} (ret : Bool → Option R) (k : Nat) (a0z : Bool) (a0 : List Int) : Option R :=
  ret (decide (((a0).length : Int) = 32))
def spec_l07Hash.f : Nat → Bool → (List Int) → Option Bool
  | 0, _, _ => none
  | k + 1, a0z, a0 => spec_l07Hash.b some k a0z a0
def spec_l07Hash.enc (r : Bool) : Res := ⟨[.vals false [((.bool r), true)]], []⟩
def spec_l07Hash.ans (k : Nat) : List Arg → Ans
  | [.v (.nums 5 .u8 a0z a0)] => ⟨spec_l07Hash.f k a0z a0, spec_l07Hash.enc⟩
  | _ => Ans.no
def spec_l07Hash.Cs (k : Nat) : CallSem := tab []
def spec_l07Hash.cuts : List (Nat × Keep) := []
theorem spec_l07Hash.s (k : Nat) (a0z : Bool) (a0 : List Int) : answer Try.prog spec_l07Hash.Cs 100000 spec_l07Hash.cuts [] Try.f153 (k + 1) [.v (.nums 5 .u8 a0z a0)] = spec_l07Hash.b (fun r => some (spec_l07Hash.enc r)) k a0z a0 := by kernel_rfl
theorem spec_l07Hash.b_nat {R R' : Type} (e : R → R') (ret : Bool → Option R) (k : Nat) (a0z : Bool) (a0 : List Int) : spec_l07Hash.b (fun r => (ret r).map e) k a0z a0 = (spec_l07Hash.b ret k a0z a0).map e := by
  unfold spec_l07Hash.b
  repeat' first | with_reducible refine nat_cond ?_ ?_ | with_reducible refine nat_bind fun _ => ?_ | rfl
theorem spec_l07Hash.eq (k : Nat) (a0z : Bool) (a0 : List Int) : answer Try.prog spec_l07Hash.Cs 100000 spec_l07Hash.cuts [] Try.f153 (k + 1) [.v (.nums 5 .u8 a0z a0)] = (spec_l07Hash.f (k + 1) a0z a0).map spec_l07Hash.enc := by
  refine (spec_l07Hash.s k a0z a0).trans (Eq.trans ?_ (spec_l07Hash.b_nat spec_l07Hash.enc some k a0z a0))
  simp only [Option.map_some]
theorem spec_l07Hash.sound (k : Nat) : SoundF Try.prog 153 (fun a => (spec_l07Hash.ans k a).val) := by
  refine sound_plain (fun args res h => ?_) (fun t n => rfl)
  unfold spec_l07Hash.ans at h
  dsimp only at h
  split at h
  · cases k with
    | zero => cases h
    | succ k =>
      unfold Ans.val at h
      rw [← spec_l07Hash.eq] at h
      exact answer_sound mixed Try.func153 _ _ _ (k + 1) (fun j _ => tab_sound (tab_nil)) _ _ h
  · exact (Ans.no_val h).elim

/-! loop.example/g00790/spec.TcOk -/
def spec_TcOk.b {R : Type} (ret : Bool → Option R) (j0 : Bool → (List T) → Int → Int → Int → Int → Int → Int → Int → Int → Bool → (List T) → Option R) (k : Nat) (a0_0 : Int) (a0_1 : Int) (a0_2 : Int) (a0_3 : Int) (a0_4 : Int) (a1_0 : Int) (a1_1z : Bool) (a1_1 : List T) : Option R :=
  (spec_LimitsOk.f k a0_0 a0_1 a0_2 a0_3 a0_4).bind fun t0 => cond (!t0) (ret false) ((spec_l01Num.f k a1_0).bind fun t1 => cond (!t1) (ret false) (cond (decide (((a1_1).length : Int) > a0_0)) (ret false) (j0 a1_1z a1_1 ((a1_1).length : Int) 0 a0_0 a0_1 a0_2 a0_3 a0_4 a1_0 a1_1z a1_1)))
def spec_TcOk.l0b {R : Type} (ret : Bool → Option R) (j0 : Bool → (List T) → Int → Int → Int → Int → Int → Int → Int → Int → Bool → (List T) → Option R) (k : Nat) (x25z : Bool) (x25 : List T) (x26 : Int) (x27 : Int) (c2_0 : Int) (c2_1 : Int) (c2_2 : Int) (c2_3 : Int) (c2_4 : Int) (c3_0 : Int) (c3_1z : Bool) (c3_1 : List T) : Option R :=
  cond (decide (x27 < x26)) (cond (decide ((0 : Int) ≤ x27)) (cond (decide (x27 < ((x25).length : Int))) ((spec_l01In.f k (((((x25).getD (x27).toNat .bad).cells.getD 0 .bad)).toInt) 0 (RowKit.wrap64 (c2_0 - 1))).bind fun t0 => cond (!t0) (ret false) (cond (decide (((((x25).getD (x27).toNat .bad).cells.getD 1 .bad)).toInt < 0)) (ret false) (cond (decide (((((x25).getD (x27).toNat .bad).cells.getD 1 .bad)).toInt ≥ c3_0)) (ret false) ((spec_l07Hash.f k (((((x25).getD (x27).toNat .bad).cells.getD 2 .bad)).isNil) (((((x25).getD (x27).toNat .bad).cells.getD 2 .bad)).toNums)).bind fun t1 => cond (!t1) (ret false) (cond (decide (x27 > 0)) (cond (decide ((0 : Int) ≤ (RowKit.wrap64 (x27 - 1)))) (cond (decide ((RowKit.wrap64 (x27 - 1)) < ((c3_1).length : Int))) (cond (decide (((((c3_1).getD ((RowKit.wrap64 (x27 - 1))).toNat .bad).cells.getD 0 .bad)).toInt ≥ ((((x25).getD (x27).toNat .bad).cells.getD 0 .bad)).toInt)) (ret false) (j0 x25z x25 x26 (RowKit.wrap64 (x27 + 1)) c2_0 c2_1 c2_2 c2_3 c2_4 c3_0 c3_1z c3_1)) (none)) (none)) (j0 x25z x25 x26 (RowKit.wrap64 (x27 + 1)) c2_0 c2_1 c2_2 c2_3 c2_4 c3_0 c3_1z c3_1)))))) (none)) (none)) (ret true)
def spec_TcOk.l0 : Nat → Bool → (List T) → Int → Int → Int → Int → Int → Int → Int → Int → Bool → (List T) → Option Bool
  | 0, _, _, _, _, _, _, _, _, _, _, _, _ => none
  | k + 1, x25z, x25, x26, x27, c2_0, c2_1, c2_2, c2_3, c2_4, c3_0, c3_1z, c3_1 => spec_TcOk.l0b some (spec_TcOk.l0 k) k x25z x25 x26 x27 c2_0 c2_1 c2_2 c2_3 c2_4 c3_0 c3_1z c3_1
def spec_TcOk.f : Nat → Int → Int → Int → Int → Int → Int → Bool → (List T) → Option Bool
  | 0, _, _, _, _, _, _, _, _ => none
  | k + 1, a0_0, a0_1, a0_2, a0_3, a0_4, a1_0, a1_1z, a1_1 => spec_TcOk.b some (spec_TcOk.l0 k) k a0_0 a0_1 a0_2 a0_3 a0_4 a1_0 a1_1z a1_1
def spec_TcOk.enc (r : Bool) : Res := ⟨[.vals false [((.bool r), true)]], []⟩
def spec_TcOk.ans (k : Nat) : List Arg → Ans
  | [.v (.agg [(.int .i64 a0_0), (.int .i64 a0_1), (.int .i64 a0_2), (.int .i64 a0_3), (.int .i64 a0_4)]), .v (.agg [(.int .i64 a1_0), (.sl 85 a1_1z a1_1)])] => ⟨spec_TcOk.f k a0_0 a0_1 a0_2 a0_3 a0_4 a1_0 a1_1z a1_1, spec_TcOk.enc⟩
  | _ => Ans.no
def spec_TcOk.Cs (k : Nat) : CallSem := tab [(81, spec_LimitsOk.ans k), (122, spec_l01In.ans k), (152, spec_l01Num.ans k), (153, spec_l07Hash.ans k)]
def spec_TcOk.cuts : List (Nat × Keep) := [(58, ⟨[(2, some []), (3, some []), (25, some []), (26, some []), (27, some [])], [(2, [some [], some [], some [], some [], some []]), (3, [some [], some []])]⟩)]
noncomputable def spec_TcOk.K0 : List Fr := framesAt [true, true, false, true, false] (bodyOf Try.f112 spec_TcOk.cuts) []
def spec_TcOk.N0 (x25z : Bool) (x25 : List T) (x26 : Int) (x27 : Int) (c2_0 : Int) (c2_1 : Int) (c2_2 : Int) (c2_3 : Int) (c2_4 : Int) (c3_0 : Int) (c3_1z : Bool) (c3_1 : List T) : St := stOf 74 74 2 [(2, .bp 2 0), (3, .bp 3 0), (25, .val ⟨(.sl 85 x25z x25), [], false, none⟩), (26, .val (V.s (.int .i64 x26))), (27, .val (V.s (.int .i64 x27)))] [(2, .cells [V.s (.int .i64 c2_0), V.s (.int .i64 c2_1), V.s (.int .i64 c2_2), V.s (.int .i64 c2_3), V.s (.int .i64 c2_4)]), (3, .cells [V.s (.int .i64 c3_0), ⟨(.sl 85 c3_1z c3_1), [], false, none⟩])]
theorem spec_TcOk.s (k : Nat) (a0_0 : Int) (a0_1 : Int) (a0_2 : Int) (a0_3 : Int) (a0_4 : Int) (a1_0 : Int) (a1_1z : Bool) (a1_1 : List T) : answer Try.prog spec_TcOk.Cs 100000 spec_TcOk.cuts [] Try.f112 (k + 1) [.v (.agg [(.int .i64 a0_0), (.int .i64 a0_1), (.int .i64 a0_2), (.int .i64 a0_3), (.int .i64 a0_4)]), .v (.agg [(.int .i64 a1_0), (.sl 85 a1_1z a1_1)])] = spec_TcOk.b (fun r => some (spec_TcOk.enc r)) (fun x25z x25 x26 x27 c2_0 c2_1 c2_2 c2_3 c2_4 c3_0 c3_1z c3_1 => rounds Try.prog spec_TcOk.Cs (finish Try.prog [] Try.f112 [.v (.agg [(.int .i64 a0_0), (.int .i64 a0_1), (.int .i64 a0_2), (.int .i64 a0_3), (.int .i64 a0_4)]), .v (.agg [(.int .i64 a1_0), (.sl 85 a1_1z a1_1)])]) 100000 k spec_TcOk.K0 (spec_TcOk.N0 x25z x25 x26 x27 c2_0 c2_1 c2_2 c2_3 c2_4 c3_0 c3_1z c3_1)) k a0_0 a0_1 a0_2 a0_3 a0_4 a1_0 a1_1z a1_1 := by kernel_rfl
theorem spec_TcOk.s0 (k : Nat) (G : List Fr → St → Option Res) (a0_0 : Int) (a0_1 : Int) (a0_2 : Int) (a0_3 : Int) (a0_4 : Int) (a1_0 : Int) (a1_1z : Bool) (a1_1 : List T) (yx25z : Bool) (yx25 : List T) (yx26 : Int) (yx27 : Int) (yc2_0 : Int) (yc2_1 : Int) (yc2_2 : Int) (yc2_3 : Int) (yc2_4 : Int) (yc3_0 : Int) (yc3_1z : Bool) (yc3_1 : List T) : resume Try.prog (spec_TcOk.Cs k) G (finish Try.prog [] Try.f112 [.v (.agg [(.int .i64 a0_0), (.int .i64 a0_1), (.int .i64 a0_2), (.int .i64 a0_3), (.int .i64 a0_4)]), .v (.agg [(.int .i64 a1_0), (.sl 85 a1_1z a1_1)])]) 100000 spec_TcOk.K0 (spec_TcOk.N0 yx25z yx25 yx26 yx27 yc2_0 yc2_1 yc2_2 yc2_3 yc2_4 yc3_0 yc3_1z yc3_1) = spec_TcOk.l0b (fun r => some (spec_TcOk.enc r)) (fun x25z x25 x26 x27 c2_0 c2_1 c2_2 c2_3 c2_4 c3_0 c3_1z c3_1 => G spec_TcOk.K0 (spec_TcOk.N0 x25z x25 x26 x27 c2_0 c2_1 c2_2 c2_3 c2_4 c3_0 c3_1z c3_1)) k yx25z yx25 yx26 yx27 yc2_0 yc2_1 yc2_2 yc2_3 yc2_4 yc3_0 yc3_1z yc3_1 := by kernel_rfl
theorem spec_TcOk.b_nat {R R' : Type} (e : R → R') (ret : Bool → Option R) (j0 : Bool → (List T) → Int → Int → Int → Int → Int → Int → Int → Int → Bool → (List T) → Option R) (k : Nat) (a0_0 : Int) (a0_1 : Int) (a0_2 : Int) (a0_3 : Int) (a0_4 : Int) (a1_0 : Int) (a1_1z : Bool) (a1_1 : List T) : spec_TcOk.b (fun r => (ret r).map e) (fun x25z x25 x26 x27 c2_0 c2_1 c2_2 c2_3 c2_4 c3_0 c3_1z c3_1 => (j0 x25z x25 x26 x27 c2_0 c2_1 c2_2 c2_3 c2_4 c3_0 c3_1z c3_1).map e) k a0_0 a0_1 a0_2 a0_3 a0_4 a1_0 a1_1z a1_1 = (spec_TcOk.b ret j0 k a0_0 a0_1 a0_2 a0_3 a0_4 a1_0 a1_1z a1_1).map e := by
  unfold spec_TcOk.b
  repeat' first | with_reducible refine nat_cond ?_ ?_ | with_reducible refine nat_bind fun _ => ?_ | rfl
theorem spec_TcOk.l0b_nat {R R' : Type} (e : R → R') (ret : Bool → Option R) (j0 : Bool → (List T) → Int → Int → Int → Int → Int → Int → Int → Int → Bool → (List T) → Option R) (k : Nat) (x25z : Bool) (x25 : List T) (x26 : Int) (x27 : Int) (c2_0 : Int) (c2_1 : Int) (c2_2 : Int) (c2_3 : Int) (c2_4 : Int) (c3_0 : Int) (c3_1z : Bool) (c3_1 : List T) : spec_TcOk.l0b (fun r => (ret r).map e) (fun x25z x25 x26 x27 c2_0 c2_1 c2_2 c2_3 c2_4 c3_0 c3_1z c3_1 => (j0 x25z x25 x26 x27 c2_0 c2_1 c2_2 c2_3 c2_4 c3_0 c3_1z c3_1).map e) k x25z x25 x26 x27 c2_0 c2_1 c2_2 c2_3 c2_4 c3_0 c3_1z c3_1 = (spec_TcOk.l0b ret j0 k x25z x25 x26 x27 c2_0 c2_1 c2_2 c2_3 c2_4 c3_0 c3_1z c3_1).map e := by
  unfold spec_TcOk.l0b
  repeat' first | with_reducible refine nat_cond ?_ ?_ | with_reducible refine nat_bind fun _ => ?_ | rfl
theorem spec_TcOk.rounds_eq (a0_0 : Int) (a0_1 : Int) (a0_2 : Int) (a0_3 : Int) (a0_4 : Int) (a1_0 : Int) (a1_1z : Bool) (a1_1 : List T) : ∀ k, (∀ (x25z : Bool) (x25 : List T) (x26 : Int) (x27 : Int) (c2_0 : Int) (c2_1 : Int) (c2_2 : Int) (c2_3 : Int) (c2_4 : Int) (c3_0 : Int) (c3_1z : Bool) (c3_1 : List T), rounds Try.prog spec_TcOk.Cs (finish Try.prog [] Try.f112 [.v (.agg [(.int .i64 a0_0), (.int .i64 a0_1), (.int .i64 a0_2), (.int .i64 a0_3), (.int .i64 a0_4)]), .v (.agg [(.int .i64 a1_0), (.sl 85 a1_1z a1_1)])]) 100000 k spec_TcOk.K0 (spec_TcOk.N0 x25z x25 x26 x27 c2_0 c2_1 c2_2 c2_3 c2_4 c3_0 c3_1z c3_1) = (spec_TcOk.l0 k x25z x25 x26 x27 c2_0 c2_1 c2_2 c2_3 c2_4 c3_0 c3_1z c3_1).map spec_TcOk.enc)
  | 0 => fun _ _ _ _ _ _ _ _ _ _ _ _ => rfl
  | k + 1 => by
    have ih := spec_TcOk.rounds_eq a0_0 a0_1 a0_2 a0_3 a0_4 a1_0 a1_1z a1_1 k
    refine fun _ _ _ _ _ _ _ _ _ _ _ _ => ?_
    · refine (spec_TcOk.s0 k _ a0_0 a0_1 a0_2 a0_3 a0_4 a1_0 a1_1z a1_1 _ _ _ _ _ _ _ _ _ _ _ _).trans (Eq.trans ?_ (spec_TcOk.l0b_nat spec_TcOk.enc some (spec_TcOk.l0 k) k _ _ _ _ _ _ _ _ _ _ _ _))
      simp only [ih, Option.map_some]
theorem spec_TcOk.eq (k : Nat) (a0_0 : Int) (a0_1 : Int) (a0_2 : Int) (a0_3 : Int) (a0_4 : Int) (a1_0 : Int) (a1_1z : Bool) (a1_1 : List T) : answer Try.prog spec_TcOk.Cs 100000 spec_TcOk.cuts [] Try.f112 (k + 1) [.v (.agg [(.int .i64 a0_0), (.int .i64 a0_1), (.int .i64 a0_2), (.int .i64 a0_3), (.int .i64 a0_4)]), .v (.agg [(.int .i64 a1_0), (.sl 85 a1_1z a1_1)])] = (spec_TcOk.f (k + 1) a0_0 a0_1 a0_2 a0_3 a0_4 a1_0 a1_1z a1_1).map spec_TcOk.enc := by
  have ih := spec_TcOk.rounds_eq a0_0 a0_1 a0_2 a0_3 a0_4 a1_0 a1_1z a1_1 k
  refine (spec_TcOk.s k a0_0 a0_1 a0_2 a0_3 a0_4 a1_0 a1_1z a1_1).trans (Eq.trans ?_ (spec_TcOk.b_nat spec_TcOk.enc some (spec_TcOk.l0 k) k a0_0 a0_1 a0_2 a0_3 a0_4 a1_0 a1_1z a1_1))
  simp only [ih, Option.map_some]
theorem spec_TcOk.sound (k : Nat) : SoundF Try.prog 112 (fun a => (spec_TcOk.ans k a).val) := by
  refine sound_plain (fun args res h => ?_) (fun t n => rfl)
  unfold spec_TcOk.ans at h
  dsimp only at h
  split at h
  · cases k with
    | zero => cases h
    | succ k =>
      unfold Ans.val at h
      rw [← spec_TcOk.eq] at h
      exact answer_sound mixed Try.func112 _ _ _ (k + 1) (fun j _ => tab_sound (tab_cons (spec_LimitsOk.sound j) (tab_cons (spec_l01In.sound j) (tab_cons (spec_l01Num.sound j) (tab_cons (spec_l07Hash.sound j) (tab_nil)))))) _ _ h
  · exact (Ans.no_val h).elim

/-! loop.example/g00790/spec.l01Copy -/
def spec_l01Copy.b {R : Type} (ret : Bool × List Int → Option R) (k : Nat) (a0z : Bool) (a0 : List Int) : Option R :=
  cond (decide (0 + (a0).length < 140737488355328)) (ret (((a0).isEmpty && false), a0)) (none)
def spec_l01Copy.f : Nat → Bool → (List Int) → Option (Bool × List Int)
  | 0, _, _ => none
  | k + 1, a0z, a0 => spec_l01Copy.b some k a0z a0
def spec_l01Copy.enc (r : Bool × List Int) : Res := ⟨[.vals false [((.nums 5 .u8 r.1 r.2), true)]], []⟩
def spec_l01Copy.ans (k : Nat) : List Arg → Ans
  | [.v (.nums 5 .u8 a0z a0)] => ⟨spec_l01Copy.f k a0z a0, spec_l01Copy.enc⟩
  | _ => Ans.no
def spec_l01Copy.Cs (k : Nat) : CallSem := tab []
def spec_l01Copy.cuts : List (Nat × Keep) := []
theorem spec_l01Copy.s (k : Nat) (a0z : Bool) (a0 : List Int) : answer Try.prog spec_l01Copy.Cs 100000 spec_l01Copy.cuts [] Try.f130 (k + 1) [.v (.nums 5 .u8 a0z a0)] = spec_l01Copy.b (fun r => some (spec_l01Copy.enc r)) k a0z a0 := by kernel_rfl
theorem spec_l01Copy.b_nat {R R' : Type} (e : R → R') (ret : Bool × List Int → Option R) (k : Nat) (a0z : Bool) (a0 : List Int) : spec_l01Copy.b (fun r => (ret r).map e) k a0z a0 = (spec_l01Copy.b ret k a0z a0).map e := by
  unfold spec_l01Copy.b
  repeat' first | with_reducible refine nat_cond ?_ ?_ | with_reducible refine nat_bind fun _ => ?_ | rfl
theorem spec_l01Copy.eq (k : Nat) (a0z : Bool) (a0 : List Int) : answer Try.prog spec_l01Copy.Cs 100000 spec_l01Copy.cuts [] Try.f130 (k + 1) [.v (.nums 5 .u8 a0z a0)] = (spec_l01Copy.f (k + 1) a0z a0).map spec_l01Copy.enc := by
  refine (spec_l01Copy.s k a0z a0).trans (Eq.trans ?_ (spec_l01Copy.b_nat spec_l01Copy.enc some k a0z a0))
  simp only [Option.map_some]
theorem spec_l01Copy.sound (k : Nat) : SoundF Try.prog 130 (fun a => (spec_l01Copy.ans k a).val) := by
  refine sound_plain (fun args res h => ?_) (fun t n => rfl)
  unfold spec_l01Copy.ans at h
  dsimp only at h
  split at h
  · cases k with
    | zero => cases h
    | succ k =>
      unfold Ans.val at h
      rw [← spec_l01Copy.eq] at h
      exact answer_sound mixed Try.func130 _ _ _ (k + 1) (fun j _ => tab_sound (tab_nil)) _ _ h
  · exact (Ans.no_val h).elim

/-! loop.example/g00790/spec.PutVar -/
def spec_PutVar.b {R : Type} (ret : Bool × (List Int) × Bool → Option R) (j0 : Int → Bool → (List Int) → Option R) (k : Nat) (a0z : Bool) (a0 : List Int) (a1 : Int) : Option R :=
  (spec_l01Num.f k a1).bind fun t0 => cond (!t0) (ret (true, ([] : List Int), false)) ((spec_l01Copy.f k a0z a0).bind fun t1 => j0 a1 t1.1 t1.2)
def spec_PutVar.l0b {R : Type} (ret : Bool × (List Int) × Bool → Option R) (j0 : Int → Bool → (List Int) → Option R) (k : Nat) (x1 : Int) (x6z : Bool) (x6 : List Int) : Option R :=
  cond (decide (x1 > 127)) (cond (decide ((x6).length + 1 < 140737488355328)) (j0 (RowKit.wrap64 (Int.tdiv x1 128)) false (x6 ++ ([(((RowKit.wrap64 ((128 : Int) + (Int.tmod x1 128)))) % 256)] : List Int))) (none)) (cond (decide ((x6).length + 1 < 140737488355328)) (ret (false, (x6 ++ ([((x1) % 256)] : List Int)), true)) (none))
def spec_PutVar.l0 : Nat → Int → Bool → (List Int) → Option (Bool × (List Int) × Bool)
  | 0, _, _, _ => none
  | k + 1, x1, x6z, x6 => spec_PutVar.l0b some (spec_PutVar.l0 k) k x1 x6z x6
def spec_PutVar.f : Nat → Bool → (List Int) → Int → Option (Bool × (List Int) × Bool)
  | 0, _, _, _ => none
  | k + 1, a0z, a0, a1 => spec_PutVar.b some (spec_PutVar.l0 k) k a0z a0 a1
def spec_PutVar.enc (r : Bool × (List Int) × Bool) : Res := ⟨[.vals false [((.nums 5 .u8 r.1 r.2.1), true)], .vals false [((.bool r.2.2), true)]], []⟩
def spec_PutVar.ans (k : Nat) : List Arg → Ans
  | [.v (.nums 5 .u8 a0z a0), .v (.int .i64 a1)] => ⟨spec_PutVar.f k a0z a0 a1, spec_PutVar.enc⟩
  | _ => Ans.no
def spec_PutVar.Cs (k : Nat) : CallSem := tab [(152, spec_l01Num.ans k), (130, spec_l01Copy.ans k)]
def spec_PutVar.cuts : List (Nat × Keep) := [(60, ⟨[(1, some []), (6, none)], []⟩)]
noncomputable def spec_PutVar.K0 : List Fr := framesAt [true, true, true, false, false] (bodyOf Try.f209 spec_PutVar.cuts) []
def spec_PutVar.N0 (x1 : Int) (x6z : Bool) (x6 : List Int) : St := stOf 28 28 2 [(1, .val (V.s (.int .i64 x1))), (6, .val ⟨(.nums 5 .u8 x6z x6), [.l 6 0], true, some (.l 6 0)⟩)] []
theorem spec_PutVar.s (k : Nat) (a0z : Bool) (a0 : List Int) (a1 : Int) : answer Try.prog spec_PutVar.Cs 100000 spec_PutVar.cuts [] Try.f209 (k + 1) [.v (.nums 5 .u8 a0z a0), .v (.int .i64 a1)] = spec_PutVar.b (fun r => some (spec_PutVar.enc r)) (fun x1 x6z x6 => rounds Try.prog spec_PutVar.Cs (finish Try.prog [] Try.f209 [.v (.nums 5 .u8 a0z a0), .v (.int .i64 a1)]) 100000 k spec_PutVar.K0 (spec_PutVar.N0 x1 x6z x6)) k a0z a0 a1 := by kernel_rfl
theorem spec_PutVar.s0 (k : Nat) (G : List Fr → St → Option Res) (a0z : Bool) (a0 : List Int) (a1 : Int) (yx1 : Int) (yx6z : Bool) (yx6 : List Int) : resume Try.prog (spec_PutVar.Cs k) G (finish Try.prog [] Try.f209 [.v (.nums 5 .u8 a0z a0), .v (.int .i64 a1)]) 100000 spec_PutVar.K0 (spec_PutVar.N0 yx1 yx6z yx6) = spec_PutVar.l0b (fun r => some (spec_PutVar.enc r)) (fun x1 x6z x6 => G spec_PutVar.K0 (spec_PutVar.N0 x1 x6z x6)) k yx1 yx6z yx6 := by kernel_rfl
theorem spec_PutVar.b_nat {R R' : Type} (e : R → R') (ret : Bool × (List Int) × Bool → Option R) (j0 : Int → Bool → (List Int) → Option R) (k : Nat) (a0z : Bool) (a0 : List Int) (a1 : Int) : spec_PutVar.b (fun r => (ret r).map e) (fun x1 x6z x6 => (j0 x1 x6z x6).map e) k a0z a0 a1 = (spec_PutVar.b ret j0 k a0z a0 a1).map e := by
  unfold spec_PutVar.b
  repeat' first | with_reducible refine nat_cond ?_ ?_ | with_reducible refine nat_bind fun _ => ?_ | rfl
theorem spec_PutVar.l0b_nat {R R' : Type} (e : R → R') (ret : Bool × (List Int) × Bool → Option R) (j0 : Int → Bool → (List Int) → Option R) (k : Nat) (x1 : Int) (x6z : Bool) (x6 : List Int) : spec_PutVar.l0b (fun r => (ret r).map e) (fun x1 x6z x6 => (j0 x1 x6z x6).map e) k x1 x6z x6 = (spec_PutVar.l0b ret j0 k x1 x6z x6).map e := by
  unfold spec_PutVar.l0b
  repeat' first | with_reducible refine nat_cond ?_ ?_ | with_reducible refine nat_bind fun _ => ?_ | rfl
theorem spec_PutVar.rounds_eq (a0z : Bool) (a0 : List Int) (a1 : Int) : ∀ k, (∀ (x1 : Int) (x6z : Bool) (x6 : List Int), rounds Try.prog spec_PutVar.Cs (finish Try.prog [] Try.f209 [.v (.nums 5 .u8 a0z a0), .v (.int .i64 a1)]) 100000 k spec_PutVar.K0 (spec_PutVar.N0 x1 x6z x6) = (spec_PutVar.l0 k x1 x6z x6).map spec_PutVar.enc)
  | 0 => fun _ _ _ => rfl
  | k + 1 => by
    have ih := spec_PutVar.rounds_eq a0z a0 a1 k
    refine fun _ _ _ => ?_
    · refine (spec_PutVar.s0 k _ a0z a0 a1 _ _ _).trans (Eq.trans ?_ (spec_PutVar.l0b_nat spec_PutVar.enc some (spec_PutVar.l0 k) k _ _ _))
      simp only [ih, Option.map_some]
theorem spec_PutVar.eq (k : Nat) (a0z : Bool) (a0 : List Int) (a1 : Int) : answer Try.prog spec_PutVar.Cs 100000 spec_PutVar.cuts [] Try.f209 (k + 1) [.v (.nums 5 .u8 a0z a0), .v (.int .i64 a1)] = (spec_PutVar.f (k + 1) a0z a0 a1).map spec_PutVar.enc := by
  have ih := spec_PutVar.rounds_eq a0z a0 a1 k
  refine (spec_PutVar.s k a0z a0 a1).trans (Eq.trans ?_ (spec_PutVar.b_nat spec_PutVar.enc some (spec_PutVar.l0 k) k a0z a0 a1))
  simp only [ih, Option.map_some]
theorem spec_PutVar.sound (k : Nat) : SoundF Try.prog 209 (fun a => (spec_PutVar.ans k a).val) := by
  refine sound_plain (fun args res h => ?_) (fun t n => rfl)
  unfold spec_PutVar.ans at h
  dsimp only at h
  split at h
  · cases k with
    | zero => cases h
    | succ k =>
      unfold Ans.val at h
      rw [← spec_PutVar.eq] at h
      exact answer_sound mixed Try.func209 _ _ _ (k + 1) (fun j _ => tab_sound (tab_cons (spec_l01Num.sound j) (tab_cons (spec_l01Copy.sound j) (tab_nil)))) _ _ h
  · exact (Ans.no_val h).elim

/-! loop.example/g00790/spec.l11Num -/
def spec_l11Num.b {R : Type} (ret : Bool × List Int → Option R) (k : Nat) (a0z : Bool) (a0 : List Int) (a1 : Int) : Option R :=
  (spec_PutVar.f k a0z a0 a1).bind fun t0 => ret (t0.1, t0.2.1)
def spec_l11Num.f : Nat → Bool → (List Int) → Int → Option (Bool × List Int)
  | 0, _, _, _ => none
  | k + 1, a0z, a0, a1 => spec_l11Num.b some k a0z a0 a1
def spec_l11Num.enc (r : Bool × List Int) : Res := ⟨[.vals false [((.nums 5 .u8 r.1 r.2), true)]], []⟩
def spec_l11Num.ans (k : Nat) : List Arg → Ans
  | [.v (.nums 5 .u8 a0z a0), .v (.int .i64 a1)] => ⟨spec_l11Num.f k a0z a0 a1, spec_l11Num.enc⟩
  | _ => Ans.no
def spec_l11Num.Cs (k : Nat) : CallSem := tab [(209, spec_PutVar.ans k)]
def spec_l11Num.cuts : List (Nat × Keep) := []
theorem spec_l11Num.s (k : Nat) (a0z : Bool) (a0 : List Int) (a1 : Int) : answer Try.prog spec_l11Num.Cs 100000 spec_l11Num.cuts [] Try.f182 (k + 1) [.v (.nums 5 .u8 a0z a0), .v (.int .i64 a1)] = spec_l11Num.b (fun r => some (spec_l11Num.enc r)) k a0z a0 a1 := by kernel_rfl
theorem spec_l11Num.b_nat {R R' : Type} (e : R → R') (ret : Bool × List Int → Option R) (k : Nat) (a0z : Bool) (a0 : List Int) (a1 : Int) : spec_l11Num.b (fun r => (ret r).map e) k a0z a0 a1 = (spec_l11Num.b ret k a0z a0 a1).map e := by
  unfold spec_l11Num.b
  repeat' first | with_reducible refine nat_cond ?_ ?_ | with_reducible refine nat_bind fun _ => ?_ | rfl
theorem spec_l11Num.eq (k : Nat) (a0z : Bool) (a0 : List Int) (a1 : Int) : answer Try.prog spec_l11Num.Cs 100000 spec_l11Num.cuts [] Try.f182 (k + 1) [.v (.nums 5 .u8 a0z a0), .v (.int .i64 a1)] = (spec_l11Num.f (k + 1) a0z a0 a1).map spec_l11Num.enc := by
  refine (spec_l11Num.s k a0z a0 a1).trans (Eq.trans ?_ (spec_l11Num.b_nat spec_l11Num.enc some k a0z a0 a1))
  simp only [Option.map_some]
theorem spec_l11Num.sound (k : Nat) : SoundF Try.prog 182 (fun a => (spec_l11Num.ans k a).val) := by
  refine sound_plain (fun args res h => ?_) (fun t n => rfl)
  unfold spec_l11Num.ans at h
  dsimp only at h
  split at h
  · cases k with
    | zero => cases h
    | succ k =>
      unfold Ans.val at h
      rw [← spec_l11Num.eq] at h
      exact answer_sound mixed Try.func182 _ _ _ (k + 1) (fun j _ => tab_sound (tab_cons (spec_PutVar.sound j) (tab_nil))) _ _ h
  · exact (Ans.no_val h).elim

/-! loop.example/g00790/spec.LeaveBytes -/
def spec_LeaveBytes.b {R : Type} (ret : Bool × List Int → Option R) (k : Nat) (a0 : Int) (a1 : Int) : Option R :=
  (spec_l01Num.f k a0).bind fun t0 => cond (!t0) (ret (true, ([] : List Int))) ((spec_l01Num.f k a1).bind fun t1 => cond (!t1) (ret (true, ([] : List Int))) ((spec_l11Num.f k false ([76] : List Int) a0).bind fun t2 => (spec_l11Num.f k t2.1 t2.2 a1).bind fun t3 => ret (t3.1, t3.2)))
def spec_LeaveBytes.f : Nat → Int → Int → Option (Bool × List Int)
  | 0, _, _ => none
  | k + 1, a0, a1 => spec_LeaveBytes.b some k a0 a1
def spec_LeaveBytes.enc (r : Bool × List Int) : Res := ⟨[.vals false [((.nums 5 .u8 r.1 r.2), true)]], []⟩
def spec_LeaveBytes.ans (k : Nat) : List Arg → Ans
  | [.v (.int .i64 a0), .v (.int .i64 a1)] => ⟨spec_LeaveBytes.f k a0 a1, spec_LeaveBytes.enc⟩
  | _ => Ans.no
def spec_LeaveBytes.Cs (k : Nat) : CallSem := tab [(152, spec_l01Num.ans k), (182, spec_l11Num.ans k)]
def spec_LeaveBytes.cuts : List (Nat × Keep) := []
theorem spec_LeaveBytes.s (k : Nat) (a0 : Int) (a1 : Int) : answer Try.prog spec_LeaveBytes.Cs 100000 spec_LeaveBytes.cuts [] Try.f120 (k + 1) [.v (.int .i64 a0), .v (.int .i64 a1)] = spec_LeaveBytes.b (fun r => some (spec_LeaveBytes.enc r)) k a0 a1 := by kernel_rfl
theorem spec_LeaveBytes.b_nat {R R' : Type} (e : R → R') (ret : Bool × List Int → Option R) (k : Nat) (a0 : Int) (a1 : Int) : spec_LeaveBytes.b (fun r => (ret r).map e) k a0 a1 = (spec_LeaveBytes.b ret k a0 a1).map e := by
  unfold spec_LeaveBytes.b
  repeat' first | with_reducible refine nat_cond ?_ ?_ | with_reducible refine nat_bind fun _ => ?_ | rfl
theorem spec_LeaveBytes.eq (k : Nat) (a0 : Int) (a1 : Int) : answer Try.prog spec_LeaveBytes.Cs 100000 spec_LeaveBytes.cuts [] Try.f120 (k + 1) [.v (.int .i64 a0), .v (.int .i64 a1)] = (spec_LeaveBytes.f (k + 1) a0 a1).map spec_LeaveBytes.enc := by
  refine (spec_LeaveBytes.s k a0 a1).trans (Eq.trans ?_ (spec_LeaveBytes.b_nat spec_LeaveBytes.enc some k a0 a1))
  simp only [Option.map_some]
theorem spec_LeaveBytes.sound (k : Nat) : SoundF Try.prog 120 (fun a => (spec_LeaveBytes.ans k a).val) := by
  refine sound_plain (fun args res h => ?_) (fun t n => rfl)
  unfold spec_LeaveBytes.ans at h
  dsimp only at h
  split at h
  · cases k with
    | zero => cases h
    | succ k =>
      unfold Ans.val at h
      rw [← spec_LeaveBytes.eq] at h
      exact answer_sound mixed Try.func120 _ _ _ (k + 1) (fun j _ => tab_sound (tab_cons (spec_l01Num.sound j) (tab_cons (spec_l11Num.sound j) (tab_nil)))) _ _ h
  · exact (Ans.no_val h).elim

/-! loop.example/g00790/spec.ShaInit -/
def spec_ShaInit.b {R : Type} (ret : Bool × List Int → Option R) (k : Nat) : Option R :=
  ret (false, ([1779033703, 3144134277, 1013904242, 2773480762, 1359893119, 2600822924, 528734635, 1541459225] : List Int))
def spec_ShaInit.f : Nat → Option (Bool × List Int)
  | 0 => none
  | k + 1 => spec_ShaInit.b some k
def spec_ShaInit.enc (r : Bool × List Int) : Res := ⟨[.vals false [((.nums 3 .i64 r.1 r.2), true)]], []⟩
def spec_ShaInit.ans (k : Nat) : List Arg → Ans
  | [] => ⟨spec_ShaInit.f k, spec_ShaInit.enc⟩
  | _ => Ans.no
def spec_ShaInit.Cs (k : Nat) : CallSem := tab []
def spec_ShaInit.cuts : List (Nat × Keep) := []
theorem spec_ShaInit.s (k : Nat) : answer Try.prog spec_ShaInit.Cs 100000 spec_ShaInit.cuts [] Try.f194 (k + 1) [] = spec_ShaInit.b (fun r => some (spec_ShaInit.enc r)) k := by kernel_rfl
theorem spec_ShaInit.b_nat {R R' : Type} (e : R → R') (ret : Bool × List Int → Option R) (k : Nat) : spec_ShaInit.b (fun r => (ret r).map e) k = (spec_ShaInit.b ret k).map e := by
  unfold spec_ShaInit.b
  repeat' first | with_reducible refine nat_cond ?_ ?_ | with_reducible refine nat_bind fun _ => ?_ | rfl
theorem spec_ShaInit.eq (k : Nat) : answer Try.prog spec_ShaInit.Cs 100000 spec_ShaInit.cuts [] Try.f194 (k + 1) [] = (spec_ShaInit.f (k + 1)).map spec_ShaInit.enc := by
  refine (spec_ShaInit.s k).trans (Eq.trans ?_ (spec_ShaInit.b_nat spec_ShaInit.enc some k))
  simp only [Option.map_some]
theorem spec_ShaInit.sound (k : Nat) : SoundF Try.prog 194 (fun a => (spec_ShaInit.ans k a).val) := by
  refine sound_plain (fun args res h => ?_) (fun t n => rfl)
  unfold spec_ShaInit.ans at h
  dsimp only at h
  split at h
  · cases k with
    | zero => cases h
    | succ k =>
      unfold Ans.val at h
      rw [← spec_ShaInit.eq] at h
      exact answer_sound mixed Try.func194 _ _ _ (k + 1) (fun j _ => tab_sound (tab_nil)) _ _ h
  · exact (Ans.no_val h).elim

/-! loop.example/g00790/spec.ShaPad -/
def spec_ShaPad.b {R : Type} (ret : Bool × List Int → Option R) (j0 : Bool → (List Int) → (List Int) → Option R) (j1 : (List Int) → Int → Int → Option R) (k : Nat) (a0z : Bool) (a0 : List Int) : Option R :=
  (spec_l01Copy.f k a0z a0).bind fun t0 => cond (decide ((t0.2).length + 1 < 140737488355328)) (j0 a0z a0 (t0.2 ++ ([128] : List Int))) (none)
def spec_ShaPad.l0b {R : Type} (ret : Bool × List Int → Option R) (j0 : Bool → (List Int) → (List Int) → Option R) (j1 : (List Int) → Int → Int → Option R) (k : Nat) (x0z : Bool) (x0 : List Int) (x3 : List Int) : Option R :=
  cond (!(decide ((Int.tmod ((x3).length : Int) 64) = 56))) (cond (decide ((x3).length + 1 < 140737488355328)) (j0 x0z x0 (x3 ++ ([0] : List Int))) (none)) (j1 x3 (RowKit.wrap64 ((8 : Int) * ((x0).length : Int))) 7)
def spec_ShaPad.l1b {R : Type} (ret : Bool × List Int → Option R) (j0 : Bool → (List Int) → (List Int) → Option R) (j1 : (List Int) → Int → Int → Option R) (k : Nat) (x3 : List Int) (x4 : Int) (x5 : Int) : Option R :=
  cond (decide (x5 ≥ 0)) (cond (decide ((0 : Int) ≤ (RowKit.wrap64 ((8 : Int) * x5)))) (cond (decide ((x3).length + 1 < 140737488355328)) (j1 (x3 ++ ([(((shrI .i64 x4 (RowKit.wrap64 ((8 : Int) * x5)))) % 256)] : List Int)) x4 (RowKit.wrap64 (x5 - 1))) (none)) (none)) (ret (false, x3))
mutual
def spec_ShaPad.l0 : Nat → Bool → (List Int) → (List Int) → Option (Bool × List Int)
  | 0, _, _, _ => none
  | k + 1, x0z, x0, x3 => spec_ShaPad.l0b some (spec_ShaPad.l0 k) (spec_ShaPad.l1 k) k x0z x0 x3
def spec_ShaPad.l1 : Nat → (List Int) → Int → Int → Option (Bool × List Int)
  | 0, _, _, _ => none
  | k + 1, x3, x4, x5 => spec_ShaPad.l1b some (spec_ShaPad.l0 k) (spec_ShaPad.l1 k) k x3 x4 x5
end
def spec_ShaPad.f : Nat → Bool → (List Int) → Option (Bool × List Int)
  | 0, _, _ => none
  | k + 1, a0z, a0 => spec_ShaPad.b some (spec_ShaPad.l0 k) (spec_ShaPad.l1 k) k a0z a0
def spec_ShaPad.enc (r : Bool × List Int) : Res := ⟨[.vals false [((.nums 5 .u8 r.1 r.2), true)]], []⟩
def spec_ShaPad.ans (k : Nat) : List Arg → Ans
  | [.v (.nums 5 .u8 a0z a0)] => ⟨spec_ShaPad.f k a0z a0, spec_ShaPad.enc⟩
  | _ => Ans.no
def spec_ShaPad.Cs (k : Nat) : CallSem := tab [(130, spec_l01Copy.ans k)]
def spec_ShaPad.cuts : List (Nat × Keep) := [(28, ⟨[(0, some []), (3, none)], []⟩), (250, ⟨[(3, none), (4, some []), (5, some [])], []⟩)]
noncomputable def spec_ShaPad.K0 : List Fr := framesAt [true, true, false, false] (bodyOf Try.f195 spec_ShaPad.cuts) []
def spec_ShaPad.N0 (x0z : Bool) (x0 : List Int) (x3 : List Int) : St := stOf 33 33 1 [(0, .val ⟨(.nums 5 .u8 x0z x0), [], false, none⟩), (3, .val ⟨(.nums 5 .u8 false x3), [.l 3 0], true, some (.l 3 0)⟩)] []
noncomputable def spec_ShaPad.K1 : List Fr := framesAt [true, true, true, true, false, true, false] (bodyOf Try.f195 spec_ShaPad.cuts) []
def spec_ShaPad.N1 (x3 : List Int) (x4 : Int) (x5 : Int) : St := stOf 33 33 1 [(3, .val ⟨(.nums 5 .u8 false x3), [.l 3 0], true, some (.l 3 0)⟩), (4, .val (V.s (.int .i64 x4))), (5, .val (V.s (.int .i64 x5)))] []
theorem spec_ShaPad.s (k : Nat) (a0z : Bool) (a0 : List Int) : answer Try.prog spec_ShaPad.Cs 100000 spec_ShaPad.cuts [] Try.f195 (k + 1) [.v (.nums 5 .u8 a0z a0)] = spec_ShaPad.b (fun r => some (spec_ShaPad.enc r)) (fun x0z x0 x3 => rounds Try.prog spec_ShaPad.Cs (finish Try.prog [] Try.f195 [.v (.nums 5 .u8 a0z a0)]) 100000 k spec_ShaPad.K0 (spec_ShaPad.N0 x0z x0 x3)) (fun x3 x4 x5 => rounds Try.prog spec_ShaPad.Cs (finish Try.prog [] Try.f195 [.v (.nums 5 .u8 a0z a0)]) 100000 k spec_ShaPad.K1 (spec_ShaPad.N1 x3 x4 x5)) k a0z a0 := by kernel_rfl
theorem spec_ShaPad.s0 (k : Nat) (G : List Fr → St → Option Res) (a0z : Bool) (a0 : List Int) (yx0z : Bool) (yx0 : List Int) (yx3 : List Int) : resume Try.prog (spec_ShaPad.Cs k) G (finish Try.prog [] Try.f195 [.v (.nums 5 .u8 a0z a0)]) 100000 spec_ShaPad.K0 (spec_ShaPad.N0 yx0z yx0 yx3) = spec_ShaPad.l0b (fun r => some (spec_ShaPad.enc r)) (fun x0z x0 x3 => G spec_ShaPad.K0 (spec_ShaPad.N0 x0z x0 x3)) (fun x3 x4 x5 => G spec_ShaPad.K1 (spec_ShaPad.N1 x3 x4 x5)) k yx0z yx0 yx3 := by kernel_rfl
theorem spec_ShaPad.s1 (k : Nat) (G : List Fr → St → Option Res) (a0z : Bool) (a0 : List Int) (yx3 : List Int) (yx4 : Int) (yx5 : Int) : resume Try.prog (spec_ShaPad.Cs k) G (finish Try.prog [] Try.f195 [.v (.nums 5 .u8 a0z a0)]) 100000 spec_ShaPad.K1 (spec_ShaPad.N1 yx3 yx4 yx5) = spec_ShaPad.l1b (fun r => some (spec_ShaPad.enc r)) (fun x0z x0 x3 => G spec_ShaPad.K0 (spec_ShaPad.N0 x0z x0 x3)) (fun x3 x4 x5 => G spec_ShaPad.K1 (spec_ShaPad.N1 x3 x4 x5)) k yx3 yx4 yx5 := by kernel_rfl
theorem spec_ShaPad.b_nat {R R' : Type} (e : R → R') (ret : Bool × List Int → Option R) (j0 : Bool → (List Int) → (List Int) → Option R) (j1 : (List Int) → Int → Int → Option R) (k : Nat) (a0z : Bool) (a0 : List Int) : spec_ShaPad.b (fun r => (ret r).map e) (fun x0z x0 x3 => (j0 x0z x0 x3).map e) (fun x3 x4 x5 => (j1 x3 x4 x5).map e) k a0z a0 = (spec_ShaPad.b ret j0 j1 k a0z a0).map e := by
  unfold spec_ShaPad.b
  repeat' first | with_reducible refine nat_cond ?_ ?_ | with_reducible refine nat_bind fun _ => ?_ | rfl
theorem spec_ShaPad.l0b_nat {R R' : Type} (e : R → R') (ret : Bool × List Int → Option R) (j0 : Bool → (List Int) → (List Int) → Option R) (j1 : (List Int) → Int → Int → Option R) (k : Nat) (x0z : Bool) (x0 : List Int) (x3 : List Int) : spec_ShaPad.l0b (fun r => (ret r).map e) (fun x0z x0 x3 => (j0 x0z x0 x3).map e) (fun x3 x4 x5 => (j1 x3 x4 x5).map e) k x0z x0 x3 = (spec_ShaPad.l0b ret j0 j1 k x0z x0 x3).map e := by
  unfold spec_ShaPad.l0b
  repeat' first | with_reducible refine nat_cond ?_ ?_ | with_reducible refine nat_bind fun _ => ?_ | rfl
theorem spec_ShaPad.l1b_nat {R R' : Type} (e : R → R') (ret : Bool × List Int → Option R) (j0 : Bool → (List Int) → (List Int) → Option R) (j1 : (List Int) → Int → Int → Option R) (k : Nat) (x3 : List Int) (x4 : Int) (x5 : Int) : spec_ShaPad.l1b (fun r => (ret r).map e) (fun x0z x0 x3 => (j0 x0z x0 x3).map e) (fun x3 x4 x5 => (j1 x3 x4 x5).map e) k x3 x4 x5 = (spec_ShaPad.l1b ret j0 j1 k x3 x4 x5).map e := by
  unfold spec_ShaPad.l1b
  repeat' first | with_reducible refine nat_cond ?_ ?_ | with_reducible refine nat_bind fun _ => ?_ | rfl
theorem spec_ShaPad.rounds_eq (a0z : Bool) (a0 : List Int) : ∀ k, (∀ (x0z : Bool) (x0 : List Int) (x3 : List Int), rounds Try.prog spec_ShaPad.Cs (finish Try.prog [] Try.f195 [.v (.nums 5 .u8 a0z a0)]) 100000 k spec_ShaPad.K0 (spec_ShaPad.N0 x0z x0 x3) = (spec_ShaPad.l0 k x0z x0 x3).map spec_ShaPad.enc) ∧ (∀ (x3 : List Int) (x4 : Int) (x5 : Int), rounds Try.prog spec_ShaPad.Cs (finish Try.prog [] Try.f195 [.v (.nums 5 .u8 a0z a0)]) 100000 k spec_ShaPad.K1 (spec_ShaPad.N1 x3 x4 x5) = (spec_ShaPad.l1 k x3 x4 x5).map spec_ShaPad.enc)
  | 0 => ⟨fun _ _ _ => rfl, fun _ _ _ => rfl⟩
  | k + 1 => by
    have ih := spec_ShaPad.rounds_eq a0z a0 k
    refine ⟨fun _ _ _ => ?_, fun _ _ _ => ?_⟩
    · refine (spec_ShaPad.s0 k _ a0z a0 _ _ _).trans (Eq.trans ?_ (spec_ShaPad.l0b_nat spec_ShaPad.enc some (spec_ShaPad.l0 k) (spec_ShaPad.l1 k) k _ _ _))
      simp only [ih.1, ih.2, Option.map_some]
    · refine (spec_ShaPad.s1 k _ a0z a0 _ _ _).trans (Eq.trans ?_ (spec_ShaPad.l1b_nat spec_ShaPad.enc some (spec_ShaPad.l0 k) (spec_ShaPad.l1 k) k _ _ _))
      simp only [ih.1, ih.2, Option.map_some]
theorem spec_ShaPad.eq (k : Nat) (a0z : Bool) (a0 : List Int) : answer Try.prog spec_ShaPad.Cs 100000 spec_ShaPad.cuts [] Try.f195 (k + 1) [.v (.nums 5 .u8 a0z a0)] = (spec_ShaPad.f (k + 1) a0z a0).map spec_ShaPad.enc := by
  have ih := spec_ShaPad.rounds_eq a0z a0 k
  refine (spec_ShaPad.s k a0z a0).trans (Eq.trans ?_ (spec_ShaPad.b_nat spec_ShaPad.enc some (spec_ShaPad.l0 k) (spec_ShaPad.l1 k) k a0z a0))
  simp only [ih.1, ih.2, Option.map_some]
theorem spec_ShaPad.sound (k : Nat) : SoundF Try.prog 195 (fun a => (spec_ShaPad.ans k a).val) := by
  refine sound_plain (fun args res h => ?_) (fun t n => rfl)
  unfold spec_ShaPad.ans at h
  dsimp only at h
  split at h
  · cases k with
    | zero => cases h
    | succ k =>
      unfold Ans.val at h
      rw [← spec_ShaPad.eq] at h
      exact answer_sound mixed Try.func195 _ _ _ (k + 1) (fun j _ => tab_sound (tab_cons (spec_l01Copy.sound j) (tab_nil))) _ _ h
  · exact (Ans.no_val h).elim

end Go.Proofs.YtadnejogdohfkaaG
