/- What the functions compute, printed by a program of this repo; each is shown to be what the machine of values answers. No condition. -/
import Derived.Test.YtadnejogdohfkaaProg
import Derived.KernelRfl
import Derived.Test.YtadnejogdohfkaaGFnExactLightOkc
namespace Go.Proofs.YtadnejogdohfkaaG
open Go Go.Proofs.YtadnejogdohfkaaRv Go.Proofs
set_option linter.unusedVariables false
set_option linter.unusedSimpArgs false
/-! loop.example/g00790/laws.eqByteS -/
def laws_eqByteS.b {R : Type} (ret : Bool → Option R) (j0 : Bool → (List Int) → Bool → (List Int) → Int → Option R) (k : Nat) (a0z : Bool) (a0 : List Int) (a1z : Bool) (a1 : List Int) : Option R :=
  cond (!(decide (((a0).length : Int) = ((a1).length : Int)))) (ret false) (j0 a0z a0 a1z a1 0)
def laws_eqByteS.l0b {R : Type} (ret : Bool → Option R) (j0 : Bool → (List Int) → Bool → (List Int) → Int → Option R) (k : Nat) (x0z : Bool) (x0 : List Int) (x1z : Bool) (x1 : List Int) (x5 : Int) : Option R :=
  cond (decide (x5 < ((x0).length : Int))) (cond (decide ((0 : Int) ≤ x5)) (cond (decide (x5 < ((x0).length : Int))) (cond (decide ((0 : Int) ≤ x5)) (cond (decide (x5 < ((x1).length : Int))) (cond (!(decide ((rdI x0 x5) = (rdI x1 x5)))) (ret false) (j0 x0z x0 x1z x1 (RowKit.wrap64 (x5 + 1)))) (none)) (none)) (none)) (none)) (ret true)
def laws_eqByteS.l0 : Nat → Bool → (List Int) → Bool → (List Int) → Int → Option Bool
  | 0, _, _, _, _, _ => none
  | k + 1, x0z, x0, x1z, x1, x5 => laws_eqByteS.l0b some (laws_eqByteS.l0 k) k x0z x0 x1z x1 x5
def laws_eqByteS.f : Nat → Bool → (List Int) → Bool → (List Int) → Option Bool
  | 0, _, _, _, _ => none
  | k + 1, a0z, a0, a1z, a1 => laws_eqByteS.b some (laws_eqByteS.l0 k) k a0z a0 a1z a1
def laws_eqByteS.enc (r : Bool) : Res := ⟨[.vals false [((.bool r), true)]], []⟩
def laws_eqByteS.ans (k : Nat) : List Arg → Ans
  | [.v (.nums 5 .u8 a0z a0), .v (.nums 5 .u8 a1z a1)] => ⟨laws_eqByteS.f k a0z a0 a1z a1, laws_eqByteS.enc⟩
  | _ => Ans.no
def laws_eqByteS.Cs (k : Nat) : CallSem := tab []
def laws_eqByteS.cuts : List (Nat × Keep) := [(58, ⟨[(0, some []), (1, some []), (5, some [])], []⟩)]
noncomputable def laws_eqByteS.K0 : List Fr := framesAt [true, true, false, true, false] (bodyOf Try.f53 laws_eqByteS.cuts) []
def laws_eqByteS.N0 (x0z : Bool) (x0 : List Int) (x1z : Bool) (x1 : List Int) (x5 : Int) : St := stOf 26 26 2 [(0, .val ⟨(.nums 5 .u8 x0z x0), [], false, none⟩), (1, .val ⟨(.nums 5 .u8 x1z x1), [], false, none⟩), (5, .val (V.s (.int .i64 x5)))] []
theorem laws_eqByteS.s (k : Nat) (a0z : Bool) (a0 : List Int) (a1z : Bool) (a1 : List Int) : answer Try.prog laws_eqByteS.Cs 100000 laws_eqByteS.cuts [] Try.f53 (k + 1) [.v (.nums 5 .u8 a0z a0), .v (.nums 5 .u8 a1z a1)] = laws_eqByteS.b (fun r => some (laws_eqByteS.enc r)) (fun x0z x0 x1z x1 x5 => rounds Try.prog laws_eqByteS.Cs (finish Try.prog [] Try.f53 [.v (.nums 5 .u8 a0z a0), .v (.nums 5 .u8 a1z a1)]) 100000 k laws_eqByteS.K0 (laws_eqByteS.N0 x0z x0 x1z x1 x5)) k a0z a0 a1z a1 := by kernel_rfl
theorem laws_eqByteS.s0 (k : Nat) (G : List Fr → St → Option Res) (a0z : Bool) (a0 : List Int) (a1z : Bool) (a1 : List Int) (yx0z : Bool) (yx0 : List Int) (yx1z : Bool) (yx1 : List Int) (yx5 : Int) : resume Try.prog (laws_eqByteS.Cs k) G (finish Try.prog [] Try.f53 [.v (.nums 5 .u8 a0z a0), .v (.nums 5 .u8 a1z a1)]) 100000 laws_eqByteS.K0 (laws_eqByteS.N0 yx0z yx0 yx1z yx1 yx5) = laws_eqByteS.l0b (fun r => some (laws_eqByteS.enc r)) (fun x0z x0 x1z x1 x5 => G laws_eqByteS.K0 (laws_eqByteS.N0 x0z x0 x1z x1 x5)) k yx0z yx0 yx1z yx1 yx5 := by kernel_rfl
theorem laws_eqByteS.b_nat {R R' : Type} (e : R → R') (ret : Bool → Option R) (j0 : Bool → (List Int) → Bool → (List Int) → Int → Option R) (k : Nat) (a0z : Bool) (a0 : List Int) (a1z : Bool) (a1 : List Int) : laws_eqByteS.b (fun r => (ret r).map e) (fun x0z x0 x1z x1 x5 => (j0 x0z x0 x1z x1 x5).map e) k a0z a0 a1z a1 = (laws_eqByteS.b ret j0 k a0z a0 a1z a1).map e := by
  unfold laws_eqByteS.b
  repeat' first | with_reducible refine nat_cond ?_ ?_ | with_reducible refine nat_bind fun _ => ?_ | rfl
theorem laws_eqByteS.l0b_nat {R R' : Type} (e : R → R') (ret : Bool → Option R) (j0 : Bool → (List Int) → Bool → (List Int) → Int → Option R) (k : Nat) (x0z : Bool) (x0 : List Int) (x1z : Bool) (x1 : List Int) (x5 : Int) : laws_eqByteS.l0b (fun r => (ret r).map e) (fun x0z x0 x1z x1 x5 => (j0 x0z x0 x1z x1 x5).map e) k x0z x0 x1z x1 x5 = (laws_eqByteS.l0b ret j0 k x0z x0 x1z x1 x5).map e := by
  unfold laws_eqByteS.l0b
  repeat' first | with_reducible refine nat_cond ?_ ?_ | with_reducible refine nat_bind fun _ => ?_ | rfl
theorem laws_eqByteS.rounds_eq (a0z : Bool) (a0 : List Int) (a1z : Bool) (a1 : List Int) : ∀ k, (∀ (x0z : Bool) (x0 : List Int) (x1z : Bool) (x1 : List Int) (x5 : Int), rounds Try.prog laws_eqByteS.Cs (finish Try.prog [] Try.f53 [.v (.nums 5 .u8 a0z a0), .v (.nums 5 .u8 a1z a1)]) 100000 k laws_eqByteS.K0 (laws_eqByteS.N0 x0z x0 x1z x1 x5) = (laws_eqByteS.l0 k x0z x0 x1z x1 x5).map laws_eqByteS.enc)
  | 0 => fun _ _ _ _ _ => rfl
  | k + 1 => by
    have ih := laws_eqByteS.rounds_eq a0z a0 a1z a1 k
    refine fun _ _ _ _ _ => ?_
    · refine (laws_eqByteS.s0 k _ a0z a0 a1z a1 _ _ _ _ _).trans (Eq.trans ?_ (laws_eqByteS.l0b_nat laws_eqByteS.enc some (laws_eqByteS.l0 k) k _ _ _ _ _))
      simp only [ih, Option.map_some]
theorem laws_eqByteS.eq (k : Nat) (a0z : Bool) (a0 : List Int) (a1z : Bool) (a1 : List Int) : answer Try.prog laws_eqByteS.Cs 100000 laws_eqByteS.cuts [] Try.f53 (k + 1) [.v (.nums 5 .u8 a0z a0), .v (.nums 5 .u8 a1z a1)] = (laws_eqByteS.f (k + 1) a0z a0 a1z a1).map laws_eqByteS.enc := by
  have ih := laws_eqByteS.rounds_eq a0z a0 a1z a1 k
  refine (laws_eqByteS.s k a0z a0 a1z a1).trans (Eq.trans ?_ (laws_eqByteS.b_nat laws_eqByteS.enc some (laws_eqByteS.l0 k) k a0z a0 a1z a1))
  simp only [ih, Option.map_some]
theorem laws_eqByteS.sound (k : Nat) : SoundF Try.prog 53 (fun a => (laws_eqByteS.ans k a).val) := by
  refine sound_plain (fun args res h => ?_) (fun t n => rfl)
  unfold laws_eqByteS.ans at h
  dsimp only at h
  split at h
  · cases k with
    | zero => cases h
    | succ k =>
      unfold Ans.val at h
      rw [← laws_eqByteS.eq] at h
      exact answer_sound mixed Try.func53 _ _ _ (k + 1) (fun j _ => tab_sound (tab_nil)) _ _ h
  · exact (Ans.no_val h).elim

/-! loop.example/g00790/laws.eqRow -/
def laws_eqRow.b {R : Type} (ret : Bool → Option R) (k : Nat) (a0_0 : Int) (a0_1z : Bool) (a0_1 : List Int) (a1_0 : Int) (a1_1z : Bool) (a1_1 : List Int) : Option R :=
  cond (!(decide (a0_0 = a1_0))) (ret false) ((laws_eqByteS.f k a0_1z a0_1 a1_1z a1_1).bind fun t0 => cond (!t0) (ret false) (ret true))
def laws_eqRow.f : Nat → Int → Bool → (List Int) → Int → Bool → (List Int) → Option Bool
  | 0, _, _, _, _, _, _ => none
  | k + 1, a0_0, a0_1z, a0_1, a1_0, a1_1z, a1_1 => laws_eqRow.b some k a0_0 a0_1z a0_1 a1_0 a1_1z a1_1
def laws_eqRow.enc (r : Bool) : Res := ⟨[.vals false [((.bool r), true)]], []⟩
def laws_eqRow.ans (k : Nat) : List Arg → Ans
  | [.v (.agg [(.int .i64 a0_0), (.nums 5 .u8 a0_1z a0_1)]), .v (.agg [(.int .i64 a1_0), (.nums 5 .u8 a1_1z a1_1)])] => ⟨laws_eqRow.f k a0_0 a0_1z a0_1 a1_0 a1_1z a1_1, laws_eqRow.enc⟩
  | _ => Ans.no
def laws_eqRow.Cs (k : Nat) : CallSem := tab [(53, laws_eqByteS.ans k)]
def laws_eqRow.cuts : List (Nat × Keep) := []
theorem laws_eqRow.s (k : Nat) (a0_0 : Int) (a0_1z : Bool) (a0_1 : List Int) (a1_0 : Int) (a1_1z : Bool) (a1_1 : List Int) : answer Try.prog laws_eqRow.Cs 100000 laws_eqRow.cuts [] Try.f176 (k + 1) [.v (.agg [(.int .i64 a0_0), (.nums 5 .u8 a0_1z a0_1)]), .v (.agg [(.int .i64 a1_0), (.nums 5 .u8 a1_1z a1_1)])] = laws_eqRow.b (fun r => some (laws_eqRow.enc r)) k a0_0 a0_1z a0_1 a1_0 a1_1z a1_1 := by kernel_rfl
theorem laws_eqRow.b_nat {R R' : Type} (e : R → R') (ret : Bool → Option R) (k : Nat) (a0_0 : Int) (a0_1z : Bool) (a0_1 : List Int) (a1_0 : Int) (a1_1z : Bool) (a1_1 : List Int) : laws_eqRow.b (fun r => (ret r).map e) k a0_0 a0_1z a0_1 a1_0 a1_1z a1_1 = (laws_eqRow.b ret k a0_0 a0_1z a0_1 a1_0 a1_1z a1_1).map e := by
  unfold laws_eqRow.b
  repeat' first | with_reducible refine nat_cond ?_ ?_ | with_reducible refine nat_bind fun _ => ?_ | rfl
theorem laws_eqRow.eq (k : Nat) (a0_0 : Int) (a0_1z : Bool) (a0_1 : List Int) (a1_0 : Int) (a1_1z : Bool) (a1_1 : List Int) : answer Try.prog laws_eqRow.Cs 100000 laws_eqRow.cuts [] Try.f176 (k + 1) [.v (.agg [(.int .i64 a0_0), (.nums 5 .u8 a0_1z a0_1)]), .v (.agg [(.int .i64 a1_0), (.nums 5 .u8 a1_1z a1_1)])] = (laws_eqRow.f (k + 1) a0_0 a0_1z a0_1 a1_0 a1_1z a1_1).map laws_eqRow.enc := by
  refine (laws_eqRow.s k a0_0 a0_1z a0_1 a1_0 a1_1z a1_1).trans (Eq.trans ?_ (laws_eqRow.b_nat laws_eqRow.enc some k a0_0 a0_1z a0_1 a1_0 a1_1z a1_1))
  simp only [Option.map_some]
theorem laws_eqRow.sound (k : Nat) : SoundF Try.prog 176 (fun a => (laws_eqRow.ans k a).val) := by
  refine sound_plain (fun args res h => ?_) (fun t n => rfl)
  unfold laws_eqRow.ans at h
  dsimp only at h
  split at h
  · cases k with
    | zero => cases h
    | succ k =>
      unfold Ans.val at h
      rw [← laws_eqRow.eq] at h
      exact answer_sound mixed Try.func176 _ _ _ (k + 1) (fun j _ => tab_sound (tab_cons (laws_eqByteS.sound j) (tab_nil))) _ _ h
  · exact (Ans.no_val h).elim

/-! loop.example/g00790/laws.eqRowS -/
def laws_eqRowS.b {R : Type} (ret : Bool → Option R) (j0 : Bool → (List T) → Bool → (List T) → Int → Option R) (k : Nat) (a0z : Bool) (a0 : List T) (a1z : Bool) (a1 : List T) : Option R :=
  cond (!(decide (((a0).length : Int) = ((a1).length : Int)))) (ret false) (j0 a0z a0 a1z a1 0)
def laws_eqRowS.l0b {R : Type} (ret : Bool → Option R) (j0 : Bool → (List T) → Bool → (List T) → Int → Option R) (k : Nat) (x0z : Bool) (x0 : List T) (x1z : Bool) (x1 : List T) (x5 : Int) : Option R :=
  cond (decide (x5 < ((x0).length : Int))) (cond (decide ((0 : Int) ≤ x5)) (cond (decide (x5 < ((x0).length : Int))) (cond (decide ((0 : Int) ≤ x5)) (cond (decide (x5 < ((x1).length : Int))) ((laws_eqRow.f k (((((x0).getD (x5).toNat .bad).cells.getD 0 .bad)).toInt) (((((x0).getD (x5).toNat .bad).cells.getD 1 .bad)).isNil) (((((x0).getD (x5).toNat .bad).cells.getD 1 .bad)).toNums) (((((x1).getD (x5).toNat .bad).cells.getD 0 .bad)).toInt) (((((x1).getD (x5).toNat .bad).cells.getD 1 .bad)).isNil) (((((x1).getD (x5).toNat .bad).cells.getD 1 .bad)).toNums)).bind fun t0 => cond (!t0) (ret false) (j0 x0z x0 x1z x1 (RowKit.wrap64 (x5 + 1)))) (none)) (none)) (none)) (none)) (ret true)
def laws_eqRowS.l0 : Nat → Bool → (List T) → Bool → (List T) → Int → Option Bool
  | 0, _, _, _, _, _ => none
  | k + 1, x0z, x0, x1z, x1, x5 => laws_eqRowS.l0b some (laws_eqRowS.l0 k) k x0z x0 x1z x1 x5
def laws_eqRowS.f : Nat → Bool → (List T) → Bool → (List T) → Option Bool
  | 0, _, _, _, _ => none
  | k + 1, a0z, a0, a1z, a1 => laws_eqRowS.b some (laws_eqRowS.l0 k) k a0z a0 a1z a1
def laws_eqRowS.enc (r : Bool) : Res := ⟨[.vals false [((.bool r), true)]], []⟩
def laws_eqRowS.ans (k : Nat) : List Arg → Ans
  | [.v (.sl 160 a0z a0), .v (.sl 160 a1z a1)] => ⟨laws_eqRowS.f k a0z a0 a1z a1, laws_eqRowS.enc⟩
  | _ => Ans.no
def laws_eqRowS.Cs (k : Nat) : CallSem := tab [(176, laws_eqRow.ans k)]
def laws_eqRowS.cuts : List (Nat × Keep) := [(58, ⟨[(0, some []), (1, some []), (5, some [])], []⟩)]
noncomputable def laws_eqRowS.K0 : List Fr := framesAt [true, true, false, true, false] (bodyOf Try.f109 laws_eqRowS.cuts) []
def laws_eqRowS.N0 (x0z : Bool) (x0 : List T) (x1z : Bool) (x1 : List T) (x5 : Int) : St := stOf 27 27 2 [(0, .val ⟨(.sl 160 x0z x0), [], false, none⟩), (1, .val ⟨(.sl 160 x1z x1), [], false, none⟩), (5, .val (V.s (.int .i64 x5)))] []
theorem laws_eqRowS.s (k : Nat) (a0z : Bool) (a0 : List T) (a1z : Bool) (a1 : List T) : answer Try.prog laws_eqRowS.Cs 100000 laws_eqRowS.cuts [] Try.f109 (k + 1) [.v (.sl 160 a0z a0), .v (.sl 160 a1z a1)] = laws_eqRowS.b (fun r => some (laws_eqRowS.enc r)) (fun x0z x0 x1z x1 x5 => rounds Try.prog laws_eqRowS.Cs (finish Try.prog [] Try.f109 [.v (.sl 160 a0z a0), .v (.sl 160 a1z a1)]) 100000 k laws_eqRowS.K0 (laws_eqRowS.N0 x0z x0 x1z x1 x5)) k a0z a0 a1z a1 := by kernel_rfl
theorem laws_eqRowS.s0 (k : Nat) (G : List Fr → St → Option Res) (a0z : Bool) (a0 : List T) (a1z : Bool) (a1 : List T) (yx0z : Bool) (yx0 : List T) (yx1z : Bool) (yx1 : List T) (yx5 : Int) : resume Try.prog (laws_eqRowS.Cs k) G (finish Try.prog [] Try.f109 [.v (.sl 160 a0z a0), .v (.sl 160 a1z a1)]) 100000 laws_eqRowS.K0 (laws_eqRowS.N0 yx0z yx0 yx1z yx1 yx5) = laws_eqRowS.l0b (fun r => some (laws_eqRowS.enc r)) (fun x0z x0 x1z x1 x5 => G laws_eqRowS.K0 (laws_eqRowS.N0 x0z x0 x1z x1 x5)) k yx0z yx0 yx1z yx1 yx5 := by kernel_rfl
theorem laws_eqRowS.b_nat {R R' : Type} (e : R → R') (ret : Bool → Option R) (j0 : Bool → (List T) → Bool → (List T) → Int → Option R) (k : Nat) (a0z : Bool) (a0 : List T) (a1z : Bool) (a1 : List T) : laws_eqRowS.b (fun r => (ret r).map e) (fun x0z x0 x1z x1 x5 => (j0 x0z x0 x1z x1 x5).map e) k a0z a0 a1z a1 = (laws_eqRowS.b ret j0 k a0z a0 a1z a1).map e := by
  unfold laws_eqRowS.b
  repeat' first | with_reducible refine nat_cond ?_ ?_ | with_reducible refine nat_bind fun _ => ?_ | rfl
theorem laws_eqRowS.l0b_nat {R R' : Type} (e : R → R') (ret : Bool → Option R) (j0 : Bool → (List T) → Bool → (List T) → Int → Option R) (k : Nat) (x0z : Bool) (x0 : List T) (x1z : Bool) (x1 : List T) (x5 : Int) : laws_eqRowS.l0b (fun r => (ret r).map e) (fun x0z x0 x1z x1 x5 => (j0 x0z x0 x1z x1 x5).map e) k x0z x0 x1z x1 x5 = (laws_eqRowS.l0b ret j0 k x0z x0 x1z x1 x5).map e := by
  unfold laws_eqRowS.l0b
  repeat' first | with_reducible refine nat_cond ?_ ?_ | with_reducible refine nat_bind fun _ => ?_ | rfl
theorem laws_eqRowS.rounds_eq (a0z : Bool) (a0 : List T) (a1z : Bool) (a1 : List T) : ∀ k, (∀ (x0z : Bool) (x0 : List T) (x1z : Bool) (x1 : List T) (x5 : Int), rounds Try.prog laws_eqRowS.Cs (finish Try.prog [] Try.f109 [.v (.sl 160 a0z a0), .v (.sl 160 a1z a1)]) 100000 k laws_eqRowS.K0 (laws_eqRowS.N0 x0z x0 x1z x1 x5) = (laws_eqRowS.l0 k x0z x0 x1z x1 x5).map laws_eqRowS.enc)
  | 0 => fun _ _ _ _ _ => rfl
  | k + 1 => by
    have ih := laws_eqRowS.rounds_eq a0z a0 a1z a1 k
    refine fun _ _ _ _ _ => ?_
    · refine (laws_eqRowS.s0 k _ a0z a0 a1z a1 _ _ _ _ _).trans (Eq.trans ?_ (laws_eqRowS.l0b_nat laws_eqRowS.enc some (laws_eqRowS.l0 k) k _ _ _ _ _))
      simp only [ih, Option.map_some]
theorem laws_eqRowS.eq (k : Nat) (a0z : Bool) (a0 : List T) (a1z : Bool) (a1 : List T) : answer Try.prog laws_eqRowS.Cs 100000 laws_eqRowS.cuts [] Try.f109 (k + 1) [.v (.sl 160 a0z a0), .v (.sl 160 a1z a1)] = (laws_eqRowS.f (k + 1) a0z a0 a1z a1).map laws_eqRowS.enc := by
  have ih := laws_eqRowS.rounds_eq a0z a0 a1z a1 k
  refine (laws_eqRowS.s k a0z a0 a1z a1).trans (Eq.trans ?_ (laws_eqRowS.b_nat laws_eqRowS.enc some (laws_eqRowS.l0 k) k a0z a0 a1z a1))
  simp only [ih, Option.map_some]
theorem laws_eqRowS.sound (k : Nat) : SoundF Try.prog 109 (fun a => (laws_eqRowS.ans k a).val) := by
  refine sound_plain (fun args res h => ?_) (fun t n => rfl)
  unfold laws_eqRowS.ans at h
  dsimp only at h
  split at h
  · cases k with
    | zero => cases h
    | succ k =>
      unfold Ans.val at h
      rw [← laws_eqRowS.eq] at h
      exact answer_sound mixed Try.func109 _ _ _ (k + 1) (fun j _ => tab_sound (tab_cons (laws_eqRow.sound j) (tab_nil))) _ _ h
  · exact (Ans.no_val h).elim

/-! loop.example/g00790/laws.eqTable -/
def laws_eqTable.b {R : Type} (ret : Bool → Option R) (k : Nat) (a0_0z : Bool) (a0_0 : List T) (a1_0z : Bool) (a1_0 : List T) : Option R :=
  (laws_eqRowS.f k a0_0z a0_0 a1_0z a1_0).bind fun t0 => cond (!t0) (ret false) (ret true)
def laws_eqTable.f : Nat → Bool → (List T) → Bool → (List T) → Option Bool
  | 0, _, _, _, _ => none
  | k + 1, a0_0z, a0_0, a1_0z, a1_0 => laws_eqTable.b some k a0_0z a0_0 a1_0z a1_0
def laws_eqTable.enc (r : Bool) : Res := ⟨[.vals false [((.bool r), true)]], []⟩
def laws_eqTable.ans (k : Nat) : List Arg → Ans
  | [.v (.agg [(.sl 160 a0_0z a0_0)]), .v (.agg [(.sl 160 a1_0z a1_0)])] => ⟨laws_eqTable.f k a0_0z a0_0 a1_0z a1_0, laws_eqTable.enc⟩
  | _ => Ans.no
def laws_eqTable.Cs (k : Nat) : CallSem := tab [(109, laws_eqRowS.ans k)]
def laws_eqTable.cuts : List (Nat × Keep) := []
theorem laws_eqTable.s (k : Nat) (a0_0z : Bool) (a0_0 : List T) (a1_0z : Bool) (a1_0 : List T) : answer Try.prog laws_eqTable.Cs 100000 laws_eqTable.cuts [] Try.f36 (k + 1) [.v (.agg [(.sl 160 a0_0z a0_0)]), .v (.agg [(.sl 160 a1_0z a1_0)])] = laws_eqTable.b (fun r => some (laws_eqTable.enc r)) k a0_0z a0_0 a1_0z a1_0 := by kernel_rfl
theorem laws_eqTable.b_nat {R R' : Type} (e : R → R') (ret : Bool → Option R) (k : Nat) (a0_0z : Bool) (a0_0 : List T) (a1_0z : Bool) (a1_0 : List T) : laws_eqTable.b (fun r => (ret r).map e) k a0_0z a0_0 a1_0z a1_0 = (laws_eqTable.b ret k a0_0z a0_0 a1_0z a1_0).map e := by
  unfold laws_eqTable.b
  repeat' first | with_reducible refine nat_cond ?_ ?_ | with_reducible refine nat_bind fun _ => ?_ | rfl
theorem laws_eqTable.eq (k : Nat) (a0_0z : Bool) (a0_0 : List T) (a1_0z : Bool) (a1_0 : List T) : answer Try.prog laws_eqTable.Cs 100000 laws_eqTable.cuts [] Try.f36 (k + 1) [.v (.agg [(.sl 160 a0_0z a0_0)]), .v (.agg [(.sl 160 a1_0z a1_0)])] = (laws_eqTable.f (k + 1) a0_0z a0_0 a1_0z a1_0).map laws_eqTable.enc := by
  refine (laws_eqTable.s k a0_0z a0_0 a1_0z a1_0).trans (Eq.trans ?_ (laws_eqTable.b_nat laws_eqTable.enc some k a0_0z a0_0 a1_0z a1_0))
  simp only [Option.map_some]
theorem laws_eqTable.sound (k : Nat) : SoundF Try.prog 36 (fun a => (laws_eqTable.ans k a).val) := by
  refine sound_plain (fun args res h => ?_) (fun t n => rfl)
  unfold laws_eqTable.ans at h
  dsimp only at h
  split at h
  · cases k with
    | zero => cases h
    | succ k =>
      unfold Ans.val at h
      rw [← laws_eqTable.eq] at h
      exact answer_sound mixed Try.func36 _ _ _ (k + 1) (fun j _ => tab_sound (tab_cons (laws_eqRowS.sound j) (tab_nil))) _ _ h
  · exact (Ans.no_val h).elim

/-! loop.example/g00790/laws.eqPush -/
def laws_eqPush.b {R : Type} (ret : Bool → Option R) (k : Nat) (a0_0 : Int) (a0_1z : Bool) (a0_1 : List Int) (a1_0 : Int) (a1_1z : Bool) (a1_1 : List Int) : Option R :=
  cond (!(decide (a0_0 = a1_0))) (ret false) ((laws_eqByteS.f k a0_1z a0_1 a1_1z a1_1).bind fun t0 => cond (!t0) (ret false) (ret true))
def laws_eqPush.f : Nat → Int → Bool → (List Int) → Int → Bool → (List Int) → Option Bool
  | 0, _, _, _, _, _, _ => none
  | k + 1, a0_0, a0_1z, a0_1, a1_0, a1_1z, a1_1 => laws_eqPush.b some k a0_0 a0_1z a0_1 a1_0 a1_1z a1_1
def laws_eqPush.enc (r : Bool) : Res := ⟨[.vals false [((.bool r), true)]], []⟩
def laws_eqPush.ans (k : Nat) : List Arg → Ans
  | [.v (.agg [(.int .i64 a0_0), (.nums 5 .u8 a0_1z a0_1)]), .v (.agg [(.int .i64 a1_0), (.nums 5 .u8 a1_1z a1_1)])] => ⟨laws_eqPush.f k a0_0 a0_1z a0_1 a1_0 a1_1z a1_1, laws_eqPush.enc⟩
  | _ => Ans.no
def laws_eqPush.Cs (k : Nat) : CallSem := tab [(53, laws_eqByteS.ans k)]
def laws_eqPush.cuts : List (Nat × Keep) := []
theorem laws_eqPush.s (k : Nat) (a0_0 : Int) (a0_1z : Bool) (a0_1 : List Int) (a1_0 : Int) (a1_1z : Bool) (a1_1 : List Int) : answer Try.prog laws_eqPush.Cs 100000 laws_eqPush.cuts [] Try.f95 (k + 1) [.v (.agg [(.int .i64 a0_0), (.nums 5 .u8 a0_1z a0_1)]), .v (.agg [(.int .i64 a1_0), (.nums 5 .u8 a1_1z a1_1)])] = laws_eqPush.b (fun r => some (laws_eqPush.enc r)) k a0_0 a0_1z a0_1 a1_0 a1_1z a1_1 := by kernel_rfl
theorem laws_eqPush.b_nat {R R' : Type} (e : R → R') (ret : Bool → Option R) (k : Nat) (a0_0 : Int) (a0_1z : Bool) (a0_1 : List Int) (a1_0 : Int) (a1_1z : Bool) (a1_1 : List Int) : laws_eqPush.b (fun r => (ret r).map e) k a0_0 a0_1z a0_1 a1_0 a1_1z a1_1 = (laws_eqPush.b ret k a0_0 a0_1z a0_1 a1_0 a1_1z a1_1).map e := by
  unfold laws_eqPush.b
  repeat' first | with_reducible refine nat_cond ?_ ?_ | with_reducible refine nat_bind fun _ => ?_ | rfl
theorem laws_eqPush.eq (k : Nat) (a0_0 : Int) (a0_1z : Bool) (a0_1 : List Int) (a1_0 : Int) (a1_1z : Bool) (a1_1 : List Int) : answer Try.prog laws_eqPush.Cs 100000 laws_eqPush.cuts [] Try.f95 (k + 1) [.v (.agg [(.int .i64 a0_0), (.nums 5 .u8 a0_1z a0_1)]), .v (.agg [(.int .i64 a1_0), (.nums 5 .u8 a1_1z a1_1)])] = (laws_eqPush.f (k + 1) a0_0 a0_1z a0_1 a1_0 a1_1z a1_1).map laws_eqPush.enc := by
  refine (laws_eqPush.s k a0_0 a0_1z a0_1 a1_0 a1_1z a1_1).trans (Eq.trans ?_ (laws_eqPush.b_nat laws_eqPush.enc some k a0_0 a0_1z a0_1 a1_0 a1_1z a1_1))
  simp only [Option.map_some]
theorem laws_eqPush.sound (k : Nat) : SoundF Try.prog 95 (fun a => (laws_eqPush.ans k a).val) := by
  refine sound_plain (fun args res h => ?_) (fun t n => rfl)
  unfold laws_eqPush.ans at h
  dsimp only at h
  split at h
  · cases k with
    | zero => cases h
    | succ k =>
      unfold Ans.val at h
      rw [← laws_eqPush.eq] at h
      exact answer_sound mixed Try.func95 _ _ _ (k + 1) (fun j _ => tab_sound (tab_cons (laws_eqByteS.sound j) (tab_nil))) _ _ h
  · exact (Ans.no_val h).elim

/-! loop.example/g00790/laws.eqByteSS -/
def laws_eqByteSS.b {R : Type} (ret : Bool → Option R) (j0 : Bool → (List T) → Bool → (List T) → Int → Option R) (k : Nat) (a0z : Bool) (a0 : List T) (a1z : Bool) (a1 : List T) : Option R :=
  cond (!(decide (((a0).length : Int) = ((a1).length : Int)))) (ret false) (j0 a0z a0 a1z a1 0)
def laws_eqByteSS.l0b {R : Type} (ret : Bool → Option R) (j0 : Bool → (List T) → Bool → (List T) → Int → Option R) (k : Nat) (x0z : Bool) (x0 : List T) (x1z : Bool) (x1 : List T) (x5 : Int) : Option R :=
  cond (decide (x5 < ((x0).length : Int))) (cond (decide ((0 : Int) ≤ x5)) (cond (decide (x5 < ((x0).length : Int))) (cond (decide ((0 : Int) ≤ x5)) (cond (decide (x5 < ((x1).length : Int))) ((laws_eqByteS.f k (((((x0).getD (x5).toNat .bad).cells.getD 0 .bad)).isNil) (((((x0).getD (x5).toNat .bad).cells.getD 0 .bad)).toNums) (((((x1).getD (x5).toNat .bad).cells.getD 0 .bad)).isNil) (((((x1).getD (x5).toNat .bad).cells.getD 0 .bad)).toNums)).bind fun t0 => cond (!t0) (ret false) (j0 x0z x0 x1z x1 (RowKit.wrap64 (x5 + 1)))) (none)) (none)) (none)) (none)) (ret true)
def laws_eqByteSS.l0 : Nat → Bool → (List T) → Bool → (List T) → Int → Option Bool
  | 0, _, _, _, _, _ => none
  | k + 1, x0z, x0, x1z, x1, x5 => laws_eqByteSS.l0b some (laws_eqByteSS.l0 k) k x0z x0 x1z x1 x5
def laws_eqByteSS.f : Nat → Bool → (List T) → Bool → (List T) → Option Bool
  | 0, _, _, _, _ => none
  | k + 1, a0z, a0, a1z, a1 => laws_eqByteSS.b some (laws_eqByteSS.l0 k) k a0z a0 a1z a1
def laws_eqByteSS.enc (r : Bool) : Res := ⟨[.vals false [((.bool r), true)]], []⟩
def laws_eqByteSS.ans (k : Nat) : List Arg → Ans
  | [.v (.sl 45 a0z a0), .v (.sl 45 a1z a1)] => ⟨laws_eqByteSS.f k a0z a0 a1z a1, laws_eqByteSS.enc⟩
  | _ => Ans.no
def laws_eqByteSS.Cs (k : Nat) : CallSem := tab [(53, laws_eqByteS.ans k)]
def laws_eqByteSS.cuts : List (Nat × Keep) := [(58, ⟨[(0, some []), (1, some []), (5, some [])], []⟩)]
noncomputable def laws_eqByteSS.K0 : List Fr := framesAt [true, true, false, true, false] (bodyOf Try.f110 laws_eqByteSS.cuts) []
def laws_eqByteSS.N0 (x0z : Bool) (x0 : List T) (x1z : Bool) (x1 : List T) (x5 : Int) : St := stOf 27 27 2 [(0, .val ⟨(.sl 45 x0z x0), [], false, none⟩), (1, .val ⟨(.sl 45 x1z x1), [], false, none⟩), (5, .val (V.s (.int .i64 x5)))] []
theorem laws_eqByteSS.s (k : Nat) (a0z : Bool) (a0 : List T) (a1z : Bool) (a1 : List T) : answer Try.prog laws_eqByteSS.Cs 100000 laws_eqByteSS.cuts [] Try.f110 (k + 1) [.v (.sl 45 a0z a0), .v (.sl 45 a1z a1)] = laws_eqByteSS.b (fun r => some (laws_eqByteSS.enc r)) (fun x0z x0 x1z x1 x5 => rounds Try.prog laws_eqByteSS.Cs (finish Try.prog [] Try.f110 [.v (.sl 45 a0z a0), .v (.sl 45 a1z a1)]) 100000 k laws_eqByteSS.K0 (laws_eqByteSS.N0 x0z x0 x1z x1 x5)) k a0z a0 a1z a1 := by kernel_rfl
theorem laws_eqByteSS.s0 (k : Nat) (G : List Fr → St → Option Res) (a0z : Bool) (a0 : List T) (a1z : Bool) (a1 : List T) (yx0z : Bool) (yx0 : List T) (yx1z : Bool) (yx1 : List T) (yx5 : Int) : resume Try.prog (laws_eqByteSS.Cs k) G (finish Try.prog [] Try.f110 [.v (.sl 45 a0z a0), .v (.sl 45 a1z a1)]) 100000 laws_eqByteSS.K0 (laws_eqByteSS.N0 yx0z yx0 yx1z yx1 yx5) = laws_eqByteSS.l0b (fun r => some (laws_eqByteSS.enc r)) (fun x0z x0 x1z x1 x5 => G laws_eqByteSS.K0 (laws_eqByteSS.N0 x0z x0 x1z x1 x5)) k yx0z yx0 yx1z yx1 yx5 := by kernel_rfl
theorem laws_eqByteSS.b_nat {R R' : Type} (e : R → R') (ret : Bool → Option R) (j0 : Bool → (List T) → Bool → (List T) → Int → Option R) (k : Nat) (a0z : Bool) (a0 : List T) (a1z : Bool) (a1 : List T) : laws_eqByteSS.b (fun r => (ret r).map e) (fun x0z x0 x1z x1 x5 => (j0 x0z x0 x1z x1 x5).map e) k a0z a0 a1z a1 = (laws_eqByteSS.b ret j0 k a0z a0 a1z a1).map e := by
  unfold laws_eqByteSS.b
  repeat' first | with_reducible refine nat_cond ?_ ?_ | with_reducible refine nat_bind fun _ => ?_ | rfl
theorem laws_eqByteSS.l0b_nat {R R' : Type} (e : R → R') (ret : Bool → Option R) (j0 : Bool → (List T) → Bool → (List T) → Int → Option R) (k : Nat) (x0z : Bool) (x0 : List T) (x1z : Bool) (x1 : List T) (x5 : Int) : laws_eqByteSS.l0b (fun r => (ret r).map e) (fun x0z x0 x1z x1 x5 => (j0 x0z x0 x1z x1 x5).map e) k x0z x0 x1z x1 x5 = (laws_eqByteSS.l0b ret j0 k x0z x0 x1z x1 x5).map e := by
  unfold laws_eqByteSS.l0b
  repeat' first | with_reducible refine nat_cond ?_ ?_ | with_reducible refine nat_bind fun _ => ?_ | rfl
theorem laws_eqByteSS.rounds_eq (a0z : Bool) (a0 : List T) (a1z : Bool) (a1 : List T) : ∀ k, (∀ (x0z : Bool) (x0 : List T) (x1z : Bool) (x1 : List T) (x5 : Int), rounds Try.prog laws_eqByteSS.Cs (finish Try.prog [] Try.f110 [.v (.sl 45 a0z a0), .v (.sl 45 a1z a1)]) 100000 k laws_eqByteSS.K0 (laws_eqByteSS.N0 x0z x0 x1z x1 x5) = (laws_eqByteSS.l0 k x0z x0 x1z x1 x5).map laws_eqByteSS.enc)
  | 0 => fun _ _ _ _ _ => rfl
  | k + 1 => by
    have ih := laws_eqByteSS.rounds_eq a0z a0 a1z a1 k
    refine fun _ _ _ _ _ => ?_
    · refine (laws_eqByteSS.s0 k _ a0z a0 a1z a1 _ _ _ _ _).trans (Eq.trans ?_ (laws_eqByteSS.l0b_nat laws_eqByteSS.enc some (laws_eqByteSS.l0 k) k _ _ _ _ _))
      simp only [ih, Option.map_some]
theorem laws_eqByteSS.eq (k : Nat) (a0z : Bool) (a0 : List T) (a1z : Bool) (a1 : List T) : answer Try.prog laws_eqByteSS.Cs 100000 laws_eqByteSS.cuts [] Try.f110 (k + 1) [.v (.sl 45 a0z a0), .v (.sl 45 a1z a1)] = (laws_eqByteSS.f (k + 1) a0z a0 a1z a1).map laws_eqByteSS.enc := by
  have ih := laws_eqByteSS.rounds_eq a0z a0 a1z a1 k
  refine (laws_eqByteSS.s k a0z a0 a1z a1).trans (Eq.trans ?_ (laws_eqByteSS.b_nat laws_eqByteSS.enc some (laws_eqByteSS.l0 k) k a0z a0 a1z a1))
  simp only [ih, Option.map_some]
theorem laws_eqByteSS.sound (k : Nat) : SoundF Try.prog 110 (fun a => (laws_eqByteSS.ans k a).val) := by
  refine sound_plain (fun args res h => ?_) (fun t n => rfl)
  unfold laws_eqByteSS.ans at h
  dsimp only at h
  split at h
  · cases k with
    | zero => cases h
    | succ k =>
      unfold Ans.val at h
      rw [← laws_eqByteSS.eq] at h
      exact answer_sound mixed Try.func110 _ _ _ (k + 1) (fun j _ => tab_sound (tab_cons (laws_eqByteS.sound j) (tab_nil))) _ _ h
  · exact (Ans.no_val h).elim

/-! loop.example/g00790/laws.eqQc -/
def laws_eqQc.b {R : Type} (ret : Bool → Option R) (k : Nat) (a0_0 : Int) (a0_1 : Int) (a0_2z : Bool) (a0_2 : List Int) (a0_3z : Bool) (a0_3 : List Int) (a0_4z : Bool) (a0_4 : List T) (a1_0 : Int) (a1_1 : Int) (a1_2z : Bool) (a1_2 : List Int) (a1_3z : Bool) (a1_3 : List Int) (a1_4z : Bool) (a1_4 : List T) : Option R :=
  cond (!(decide (a0_0 = a1_0))) (ret false) (cond (!(decide (a0_1 = a1_1))) (ret false) ((laws_eqByteS.f k a0_2z a0_2 a1_2z a1_2).bind fun t0 => cond (!t0) (ret false) ((laws_eqByteS.f k a0_3z a0_3 a1_3z a1_3).bind fun t1 => cond (!t1) (ret false) ((laws_eqByteSS.f k a0_4z a0_4 a1_4z a1_4).bind fun t2 => cond (!t2) (ret false) (ret true)))))
def laws_eqQc.f : Nat → Int → Int → Bool → (List Int) → Bool → (List Int) → Bool → (List T) → Int → Int → Bool → (List Int) → Bool → (List Int) → Bool → (List T) → Option Bool
  | 0, _, _, _, _, _, _, _, _, _, _, _, _, _, _, _, _ => none
  | k + 1, a0_0, a0_1, a0_2z, a0_2, a0_3z, a0_3, a0_4z, a0_4, a1_0, a1_1, a1_2z, a1_2, a1_3z, a1_3, a1_4z, a1_4 => laws_eqQc.b some k a0_0 a0_1 a0_2z a0_2 a0_3z a0_3 a0_4z a0_4 a1_0 a1_1 a1_2z a1_2 a1_3z a1_3 a1_4z a1_4
def laws_eqQc.enc (r : Bool) : Res := ⟨[.vals false [((.bool r), true)]], []⟩
def laws_eqQc.ans (k : Nat) : List Arg → Ans
  | [.v (.agg [(.int .i64 a0_0), (.int .i64 a0_1), (.nums 5 .u8 a0_2z a0_2), (.nums 5 .u8 a0_3z a0_3), (.sl 45 a0_4z a0_4)]), .v (.agg [(.int .i64 a1_0), (.int .i64 a1_1), (.nums 5 .u8 a1_2z a1_2), (.nums 5 .u8 a1_3z a1_3), (.sl 45 a1_4z a1_4)])] => ⟨laws_eqQc.f k a0_0 a0_1 a0_2z a0_2 a0_3z a0_3 a0_4z a0_4 a1_0 a1_1 a1_2z a1_2 a1_3z a1_3 a1_4z a1_4, laws_eqQc.enc⟩
  | _ => Ans.no
def laws_eqQc.Cs (k : Nat) : CallSem := tab [(53, laws_eqByteS.ans k), (110, laws_eqByteSS.ans k)]
def laws_eqQc.cuts : List (Nat × Keep) := []
theorem laws_eqQc.s (k : Nat) (a0_0 : Int) (a0_1 : Int) (a0_2z : Bool) (a0_2 : List Int) (a0_3z : Bool) (a0_3 : List Int) (a0_4z : Bool) (a0_4 : List T) (a1_0 : Int) (a1_1 : Int) (a1_2z : Bool) (a1_2 : List Int) (a1_3z : Bool) (a1_3 : List Int) (a1_4z : Bool) (a1_4 : List T) : answer Try.prog laws_eqQc.Cs 100000 laws_eqQc.cuts [] Try.f37 (k + 1) [.v (.agg [(.int .i64 a0_0), (.int .i64 a0_1), (.nums 5 .u8 a0_2z a0_2), (.nums 5 .u8 a0_3z a0_3), (.sl 45 a0_4z a0_4)]), .v (.agg [(.int .i64 a1_0), (.int .i64 a1_1), (.nums 5 .u8 a1_2z a1_2), (.nums 5 .u8 a1_3z a1_3), (.sl 45 a1_4z a1_4)])] = laws_eqQc.b (fun r => some (laws_eqQc.enc r)) k a0_0 a0_1 a0_2z a0_2 a0_3z a0_3 a0_4z a0_4 a1_0 a1_1 a1_2z a1_2 a1_3z a1_3 a1_4z a1_4 := by kernel_rfl
theorem laws_eqQc.b_nat {R R' : Type} (e : R → R') (ret : Bool → Option R) (k : Nat) (a0_0 : Int) (a0_1 : Int) (a0_2z : Bool) (a0_2 : List Int) (a0_3z : Bool) (a0_3 : List Int) (a0_4z : Bool) (a0_4 : List T) (a1_0 : Int) (a1_1 : Int) (a1_2z : Bool) (a1_2 : List Int) (a1_3z : Bool) (a1_3 : List Int) (a1_4z : Bool) (a1_4 : List T) : laws_eqQc.b (fun r => (ret r).map e) k a0_0 a0_1 a0_2z a0_2 a0_3z a0_3 a0_4z a0_4 a1_0 a1_1 a1_2z a1_2 a1_3z a1_3 a1_4z a1_4 = (laws_eqQc.b ret k a0_0 a0_1 a0_2z a0_2 a0_3z a0_3 a0_4z a0_4 a1_0 a1_1 a1_2z a1_2 a1_3z a1_3 a1_4z a1_4).map e := by
  unfold laws_eqQc.b
  repeat' first | with_reducible refine nat_cond ?_ ?_ | with_reducible refine nat_bind fun _ => ?_ | rfl
theorem laws_eqQc.eq (k : Nat) (a0_0 : Int) (a0_1 : Int) (a0_2z : Bool) (a0_2 : List Int) (a0_3z : Bool) (a0_3 : List Int) (a0_4z : Bool) (a0_4 : List T) (a1_0 : Int) (a1_1 : Int) (a1_2z : Bool) (a1_2 : List Int) (a1_3z : Bool) (a1_3 : List Int) (a1_4z : Bool) (a1_4 : List T) : answer Try.prog laws_eqQc.Cs 100000 laws_eqQc.cuts [] Try.f37 (k + 1) [.v (.agg [(.int .i64 a0_0), (.int .i64 a0_1), (.nums 5 .u8 a0_2z a0_2), (.nums 5 .u8 a0_3z a0_3), (.sl 45 a0_4z a0_4)]), .v (.agg [(.int .i64 a1_0), (.int .i64 a1_1), (.nums 5 .u8 a1_2z a1_2), (.nums 5 .u8 a1_3z a1_3), (.sl 45 a1_4z a1_4)])] = (laws_eqQc.f (k + 1) a0_0 a0_1 a0_2z a0_2 a0_3z a0_3 a0_4z a0_4 a1_0 a1_1 a1_2z a1_2 a1_3z a1_3 a1_4z a1_4).map laws_eqQc.enc := by
  refine (laws_eqQc.s k a0_0 a0_1 a0_2z a0_2 a0_3z a0_3 a0_4z a0_4 a1_0 a1_1 a1_2z a1_2 a1_3z a1_3 a1_4z a1_4).trans (Eq.trans ?_ (laws_eqQc.b_nat laws_eqQc.enc some k a0_0 a0_1 a0_2z a0_2 a0_3z a0_3 a0_4z a0_4 a1_0 a1_1 a1_2z a1_2 a1_3z a1_3 a1_4z a1_4))
  simp only [Option.map_some]
theorem laws_eqQc.sound (k : Nat) : SoundF Try.prog 37 (fun a => (laws_eqQc.ans k a).val) := by
  refine sound_plain (fun args res h => ?_) (fun t n => rfl)
  unfold laws_eqQc.ans at h
  dsimp only at h
  split at h
  · cases k with
    | zero => cases h
    | succ k =>
      unfold Ans.val at h
      rw [← laws_eqQc.eq] at h
      exact answer_sound mixed Try.func37 _ _ _ (k + 1) (fun j _ => tab_sound (tab_cons (laws_eqByteS.sound j) (tab_cons (laws_eqByteSS.sound j) (tab_nil)))) _ _ h
  · exact (Ans.no_val h).elim

/-! loop.example/g00790/laws.eqHead -/
def laws_eqHead.b {R : Type} (ret : Bool → Option R) (k : Nat) (a0_0 : Int) (a0_1 : Int) (a0_2 : Int) (a0_3z : Bool) (a0_3 : List Int) (a0_4z : Bool) (a0_4 : List Int) (a0_5 : Int) (a0_6 : Int) (a0_7z : Bool) (a0_7 : List Int) (a0_8z : Bool) (a0_8 : List Int) (a0_9z : Bool) (a0_9 : List T) (a1_0 : Int) (a1_1 : Int) (a1_2 : Int) (a1_3z : Bool) (a1_3 : List Int) (a1_4z : Bool) (a1_4 : List Int) (a1_5 : Int) (a1_6 : Int) (a1_7z : Bool) (a1_7 : List Int) (a1_8z : Bool) (a1_8 : List Int) (a1_9z : Bool) (a1_9 : List T) : Option R :=
  cond (!(decide (a0_0 = a1_0))) (ret false) (cond (!(decide (a0_1 = a1_1))) (ret false) (cond (!(decide (a0_2 = a1_2))) (ret false) ((laws_eqByteS.f k a0_3z a0_3 a1_3z a1_3).bind fun t0 => cond (!t0) (ret false) ((laws_eqByteS.f k a0_4z a0_4 a1_4z a1_4).bind fun t1 => cond (!t1) (ret false) ((laws_eqQc.f k a0_5 a0_6 a0_7z a0_7 a0_8z a0_8 a0_9z a0_9 a1_5 a1_6 a1_7z a1_7 a1_8z a1_8 a1_9z a1_9).bind fun t2 => cond (!t2) (ret false) (ret true))))))
def laws_eqHead.f : Nat → Int → Int → Int → Bool → (List Int) → Bool → (List Int) → Int → Int → Bool → (List Int) → Bool → (List Int) → Bool → (List T) → Int → Int → Int → Bool → (List Int) → Bool → (List Int) → Int → Int → Bool → (List Int) → Bool → (List Int) → Bool → (List T) → Option Bool
  | 0, _, _, _, _, _, _, _, _, _, _, _, _, _, _, _, _, _, _, _, _, _, _, _, _, _, _, _, _, _, _ => none
  | k + 1, a0_0, a0_1, a0_2, a0_3z, a0_3, a0_4z, a0_4, a0_5, a0_6, a0_7z, a0_7, a0_8z, a0_8, a0_9z, a0_9, a1_0, a1_1, a1_2, a1_3z, a1_3, a1_4z, a1_4, a1_5, a1_6, a1_7z, a1_7, a1_8z, a1_8, a1_9z, a1_9 => laws_eqHead.b some k a0_0 a0_1 a0_2 a0_3z a0_3 a0_4z a0_4 a0_5 a0_6 a0_7z a0_7 a0_8z a0_8 a0_9z a0_9 a1_0 a1_1 a1_2 a1_3z a1_3 a1_4z a1_4 a1_5 a1_6 a1_7z a1_7 a1_8z a1_8 a1_9z a1_9
def laws_eqHead.enc (r : Bool) : Res := ⟨[.vals false [((.bool r), true)]], []⟩
def laws_eqHead.ans (k : Nat) : List Arg → Ans
  | [.v (.agg [(.int .i64 a0_0), (.int .i64 a0_1), (.int .i64 a0_2), (.nums 5 .u8 a0_3z a0_3), (.nums 5 .u8 a0_4z a0_4), (.int .i64 a0_5), (.int .i64 a0_6), (.nums 5 .u8 a0_7z a0_7), (.nums 5 .u8 a0_8z a0_8), (.sl 45 a0_9z a0_9)]), .v (.agg [(.int .i64 a1_0), (.int .i64 a1_1), (.int .i64 a1_2), (.nums 5 .u8 a1_3z a1_3), (.nums 5 .u8 a1_4z a1_4), (.int .i64 a1_5), (.int .i64 a1_6), (.nums 5 .u8 a1_7z a1_7), (.nums 5 .u8 a1_8z a1_8), (.sl 45 a1_9z a1_9)])] => ⟨laws_eqHead.f k a0_0 a0_1 a0_2 a0_3z a0_3 a0_4z a0_4 a0_5 a0_6 a0_7z a0_7 a0_8z a0_8 a0_9z a0_9 a1_0 a1_1 a1_2 a1_3z a1_3 a1_4z a1_4 a1_5 a1_6 a1_7z a1_7 a1_8z a1_8 a1_9z a1_9, laws_eqHead.enc⟩
  | _ => Ans.no
def laws_eqHead.Cs (k : Nat) : CallSem := tab [(53, laws_eqByteS.ans k), (37, laws_eqQc.ans k)]
def laws_eqHead.cuts : List (Nat × Keep) := []
theorem laws_eqHead.s (k : Nat) (a0_0 : Int) (a0_1 : Int) (a0_2 : Int) (a0_3z : Bool) (a0_3 : List Int) (a0_4z : Bool) (a0_4 : List Int) (a0_5 : Int) (a0_6 : Int) (a0_7z : Bool) (a0_7 : List Int) (a0_8z : Bool) (a0_8 : List Int) (a0_9z : Bool) (a0_9 : List T) (a1_0 : Int) (a1_1 : Int) (a1_2 : Int) (a1_3z : Bool) (a1_3 : List Int) (a1_4z : Bool) (a1_4 : List Int) (a1_5 : Int) (a1_6 : Int) (a1_7z : Bool) (a1_7 : List Int) (a1_8z : Bool) (a1_8 : List Int) (a1_9z : Bool) (a1_9 : List T) : answer Try.prog laws_eqHead.Cs 100000 laws_eqHead.cuts [] Try.f80 (k + 1) [.v (.agg [(.int .i64 a0_0), (.int .i64 a0_1), (.int .i64 a0_2), (.nums 5 .u8 a0_3z a0_3), (.nums 5 .u8 a0_4z a0_4), (.int .i64 a0_5), (.int .i64 a0_6), (.nums 5 .u8 a0_7z a0_7), (.nums 5 .u8 a0_8z a0_8), (.sl 45 a0_9z a0_9)]), .v (.agg [(.int .i64 a1_0), (.int .i64 a1_1), (.int .i64 a1_2), (.nums 5 .u8 a1_3z a1_3), (.nums 5 .u8 a1_4z a1_4), (.int .i64 a1_5), (.int .i64 a1_6), (.nums 5 .u8 a1_7z a1_7), (.nums 5 .u8 a1_8z a1_8), (.sl 45 a1_9z a1_9)])] = laws_eqHead.b (fun r => some (laws_eqHead.enc r)) k a0_0 a0_1 a0_2 a0_3z a0_3 a0_4z a0_4 a0_5 a0_6 a0_7z a0_7 a0_8z a0_8 a0_9z a0_9 a1_0 a1_1 a1_2 a1_3z a1_3 a1_4z a1_4 a1_5 a1_6 a1_7z a1_7 a1_8z a1_8 a1_9z a1_9 := by kernel_rfl
theorem laws_eqHead.b_nat {R R' : Type} (e : R → R') (ret : Bool → Option R) (k : Nat) (a0_0 : Int) (a0_1 : Int) (a0_2 : Int) (a0_3z : Bool) (a0_3 : List Int) (a0_4z : Bool) (a0_4 : List Int) (a0_5 : Int) (a0_6 : Int) (a0_7z : Bool) (a0_7 : List Int) (a0_8z : Bool) (a0_8 : List Int) (a0_9z : Bool) (a0_9 : List T) (a1_0 : Int) (a1_1 : Int) (a1_2 : Int) (a1_3z : Bool) (a1_3 : List Int) (a1_4z : Bool) (a1_4 : List Int) (a1_5 : Int) (a1_6 : Int) (a1_7z : Bool) (a1_7 : List Int) (a1_8z : Bool) (a1_8 : List Int) (a1_9z : Bool) (a1_9 : List T) : laws_eqHead.b (fun r => (ret r).map e) k a0_0 a0_1 a0_2 a0_3z a0_3 a0_4z a0_4 a0_5 a0_6 a0_7z a0_7 a0_8z a0_8 a0_9z a0_9 a1_0 a1_1 a1_2 a1_3z a1_3 a1_4z a1_4 a1_5 a1_6 a1_7z a1_7 a1_8z a1_8 a1_9z a1_9 = (laws_eqHead.b ret k a0_0 a0_1 a0_2 a0_3z a0_3 a0_4z a0_4 a0_5 a0_6 a0_7z a0_7 a0_8z a0_8 a0_9z a0_9 a1_0 a1_1 a1_2 a1_3z a1_3 a1_4z a1_4 a1_5 a1_6 a1_7z a1_7 a1_8z a1_8 a1_9z a1_9).map e := by
  unfold laws_eqHead.b
  repeat' first | with_reducible refine nat_cond ?_ ?_ | with_reducible refine nat_bind fun _ => ?_ | rfl
theorem laws_eqHead.eq (k : Nat) (a0_0 : Int) (a0_1 : Int) (a0_2 : Int) (a0_3z : Bool) (a0_3 : List Int) (a0_4z : Bool) (a0_4 : List Int) (a0_5 : Int) (a0_6 : Int) (a0_7z : Bool) (a0_7 : List Int) (a0_8z : Bool) (a0_8 : List Int) (a0_9z : Bool) (a0_9 : List T) (a1_0 : Int) (a1_1 : Int) (a1_2 : Int) (a1_3z : Bool) (a1_3 : List Int) (a1_4z : Bool) (a1_4 : List Int) (a1_5 : Int) (a1_6 : Int) (a1_7z : Bool) (a1_7 : List Int) (a1_8z : Bool) (a1_8 : List Int) (a1_9z : Bool) (a1_9 : List T) : answer Try.prog laws_eqHead.Cs 100000 laws_eqHead.cuts [] Try.f80 (k + 1) [.v (.agg [(.int .i64 a0_0), (.int .i64 a0_1), (.int .i64 a0_2), (.nums 5 .u8 a0_3z a0_3), (.nums 5 .u8 a0_4z a0_4), (.int .i64 a0_5), (.int .i64 a0_6), (.nums 5 .u8 a0_7z a0_7), (.nums 5 .u8 a0_8z a0_8), (.sl 45 a0_9z a0_9)]), .v (.agg [(.int .i64 a1_0), (.int .i64 a1_1), (.int .i64 a1_2), (.nums 5 .u8 a1_3z a1_3), (.nums 5 .u8 a1_4z a1_4), (.int .i64 a1_5), (.int .i64 a1_6), (.nums 5 .u8 a1_7z a1_7), (.nums 5 .u8 a1_8z a1_8), (.sl 45 a1_9z a1_9)])] = (laws_eqHead.f (k + 1) a0_0 a0_1 a0_2 a0_3z a0_3 a0_4z a0_4 a0_5 a0_6 a0_7z a0_7 a0_8z a0_8 a0_9z a0_9 a1_0 a1_1 a1_2 a1_3z a1_3 a1_4z a1_4 a1_5 a1_6 a1_7z a1_7 a1_8z a1_8 a1_9z a1_9).map laws_eqHead.enc := by
  refine (laws_eqHead.s k a0_0 a0_1 a0_2 a0_3z a0_3 a0_4z a0_4 a0_5 a0_6 a0_7z a0_7 a0_8z a0_8 a0_9z a0_9 a1_0 a1_1 a1_2 a1_3z a1_3 a1_4z a1_4 a1_5 a1_6 a1_7z a1_7 a1_8z a1_8 a1_9z a1_9).trans (Eq.trans ?_ (laws_eqHead.b_nat laws_eqHead.enc some k a0_0 a0_1 a0_2 a0_3z a0_3 a0_4z a0_4 a0_5 a0_6 a0_7z a0_7 a0_8z a0_8 a0_9z a0_9 a1_0 a1_1 a1_2 a1_3z a1_3 a1_4z a1_4 a1_5 a1_6 a1_7z a1_7 a1_8z a1_8 a1_9z a1_9))
  simp only [Option.map_some]
theorem laws_eqHead.sound (k : Nat) : SoundF Try.prog 80 (fun a => (laws_eqHead.ans k a).val) := by
  refine sound_plain (fun args res h => ?_) (fun t n => rfl)
  unfold laws_eqHead.ans at h
  dsimp only at h
  split at h
  · cases k with
    | zero => cases h
    | succ k =>
      unfold Ans.val at h
      rw [← laws_eqHead.eq] at h
      exact answer_sound mixed Try.func80 _ _ _ (k + 1) (fun j _ => tab_sound (tab_cons (laws_eqByteS.sound j) (tab_cons (laws_eqQc.sound j) (tab_nil)))) _ _ h
  · exact (Ans.no_val h).elim

/-! loop.example/g00790/laws.eqHeadS -/
def laws_eqHeadS.b {R : Type} (ret : Bool → Option R) (j0 : Bool → (List T) → Bool → (List T) → Int → Option R) (k : Nat) (a0z : Bool) (a0 : List T) (a1z : Bool) (a1 : List T) : Option R :=
  cond (!(decide (((a0).length : Int) = ((a1).length : Int)))) (ret false) (j0 a0z a0 a1z a1 0)
def laws_eqHeadS.l0b {R : Type} (ret : Bool → Option R) (j0 : Bool → (List T) → Bool → (List T) → Int → Option R) (k : Nat) (x0z : Bool) (x0 : List T) (x1z : Bool) (x1 : List T) (x5 : Int) : Option R :=
  cond (decide (x5 < ((x0).length : Int))) (cond (decide ((0 : Int) ≤ x5)) (cond (decide (x5 < ((x0).length : Int))) (cond (decide ((0 : Int) ≤ x5)) (cond (decide (x5 < ((x1).length : Int))) ((laws_eqHead.f k (((((x0).getD (x5).toNat .bad).cells.getD 0 .bad)).toInt) (((((x0).getD (x5).toNat .bad).cells.getD 1 .bad)).toInt) (((((x0).getD (x5).toNat .bad).cells.getD 2 .bad)).toInt) (((((x0).getD (x5).toNat .bad).cells.getD 3 .bad)).isNil) (((((x0).getD (x5).toNat .bad).cells.getD 3 .bad)).toNums) (((((x0).getD (x5).toNat .bad).cells.getD 4 .bad)).isNil) (((((x0).getD (x5).toNat .bad).cells.getD 4 .bad)).toNums) (((((x0).getD (x5).toNat .bad).cells.getD 5 .bad)).toInt) (((((x0).getD (x5).toNat .bad).cells.getD 6 .bad)).toInt) (((((x0).getD (x5).toNat .bad).cells.getD 7 .bad)).isNil) (((((x0).getD (x5).toNat .bad).cells.getD 7 .bad)).toNums) (((((x0).getD (x5).toNat .bad).cells.getD 8 .bad)).isNil) (((((x0).getD (x5).toNat .bad).cells.getD 8 .bad)).toNums) (((((x0).getD (x5).toNat .bad).cells.getD 9 .bad)).isNil) (((((x0).getD (x5).toNat .bad).cells.getD 9 .bad)).toList) (((((x1).getD (x5).toNat .bad).cells.getD 0 .bad)).toInt) (((((x1).getD (x5).toNat .bad).cells.getD 1 .bad)).toInt) (((((x1).getD (x5).toNat .bad).cells.getD 2 .bad)).toInt) (((((x1).getD (x5).toNat .bad).cells.getD 3 .bad)).isNil) (((((x1).getD (x5).toNat .bad).cells.getD 3 .bad)).toNums) (((((x1).getD (x5).toNat .bad).cells.getD 4 .bad)).isNil) (((((x1).getD (x5).toNat .bad).cells.getD 4 .bad)).toNums) (((((x1).getD (x5).toNat .bad).cells.getD 5 .bad)).toInt) (((((x1).getD (x5).toNat .bad).cells.getD 6 .bad)).toInt) (((((x1).getD (x5).toNat .bad).cells.getD 7 .bad)).isNil) (((((x1).getD (x5).toNat .bad).cells.getD 7 .bad)).toNums) (((((x1).getD (x5).toNat .bad).cells.getD 8 .bad)).isNil) (((((x1).getD (x5).toNat .bad).cells.getD 8 .bad)).toNums) (((((x1).getD (x5).toNat .bad).cells.getD 9 .bad)).isNil) (((((x1).getD (x5).toNat .bad).cells.getD 9 .bad)).toList)).bind fun t0 => cond (!t0) (ret false) (j0 x0z x0 x1z x1 (RowKit.wrap64 (x5 + 1)))) (none)) (none)) (none)) (none)) (ret true)
def laws_eqHeadS.l0 : Nat → Bool → (List T) → Bool → (List T) → Int → Option Bool
  | 0, _, _, _, _, _ => none
  | k + 1, x0z, x0, x1z, x1, x5 => laws_eqHeadS.l0b some (laws_eqHeadS.l0 k) k x0z x0 x1z x1 x5
def laws_eqHeadS.f : Nat → Bool → (List T) → Bool → (List T) → Option Bool
  | 0, _, _, _, _ => none
  | k + 1, a0z, a0, a1z, a1 => laws_eqHeadS.b some (laws_eqHeadS.l0 k) k a0z a0 a1z a1
def laws_eqHeadS.enc (r : Bool) : Res := ⟨[.vals false [((.bool r), true)]], []⟩
def laws_eqHeadS.ans (k : Nat) : List Arg → Ans
  | [.v (.sl 124 a0z a0), .v (.sl 124 a1z a1)] => ⟨laws_eqHeadS.f k a0z a0 a1z a1, laws_eqHeadS.enc⟩
  | _ => Ans.no
def laws_eqHeadS.Cs (k : Nat) : CallSem := tab [(80, laws_eqHead.ans k)]
def laws_eqHeadS.cuts : List (Nat × Keep) := [(58, ⟨[(0, some []), (1, some []), (5, some [])], []⟩)]
noncomputable def laws_eqHeadS.K0 : List Fr := framesAt [true, true, false, true, false] (bodyOf Try.f19 laws_eqHeadS.cuts) []
def laws_eqHeadS.N0 (x0z : Bool) (x0 : List T) (x1z : Bool) (x1 : List T) (x5 : Int) : St := stOf 27 27 2 [(0, .val ⟨(.sl 124 x0z x0), [], false, none⟩), (1, .val ⟨(.sl 124 x1z x1), [], false, none⟩), (5, .val (V.s (.int .i64 x5)))] []
theorem laws_eqHeadS.s (k : Nat) (a0z : Bool) (a0 : List T) (a1z : Bool) (a1 : List T) : answer Try.prog laws_eqHeadS.Cs 100000 laws_eqHeadS.cuts [] Try.f19 (k + 1) [.v (.sl 124 a0z a0), .v (.sl 124 a1z a1)] = laws_eqHeadS.b (fun r => some (laws_eqHeadS.enc r)) (fun x0z x0 x1z x1 x5 => rounds Try.prog laws_eqHeadS.Cs (finish Try.prog [] Try.f19 [.v (.sl 124 a0z a0), .v (.sl 124 a1z a1)]) 100000 k laws_eqHeadS.K0 (laws_eqHeadS.N0 x0z x0 x1z x1 x5)) k a0z a0 a1z a1 := by kernel_rfl
theorem laws_eqHeadS.s0 (k : Nat) (G : List Fr → St → Option Res) (a0z : Bool) (a0 : List T) (a1z : Bool) (a1 : List T) (yx0z : Bool) (yx0 : List T) (yx1z : Bool) (yx1 : List T) (yx5 : Int) : resume Try.prog (laws_eqHeadS.Cs k) G (finish Try.prog [] Try.f19 [.v (.sl 124 a0z a0), .v (.sl 124 a1z a1)]) 100000 laws_eqHeadS.K0 (laws_eqHeadS.N0 yx0z yx0 yx1z yx1 yx5) = laws_eqHeadS.l0b (fun r => some (laws_eqHeadS.enc r)) (fun x0z x0 x1z x1 x5 => G laws_eqHeadS.K0 (laws_eqHeadS.N0 x0z x0 x1z x1 x5)) k yx0z yx0 yx1z yx1 yx5 := by kernel_rfl
theorem laws_eqHeadS.b_nat {R R' : Type} (e : R → R') (ret : Bool → Option R) (j0 : Bool → (List T) → Bool → (List T) → Int → Option R) (k : Nat) (a0z : Bool) (a0 : List T) (a1z : Bool) (a1 : List T) : laws_eqHeadS.b (fun r => (ret r).map e) (fun x0z x0 x1z x1 x5 => (j0 x0z x0 x1z x1 x5).map e) k a0z a0 a1z a1 = (laws_eqHeadS.b ret j0 k a0z a0 a1z a1).map e := by
  unfold laws_eqHeadS.b
  repeat' first | with_reducible refine nat_cond ?_ ?_ | with_reducible refine nat_bind fun _ => ?_ | rfl
theorem laws_eqHeadS.l0b_nat {R R' : Type} (e : R → R') (ret : Bool → Option R) (j0 : Bool → (List T) → Bool → (List T) → Int → Option R) (k : Nat) (x0z : Bool) (x0 : List T) (x1z : Bool) (x1 : List T) (x5 : Int) : laws_eqHeadS.l0b (fun r => (ret r).map e) (fun x0z x0 x1z x1 x5 => (j0 x0z x0 x1z x1 x5).map e) k x0z x0 x1z x1 x5 = (laws_eqHeadS.l0b ret j0 k x0z x0 x1z x1 x5).map e := by
  unfold laws_eqHeadS.l0b
  repeat' first | with_reducible refine nat_cond ?_ ?_ | with_reducible refine nat_bind fun _ => ?_ | rfl
theorem laws_eqHeadS.rounds_eq (a0z : Bool) (a0 : List T) (a1z : Bool) (a1 : List T) : ∀ k, (∀ (x0z : Bool) (x0 : List T) (x1z : Bool) (x1 : List T) (x5 : Int), rounds Try.prog laws_eqHeadS.Cs (finish Try.prog [] Try.f19 [.v (.sl 124 a0z a0), .v (.sl 124 a1z a1)]) 100000 k laws_eqHeadS.K0 (laws_eqHeadS.N0 x0z x0 x1z x1 x5) = (laws_eqHeadS.l0 k x0z x0 x1z x1 x5).map laws_eqHeadS.enc)
  | 0 => fun _ _ _ _ _ => rfl
  | k + 1 => by
    have ih := laws_eqHeadS.rounds_eq a0z a0 a1z a1 k
    refine fun _ _ _ _ _ => ?_
    · refine (laws_eqHeadS.s0 k _ a0z a0 a1z a1 _ _ _ _ _).trans (Eq.trans ?_ (laws_eqHeadS.l0b_nat laws_eqHeadS.enc some (laws_eqHeadS.l0 k) k _ _ _ _ _))
      simp only [ih, Option.map_some]
theorem laws_eqHeadS.eq (k : Nat) (a0z : Bool) (a0 : List T) (a1z : Bool) (a1 : List T) : answer Try.prog laws_eqHeadS.Cs 100000 laws_eqHeadS.cuts [] Try.f19 (k + 1) [.v (.sl 124 a0z a0), .v (.sl 124 a1z a1)] = (laws_eqHeadS.f (k + 1) a0z a0 a1z a1).map laws_eqHeadS.enc := by
  have ih := laws_eqHeadS.rounds_eq a0z a0 a1z a1 k
  refine (laws_eqHeadS.s k a0z a0 a1z a1).trans (Eq.trans ?_ (laws_eqHeadS.b_nat laws_eqHeadS.enc some (laws_eqHeadS.l0 k) k a0z a0 a1z a1))
  simp only [ih, Option.map_some]
theorem laws_eqHeadS.sound (k : Nat) : SoundF Try.prog 19 (fun a => (laws_eqHeadS.ans k a).val) := by
  refine sound_plain (fun args res h => ?_) (fun t n => rfl)
  unfold laws_eqHeadS.ans at h
  dsimp only at h
  split at h
  · cases k with
    | zero => cases h
    | succ k =>
      unfold Ans.val at h
      rw [← laws_eqHeadS.eq] at h
      exact answer_sound mixed Try.func19 _ _ _ (k + 1) (fun j _ => tab_sound (tab_cons (laws_eqHead.sound j) (tab_nil))) _ _ h
  · exact (Ans.no_val h).elim

/-! loop.example/g00790/laws.eqLight -/
def laws_eqLight.b {R : Type} (ret : Bool → Option R) (k : Nat) (a0_0 : Int) (a0_1 : Int) (a0_2 : Int) (a0_3 : Int) (a0_4 : Int) (a0_5z : Bool) (a0_5 : List T) (a0_6 : Int) (a0_7z : Bool) (a0_7 : List Int) (a0_8z : Bool) (a0_8 : List T) (a1_0 : Int) (a1_1 : Int) (a1_2 : Int) (a1_3 : Int) (a1_4 : Int) (a1_5z : Bool) (a1_5 : List T) (a1_6 : Int) (a1_7z : Bool) (a1_7 : List Int) (a1_8z : Bool) (a1_8 : List T) : Option R :=
  (laws_eqLimits.f k a0_0 a0_1 a0_2 a0_3 a0_4 a1_0 a1_1 a1_2 a1_3 a1_4).bind fun t0 => cond (!t0) (ret false) ((laws_eqTable.f k a0_5z a0_5 a1_5z a1_5).bind fun t1 => cond (!t1) (ret false) ((laws_eqPush.f k a0_6 a0_7z a0_7 a1_6 a1_7z a1_7).bind fun t2 => cond (!t2) (ret false) ((laws_eqHeadS.f k a0_8z a0_8 a1_8z a1_8).bind fun t3 => cond (!t3) (ret false) (ret true))))
def laws_eqLight.f : Nat → Int → Int → Int → Int → Int → Bool → (List T) → Int → Bool → (List Int) → Bool → (List T) → Int → Int → Int → Int → Int → Bool → (List T) → Int → Bool → (List Int) → Bool → (List T) → Option Bool
  | 0, _, _, _, _, _, _, _, _, _, _, _, _, _, _, _, _, _, _, _, _, _, _, _, _ => none
  | k + 1, a0_0, a0_1, a0_2, a0_3, a0_4, a0_5z, a0_5, a0_6, a0_7z, a0_7, a0_8z, a0_8, a1_0, a1_1, a1_2, a1_3, a1_4, a1_5z, a1_5, a1_6, a1_7z, a1_7, a1_8z, a1_8 => laws_eqLight.b some k a0_0 a0_1 a0_2 a0_3 a0_4 a0_5z a0_5 a0_6 a0_7z a0_7 a0_8z a0_8 a1_0 a1_1 a1_2 a1_3 a1_4 a1_5z a1_5 a1_6 a1_7z a1_7 a1_8z a1_8
def laws_eqLight.enc (r : Bool) : Res := ⟨[.vals false [((.bool r), true)]], []⟩
def laws_eqLight.ans (k : Nat) : List Arg → Ans
  | [.v (.agg [(.int .i64 a0_0), (.int .i64 a0_1), (.int .i64 a0_2), (.int .i64 a0_3), (.int .i64 a0_4), (.sl 160 a0_5z a0_5), (.int .i64 a0_6), (.nums 5 .u8 a0_7z a0_7), (.sl 124 a0_8z a0_8)]), .v (.agg [(.int .i64 a1_0), (.int .i64 a1_1), (.int .i64 a1_2), (.int .i64 a1_3), (.int .i64 a1_4), (.sl 160 a1_5z a1_5), (.int .i64 a1_6), (.nums 5 .u8 a1_7z a1_7), (.sl 124 a1_8z a1_8)])] => ⟨laws_eqLight.f k a0_0 a0_1 a0_2 a0_3 a0_4 a0_5z a0_5 a0_6 a0_7z a0_7 a0_8z a0_8 a1_0 a1_1 a1_2 a1_3 a1_4 a1_5z a1_5 a1_6 a1_7z a1_7 a1_8z a1_8, laws_eqLight.enc⟩
  | _ => Ans.no
def laws_eqLight.Cs (k : Nat) : CallSem := tab [(87, laws_eqLimits.ans k), (36, laws_eqTable.ans k), (95, laws_eqPush.ans k), (19, laws_eqHeadS.ans k)]
def laws_eqLight.cuts : List (Nat × Keep) := []
theorem laws_eqLight.s (k : Nat) (a0_0 : Int) (a0_1 : Int) (a0_2 : Int) (a0_3 : Int) (a0_4 : Int) (a0_5z : Bool) (a0_5 : List T) (a0_6 : Int) (a0_7z : Bool) (a0_7 : List Int) (a0_8z : Bool) (a0_8 : List T) (a1_0 : Int) (a1_1 : Int) (a1_2 : Int) (a1_3 : Int) (a1_4 : Int) (a1_5z : Bool) (a1_5 : List T) (a1_6 : Int) (a1_7z : Bool) (a1_7 : List Int) (a1_8z : Bool) (a1_8 : List T) : answer Try.prog laws_eqLight.Cs 100000 laws_eqLight.cuts [] Try.f29 (k + 1) [.v (.agg [(.int .i64 a0_0), (.int .i64 a0_1), (.int .i64 a0_2), (.int .i64 a0_3), (.int .i64 a0_4), (.sl 160 a0_5z a0_5), (.int .i64 a0_6), (.nums 5 .u8 a0_7z a0_7), (.sl 124 a0_8z a0_8)]), .v (.agg [(.int .i64 a1_0), (.int .i64 a1_1), (.int .i64 a1_2), (.int .i64 a1_3), (.int .i64 a1_4), (.sl 160 a1_5z a1_5), (.int .i64 a1_6), (.nums 5 .u8 a1_7z a1_7), (.sl 124 a1_8z a1_8)])] = laws_eqLight.b (fun r => some (laws_eqLight.enc r)) k a0_0 a0_1 a0_2 a0_3 a0_4 a0_5z a0_5 a0_6 a0_7z a0_7 a0_8z a0_8 a1_0 a1_1 a1_2 a1_3 a1_4 a1_5z a1_5 a1_6 a1_7z a1_7 a1_8z a1_8 := by kernel_rfl
theorem laws_eqLight.b_nat {R R' : Type} (e : R → R') (ret : Bool → Option R) (k : Nat) (a0_0 : Int) (a0_1 : Int) (a0_2 : Int) (a0_3 : Int) (a0_4 : Int) (a0_5z : Bool) (a0_5 : List T) (a0_6 : Int) (a0_7z : Bool) (a0_7 : List Int) (a0_8z : Bool) (a0_8 : List T) (a1_0 : Int) (a1_1 : Int) (a1_2 : Int) (a1_3 : Int) (a1_4 : Int) (a1_5z : Bool) (a1_5 : List T) (a1_6 : Int) (a1_7z : Bool) (a1_7 : List Int) (a1_8z : Bool) (a1_8 : List T) : laws_eqLight.b (fun r => (ret r).map e) k a0_0 a0_1 a0_2 a0_3 a0_4 a0_5z a0_5 a0_6 a0_7z a0_7 a0_8z a0_8 a1_0 a1_1 a1_2 a1_3 a1_4 a1_5z a1_5 a1_6 a1_7z a1_7 a1_8z a1_8 = (laws_eqLight.b ret k a0_0 a0_1 a0_2 a0_3 a0_4 a0_5z a0_5 a0_6 a0_7z a0_7 a0_8z a0_8 a1_0 a1_1 a1_2 a1_3 a1_4 a1_5z a1_5 a1_6 a1_7z a1_7 a1_8z a1_8).map e := by
  unfold laws_eqLight.b
  repeat' first | with_reducible refine nat_cond ?_ ?_ | with_reducible refine nat_bind fun _ => ?_ | rfl
theorem laws_eqLight.eq (k : Nat) (a0_0 : Int) (a0_1 : Int) (a0_2 : Int) (a0_3 : Int) (a0_4 : Int) (a0_5z : Bool) (a0_5 : List T) (a0_6 : Int) (a0_7z : Bool) (a0_7 : List Int) (a0_8z : Bool) (a0_8 : List T) (a1_0 : Int) (a1_1 : Int) (a1_2 : Int) (a1_3 : Int) (a1_4 : Int) (a1_5z : Bool) (a1_5 : List T) (a1_6 : Int) (a1_7z : Bool) (a1_7 : List Int) (a1_8z : Bool) (a1_8 : List T) : answer Try.prog laws_eqLight.Cs 100000 laws_eqLight.cuts [] Try.f29 (k + 1) [.v (.agg [(.int .i64 a0_0), (.int .i64 a0_1), (.int .i64 a0_2), (.int .i64 a0_3), (.int .i64 a0_4), (.sl 160 a0_5z a0_5), (.int .i64 a0_6), (.nums 5 .u8 a0_7z a0_7), (.sl 124 a0_8z a0_8)]), .v (.agg [(.int .i64 a1_0), (.int .i64 a1_1), (.int .i64 a1_2), (.int .i64 a1_3), (.int .i64 a1_4), (.sl 160 a1_5z a1_5), (.int .i64 a1_6), (.nums 5 .u8 a1_7z a1_7), (.sl 124 a1_8z a1_8)])] = (laws_eqLight.f (k + 1) a0_0 a0_1 a0_2 a0_3 a0_4 a0_5z a0_5 a0_6 a0_7z a0_7 a0_8z a0_8 a1_0 a1_1 a1_2 a1_3 a1_4 a1_5z a1_5 a1_6 a1_7z a1_7 a1_8z a1_8).map laws_eqLight.enc := by
  refine (laws_eqLight.s k a0_0 a0_1 a0_2 a0_3 a0_4 a0_5z a0_5 a0_6 a0_7z a0_7 a0_8z a0_8 a1_0 a1_1 a1_2 a1_3 a1_4 a1_5z a1_5 a1_6 a1_7z a1_7 a1_8z a1_8).trans (Eq.trans ?_ (laws_eqLight.b_nat laws_eqLight.enc some k a0_0 a0_1 a0_2 a0_3 a0_4 a0_5z a0_5 a0_6 a0_7z a0_7 a0_8z a0_8 a1_0 a1_1 a1_2 a1_3 a1_4 a1_5z a1_5 a1_6 a1_7z a1_7 a1_8z a1_8))
  simp only [Option.map_some]
theorem laws_eqLight.sound (k : Nat) : SoundF Try.prog 29 (fun a => (laws_eqLight.ans k a).val) := by
  refine sound_plain (fun args res h => ?_) (fun t n => rfl)
  unfold laws_eqLight.ans at h
  dsimp only at h
  split at h
  · cases k with
    | zero => cases h
    | succ k =>
      unfold Ans.val at h
      rw [← laws_eqLight.eq] at h
      exact answer_sound mixed Try.func29 _ _ _ (k + 1) (fun j _ => tab_sound (tab_cons (laws_eqLimits.sound j) (tab_cons (laws_eqTable.sound j) (tab_cons (laws_eqPush.sound j) (tab_cons (laws_eqHeadS.sound j) (tab_nil)))))) _ _ h
  · exact (Ans.no_val h).elim

/-! loop.example/g00790/laws.FnExactLightOk -/
def laws_FnExactLightOk.b {R : Type} (ret : Bool → Option R) (k : Nat) (a0_0 : Int) (a0_1 : Int) (a0_2 : Int) (a0_3 : Int) (a0_4 : Int) (a0_5z : Bool) (a0_5 : List T) (a0_6 : Int) (a0_7z : Bool) (a0_7 : List Int) (a0_8z : Bool) (a0_8 : List T) : Option R :=
  (laws_szLight.f k a0_0 a0_1 a0_2 a0_3 a0_4 a0_5z a0_5 a0_6 a0_7z a0_7 a0_8z a0_8 1048576).bind fun t0 => cond (decide (t0 < 0)) (ret true) ((laws_toLight.f k a0_0 a0_1 a0_2 a0_3 a0_4 a0_5z a0_5 a0_6 a0_7z a0_7 a0_8z a0_8).bind fun t1 => (spec_LightOk.f k t1.1 t1.2.1 t1.2.2.1 t1.2.2.2.1 t1.2.2.2.2.1 t1.2.2.2.2.2.1 t1.2.2.2.2.2.2.1 t1.2.2.2.2.2.2.2.1 t1.2.2.2.2.2.2.2.2.1 t1.2.2.2.2.2.2.2.2.2.1 t1.2.2.2.2.2.2.2.2.2.2.1 t1.2.2.2.2.2.2.2.2.2.2.2).bind fun t2 => (laws_toLight.f k a0_0 a0_1 a0_2 a0_3 a0_4 a0_5z a0_5 a0_6 a0_7z a0_7 a0_8z a0_8).bind fun t3 => (impl_LightOk.f k t3.1 t3.2.1 t3.2.2.1 t3.2.2.2.1 t3.2.2.2.2.1 t3.2.2.2.2.2.1 t3.2.2.2.2.2.2.1 t3.2.2.2.2.2.2.2.1 t3.2.2.2.2.2.2.2.2.1 t3.2.2.2.2.2.2.2.2.2.1 t3.2.2.2.2.2.2.2.2.2.2.1 t3.2.2.2.2.2.2.2.2.2.2.2).bind fun t4 => cond (!(t4 == t2)) (ret false) ((laws_toLight.f k a0_0 a0_1 a0_2 a0_3 a0_4 a0_5z a0_5 a0_6 a0_7z a0_7 a0_8z a0_8).bind fun t5 => (laws_eqLight.f k t3.1 t3.2.1 t3.2.2.1 t3.2.2.2.1 t3.2.2.2.2.1 t3.2.2.2.2.2.1 t3.2.2.2.2.2.2.1 t3.2.2.2.2.2.2.2.1 t3.2.2.2.2.2.2.2.2.1 t3.2.2.2.2.2.2.2.2.2.1 t3.2.2.2.2.2.2.2.2.2.2.1 t3.2.2.2.2.2.2.2.2.2.2.2 t5.1 t5.2.1 t5.2.2.1 t5.2.2.2.1 t5.2.2.2.2.1 t5.2.2.2.2.2.1 t5.2.2.2.2.2.2.1 t5.2.2.2.2.2.2.2.1 t5.2.2.2.2.2.2.2.2.1 t5.2.2.2.2.2.2.2.2.2.1 t5.2.2.2.2.2.2.2.2.2.2.1 t5.2.2.2.2.2.2.2.2.2.2.2).bind fun t6 => cond (!t6) (ret false) (ret true)))
def laws_FnExactLightOk.f : Nat → Int → Int → Int → Int → Int → Bool → (List T) → Int → Bool → (List Int) → Bool → (List T) → Option Bool
  | 0, _, _, _, _, _, _, _, _, _, _, _, _ => none
  | k + 1, a0_0, a0_1, a0_2, a0_3, a0_4, a0_5z, a0_5, a0_6, a0_7z, a0_7, a0_8z, a0_8 => laws_FnExactLightOk.b some k a0_0 a0_1 a0_2 a0_3 a0_4 a0_5z a0_5 a0_6 a0_7z a0_7 a0_8z a0_8
def laws_FnExactLightOk.enc (r : Bool) : Res := ⟨[.vals false [((.bool r), true)]], []⟩
def laws_FnExactLightOk.ans (k : Nat) : List Arg → Ans
  | [.v (.agg [(.int .i64 a0_0), (.int .i64 a0_1), (.int .i64 a0_2), (.int .i64 a0_3), (.int .i64 a0_4), (.sl 187 a0_5z a0_5), (.int .i64 a0_6), (.nums 5 .u8 a0_7z a0_7), (.sl 122 a0_8z a0_8)])] => ⟨laws_FnExactLightOk.f k a0_0 a0_1 a0_2 a0_3 a0_4 a0_5z a0_5 a0_6 a0_7z a0_7 a0_8z a0_8, laws_FnExactLightOk.enc⟩
  | _ => Ans.no
def laws_FnExactLightOk.Cs (k : Nat) : CallSem := tab [(25, laws_szLight.ans k), (27, laws_toLight.ans k), (26, spec_LightOk.ans k), (28, impl_LightOk.ans k), (29, laws_eqLight.ans k)]
def laws_FnExactLightOk.cuts : List (Nat × Keep) := []
theorem laws_FnExactLightOk.s (k : Nat) (a0_0 : Int) (a0_1 : Int) (a0_2 : Int) (a0_3 : Int) (a0_4 : Int) (a0_5z : Bool) (a0_5 : List T) (a0_6 : Int) (a0_7z : Bool) (a0_7 : List Int) (a0_8z : Bool) (a0_8 : List T) : answer Try.prog laws_FnExactLightOk.Cs 100000 laws_FnExactLightOk.cuts [] Try.f5 (k + 1) [.v (.agg [(.int .i64 a0_0), (.int .i64 a0_1), (.int .i64 a0_2), (.int .i64 a0_3), (.int .i64 a0_4), (.sl 187 a0_5z a0_5), (.int .i64 a0_6), (.nums 5 .u8 a0_7z a0_7), (.sl 122 a0_8z a0_8)])] = laws_FnExactLightOk.b (fun r => some (laws_FnExactLightOk.enc r)) k a0_0 a0_1 a0_2 a0_3 a0_4 a0_5z a0_5 a0_6 a0_7z a0_7 a0_8z a0_8 := by kernel_rfl
theorem laws_FnExactLightOk.b_nat {R R' : Type} (e : R → R') (ret : Bool → Option R) (k : Nat) (a0_0 : Int) (a0_1 : Int) (a0_2 : Int) (a0_3 : Int) (a0_4 : Int) (a0_5z : Bool) (a0_5 : List T) (a0_6 : Int) (a0_7z : Bool) (a0_7 : List Int) (a0_8z : Bool) (a0_8 : List T) : laws_FnExactLightOk.b (fun r => (ret r).map e) k a0_0 a0_1 a0_2 a0_3 a0_4 a0_5z a0_5 a0_6 a0_7z a0_7 a0_8z a0_8 = (laws_FnExactLightOk.b ret k a0_0 a0_1 a0_2 a0_3 a0_4 a0_5z a0_5 a0_6 a0_7z a0_7 a0_8z a0_8).map e := by
  unfold laws_FnExactLightOk.b
  repeat' first | with_reducible refine nat_cond ?_ ?_ | with_reducible refine nat_bind fun _ => ?_ | rfl
theorem laws_FnExactLightOk.eq (k : Nat) (a0_0 : Int) (a0_1 : Int) (a0_2 : Int) (a0_3 : Int) (a0_4 : Int) (a0_5z : Bool) (a0_5 : List T) (a0_6 : Int) (a0_7z : Bool) (a0_7 : List Int) (a0_8z : Bool) (a0_8 : List T) : answer Try.prog laws_FnExactLightOk.Cs 100000 laws_FnExactLightOk.cuts [] Try.f5 (k + 1) [.v (.agg [(.int .i64 a0_0), (.int .i64 a0_1), (.int .i64 a0_2), (.int .i64 a0_3), (.int .i64 a0_4), (.sl 187 a0_5z a0_5), (.int .i64 a0_6), (.nums 5 .u8 a0_7z a0_7), (.sl 122 a0_8z a0_8)])] = (laws_FnExactLightOk.f (k + 1) a0_0 a0_1 a0_2 a0_3 a0_4 a0_5z a0_5 a0_6 a0_7z a0_7 a0_8z a0_8).map laws_FnExactLightOk.enc := by
  refine (laws_FnExactLightOk.s k a0_0 a0_1 a0_2 a0_3 a0_4 a0_5z a0_5 a0_6 a0_7z a0_7 a0_8z a0_8).trans (Eq.trans ?_ (laws_FnExactLightOk.b_nat laws_FnExactLightOk.enc some k a0_0 a0_1 a0_2 a0_3 a0_4 a0_5z a0_5 a0_6 a0_7z a0_7 a0_8z a0_8))
  simp only [Option.map_some]
theorem laws_FnExactLightOk.sound (k : Nat) : SoundF Try.prog 5 (fun a => (laws_FnExactLightOk.ans k a).val) := by
  refine sound_plain (fun args res h => ?_) (fun t n => rfl)
  unfold laws_FnExactLightOk.ans at h
  dsimp only at h
  split at h
  · cases k with
    | zero => cases h
    | succ k =>
      unfold Ans.val at h
      rw [← laws_FnExactLightOk.eq] at h
      exact answer_sound mixed Try.func5 _ _ _ (k + 1) (fun j _ => tab_sound (tab_cons (laws_szLight.sound j) (tab_cons (laws_toLight.sound j) (tab_cons (spec_LightOk.sound j) (tab_cons (impl_LightOk.sound j) (tab_cons (laws_eqLight.sound j) (tab_nil))))))) _ _ h
  · exact (Ans.no_val h).elim
end Go.Proofs.YtadnejogdohfkaaG
