/- What the functions compute, printed by a program of this repo; each is shown to be what the machine of values answers. No condition. -/
import Derived.Test.YtbpcnodmgphinaaProg
import Derived.KernelRfl
import Derived.Test.YtbpcnodmgphinaaRvD
namespace Go.Proofs.YtbpcnodmgphinaaG
open Go Go.Proofs.YtbpcnodmgphinaaRv Go.Proofs
set_option linter.unusedVariables false
set_option linter.unusedSimpArgs false
theorem mixed : Try.prog.follows .mixedOrders = true := by kernel_rfl
/-! loop.example/g00790/laws.szByteS -/
def laws_szByteS.b {R : Type} (ret : Int → Option R) (k : Nat) (a0z : Bool) (a0 : List Int) (a1 : Int) : Option R :=
  cond (decide ((RowKit.wrap64 (a1 - ((a0).length : Int))) < 0)) (ret (-1)) (ret (RowKit.wrap64 (a1 - ((a0).length : Int))))
def laws_szByteS.f : Nat → Bool → (List Int) → Int → Option Int
  | 0, _, _, _ => none
  | k + 1, a0z, a0, a1 => laws_szByteS.b some k a0z a0 a1
def laws_szByteS.enc (r : Int) : Res := ⟨[.vals false [((.int .i64 r), true)]], []⟩
def laws_szByteS.ans (k : Nat) : List Arg → Ans
  | [.v (.nums 5 .u8 a0z a0), .v (.int .i64 a1)] => ⟨laws_szByteS.f k a0z a0 a1, laws_szByteS.enc⟩
  | _ => Ans.no
def laws_szByteS.Cs (k : Nat) : CallSem := tab []
def laws_szByteS.cuts : List (Nat × Keep) := []
theorem laws_szByteS.s (k : Nat) (a0z : Bool) (a0 : List Int) (a1 : Int) : answer Try.prog laws_szByteS.Cs 100000 laws_szByteS.cuts [] Try.f185 (k + 1) [.v (.nums 5 .u8 a0z a0), .v (.int .i64 a1)] = laws_szByteS.b (fun r => some (laws_szByteS.enc r)) k a0z a0 a1 := by kernel_rfl
theorem laws_szByteS.b_nat {R R' : Type} (e : R → R') (ret : Int → Option R) (k : Nat) (a0z : Bool) (a0 : List Int) (a1 : Int) : laws_szByteS.b (fun r => (ret r).map e) k a0z a0 a1 = (laws_szByteS.b ret k a0z a0 a1).map e := by
  unfold laws_szByteS.b
  repeat' first | with_reducible refine nat_cond ?_ ?_ | with_reducible refine nat_bind fun _ => ?_ | rfl
theorem laws_szByteS.eq (k : Nat) (a0z : Bool) (a0 : List Int) (a1 : Int) : answer Try.prog laws_szByteS.Cs 100000 laws_szByteS.cuts [] Try.f185 (k + 1) [.v (.nums 5 .u8 a0z a0), .v (.int .i64 a1)] = (laws_szByteS.f (k + 1) a0z a0 a1).map laws_szByteS.enc := by
  refine (laws_szByteS.s k a0z a0 a1).trans (Eq.trans ?_ (laws_szByteS.b_nat laws_szByteS.enc some k a0z a0 a1))
  simp only [Option.map_some]
theorem laws_szByteS.sound (k : Nat) : SoundF Try.prog 185 (fun a => (laws_szByteS.ans k a).val) := by
  refine sound_plain (fun args res h => ?_) (fun t n => rfl)
  unfold laws_szByteS.ans at h
  dsimp only at h
  split at h
  · cases k with
    | zero => cases h
    | succ k =>
      unfold Ans.val at h
      rw [← laws_szByteS.eq] at h
      exact answer_sound mixed Try.func185 _ _ _ (k + 1) (fun j _ => tab_sound (tab_nil)) _ _ h
  · exact (Ans.no_val h).elim

/-! loop.example/g00790/laws.szRow -/
def laws_szRow.b {R : Type} (ret : Int → Option R) (k : Nat) (a0_0 : Int) (a0_1z : Bool) (a0_1 : List Int) (a1 : Int) : Option R :=
  (laws_szByteS.f k a0_1z a0_1 a1).bind fun t0 => cond (decide (t0 < 0)) (ret (-1)) (ret t0)
def laws_szRow.f : Nat → Int → Bool → (List Int) → Int → Option Int
  | 0, _, _, _, _ => none
  | k + 1, a0_0, a0_1z, a0_1, a1 => laws_szRow.b some k a0_0 a0_1z a0_1 a1
def laws_szRow.enc (r : Int) : Res := ⟨[.vals false [((.int .i64 r), true)]], []⟩
def laws_szRow.ans (k : Nat) : List Arg → Ans
  | [.v (.agg [(.int .i64 a0_0), (.nums 5 .u8 a0_1z a0_1)]), .v (.int .i64 a1)] => ⟨laws_szRow.f k a0_0 a0_1z a0_1 a1, laws_szRow.enc⟩
  | _ => Ans.no
def laws_szRow.Cs (k : Nat) : CallSem := tab [(185, laws_szByteS.ans k)]
def laws_szRow.cuts : List (Nat × Keep) := []
theorem laws_szRow.s (k : Nat) (a0_0 : Int) (a0_1z : Bool) (a0_1 : List Int) (a1 : Int) : answer Try.prog laws_szRow.Cs 100000 laws_szRow.cuts [] Try.f184 (k + 1) [.v (.agg [(.int .i64 a0_0), (.nums 5 .u8 a0_1z a0_1)]), .v (.int .i64 a1)] = laws_szRow.b (fun r => some (laws_szRow.enc r)) k a0_0 a0_1z a0_1 a1 := by kernel_rfl
theorem laws_szRow.b_nat {R R' : Type} (e : R → R') (ret : Int → Option R) (k : Nat) (a0_0 : Int) (a0_1z : Bool) (a0_1 : List Int) (a1 : Int) : laws_szRow.b (fun r => (ret r).map e) k a0_0 a0_1z a0_1 a1 = (laws_szRow.b ret k a0_0 a0_1z a0_1 a1).map e := by
  unfold laws_szRow.b
  repeat' first | with_reducible refine nat_cond ?_ ?_ | with_reducible refine nat_bind fun _ => ?_ | rfl
theorem laws_szRow.eq (k : Nat) (a0_0 : Int) (a0_1z : Bool) (a0_1 : List Int) (a1 : Int) : answer Try.prog laws_szRow.Cs 100000 laws_szRow.cuts [] Try.f184 (k + 1) [.v (.agg [(.int .i64 a0_0), (.nums 5 .u8 a0_1z a0_1)]), .v (.int .i64 a1)] = (laws_szRow.f (k + 1) a0_0 a0_1z a0_1 a1).map laws_szRow.enc := by
  refine (laws_szRow.s k a0_0 a0_1z a0_1 a1).trans (Eq.trans ?_ (laws_szRow.b_nat laws_szRow.enc some k a0_0 a0_1z a0_1 a1))
  simp only [Option.map_some]
theorem laws_szRow.sound (k : Nat) : SoundF Try.prog 184 (fun a => (laws_szRow.ans k a).val) := by
  refine sound_plain (fun args res h => ?_) (fun t n => rfl)
  unfold laws_szRow.ans at h
  dsimp only at h
  split at h
  · cases k with
    | zero => cases h
    | succ k =>
      unfold Ans.val at h
      rw [← laws_szRow.eq] at h
      exact answer_sound mixed Try.func184 _ _ _ (k + 1) (fun j _ => tab_sound (tab_cons (laws_szByteS.sound j) (tab_nil))) _ _ h
  · exact (Ans.no_val h).elim

/-! loop.example/g00790/laws.szRowS -/
def laws_szRowS.b {R : Type} (ret : Int → Option R) (j0 : Bool → (List T) → Int → Int → Option R) (k : Nat) (a0z : Bool) (a0 : List T) (a1 : Int) : Option R :=
  cond (decide ((RowKit.wrap64 (a1 - ((a0).length : Int))) < 0)) (ret (-1)) (j0 a0z a0 (RowKit.wrap64 (a1 - ((a0).length : Int))) 0)
def laws_szRowS.l0b {R : Type} (ret : Int → Option R) (j0 : Bool → (List T) → Int → Int → Option R) (k : Nat) (x0z : Bool) (x0 : List T) (x1 : Int) (x5 : Int) : Option R :=
  cond (decide (x5 < ((x0).length : Int))) (cond (decide ((0 : Int) ≤ x5)) (cond (decide (x5 < ((x0).length : Int))) ((laws_szRow.f k (((((x0).getD (x5).toNat .bad).cells.getD 0 .bad)).toInt) (((((x0).getD (x5).toNat .bad).cells.getD 1 .bad)).isNil) (((((x0).getD (x5).toNat .bad).cells.getD 1 .bad)).toNums) x1).bind fun t0 => cond (decide (t0 < 0)) (ret (-1)) (j0 x0z x0 t0 (RowKit.wrap64 (x5 + 1)))) (none)) (none)) (ret x1)
def laws_szRowS.l0 : Nat → Bool → (List T) → Int → Int → Option Int
  | 0, _, _, _, _ => none
  | k + 1, x0z, x0, x1, x5 => laws_szRowS.l0b some (laws_szRowS.l0 k) k x0z x0 x1 x5
def laws_szRowS.f : Nat → Bool → (List T) → Int → Option Int
  | 0, _, _, _ => none
  | k + 1, a0z, a0, a1 => laws_szRowS.b some (laws_szRowS.l0 k) k a0z a0 a1
def laws_szRowS.enc (r : Int) : Res := ⟨[.vals false [((.int .i64 r), true)]], []⟩
def laws_szRowS.ans (k : Nat) : List Arg → Ans
  | [.v (.sl 204 a0z a0), .v (.int .i64 a1)] => ⟨laws_szRowS.f k a0z a0 a1, laws_szRowS.enc⟩
  | _ => Ans.no
def laws_szRowS.Cs (k : Nat) : CallSem := tab [(184, laws_szRow.ans k)]
def laws_szRowS.cuts : List (Nat × Keep) := [(122, ⟨[(0, some []), (1, some []), (5, some [])], []⟩)]
noncomputable def laws_szRowS.K0 : List Fr := framesAt [true, true, true, false, true, false] (bodyOf Try.f138 laws_szRowS.cuts) []
def laws_szRowS.N0 (x0z : Bool) (x0 : List T) (x1 : Int) (x5 : Int) : St := stOf 27 27 2 [(0, .val ⟨(.sl 204 x0z x0), [], false, none⟩), (1, .val (V.s (.int .i64 x1))), (5, .val (V.s (.int .i64 x5)))] []
theorem laws_szRowS.s (k : Nat) (a0z : Bool) (a0 : List T) (a1 : Int) : answer Try.prog laws_szRowS.Cs 100000 laws_szRowS.cuts [] Try.f138 (k + 1) [.v (.sl 204 a0z a0), .v (.int .i64 a1)] = laws_szRowS.b (fun r => some (laws_szRowS.enc r)) (fun x0z x0 x1 x5 => rounds Try.prog laws_szRowS.Cs (finish Try.prog [] Try.f138 [.v (.sl 204 a0z a0), .v (.int .i64 a1)]) 100000 k laws_szRowS.K0 (laws_szRowS.N0 x0z x0 x1 x5)) k a0z a0 a1 := by kernel_rfl
theorem laws_szRowS.s0 (k : Nat) (G : List Fr → St → Option Res) (a0z : Bool) (a0 : List T) (a1 : Int) (yx0z : Bool) (yx0 : List T) (yx1 : Int) (yx5 : Int) : resume Try.prog (laws_szRowS.Cs k) G (finish Try.prog [] Try.f138 [.v (.sl 204 a0z a0), .v (.int .i64 a1)]) 100000 laws_szRowS.K0 (laws_szRowS.N0 yx0z yx0 yx1 yx5) = laws_szRowS.l0b (fun r => some (laws_szRowS.enc r)) (fun x0z x0 x1 x5 => G laws_szRowS.K0 (laws_szRowS.N0 x0z x0 x1 x5)) k yx0z yx0 yx1 yx5 := by kernel_rfl
theorem laws_szRowS.b_nat {R R' : Type} (e : R → R') (ret : Int → Option R) (j0 : Bool → (List T) → Int → Int → Option R) (k : Nat) (a0z : Bool) (a0 : List T) (a1 : Int) : laws_szRowS.b (fun r => (ret r).map e) (fun x0z x0 x1 x5 => (j0 x0z x0 x1 x5).map e) k a0z a0 a1 = (laws_szRowS.b ret j0 k a0z a0 a1).map e := by
  unfold laws_szRowS.b
  repeat' first | with_reducible refine nat_cond ?_ ?_ | with_reducible refine nat_bind fun _ => ?_ | rfl
theorem laws_szRowS.l0b_nat {R R' : Type} (e : R → R') (ret : Int → Option R) (j0 : Bool → (List T) → Int → Int → Option R) (k : Nat) (x0z : Bool) (x0 : List T) (x1 : Int) (x5 : Int) : laws_szRowS.l0b (fun r => (ret r).map e) (fun x0z x0 x1 x5 => (j0 x0z x0 x1 x5).map e) k x0z x0 x1 x5 = (laws_szRowS.l0b ret j0 k x0z x0 x1 x5).map e := by
  unfold laws_szRowS.l0b
  repeat' first | with_reducible refine nat_cond ?_ ?_ | with_reducible refine nat_bind fun _ => ?_ | rfl
theorem laws_szRowS.rounds_eq (a0z : Bool) (a0 : List T) (a1 : Int) : ∀ k, (∀ (x0z : Bool) (x0 : List T) (x1 : Int) (x5 : Int), rounds Try.prog laws_szRowS.Cs (finish Try.prog [] Try.f138 [.v (.sl 204 a0z a0), .v (.int .i64 a1)]) 100000 k laws_szRowS.K0 (laws_szRowS.N0 x0z x0 x1 x5) = (laws_szRowS.l0 k x0z x0 x1 x5).map laws_szRowS.enc)
  | 0 => fun _ _ _ _ => rfl
  | k + 1 => by
    have ih := laws_szRowS.rounds_eq a0z a0 a1 k
    refine fun _ _ _ _ => ?_
    · refine (laws_szRowS.s0 k _ a0z a0 a1 _ _ _ _).trans (Eq.trans ?_ (laws_szRowS.l0b_nat laws_szRowS.enc some (laws_szRowS.l0 k) k _ _ _ _))
      simp only [ih, Option.map_some]
theorem laws_szRowS.eq (k : Nat) (a0z : Bool) (a0 : List T) (a1 : Int) : answer Try.prog laws_szRowS.Cs 100000 laws_szRowS.cuts [] Try.f138 (k + 1) [.v (.sl 204 a0z a0), .v (.int .i64 a1)] = (laws_szRowS.f (k + 1) a0z a0 a1).map laws_szRowS.enc := by
  have ih := laws_szRowS.rounds_eq a0z a0 a1 k
  refine (laws_szRowS.s k a0z a0 a1).trans (Eq.trans ?_ (laws_szRowS.b_nat laws_szRowS.enc some (laws_szRowS.l0 k) k a0z a0 a1))
  simp only [ih, Option.map_some]
theorem laws_szRowS.sound (k : Nat) : SoundF Try.prog 138 (fun a => (laws_szRowS.ans k a).val) := by
  refine sound_plain (fun args res h => ?_) (fun t n => rfl)
  unfold laws_szRowS.ans at h
  dsimp only at h
  split at h
  · cases k with
    | zero => cases h
    | succ k =>
      unfold Ans.val at h
      rw [← laws_szRowS.eq] at h
      exact answer_sound mixed Try.func138 _ _ _ (k + 1) (fun j _ => tab_sound (tab_cons (laws_szRow.sound j) (tab_nil))) _ _ h
  · exact (Ans.no_val h).elim

/-! loop.example/g00790/laws.szTable -/
def laws_szTable.b {R : Type} (ret : Int → Option R) (k : Nat) (a0_0z : Bool) (a0_0 : List T) (a1 : Int) : Option R :=
  (laws_szRowS.f k a0_0z a0_0 a1).bind fun t0 => cond (decide (t0 < 0)) (ret (-1)) (ret t0)
def laws_szTable.f : Nat → Bool → (List T) → Int → Option Int
  | 0, _, _, _ => none
  | k + 1, a0_0z, a0_0, a1 => laws_szTable.b some k a0_0z a0_0 a1
def laws_szTable.enc (r : Int) : Res := ⟨[.vals false [((.int .i64 r), true)]], []⟩
def laws_szTable.ans (k : Nat) : List Arg → Ans
  | [.v (.agg [(.sl 204 a0_0z a0_0)]), .v (.int .i64 a1)] => ⟨laws_szTable.f k a0_0z a0_0 a1, laws_szTable.enc⟩
  | _ => Ans.no
def laws_szTable.Cs (k : Nat) : CallSem := tab [(138, laws_szRowS.ans k)]
def laws_szTable.cuts : List (Nat × Keep) := []
theorem laws_szTable.s (k : Nat) (a0_0z : Bool) (a0_0 : List T) (a1 : Int) : answer Try.prog laws_szTable.Cs 100000 laws_szTable.cuts [] Try.f62 (k + 1) [.v (.agg [(.sl 204 a0_0z a0_0)]), .v (.int .i64 a1)] = laws_szTable.b (fun r => some (laws_szTable.enc r)) k a0_0z a0_0 a1 := by kernel_rfl
theorem laws_szTable.b_nat {R R' : Type} (e : R → R') (ret : Int → Option R) (k : Nat) (a0_0z : Bool) (a0_0 : List T) (a1 : Int) : laws_szTable.b (fun r => (ret r).map e) k a0_0z a0_0 a1 = (laws_szTable.b ret k a0_0z a0_0 a1).map e := by
  unfold laws_szTable.b
  repeat' first | with_reducible refine nat_cond ?_ ?_ | with_reducible refine nat_bind fun _ => ?_ | rfl
theorem laws_szTable.eq (k : Nat) (a0_0z : Bool) (a0_0 : List T) (a1 : Int) : answer Try.prog laws_szTable.Cs 100000 laws_szTable.cuts [] Try.f62 (k + 1) [.v (.agg [(.sl 204 a0_0z a0_0)]), .v (.int .i64 a1)] = (laws_szTable.f (k + 1) a0_0z a0_0 a1).map laws_szTable.enc := by
  refine (laws_szTable.s k a0_0z a0_0 a1).trans (Eq.trans ?_ (laws_szTable.b_nat laws_szTable.enc some k a0_0z a0_0 a1))
  simp only [Option.map_some]
theorem laws_szTable.sound (k : Nat) : SoundF Try.prog 62 (fun a => (laws_szTable.ans k a).val) := by
  refine sound_plain (fun args res h => ?_) (fun t n => rfl)
  unfold laws_szTable.ans at h
  dsimp only at h
  split at h
  · cases k with
    | zero => cases h
    | succ k =>
      unfold Ans.val at h
      rw [← laws_szTable.eq] at h
      exact answer_sound mixed Try.func62 _ _ _ (k + 1) (fun j _ => tab_sound (tab_cons (laws_szRowS.sound j) (tab_nil))) _ _ h
  · exact (Ans.no_val h).elim

/-! loop.example/g00790/laws.szVote -/
def laws_szVote.b {R : Type} (ret : Int → Option R) (k : Nat) (a0_0 : Int) (a0_1 : Int) (a0_2z : Bool) (a0_2 : List Int) (a0_3 : Int) (a0_4z : Bool) (a0_4 : List Int) (a1 : Int) : Option R :=
  (laws_szByteS.f k a0_2z a0_2 a1).bind fun t0 => cond (decide (t0 < 0)) (ret (-1)) ((laws_szByteS.f k a0_4z a0_4 t0).bind fun t1 => cond (decide (t1 < 0)) (ret (-1)) (ret t1))
def laws_szVote.f : Nat → Int → Int → Bool → (List Int) → Int → Bool → (List Int) → Int → Option Int
  | 0, _, _, _, _, _, _, _, _ => none
  | k + 1, a0_0, a0_1, a0_2z, a0_2, a0_3, a0_4z, a0_4, a1 => laws_szVote.b some k a0_0 a0_1 a0_2z a0_2 a0_3 a0_4z a0_4 a1
def laws_szVote.enc (r : Int) : Res := ⟨[.vals false [((.int .i64 r), true)]], []⟩
def laws_szVote.ans (k : Nat) : List Arg → Ans
  | [.v (.agg [(.int .i64 a0_0), (.int .i64 a0_1), (.nums 5 .u8 a0_2z a0_2), (.int .i64 a0_3), (.nums 5 .u8 a0_4z a0_4)]), .v (.int .i64 a1)] => ⟨laws_szVote.f k a0_0 a0_1 a0_2z a0_2 a0_3 a0_4z a0_4 a1, laws_szVote.enc⟩
  | _ => Ans.no
def laws_szVote.Cs (k : Nat) : CallSem := tab [(185, laws_szByteS.ans k)]
def laws_szVote.cuts : List (Nat × Keep) := []
theorem laws_szVote.s (k : Nat) (a0_0 : Int) (a0_1 : Int) (a0_2z : Bool) (a0_2 : List Int) (a0_3 : Int) (a0_4z : Bool) (a0_4 : List Int) (a1 : Int) : answer Try.prog laws_szVote.Cs 100000 laws_szVote.cuts [] Try.f139 (k + 1) [.v (.agg [(.int .i64 a0_0), (.int .i64 a0_1), (.nums 5 .u8 a0_2z a0_2), (.int .i64 a0_3), (.nums 5 .u8 a0_4z a0_4)]), .v (.int .i64 a1)] = laws_szVote.b (fun r => some (laws_szVote.enc r)) k a0_0 a0_1 a0_2z a0_2 a0_3 a0_4z a0_4 a1 := by kernel_rfl
theorem laws_szVote.b_nat {R R' : Type} (e : R → R') (ret : Int → Option R) (k : Nat) (a0_0 : Int) (a0_1 : Int) (a0_2z : Bool) (a0_2 : List Int) (a0_3 : Int) (a0_4z : Bool) (a0_4 : List Int) (a1 : Int) : laws_szVote.b (fun r => (ret r).map e) k a0_0 a0_1 a0_2z a0_2 a0_3 a0_4z a0_4 a1 = (laws_szVote.b ret k a0_0 a0_1 a0_2z a0_2 a0_3 a0_4z a0_4 a1).map e := by
  unfold laws_szVote.b
  repeat' first | with_reducible refine nat_cond ?_ ?_ | with_reducible refine nat_bind fun _ => ?_ | rfl
theorem laws_szVote.eq (k : Nat) (a0_0 : Int) (a0_1 : Int) (a0_2z : Bool) (a0_2 : List Int) (a0_3 : Int) (a0_4z : Bool) (a0_4 : List Int) (a1 : Int) : answer Try.prog laws_szVote.Cs 100000 laws_szVote.cuts [] Try.f139 (k + 1) [.v (.agg [(.int .i64 a0_0), (.int .i64 a0_1), (.nums 5 .u8 a0_2z a0_2), (.int .i64 a0_3), (.nums 5 .u8 a0_4z a0_4)]), .v (.int .i64 a1)] = (laws_szVote.f (k + 1) a0_0 a0_1 a0_2z a0_2 a0_3 a0_4z a0_4 a1).map laws_szVote.enc := by
  refine (laws_szVote.s k a0_0 a0_1 a0_2z a0_2 a0_3 a0_4z a0_4 a1).trans (Eq.trans ?_ (laws_szVote.b_nat laws_szVote.enc some k a0_0 a0_1 a0_2z a0_2 a0_3 a0_4z a0_4 a1))
  simp only [Option.map_some]
theorem laws_szVote.sound (k : Nat) : SoundF Try.prog 139 (fun a => (laws_szVote.ans k a).val) := by
  refine sound_plain (fun args res h => ?_) (fun t n => rfl)
  unfold laws_szVote.ans at h
  dsimp only at h
  split at h
  · cases k with
    | zero => cases h
    | succ k =>
      unfold Ans.val at h
      rw [← laws_szVote.eq] at h
      exact answer_sound mixed Try.func139 _ _ _ (k + 1) (fun j _ => tab_sound (tab_cons (laws_szByteS.sound j) (tab_nil))) _ _ h
  · exact (Ans.no_val h).elim

/-! loop.example/g00790/laws.szVoteS -/
def laws_szVoteS.b {R : Type} (ret : Int → Option R) (j0 : Bool → (List T) → Int → Int → Option R) (k : Nat) (a0z : Bool) (a0 : List T) (a1 : Int) : Option R :=
  cond (decide ((RowKit.wrap64 (a1 - ((a0).length : Int))) < 0)) (ret (-1)) (j0 a0z a0 (RowKit.wrap64 (a1 - ((a0).length : Int))) 0)
def laws_szVoteS.l0b {R : Type} (ret : Int → Option R) (j0 : Bool → (List T) → Int → Int → Option R) (k : Nat) (x0z : Bool) (x0 : List T) (x1 : Int) (x5 : Int) : Option R :=
  cond (decide (x5 < ((x0).length : Int))) (cond (decide ((0 : Int) ≤ x5)) (cond (decide (x5 < ((x0).length : Int))) ((laws_szVote.f k (((((x0).getD (x5).toNat .bad).cells.getD 0 .bad)).toInt) (((((x0).getD (x5).toNat .bad).cells.getD 1 .bad)).toInt) (((((x0).getD (x5).toNat .bad).cells.getD 2 .bad)).isNil) (((((x0).getD (x5).toNat .bad).cells.getD 2 .bad)).toNums) (((((x0).getD (x5).toNat .bad).cells.getD 3 .bad)).toInt) (((((x0).getD (x5).toNat .bad).cells.getD 4 .bad)).isNil) (((((x0).getD (x5).toNat .bad).cells.getD 4 .bad)).toNums) x1).bind fun t0 => cond (decide (t0 < 0)) (ret (-1)) (j0 x0z x0 t0 (RowKit.wrap64 (x5 + 1)))) (none)) (none)) (ret x1)
def laws_szVoteS.l0 : Nat → Bool → (List T) → Int → Int → Option Int
  | 0, _, _, _, _ => none
  | k + 1, x0z, x0, x1, x5 => laws_szVoteS.l0b some (laws_szVoteS.l0 k) k x0z x0 x1 x5
def laws_szVoteS.f : Nat → Bool → (List T) → Int → Option Int
  | 0, _, _, _ => none
  | k + 1, a0z, a0, a1 => laws_szVoteS.b some (laws_szVoteS.l0 k) k a0z a0 a1
def laws_szVoteS.enc (r : Int) : Res := ⟨[.vals false [((.int .i64 r), true)]], []⟩
def laws_szVoteS.ans (k : Nat) : List Arg → Ans
  | [.v (.sl 171 a0z a0), .v (.int .i64 a1)] => ⟨laws_szVoteS.f k a0z a0 a1, laws_szVoteS.enc⟩
  | _ => Ans.no
def laws_szVoteS.Cs (k : Nat) : CallSem := tab [(139, laws_szVote.ans k)]
def laws_szVoteS.cuts : List (Nat × Keep) := [(122, ⟨[(0, some []), (1, some []), (5, some [])], []⟩)]
noncomputable def laws_szVoteS.K0 : List Fr := framesAt [true, true, true, false, true, false] (bodyOf Try.f63 laws_szVoteS.cuts) []
def laws_szVoteS.N0 (x0z : Bool) (x0 : List T) (x1 : Int) (x5 : Int) : St := stOf 27 27 2 [(0, .val ⟨(.sl 171 x0z x0), [], false, none⟩), (1, .val (V.s (.int .i64 x1))), (5, .val (V.s (.int .i64 x5)))] []
theorem laws_szVoteS.s (k : Nat) (a0z : Bool) (a0 : List T) (a1 : Int) : answer Try.prog laws_szVoteS.Cs 100000 laws_szVoteS.cuts [] Try.f63 (k + 1) [.v (.sl 171 a0z a0), .v (.int .i64 a1)] = laws_szVoteS.b (fun r => some (laws_szVoteS.enc r)) (fun x0z x0 x1 x5 => rounds Try.prog laws_szVoteS.Cs (finish Try.prog [] Try.f63 [.v (.sl 171 a0z a0), .v (.int .i64 a1)]) 100000 k laws_szVoteS.K0 (laws_szVoteS.N0 x0z x0 x1 x5)) k a0z a0 a1 := by kernel_rfl
theorem laws_szVoteS.s0 (k : Nat) (G : List Fr → St → Option Res) (a0z : Bool) (a0 : List T) (a1 : Int) (yx0z : Bool) (yx0 : List T) (yx1 : Int) (yx5 : Int) : resume Try.prog (laws_szVoteS.Cs k) G (finish Try.prog [] Try.f63 [.v (.sl 171 a0z a0), .v (.int .i64 a1)]) 100000 laws_szVoteS.K0 (laws_szVoteS.N0 yx0z yx0 yx1 yx5) = laws_szVoteS.l0b (fun r => some (laws_szVoteS.enc r)) (fun x0z x0 x1 x5 => G laws_szVoteS.K0 (laws_szVoteS.N0 x0z x0 x1 x5)) k yx0z yx0 yx1 yx5 := by kernel_rfl
theorem laws_szVoteS.b_nat {R R' : Type} (e : R → R') (ret : Int → Option R) (j0 : Bool → (List T) → Int → Int → Option R) (k : Nat) (a0z : Bool) (a0 : List T) (a1 : Int) : laws_szVoteS.b (fun r => (ret r).map e) (fun x0z x0 x1 x5 => (j0 x0z x0 x1 x5).map e) k a0z a0 a1 = (laws_szVoteS.b ret j0 k a0z a0 a1).map e := by
  unfold laws_szVoteS.b
  repeat' first | with_reducible refine nat_cond ?_ ?_ | with_reducible refine nat_bind fun _ => ?_ | rfl
theorem laws_szVoteS.l0b_nat {R R' : Type} (e : R → R') (ret : Int → Option R) (j0 : Bool → (List T) → Int → Int → Option R) (k : Nat) (x0z : Bool) (x0 : List T) (x1 : Int) (x5 : Int) : laws_szVoteS.l0b (fun r => (ret r).map e) (fun x0z x0 x1 x5 => (j0 x0z x0 x1 x5).map e) k x0z x0 x1 x5 = (laws_szVoteS.l0b ret j0 k x0z x0 x1 x5).map e := by
  unfold laws_szVoteS.l0b
  repeat' first | with_reducible refine nat_cond ?_ ?_ | with_reducible refine nat_bind fun _ => ?_ | rfl
theorem laws_szVoteS.rounds_eq (a0z : Bool) (a0 : List T) (a1 : Int) : ∀ k, (∀ (x0z : Bool) (x0 : List T) (x1 : Int) (x5 : Int), rounds Try.prog laws_szVoteS.Cs (finish Try.prog [] Try.f63 [.v (.sl 171 a0z a0), .v (.int .i64 a1)]) 100000 k laws_szVoteS.K0 (laws_szVoteS.N0 x0z x0 x1 x5) = (laws_szVoteS.l0 k x0z x0 x1 x5).map laws_szVoteS.enc)
  | 0 => fun _ _ _ _ => rfl
  | k + 1 => by
    have ih := laws_szVoteS.rounds_eq a0z a0 a1 k
    refine fun _ _ _ _ => ?_
    · refine (laws_szVoteS.s0 k _ a0z a0 a1 _ _ _ _).trans (Eq.trans ?_ (laws_szVoteS.l0b_nat laws_szVoteS.enc some (laws_szVoteS.l0 k) k _ _ _ _))
      simp only [ih, Option.map_some]
theorem laws_szVoteS.eq (k : Nat) (a0z : Bool) (a0 : List T) (a1 : Int) : answer Try.prog laws_szVoteS.Cs 100000 laws_szVoteS.cuts [] Try.f63 (k + 1) [.v (.sl 171 a0z a0), .v (.int .i64 a1)] = (laws_szVoteS.f (k + 1) a0z a0 a1).map laws_szVoteS.enc := by
  have ih := laws_szVoteS.rounds_eq a0z a0 a1 k
  refine (laws_szVoteS.s k a0z a0 a1).trans (Eq.trans ?_ (laws_szVoteS.b_nat laws_szVoteS.enc some (laws_szVoteS.l0 k) k a0z a0 a1))
  simp only [ih, Option.map_some]
theorem laws_szVoteS.sound (k : Nat) : SoundF Try.prog 63 (fun a => (laws_szVoteS.ans k a).val) := by
  refine sound_plain (fun args res h => ?_) (fun t n => rfl)
  unfold laws_szVoteS.ans at h
  dsimp only at h
  split at h
  · cases k with
    | zero => cases h
    | succ k =>
      unfold Ans.val at h
      rw [← laws_szVoteS.eq] at h
      exact answer_sound mixed Try.func63 _ _ _ (k + 1) (fun j _ => tab_sound (tab_cons (laws_szVote.sound j) (tab_nil))) _ _ h
  · exact (Ans.no_val h).elim

/-! loop.example/g00790/laws.toByteS -/
def laws_toByteS.b {R : Type} (ret : Bool × List Int → Option R) (j0 : Bool → (List Int) → (List Int) → Int → Option R) (k : Nat) (a0z : Bool) (a0 : List Int) : Option R :=
  cond (decide (((a0).length : Int) = ((a0).length : Int))) (cond (decide ((0 : Int) ≤ ((a0).length : Int))) (cond (decide ((a0).length < 140737488355328)) (j0 a0z a0 (List.replicate (a0).length (0 : Int)) 0) (none)) (none)) (none)
def laws_toByteS.l0b {R : Type} (ret : Bool × List Int → Option R) (j0 : Bool → (List Int) → (List Int) → Int → Option R) (k : Nat) (x0z : Bool) (x0 : List Int) (x3 : List Int) (x4 : Int) : Option R :=
  cond (decide (x4 < ((x0).length : Int))) (cond (decide ((0 : Int) ≤ x4)) (cond (decide (x4 < ((x0).length : Int))) (cond (decide ((0 : Int) ≤ x4)) (cond (decide (x4 < ((x3).length : Int))) (j0 x0z x0 ((x3).set (x4).toNat (rdI x0 x4)) (RowKit.wrap64 (x4 + 1))) (none)) (none)) (none)) (none)) (ret (false, x3))
def laws_toByteS.l0 : Nat → Bool → (List Int) → (List Int) → Int → Option (Bool × List Int)
  | 0, _, _, _, _ => none
  | k + 1, x0z, x0, x3, x4 => laws_toByteS.l0b some (laws_toByteS.l0 k) k x0z x0 x3 x4
def laws_toByteS.f : Nat → Bool → (List Int) → Option (Bool × List Int)
  | 0, _, _ => none
  | k + 1, a0z, a0 => laws_toByteS.b some (laws_toByteS.l0 k) k a0z a0
def laws_toByteS.enc (r : Bool × List Int) : Res := ⟨[.vals false [((.nums 5 .u8 r.1 r.2), true)]], []⟩
def laws_toByteS.ans (k : Nat) : List Arg → Ans
  | [.v (.nums 5 .u8 a0z a0)] => ⟨laws_toByteS.f k a0z a0, laws_toByteS.enc⟩
  | _ => Ans.no
def laws_toByteS.Cs (k : Nat) : CallSem := tab []
def laws_toByteS.cuts : List (Nat × Keep) := [(58, ⟨[(0, some []), (3, none), (4, some [])], []⟩)]
noncomputable def laws_toByteS.K0 : List Fr := framesAt [true, true, false, true, false] (bodyOf Try.f187 laws_toByteS.cuts) []
def laws_toByteS.N0 (x0z : Bool) (x0 : List Int) (x3 : List Int) (x4 : Int) : St := stOf 22 22 1 [(0, .val ⟨(.nums 5 .u8 x0z x0), [], false, none⟩), (3, .val ⟨(.nums 5 .u8 false x3), [.l 3 0], true, some (.l 3 0)⟩), (4, .val (V.s (.int .i64 x4)))] []
theorem laws_toByteS.s (k : Nat) (a0z : Bool) (a0 : List Int) : answer Try.prog laws_toByteS.Cs 100000 laws_toByteS.cuts [] Try.f187 (k + 1) [.v (.nums 5 .u8 a0z a0)] = laws_toByteS.b (fun r => some (laws_toByteS.enc r)) (fun x0z x0 x3 x4 => rounds Try.prog laws_toByteS.Cs (finish Try.prog [] Try.f187 [.v (.nums 5 .u8 a0z a0)]) 100000 k laws_toByteS.K0 (laws_toByteS.N0 x0z x0 x3 x4)) k a0z a0 := by kernel_rfl
theorem laws_toByteS.s0 (k : Nat) (G : List Fr → St → Option Res) (a0z : Bool) (a0 : List Int) (yx0z : Bool) (yx0 : List Int) (yx3 : List Int) (yx4 : Int) : resume Try.prog (laws_toByteS.Cs k) G (finish Try.prog [] Try.f187 [.v (.nums 5 .u8 a0z a0)]) 100000 laws_toByteS.K0 (laws_toByteS.N0 yx0z yx0 yx3 yx4) = laws_toByteS.l0b (fun r => some (laws_toByteS.enc r)) (fun x0z x0 x3 x4 => G laws_toByteS.K0 (laws_toByteS.N0 x0z x0 x3 x4)) k yx0z yx0 yx3 yx4 := by kernel_rfl
theorem laws_toByteS.b_nat {R R' : Type} (e : R → R') (ret : Bool × List Int → Option R) (j0 : Bool → (List Int) → (List Int) → Int → Option R) (k : Nat) (a0z : Bool) (a0 : List Int) : laws_toByteS.b (fun r => (ret r).map e) (fun x0z x0 x3 x4 => (j0 x0z x0 x3 x4).map e) k a0z a0 = (laws_toByteS.b ret j0 k a0z a0).map e := by
  unfold laws_toByteS.b
  repeat' first | with_reducible refine nat_cond ?_ ?_ | with_reducible refine nat_bind fun _ => ?_ | rfl
theorem laws_toByteS.l0b_nat {R R' : Type} (e : R → R') (ret : Bool × List Int → Option R) (j0 : Bool → (List Int) → (List Int) → Int → Option R) (k : Nat) (x0z : Bool) (x0 : List Int) (x3 : List Int) (x4 : Int) : laws_toByteS.l0b (fun r => (ret r).map e) (fun x0z x0 x3 x4 => (j0 x0z x0 x3 x4).map e) k x0z x0 x3 x4 = (laws_toByteS.l0b ret j0 k x0z x0 x3 x4).map e := by
  unfold laws_toByteS.l0b
  repeat' first | with_reducible refine nat_cond ?_ ?_ | with_reducible refine nat_bind fun _ => ?_ | rfl
theorem laws_toByteS.rounds_eq (a0z : Bool) (a0 : List Int) : ∀ k, (∀ (x0z : Bool) (x0 : List Int) (x3 : List Int) (x4 : Int), rounds Try.prog laws_toByteS.Cs (finish Try.prog [] Try.f187 [.v (.nums 5 .u8 a0z a0)]) 100000 k laws_toByteS.K0 (laws_toByteS.N0 x0z x0 x3 x4) = (laws_toByteS.l0 k x0z x0 x3 x4).map laws_toByteS.enc)
  | 0 => fun _ _ _ _ => rfl
  | k + 1 => by
    have ih := laws_toByteS.rounds_eq a0z a0 k
    refine fun _ _ _ _ => ?_
    · refine (laws_toByteS.s0 k _ a0z a0 _ _ _ _).trans (Eq.trans ?_ (laws_toByteS.l0b_nat laws_toByteS.enc some (laws_toByteS.l0 k) k _ _ _ _))
      simp only [ih, Option.map_some]
theorem laws_toByteS.eq (k : Nat) (a0z : Bool) (a0 : List Int) : answer Try.prog laws_toByteS.Cs 100000 laws_toByteS.cuts [] Try.f187 (k + 1) [.v (.nums 5 .u8 a0z a0)] = (laws_toByteS.f (k + 1) a0z a0).map laws_toByteS.enc := by
  have ih := laws_toByteS.rounds_eq a0z a0 k
  refine (laws_toByteS.s k a0z a0).trans (Eq.trans ?_ (laws_toByteS.b_nat laws_toByteS.enc some (laws_toByteS.l0 k) k a0z a0))
  simp only [ih, Option.map_some]
theorem laws_toByteS.sound (k : Nat) : SoundF Try.prog 187 (fun a => (laws_toByteS.ans k a).val) := by
  refine sound_plain (fun args res h => ?_) (fun t n => rfl)
  unfold laws_toByteS.ans at h
  dsimp only at h
  split at h
  · cases k with
    | zero => cases h
    | succ k =>
      unfold Ans.val at h
      rw [← laws_toByteS.eq] at h
      exact answer_sound mixed Try.func187 _ _ _ (k + 1) (fun j _ => tab_sound (tab_nil)) _ _ h
  · exact (Ans.no_val h).elim

/-! loop.example/g00790/laws.toRow -/
def laws_toRow.b {R : Type} (ret : Int × Bool × List Int → Option R) (k : Nat) (a0_0 : Int) (a0_1z : Bool) (a0_1 : List Int) : Option R :=
  (laws_toByteS.f k a0_1z a0_1).bind fun t0 => ret (a0_0, t0.1, t0.2)
def laws_toRow.f : Nat → Int → Bool → (List Int) → Option (Int × Bool × List Int)
  | 0, _, _, _ => none
  | k + 1, a0_0, a0_1z, a0_1 => laws_toRow.b some k a0_0 a0_1z a0_1
def laws_toRow.enc (r : Int × Bool × List Int) : Res := ⟨[.vals true [((.int .i64 r.1), true), ((.nums 5 .u8 r.2.1 r.2.2), true)]], []⟩
def laws_toRow.ans (k : Nat) : List Arg → Ans
  | [.v (.agg [(.int .i64 a0_0), (.nums 5 .u8 a0_1z a0_1)])] => ⟨laws_toRow.f k a0_0 a0_1z a0_1, laws_toRow.enc⟩
  | _ => Ans.no
def laws_toRow.Cs (k : Nat) : CallSem := tab [(187, laws_toByteS.ans k)]
def laws_toRow.cuts : List (Nat × Keep) := []
theorem laws_toRow.s (k : Nat) (a0_0 : Int) (a0_1z : Bool) (a0_1 : List Int) : answer Try.prog laws_toRow.Cs 100000 laws_toRow.cuts [] Try.f186 (k + 1) [.v (.agg [(.int .i64 a0_0), (.nums 5 .u8 a0_1z a0_1)])] = laws_toRow.b (fun r => some (laws_toRow.enc r)) k a0_0 a0_1z a0_1 := by kernel_rfl
theorem laws_toRow.b_nat {R R' : Type} (e : R → R') (ret : Int × Bool × List Int → Option R) (k : Nat) (a0_0 : Int) (a0_1z : Bool) (a0_1 : List Int) : laws_toRow.b (fun r => (ret r).map e) k a0_0 a0_1z a0_1 = (laws_toRow.b ret k a0_0 a0_1z a0_1).map e := by
  unfold laws_toRow.b
  repeat' first | with_reducible refine nat_cond ?_ ?_ | with_reducible refine nat_bind fun _ => ?_ | rfl
theorem laws_toRow.eq (k : Nat) (a0_0 : Int) (a0_1z : Bool) (a0_1 : List Int) : answer Try.prog laws_toRow.Cs 100000 laws_toRow.cuts [] Try.f186 (k + 1) [.v (.agg [(.int .i64 a0_0), (.nums 5 .u8 a0_1z a0_1)])] = (laws_toRow.f (k + 1) a0_0 a0_1z a0_1).map laws_toRow.enc := by
  refine (laws_toRow.s k a0_0 a0_1z a0_1).trans (Eq.trans ?_ (laws_toRow.b_nat laws_toRow.enc some k a0_0 a0_1z a0_1))
  simp only [Option.map_some]
theorem laws_toRow.sound (k : Nat) : SoundF Try.prog 186 (fun a => (laws_toRow.ans k a).val) := by
  refine sound_plain (fun args res h => ?_) (fun t n => rfl)
  unfold laws_toRow.ans at h
  dsimp only at h
  split at h
  · cases k with
    | zero => cases h
    | succ k =>
      unfold Ans.val at h
      rw [← laws_toRow.eq] at h
      exact answer_sound mixed Try.func186 _ _ _ (k + 1) (fun j _ => tab_sound (tab_cons (laws_toByteS.sound j) (tab_nil))) _ _ h
  · exact (Ans.no_val h).elim

/-! loop.example/g00790/laws.toRowS -/
def laws_toRowS.b {R : Type} (ret : Bool × List T → Option R) (j0 : Bool → (List T) → (List T) → Int → Option R) (k : Nat) (a0z : Bool) (a0 : List T) : Option R :=
  cond (decide (((a0).length : Int) = ((a0).length : Int))) (cond (decide ((0 : Int) ≤ ((a0).length : Int))) (cond (decide ((a0).length < 4398046511104)) (j0 a0z a0 (List.replicate (a0).length (.agg [(.int .i64 0), (.nums 5 .u8 true ([] : List Int))])) 0) (none)) (none)) (none)
def laws_toRowS.l0b {R : Type} (ret : Bool × List T → Option R) (j0 : Bool → (List T) → (List T) → Int → Option R) (k : Nat) (x0z : Bool) (x0 : List T) (x3 : List T) (x4 : Int) : Option R :=
  cond (decide (x4 < ((x0).length : Int))) (cond (decide ((0 : Int) ≤ x4)) (cond (decide (x4 < ((x0).length : Int))) ((laws_toRow.f k (((((x0).getD (x4).toNat .bad).cells.getD 0 .bad)).toInt) (((((x0).getD (x4).toNat .bad).cells.getD 1 .bad)).isNil) (((((x0).getD (x4).toNat .bad).cells.getD 1 .bad)).toNums)).bind fun t0 => cond (decide ((0 : Int) ≤ x4)) (cond (decide (x4 < ((x3).length : Int))) (j0 x0z x0 ((x3).set (x4).toNat (.agg [(.int .i64 t0.1), (.nums 5 .u8 t0.2.1 t0.2.2)])) (RowKit.wrap64 (x4 + 1))) (none)) (none)) (none)) (none)) (ret (false, x3))
def laws_toRowS.l0 : Nat → Bool → (List T) → (List T) → Int → Option (Bool × List T)
  | 0, _, _, _, _ => none
  | k + 1, x0z, x0, x3, x4 => laws_toRowS.l0b some (laws_toRowS.l0 k) k x0z x0 x3 x4
def laws_toRowS.f : Nat → Bool → (List T) → Option (Bool × List T)
  | 0, _, _ => none
  | k + 1, a0z, a0 => laws_toRowS.b some (laws_toRowS.l0 k) k a0z a0
def laws_toRowS.enc (r : Bool × List T) : Res := ⟨[.vals false [((.sl 44 r.1 r.2), true)]], []⟩
def laws_toRowS.ans (k : Nat) : List Arg → Ans
  | [.v (.sl 204 a0z a0)] => ⟨laws_toRowS.f k a0z a0, laws_toRowS.enc⟩
  | _ => Ans.no
def laws_toRowS.Cs (k : Nat) : CallSem := tab [(186, laws_toRow.ans k)]
def laws_toRowS.cuts : List (Nat × Keep) := [(58, ⟨[(0, some []), (3, none), (4, some [])], []⟩)]
noncomputable def laws_toRowS.K0 : List Fr := framesAt [true, true, false, true, false] (bodyOf Try.f140 laws_toRowS.cuts) []
def laws_toRowS.N0 (x0z : Bool) (x0 : List T) (x3 : List T) (x4 : Int) : St := stOf 23 23 1 [(0, .val ⟨(.sl 204 x0z x0), [], false, none⟩), (3, .val ⟨(.sl 44 false x3), [.l 3 0], true, some (.l 3 0)⟩), (4, .val (V.s (.int .i64 x4)))] []
theorem laws_toRowS.s (k : Nat) (a0z : Bool) (a0 : List T) : answer Try.prog laws_toRowS.Cs 100000 laws_toRowS.cuts [] Try.f140 (k + 1) [.v (.sl 204 a0z a0)] = laws_toRowS.b (fun r => some (laws_toRowS.enc r)) (fun x0z x0 x3 x4 => rounds Try.prog laws_toRowS.Cs (finish Try.prog [] Try.f140 [.v (.sl 204 a0z a0)]) 100000 k laws_toRowS.K0 (laws_toRowS.N0 x0z x0 x3 x4)) k a0z a0 := by kernel_rfl
theorem laws_toRowS.s0 (k : Nat) (G : List Fr → St → Option Res) (a0z : Bool) (a0 : List T) (yx0z : Bool) (yx0 : List T) (yx3 : List T) (yx4 : Int) : resume Try.prog (laws_toRowS.Cs k) G (finish Try.prog [] Try.f140 [.v (.sl 204 a0z a0)]) 100000 laws_toRowS.K0 (laws_toRowS.N0 yx0z yx0 yx3 yx4) = laws_toRowS.l0b (fun r => some (laws_toRowS.enc r)) (fun x0z x0 x3 x4 => G laws_toRowS.K0 (laws_toRowS.N0 x0z x0 x3 x4)) k yx0z yx0 yx3 yx4 := by kernel_rfl
theorem laws_toRowS.b_nat {R R' : Type} (e : R → R') (ret : Bool × List T → Option R) (j0 : Bool → (List T) → (List T) → Int → Option R) (k : Nat) (a0z : Bool) (a0 : List T) : laws_toRowS.b (fun r => (ret r).map e) (fun x0z x0 x3 x4 => (j0 x0z x0 x3 x4).map e) k a0z a0 = (laws_toRowS.b ret j0 k a0z a0).map e := by
  unfold laws_toRowS.b
  repeat' first | with_reducible refine nat_cond ?_ ?_ | with_reducible refine nat_bind fun _ => ?_ | rfl
theorem laws_toRowS.l0b_nat {R R' : Type} (e : R → R') (ret : Bool × List T → Option R) (j0 : Bool → (List T) → (List T) → Int → Option R) (k : Nat) (x0z : Bool) (x0 : List T) (x3 : List T) (x4 : Int) : laws_toRowS.l0b (fun r => (ret r).map e) (fun x0z x0 x3 x4 => (j0 x0z x0 x3 x4).map e) k x0z x0 x3 x4 = (laws_toRowS.l0b ret j0 k x0z x0 x3 x4).map e := by
  unfold laws_toRowS.l0b
  repeat' first | with_reducible refine nat_cond ?_ ?_ | with_reducible refine nat_bind fun _ => ?_ | rfl
theorem laws_toRowS.rounds_eq (a0z : Bool) (a0 : List T) : ∀ k, (∀ (x0z : Bool) (x0 : List T) (x3 : List T) (x4 : Int), rounds Try.prog laws_toRowS.Cs (finish Try.prog [] Try.f140 [.v (.sl 204 a0z a0)]) 100000 k laws_toRowS.K0 (laws_toRowS.N0 x0z x0 x3 x4) = (laws_toRowS.l0 k x0z x0 x3 x4).map laws_toRowS.enc)
  | 0 => fun _ _ _ _ => rfl
  | k + 1 => by
    have ih := laws_toRowS.rounds_eq a0z a0 k
    refine fun _ _ _ _ => ?_
    · refine (laws_toRowS.s0 k _ a0z a0 _ _ _ _).trans (Eq.trans ?_ (laws_toRowS.l0b_nat laws_toRowS.enc some (laws_toRowS.l0 k) k _ _ _ _))
      simp only [ih, Option.map_some]
theorem laws_toRowS.eq (k : Nat) (a0z : Bool) (a0 : List T) : answer Try.prog laws_toRowS.Cs 100000 laws_toRowS.cuts [] Try.f140 (k + 1) [.v (.sl 204 a0z a0)] = (laws_toRowS.f (k + 1) a0z a0).map laws_toRowS.enc := by
  have ih := laws_toRowS.rounds_eq a0z a0 k
  refine (laws_toRowS.s k a0z a0).trans (Eq.trans ?_ (laws_toRowS.b_nat laws_toRowS.enc some (laws_toRowS.l0 k) k a0z a0))
  simp only [ih, Option.map_some]
theorem laws_toRowS.sound (k : Nat) : SoundF Try.prog 140 (fun a => (laws_toRowS.ans k a).val) := by
  refine sound_plain (fun args res h => ?_) (fun t n => rfl)
  unfold laws_toRowS.ans at h
  dsimp only at h
  split at h
  · cases k with
    | zero => cases h
    | succ k =>
      unfold Ans.val at h
      rw [← laws_toRowS.eq] at h
      exact answer_sound mixed Try.func140 _ _ _ (k + 1) (fun j _ => tab_sound (tab_cons (laws_toRow.sound j) (tab_nil))) _ _ h
  · exact (Ans.no_val h).elim

/-! loop.example/g00790/laws.toTable -/
def laws_toTable.b {R : Type} (ret : Bool × List T → Option R) (k : Nat) (a0_0z : Bool) (a0_0 : List T) : Option R :=
  (laws_toRowS.f k a0_0z a0_0).bind fun t0 => ret (t0.1, t0.2)
def laws_toTable.f : Nat → Bool → (List T) → Option (Bool × List T)
  | 0, _, _ => none
  | k + 1, a0_0z, a0_0 => laws_toTable.b some k a0_0z a0_0
def laws_toTable.enc (r : Bool × List T) : Res := ⟨[.vals true [((.sl 44 r.1 r.2), true)]], []⟩
def laws_toTable.ans (k : Nat) : List Arg → Ans
  | [.v (.agg [(.sl 204 a0_0z a0_0)])] => ⟨laws_toTable.f k a0_0z a0_0, laws_toTable.enc⟩
  | _ => Ans.no
def laws_toTable.Cs (k : Nat) : CallSem := tab [(140, laws_toRowS.ans k)]
def laws_toTable.cuts : List (Nat × Keep) := []
theorem laws_toTable.s (k : Nat) (a0_0z : Bool) (a0_0 : List T) : answer Try.prog laws_toTable.Cs 100000 laws_toTable.cuts [] Try.f65 (k + 1) [.v (.agg [(.sl 204 a0_0z a0_0)])] = laws_toTable.b (fun r => some (laws_toTable.enc r)) k a0_0z a0_0 := by kernel_rfl
theorem laws_toTable.b_nat {R R' : Type} (e : R → R') (ret : Bool × List T → Option R) (k : Nat) (a0_0z : Bool) (a0_0 : List T) : laws_toTable.b (fun r => (ret r).map e) k a0_0z a0_0 = (laws_toTable.b ret k a0_0z a0_0).map e := by
  unfold laws_toTable.b
  repeat' first | with_reducible refine nat_cond ?_ ?_ | with_reducible refine nat_bind fun _ => ?_ | rfl
theorem laws_toTable.eq (k : Nat) (a0_0z : Bool) (a0_0 : List T) : answer Try.prog laws_toTable.Cs 100000 laws_toTable.cuts [] Try.f65 (k + 1) [.v (.agg [(.sl 204 a0_0z a0_0)])] = (laws_toTable.f (k + 1) a0_0z a0_0).map laws_toTable.enc := by
  refine (laws_toTable.s k a0_0z a0_0).trans (Eq.trans ?_ (laws_toTable.b_nat laws_toTable.enc some k a0_0z a0_0))
  simp only [Option.map_some]
theorem laws_toTable.sound (k : Nat) : SoundF Try.prog 65 (fun a => (laws_toTable.ans k a).val) := by
  refine sound_plain (fun args res h => ?_) (fun t n => rfl)
  unfold laws_toTable.ans at h
  dsimp only at h
  split at h
  · cases k with
    | zero => cases h
    | succ k =>
      unfold Ans.val at h
      rw [← laws_toTable.eq] at h
      exact answer_sound mixed Try.func65 _ _ _ (k + 1) (fun j _ => tab_sound (tab_cons (laws_toRowS.sound j) (tab_nil))) _ _ h
  · exact (Ans.no_val h).elim

/-! loop.example/g00790/laws.toVote -/
def laws_toVote.b {R : Type} (ret : Int × Int × Bool × (List Int) × Int × Bool × List Int → Option R) (k : Nat) (a0_0 : Int) (a0_1 : Int) (a0_2z : Bool) (a0_2 : List Int) (a0_3 : Int) (a0_4z : Bool) (a0_4 : List Int) : Option R :=
  (laws_toByteS.f k a0_2z a0_2).bind fun t0 => (laws_toByteS.f k a0_4z a0_4).bind fun t1 => ret (a0_0, a0_1, t0.1, t0.2, a0_3, t1.1, t1.2)
def laws_toVote.f : Nat → Int → Int → Bool → (List Int) → Int → Bool → (List Int) → Option (Int × Int × Bool × (List Int) × Int × Bool × List Int)
  | 0, _, _, _, _, _, _, _ => none
  | k + 1, a0_0, a0_1, a0_2z, a0_2, a0_3, a0_4z, a0_4 => laws_toVote.b some k a0_0 a0_1 a0_2z a0_2 a0_3 a0_4z a0_4
def laws_toVote.enc (r : Int × Int × Bool × (List Int) × Int × Bool × List Int) : Res := ⟨[.vals true [((.int .i64 r.1), true), ((.int .i64 r.2.1), true), ((.nums 5 .u8 r.2.2.1 r.2.2.2.1), true), ((.int .i64 r.2.2.2.2.1), true), ((.nums 5 .u8 r.2.2.2.2.2.1 r.2.2.2.2.2.2), true)]], []⟩
def laws_toVote.ans (k : Nat) : List Arg → Ans
  | [.v (.agg [(.int .i64 a0_0), (.int .i64 a0_1), (.nums 5 .u8 a0_2z a0_2), (.int .i64 a0_3), (.nums 5 .u8 a0_4z a0_4)])] => ⟨laws_toVote.f k a0_0 a0_1 a0_2z a0_2 a0_3 a0_4z a0_4, laws_toVote.enc⟩
  | _ => Ans.no
def laws_toVote.Cs (k : Nat) : CallSem := tab [(187, laws_toByteS.ans k)]
def laws_toVote.cuts : List (Nat × Keep) := []
theorem laws_toVote.s (k : Nat) (a0_0 : Int) (a0_1 : Int) (a0_2z : Bool) (a0_2 : List Int) (a0_3 : Int) (a0_4z : Bool) (a0_4 : List Int) : answer Try.prog laws_toVote.Cs 100000 laws_toVote.cuts [] Try.f141 (k + 1) [.v (.agg [(.int .i64 a0_0), (.int .i64 a0_1), (.nums 5 .u8 a0_2z a0_2), (.int .i64 a0_3), (.nums 5 .u8 a0_4z a0_4)])] = laws_toVote.b (fun r => some (laws_toVote.enc r)) k a0_0 a0_1 a0_2z a0_2 a0_3 a0_4z a0_4 := by kernel_rfl
theorem laws_toVote.b_nat {R R' : Type} (e : R → R') (ret : Int × Int × Bool × (List Int) × Int × Bool × List Int → Option R) (k : Nat) (a0_0 : Int) (a0_1 : Int) (a0_2z : Bool) (a0_2 : List Int) (a0_3 : Int) (a0_4z : Bool) (a0_4 : List Int) : laws_toVote.b (fun r => (ret r).map e) k a0_0 a0_1 a0_2z a0_2 a0_3 a0_4z a0_4 = (laws_toVote.b ret k a0_0 a0_1 a0_2z a0_2 a0_3 a0_4z a0_4).map e := by
  unfold laws_toVote.b
  repeat' first | with_reducible refine nat_cond ?_ ?_ | with_reducible refine nat_bind fun _ => ?_ | rfl
theorem laws_toVote.eq (k : Nat) (a0_0 : Int) (a0_1 : Int) (a0_2z : Bool) (a0_2 : List Int) (a0_3 : Int) (a0_4z : Bool) (a0_4 : List Int) : answer Try.prog laws_toVote.Cs 100000 laws_toVote.cuts [] Try.f141 (k + 1) [.v (.agg [(.int .i64 a0_0), (.int .i64 a0_1), (.nums 5 .u8 a0_2z a0_2), (.int .i64 a0_3), (.nums 5 .u8 a0_4z a0_4)])] = (laws_toVote.f (k + 1) a0_0 a0_1 a0_2z a0_2 a0_3 a0_4z a0_4).map laws_toVote.enc := by
  refine (laws_toVote.s k a0_0 a0_1 a0_2z a0_2 a0_3 a0_4z a0_4).trans (Eq.trans ?_ (laws_toVote.b_nat laws_toVote.enc some k a0_0 a0_1 a0_2z a0_2 a0_3 a0_4z a0_4))
  simp only [Option.map_some]
theorem laws_toVote.sound (k : Nat) : SoundF Try.prog 141 (fun a => (laws_toVote.ans k a).val) := by
  refine sound_plain (fun args res h => ?_) (fun t n => rfl)
  unfold laws_toVote.ans at h
  dsimp only at h
  split at h
  · cases k with
    | zero => cases h
    | succ k =>
      unfold Ans.val at h
      rw [← laws_toVote.eq] at h
      exact answer_sound mixed Try.func141 _ _ _ (k + 1) (fun j _ => tab_sound (tab_cons (laws_toByteS.sound j) (tab_nil))) _ _ h
  · exact (Ans.no_val h).elim

/-! loop.example/g00790/laws.toVoteS -/
def laws_toVoteS.b {R : Type} (ret : Bool × List T → Option R) (j0 : Bool → (List T) → (List T) → Int → Option R) (k : Nat) (a0z : Bool) (a0 : List T) : Option R :=
  cond (decide (((a0).length : Int) = ((a0).length : Int))) (cond (decide ((0 : Int) ≤ ((a0).length : Int))) (cond (decide ((a0).length < 1954687338268)) (j0 a0z a0 (List.replicate (a0).length (.agg [(.int .i64 0), (.int .i64 0), (.nums 5 .u8 true ([] : List Int)), (.int .i64 0), (.nums 5 .u8 true ([] : List Int))])) 0) (none)) (none)) (none)
def laws_toVoteS.l0b {R : Type} (ret : Bool × List T → Option R) (j0 : Bool → (List T) → (List T) → Int → Option R) (k : Nat) (x0z : Bool) (x0 : List T) (x3 : List T) (x4 : Int) : Option R :=
  cond (decide (x4 < ((x0).length : Int))) (cond (decide ((0 : Int) ≤ x4)) (cond (decide (x4 < ((x0).length : Int))) ((laws_toVote.f k (((((x0).getD (x4).toNat .bad).cells.getD 0 .bad)).toInt) (((((x0).getD (x4).toNat .bad).cells.getD 1 .bad)).toInt) (((((x0).getD (x4).toNat .bad).cells.getD 2 .bad)).isNil) (((((x0).getD (x4).toNat .bad).cells.getD 2 .bad)).toNums) (((((x0).getD (x4).toNat .bad).cells.getD 3 .bad)).toInt) (((((x0).getD (x4).toNat .bad).cells.getD 4 .bad)).isNil) (((((x0).getD (x4).toNat .bad).cells.getD 4 .bad)).toNums)).bind fun t0 => cond (decide ((0 : Int) ≤ x4)) (cond (decide (x4 < ((x3).length : Int))) (j0 x0z x0 ((x3).set (x4).toNat (.agg [(.int .i64 t0.1), (.int .i64 t0.2.1), (.nums 5 .u8 t0.2.2.1 t0.2.2.2.1), (.int .i64 t0.2.2.2.2.1), (.nums 5 .u8 t0.2.2.2.2.2.1 t0.2.2.2.2.2.2)])) (RowKit.wrap64 (x4 + 1))) (none)) (none)) (none)) (none)) (ret (false, x3))
def laws_toVoteS.l0 : Nat → Bool → (List T) → (List T) → Int → Option (Bool × List T)
  | 0, _, _, _, _ => none
  | k + 1, x0z, x0, x3, x4 => laws_toVoteS.l0b some (laws_toVoteS.l0 k) k x0z x0 x3 x4
def laws_toVoteS.f : Nat → Bool → (List T) → Option (Bool × List T)
  | 0, _, _ => none
  | k + 1, a0z, a0 => laws_toVoteS.b some (laws_toVoteS.l0 k) k a0z a0
def laws_toVoteS.enc (r : Bool × List T) : Res := ⟨[.vals false [((.sl 33 r.1 r.2), true)]], []⟩
def laws_toVoteS.ans (k : Nat) : List Arg → Ans
  | [.v (.sl 171 a0z a0)] => ⟨laws_toVoteS.f k a0z a0, laws_toVoteS.enc⟩
  | _ => Ans.no
def laws_toVoteS.Cs (k : Nat) : CallSem := tab [(141, laws_toVote.ans k)]
def laws_toVoteS.cuts : List (Nat × Keep) := [(58, ⟨[(0, some []), (3, none), (4, some [])], []⟩)]
noncomputable def laws_toVoteS.K0 : List Fr := framesAt [true, true, false, true, false] (bodyOf Try.f66 laws_toVoteS.cuts) []
def laws_toVoteS.N0 (x0z : Bool) (x0 : List T) (x3 : List T) (x4 : Int) : St := stOf 23 23 1 [(0, .val ⟨(.sl 171 x0z x0), [], false, none⟩), (3, .val ⟨(.sl 33 false x3), [.l 3 0], true, some (.l 3 0)⟩), (4, .val (V.s (.int .i64 x4)))] []
theorem laws_toVoteS.s (k : Nat) (a0z : Bool) (a0 : List T) : answer Try.prog laws_toVoteS.Cs 100000 laws_toVoteS.cuts [] Try.f66 (k + 1) [.v (.sl 171 a0z a0)] = laws_toVoteS.b (fun r => some (laws_toVoteS.enc r)) (fun x0z x0 x3 x4 => rounds Try.prog laws_toVoteS.Cs (finish Try.prog [] Try.f66 [.v (.sl 171 a0z a0)]) 100000 k laws_toVoteS.K0 (laws_toVoteS.N0 x0z x0 x3 x4)) k a0z a0 := by kernel_rfl
theorem laws_toVoteS.s0 (k : Nat) (G : List Fr → St → Option Res) (a0z : Bool) (a0 : List T) (yx0z : Bool) (yx0 : List T) (yx3 : List T) (yx4 : Int) : resume Try.prog (laws_toVoteS.Cs k) G (finish Try.prog [] Try.f66 [.v (.sl 171 a0z a0)]) 100000 laws_toVoteS.K0 (laws_toVoteS.N0 yx0z yx0 yx3 yx4) = laws_toVoteS.l0b (fun r => some (laws_toVoteS.enc r)) (fun x0z x0 x3 x4 => G laws_toVoteS.K0 (laws_toVoteS.N0 x0z x0 x3 x4)) k yx0z yx0 yx3 yx4 := by kernel_rfl
theorem laws_toVoteS.b_nat {R R' : Type} (e : R → R') (ret : Bool × List T → Option R) (j0 : Bool → (List T) → (List T) → Int → Option R) (k : Nat) (a0z : Bool) (a0 : List T) : laws_toVoteS.b (fun r => (ret r).map e) (fun x0z x0 x3 x4 => (j0 x0z x0 x3 x4).map e) k a0z a0 = (laws_toVoteS.b ret j0 k a0z a0).map e := by
  unfold laws_toVoteS.b
  repeat' first | with_reducible refine nat_cond ?_ ?_ | with_reducible refine nat_bind fun _ => ?_ | rfl
theorem laws_toVoteS.l0b_nat {R R' : Type} (e : R → R') (ret : Bool × List T → Option R) (j0 : Bool → (List T) → (List T) → Int → Option R) (k : Nat) (x0z : Bool) (x0 : List T) (x3 : List T) (x4 : Int) : laws_toVoteS.l0b (fun r => (ret r).map e) (fun x0z x0 x3 x4 => (j0 x0z x0 x3 x4).map e) k x0z x0 x3 x4 = (laws_toVoteS.l0b ret j0 k x0z x0 x3 x4).map e := by
  unfold laws_toVoteS.l0b
  repeat' first | with_reducible refine nat_cond ?_ ?_ | with_reducible refine nat_bind fun _ => ?_ | rfl
theorem laws_toVoteS.rounds_eq (a0z : Bool) (a0 : List T) : ∀ k, (∀ (x0z : Bool) (x0 : List T) (x3 : List T) (x4 : Int), rounds Try.prog laws_toVoteS.Cs (finish Try.prog [] Try.f66 [.v (.sl 171 a0z a0)]) 100000 k laws_toVoteS.K0 (laws_toVoteS.N0 x0z x0 x3 x4) = (laws_toVoteS.l0 k x0z x0 x3 x4).map laws_toVoteS.enc)
  | 0 => fun _ _ _ _ => rfl
  | k + 1 => by
    have ih := laws_toVoteS.rounds_eq a0z a0 k
    refine fun _ _ _ _ => ?_
    · refine (laws_toVoteS.s0 k _ a0z a0 _ _ _ _).trans (Eq.trans ?_ (laws_toVoteS.l0b_nat laws_toVoteS.enc some (laws_toVoteS.l0 k) k _ _ _ _))
      simp only [ih, Option.map_some]
theorem laws_toVoteS.eq (k : Nat) (a0z : Bool) (a0 : List T) : answer Try.prog laws_toVoteS.Cs 100000 laws_toVoteS.cuts [] Try.f66 (k + 1) [.v (.sl 171 a0z a0)] = (laws_toVoteS.f (k + 1) a0z a0).map laws_toVoteS.enc := by
  have ih := laws_toVoteS.rounds_eq a0z a0 k
  refine (laws_toVoteS.s k a0z a0).trans (Eq.trans ?_ (laws_toVoteS.b_nat laws_toVoteS.enc some (laws_toVoteS.l0 k) k a0z a0))
  simp only [ih, Option.map_some]
theorem laws_toVoteS.sound (k : Nat) : SoundF Try.prog 66 (fun a => (laws_toVoteS.ans k a).val) := by
  refine sound_plain (fun args res h => ?_) (fun t n => rfl)
  unfold laws_toVoteS.ans at h
  dsimp only at h
  split at h
  · cases k with
    | zero => cases h
    | succ k =>
      unfold Ans.val at h
      rw [← laws_toVoteS.eq] at h
      exact answer_sound mixed Try.func66 _ _ _ (k + 1) (fun j _ => tab_sound (tab_cons (laws_toVote.sound j) (tab_nil))) _ _ h
  · exact (Ans.no_val h).elim

/-! loop.example/g00790/spec.l01In -/
def spec_l01In.b {R : Type} (ret : Bool → Option R) (k : Nat) (a0 : Int) (a1 : Int) (a2 : Int) : Option R :=
  cond (decide (a0 ≥ a1)) (ret (decide (a0 ≤ a2))) (ret false)
def spec_l01In.f : Nat → Int → Int → Int → Option Bool
  | 0, _, _, _ => none
  | k + 1, a0, a1, a2 => spec_l01In.b some k a0 a1 a2
def spec_l01In.enc (r : Bool) : Res := ⟨[.vals false [((.bool r), true)]], []⟩
def spec_l01In.ans (k : Nat) : List Arg → Ans
  | [.v (.int .i64 a0), .v (.int .i64 a1), .v (.int .i64 a2)] => ⟨spec_l01In.f k a0 a1 a2, spec_l01In.enc⟩
  | _ => Ans.no
def spec_l01In.Cs (k : Nat) : CallSem := tab []
def spec_l01In.cuts : List (Nat × Keep) := []
theorem spec_l01In.s (k : Nat) (a0 : Int) (a1 : Int) (a2 : Int) : answer Try.prog spec_l01In.Cs 100000 spec_l01In.cuts [] Try.f170 (k + 1) [.v (.int .i64 a0), .v (.int .i64 a1), .v (.int .i64 a2)] = spec_l01In.b (fun r => some (spec_l01In.enc r)) k a0 a1 a2 := by kernel_rfl
theorem spec_l01In.b_nat {R R' : Type} (e : R → R') (ret : Bool → Option R) (k : Nat) (a0 : Int) (a1 : Int) (a2 : Int) : spec_l01In.b (fun r => (ret r).map e) k a0 a1 a2 = (spec_l01In.b ret k a0 a1 a2).map e := by
  unfold spec_l01In.b
  repeat' first | with_reducible refine nat_cond ?_ ?_ | with_reducible refine nat_bind fun _ => ?_ | rfl
theorem spec_l01In.eq (k : Nat) (a0 : Int) (a1 : Int) (a2 : Int) : answer Try.prog spec_l01In.Cs 100000 spec_l01In.cuts [] Try.f170 (k + 1) [.v (.int .i64 a0), .v (.int .i64 a1), .v (.int .i64 a2)] = (spec_l01In.f (k + 1) a0 a1 a2).map spec_l01In.enc := by
  refine (spec_l01In.s k a0 a1 a2).trans (Eq.trans ?_ (spec_l01In.b_nat spec_l01In.enc some k a0 a1 a2))
  simp only [Option.map_some]
theorem spec_l01In.sound (k : Nat) : SoundF Try.prog 170 (fun a => (spec_l01In.ans k a).val) := by
  refine sound_plain (fun args res h => ?_) (fun t n => rfl)
  unfold spec_l01In.ans at h
  dsimp only at h
  split at h
  · cases k with
    | zero => cases h
    | succ k =>
      unfold Ans.val at h
      rw [← spec_l01In.eq] at h
      exact answer_sound mixed Try.func170 _ _ _ (k + 1) (fun j _ => tab_sound (tab_nil)) _ _ h
  · exact (Ans.no_val h).elim

/-! loop.example/g00790/spec.l02Signers -/
def spec_l02Signers.b {R : Type} (ret : Bool → Option R) (k : Nat) (a0 : Int) : Option R :=
  (spec_l01In.f k a0 1 10).bind fun t0 => ret t0
def spec_l02Signers.f : Nat → Int → Option Bool
  | 0, _ => none
  | k + 1, a0 => spec_l02Signers.b some k a0
def spec_l02Signers.enc (r : Bool) : Res := ⟨[.vals false [((.bool r), true)]], []⟩
def spec_l02Signers.ans (k : Nat) : List Arg → Ans
  | [.v (.int .i64 a0)] => ⟨spec_l02Signers.f k a0, spec_l02Signers.enc⟩
  | _ => Ans.no
def spec_l02Signers.Cs (k : Nat) : CallSem := tab [(170, spec_l01In.ans k)]
def spec_l02Signers.cuts : List (Nat × Keep) := []
theorem spec_l02Signers.s (k : Nat) (a0 : Int) : answer Try.prog spec_l02Signers.Cs 100000 spec_l02Signers.cuts [] Try.f171 (k + 1) [.v (.int .i64 a0)] = spec_l02Signers.b (fun r => some (spec_l02Signers.enc r)) k a0 := by kernel_rfl
theorem spec_l02Signers.b_nat {R R' : Type} (e : R → R') (ret : Bool → Option R) (k : Nat) (a0 : Int) : spec_l02Signers.b (fun r => (ret r).map e) k a0 = (spec_l02Signers.b ret k a0).map e := by
  unfold spec_l02Signers.b
  repeat' first | with_reducible refine nat_cond ?_ ?_ | with_reducible refine nat_bind fun _ => ?_ | rfl
theorem spec_l02Signers.eq (k : Nat) (a0 : Int) : answer Try.prog spec_l02Signers.Cs 100000 spec_l02Signers.cuts [] Try.f171 (k + 1) [.v (.int .i64 a0)] = (spec_l02Signers.f (k + 1) a0).map spec_l02Signers.enc := by
  refine (spec_l02Signers.s k a0).trans (Eq.trans ?_ (spec_l02Signers.b_nat spec_l02Signers.enc some k a0))
  simp only [Option.map_some]
theorem spec_l02Signers.sound (k : Nat) : SoundF Try.prog 171 (fun a => (spec_l02Signers.ans k a).val) := by
  refine sound_plain (fun args res h => ?_) (fun t n => rfl)
  unfold spec_l02Signers.ans at h
  dsimp only at h
  split at h
  · cases k with
    | zero => cases h
    | succ k =>
      unfold Ans.val at h
      rw [← spec_l02Signers.eq] at h
      exact answer_sound mixed Try.func171 _ _ _ (k + 1) (fun j _ => tab_sound (tab_cons (spec_l01In.sound j) (tab_nil))) _ _ h
  · exact (Ans.no_val h).elim

/-! loop.example/g00790/spec.TableOk -/
def spec_TableOk.b {R : Type} (ret : Bool → Option R) (j0 : Bool → (List T) → Int → Int → Bool → (List T) → Option R) (k : Nat) (a0_0z : Bool) (a0_0 : List T) : Option R :=
  j0 a0_0z a0_0 ((a0_0).length : Int) 0 a0_0z a0_0
def spec_TableOk.l0b {R : Type} (ret : Bool → Option R) (j0 : Bool → (List T) → Int → Int → Bool → (List T) → Option R) (k : Nat) (x6z : Bool) (x6 : List T) (x7 : Int) (x8 : Int) (c1_0z : Bool) (c1_0 : List T) : Option R :=
  cond (decide (x8 < x7)) (cond (decide ((0 : Int) ≤ x8)) (cond (decide (x8 < ((x6).length : Int))) ((spec_l01In.f k (((((x6).getD (x8).toNat .bad).cells.getD 0 .bad)).toInt) 1 1099511627776).bind fun t0 => cond (!t0) (ret false) ((spec_l01In.f k ((((((x6).getD (x8).toNat .bad).cells.getD 1 .bad)).toNums).length : Int) 1 64).bind fun t1 => cond (!t1) (ret false) (j0 x6z x6 x7 (RowKit.wrap64 (x8 + 1)) c1_0z c1_0))) (none)) (none)) ((spec_l02Signers.f k ((c1_0).length : Int)).bind fun t0 => ret t0)
def spec_TableOk.l0 : Nat → Bool → (List T) → Int → Int → Bool → (List T) → Option Bool
  | 0, _, _, _, _, _, _ => none
  | k + 1, x6z, x6, x7, x8, c1_0z, c1_0 => spec_TableOk.l0b some (spec_TableOk.l0 k) k x6z x6 x7 x8 c1_0z c1_0
def spec_TableOk.f : Nat → Bool → (List T) → Option Bool
  | 0, _, _ => none
  | k + 1, a0_0z, a0_0 => spec_TableOk.b some (spec_TableOk.l0 k) k a0_0z a0_0
def spec_TableOk.enc (r : Bool) : Res := ⟨[.vals false [((.bool r), true)]], []⟩
def spec_TableOk.ans (k : Nat) : List Arg → Ans
  | [.v (.agg [(.sl 44 a0_0z a0_0)])] => ⟨spec_TableOk.f k a0_0z a0_0, spec_TableOk.enc⟩
  | _ => Ans.no
def spec_TableOk.Cs (k : Nat) : CallSem := tab [(170, spec_l01In.ans k), (171, spec_l02Signers.ans k)]
def spec_TableOk.cuts : List (Nat × Keep) := [(26, ⟨[(1, some []), (6, some []), (7, some []), (8, some [])], [(1, [some []])]⟩)]
noncomputable def spec_TableOk.K0 : List Fr := framesAt [true, false, true, false] (bodyOf Try.f112 spec_TableOk.cuts) []
def spec_TableOk.N0 (x6z : Bool) (x6 : List T) (x7 : Int) (x8 : Int) (c1_0z : Bool) (c1_0 : List T) : St := stOf 28 28 1 [(1, .bp 1 0), (6, .val ⟨(.sl 44 x6z x6), [], false, none⟩), (7, .val (V.s (.int .i64 x7))), (8, .val (V.s (.int .i64 x8)))] [(1, .cells [⟨(.sl 44 c1_0z c1_0), [], false, none⟩])]
theorem spec_TableOk.s (k : Nat) (a0_0z : Bool) (a0_0 : List T) : answer Try.prog spec_TableOk.Cs 100000 spec_TableOk.cuts [] Try.f112 (k + 1) [.v (.agg [(.sl 44 a0_0z a0_0)])] = spec_TableOk.b (fun r => some (spec_TableOk.enc r)) (fun x6z x6 x7 x8 c1_0z c1_0 => rounds Try.prog spec_TableOk.Cs (finish Try.prog [] Try.f112 [.v (.agg [(.sl 44 a0_0z a0_0)])]) 100000 k spec_TableOk.K0 (spec_TableOk.N0 x6z x6 x7 x8 c1_0z c1_0)) k a0_0z a0_0 := by kernel_rfl
theorem spec_TableOk.s0 (k : Nat) (G : List Fr → St → Option Res) (a0_0z : Bool) (a0_0 : List T) (yx6z : Bool) (yx6 : List T) (yx7 : Int) (yx8 : Int) (yc1_0z : Bool) (yc1_0 : List T) : resume Try.prog (spec_TableOk.Cs k) G (finish Try.prog [] Try.f112 [.v (.agg [(.sl 44 a0_0z a0_0)])]) 100000 spec_TableOk.K0 (spec_TableOk.N0 yx6z yx6 yx7 yx8 yc1_0z yc1_0) = spec_TableOk.l0b (fun r => some (spec_TableOk.enc r)) (fun x6z x6 x7 x8 c1_0z c1_0 => G spec_TableOk.K0 (spec_TableOk.N0 x6z x6 x7 x8 c1_0z c1_0)) k yx6z yx6 yx7 yx8 yc1_0z yc1_0 := by kernel_rfl
theorem spec_TableOk.b_nat {R R' : Type} (e : R → R') (ret : Bool → Option R) (j0 : Bool → (List T) → Int → Int → Bool → (List T) → Option R) (k : Nat) (a0_0z : Bool) (a0_0 : List T) : spec_TableOk.b (fun r => (ret r).map e) (fun x6z x6 x7 x8 c1_0z c1_0 => (j0 x6z x6 x7 x8 c1_0z c1_0).map e) k a0_0z a0_0 = (spec_TableOk.b ret j0 k a0_0z a0_0).map e := by
  unfold spec_TableOk.b
  repeat' first | with_reducible refine nat_cond ?_ ?_ | with_reducible refine nat_bind fun _ => ?_ | rfl
theorem spec_TableOk.l0b_nat {R R' : Type} (e : R → R') (ret : Bool → Option R) (j0 : Bool → (List T) → Int → Int → Bool → (List T) → Option R) (k : Nat) (x6z : Bool) (x6 : List T) (x7 : Int) (x8 : Int) (c1_0z : Bool) (c1_0 : List T) : spec_TableOk.l0b (fun r => (ret r).map e) (fun x6z x6 x7 x8 c1_0z c1_0 => (j0 x6z x6 x7 x8 c1_0z c1_0).map e) k x6z x6 x7 x8 c1_0z c1_0 = (spec_TableOk.l0b ret j0 k x6z x6 x7 x8 c1_0z c1_0).map e := by
  unfold spec_TableOk.l0b
  repeat' first | with_reducible refine nat_cond ?_ ?_ | with_reducible refine nat_bind fun _ => ?_ | rfl
theorem spec_TableOk.rounds_eq (a0_0z : Bool) (a0_0 : List T) : ∀ k, (∀ (x6z : Bool) (x6 : List T) (x7 : Int) (x8 : Int) (c1_0z : Bool) (c1_0 : List T), rounds Try.prog spec_TableOk.Cs (finish Try.prog [] Try.f112 [.v (.agg [(.sl 44 a0_0z a0_0)])]) 100000 k spec_TableOk.K0 (spec_TableOk.N0 x6z x6 x7 x8 c1_0z c1_0) = (spec_TableOk.l0 k x6z x6 x7 x8 c1_0z c1_0).map spec_TableOk.enc)
  | 0 => fun _ _ _ _ _ _ => rfl
  | k + 1 => by
    have ih := spec_TableOk.rounds_eq a0_0z a0_0 k
    refine fun _ _ _ _ _ _ => ?_
    · refine (spec_TableOk.s0 k _ a0_0z a0_0 _ _ _ _ _ _).trans (Eq.trans ?_ (spec_TableOk.l0b_nat spec_TableOk.enc some (spec_TableOk.l0 k) k _ _ _ _ _ _))
      simp only [ih, Option.map_some]
theorem spec_TableOk.eq (k : Nat) (a0_0z : Bool) (a0_0 : List T) : answer Try.prog spec_TableOk.Cs 100000 spec_TableOk.cuts [] Try.f112 (k + 1) [.v (.agg [(.sl 44 a0_0z a0_0)])] = (spec_TableOk.f (k + 1) a0_0z a0_0).map spec_TableOk.enc := by
  have ih := spec_TableOk.rounds_eq a0_0z a0_0 k
  refine (spec_TableOk.s k a0_0z a0_0).trans (Eq.trans ?_ (spec_TableOk.b_nat spec_TableOk.enc some (spec_TableOk.l0 k) k a0_0z a0_0))
  simp only [ih, Option.map_some]
theorem spec_TableOk.sound (k : Nat) : SoundF Try.prog 112 (fun a => (spec_TableOk.ans k a).val) := by
  refine sound_plain (fun args res h => ?_) (fun t n => rfl)
  unfold spec_TableOk.ans at h
  dsimp only at h
  split at h
  · cases k with
    | zero => cases h
    | succ k =>
      unfold Ans.val at h
      rw [← spec_TableOk.eq] at h
      exact answer_sound mixed Try.func112 _ _ _ (k + 1) (fun j _ => tab_sound (tab_cons (spec_l01In.sound j) (tab_cons (spec_l02Signers.sound j) (tab_nil)))) _ _ h
  · exact (Ans.no_val h).elim

/-! loop.example/g00790/spec.BitsSize -/
def spec_BitsSize.b {R : Type} (ret : Int → Option R) (k : Nat) (a0 : Int) : Option R :=
  cond (decide (a0 < 1)) (ret 0) (ret (RowKit.wrap64 ((RowKit.wrap64 (Int.tdiv (RowKit.wrap64 (a0 - 1)) 8)) + 1)))
def spec_BitsSize.f : Nat → Int → Option Int
  | 0, _ => none
  | k + 1, a0 => spec_BitsSize.b some k a0
def spec_BitsSize.enc (r : Int) : Res := ⟨[.vals false [((.int .i64 r), true)]], []⟩
def spec_BitsSize.ans (k : Nat) : List Arg → Ans
  | [.v (.int .i64 a0)] => ⟨spec_BitsSize.f k a0, spec_BitsSize.enc⟩
  | _ => Ans.no
def spec_BitsSize.Cs (k : Nat) : CallSem := tab []
def spec_BitsSize.cuts : List (Nat × Keep) := []
theorem spec_BitsSize.s (k : Nat) (a0 : Int) : answer Try.prog spec_BitsSize.Cs 100000 spec_BitsSize.cuts [] Try.f160 (k + 1) [.v (.int .i64 a0)] = spec_BitsSize.b (fun r => some (spec_BitsSize.enc r)) k a0 := by kernel_rfl
theorem spec_BitsSize.b_nat {R R' : Type} (e : R → R') (ret : Int → Option R) (k : Nat) (a0 : Int) : spec_BitsSize.b (fun r => (ret r).map e) k a0 = (spec_BitsSize.b ret k a0).map e := by
  unfold spec_BitsSize.b
  repeat' first | with_reducible refine nat_cond ?_ ?_ | with_reducible refine nat_bind fun _ => ?_ | rfl
theorem spec_BitsSize.eq (k : Nat) (a0 : Int) : answer Try.prog spec_BitsSize.Cs 100000 spec_BitsSize.cuts [] Try.f160 (k + 1) [.v (.int .i64 a0)] = (spec_BitsSize.f (k + 1) a0).map spec_BitsSize.enc := by
  refine (spec_BitsSize.s k a0).trans (Eq.trans ?_ (spec_BitsSize.b_nat spec_BitsSize.enc some k a0))
  simp only [Option.map_some]
theorem spec_BitsSize.sound (k : Nat) : SoundF Try.prog 160 (fun a => (spec_BitsSize.ans k a).val) := by
  refine sound_plain (fun args res h => ?_) (fun t n => rfl)
  unfold spec_BitsSize.ans at h
  dsimp only at h
  split at h
  · cases k with
    | zero => cases h
    | succ k =>
      unfold Ans.val at h
      rw [← spec_BitsSize.eq] at h
      exact answer_sound mixed Try.func160 _ _ _ (k + 1) (fun j _ => tab_sound (tab_nil)) _ _ h
  · exact (Ans.no_val h).elim

/-! loop.example/g00790/spec.BitsNew -/
def spec_BitsNew.b {R : Type} (ret : Bool × List Int → Option R) (k : Nat) (a0 : Int) : Option R :=
  (spec_l02Signers.f k a0).bind fun t0 => cond (!t0) (ret (true, ([] : List Int))) ((spec_BitsSize.f k a0).bind fun t1 => cond (decide (t1 = t1)) (cond (decide ((0 : Int) ≤ t1)) (cond (decide ((t1).toNat < 140737488355328)) (ret (false, (List.replicate (t1).toNat (0 : Int)))) (none)) (none)) (none))
def spec_BitsNew.f : Nat → Int → Option (Bool × List Int)
  | 0, _ => none
  | k + 1, a0 => spec_BitsNew.b some k a0
def spec_BitsNew.enc (r : Bool × List Int) : Res := ⟨[.vals false [((.nums 5 .u8 r.1 r.2), true)]], []⟩
def spec_BitsNew.ans (k : Nat) : List Arg → Ans
  | [.v (.int .i64 a0)] => ⟨spec_BitsNew.f k a0, spec_BitsNew.enc⟩
  | _ => Ans.no
def spec_BitsNew.Cs (k : Nat) : CallSem := tab [(171, spec_l02Signers.ans k), (160, spec_BitsSize.ans k)]
def spec_BitsNew.cuts : List (Nat × Keep) := []
theorem spec_BitsNew.s (k : Nat) (a0 : Int) : answer Try.prog spec_BitsNew.Cs 100000 spec_BitsNew.cuts [] Try.f151 (k + 1) [.v (.int .i64 a0)] = spec_BitsNew.b (fun r => some (spec_BitsNew.enc r)) k a0 := by kernel_rfl
theorem spec_BitsNew.b_nat {R R' : Type} (e : R → R') (ret : Bool × List Int → Option R) (k : Nat) (a0 : Int) : spec_BitsNew.b (fun r => (ret r).map e) k a0 = (spec_BitsNew.b ret k a0).map e := by
  unfold spec_BitsNew.b
  repeat' first | with_reducible refine nat_cond ?_ ?_ | with_reducible refine nat_bind fun _ => ?_ | rfl
theorem spec_BitsNew.eq (k : Nat) (a0 : Int) : answer Try.prog spec_BitsNew.Cs 100000 spec_BitsNew.cuts [] Try.f151 (k + 1) [.v (.int .i64 a0)] = (spec_BitsNew.f (k + 1) a0).map spec_BitsNew.enc := by
  refine (spec_BitsNew.s k a0).trans (Eq.trans ?_ (spec_BitsNew.b_nat spec_BitsNew.enc some k a0))
  simp only [Option.map_some]
theorem spec_BitsNew.sound (k : Nat) : SoundF Try.prog 151 (fun a => (spec_BitsNew.ans k a).val) := by
  refine sound_plain (fun args res h => ?_) (fun t n => rfl)
  unfold spec_BitsNew.ans at h
  dsimp only at h
  split at h
  · cases k with
    | zero => cases h
    | succ k =>
      unfold Ans.val at h
      rw [← spec_BitsNew.eq] at h
      exact answer_sound mixed Try.func151 _ _ _ (k + 1) (fun j _ => tab_sound (tab_cons (spec_l02Signers.sound j) (tab_cons (spec_BitsSize.sound j) (tab_nil)))) _ _ h
  · exact (Ans.no_val h).elim

/-! loop.example/g00790/spec.BitsHas -/
def spec_BitsHas.b {R : Type} (ret : Bool → Option R) (k : Nat) (a0z : Bool) (a0 : List Int) (a1 : Int) : Option R :=
  cond (decide (a1 ≥ 0)) (cond (decide ((RowKit.wrap64 (Int.tdiv a1 8)) < ((a0).length : Int))) (cond (decide ((0 : Int) ≤ (RowKit.wrap64 (Int.tdiv a1 8)))) (cond (decide ((RowKit.wrap64 (Int.tdiv a1 8)) < ((a0).length : Int))) (cond (decide ((0 : Int) ≤ (Int.tmod a1 8))) (ret (decide ((Int.tmod (shrI .i64 (RowKit.wrap64 ((rdI a0 (RowKit.wrap64 (Int.tdiv a1 8))))) (Int.tmod a1 8)) 2) = 1))) (none)) (none)) (none)) (ret false)) (ret false)
def spec_BitsHas.f : Nat → Bool → (List Int) → Int → Option Bool
  | 0, _, _, _ => none
  | k + 1, a0z, a0, a1 => spec_BitsHas.b some k a0z a0 a1
def spec_BitsHas.enc (r : Bool) : Res := ⟨[.vals false [((.bool r), true)]], []⟩
def spec_BitsHas.ans (k : Nat) : List Arg → Ans
  | [.v (.nums 5 .u8 a0z a0), .v (.int .i64 a1)] => ⟨spec_BitsHas.f k a0z a0 a1, spec_BitsHas.enc⟩
  | _ => Ans.no
def spec_BitsHas.Cs (k : Nat) : CallSem := tab []
def spec_BitsHas.cuts : List (Nat × Keep) := []
theorem spec_BitsHas.s (k : Nat) (a0z : Bool) (a0 : List Int) (a1 : Int) : answer Try.prog spec_BitsHas.Cs 100000 spec_BitsHas.cuts [] Try.f173 (k + 1) [.v (.nums 5 .u8 a0z a0), .v (.int .i64 a1)] = spec_BitsHas.b (fun r => some (spec_BitsHas.enc r)) k a0z a0 a1 := by kernel_rfl
theorem spec_BitsHas.b_nat {R R' : Type} (e : R → R') (ret : Bool → Option R) (k : Nat) (a0z : Bool) (a0 : List Int) (a1 : Int) : spec_BitsHas.b (fun r => (ret r).map e) k a0z a0 a1 = (spec_BitsHas.b ret k a0z a0 a1).map e := by
  unfold spec_BitsHas.b
  repeat' first | with_reducible refine nat_cond ?_ ?_ | with_reducible refine nat_bind fun _ => ?_ | rfl
theorem spec_BitsHas.eq (k : Nat) (a0z : Bool) (a0 : List Int) (a1 : Int) : answer Try.prog spec_BitsHas.Cs 100000 spec_BitsHas.cuts [] Try.f173 (k + 1) [.v (.nums 5 .u8 a0z a0), .v (.int .i64 a1)] = (spec_BitsHas.f (k + 1) a0z a0 a1).map spec_BitsHas.enc := by
  refine (spec_BitsHas.s k a0z a0 a1).trans (Eq.trans ?_ (spec_BitsHas.b_nat spec_BitsHas.enc some k a0z a0 a1))
  simp only [Option.map_some]
theorem spec_BitsHas.sound (k : Nat) : SoundF Try.prog 173 (fun a => (spec_BitsHas.ans k a).val) := by
  refine sound_plain (fun args res h => ?_) (fun t n => rfl)
  unfold spec_BitsHas.ans at h
  dsimp only at h
  split at h
  · cases k with
    | zero => cases h
    | succ k =>
      unfold Ans.val at h
      rw [← spec_BitsHas.eq] at h
      exact answer_sound mixed Try.func173 _ _ _ (k + 1) (fun j _ => tab_sound (tab_nil)) _ _ h
  · exact (Ans.no_val h).elim

/-! loop.example/g00790/spec.BitsList -/
def spec_BitsList.b {R : Type} (ret : Bool × List Int → Option R) (j0 : Bool → (List Int) → (List Int) → Int → Option R) (k : Nat) (a0z : Bool) (a0 : List Int) : Option R :=
  j0 a0z a0 ([] : List Int) 0
def spec_BitsList.l0b {R : Type} (ret : Bool × List Int → Option R) (j0 : Bool → (List Int) → (List Int) → Int → Option R) (k : Nat) (x0z : Bool) (x0 : List Int) (x3 : List Int) (x4 : Int) : Option R :=
  cond (decide (x4 < (RowKit.wrap64 ((8 : Int) * ((x0).length : Int))))) ((spec_BitsHas.f k x0z x0 x4).bind fun t0 => cond t0 (cond (decide ((x3).length + 1 < 17592186044416)) (j0 x0z x0 (x3 ++ ([x4] : List Int)) (RowKit.wrap64 (x4 + 1))) (none)) (j0 x0z x0 x3 (RowKit.wrap64 (x4 + 1)))) (ret (false, x3))
def spec_BitsList.l0 : Nat → Bool → (List Int) → (List Int) → Int → Option (Bool × List Int)
  | 0, _, _, _, _ => none
  | k + 1, x0z, x0, x3, x4 => spec_BitsList.l0b some (spec_BitsList.l0 k) k x0z x0 x3 x4
def spec_BitsList.f : Nat → Bool → (List Int) → Option (Bool × List Int)
  | 0, _, _ => none
  | k + 1, a0z, a0 => spec_BitsList.b some (spec_BitsList.l0 k) k a0z a0
def spec_BitsList.enc (r : Bool × List Int) : Res := ⟨[.vals false [((.nums 3 .i64 r.1 r.2), true)]], []⟩
def spec_BitsList.ans (k : Nat) : List Arg → Ans
  | [.v (.nums 5 .u8 a0z a0)] => ⟨spec_BitsList.f k a0z a0, spec_BitsList.enc⟩
  | _ => Ans.no
def spec_BitsList.Cs (k : Nat) : CallSem := tab [(173, spec_BitsHas.ans k)]
def spec_BitsList.cuts : List (Nat × Keep) := [(58, ⟨[(0, some []), (3, none), (4, some [])], []⟩)]
noncomputable def spec_BitsList.K0 : List Fr := framesAt [true, true, false, true, false] (bodyOf Try.f194 spec_BitsList.cuts) []
def spec_BitsList.N0 (x0z : Bool) (x0 : List Int) (x3 : List Int) (x4 : Int) : St := stOf 21 21 1 [(0, .val ⟨(.nums 5 .u8 x0z x0), [], false, none⟩), (3, .val ⟨(.nums 3 .i64 false x3), [.l 3 0], true, some (.l 3 0)⟩), (4, .val (V.s (.int .i64 x4)))] []
theorem spec_BitsList.s (k : Nat) (a0z : Bool) (a0 : List Int) : answer Try.prog spec_BitsList.Cs 100000 spec_BitsList.cuts [] Try.f194 (k + 1) [.v (.nums 5 .u8 a0z a0)] = spec_BitsList.b (fun r => some (spec_BitsList.enc r)) (fun x0z x0 x3 x4 => rounds Try.prog spec_BitsList.Cs (finish Try.prog [] Try.f194 [.v (.nums 5 .u8 a0z a0)]) 100000 k spec_BitsList.K0 (spec_BitsList.N0 x0z x0 x3 x4)) k a0z a0 := by kernel_rfl
theorem spec_BitsList.s0 (k : Nat) (G : List Fr → St → Option Res) (a0z : Bool) (a0 : List Int) (yx0z : Bool) (yx0 : List Int) (yx3 : List Int) (yx4 : Int) : resume Try.prog (spec_BitsList.Cs k) G (finish Try.prog [] Try.f194 [.v (.nums 5 .u8 a0z a0)]) 100000 spec_BitsList.K0 (spec_BitsList.N0 yx0z yx0 yx3 yx4) = spec_BitsList.l0b (fun r => some (spec_BitsList.enc r)) (fun x0z x0 x3 x4 => G spec_BitsList.K0 (spec_BitsList.N0 x0z x0 x3 x4)) k yx0z yx0 yx3 yx4 := by kernel_rfl
theorem spec_BitsList.b_nat {R R' : Type} (e : R → R') (ret : Bool × List Int → Option R) (j0 : Bool → (List Int) → (List Int) → Int → Option R) (k : Nat) (a0z : Bool) (a0 : List Int) : spec_BitsList.b (fun r => (ret r).map e) (fun x0z x0 x3 x4 => (j0 x0z x0 x3 x4).map e) k a0z a0 = (spec_BitsList.b ret j0 k a0z a0).map e := by
  unfold spec_BitsList.b
  repeat' first | with_reducible refine nat_cond ?_ ?_ | with_reducible refine nat_bind fun _ => ?_ | rfl
theorem spec_BitsList.l0b_nat {R R' : Type} (e : R → R') (ret : Bool × List Int → Option R) (j0 : Bool → (List Int) → (List Int) → Int → Option R) (k : Nat) (x0z : Bool) (x0 : List Int) (x3 : List Int) (x4 : Int) : spec_BitsList.l0b (fun r => (ret r).map e) (fun x0z x0 x3 x4 => (j0 x0z x0 x3 x4).map e) k x0z x0 x3 x4 = (spec_BitsList.l0b ret j0 k x0z x0 x3 x4).map e := by
  unfold spec_BitsList.l0b
  repeat' first | with_reducible refine nat_cond ?_ ?_ | with_reducible refine nat_bind fun _ => ?_ | rfl
theorem spec_BitsList.rounds_eq (a0z : Bool) (a0 : List Int) : ∀ k, (∀ (x0z : Bool) (x0 : List Int) (x3 : List Int) (x4 : Int), rounds Try.prog spec_BitsList.Cs (finish Try.prog [] Try.f194 [.v (.nums 5 .u8 a0z a0)]) 100000 k spec_BitsList.K0 (spec_BitsList.N0 x0z x0 x3 x4) = (spec_BitsList.l0 k x0z x0 x3 x4).map spec_BitsList.enc)
  | 0 => fun _ _ _ _ => rfl
  | k + 1 => by
    have ih := spec_BitsList.rounds_eq a0z a0 k
    refine fun _ _ _ _ => ?_
    · refine (spec_BitsList.s0 k _ a0z a0 _ _ _ _).trans (Eq.trans ?_ (spec_BitsList.l0b_nat spec_BitsList.enc some (spec_BitsList.l0 k) k _ _ _ _))
      simp only [ih, Option.map_some]
theorem spec_BitsList.eq (k : Nat) (a0z : Bool) (a0 : List Int) : answer Try.prog spec_BitsList.Cs 100000 spec_BitsList.cuts [] Try.f194 (k + 1) [.v (.nums 5 .u8 a0z a0)] = (spec_BitsList.f (k + 1) a0z a0).map spec_BitsList.enc := by
  have ih := spec_BitsList.rounds_eq a0z a0 k
  refine (spec_BitsList.s k a0z a0).trans (Eq.trans ?_ (spec_BitsList.b_nat spec_BitsList.enc some (spec_BitsList.l0 k) k a0z a0))
  simp only [ih, Option.map_some]
theorem spec_BitsList.sound (k : Nat) : SoundF Try.prog 194 (fun a => (spec_BitsList.ans k a).val) := by
  refine sound_plain (fun args res h => ?_) (fun t n => rfl)
  unfold spec_BitsList.ans at h
  dsimp only at h
  split at h
  · cases k with
    | zero => cases h
    | succ k =>
      unfold Ans.val at h
      rw [← spec_BitsList.eq] at h
      exact answer_sound mixed Try.func194 _ _ _ (k + 1) (fun j _ => tab_sound (tab_cons (spec_BitsHas.sound j) (tab_nil))) _ _ h
  · exact (Ans.no_val h).elim

/-! loop.example/g00790/spec.BitsOk -/
def spec_BitsOk.b {R : Type} (ret : Bool → Option R) (k : Nat) (a0z : Bool) (a0 : List Int) (a1 : Int) : Option R :=
  (spec_l02Signers.f k a1).bind fun t0 => cond (!t0) (ret false) ((spec_BitsSize.f k a1).bind fun t1 => cond (!(decide (((a0).length : Int) = t1))) (ret false) ((spec_BitsList.f k a0z a0).bind fun t2 => cond (decide (((t2.2).length : Int) = 0)) (ret true) (cond (decide ((0 : Int) ≤ (RowKit.wrap64 (((t2.2).length : Int) - 1)))) (cond (decide ((RowKit.wrap64 (((t2.2).length : Int) - 1)) < ((t2.2).length : Int))) (ret (decide ((rdI t2.2 (RowKit.wrap64 (((t2.2).length : Int) - 1))) < a1))) (none)) (none))))
def spec_BitsOk.f : Nat → Bool → (List Int) → Int → Option Bool
  | 0, _, _, _ => none
  | k + 1, a0z, a0, a1 => spec_BitsOk.b some k a0z a0 a1
def spec_BitsOk.enc (r : Bool) : Res := ⟨[.vals false [((.bool r), true)]], []⟩
def spec_BitsOk.ans (k : Nat) : List Arg → Ans
  | [.v (.nums 5 .u8 a0z a0), .v (.int .i64 a1)] => ⟨spec_BitsOk.f k a0z a0 a1, spec_BitsOk.enc⟩
  | _ => Ans.no
def spec_BitsOk.Cs (k : Nat) : CallSem := tab [(171, spec_l02Signers.ans k), (160, spec_BitsSize.ans k), (194, spec_BitsList.ans k)]
def spec_BitsOk.cuts : List (Nat × Keep) := []
theorem spec_BitsOk.s (k : Nat) (a0z : Bool) (a0 : List Int) (a1 : Int) : answer Try.prog spec_BitsOk.Cs 100000 spec_BitsOk.cuts [] Try.f172 (k + 1) [.v (.nums 5 .u8 a0z a0), .v (.int .i64 a1)] = spec_BitsOk.b (fun r => some (spec_BitsOk.enc r)) k a0z a0 a1 := by kernel_rfl
theorem spec_BitsOk.b_nat {R R' : Type} (e : R → R') (ret : Bool → Option R) (k : Nat) (a0z : Bool) (a0 : List Int) (a1 : Int) : spec_BitsOk.b (fun r => (ret r).map e) k a0z a0 a1 = (spec_BitsOk.b ret k a0z a0 a1).map e := by
  unfold spec_BitsOk.b
  repeat' first | with_reducible refine nat_cond ?_ ?_ | with_reducible refine nat_bind fun _ => ?_ | rfl
theorem spec_BitsOk.eq (k : Nat) (a0z : Bool) (a0 : List Int) (a1 : Int) : answer Try.prog spec_BitsOk.Cs 100000 spec_BitsOk.cuts [] Try.f172 (k + 1) [.v (.nums 5 .u8 a0z a0), .v (.int .i64 a1)] = (spec_BitsOk.f (k + 1) a0z a0 a1).map spec_BitsOk.enc := by
  refine (spec_BitsOk.s k a0z a0 a1).trans (Eq.trans ?_ (spec_BitsOk.b_nat spec_BitsOk.enc some k a0z a0 a1))
  simp only [Option.map_some]
theorem spec_BitsOk.sound (k : Nat) : SoundF Try.prog 172 (fun a => (spec_BitsOk.ans k a).val) := by
  refine sound_plain (fun args res h => ?_) (fun t n => rfl)
  unfold spec_BitsOk.ans at h
  dsimp only at h
  split at h
  · cases k with
    | zero => cases h
    | succ k =>
      unfold Ans.val at h
      rw [← spec_BitsOk.eq] at h
      exact answer_sound mixed Try.func172 _ _ _ (k + 1) (fun j _ => tab_sound (tab_cons (spec_l02Signers.sound j) (tab_cons (spec_BitsSize.sound j) (tab_cons (spec_BitsList.sound j) (tab_nil))))) _ _ h
  · exact (Ans.no_val h).elim

/-! loop.example/g00790/spec.l01Copy -/
def spec_l01Copy.b {R : Type} (ret : Bool × List Int → Option R) (k : Nat) (a0z : Bool) (a0 : List Int) : Option R :=
  cond (decide (0 + (a0).length < 140737488355328)) (ret (((a0).isEmpty && false), a0)) (none)
def spec_l01Copy.f : Nat → Bool → (List Int) → Option (Bool × List Int)
  | 0, _, _ => none
  | k + 1, a0z, a0 => spec_l01Copy.b some k a0z a0
def spec_l01Copy.enc (r : Bool × List Int) : Res := ⟨[.vals false [((.nums 5 .u8 r.1 r.2), true)]], []⟩
def spec_l01Copy.ans (k : Nat) : List Arg → Ans
  | [.v (.nums 5 .u8 a0z a0)] => ⟨spec_l01Copy.f k a0z a0, spec_l01Copy.enc⟩
  | _ => Ans.no
def spec_l01Copy.Cs (k : Nat) : CallSem := tab []
def spec_l01Copy.cuts : List (Nat × Keep) := []
theorem spec_l01Copy.s (k : Nat) (a0z : Bool) (a0 : List Int) : answer Try.prog spec_l01Copy.Cs 100000 spec_l01Copy.cuts [] Try.f155 (k + 1) [.v (.nums 5 .u8 a0z a0)] = spec_l01Copy.b (fun r => some (spec_l01Copy.enc r)) k a0z a0 := by kernel_rfl
theorem spec_l01Copy.b_nat {R R' : Type} (e : R → R') (ret : Bool × List Int → Option R) (k : Nat) (a0z : Bool) (a0 : List Int) : spec_l01Copy.b (fun r => (ret r).map e) k a0z a0 = (spec_l01Copy.b ret k a0z a0).map e := by
  unfold spec_l01Copy.b
  repeat' first | with_reducible refine nat_cond ?_ ?_ | with_reducible refine nat_bind fun _ => ?_ | rfl
theorem spec_l01Copy.eq (k : Nat) (a0z : Bool) (a0 : List Int) : answer Try.prog spec_l01Copy.Cs 100000 spec_l01Copy.cuts [] Try.f155 (k + 1) [.v (.nums 5 .u8 a0z a0)] = (spec_l01Copy.f (k + 1) a0z a0).map spec_l01Copy.enc := by
  refine (spec_l01Copy.s k a0z a0).trans (Eq.trans ?_ (spec_l01Copy.b_nat spec_l01Copy.enc some k a0z a0))
  simp only [Option.map_some]
theorem spec_l01Copy.sound (k : Nat) : SoundF Try.prog 155 (fun a => (spec_l01Copy.ans k a).val) := by
  refine sound_plain (fun args res h => ?_) (fun t n => rfl)
  unfold spec_l01Copy.ans at h
  dsimp only at h
  split at h
  · cases k with
    | zero => cases h
    | succ k =>
      unfold Ans.val at h
      rw [← spec_l01Copy.eq] at h
      exact answer_sound mixed Try.func155 _ _ _ (k + 1) (fun j _ => tab_sound (tab_nil)) _ _ h
  · exact (Ans.no_val h).elim

/-! loop.example/g00790/spec.BitsSet -/
def spec_BitsSet.b {R : Type} (ret : Bool × (List Int) × Bool → Option R) (k : Nat) (a0z : Bool) (a0 : List Int) (a1 : Int) (a2 : Int) (a3 : Bool) : Option R :=
  (spec_BitsOk.f k a0z a0 a1).bind fun t0 => cond (!t0) (ret (true, ([] : List Int), false)) ((spec_l01In.f k a2 0 (RowKit.wrap64 (a1 - 1))).bind fun t1 => cond (!t1) (ret (true, ([] : List Int), false)) ((spec_l01Copy.f k a0z a0).bind fun t2 => (spec_BitsHas.f k a0z a0 a2).bind fun t3 => cond (!(t3 == a3)) (cond (decide ((0 : Int) ≤ (RowKit.wrap64 (Int.tdiv a2 8)))) (cond (decide ((RowKit.wrap64 (Int.tdiv a2 8)) < ((t2.2).length : Int))) (cond (decide ((0 : Int) ≤ (Int.tmod a2 8))) (cond (decide ((0 : Int) ≤ (RowKit.wrap64 (Int.tdiv a2 8)))) (cond (decide ((RowKit.wrap64 (Int.tdiv a2 8)) < ((t2.2).length : Int))) (ret (t2.1, ((t2.2).set ((RowKit.wrap64 (Int.tdiv a2 8))).toNat (Go.bits .xor .u8 (rdI t2.2 (RowKit.wrap64 (Int.tdiv a2 8))) (shlI .u8 1 (Int.tmod a2 8)))), true)) (none)) (none)) (none)) (none)) (none)) (ret (t2.1, t2.2, true))))
def spec_BitsSet.f : Nat → Bool → (List Int) → Int → Int → Bool → Option (Bool × (List Int) × Bool)
  | 0, _, _, _, _, _ => none
  | k + 1, a0z, a0, a1, a2, a3 => spec_BitsSet.b some k a0z a0 a1 a2 a3
def spec_BitsSet.enc (r : Bool × (List Int) × Bool) : Res := ⟨[.vals false [((.nums 5 .u8 r.1 r.2.1), true)], .vals false [((.bool r.2.2), true)]], []⟩
def spec_BitsSet.ans (k : Nat) : List Arg → Ans
  | [.v (.nums 5 .u8 a0z a0), .v (.int .i64 a1), .v (.int .i64 a2), .v (.bool a3)] => ⟨spec_BitsSet.f k a0z a0 a1 a2 a3, spec_BitsSet.enc⟩
  | _ => Ans.no
def spec_BitsSet.Cs (k : Nat) : CallSem := tab [(170, spec_l01In.ans k), (172, spec_BitsOk.ans k), (173, spec_BitsHas.ans k), (155, spec_l01Copy.ans k)]
def spec_BitsSet.cuts : List (Nat × Keep) := []
theorem spec_BitsSet.s (k : Nat) (a0z : Bool) (a0 : List Int) (a1 : Int) (a2 : Int) (a3 : Bool) : answer Try.prog spec_BitsSet.Cs 100000 spec_BitsSet.cuts [] Try.f204 (k + 1) [.v (.nums 5 .u8 a0z a0), .v (.int .i64 a1), .v (.int .i64 a2), .v (.bool a3)] = spec_BitsSet.b (fun r => some (spec_BitsSet.enc r)) k a0z a0 a1 a2 a3 := by kernel_rfl
theorem spec_BitsSet.b_nat {R R' : Type} (e : R → R') (ret : Bool × (List Int) × Bool → Option R) (k : Nat) (a0z : Bool) (a0 : List Int) (a1 : Int) (a2 : Int) (a3 : Bool) : spec_BitsSet.b (fun r => (ret r).map e) k a0z a0 a1 a2 a3 = (spec_BitsSet.b ret k a0z a0 a1 a2 a3).map e := by
  unfold spec_BitsSet.b
  repeat' first | with_reducible refine nat_cond ?_ ?_ | with_reducible refine nat_bind fun _ => ?_ | rfl
theorem spec_BitsSet.eq (k : Nat) (a0z : Bool) (a0 : List Int) (a1 : Int) (a2 : Int) (a3 : Bool) : answer Try.prog spec_BitsSet.Cs 100000 spec_BitsSet.cuts [] Try.f204 (k + 1) [.v (.nums 5 .u8 a0z a0), .v (.int .i64 a1), .v (.int .i64 a2), .v (.bool a3)] = (spec_BitsSet.f (k + 1) a0z a0 a1 a2 a3).map spec_BitsSet.enc := by
  refine (spec_BitsSet.s k a0z a0 a1 a2 a3).trans (Eq.trans ?_ (spec_BitsSet.b_nat spec_BitsSet.enc some k a0z a0 a1 a2 a3))
  simp only [Option.map_some]
theorem spec_BitsSet.sound (k : Nat) : SoundF Try.prog 204 (fun a => (spec_BitsSet.ans k a).val) := by
  refine sound_plain (fun args res h => ?_) (fun t n => rfl)
  unfold spec_BitsSet.ans at h
  dsimp only at h
  split at h
  · cases k with
    | zero => cases h
    | succ k =>
      unfold Ans.val at h
      rw [← spec_BitsSet.eq] at h
      exact answer_sound mixed Try.func204 _ _ _ (k + 1) (fun j _ => tab_sound (tab_cons (spec_l01In.sound j) (tab_cons (spec_BitsOk.sound j) (tab_cons (spec_BitsHas.sound j) (tab_cons (spec_l01Copy.sound j) (tab_nil)))))) _ _ h
  · exact (Ans.no_val h).elim

/-! loop.example/g00790/spec.BitsOf -/
def spec_BitsOf.b {R : Type} (ret : Bool × (List Int) × Bool → Option R) (j0 : Int → Bool → (List Int) → Bool → Bool → (List Int) → Int → Int → Option R) (k : Nat) (a0z : Bool) (a0 : List Int) (a1 : Int) : Option R :=
  (spec_BitsNew.f k a1).bind fun t0 => (spec_l02Signers.f k a1).bind fun t1 => j0 a1 t0.1 t0.2 t1 a0z a0 ((a0).length : Int) 0
def spec_BitsOf.l0b {R : Type} (ret : Bool × (List Int) × Bool → Option R) (j0 : Int → Bool → (List Int) → Bool → Bool → (List Int) → Int → Int → Option R) (k : Nat) (x1 : Int) (x6z : Bool) (x6 : List Int) (x7 : Bool) (x16z : Bool) (x16 : List Int) (x17 : Int) (x18 : Int) : Option R :=
  cond (decide (x18 < x17)) (cond (decide ((0 : Int) ≤ x18)) (cond (decide (x18 < ((x16).length : Int))) ((spec_BitsSet.f k x6z x6 x1 (rdI x16 x18) true).bind fun t0 => cond x7 (j0 x1 t0.1 t0.2.1 t0.2.2 x16z x16 x17 (RowKit.wrap64 (x18 + 1))) (j0 x1 t0.1 t0.2.1 false x16z x16 x17 (RowKit.wrap64 (x18 + 1)))) (none)) (none)) (cond (!x7) (ret (true, ([] : List Int), false)) (ret (x6z, x6, true)))
def spec_BitsOf.l0 : Nat → Int → Bool → (List Int) → Bool → Bool → (List Int) → Int → Int → Option (Bool × (List Int) × Bool)
  | 0, _, _, _, _, _, _, _, _ => none
  | k + 1, x1, x6z, x6, x7, x16z, x16, x17, x18 => spec_BitsOf.l0b some (spec_BitsOf.l0 k) k x1 x6z x6 x7 x16z x16 x17 x18
def spec_BitsOf.f : Nat → Bool → (List Int) → Int → Option (Bool × (List Int) × Bool)
  | 0, _, _, _ => none
  | k + 1, a0z, a0, a1 => spec_BitsOf.b some (spec_BitsOf.l0 k) k a0z a0 a1
def spec_BitsOf.enc (r : Bool × (List Int) × Bool) : Res := ⟨[.vals false [((.nums 5 .u8 r.1 r.2.1), true)], .vals false [((.bool r.2.2), true)]], []⟩
def spec_BitsOf.ans (k : Nat) : List Arg → Ans
  | [.v (.nums 3 .i64 a0z a0), .v (.int .i64 a1)] => ⟨spec_BitsOf.f k a0z a0 a1, spec_BitsOf.enc⟩
  | _ => Ans.no
def spec_BitsOf.Cs (k : Nat) : CallSem := tab [(171, spec_l02Signers.ans k), (151, spec_BitsNew.ans k), (204, spec_BitsSet.ans k)]
def spec_BitsOf.cuts : List (Nat × Keep) := [(122, ⟨[(1, some []), (6, none), (7, some []), (16, some []), (17, some []), (18, some [])], []⟩)]
noncomputable def spec_BitsOf.K0 : List Fr := framesAt [true, true, true, false, true, false] (bodyOf Try.f175 spec_BitsOf.cuts) []
def spec_BitsOf.N0 (x1 : Int) (x6z : Bool) (x6 : List Int) (x7 : Bool) (x16z : Bool) (x16 : List Int) (x17 : Int) (x18 : Int) : St := stOf 38 38 2 [(1, .val (V.s (.int .i64 x1))), (6, .val ⟨(.nums 5 .u8 x6z x6), [.l 6 0], true, some (.l 6 0)⟩), (7, .val (V.s (.bool x7))), (16, .val ⟨(.nums 3 .i64 x16z x16), [], false, none⟩), (17, .val (V.s (.int .i64 x17))), (18, .val (V.s (.int .i64 x18)))] []
theorem spec_BitsOf.s (k : Nat) (a0z : Bool) (a0 : List Int) (a1 : Int) : answer Try.prog spec_BitsOf.Cs 100000 spec_BitsOf.cuts [] Try.f175 (k + 1) [.v (.nums 3 .i64 a0z a0), .v (.int .i64 a1)] = spec_BitsOf.b (fun r => some (spec_BitsOf.enc r)) (fun x1 x6z x6 x7 x16z x16 x17 x18 => rounds Try.prog spec_BitsOf.Cs (finish Try.prog [] Try.f175 [.v (.nums 3 .i64 a0z a0), .v (.int .i64 a1)]) 100000 k spec_BitsOf.K0 (spec_BitsOf.N0 x1 x6z x6 x7 x16z x16 x17 x18)) k a0z a0 a1 := by kernel_rfl
theorem spec_BitsOf.s0 (k : Nat) (G : List Fr → St → Option Res) (a0z : Bool) (a0 : List Int) (a1 : Int) (yx1 : Int) (yx6z : Bool) (yx6 : List Int) (yx7 : Bool) (yx16z : Bool) (yx16 : List Int) (yx17 : Int) (yx18 : Int) : resume Try.prog (spec_BitsOf.Cs k) G (finish Try.prog [] Try.f175 [.v (.nums 3 .i64 a0z a0), .v (.int .i64 a1)]) 100000 spec_BitsOf.K0 (spec_BitsOf.N0 yx1 yx6z yx6 yx7 yx16z yx16 yx17 yx18) = spec_BitsOf.l0b (fun r => some (spec_BitsOf.enc r)) (fun x1 x6z x6 x7 x16z x16 x17 x18 => G spec_BitsOf.K0 (spec_BitsOf.N0 x1 x6z x6 x7 x16z x16 x17 x18)) k yx1 yx6z yx6 yx7 yx16z yx16 yx17 yx18 := by kernel_rfl
theorem spec_BitsOf.b_nat {R R' : Type} (e : R → R') (ret : Bool × (List Int) × Bool → Option R) (j0 : Int → Bool → (List Int) → Bool → Bool → (List Int) → Int → Int → Option R) (k : Nat) (a0z : Bool) (a0 : List Int) (a1 : Int) : spec_BitsOf.b (fun r => (ret r).map e) (fun x1 x6z x6 x7 x16z x16 x17 x18 => (j0 x1 x6z x6 x7 x16z x16 x17 x18).map e) k a0z a0 a1 = (spec_BitsOf.b ret j0 k a0z a0 a1).map e := by
  unfold spec_BitsOf.b
  repeat' first | with_reducible refine nat_cond ?_ ?_ | with_reducible refine nat_bind fun _ => ?_ | rfl
theorem spec_BitsOf.l0b_nat {R R' : Type} (e : R → R') (ret : Bool × (List Int) × Bool → Option R) (j0 : Int → Bool → (List Int) → Bool → Bool → (List Int) → Int → Int → Option R) (k : Nat) (x1 : Int) (x6z : Bool) (x6 : List Int) (x7 : Bool) (x16z : Bool) (x16 : List Int) (x17 : Int) (x18 : Int) : spec_BitsOf.l0b (fun r => (ret r).map e) (fun x1 x6z x6 x7 x16z x16 x17 x18 => (j0 x1 x6z x6 x7 x16z x16 x17 x18).map e) k x1 x6z x6 x7 x16z x16 x17 x18 = (spec_BitsOf.l0b ret j0 k x1 x6z x6 x7 x16z x16 x17 x18).map e := by
  unfold spec_BitsOf.l0b
  repeat' first | with_reducible refine nat_cond ?_ ?_ | with_reducible refine nat_bind fun _ => ?_ | rfl
theorem spec_BitsOf.rounds_eq (a0z : Bool) (a0 : List Int) (a1 : Int) : ∀ k, (∀ (x1 : Int) (x6z : Bool) (x6 : List Int) (x7 : Bool) (x16z : Bool) (x16 : List Int) (x17 : Int) (x18 : Int), rounds Try.prog spec_BitsOf.Cs (finish Try.prog [] Try.f175 [.v (.nums 3 .i64 a0z a0), .v (.int .i64 a1)]) 100000 k spec_BitsOf.K0 (spec_BitsOf.N0 x1 x6z x6 x7 x16z x16 x17 x18) = (spec_BitsOf.l0 k x1 x6z x6 x7 x16z x16 x17 x18).map spec_BitsOf.enc)
  | 0 => fun _ _ _ _ _ _ _ _ => rfl
  | k + 1 => by
    have ih := spec_BitsOf.rounds_eq a0z a0 a1 k
    refine fun _ _ _ _ _ _ _ _ => ?_
    · refine (spec_BitsOf.s0 k _ a0z a0 a1 _ _ _ _ _ _ _ _).trans (Eq.trans ?_ (spec_BitsOf.l0b_nat spec_BitsOf.enc some (spec_BitsOf.l0 k) k _ _ _ _ _ _ _ _))
      simp only [ih, Option.map_some]
theorem spec_BitsOf.eq (k : Nat) (a0z : Bool) (a0 : List Int) (a1 : Int) : answer Try.prog spec_BitsOf.Cs 100000 spec_BitsOf.cuts [] Try.f175 (k + 1) [.v (.nums 3 .i64 a0z a0), .v (.int .i64 a1)] = (spec_BitsOf.f (k + 1) a0z a0 a1).map spec_BitsOf.enc := by
  have ih := spec_BitsOf.rounds_eq a0z a0 a1 k
  refine (spec_BitsOf.s k a0z a0 a1).trans (Eq.trans ?_ (spec_BitsOf.b_nat spec_BitsOf.enc some (spec_BitsOf.l0 k) k a0z a0 a1))
  simp only [ih, Option.map_some]
theorem spec_BitsOf.sound (k : Nat) : SoundF Try.prog 175 (fun a => (spec_BitsOf.ans k a).val) := by
  refine sound_plain (fun args res h => ?_) (fun t n => rfl)
  unfold spec_BitsOf.ans at h
  dsimp only at h
  split at h
  · cases k with
    | zero => cases h
    | succ k =>
      unfold Ans.val at h
      rw [← spec_BitsOf.eq] at h
      exact answer_sound mixed Try.func175 _ _ _ (k + 1) (fun j _ => tab_sound (tab_cons (spec_l02Signers.sound j) (tab_cons (spec_BitsNew.sound j) (tab_cons (spec_BitsSet.sound j) (tab_nil))))) _ _ h
  · exact (Ans.no_val h).elim

/-! loop.example/g00790/spec.l28Bits -/
def spec_l28Bits.b {R : Type} (ret : Bool × List Int → Option R) (k : Nat) (a0 : Int) (a1z : Bool) (a1 : List Int) : Option R :=
  (spec_BitsOf.f k a1z a1 a0).bind fun t0 => ret (t0.1, t0.2.1)
def spec_l28Bits.f : Nat → Int → Bool → (List Int) → Option (Bool × List Int)
  | 0, _, _, _ => none
  | k + 1, a0, a1z, a1 => spec_l28Bits.b some k a0 a1z a1
def spec_l28Bits.enc (r : Bool × List Int) : Res := ⟨[.vals false [((.nums 5 .u8 r.1 r.2), true)]], []⟩
def spec_l28Bits.ans (k : Nat) : List Arg → Ans
  | [.v (.int .i64 a0), .v (.nums 3 .i64 a1z a1)] => ⟨spec_l28Bits.f k a0 a1z a1, spec_l28Bits.enc⟩
  | _ => Ans.no
def spec_l28Bits.Cs (k : Nat) : CallSem := tab [(175, spec_BitsOf.ans k)]
def spec_l28Bits.cuts : List (Nat × Keep) := []
theorem spec_l28Bits.s (k : Nat) (a0 : Int) (a1z : Bool) (a1 : List Int) : answer Try.prog spec_l28Bits.Cs 100000 spec_l28Bits.cuts [] Try.f117 (k + 1) [.v (.int .i64 a0), .v (.nums 3 .i64 a1z a1)] = spec_l28Bits.b (fun r => some (spec_l28Bits.enc r)) k a0 a1z a1 := by kernel_rfl
theorem spec_l28Bits.b_nat {R R' : Type} (e : R → R') (ret : Bool × List Int → Option R) (k : Nat) (a0 : Int) (a1z : Bool) (a1 : List Int) : spec_l28Bits.b (fun r => (ret r).map e) k a0 a1z a1 = (spec_l28Bits.b ret k a0 a1z a1).map e := by
  unfold spec_l28Bits.b
  repeat' first | with_reducible refine nat_cond ?_ ?_ | with_reducible refine nat_bind fun _ => ?_ | rfl
theorem spec_l28Bits.eq (k : Nat) (a0 : Int) (a1z : Bool) (a1 : List Int) : answer Try.prog spec_l28Bits.Cs 100000 spec_l28Bits.cuts [] Try.f117 (k + 1) [.v (.int .i64 a0), .v (.nums 3 .i64 a1z a1)] = (spec_l28Bits.f (k + 1) a0 a1z a1).map spec_l28Bits.enc := by
  refine (spec_l28Bits.s k a0 a1z a1).trans (Eq.trans ?_ (spec_l28Bits.b_nat spec_l28Bits.enc some k a0 a1z a1))
  simp only [Option.map_some]
theorem spec_l28Bits.sound (k : Nat) : SoundF Try.prog 117 (fun a => (spec_l28Bits.ans k a).val) := by
  refine sound_plain (fun args res h => ?_) (fun t n => rfl)
  unfold spec_l28Bits.ans at h
  dsimp only at h
  split at h
  · cases k with
    | zero => cases h
    | succ k =>
      unfold Ans.val at h
      rw [← spec_l28Bits.eq] at h
      exact answer_sound mixed Try.func117 _ _ _ (k + 1) (fun j _ => tab_sound (tab_cons (spec_BitsOf.sound j) (tab_nil))) _ _ h
  · exact (Ans.no_val h).elim

/-! loop.example/g00790/spec.SameBytes -/
def spec_SameBytes.b {R : Type} (ret : Bool → Option R) (k : Nat) (a0z : Bool) (a0 : List Int) (a1z : Bool) (a1 : List Int) : Option R :=
  ret (decide ((strOf a0) = (strOf a1)))
def spec_SameBytes.f : Nat → Bool → (List Int) → Bool → (List Int) → Option Bool
  | 0, _, _, _, _ => none
  | k + 1, a0z, a0, a1z, a1 => spec_SameBytes.b some k a0z a0 a1z a1
def spec_SameBytes.enc (r : Bool) : Res := ⟨[.vals false [((.bool r), true)]], []⟩
def spec_SameBytes.ans (k : Nat) : List Arg → Ans
  | [.v (.nums 5 .u8 a0z a0), .v (.nums 5 .u8 a1z a1)] => ⟨spec_SameBytes.f k a0z a0 a1z a1, spec_SameBytes.enc⟩
  | _ => Ans.no
def spec_SameBytes.Cs (k : Nat) : CallSem := tab []
def spec_SameBytes.cuts : List (Nat × Keep) := []
theorem spec_SameBytes.s (k : Nat) (a0z : Bool) (a0 : List Int) (a1z : Bool) (a1 : List Int) : answer Try.prog spec_SameBytes.Cs 100000 spec_SameBytes.cuts [] Try.f115 (k + 1) [.v (.nums 5 .u8 a0z a0), .v (.nums 5 .u8 a1z a1)] = spec_SameBytes.b (fun r => some (spec_SameBytes.enc r)) k a0z a0 a1z a1 := by kernel_rfl
theorem spec_SameBytes.b_nat {R R' : Type} (e : R → R') (ret : Bool → Option R) (k : Nat) (a0z : Bool) (a0 : List Int) (a1z : Bool) (a1 : List Int) : spec_SameBytes.b (fun r => (ret r).map e) k a0z a0 a1z a1 = (spec_SameBytes.b ret k a0z a0 a1z a1).map e := by
  unfold spec_SameBytes.b
  repeat' first | with_reducible refine nat_cond ?_ ?_ | with_reducible refine nat_bind fun _ => ?_ | rfl
theorem spec_SameBytes.eq (k : Nat) (a0z : Bool) (a0 : List Int) (a1z : Bool) (a1 : List Int) : answer Try.prog spec_SameBytes.Cs 100000 spec_SameBytes.cuts [] Try.f115 (k + 1) [.v (.nums 5 .u8 a0z a0), .v (.nums 5 .u8 a1z a1)] = (spec_SameBytes.f (k + 1) a0z a0 a1z a1).map spec_SameBytes.enc := by
  refine (spec_SameBytes.s k a0z a0 a1z a1).trans (Eq.trans ?_ (spec_SameBytes.b_nat spec_SameBytes.enc some k a0z a0 a1z a1))
  simp only [Option.map_some]
theorem spec_SameBytes.sound (k : Nat) : SoundF Try.prog 115 (fun a => (spec_SameBytes.ans k a).val) := by
  refine sound_plain (fun args res h => ?_) (fun t n => rfl)
  unfold spec_SameBytes.ans at h
  dsimp only at h
  split at h
  · cases k with
    | zero => cases h
    | succ k =>
      unfold Ans.val at h
      rw [← spec_SameBytes.eq] at h
      exact answer_sound mixed Try.func115 _ _ _ (k + 1) (fun j _ => tab_sound (tab_nil)) _ _ h
  · exact (Ans.no_val h).elim

/-! loop.example/g00790/spec.l01Num -/
def spec_l01Num.b {R : Type} (ret : Bool → Option R) (k : Nat) (a0 : Int) : Option R :=
  (spec_l01In.f k a0 0 1152921504606846975).bind fun t0 => ret t0
def spec_l01Num.f : Nat → Int → Option Bool
  | 0, _ => none
  | k + 1, a0 => spec_l01Num.b some k a0
def spec_l01Num.enc (r : Bool) : Res := ⟨[.vals false [((.bool r), true)]], []⟩
def spec_l01Num.ans (k : Nat) : List Arg → Ans
  | [.v (.int .i64 a0)] => ⟨spec_l01Num.f k a0, spec_l01Num.enc⟩
  | _ => Ans.no
def spec_l01Num.Cs (k : Nat) : CallSem := tab [(170, spec_l01In.ans k)]
def spec_l01Num.cuts : List (Nat × Keep) := []
theorem spec_l01Num.s (k : Nat) (a0 : Int) : answer Try.prog spec_l01Num.Cs 100000 spec_l01Num.cuts [] Try.f190 (k + 1) [.v (.int .i64 a0)] = spec_l01Num.b (fun r => some (spec_l01Num.enc r)) k a0 := by kernel_rfl
theorem spec_l01Num.b_nat {R R' : Type} (e : R → R') (ret : Bool → Option R) (k : Nat) (a0 : Int) : spec_l01Num.b (fun r => (ret r).map e) k a0 = (spec_l01Num.b ret k a0).map e := by
  unfold spec_l01Num.b
  repeat' first | with_reducible refine nat_cond ?_ ?_ | with_reducible refine nat_bind fun _ => ?_ | rfl
theorem spec_l01Num.eq (k : Nat) (a0 : Int) : answer Try.prog spec_l01Num.Cs 100000 spec_l01Num.cuts [] Try.f190 (k + 1) [.v (.int .i64 a0)] = (spec_l01Num.f (k + 1) a0).map spec_l01Num.enc := by
  refine (spec_l01Num.s k a0).trans (Eq.trans ?_ (spec_l01Num.b_nat spec_l01Num.enc some k a0))
  simp only [Option.map_some]
theorem spec_l01Num.sound (k : Nat) : SoundF Try.prog 190 (fun a => (spec_l01Num.ans k a).val) := by
  refine sound_plain (fun args res h => ?_) (fun t n => rfl)
  unfold spec_l01Num.ans at h
  dsimp only at h
  split at h
  · cases k with
    | zero => cases h
    | succ k =>
      unfold Ans.val at h
      rw [← spec_l01Num.eq] at h
      exact answer_sound mixed Try.func190 _ _ _ (k + 1) (fun j _ => tab_sound (tab_cons (spec_l01In.sound j) (tab_nil))) _ _ h
  · exact (Ans.no_val h).elim

/-! loop.example/g00790/spec.l07Hash -/
def spec_l07Hash.b {R : Type} (ret : Bool → Option R) (k : Nat) (a0z : Bool) (a0 : List Int) : Option R :=
  ret (decide (((a0).length : Int) = 32))
def spec_l07Hash.f : Nat → Bool → (List Int) → Option Bool
  | 0, _, _ => none
  | k + 1, a0z, a0 => spec_l07Hash.b some k a0z a0
def spec_l07Hash.enc (r : Bool) : Res := ⟨[.vals false [((.bool r), true)]], []⟩
def spec_l07Hash.ans (k : Nat) : List Arg → Ans
  | [.v (.nums 5 .u8 a0z a0)] => ⟨spec_l07Hash.f k a0z a0, spec_l07Hash.enc⟩
  | _ => Ans.no
def spec_l07Hash.Cs (k : Nat) : CallSem := tab []
def spec_l07Hash.cuts : List (Nat × Keep) := []
theorem spec_l07Hash.s (k : Nat) (a0z : Bool) (a0 : List Int) : answer Try.prog spec_l07Hash.Cs 100000 spec_l07Hash.cuts [] Try.f191 (k + 1) [.v (.nums 5 .u8 a0z a0)] = spec_l07Hash.b (fun r => some (spec_l07Hash.enc r)) k a0z a0 := by kernel_rfl
theorem spec_l07Hash.b_nat {R R' : Type} (e : R → R') (ret : Bool → Option R) (k : Nat) (a0z : Bool) (a0 : List Int) : spec_l07Hash.b (fun r => (ret r).map e) k a0z a0 = (spec_l07Hash.b ret k a0z a0).map e := by
  unfold spec_l07Hash.b
  repeat' first | with_reducible refine nat_cond ?_ ?_ | with_reducible refine nat_bind fun _ => ?_ | rfl
theorem spec_l07Hash.eq (k : Nat) (a0z : Bool) (a0 : List Int) : answer Try.prog spec_l07Hash.Cs 100000 spec_l07Hash.cuts [] Try.f191 (k + 1) [.v (.nums 5 .u8 a0z a0)] = (spec_l07Hash.f (k + 1) a0z a0).map spec_l07Hash.enc := by
  refine (spec_l07Hash.s k a0z a0).trans (Eq.trans ?_ (spec_l07Hash.b_nat spec_l07Hash.enc some k a0z a0))
  simp only [Option.map_some]
theorem spec_l07Hash.sound (k : Nat) : SoundF Try.prog 191 (fun a => (spec_l07Hash.ans k a).val) := by
  refine sound_plain (fun args res h => ?_) (fun t n => rfl)
  unfold spec_l07Hash.ans at h
  dsimp only at h
  split at h
  · cases k with
    | zero => cases h
    | succ k =>
      unfold Ans.val at h
      rw [← spec_l07Hash.eq] at h
      exact answer_sound mixed Try.func191 _ _ _ (k + 1) (fun j _ => tab_sound (tab_nil)) _ _ h
  · exact (Ans.no_val h).elim

/-! loop.example/g00790/spec.PutVar -/
def spec_PutVar.b {R : Type} (ret : Bool × (List Int) × Bool → Option R) (j0 : Int → Bool → (List Int) → Option R) (k : Nat) (a0z : Bool) (a0 : List Int) (a1 : Int) : Option R :=
  (spec_l01Num.f k a1).bind fun t0 => cond (!t0) (ret (true, ([] : List Int), false)) ((spec_l01Copy.f k a0z a0).bind fun t1 => j0 a1 t1.1 t1.2)
def spec_PutVar.l0b {R : Type} (ret : Bool × (List Int) × Bool → Option R) (j0 : Int → Bool → (List Int) → Option R) (k : Nat) (x1 : Int) (x6z : Bool) (x6 : List Int) : Option R :=
  cond (decide (x1 > 127)) (cond (decide ((x6).length + 1 < 140737488355328)) (j0 (RowKit.wrap64 (Int.tdiv x1 128)) false (x6 ++ ([(((RowKit.wrap64 ((128 : Int) + (Int.tmod x1 128)))) % 256)] : List Int))) (none)) (cond (decide ((x6).length + 1 < 140737488355328)) (ret (false, (x6 ++ ([((x1) % 256)] : List Int)), true)) (none))
def spec_PutVar.l0 : Nat → Int → Bool → (List Int) → Option (Bool × (List Int) × Bool)
  | 0, _, _, _ => none
  | k + 1, x1, x6z, x6 => spec_PutVar.l0b some (spec_PutVar.l0 k) k x1 x6z x6
def spec_PutVar.f : Nat → Bool → (List Int) → Int → Option (Bool × (List Int) × Bool)
  | 0, _, _, _ => none
  | k + 1, a0z, a0, a1 => spec_PutVar.b some (spec_PutVar.l0 k) k a0z a0 a1
def spec_PutVar.enc (r : Bool × (List Int) × Bool) : Res := ⟨[.vals false [((.nums 5 .u8 r.1 r.2.1), true)], .vals false [((.bool r.2.2), true)]], []⟩
def spec_PutVar.ans (k : Nat) : List Arg → Ans
  | [.v (.nums 5 .u8 a0z a0), .v (.int .i64 a1)] => ⟨spec_PutVar.f k a0z a0 a1, spec_PutVar.enc⟩
  | _ => Ans.no
def spec_PutVar.Cs (k : Nat) : CallSem := tab [(155, spec_l01Copy.ans k), (190, spec_l01Num.ans k)]
def spec_PutVar.cuts : List (Nat × Keep) := [(60, ⟨[(1, some []), (6, none)], []⟩)]
noncomputable def spec_PutVar.K0 : List Fr := framesAt [true, true, true, false, false] (bodyOf Try.f234 spec_PutVar.cuts) []
def spec_PutVar.N0 (x1 : Int) (x6z : Bool) (x6 : List Int) : St := stOf 28 28 2 [(1, .val (V.s (.int .i64 x1))), (6, .val ⟨(.nums 5 .u8 x6z x6), [.l 6 0], true, some (.l 6 0)⟩)] []
theorem spec_PutVar.s (k : Nat) (a0z : Bool) (a0 : List Int) (a1 : Int) : answer Try.prog spec_PutVar.Cs 100000 spec_PutVar.cuts [] Try.f234 (k + 1) [.v (.nums 5 .u8 a0z a0), .v (.int .i64 a1)] = spec_PutVar.b (fun r => some (spec_PutVar.enc r)) (fun x1 x6z x6 => rounds Try.prog spec_PutVar.Cs (finish Try.prog [] Try.f234 [.v (.nums 5 .u8 a0z a0), .v (.int .i64 a1)]) 100000 k spec_PutVar.K0 (spec_PutVar.N0 x1 x6z x6)) k a0z a0 a1 := by kernel_rfl
theorem spec_PutVar.s0 (k : Nat) (G : List Fr → St → Option Res) (a0z : Bool) (a0 : List Int) (a1 : Int) (yx1 : Int) (yx6z : Bool) (yx6 : List Int) : resume Try.prog (spec_PutVar.Cs k) G (finish Try.prog [] Try.f234 [.v (.nums 5 .u8 a0z a0), .v (.int .i64 a1)]) 100000 spec_PutVar.K0 (spec_PutVar.N0 yx1 yx6z yx6) = spec_PutVar.l0b (fun r => some (spec_PutVar.enc r)) (fun x1 x6z x6 => G spec_PutVar.K0 (spec_PutVar.N0 x1 x6z x6)) k yx1 yx6z yx6 := by kernel_rfl
theorem spec_PutVar.b_nat {R R' : Type} (e : R → R') (ret : Bool × (List Int) × Bool → Option R) (j0 : Int → Bool → (List Int) → Option R) (k : Nat) (a0z : Bool) (a0 : List Int) (a1 : Int) : spec_PutVar.b (fun r => (ret r).map e) (fun x1 x6z x6 => (j0 x1 x6z x6).map e) k a0z a0 a1 = (spec_PutVar.b ret j0 k a0z a0 a1).map e := by
  unfold spec_PutVar.b
  repeat' first | with_reducible refine nat_cond ?_ ?_ | with_reducible refine nat_bind fun _ => ?_ | rfl
theorem spec_PutVar.l0b_nat {R R' : Type} (e : R → R') (ret : Bool × (List Int) × Bool → Option R) (j0 : Int → Bool → (List Int) → Option R) (k : Nat) (x1 : Int) (x6z : Bool) (x6 : List Int) : spec_PutVar.l0b (fun r => (ret r).map e) (fun x1 x6z x6 => (j0 x1 x6z x6).map e) k x1 x6z x6 = (spec_PutVar.l0b ret j0 k x1 x6z x6).map e := by
  unfold spec_PutVar.l0b
  repeat' first | with_reducible refine nat_cond ?_ ?_ | with_reducible refine nat_bind fun _ => ?_ | rfl
theorem spec_PutVar.rounds_eq (a0z : Bool) (a0 : List Int) (a1 : Int) : ∀ k, (∀ (x1 : Int) (x6z : Bool) (x6 : List Int), rounds Try.prog spec_PutVar.Cs (finish Try.prog [] Try.f234 [.v (.nums 5 .u8 a0z a0), .v (.int .i64 a1)]) 100000 k spec_PutVar.K0 (spec_PutVar.N0 x1 x6z x6) = (spec_PutVar.l0 k x1 x6z x6).map spec_PutVar.enc)
  | 0 => fun _ _ _ => rfl
  | k + 1 => by
    have ih := spec_PutVar.rounds_eq a0z a0 a1 k
    refine fun _ _ _ => ?_
    · refine (spec_PutVar.s0 k _ a0z a0 a1 _ _ _).trans (Eq.trans ?_ (spec_PutVar.l0b_nat spec_PutVar.enc some (spec_PutVar.l0 k) k _ _ _))
      simp only [ih, Option.map_some]
theorem spec_PutVar.eq (k : Nat) (a0z : Bool) (a0 : List Int) (a1 : Int) : answer Try.prog spec_PutVar.Cs 100000 spec_PutVar.cuts [] Try.f234 (k + 1) [.v (.nums 5 .u8 a0z a0), .v (.int .i64 a1)] = (spec_PutVar.f (k + 1) a0z a0 a1).map spec_PutVar.enc := by
  have ih := spec_PutVar.rounds_eq a0z a0 a1 k
  refine (spec_PutVar.s k a0z a0 a1).trans (Eq.trans ?_ (spec_PutVar.b_nat spec_PutVar.enc some (spec_PutVar.l0 k) k a0z a0 a1))
  simp only [ih, Option.map_some]
theorem spec_PutVar.sound (k : Nat) : SoundF Try.prog 234 (fun a => (spec_PutVar.ans k a).val) := by
  refine sound_plain (fun args res h => ?_) (fun t n => rfl)
  unfold spec_PutVar.ans at h
  dsimp only at h
  split at h
  · cases k with
    | zero => cases h
    | succ k =>
      unfold Ans.val at h
      rw [← spec_PutVar.eq] at h
      exact answer_sound mixed Try.func234 _ _ _ (k + 1) (fun j _ => tab_sound (tab_cons (spec_l01Copy.sound j) (tab_cons (spec_l01Num.sound j) (tab_nil)))) _ _ h
  · exact (Ans.no_val h).elim

/-! loop.example/g00790/spec.l11Num -/
def spec_l11Num.b {R : Type} (ret : Bool × List Int → Option R) (k : Nat) (a0z : Bool) (a0 : List Int) (a1 : Int) : Option R :=
  (spec_PutVar.f k a0z a0 a1).bind fun t0 => ret (t0.1, t0.2.1)
def spec_l11Num.f : Nat → Bool → (List Int) → Int → Option (Bool × List Int)
  | 0, _, _, _ => none
  | k + 1, a0z, a0, a1 => spec_l11Num.b some k a0z a0 a1
def spec_l11Num.enc (r : Bool × List Int) : Res := ⟨[.vals false [((.nums 5 .u8 r.1 r.2), true)]], []⟩
def spec_l11Num.ans (k : Nat) : List Arg → Ans
  | [.v (.nums 5 .u8 a0z a0), .v (.int .i64 a1)] => ⟨spec_l11Num.f k a0z a0 a1, spec_l11Num.enc⟩
  | _ => Ans.no
def spec_l11Num.Cs (k : Nat) : CallSem := tab [(234, spec_PutVar.ans k)]
def spec_l11Num.cuts : List (Nat × Keep) := []
theorem spec_l11Num.s (k : Nat) (a0z : Bool) (a0 : List Int) (a1 : Int) : answer Try.prog spec_l11Num.Cs 100000 spec_l11Num.cuts [] Try.f217 (k + 1) [.v (.nums 5 .u8 a0z a0), .v (.int .i64 a1)] = spec_l11Num.b (fun r => some (spec_l11Num.enc r)) k a0z a0 a1 := by kernel_rfl
theorem spec_l11Num.b_nat {R R' : Type} (e : R → R') (ret : Bool × List Int → Option R) (k : Nat) (a0z : Bool) (a0 : List Int) (a1 : Int) : spec_l11Num.b (fun r => (ret r).map e) k a0z a0 a1 = (spec_l11Num.b ret k a0z a0 a1).map e := by
  unfold spec_l11Num.b
  repeat' first | with_reducible refine nat_cond ?_ ?_ | with_reducible refine nat_bind fun _ => ?_ | rfl
theorem spec_l11Num.eq (k : Nat) (a0z : Bool) (a0 : List Int) (a1 : Int) : answer Try.prog spec_l11Num.Cs 100000 spec_l11Num.cuts [] Try.f217 (k + 1) [.v (.nums 5 .u8 a0z a0), .v (.int .i64 a1)] = (spec_l11Num.f (k + 1) a0z a0 a1).map spec_l11Num.enc := by
  refine (spec_l11Num.s k a0z a0 a1).trans (Eq.trans ?_ (spec_l11Num.b_nat spec_l11Num.enc some k a0z a0 a1))
  simp only [Option.map_some]
theorem spec_l11Num.sound (k : Nat) : SoundF Try.prog 217 (fun a => (spec_l11Num.ans k a).val) := by
  refine sound_plain (fun args res h => ?_) (fun t n => rfl)
  unfold spec_l11Num.ans at h
  dsimp only at h
  split at h
  · cases k with
    | zero => cases h
    | succ k =>
      unfold Ans.val at h
      rw [← spec_l11Num.eq] at h
      exact answer_sound mixed Try.func217 _ _ _ (k + 1) (fun j _ => tab_sound (tab_cons (spec_PutVar.sound j) (tab_nil))) _ _ h
  · exact (Ans.no_val h).elim

/-! loop.example/g00790/spec.VoteBytes -/
def spec_VoteBytes.b {R : Type} (ret : Bool × List Int → Option R) (k : Nat) (a0 : Int) (a1 : Int) (a2z : Bool) (a2 : List Int) : Option R :=
  (spec_l01Num.f k a0).bind fun t0 => cond (!t0) (ret (true, ([] : List Int))) ((spec_l01Num.f k a1).bind fun t1 => cond (!t1) (ret (true, ([] : List Int))) ((spec_l07Hash.f k a2z a2).bind fun t2 => cond (!t2) (ret (true, ([] : List Int))) ((spec_l11Num.f k false ([86] : List Int) a0).bind fun t3 => (spec_l11Num.f k t3.1 t3.2 a1).bind fun t4 => cond (decide ((t4.2).length + (a2).length < 140737488355328)) (ret (((a2).isEmpty && t4.1), (t4.2 ++ a2))) (none))))
def spec_VoteBytes.f : Nat → Int → Int → Bool → (List Int) → Option (Bool × List Int)
  | 0, _, _, _, _ => none
  | k + 1, a0, a1, a2z, a2 => spec_VoteBytes.b some k a0 a1 a2z a2
def spec_VoteBytes.enc (r : Bool × List Int) : Res := ⟨[.vals false [((.nums 5 .u8 r.1 r.2), true)]], []⟩
def spec_VoteBytes.ans (k : Nat) : List Arg → Ans
  | [.v (.int .i64 a0), .v (.int .i64 a1), .v (.nums 5 .u8 a2z a2)] => ⟨spec_VoteBytes.f k a0 a1 a2z a2, spec_VoteBytes.enc⟩
  | _ => Ans.no
def spec_VoteBytes.Cs (k : Nat) : CallSem := tab [(190, spec_l01Num.ans k), (191, spec_l07Hash.ans k), (217, spec_l11Num.ans k)]
def spec_VoteBytes.cuts : List (Nat × Keep) := []
theorem spec_VoteBytes.s (k : Nat) (a0 : Int) (a1 : Int) (a2z : Bool) (a2 : List Int) : answer Try.prog spec_VoteBytes.Cs 100000 spec_VoteBytes.cuts [] Try.f202 (k + 1) [.v (.int .i64 a0), .v (.int .i64 a1), .v (.nums 5 .u8 a2z a2)] = spec_VoteBytes.b (fun r => some (spec_VoteBytes.enc r)) k a0 a1 a2z a2 := by kernel_rfl
theorem spec_VoteBytes.b_nat {R R' : Type} (e : R → R') (ret : Bool × List Int → Option R) (k : Nat) (a0 : Int) (a1 : Int) (a2z : Bool) (a2 : List Int) : spec_VoteBytes.b (fun r => (ret r).map e) k a0 a1 a2z a2 = (spec_VoteBytes.b ret k a0 a1 a2z a2).map e := by
  unfold spec_VoteBytes.b
  repeat' first | with_reducible refine nat_cond ?_ ?_ | with_reducible refine nat_bind fun _ => ?_ | rfl
theorem spec_VoteBytes.eq (k : Nat) (a0 : Int) (a1 : Int) (a2z : Bool) (a2 : List Int) : answer Try.prog spec_VoteBytes.Cs 100000 spec_VoteBytes.cuts [] Try.f202 (k + 1) [.v (.int .i64 a0), .v (.int .i64 a1), .v (.nums 5 .u8 a2z a2)] = (spec_VoteBytes.f (k + 1) a0 a1 a2z a2).map spec_VoteBytes.enc := by
  refine (spec_VoteBytes.s k a0 a1 a2z a2).trans (Eq.trans ?_ (spec_VoteBytes.b_nat spec_VoteBytes.enc some k a0 a1 a2z a2))
  simp only [Option.map_some]
theorem spec_VoteBytes.sound (k : Nat) : SoundF Try.prog 202 (fun a => (spec_VoteBytes.ans k a).val) := by
  refine sound_plain (fun args res h => ?_) (fun t n => rfl)
  unfold spec_VoteBytes.ans at h
  dsimp only at h
  split at h
  · cases k with
    | zero => cases h
    | succ k =>
      unfold Ans.val at h
      rw [← spec_VoteBytes.eq] at h
      exact answer_sound mixed Try.func202 _ _ _ (k + 1) (fun j _ => tab_sound (tab_cons (spec_l01Num.sound j) (tab_cons (spec_l07Hash.sound j) (tab_cons (spec_l11Num.sound j) (tab_nil))))) _ _ h
  · exact (Ans.no_val h).elim

/-! loop.example/g00790/spec.ShaInit -/
def spec_ShaInit.b {R : Type} (ret : Bool × List Int → Option R) (k : Nat) : Option R :=
  ret (false, ([1779033703, 3144134277, 1013904242, 2773480762, 1359893119, 2600822924, 528734635, 1541459225] : List Int))
def spec_ShaInit.f : Nat → Option (Bool × List Int)
  | 0 => none
  | k + 1 => spec_ShaInit.b some k
def spec_ShaInit.enc (r : Bool × List Int) : Res := ⟨[.vals false [((.nums 3 .i64 r.1 r.2), true)]], []⟩
def spec_ShaInit.ans (k : Nat) : List Arg → Ans
  | [] => ⟨spec_ShaInit.f k, spec_ShaInit.enc⟩
  | _ => Ans.no
def spec_ShaInit.Cs (k : Nat) : CallSem := tab []
def spec_ShaInit.cuts : List (Nat × Keep) := []
theorem spec_ShaInit.s (k : Nat) : answer Try.prog spec_ShaInit.Cs 100000 spec_ShaInit.cuts [] Try.f219 (k + 1) [] = spec_ShaInit.b (fun r => some (spec_ShaInit.enc r)) k := by kernel_rfl
theorem spec_ShaInit.b_nat {R R' : Type} (e : R → R') (ret : Bool × List Int → Option R) (k : Nat) : spec_ShaInit.b (fun r => (ret r).map e) k = (spec_ShaInit.b ret k).map e := by
  unfold spec_ShaInit.b
  repeat' first | with_reducible refine nat_cond ?_ ?_ | with_reducible refine nat_bind fun _ => ?_ | rfl
theorem spec_ShaInit.eq (k : Nat) : answer Try.prog spec_ShaInit.Cs 100000 spec_ShaInit.cuts [] Try.f219 (k + 1) [] = (spec_ShaInit.f (k + 1)).map spec_ShaInit.enc := by
  refine (spec_ShaInit.s k).trans (Eq.trans ?_ (spec_ShaInit.b_nat spec_ShaInit.enc some k))
  simp only [Option.map_some]
theorem spec_ShaInit.sound (k : Nat) : SoundF Try.prog 219 (fun a => (spec_ShaInit.ans k a).val) := by
  refine sound_plain (fun args res h => ?_) (fun t n => rfl)
  unfold spec_ShaInit.ans at h
  dsimp only at h
  split at h
  · cases k with
    | zero => cases h
    | succ k =>
      unfold Ans.val at h
      rw [← spec_ShaInit.eq] at h
      exact answer_sound mixed Try.func219 _ _ _ (k + 1) (fun j _ => tab_sound (tab_nil)) _ _ h
  · exact (Ans.no_val h).elim

end Go.Proofs.YtbpcnodmgphinaaG
