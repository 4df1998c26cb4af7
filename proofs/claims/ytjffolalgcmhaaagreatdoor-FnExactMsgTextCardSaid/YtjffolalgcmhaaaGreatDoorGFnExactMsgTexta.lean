/- What the functions compute, printed by a program of this repo; each is shown to be what the machine of values answers. No condition. -/
import Derived.Test.YtjffolalgcmhaaaGreatDoorProg
import Derived.KernelRfl
import Derived.Test.YtjffolalgcmhaaaGreatDoorLay
namespace Go.Proofs.YtjffolalgcmhaaaGreatDoorG
open Go Go.Proofs.YtjffolalgcmhaaaGreatDoorRv Go.Proofs
set_option linter.unusedVariables false
set_option linter.unusedSimpArgs false
theorem mixed : Tryz.prog.follows .mixedOrders = true := by kernel_rfl
/-! loop.example/g00790/laws.szByteS -/
def laws_szByteS.b {R : Type} (ret : Int → Option R) (k : Nat) (a0z : Bool) (a0 : List Int) (a1 : Int) : Option R :=
  cond (decide ((RowKit.wrap64 (a1 - ((a0).length : Int))) < 0)) (ret (-1)) (ret (RowKit.wrap64 (a1 - ((a0).length : Int))))
def laws_szByteS.f : Nat → Bool → (List Int) → Int → Option Int
  | 0, _, _, _ => none
  | k + 1, a0z, a0, a1 => laws_szByteS.b some k a0z a0 a1
def laws_szByteS.enc (r : Int) : Res := ⟨[.vals false [((.int .i64 r), true)]], []⟩
def laws_szByteS.ans (k : Nat) : List Arg → Ans
  | [.v (.nums 5 .u8 a0z a0), .v (.int .i64 a1)] => ⟨laws_szByteS.f k a0z a0 a1, laws_szByteS.enc⟩
  | _ => Ans.no
def laws_szByteS.Cs (k : Nat) : CallSem := tab []
def laws_szByteS.cuts : List (Nat × Keep) := []
theorem laws_szByteS.s (k : Nat) (a0z : Bool) (a0 : List Int) (a1 : Int) : answer Tryz.prog laws_szByteS.Cs 100000 laws_szByteS.cuts [] Tryz.f44 (k + 1) [.v (.nums 5 .u8 a0z a0), .v (.int .i64 a1)] = laws_szByteS.b (fun r => some (laws_szByteS.enc r)) k a0z a0 a1 := by kernel_rfl
theorem laws_szByteS.b_nat {R R' : Type} (e : R → R') (ret : Int → Option R) (k : Nat) (a0z : Bool) (a0 : List Int) (a1 : Int) : laws_szByteS.b (fun r => (ret r).map e) k a0z a0 a1 = (laws_szByteS.b ret k a0z a0 a1).map e := by
  unfold laws_szByteS.b
  repeat' first | with_reducible refine nat_cond ?_ ?_ | with_reducible refine nat_bind fun _ => ?_ | rfl
theorem laws_szByteS.eq (k : Nat) (a0z : Bool) (a0 : List Int) (a1 : Int) : answer Tryz.prog laws_szByteS.Cs 100000 laws_szByteS.cuts [] Tryz.f44 (k + 1) [.v (.nums 5 .u8 a0z a0), .v (.int .i64 a1)] = (laws_szByteS.f (k + 1) a0z a0 a1).map laws_szByteS.enc := by
  refine (laws_szByteS.s k a0z a0 a1).trans (Eq.trans ?_ (laws_szByteS.b_nat laws_szByteS.enc some k a0z a0 a1))
  simp only [Option.map_some]
theorem laws_szByteS.sound (k : Nat) : SoundF Tryz.prog 44 (fun a => (laws_szByteS.ans k a).val) := by
  refine sound_plain (fun args res h => ?_) (fun t n => rfl)
  unfold laws_szByteS.ans at h
  dsimp only at h
  split at h
  · cases k with
    | zero => cases h
    | succ k =>
      unfold Ans.val at h
      rw [← laws_szByteS.eq] at h
      exact answer_sound mixed Tryz.func44 _ _ _ (k + 1) (fun j _ => tab_sound (tab_nil)) _ _ h
  · exact (Ans.no_val h).elim

/-! loop.example/g00790/laws.szVote -/
def laws_szVote.b {R : Type} (ret : Int → Option R) (k : Nat) (a0_0 : Int) (a0_1 : Int) (a0_2z : Bool) (a0_2 : List Int) (a0_3 : Int) (a0_4z : Bool) (a0_4 : List Int) (a1 : Int) : Option R :=
  (laws_szByteS.f k a0_2z a0_2 a1).bind fun t0 => cond (decide (t0 < 0)) (ret (-1)) ((laws_szByteS.f k a0_4z a0_4 t0).bind fun t1 => cond (decide (t1 < 0)) (ret (-1)) (ret t1))
def laws_szVote.f : Nat → Int → Int → Bool → (List Int) → Int → Bool → (List Int) → Int → Option Int
  | 0, _, _, _, _, _, _, _, _ => none
  | k + 1, a0_0, a0_1, a0_2z, a0_2, a0_3, a0_4z, a0_4, a1 => laws_szVote.b some k a0_0 a0_1 a0_2z a0_2 a0_3 a0_4z a0_4 a1
def laws_szVote.enc (r : Int) : Res := ⟨[.vals false [((.int .i64 r), true)]], []⟩
def laws_szVote.ans (k : Nat) : List Arg → Ans
  | [.v (.agg [(.int .i64 a0_0), (.int .i64 a0_1), (.nums 5 .u8 a0_2z a0_2), (.int .i64 a0_3), (.nums 5 .u8 a0_4z a0_4)]), .v (.int .i64 a1)] => ⟨laws_szVote.f k a0_0 a0_1 a0_2z a0_2 a0_3 a0_4z a0_4 a1, laws_szVote.enc⟩
  | _ => Ans.no
def laws_szVote.Cs (k : Nat) : CallSem := tab [(44, laws_szByteS.ans k)]
def laws_szVote.cuts : List (Nat × Keep) := []
theorem laws_szVote.s (k : Nat) (a0_0 : Int) (a0_1 : Int) (a0_2z : Bool) (a0_2 : List Int) (a0_3 : Int) (a0_4z : Bool) (a0_4 : List Int) (a1 : Int) : answer Tryz.prog laws_szVote.Cs 100000 laws_szVote.cuts [] Tryz.f9 (k + 1) [.v (.agg [(.int .i64 a0_0), (.int .i64 a0_1), (.nums 5 .u8 a0_2z a0_2), (.int .i64 a0_3), (.nums 5 .u8 a0_4z a0_4)]), .v (.int .i64 a1)] = laws_szVote.b (fun r => some (laws_szVote.enc r)) k a0_0 a0_1 a0_2z a0_2 a0_3 a0_4z a0_4 a1 := by kernel_rfl
theorem laws_szVote.b_nat {R R' : Type} (e : R → R') (ret : Int → Option R) (k : Nat) (a0_0 : Int) (a0_1 : Int) (a0_2z : Bool) (a0_2 : List Int) (a0_3 : Int) (a0_4z : Bool) (a0_4 : List Int) (a1 : Int) : laws_szVote.b (fun r => (ret r).map e) k a0_0 a0_1 a0_2z a0_2 a0_3 a0_4z a0_4 a1 = (laws_szVote.b ret k a0_0 a0_1 a0_2z a0_2 a0_3 a0_4z a0_4 a1).map e := by
  unfold laws_szVote.b
  repeat' first | with_reducible refine nat_cond ?_ ?_ | with_reducible refine nat_bind fun _ => ?_ | rfl
theorem laws_szVote.eq (k : Nat) (a0_0 : Int) (a0_1 : Int) (a0_2z : Bool) (a0_2 : List Int) (a0_3 : Int) (a0_4z : Bool) (a0_4 : List Int) (a1 : Int) : answer Tryz.prog laws_szVote.Cs 100000 laws_szVote.cuts [] Tryz.f9 (k + 1) [.v (.agg [(.int .i64 a0_0), (.int .i64 a0_1), (.nums 5 .u8 a0_2z a0_2), (.int .i64 a0_3), (.nums 5 .u8 a0_4z a0_4)]), .v (.int .i64 a1)] = (laws_szVote.f (k + 1) a0_0 a0_1 a0_2z a0_2 a0_3 a0_4z a0_4 a1).map laws_szVote.enc := by
  refine (laws_szVote.s k a0_0 a0_1 a0_2z a0_2 a0_3 a0_4z a0_4 a1).trans (Eq.trans ?_ (laws_szVote.b_nat laws_szVote.enc some k a0_0 a0_1 a0_2z a0_2 a0_3 a0_4z a0_4 a1))
  simp only [Option.map_some]
theorem laws_szVote.sound (k : Nat) : SoundF Tryz.prog 9 (fun a => (laws_szVote.ans k a).val) := by
  refine sound_plain (fun args res h => ?_) (fun t n => rfl)
  unfold laws_szVote.ans at h
  dsimp only at h
  split at h
  · cases k with
    | zero => cases h
    | succ k =>
      unfold Ans.val at h
      rw [← laws_szVote.eq] at h
      exact answer_sound mixed Tryz.func9 _ _ _ (k + 1) (fun j _ => tab_sound (tab_cons (laws_szByteS.sound j) (tab_nil))) _ _ h
  · exact (Ans.no_val h).elim

/-! loop.example/g00790/laws.szByteSS -/
def laws_szByteSS.b {R : Type} (ret : Int → Option R) (j0 : Bool → (List T) → Int → Int → Option R) (k : Nat) (a0z : Bool) (a0 : List T) (a1 : Int) : Option R :=
  cond (decide ((RowKit.wrap64 (a1 - ((a0).length : Int))) < 0)) (ret (-1)) (j0 a0z a0 (RowKit.wrap64 (a1 - ((a0).length : Int))) 0)
def laws_szByteSS.l0b {R : Type} (ret : Int → Option R) (j0 : Bool → (List T) → Int → Int → Option R) (k : Nat) (x0z : Bool) (x0 : List T) (x1 : Int) (x5 : Int) : Option R :=
  cond (decide (x5 < ((x0).length : Int))) (cond (decide ((0 : Int) ≤ x5)) (cond (decide (x5 < ((x0).length : Int))) ((laws_szByteS.f k (((((x0).getD (x5).toNat .bad).cells.getD 0 .bad)).isNil) (((((x0).getD (x5).toNat .bad).cells.getD 0 .bad)).toNums) x1).bind fun t0 => cond (decide (t0 < 0)) (ret (-1)) (j0 x0z x0 t0 (RowKit.wrap64 (x5 + 1)))) (none)) (none)) (ret x1)
def laws_szByteSS.l0 : Nat → Bool → (List T) → Int → Int → Option Int
  | 0, _, _, _, _ => none
  | k + 1, x0z, x0, x1, x5 => laws_szByteSS.l0b some (laws_szByteSS.l0 k) k x0z x0 x1 x5
def laws_szByteSS.f : Nat → Bool → (List T) → Int → Option Int
  | 0, _, _, _ => none
  | k + 1, a0z, a0, a1 => laws_szByteSS.b some (laws_szByteSS.l0 k) k a0z a0 a1
def laws_szByteSS.enc (r : Int) : Res := ⟨[.vals false [((.int .i64 r), true)]], []⟩
def laws_szByteSS.ans (k : Nat) : List Arg → Ans
  | [.v (.sl 22 a0z a0), .v (.int .i64 a1)] => ⟨laws_szByteSS.f k a0z a0 a1, laws_szByteSS.enc⟩
  | _ => Ans.no
def laws_szByteSS.Cs (k : Nat) : CallSem := tab [(44, laws_szByteS.ans k)]
def laws_szByteSS.cuts : List (Nat × Keep) := [(122, ⟨[(0, some []), (1, some []), (5, some [])], []⟩)]
noncomputable def laws_szByteSS.K0 : List Fr := framesAt [true, true, true, false, true, false] (bodyOf Tryz.f45 laws_szByteSS.cuts) []
def laws_szByteSS.N0 (x0z : Bool) (x0 : List T) (x1 : Int) (x5 : Int) : St := stOf 27 27 2 [(0, .val ⟨(.sl 22 x0z x0), [], false, none⟩), (1, .val (V.s (.int .i64 x1))), (5, .val (V.s (.int .i64 x5)))] []
theorem laws_szByteSS.s (k : Nat) (a0z : Bool) (a0 : List T) (a1 : Int) : answer Tryz.prog laws_szByteSS.Cs 100000 laws_szByteSS.cuts [] Tryz.f45 (k + 1) [.v (.sl 22 a0z a0), .v (.int .i64 a1)] = laws_szByteSS.b (fun r => some (laws_szByteSS.enc r)) (fun x0z x0 x1 x5 => rounds Tryz.prog laws_szByteSS.Cs (finish Tryz.prog [] Tryz.f45 [.v (.sl 22 a0z a0), .v (.int .i64 a1)]) 100000 k laws_szByteSS.K0 (laws_szByteSS.N0 x0z x0 x1 x5)) k a0z a0 a1 := by kernel_rfl
theorem laws_szByteSS.s0 (k : Nat) (G : List Fr → St → Option Res) (a0z : Bool) (a0 : List T) (a1 : Int) (yx0z : Bool) (yx0 : List T) (yx1 : Int) (yx5 : Int) : resume Tryz.prog (laws_szByteSS.Cs k) G (finish Tryz.prog [] Tryz.f45 [.v (.sl 22 a0z a0), .v (.int .i64 a1)]) 100000 laws_szByteSS.K0 (laws_szByteSS.N0 yx0z yx0 yx1 yx5) = laws_szByteSS.l0b (fun r => some (laws_szByteSS.enc r)) (fun x0z x0 x1 x5 => G laws_szByteSS.K0 (laws_szByteSS.N0 x0z x0 x1 x5)) k yx0z yx0 yx1 yx5 := by kernel_rfl
theorem laws_szByteSS.b_nat {R R' : Type} (e : R → R') (ret : Int → Option R) (j0 : Bool → (List T) → Int → Int → Option R) (k : Nat) (a0z : Bool) (a0 : List T) (a1 : Int) : laws_szByteSS.b (fun r => (ret r).map e) (fun x0z x0 x1 x5 => (j0 x0z x0 x1 x5).map e) k a0z a0 a1 = (laws_szByteSS.b ret j0 k a0z a0 a1).map e := by
  unfold laws_szByteSS.b
  repeat' first | with_reducible refine nat_cond ?_ ?_ | with_reducible refine nat_bind fun _ => ?_ | rfl
theorem laws_szByteSS.l0b_nat {R R' : Type} (e : R → R') (ret : Int → Option R) (j0 : Bool → (List T) → Int → Int → Option R) (k : Nat) (x0z : Bool) (x0 : List T) (x1 : Int) (x5 : Int) : laws_szByteSS.l0b (fun r => (ret r).map e) (fun x0z x0 x1 x5 => (j0 x0z x0 x1 x5).map e) k x0z x0 x1 x5 = (laws_szByteSS.l0b ret j0 k x0z x0 x1 x5).map e := by
  unfold laws_szByteSS.l0b
  repeat' first | with_reducible refine nat_cond ?_ ?_ | with_reducible refine nat_bind fun _ => ?_ | rfl
theorem laws_szByteSS.rounds_eq (a0z : Bool) (a0 : List T) (a1 : Int) : ∀ k, (∀ (x0z : Bool) (x0 : List T) (x1 : Int) (x5 : Int), rounds Tryz.prog laws_szByteSS.Cs (finish Tryz.prog [] Tryz.f45 [.v (.sl 22 a0z a0), .v (.int .i64 a1)]) 100000 k laws_szByteSS.K0 (laws_szByteSS.N0 x0z x0 x1 x5) = (laws_szByteSS.l0 k x0z x0 x1 x5).map laws_szByteSS.enc)
  | 0 => fun _ _ _ _ => rfl
  | k + 1 => by
    have ih := laws_szByteSS.rounds_eq a0z a0 a1 k
    refine fun _ _ _ _ => ?_
    · refine (laws_szByteSS.s0 k _ a0z a0 a1 _ _ _ _).trans (Eq.trans ?_ (laws_szByteSS.l0b_nat laws_szByteSS.enc some (laws_szByteSS.l0 k) k _ _ _ _))
      simp only [ih, Option.map_some]
theorem laws_szByteSS.eq (k : Nat) (a0z : Bool) (a0 : List T) (a1 : Int) : answer Tryz.prog laws_szByteSS.Cs 100000 laws_szByteSS.cuts [] Tryz.f45 (k + 1) [.v (.sl 22 a0z a0), .v (.int .i64 a1)] = (laws_szByteSS.f (k + 1) a0z a0 a1).map laws_szByteSS.enc := by
  have ih := laws_szByteSS.rounds_eq a0z a0 a1 k
  refine (laws_szByteSS.s k a0z a0 a1).trans (Eq.trans ?_ (laws_szByteSS.b_nat laws_szByteSS.enc some (laws_szByteSS.l0 k) k a0z a0 a1))
  simp only [ih, Option.map_some]
theorem laws_szByteSS.sound (k : Nat) : SoundF Tryz.prog 45 (fun a => (laws_szByteSS.ans k a).val) := by
  refine sound_plain (fun args res h => ?_) (fun t n => rfl)
  unfold laws_szByteSS.ans at h
  dsimp only at h
  split at h
  · cases k with
    | zero => cases h
    | succ k =>
      unfold Ans.val at h
      rw [← laws_szByteSS.eq] at h
      exact answer_sound mixed Tryz.func45 _ _ _ (k + 1) (fun j _ => tab_sound (tab_cons (laws_szByteS.sound j) (tab_nil))) _ _ h
  · exact (Ans.no_val h).elim

/-! loop.example/g00790/laws.szQc -/
def laws_szQc.b {R : Type} (ret : Int → Option R) (k : Nat) (a0_0 : Int) (a0_1 : Int) (a0_2z : Bool) (a0_2 : List Int) (a0_3z : Bool) (a0_3 : List Int) (a0_4z : Bool) (a0_4 : List T) (a1 : Int) : Option R :=
  (laws_szByteS.f k a0_2z a0_2 a1).bind fun t0 => cond (decide (t0 < 0)) (ret (-1)) ((laws_szByteS.f k a0_3z a0_3 t0).bind fun t1 => cond (decide (t1 < 0)) (ret (-1)) ((laws_szByteSS.f k a0_4z a0_4 t1).bind fun t2 => cond (decide (t2 < 0)) (ret (-1)) (ret t2)))
def laws_szQc.f : Nat → Int → Int → Bool → (List Int) → Bool → (List Int) → Bool → (List T) → Int → Option Int
  | 0, _, _, _, _, _, _, _, _, _ => none
  | k + 1, a0_0, a0_1, a0_2z, a0_2, a0_3z, a0_3, a0_4z, a0_4, a1 => laws_szQc.b some k a0_0 a0_1 a0_2z a0_2 a0_3z a0_3 a0_4z a0_4 a1
def laws_szQc.enc (r : Int) : Res := ⟨[.vals false [((.int .i64 r), true)]], []⟩
def laws_szQc.ans (k : Nat) : List Arg → Ans
  | [.v (.agg [(.int .i64 a0_0), (.int .i64 a0_1), (.nums 5 .u8 a0_2z a0_2), (.nums 5 .u8 a0_3z a0_3), (.sl 22 a0_4z a0_4)]), .v (.int .i64 a1)] => ⟨laws_szQc.f k a0_0 a0_1 a0_2z a0_2 a0_3z a0_3 a0_4z a0_4 a1, laws_szQc.enc⟩
  | _ => Ans.no
def laws_szQc.Cs (k : Nat) : CallSem := tab [(44, laws_szByteS.ans k), (45, laws_szByteSS.ans k)]
def laws_szQc.cuts : List (Nat × Keep) := []
theorem laws_szQc.s (k : Nat) (a0_0 : Int) (a0_1 : Int) (a0_2z : Bool) (a0_2 : List Int) (a0_3z : Bool) (a0_3 : List Int) (a0_4z : Bool) (a0_4 : List T) (a1 : Int) : answer Tryz.prog laws_szQc.Cs 100000 laws_szQc.cuts [] Tryz.f10 (k + 1) [.v (.agg [(.int .i64 a0_0), (.int .i64 a0_1), (.nums 5 .u8 a0_2z a0_2), (.nums 5 .u8 a0_3z a0_3), (.sl 22 a0_4z a0_4)]), .v (.int .i64 a1)] = laws_szQc.b (fun r => some (laws_szQc.enc r)) k a0_0 a0_1 a0_2z a0_2 a0_3z a0_3 a0_4z a0_4 a1 := by kernel_rfl
theorem laws_szQc.b_nat {R R' : Type} (e : R → R') (ret : Int → Option R) (k : Nat) (a0_0 : Int) (a0_1 : Int) (a0_2z : Bool) (a0_2 : List Int) (a0_3z : Bool) (a0_3 : List Int) (a0_4z : Bool) (a0_4 : List T) (a1 : Int) : laws_szQc.b (fun r => (ret r).map e) k a0_0 a0_1 a0_2z a0_2 a0_3z a0_3 a0_4z a0_4 a1 = (laws_szQc.b ret k a0_0 a0_1 a0_2z a0_2 a0_3z a0_3 a0_4z a0_4 a1).map e := by
  unfold laws_szQc.b
  repeat' first | with_reducible refine nat_cond ?_ ?_ | with_reducible refine nat_bind fun _ => ?_ | rfl
theorem laws_szQc.eq (k : Nat) (a0_0 : Int) (a0_1 : Int) (a0_2z : Bool) (a0_2 : List Int) (a0_3z : Bool) (a0_3 : List Int) (a0_4z : Bool) (a0_4 : List T) (a1 : Int) : answer Tryz.prog laws_szQc.Cs 100000 laws_szQc.cuts [] Tryz.f10 (k + 1) [.v (.agg [(.int .i64 a0_0), (.int .i64 a0_1), (.nums 5 .u8 a0_2z a0_2), (.nums 5 .u8 a0_3z a0_3), (.sl 22 a0_4z a0_4)]), .v (.int .i64 a1)] = (laws_szQc.f (k + 1) a0_0 a0_1 a0_2z a0_2 a0_3z a0_3 a0_4z a0_4 a1).map laws_szQc.enc := by
  refine (laws_szQc.s k a0_0 a0_1 a0_2z a0_2 a0_3z a0_3 a0_4z a0_4 a1).trans (Eq.trans ?_ (laws_szQc.b_nat laws_szQc.enc some k a0_0 a0_1 a0_2z a0_2 a0_3z a0_3 a0_4z a0_4 a1))
  simp only [Option.map_some]
theorem laws_szQc.sound (k : Nat) : SoundF Tryz.prog 10 (fun a => (laws_szQc.ans k a).val) := by
  refine sound_plain (fun args res h => ?_) (fun t n => rfl)
  unfold laws_szQc.ans at h
  dsimp only at h
  split at h
  · cases k with
    | zero => cases h
    | succ k =>
      unfold Ans.val at h
      rw [← laws_szQc.eq] at h
      exact answer_sound mixed Tryz.func10 _ _ _ (k + 1) (fun j _ => tab_sound (tab_cons (laws_szByteS.sound j) (tab_cons (laws_szByteSS.sound j) (tab_nil)))) _ _ h
  · exact (Ans.no_val h).elim

/-! loop.example/g00790/laws.szHead -/
def laws_szHead.b {R : Type} (ret : Int → Option R) (k : Nat) (a0_0 : Int) (a0_1 : Int) (a0_2 : Int) (a0_3z : Bool) (a0_3 : List Int) (a0_4z : Bool) (a0_4 : List Int) (a0_5 : Int) (a0_6 : Int) (a0_7z : Bool) (a0_7 : List Int) (a0_8z : Bool) (a0_8 : List Int) (a0_9z : Bool) (a0_9 : List T) (a1 : Int) : Option R :=
  (laws_szByteS.f k a0_3z a0_3 a1).bind fun t0 => cond (decide (t0 < 0)) (ret (-1)) ((laws_szByteS.f k a0_4z a0_4 t0).bind fun t1 => cond (decide (t1 < 0)) (ret (-1)) ((laws_szQc.f k a0_5 a0_6 a0_7z a0_7 a0_8z a0_8 a0_9z a0_9 t1).bind fun t2 => cond (decide (t2 < 0)) (ret (-1)) (ret t2)))
def laws_szHead.f : Nat → Int → Int → Int → Bool → (List Int) → Bool → (List Int) → Int → Int → Bool → (List Int) → Bool → (List Int) → Bool → (List T) → Int → Option Int
  | 0, _, _, _, _, _, _, _, _, _, _, _, _, _, _, _, _ => none
  | k + 1, a0_0, a0_1, a0_2, a0_3z, a0_3, a0_4z, a0_4, a0_5, a0_6, a0_7z, a0_7, a0_8z, a0_8, a0_9z, a0_9, a1 => laws_szHead.b some k a0_0 a0_1 a0_2 a0_3z a0_3 a0_4z a0_4 a0_5 a0_6 a0_7z a0_7 a0_8z a0_8 a0_9z a0_9 a1
def laws_szHead.enc (r : Int) : Res := ⟨[.vals false [((.int .i64 r), true)]], []⟩
def laws_szHead.ans (k : Nat) : List Arg → Ans
  | [.v (.agg [(.int .i64 a0_0), (.int .i64 a0_1), (.int .i64 a0_2), (.nums 5 .u8 a0_3z a0_3), (.nums 5 .u8 a0_4z a0_4), (.int .i64 a0_5), (.int .i64 a0_6), (.nums 5 .u8 a0_7z a0_7), (.nums 5 .u8 a0_8z a0_8), (.sl 22 a0_9z a0_9)]), .v (.int .i64 a1)] => ⟨laws_szHead.f k a0_0 a0_1 a0_2 a0_3z a0_3 a0_4z a0_4 a0_5 a0_6 a0_7z a0_7 a0_8z a0_8 a0_9z a0_9 a1, laws_szHead.enc⟩
  | _ => Ans.no
def laws_szHead.Cs (k : Nat) : CallSem := tab [(44, laws_szByteS.ans k), (10, laws_szQc.ans k)]
def laws_szHead.cuts : List (Nat × Keep) := []
theorem laws_szHead.s (k : Nat) (a0_0 : Int) (a0_1 : Int) (a0_2 : Int) (a0_3z : Bool) (a0_3 : List Int) (a0_4z : Bool) (a0_4 : List Int) (a0_5 : Int) (a0_6 : Int) (a0_7z : Bool) (a0_7 : List Int) (a0_8z : Bool) (a0_8 : List Int) (a0_9z : Bool) (a0_9 : List T) (a1 : Int) : answer Tryz.prog laws_szHead.Cs 100000 laws_szHead.cuts [] Tryz.f11 (k + 1) [.v (.agg [(.int .i64 a0_0), (.int .i64 a0_1), (.int .i64 a0_2), (.nums 5 .u8 a0_3z a0_3), (.nums 5 .u8 a0_4z a0_4), (.int .i64 a0_5), (.int .i64 a0_6), (.nums 5 .u8 a0_7z a0_7), (.nums 5 .u8 a0_8z a0_8), (.sl 22 a0_9z a0_9)]), .v (.int .i64 a1)] = laws_szHead.b (fun r => some (laws_szHead.enc r)) k a0_0 a0_1 a0_2 a0_3z a0_3 a0_4z a0_4 a0_5 a0_6 a0_7z a0_7 a0_8z a0_8 a0_9z a0_9 a1 := by kernel_rfl
theorem laws_szHead.b_nat {R R' : Type} (e : R → R') (ret : Int → Option R) (k : Nat) (a0_0 : Int) (a0_1 : Int) (a0_2 : Int) (a0_3z : Bool) (a0_3 : List Int) (a0_4z : Bool) (a0_4 : List Int) (a0_5 : Int) (a0_6 : Int) (a0_7z : Bool) (a0_7 : List Int) (a0_8z : Bool) (a0_8 : List Int) (a0_9z : Bool) (a0_9 : List T) (a1 : Int) : laws_szHead.b (fun r => (ret r).map e) k a0_0 a0_1 a0_2 a0_3z a0_3 a0_4z a0_4 a0_5 a0_6 a0_7z a0_7 a0_8z a0_8 a0_9z a0_9 a1 = (laws_szHead.b ret k a0_0 a0_1 a0_2 a0_3z a0_3 a0_4z a0_4 a0_5 a0_6 a0_7z a0_7 a0_8z a0_8 a0_9z a0_9 a1).map e := by
  unfold laws_szHead.b
  repeat' first | with_reducible refine nat_cond ?_ ?_ | with_reducible refine nat_bind fun _ => ?_ | rfl
theorem laws_szHead.eq (k : Nat) (a0_0 : Int) (a0_1 : Int) (a0_2 : Int) (a0_3z : Bool) (a0_3 : List Int) (a0_4z : Bool) (a0_4 : List Int) (a0_5 : Int) (a0_6 : Int) (a0_7z : Bool) (a0_7 : List Int) (a0_8z : Bool) (a0_8 : List Int) (a0_9z : Bool) (a0_9 : List T) (a1 : Int) : answer Tryz.prog laws_szHead.Cs 100000 laws_szHead.cuts [] Tryz.f11 (k + 1) [.v (.agg [(.int .i64 a0_0), (.int .i64 a0_1), (.int .i64 a0_2), (.nums 5 .u8 a0_3z a0_3), (.nums 5 .u8 a0_4z a0_4), (.int .i64 a0_5), (.int .i64 a0_6), (.nums 5 .u8 a0_7z a0_7), (.nums 5 .u8 a0_8z a0_8), (.sl 22 a0_9z a0_9)]), .v (.int .i64 a1)] = (laws_szHead.f (k + 1) a0_0 a0_1 a0_2 a0_3z a0_3 a0_4z a0_4 a0_5 a0_6 a0_7z a0_7 a0_8z a0_8 a0_9z a0_9 a1).map laws_szHead.enc := by
  refine (laws_szHead.s k a0_0 a0_1 a0_2 a0_3z a0_3 a0_4z a0_4 a0_5 a0_6 a0_7z a0_7 a0_8z a0_8 a0_9z a0_9 a1).trans (Eq.trans ?_ (laws_szHead.b_nat laws_szHead.enc some k a0_0 a0_1 a0_2 a0_3z a0_3 a0_4z a0_4 a0_5 a0_6 a0_7z a0_7 a0_8z a0_8 a0_9z a0_9 a1))
  simp only [Option.map_some]
theorem laws_szHead.sound (k : Nat) : SoundF Tryz.prog 11 (fun a => (laws_szHead.ans k a).val) := by
  refine sound_plain (fun args res h => ?_) (fun t n => rfl)
  unfold laws_szHead.ans at h
  dsimp only at h
  split at h
  · cases k with
    | zero => cases h
    | succ k =>
      unfold Ans.val at h
      rw [← laws_szHead.eq] at h
      exact answer_sound mixed Tryz.func11 _ _ _ (k + 1) (fun j _ => tab_sound (tab_cons (laws_szByteS.sound j) (tab_cons (laws_szQc.sound j) (tab_nil)))) _ _ h
  · exact (Ans.no_val h).elim

/-! loop.example/g00790/laws.szBlock -/
def laws_szBlock.b {R : Type} (ret : Int → Option R) (k : Nat) (a0_0 : Int) (a0_1 : Int) (a0_2 : Int) (a0_3z : Bool) (a0_3 : List Int) (a0_4z : Bool) (a0_4 : List Int) (a0_5 : Int) (a0_6 : Int) (a0_7z : Bool) (a0_7 : List Int) (a0_8z : Bool) (a0_8 : List Int) (a0_9z : Bool) (a0_9 : List T) (a0_10z : Bool) (a0_10 : List T) (a1 : Int) : Option R :=
  (laws_szHead.f k a0_0 a0_1 a0_2 a0_3z a0_3 a0_4z a0_4 a0_5 a0_6 a0_7z a0_7 a0_8z a0_8 a0_9z a0_9 a1).bind fun t0 => cond (decide (t0 < 0)) (ret (-1)) ((laws_szByteSS.f k a0_10z a0_10 t0).bind fun t1 => cond (decide (t1 < 0)) (ret (-1)) (ret t1))
def laws_szBlock.f : Nat → Int → Int → Int → Bool → (List Int) → Bool → (List Int) → Int → Int → Bool → (List Int) → Bool → (List Int) → Bool → (List T) → Bool → (List T) → Int → Option Int
  | 0, _, _, _, _, _, _, _, _, _, _, _, _, _, _, _, _, _, _ => none
  | k + 1, a0_0, a0_1, a0_2, a0_3z, a0_3, a0_4z, a0_4, a0_5, a0_6, a0_7z, a0_7, a0_8z, a0_8, a0_9z, a0_9, a0_10z, a0_10, a1 => laws_szBlock.b some k a0_0 a0_1 a0_2 a0_3z a0_3 a0_4z a0_4 a0_5 a0_6 a0_7z a0_7 a0_8z a0_8 a0_9z a0_9 a0_10z a0_10 a1
def laws_szBlock.enc (r : Int) : Res := ⟨[.vals false [((.int .i64 r), true)]], []⟩
def laws_szBlock.ans (k : Nat) : List Arg → Ans
  | [.v (.agg [(.int .i64 a0_0), (.int .i64 a0_1), (.int .i64 a0_2), (.nums 5 .u8 a0_3z a0_3), (.nums 5 .u8 a0_4z a0_4), (.int .i64 a0_5), (.int .i64 a0_6), (.nums 5 .u8 a0_7z a0_7), (.nums 5 .u8 a0_8z a0_8), (.sl 22 a0_9z a0_9), (.sl 22 a0_10z a0_10)]), .v (.int .i64 a1)] => ⟨laws_szBlock.f k a0_0 a0_1 a0_2 a0_3z a0_3 a0_4z a0_4 a0_5 a0_6 a0_7z a0_7 a0_8z a0_8 a0_9z a0_9 a0_10z a0_10 a1, laws_szBlock.enc⟩
  | _ => Ans.no
def laws_szBlock.Cs (k : Nat) : CallSem := tab [(45, laws_szByteSS.ans k), (11, laws_szHead.ans k)]
def laws_szBlock.cuts : List (Nat × Keep) := []
theorem laws_szBlock.s (k : Nat) (a0_0 : Int) (a0_1 : Int) (a0_2 : Int) (a0_3z : Bool) (a0_3 : List Int) (a0_4z : Bool) (a0_4 : List Int) (a0_5 : Int) (a0_6 : Int) (a0_7z : Bool) (a0_7 : List Int) (a0_8z : Bool) (a0_8 : List Int) (a0_9z : Bool) (a0_9 : List T) (a0_10z : Bool) (a0_10 : List T) (a1 : Int) : answer Tryz.prog laws_szBlock.Cs 100000 laws_szBlock.cuts [] Tryz.f12 (k + 1) [.v (.agg [(.int .i64 a0_0), (.int .i64 a0_1), (.int .i64 a0_2), (.nums 5 .u8 a0_3z a0_3), (.nums 5 .u8 a0_4z a0_4), (.int .i64 a0_5), (.int .i64 a0_6), (.nums 5 .u8 a0_7z a0_7), (.nums 5 .u8 a0_8z a0_8), (.sl 22 a0_9z a0_9), (.sl 22 a0_10z a0_10)]), .v (.int .i64 a1)] = laws_szBlock.b (fun r => some (laws_szBlock.enc r)) k a0_0 a0_1 a0_2 a0_3z a0_3 a0_4z a0_4 a0_5 a0_6 a0_7z a0_7 a0_8z a0_8 a0_9z a0_9 a0_10z a0_10 a1 := by kernel_rfl
theorem laws_szBlock.b_nat {R R' : Type} (e : R → R') (ret : Int → Option R) (k : Nat) (a0_0 : Int) (a0_1 : Int) (a0_2 : Int) (a0_3z : Bool) (a0_3 : List Int) (a0_4z : Bool) (a0_4 : List Int) (a0_5 : Int) (a0_6 : Int) (a0_7z : Bool) (a0_7 : List Int) (a0_8z : Bool) (a0_8 : List Int) (a0_9z : Bool) (a0_9 : List T) (a0_10z : Bool) (a0_10 : List T) (a1 : Int) : laws_szBlock.b (fun r => (ret r).map e) k a0_0 a0_1 a0_2 a0_3z a0_3 a0_4z a0_4 a0_5 a0_6 a0_7z a0_7 a0_8z a0_8 a0_9z a0_9 a0_10z a0_10 a1 = (laws_szBlock.b ret k a0_0 a0_1 a0_2 a0_3z a0_3 a0_4z a0_4 a0_5 a0_6 a0_7z a0_7 a0_8z a0_8 a0_9z a0_9 a0_10z a0_10 a1).map e := by
  unfold laws_szBlock.b
  repeat' first | with_reducible refine nat_cond ?_ ?_ | with_reducible refine nat_bind fun _ => ?_ | rfl
theorem laws_szBlock.eq (k : Nat) (a0_0 : Int) (a0_1 : Int) (a0_2 : Int) (a0_3z : Bool) (a0_3 : List Int) (a0_4z : Bool) (a0_4 : List Int) (a0_5 : Int) (a0_6 : Int) (a0_7z : Bool) (a0_7 : List Int) (a0_8z : Bool) (a0_8 : List Int) (a0_9z : Bool) (a0_9 : List T) (a0_10z : Bool) (a0_10 : List T) (a1 : Int) : answer Tryz.prog laws_szBlock.Cs 100000 laws_szBlock.cuts [] Tryz.f12 (k + 1) [.v (.agg [(.int .i64 a0_0), (.int .i64 a0_1), (.int .i64 a0_2), (.nums 5 .u8 a0_3z a0_3), (.nums 5 .u8 a0_4z a0_4), (.int .i64 a0_5), (.int .i64 a0_6), (.nums 5 .u8 a0_7z a0_7), (.nums 5 .u8 a0_8z a0_8), (.sl 22 a0_9z a0_9), (.sl 22 a0_10z a0_10)]), .v (.int .i64 a1)] = (laws_szBlock.f (k + 1) a0_0 a0_1 a0_2 a0_3z a0_3 a0_4z a0_4 a0_5 a0_6 a0_7z a0_7 a0_8z a0_8 a0_9z a0_9 a0_10z a0_10 a1).map laws_szBlock.enc := by
  refine (laws_szBlock.s k a0_0 a0_1 a0_2 a0_3z a0_3 a0_4z a0_4 a0_5 a0_6 a0_7z a0_7 a0_8z a0_8 a0_9z a0_9 a0_10z a0_10 a1).trans (Eq.trans ?_ (laws_szBlock.b_nat laws_szBlock.enc some k a0_0 a0_1 a0_2 a0_3z a0_3 a0_4z a0_4 a0_5 a0_6 a0_7z a0_7 a0_8z a0_8 a0_9z a0_9 a0_10z a0_10 a1))
  simp only [Option.map_some]
theorem laws_szBlock.sound (k : Nat) : SoundF Tryz.prog 12 (fun a => (laws_szBlock.ans k a).val) := by
  refine sound_plain (fun args res h => ?_) (fun t n => rfl)
  unfold laws_szBlock.ans at h
  dsimp only at h
  split at h
  · cases k with
    | zero => cases h
    | succ k =>
      unfold Ans.val at h
      rw [← laws_szBlock.eq] at h
      exact answer_sound mixed Tryz.func12 _ _ _ (k + 1) (fun j _ => tab_sound (tab_cons (laws_szByteSS.sound j) (tab_cons (laws_szHead.sound j) (tab_nil)))) _ _ h
  · exact (Ans.no_val h).elim

/-! loop.example/g00790/laws.szEntry -/
def laws_szEntry.b {R : Type} (ret : Int → Option R) (k : Nat) (a0_0 : Int) (a0_1 : Int) (a0_2z : Bool) (a0_2 : List Int) (a1 : Int) : Option R :=
  (laws_szByteS.f k a0_2z a0_2 a1).bind fun t0 => cond (decide (t0 < 0)) (ret (-1)) (ret t0)
def laws_szEntry.f : Nat → Int → Int → Bool → (List Int) → Int → Option Int
  | 0, _, _, _, _, _ => none
  | k + 1, a0_0, a0_1, a0_2z, a0_2, a1 => laws_szEntry.b some k a0_0 a0_1 a0_2z a0_2 a1
def laws_szEntry.enc (r : Int) : Res := ⟨[.vals false [((.int .i64 r), true)]], []⟩
def laws_szEntry.ans (k : Nat) : List Arg → Ans
  | [.v (.agg [(.int .i64 a0_0), (.int .i64 a0_1), (.nums 5 .u8 a0_2z a0_2)]), .v (.int .i64 a1)] => ⟨laws_szEntry.f k a0_0 a0_1 a0_2z a0_2 a1, laws_szEntry.enc⟩
  | _ => Ans.no
def laws_szEntry.Cs (k : Nat) : CallSem := tab [(44, laws_szByteS.ans k)]
def laws_szEntry.cuts : List (Nat × Keep) := []
theorem laws_szEntry.s (k : Nat) (a0_0 : Int) (a0_1 : Int) (a0_2z : Bool) (a0_2 : List Int) (a1 : Int) : answer Tryz.prog laws_szEntry.Cs 100000 laws_szEntry.cuts [] Tryz.f68 (k + 1) [.v (.agg [(.int .i64 a0_0), (.int .i64 a0_1), (.nums 5 .u8 a0_2z a0_2)]), .v (.int .i64 a1)] = laws_szEntry.b (fun r => some (laws_szEntry.enc r)) k a0_0 a0_1 a0_2z a0_2 a1 := by kernel_rfl
theorem laws_szEntry.b_nat {R R' : Type} (e : R → R') (ret : Int → Option R) (k : Nat) (a0_0 : Int) (a0_1 : Int) (a0_2z : Bool) (a0_2 : List Int) (a1 : Int) : laws_szEntry.b (fun r => (ret r).map e) k a0_0 a0_1 a0_2z a0_2 a1 = (laws_szEntry.b ret k a0_0 a0_1 a0_2z a0_2 a1).map e := by
  unfold laws_szEntry.b
  repeat' first | with_reducible refine nat_cond ?_ ?_ | with_reducible refine nat_bind fun _ => ?_ | rfl
theorem laws_szEntry.eq (k : Nat) (a0_0 : Int) (a0_1 : Int) (a0_2z : Bool) (a0_2 : List Int) (a1 : Int) : answer Tryz.prog laws_szEntry.Cs 100000 laws_szEntry.cuts [] Tryz.f68 (k + 1) [.v (.agg [(.int .i64 a0_0), (.int .i64 a0_1), (.nums 5 .u8 a0_2z a0_2)]), .v (.int .i64 a1)] = (laws_szEntry.f (k + 1) a0_0 a0_1 a0_2z a0_2 a1).map laws_szEntry.enc := by
  refine (laws_szEntry.s k a0_0 a0_1 a0_2z a0_2 a1).trans (Eq.trans ?_ (laws_szEntry.b_nat laws_szEntry.enc some k a0_0 a0_1 a0_2z a0_2 a1))
  simp only [Option.map_some]
theorem laws_szEntry.sound (k : Nat) : SoundF Tryz.prog 68 (fun a => (laws_szEntry.ans k a).val) := by
  refine sound_plain (fun args res h => ?_) (fun t n => rfl)
  unfold laws_szEntry.ans at h
  dsimp only at h
  split at h
  · cases k with
    | zero => cases h
    | succ k =>
      unfold Ans.val at h
      rw [← laws_szEntry.eq] at h
      exact answer_sound mixed Tryz.func68 _ _ _ (k + 1) (fun j _ => tab_sound (tab_cons (laws_szByteS.sound j) (tab_nil))) _ _ h
  · exact (Ans.no_val h).elim

/-! loop.example/g00790/laws.szEntryS -/
def laws_szEntryS.b {R : Type} (ret : Int → Option R) (j0 : Bool → (List T) → Int → Int → Option R) (k : Nat) (a0z : Bool) (a0 : List T) (a1 : Int) : Option R :=
  cond (decide ((RowKit.wrap64 (a1 - ((a0).length : Int))) < 0)) (ret (-1)) (j0 a0z a0 (RowKit.wrap64 (a1 - ((a0).length : Int))) 0)
def laws_szEntryS.l0b {R : Type} (ret : Int → Option R) (j0 : Bool → (List T) → Int → Int → Option R) (k : Nat) (x0z : Bool) (x0 : List T) (x1 : Int) (x5 : Int) : Option R :=
  cond (decide (x5 < ((x0).length : Int))) (cond (decide ((0 : Int) ≤ x5)) (cond (decide (x5 < ((x0).length : Int))) ((laws_szEntry.f k (((((x0).getD (x5).toNat .bad).cells.getD 0 .bad)).toInt) (((((x0).getD (x5).toNat .bad).cells.getD 1 .bad)).toInt) (((((x0).getD (x5).toNat .bad).cells.getD 2 .bad)).isNil) (((((x0).getD (x5).toNat .bad).cells.getD 2 .bad)).toNums) x1).bind fun t0 => cond (decide (t0 < 0)) (ret (-1)) (j0 x0z x0 t0 (RowKit.wrap64 (x5 + 1)))) (none)) (none)) (ret x1)
def laws_szEntryS.l0 : Nat → Bool → (List T) → Int → Int → Option Int
  | 0, _, _, _, _ => none
  | k + 1, x0z, x0, x1, x5 => laws_szEntryS.l0b some (laws_szEntryS.l0 k) k x0z x0 x1 x5
def laws_szEntryS.f : Nat → Bool → (List T) → Int → Option Int
  | 0, _, _, _ => none
  | k + 1, a0z, a0, a1 => laws_szEntryS.b some (laws_szEntryS.l0 k) k a0z a0 a1
def laws_szEntryS.enc (r : Int) : Res := ⟨[.vals false [((.int .i64 r), true)]], []⟩
def laws_szEntryS.ans (k : Nat) : List Arg → Ans
  | [.v (.sl 114 a0z a0), .v (.int .i64 a1)] => ⟨laws_szEntryS.f k a0z a0 a1, laws_szEntryS.enc⟩
  | _ => Ans.no
def laws_szEntryS.Cs (k : Nat) : CallSem := tab [(68, laws_szEntry.ans k)]
def laws_szEntryS.cuts : List (Nat × Keep) := [(122, ⟨[(0, some []), (1, some []), (5, some [])], []⟩)]
noncomputable def laws_szEntryS.K0 : List Fr := framesAt [true, true, true, false, true, false] (bodyOf Tryz.f46 laws_szEntryS.cuts) []
def laws_szEntryS.N0 (x0z : Bool) (x0 : List T) (x1 : Int) (x5 : Int) : St := stOf 27 27 2 [(0, .val ⟨(.sl 114 x0z x0), [], false, none⟩), (1, .val (V.s (.int .i64 x1))), (5, .val (V.s (.int .i64 x5)))] []
theorem laws_szEntryS.s (k : Nat) (a0z : Bool) (a0 : List T) (a1 : Int) : answer Tryz.prog laws_szEntryS.Cs 100000 laws_szEntryS.cuts [] Tryz.f46 (k + 1) [.v (.sl 114 a0z a0), .v (.int .i64 a1)] = laws_szEntryS.b (fun r => some (laws_szEntryS.enc r)) (fun x0z x0 x1 x5 => rounds Tryz.prog laws_szEntryS.Cs (finish Tryz.prog [] Tryz.f46 [.v (.sl 114 a0z a0), .v (.int .i64 a1)]) 100000 k laws_szEntryS.K0 (laws_szEntryS.N0 x0z x0 x1 x5)) k a0z a0 a1 := by kernel_rfl
theorem laws_szEntryS.s0 (k : Nat) (G : List Fr → St → Option Res) (a0z : Bool) (a0 : List T) (a1 : Int) (yx0z : Bool) (yx0 : List T) (yx1 : Int) (yx5 : Int) : resume Tryz.prog (laws_szEntryS.Cs k) G (finish Tryz.prog [] Tryz.f46 [.v (.sl 114 a0z a0), .v (.int .i64 a1)]) 100000 laws_szEntryS.K0 (laws_szEntryS.N0 yx0z yx0 yx1 yx5) = laws_szEntryS.l0b (fun r => some (laws_szEntryS.enc r)) (fun x0z x0 x1 x5 => G laws_szEntryS.K0 (laws_szEntryS.N0 x0z x0 x1 x5)) k yx0z yx0 yx1 yx5 := by kernel_rfl
theorem laws_szEntryS.b_nat {R R' : Type} (e : R → R') (ret : Int → Option R) (j0 : Bool → (List T) → Int → Int → Option R) (k : Nat) (a0z : Bool) (a0 : List T) (a1 : Int) : laws_szEntryS.b (fun r => (ret r).map e) (fun x0z x0 x1 x5 => (j0 x0z x0 x1 x5).map e) k a0z a0 a1 = (laws_szEntryS.b ret j0 k a0z a0 a1).map e := by
  unfold laws_szEntryS.b
  repeat' first | with_reducible refine nat_cond ?_ ?_ | with_reducible refine nat_bind fun _ => ?_ | rfl
theorem laws_szEntryS.l0b_nat {R R' : Type} (e : R → R') (ret : Int → Option R) (j0 : Bool → (List T) → Int → Int → Option R) (k : Nat) (x0z : Bool) (x0 : List T) (x1 : Int) (x5 : Int) : laws_szEntryS.l0b (fun r => (ret r).map e) (fun x0z x0 x1 x5 => (j0 x0z x0 x1 x5).map e) k x0z x0 x1 x5 = (laws_szEntryS.l0b ret j0 k x0z x0 x1 x5).map e := by
  unfold laws_szEntryS.l0b
  repeat' first | with_reducible refine nat_cond ?_ ?_ | with_reducible refine nat_bind fun _ => ?_ | rfl
theorem laws_szEntryS.rounds_eq (a0z : Bool) (a0 : List T) (a1 : Int) : ∀ k, (∀ (x0z : Bool) (x0 : List T) (x1 : Int) (x5 : Int), rounds Tryz.prog laws_szEntryS.Cs (finish Tryz.prog [] Tryz.f46 [.v (.sl 114 a0z a0), .v (.int .i64 a1)]) 100000 k laws_szEntryS.K0 (laws_szEntryS.N0 x0z x0 x1 x5) = (laws_szEntryS.l0 k x0z x0 x1 x5).map laws_szEntryS.enc)
  | 0 => fun _ _ _ _ => rfl
  | k + 1 => by
    have ih := laws_szEntryS.rounds_eq a0z a0 a1 k
    refine fun _ _ _ _ => ?_
    · refine (laws_szEntryS.s0 k _ a0z a0 a1 _ _ _ _).trans (Eq.trans ?_ (laws_szEntryS.l0b_nat laws_szEntryS.enc some (laws_szEntryS.l0 k) k _ _ _ _))
      simp only [ih, Option.map_some]
theorem laws_szEntryS.eq (k : Nat) (a0z : Bool) (a0 : List T) (a1 : Int) : answer Tryz.prog laws_szEntryS.Cs 100000 laws_szEntryS.cuts [] Tryz.f46 (k + 1) [.v (.sl 114 a0z a0), .v (.int .i64 a1)] = (laws_szEntryS.f (k + 1) a0z a0 a1).map laws_szEntryS.enc := by
  have ih := laws_szEntryS.rounds_eq a0z a0 a1 k
  refine (laws_szEntryS.s k a0z a0 a1).trans (Eq.trans ?_ (laws_szEntryS.b_nat laws_szEntryS.enc some (laws_szEntryS.l0 k) k a0z a0 a1))
  simp only [ih, Option.map_some]
theorem laws_szEntryS.sound (k : Nat) : SoundF Tryz.prog 46 (fun a => (laws_szEntryS.ans k a).val) := by
  refine sound_plain (fun args res h => ?_) (fun t n => rfl)
  unfold laws_szEntryS.ans at h
  dsimp only at h
  split at h
  · cases k with
    | zero => cases h
    | succ k =>
      unfold Ans.val at h
      rw [← laws_szEntryS.eq] at h
      exact answer_sound mixed Tryz.func46 _ _ _ (k + 1) (fun j _ => tab_sound (tab_cons (laws_szEntry.sound j) (tab_nil))) _ _ h
  · exact (Ans.no_val h).elim

/-! loop.example/g00790/laws.szTc -/
def laws_szTc.b {R : Type} (ret : Int → Option R) (k : Nat) (a0_0 : Int) (a0_1z : Bool) (a0_1 : List T) (a1 : Int) : Option R :=
  (laws_szEntryS.f k a0_1z a0_1 a1).bind fun t0 => cond (decide (t0 < 0)) (ret (-1)) (ret t0)
def laws_szTc.f : Nat → Int → Bool → (List T) → Int → Option Int
  | 0, _, _, _, _ => none
  | k + 1, a0_0, a0_1z, a0_1, a1 => laws_szTc.b some k a0_0 a0_1z a0_1 a1
def laws_szTc.enc (r : Int) : Res := ⟨[.vals false [((.int .i64 r), true)]], []⟩
def laws_szTc.ans (k : Nat) : List Arg → Ans
  | [.v (.agg [(.int .i64 a0_0), (.sl 114 a0_1z a0_1)]), .v (.int .i64 a1)] => ⟨laws_szTc.f k a0_0 a0_1z a0_1 a1, laws_szTc.enc⟩
  | _ => Ans.no
def laws_szTc.Cs (k : Nat) : CallSem := tab [(46, laws_szEntryS.ans k)]
def laws_szTc.cuts : List (Nat × Keep) := []
theorem laws_szTc.s (k : Nat) (a0_0 : Int) (a0_1z : Bool) (a0_1 : List T) (a1 : Int) : answer Tryz.prog laws_szTc.Cs 100000 laws_szTc.cuts [] Tryz.f13 (k + 1) [.v (.agg [(.int .i64 a0_0), (.sl 114 a0_1z a0_1)]), .v (.int .i64 a1)] = laws_szTc.b (fun r => some (laws_szTc.enc r)) k a0_0 a0_1z a0_1 a1 := by kernel_rfl
theorem laws_szTc.b_nat {R R' : Type} (e : R → R') (ret : Int → Option R) (k : Nat) (a0_0 : Int) (a0_1z : Bool) (a0_1 : List T) (a1 : Int) : laws_szTc.b (fun r => (ret r).map e) k a0_0 a0_1z a0_1 a1 = (laws_szTc.b ret k a0_0 a0_1z a0_1 a1).map e := by
  unfold laws_szTc.b
  repeat' first | with_reducible refine nat_cond ?_ ?_ | with_reducible refine nat_bind fun _ => ?_ | rfl
theorem laws_szTc.eq (k : Nat) (a0_0 : Int) (a0_1z : Bool) (a0_1 : List T) (a1 : Int) : answer Tryz.prog laws_szTc.Cs 100000 laws_szTc.cuts [] Tryz.f13 (k + 1) [.v (.agg [(.int .i64 a0_0), (.sl 114 a0_1z a0_1)]), .v (.int .i64 a1)] = (laws_szTc.f (k + 1) a0_0 a0_1z a0_1 a1).map laws_szTc.enc := by
  refine (laws_szTc.s k a0_0 a0_1z a0_1 a1).trans (Eq.trans ?_ (laws_szTc.b_nat laws_szTc.enc some k a0_0 a0_1z a0_1 a1))
  simp only [Option.map_some]
theorem laws_szTc.sound (k : Nat) : SoundF Tryz.prog 13 (fun a => (laws_szTc.ans k a).val) := by
  refine sound_plain (fun args res h => ?_) (fun t n => rfl)
  unfold laws_szTc.ans at h
  dsimp only at h
  split at h
  · cases k with
    | zero => cases h
    | succ k =>
      unfold Ans.val at h
      rw [← laws_szTc.eq] at h
      exact answer_sound mixed Tryz.func13 _ _ _ (k + 1) (fun j _ => tab_sound (tab_cons (laws_szEntryS.sound j) (tab_nil))) _ _ h
  · exact (Ans.no_val h).elim

/-! loop.example/g00790/laws.szHeadS -/
def laws_szHeadS.b {R : Type} (ret : Int → Option R) (j0 : Bool → (List T) → Int → Int → Option R) (k : Nat) (a0z : Bool) (a0 : List T) (a1 : Int) : Option R :=
  cond (decide ((RowKit.wrap64 (a1 - ((a0).length : Int))) < 0)) (ret (-1)) (j0 a0z a0 (RowKit.wrap64 (a1 - ((a0).length : Int))) 0)
def laws_szHeadS.l0b {R : Type} (ret : Int → Option R) (j0 : Bool → (List T) → Int → Int → Option R) (k : Nat) (x0z : Bool) (x0 : List T) (x1 : Int) (x5 : Int) : Option R :=
  cond (decide (x5 < ((x0).length : Int))) (cond (decide ((0 : Int) ≤ x5)) (cond (decide (x5 < ((x0).length : Int))) ((laws_szHead.f k (((((x0).getD (x5).toNat .bad).cells.getD 0 .bad)).toInt) (((((x0).getD (x5).toNat .bad).cells.getD 1 .bad)).toInt) (((((x0).getD (x5).toNat .bad).cells.getD 2 .bad)).toInt) (((((x0).getD (x5).toNat .bad).cells.getD 3 .bad)).isNil) (((((x0).getD (x5).toNat .bad).cells.getD 3 .bad)).toNums) (((((x0).getD (x5).toNat .bad).cells.getD 4 .bad)).isNil) (((((x0).getD (x5).toNat .bad).cells.getD 4 .bad)).toNums) (((((x0).getD (x5).toNat .bad).cells.getD 5 .bad)).toInt) (((((x0).getD (x5).toNat .bad).cells.getD 6 .bad)).toInt) (((((x0).getD (x5).toNat .bad).cells.getD 7 .bad)).isNil) (((((x0).getD (x5).toNat .bad).cells.getD 7 .bad)).toNums) (((((x0).getD (x5).toNat .bad).cells.getD 8 .bad)).isNil) (((((x0).getD (x5).toNat .bad).cells.getD 8 .bad)).toNums) (((((x0).getD (x5).toNat .bad).cells.getD 9 .bad)).isNil) (((((x0).getD (x5).toNat .bad).cells.getD 9 .bad)).toList) x1).bind fun t0 => cond (decide (t0 < 0)) (ret (-1)) (j0 x0z x0 t0 (RowKit.wrap64 (x5 + 1)))) (none)) (none)) (ret x1)
def laws_szHeadS.l0 : Nat → Bool → (List T) → Int → Int → Option Int
  | 0, _, _, _, _ => none
  | k + 1, x0z, x0, x1, x5 => laws_szHeadS.l0b some (laws_szHeadS.l0 k) k x0z x0 x1 x5
def laws_szHeadS.f : Nat → Bool → (List T) → Int → Option Int
  | 0, _, _, _ => none
  | k + 1, a0z, a0, a1 => laws_szHeadS.b some (laws_szHeadS.l0 k) k a0z a0 a1
def laws_szHeadS.enc (r : Int) : Res := ⟨[.vals false [((.int .i64 r), true)]], []⟩
def laws_szHeadS.ans (k : Nat) : List Arg → Ans
  | [.v (.sl 29 a0z a0), .v (.int .i64 a1)] => ⟨laws_szHeadS.f k a0z a0 a1, laws_szHeadS.enc⟩
  | _ => Ans.no
def laws_szHeadS.Cs (k : Nat) : CallSem := tab [(11, laws_szHead.ans k)]
def laws_szHeadS.cuts : List (Nat × Keep) := [(122, ⟨[(0, some []), (1, some []), (5, some [])], []⟩)]
noncomputable def laws_szHeadS.K0 : List Fr := framesAt [true, true, true, false, true, false] (bodyOf Tryz.f47 laws_szHeadS.cuts) []
def laws_szHeadS.N0 (x0z : Bool) (x0 : List T) (x1 : Int) (x5 : Int) : St := stOf 27 27 2 [(0, .val ⟨(.sl 29 x0z x0), [], false, none⟩), (1, .val (V.s (.int .i64 x1))), (5, .val (V.s (.int .i64 x5)))] []
theorem laws_szHeadS.s (k : Nat) (a0z : Bool) (a0 : List T) (a1 : Int) : answer Tryz.prog laws_szHeadS.Cs 100000 laws_szHeadS.cuts [] Tryz.f47 (k + 1) [.v (.sl 29 a0z a0), .v (.int .i64 a1)] = laws_szHeadS.b (fun r => some (laws_szHeadS.enc r)) (fun x0z x0 x1 x5 => rounds Tryz.prog laws_szHeadS.Cs (finish Tryz.prog [] Tryz.f47 [.v (.sl 29 a0z a0), .v (.int .i64 a1)]) 100000 k laws_szHeadS.K0 (laws_szHeadS.N0 x0z x0 x1 x5)) k a0z a0 a1 := by kernel_rfl
theorem laws_szHeadS.s0 (k : Nat) (G : List Fr → St → Option Res) (a0z : Bool) (a0 : List T) (a1 : Int) (yx0z : Bool) (yx0 : List T) (yx1 : Int) (yx5 : Int) : resume Tryz.prog (laws_szHeadS.Cs k) G (finish Tryz.prog [] Tryz.f47 [.v (.sl 29 a0z a0), .v (.int .i64 a1)]) 100000 laws_szHeadS.K0 (laws_szHeadS.N0 yx0z yx0 yx1 yx5) = laws_szHeadS.l0b (fun r => some (laws_szHeadS.enc r)) (fun x0z x0 x1 x5 => G laws_szHeadS.K0 (laws_szHeadS.N0 x0z x0 x1 x5)) k yx0z yx0 yx1 yx5 := by kernel_rfl
theorem laws_szHeadS.b_nat {R R' : Type} (e : R → R') (ret : Int → Option R) (j0 : Bool → (List T) → Int → Int → Option R) (k : Nat) (a0z : Bool) (a0 : List T) (a1 : Int) : laws_szHeadS.b (fun r => (ret r).map e) (fun x0z x0 x1 x5 => (j0 x0z x0 x1 x5).map e) k a0z a0 a1 = (laws_szHeadS.b ret j0 k a0z a0 a1).map e := by
  unfold laws_szHeadS.b
  repeat' first | with_reducible refine nat_cond ?_ ?_ | with_reducible refine nat_bind fun _ => ?_ | rfl
theorem laws_szHeadS.l0b_nat {R R' : Type} (e : R → R') (ret : Int → Option R) (j0 : Bool → (List T) → Int → Int → Option R) (k : Nat) (x0z : Bool) (x0 : List T) (x1 : Int) (x5 : Int) : laws_szHeadS.l0b (fun r => (ret r).map e) (fun x0z x0 x1 x5 => (j0 x0z x0 x1 x5).map e) k x0z x0 x1 x5 = (laws_szHeadS.l0b ret j0 k x0z x0 x1 x5).map e := by
  unfold laws_szHeadS.l0b
  repeat' first | with_reducible refine nat_cond ?_ ?_ | with_reducible refine nat_bind fun _ => ?_ | rfl
theorem laws_szHeadS.rounds_eq (a0z : Bool) (a0 : List T) (a1 : Int) : ∀ k, (∀ (x0z : Bool) (x0 : List T) (x1 : Int) (x5 : Int), rounds Tryz.prog laws_szHeadS.Cs (finish Tryz.prog [] Tryz.f47 [.v (.sl 29 a0z a0), .v (.int .i64 a1)]) 100000 k laws_szHeadS.K0 (laws_szHeadS.N0 x0z x0 x1 x5) = (laws_szHeadS.l0 k x0z x0 x1 x5).map laws_szHeadS.enc)
  | 0 => fun _ _ _ _ => rfl
  | k + 1 => by
    have ih := laws_szHeadS.rounds_eq a0z a0 a1 k
    refine fun _ _ _ _ => ?_
    · refine (laws_szHeadS.s0 k _ a0z a0 a1 _ _ _ _).trans (Eq.trans ?_ (laws_szHeadS.l0b_nat laws_szHeadS.enc some (laws_szHeadS.l0 k) k _ _ _ _))
      simp only [ih, Option.map_some]
theorem laws_szHeadS.eq (k : Nat) (a0z : Bool) (a0 : List T) (a1 : Int) : answer Tryz.prog laws_szHeadS.Cs 100000 laws_szHeadS.cuts [] Tryz.f47 (k + 1) [.v (.sl 29 a0z a0), .v (.int .i64 a1)] = (laws_szHeadS.f (k + 1) a0z a0 a1).map laws_szHeadS.enc := by
  have ih := laws_szHeadS.rounds_eq a0z a0 a1 k
  refine (laws_szHeadS.s k a0z a0 a1).trans (Eq.trans ?_ (laws_szHeadS.b_nat laws_szHeadS.enc some (laws_szHeadS.l0 k) k a0z a0 a1))
  simp only [ih, Option.map_some]
theorem laws_szHeadS.sound (k : Nat) : SoundF Tryz.prog 47 (fun a => (laws_szHeadS.ans k a).val) := by
  refine sound_plain (fun args res h => ?_) (fun t n => rfl)
  unfold laws_szHeadS.ans at h
  dsimp only at h
  split at h
  · cases k with
    | zero => cases h
    | succ k =>
      unfold Ans.val at h
      rw [← laws_szHeadS.eq] at h
      exact answer_sound mixed Tryz.func47 _ _ _ (k + 1) (fun j _ => tab_sound (tab_cons (laws_szHead.sound j) (tab_nil))) _ _ h
  · exact (Ans.no_val h).elim

/-! loop.example/g00790/laws.szProof -/
def laws_szProof.b {R : Type} (ret : Int → Option R) (k : Nat) (a0_0z : Bool) (a0_0 : List T) (a0_1 : Int) (a0_2 : Int) (a0_3z : Bool) (a0_3 : List Int) (a0_4z : Bool) (a0_4 : List Int) (a0_5z : Bool) (a0_5 : List T) (a1 : Int) : Option R :=
  (laws_szHeadS.f k a0_0z a0_0 a1).bind fun t0 => cond (decide (t0 < 0)) (ret (-1)) ((laws_szQc.f k a0_1 a0_2 a0_3z a0_3 a0_4z a0_4 a0_5z a0_5 t0).bind fun t1 => cond (decide (t1 < 0)) (ret (-1)) (ret t1))
def laws_szProof.f : Nat → Bool → (List T) → Int → Int → Bool → (List Int) → Bool → (List Int) → Bool → (List T) → Int → Option Int
  | 0, _, _, _, _, _, _, _, _, _, _, _ => none
  | k + 1, a0_0z, a0_0, a0_1, a0_2, a0_3z, a0_3, a0_4z, a0_4, a0_5z, a0_5, a1 => laws_szProof.b some k a0_0z a0_0 a0_1 a0_2 a0_3z a0_3 a0_4z a0_4 a0_5z a0_5 a1
def laws_szProof.enc (r : Int) : Res := ⟨[.vals false [((.int .i64 r), true)]], []⟩
def laws_szProof.ans (k : Nat) : List Arg → Ans
  | [.v (.agg [(.sl 29 a0_0z a0_0), (.int .i64 a0_1), (.int .i64 a0_2), (.nums 5 .u8 a0_3z a0_3), (.nums 5 .u8 a0_4z a0_4), (.sl 22 a0_5z a0_5)]), .v (.int .i64 a1)] => ⟨laws_szProof.f k a0_0z a0_0 a0_1 a0_2 a0_3z a0_3 a0_4z a0_4 a0_5z a0_5 a1, laws_szProof.enc⟩
  | _ => Ans.no
def laws_szProof.Cs (k : Nat) : CallSem := tab [(10, laws_szQc.ans k), (47, laws_szHeadS.ans k)]
def laws_szProof.cuts : List (Nat × Keep) := []
theorem laws_szProof.s (k : Nat) (a0_0z : Bool) (a0_0 : List T) (a0_1 : Int) (a0_2 : Int) (a0_3z : Bool) (a0_3 : List Int) (a0_4z : Bool) (a0_4 : List Int) (a0_5z : Bool) (a0_5 : List T) (a1 : Int) : answer Tryz.prog laws_szProof.Cs 100000 laws_szProof.cuts [] Tryz.f14 (k + 1) [.v (.agg [(.sl 29 a0_0z a0_0), (.int .i64 a0_1), (.int .i64 a0_2), (.nums 5 .u8 a0_3z a0_3), (.nums 5 .u8 a0_4z a0_4), (.sl 22 a0_5z a0_5)]), .v (.int .i64 a1)] = laws_szProof.b (fun r => some (laws_szProof.enc r)) k a0_0z a0_0 a0_1 a0_2 a0_3z a0_3 a0_4z a0_4 a0_5z a0_5 a1 := by kernel_rfl
theorem laws_szProof.b_nat {R R' : Type} (e : R → R') (ret : Int → Option R) (k : Nat) (a0_0z : Bool) (a0_0 : List T) (a0_1 : Int) (a0_2 : Int) (a0_3z : Bool) (a0_3 : List Int) (a0_4z : Bool) (a0_4 : List Int) (a0_5z : Bool) (a0_5 : List T) (a1 : Int) : laws_szProof.b (fun r => (ret r).map e) k a0_0z a0_0 a0_1 a0_2 a0_3z a0_3 a0_4z a0_4 a0_5z a0_5 a1 = (laws_szProof.b ret k a0_0z a0_0 a0_1 a0_2 a0_3z a0_3 a0_4z a0_4 a0_5z a0_5 a1).map e := by
  unfold laws_szProof.b
  repeat' first | with_reducible refine nat_cond ?_ ?_ | with_reducible refine nat_bind fun _ => ?_ | rfl
theorem laws_szProof.eq (k : Nat) (a0_0z : Bool) (a0_0 : List T) (a0_1 : Int) (a0_2 : Int) (a0_3z : Bool) (a0_3 : List Int) (a0_4z : Bool) (a0_4 : List Int) (a0_5z : Bool) (a0_5 : List T) (a1 : Int) : answer Tryz.prog laws_szProof.Cs 100000 laws_szProof.cuts [] Tryz.f14 (k + 1) [.v (.agg [(.sl 29 a0_0z a0_0), (.int .i64 a0_1), (.int .i64 a0_2), (.nums 5 .u8 a0_3z a0_3), (.nums 5 .u8 a0_4z a0_4), (.sl 22 a0_5z a0_5)]), .v (.int .i64 a1)] = (laws_szProof.f (k + 1) a0_0z a0_0 a0_1 a0_2 a0_3z a0_3 a0_4z a0_4 a0_5z a0_5 a1).map laws_szProof.enc := by
  refine (laws_szProof.s k a0_0z a0_0 a0_1 a0_2 a0_3z a0_3 a0_4z a0_4 a0_5z a0_5 a1).trans (Eq.trans ?_ (laws_szProof.b_nat laws_szProof.enc some k a0_0z a0_0 a0_1 a0_2 a0_3z a0_3 a0_4z a0_4 a0_5z a0_5 a1))
  simp only [Option.map_some]
theorem laws_szProof.sound (k : Nat) : SoundF Tryz.prog 14 (fun a => (laws_szProof.ans k a).val) := by
  refine sound_plain (fun args res h => ?_) (fun t n => rfl)
  unfold laws_szProof.ans at h
  dsimp only at h
  split at h
  · cases k with
    | zero => cases h
    | succ k =>
      unfold Ans.val at h
      rw [← laws_szProof.eq] at h
      exact answer_sound mixed Tryz.func14 _ _ _ (k + 1) (fun j _ => tab_sound (tab_cons (laws_szQc.sound j) (tab_cons (laws_szHeadS.sound j) (tab_nil)))) _ _ h
  · exact (Ans.no_val h).elim

/-! loop.example/g00790/laws.szIncl -/
def laws_szIncl.b {R : Type} (ret : Int → Option R) (k : Nat) (a0_0 : Int) (a0_1 : Int) (a0_2 : Int) (a0_3z : Bool) (a0_3 : List Int) (a0_4z : Bool) (a0_4 : List T) (a1 : Int) : Option R :=
  (laws_szByteS.f k a0_3z a0_3 a1).bind fun t0 => cond (decide (t0 < 0)) (ret (-1)) ((laws_szByteSS.f k a0_4z a0_4 t0).bind fun t1 => cond (decide (t1 < 0)) (ret (-1)) (ret t1))
def laws_szIncl.f : Nat → Int → Int → Int → Bool → (List Int) → Bool → (List T) → Int → Option Int
  | 0, _, _, _, _, _, _, _, _ => none
  | k + 1, a0_0, a0_1, a0_2, a0_3z, a0_3, a0_4z, a0_4, a1 => laws_szIncl.b some k a0_0 a0_1 a0_2 a0_3z a0_3 a0_4z a0_4 a1
def laws_szIncl.enc (r : Int) : Res := ⟨[.vals false [((.int .i64 r), true)]], []⟩
def laws_szIncl.ans (k : Nat) : List Arg → Ans
  | [.v (.agg [(.int .i64 a0_0), (.int .i64 a0_1), (.int .i64 a0_2), (.nums 5 .u8 a0_3z a0_3), (.sl 22 a0_4z a0_4)]), .v (.int .i64 a1)] => ⟨laws_szIncl.f k a0_0 a0_1 a0_2 a0_3z a0_3 a0_4z a0_4 a1, laws_szIncl.enc⟩
  | _ => Ans.no
def laws_szIncl.Cs (k : Nat) : CallSem := tab [(44, laws_szByteS.ans k), (45, laws_szByteSS.ans k)]
def laws_szIncl.cuts : List (Nat × Keep) := []
theorem laws_szIncl.s (k : Nat) (a0_0 : Int) (a0_1 : Int) (a0_2 : Int) (a0_3z : Bool) (a0_3 : List Int) (a0_4z : Bool) (a0_4 : List T) (a1 : Int) : answer Tryz.prog laws_szIncl.Cs 100000 laws_szIncl.cuts [] Tryz.f15 (k + 1) [.v (.agg [(.int .i64 a0_0), (.int .i64 a0_1), (.int .i64 a0_2), (.nums 5 .u8 a0_3z a0_3), (.sl 22 a0_4z a0_4)]), .v (.int .i64 a1)] = laws_szIncl.b (fun r => some (laws_szIncl.enc r)) k a0_0 a0_1 a0_2 a0_3z a0_3 a0_4z a0_4 a1 := by kernel_rfl
theorem laws_szIncl.b_nat {R R' : Type} (e : R → R') (ret : Int → Option R) (k : Nat) (a0_0 : Int) (a0_1 : Int) (a0_2 : Int) (a0_3z : Bool) (a0_3 : List Int) (a0_4z : Bool) (a0_4 : List T) (a1 : Int) : laws_szIncl.b (fun r => (ret r).map e) k a0_0 a0_1 a0_2 a0_3z a0_3 a0_4z a0_4 a1 = (laws_szIncl.b ret k a0_0 a0_1 a0_2 a0_3z a0_3 a0_4z a0_4 a1).map e := by
  unfold laws_szIncl.b
  repeat' first | with_reducible refine nat_cond ?_ ?_ | with_reducible refine nat_bind fun _ => ?_ | rfl
theorem laws_szIncl.eq (k : Nat) (a0_0 : Int) (a0_1 : Int) (a0_2 : Int) (a0_3z : Bool) (a0_3 : List Int) (a0_4z : Bool) (a0_4 : List T) (a1 : Int) : answer Tryz.prog laws_szIncl.Cs 100000 laws_szIncl.cuts [] Tryz.f15 (k + 1) [.v (.agg [(.int .i64 a0_0), (.int .i64 a0_1), (.int .i64 a0_2), (.nums 5 .u8 a0_3z a0_3), (.sl 22 a0_4z a0_4)]), .v (.int .i64 a1)] = (laws_szIncl.f (k + 1) a0_0 a0_1 a0_2 a0_3z a0_3 a0_4z a0_4 a1).map laws_szIncl.enc := by
  refine (laws_szIncl.s k a0_0 a0_1 a0_2 a0_3z a0_3 a0_4z a0_4 a1).trans (Eq.trans ?_ (laws_szIncl.b_nat laws_szIncl.enc some k a0_0 a0_1 a0_2 a0_3z a0_3 a0_4z a0_4 a1))
  simp only [Option.map_some]
theorem laws_szIncl.sound (k : Nat) : SoundF Tryz.prog 15 (fun a => (laws_szIncl.ans k a).val) := by
  refine sound_plain (fun args res h => ?_) (fun t n => rfl)
  unfold laws_szIncl.ans at h
  dsimp only at h
  split at h
  · cases k with
    | zero => cases h
    | succ k =>
      unfold Ans.val at h
      rw [← laws_szIncl.eq] at h
      exact answer_sound mixed Tryz.func15 _ _ _ (k + 1) (fun j _ => tab_sound (tab_cons (laws_szByteS.sound j) (tab_cons (laws_szByteSS.sound j) (tab_nil)))) _ _ h
  · exact (Ans.no_val h).elim

/-! loop.example/g00790/laws.szMsg -/
def laws_szMsg.b {R : Type} (ret : Int → Option R) (k : Nat) (a0_0 : Int) (a0_1 : Int) (a0_2 : Int) (a0_3z : Bool) (a0_3 : List Int) (a0_4 : Int) (a0_5z : Bool) (a0_5 : List Int) (a0_6 : Int) (a0_7 : Int) (a0_8z : Bool) (a0_8 : List Int) (a0_9z : Bool) (a0_9 : List Int) (a0_10z : Bool) (a0_10 : List T) (a0_11 : Int) (a0_12 : Int) (a0_13 : Int) (a0_14z : Bool) (a0_14 : List Int) (a0_15z : Bool) (a0_15 : List Int) (a0_16 : Int) (a0_17 : Int) (a0_18z : Bool) (a0_18 : List Int) (a0_19z : Bool) (a0_19 : List Int) (a0_20z : Bool) (a0_20 : List T) (a0_21 : Int) (a0_22 : Int) (a0_23 : Int) (a0_24z : Bool) (a0_24 : List Int) (a0_25z : Bool) (a0_25 : List Int) (a0_26 : Int) (a0_27 : Int) (a0_28z : Bool) (a0_28 : List Int) (a0_29z : Bool) (a0_29 : List Int) (a0_30z : Bool) (a0_30 : List T) (a0_31z : Bool) (a0_31 : List T) (a0_32 : Int) (a0_33z : Bool) (a0_33 : List T) (a0_34z : Bool) (a0_34 : List T) (a0_35 : Int) (a0_36 : Int) (a0_37z : Bool) (a0_37 : List Int) (a0_38z : Bool) (a0_38 : List Int) (a0_39z : Bool) (a0_39 : List T) (a0_40 : Int) (a0_41 : Int) (a0_42 : Int) (a0_43z : Bool) (a0_43 : List Int) (a0_44z : Bool) (a0_44 : List T) (a1 : Int) : Option R :=
  (laws_szVote.f k a0_1 a0_2 a0_3z a0_3 a0_4 a0_5z a0_5 a1).bind fun t0 => cond (decide (t0 < 0)) (ret (-1)) ((laws_szQc.f k a0_6 a0_7 a0_8z a0_8 a0_9z a0_9 a0_10z a0_10 t0).bind fun t1 => cond (decide (t1 < 0)) (ret (-1)) ((laws_szHead.f k a0_11 a0_12 a0_13 a0_14z a0_14 a0_15z a0_15 a0_16 a0_17 a0_18z a0_18 a0_19z a0_19 a0_20z a0_20 t1).bind fun t2 => cond (decide (t2 < 0)) (ret (-1)) ((laws_szBlock.f k a0_21 a0_22 a0_23 a0_24z a0_24 a0_25z a0_25 a0_26 a0_27 a0_28z a0_28 a0_29z a0_29 a0_30z a0_30 a0_31z a0_31 t2).bind fun t3 => cond (decide (t3 < 0)) (ret (-1)) ((laws_szTc.f k a0_32 a0_33z a0_33 t3).bind fun t4 => cond (decide (t4 < 0)) (ret (-1)) ((laws_szProof.f k a0_34z a0_34 a0_35 a0_36 a0_37z a0_37 a0_38z a0_38 a0_39z a0_39 t4).bind fun t5 => cond (decide (t5 < 0)) (ret (-1)) ((laws_szIncl.f k a0_40 a0_41 a0_42 a0_43z a0_43 a0_44z a0_44 t5).bind fun t6 => cond (decide (t6 < 0)) (ret (-1)) (ret t6)))))))
def laws_szMsg.f : Nat → Int → Int → Int → Bool → (List Int) → Int → Bool → (List Int) → Int → Int → Bool → (List Int) → Bool → (List Int) → Bool → (List T) → Int → Int → Int → Bool → (List Int) → Bool → (List Int) → Int → Int → Bool → (List Int) → Bool → (List Int) → Bool → (List T) → Int → Int → Int → Bool → (List Int) → Bool → (List Int) → Int → Int → Bool → (List Int) → Bool → (List Int) → Bool → (List T) → Bool → (List T) → Int → Bool → (List T) → Bool → (List T) → Int → Int → Bool → (List Int) → Bool → (List Int) → Bool → (List T) → Int → Int → Int → Bool → (List Int) → Bool → (List T) → Int → Option Int
  | 0, _, _, _, _, _, _, _, _, _, _, _, _, _, _, _, _, _, _, _, _, _, _, _, _, _, _, _, _, _, _, _, _, _, _, _, _, _, _, _, _, _, _, _, _, _, _, _, _, _, _, _, _, _, _, _, _, _, _, _, _, _, _, _, _, _, _, _, _, _ => none
  | k + 1, a0_0, a0_1, a0_2, a0_3z, a0_3, a0_4, a0_5z, a0_5, a0_6, a0_7, a0_8z, a0_8, a0_9z, a0_9, a0_10z, a0_10, a0_11, a0_12, a0_13, a0_14z, a0_14, a0_15z, a0_15, a0_16, a0_17, a0_18z, a0_18, a0_19z, a0_19, a0_20z, a0_20, a0_21, a0_22, a0_23, a0_24z, a0_24, a0_25z, a0_25, a0_26, a0_27, a0_28z, a0_28, a0_29z, a0_29, a0_30z, a0_30, a0_31z, a0_31, a0_32, a0_33z, a0_33, a0_34z, a0_34, a0_35, a0_36, a0_37z, a0_37, a0_38z, a0_38, a0_39z, a0_39, a0_40, a0_41, a0_42, a0_43z, a0_43, a0_44z, a0_44, a1 => laws_szMsg.b some k a0_0 a0_1 a0_2 a0_3z a0_3 a0_4 a0_5z a0_5 a0_6 a0_7 a0_8z a0_8 a0_9z a0_9 a0_10z a0_10 a0_11 a0_12 a0_13 a0_14z a0_14 a0_15z a0_15 a0_16 a0_17 a0_18z a0_18 a0_19z a0_19 a0_20z a0_20 a0_21 a0_22 a0_23 a0_24z a0_24 a0_25z a0_25 a0_26 a0_27 a0_28z a0_28 a0_29z a0_29 a0_30z a0_30 a0_31z a0_31 a0_32 a0_33z a0_33 a0_34z a0_34 a0_35 a0_36 a0_37z a0_37 a0_38z a0_38 a0_39z a0_39 a0_40 a0_41 a0_42 a0_43z a0_43 a0_44z a0_44 a1
def laws_szMsg.enc (r : Int) : Res := ⟨[.vals false [((.int .i64 r), true)]], []⟩
def laws_szMsg.ans (k : Nat) : List Arg → Ans
  | [.v (.agg l0), .v (.int .i64 a1)] => (takeI l0 fun a0_0 l0 => (takeI l0 fun a0_1 l0 => (takeI l0 fun a0_2 l0 => (takeN 5 l0 fun a0_3z a0_3 l0 => (takeI l0 fun a0_4 l0 => (takeN 5 l0 fun a0_5z a0_5 l0 => (takeI l0 fun a0_6 l0 => (takeI l0 fun a0_7 l0 => (takeN 5 l0 fun a0_8z a0_8 l0 => (takeN 5 l0 fun a0_9z a0_9 l0 => (takeS 22 l0 fun a0_10z a0_10 l0 => (takeI l0 fun a0_11 l0 => (takeI l0 fun a0_12 l0 => (takeI l0 fun a0_13 l0 => (takeN 5 l0 fun a0_14z a0_14 l0 => (takeN 5 l0 fun a0_15z a0_15 l0 => (takeI l0 fun a0_16 l0 => (takeI l0 fun a0_17 l0 => (takeN 5 l0 fun a0_18z a0_18 l0 => (takeN 5 l0 fun a0_19z a0_19 l0 => (takeS 22 l0 fun a0_20z a0_20 l0 => (takeI l0 fun a0_21 l0 => (takeI l0 fun a0_22 l0 => (takeI l0 fun a0_23 l0 => (takeN 5 l0 fun a0_24z a0_24 l0 => (takeN 5 l0 fun a0_25z a0_25 l0 => (takeI l0 fun a0_26 l0 => (takeI l0 fun a0_27 l0 => (takeN 5 l0 fun a0_28z a0_28 l0 => (takeN 5 l0 fun a0_29z a0_29 l0 => (takeS 22 l0 fun a0_30z a0_30 l0 => (takeS 22 l0 fun a0_31z a0_31 l0 => (takeI l0 fun a0_32 l0 => (takeS 114 l0 fun a0_33z a0_33 l0 => (takeS 29 l0 fun a0_34z a0_34 l0 => (takeI l0 fun a0_35 l0 => (takeI l0 fun a0_36 l0 => (takeN 5 l0 fun a0_37z a0_37 l0 => (takeN 5 l0 fun a0_38z a0_38 l0 => (takeS 22 l0 fun a0_39z a0_39 l0 => (takeI l0 fun a0_40 l0 => (takeI l0 fun a0_41 l0 => (takeI l0 fun a0_42 l0 => (takeN 5 l0 fun a0_43z a0_43 l0 => (takeS 22 l0 fun a0_44z a0_44 l0 => (takeE l0 ⟨laws_szMsg.f k a0_0 a0_1 a0_2 a0_3z a0_3 a0_4 a0_5z a0_5 a0_6 a0_7 a0_8z a0_8 a0_9z a0_9 a0_10z a0_10 a0_11 a0_12 a0_13 a0_14z a0_14 a0_15z a0_15 a0_16 a0_17 a0_18z a0_18 a0_19z a0_19 a0_20z a0_20 a0_21 a0_22 a0_23 a0_24z a0_24 a0_25z a0_25 a0_26 a0_27 a0_28z a0_28 a0_29z a0_29 a0_30z a0_30 a0_31z a0_31 a0_32 a0_33z a0_33 a0_34z a0_34 a0_35 a0_36 a0_37z a0_37 a0_38z a0_38 a0_39z a0_39 a0_40 a0_41 a0_42 a0_43z a0_43 a0_44z a0_44 a1, laws_szMsg.enc⟩))))))))))))))))))))))))))))))))))))))))))))))
  | _ => Ans.no
def laws_szMsg.Cs (k : Nat) : CallSem := tab [(9, laws_szVote.ans k), (10, laws_szQc.ans k), (11, laws_szHead.ans k), (12, laws_szBlock.ans k), (13, laws_szTc.ans k), (14, laws_szProof.ans k), (15, laws_szIncl.ans k)]
def laws_szMsg.cuts : List (Nat × Keep) := []
theorem laws_szMsg.s (k : Nat) (a0_0 : Int) (a0_1 : Int) (a0_2 : Int) (a0_3z : Bool) (a0_3 : List Int) (a0_4 : Int) (a0_5z : Bool) (a0_5 : List Int) (a0_6 : Int) (a0_7 : Int) (a0_8z : Bool) (a0_8 : List Int) (a0_9z : Bool) (a0_9 : List Int) (a0_10z : Bool) (a0_10 : List T) (a0_11 : Int) (a0_12 : Int) (a0_13 : Int) (a0_14z : Bool) (a0_14 : List Int) (a0_15z : Bool) (a0_15 : List Int) (a0_16 : Int) (a0_17 : Int) (a0_18z : Bool) (a0_18 : List Int) (a0_19z : Bool) (a0_19 : List Int) (a0_20z : Bool) (a0_20 : List T) (a0_21 : Int) (a0_22 : Int) (a0_23 : Int) (a0_24z : Bool) (a0_24 : List Int) (a0_25z : Bool) (a0_25 : List Int) (a0_26 : Int) (a0_27 : Int) (a0_28z : Bool) (a0_28 : List Int) (a0_29z : Bool) (a0_29 : List Int) (a0_30z : Bool) (a0_30 : List T) (a0_31z : Bool) (a0_31 : List T) (a0_32 : Int) (a0_33z : Bool) (a0_33 : List T) (a0_34z : Bool) (a0_34 : List T) (a0_35 : Int) (a0_36 : Int) (a0_37z : Bool) (a0_37 : List Int) (a0_38z : Bool) (a0_38 : List Int) (a0_39z : Bool) (a0_39 : List T) (a0_40 : Int) (a0_41 : Int) (a0_42 : Int) (a0_43z : Bool) (a0_43 : List Int) (a0_44z : Bool) (a0_44 : List T) (a1 : Int) : answer Tryz.prog laws_szMsg.Cs 100000 laws_szMsg.cuts [] Tryz.f4 (k + 1) [.v (.agg ((.int .i64 a0_0) :: (.int .i64 a0_1) :: (.int .i64 a0_2) :: (.nums 5 .u8 a0_3z a0_3) :: (.int .i64 a0_4) :: (.nums 5 .u8 a0_5z a0_5) :: (.int .i64 a0_6) :: (.int .i64 a0_7) :: (.nums 5 .u8 a0_8z a0_8) :: (.nums 5 .u8 a0_9z a0_9) :: (.sl 22 a0_10z a0_10) :: (.int .i64 a0_11) :: (.int .i64 a0_12) :: (.int .i64 a0_13) :: (.nums 5 .u8 a0_14z a0_14) :: (.nums 5 .u8 a0_15z a0_15) :: (.int .i64 a0_16) :: (.int .i64 a0_17) :: (.nums 5 .u8 a0_18z a0_18) :: (.nums 5 .u8 a0_19z a0_19) :: (.sl 22 a0_20z a0_20) :: (.int .i64 a0_21) :: (.int .i64 a0_22) :: (.int .i64 a0_23) :: (.nums 5 .u8 a0_24z a0_24) :: (.nums 5 .u8 a0_25z a0_25) :: (.int .i64 a0_26) :: (.int .i64 a0_27) :: (.nums 5 .u8 a0_28z a0_28) :: (.nums 5 .u8 a0_29z a0_29) :: (.sl 22 a0_30z a0_30) :: (.sl 22 a0_31z a0_31) :: (.int .i64 a0_32) :: (.sl 114 a0_33z a0_33) :: (.sl 29 a0_34z a0_34) :: (.int .i64 a0_35) :: (.int .i64 a0_36) :: (.nums 5 .u8 a0_37z a0_37) :: (.nums 5 .u8 a0_38z a0_38) :: (.sl 22 a0_39z a0_39) :: (.int .i64 a0_40) :: (.int .i64 a0_41) :: (.int .i64 a0_42) :: (.nums 5 .u8 a0_43z a0_43) :: (.sl 22 a0_44z a0_44) :: [])), .v (.int .i64 a1)] = laws_szMsg.b (fun r => some (laws_szMsg.enc r)) k a0_0 a0_1 a0_2 a0_3z a0_3 a0_4 a0_5z a0_5 a0_6 a0_7 a0_8z a0_8 a0_9z a0_9 a0_10z a0_10 a0_11 a0_12 a0_13 a0_14z a0_14 a0_15z a0_15 a0_16 a0_17 a0_18z a0_18 a0_19z a0_19 a0_20z a0_20 a0_21 a0_22 a0_23 a0_24z a0_24 a0_25z a0_25 a0_26 a0_27 a0_28z a0_28 a0_29z a0_29 a0_30z a0_30 a0_31z a0_31 a0_32 a0_33z a0_33 a0_34z a0_34 a0_35 a0_36 a0_37z a0_37 a0_38z a0_38 a0_39z a0_39 a0_40 a0_41 a0_42 a0_43z a0_43 a0_44z a0_44 a1 := by kernel_rfl
theorem laws_szMsg.b_nat {R R' : Type} (e : R → R') (ret : Int → Option R) (k : Nat) (a0_0 : Int) (a0_1 : Int) (a0_2 : Int) (a0_3z : Bool) (a0_3 : List Int) (a0_4 : Int) (a0_5z : Bool) (a0_5 : List Int) (a0_6 : Int) (a0_7 : Int) (a0_8z : Bool) (a0_8 : List Int) (a0_9z : Bool) (a0_9 : List Int) (a0_10z : Bool) (a0_10 : List T) (a0_11 : Int) (a0_12 : Int) (a0_13 : Int) (a0_14z : Bool) (a0_14 : List Int) (a0_15z : Bool) (a0_15 : List Int) (a0_16 : Int) (a0_17 : Int) (a0_18z : Bool) (a0_18 : List Int) (a0_19z : Bool) (a0_19 : List Int) (a0_20z : Bool) (a0_20 : List T) (a0_21 : Int) (a0_22 : Int) (a0_23 : Int) (a0_24z : Bool) (a0_24 : List Int) (a0_25z : Bool) (a0_25 : List Int) (a0_26 : Int) (a0_27 : Int) (a0_28z : Bool) (a0_28 : List Int) (a0_29z : Bool) (a0_29 : List Int) (a0_30z : Bool) (a0_30 : List T) (a0_31z : Bool) (a0_31 : List T) (a0_32 : Int) (a0_33z : Bool) (a0_33 : List T) (a0_34z : Bool) (a0_34 : List T) (a0_35 : Int) (a0_36 : Int) (a0_37z : Bool) (a0_37 : List Int) (a0_38z : Bool) (a0_38 : List Int) (a0_39z : Bool) (a0_39 : List T) (a0_40 : Int) (a0_41 : Int) (a0_42 : Int) (a0_43z : Bool) (a0_43 : List Int) (a0_44z : Bool) (a0_44 : List T) (a1 : Int) : laws_szMsg.b (fun r => (ret r).map e) k a0_0 a0_1 a0_2 a0_3z a0_3 a0_4 a0_5z a0_5 a0_6 a0_7 a0_8z a0_8 a0_9z a0_9 a0_10z a0_10 a0_11 a0_12 a0_13 a0_14z a0_14 a0_15z a0_15 a0_16 a0_17 a0_18z a0_18 a0_19z a0_19 a0_20z a0_20 a0_21 a0_22 a0_23 a0_24z a0_24 a0_25z a0_25 a0_26 a0_27 a0_28z a0_28 a0_29z a0_29 a0_30z a0_30 a0_31z a0_31 a0_32 a0_33z a0_33 a0_34z a0_34 a0_35 a0_36 a0_37z a0_37 a0_38z a0_38 a0_39z a0_39 a0_40 a0_41 a0_42 a0_43z a0_43 a0_44z a0_44 a1 = (laws_szMsg.b ret k a0_0 a0_1 a0_2 a0_3z a0_3 a0_4 a0_5z a0_5 a0_6 a0_7 a0_8z a0_8 a0_9z a0_9 a0_10z a0_10 a0_11 a0_12 a0_13 a0_14z a0_14 a0_15z a0_15 a0_16 a0_17 a0_18z a0_18 a0_19z a0_19 a0_20z a0_20 a0_21 a0_22 a0_23 a0_24z a0_24 a0_25z a0_25 a0_26 a0_27 a0_28z a0_28 a0_29z a0_29 a0_30z a0_30 a0_31z a0_31 a0_32 a0_33z a0_33 a0_34z a0_34 a0_35 a0_36 a0_37z a0_37 a0_38z a0_38 a0_39z a0_39 a0_40 a0_41 a0_42 a0_43z a0_43 a0_44z a0_44 a1).map e := by
  unfold laws_szMsg.b
  repeat' first | with_reducible refine nat_cond ?_ ?_ | with_reducible refine nat_bind fun _ => ?_ | rfl
theorem laws_szMsg.eq (k : Nat) (a0_0 : Int) (a0_1 : Int) (a0_2 : Int) (a0_3z : Bool) (a0_3 : List Int) (a0_4 : Int) (a0_5z : Bool) (a0_5 : List Int) (a0_6 : Int) (a0_7 : Int) (a0_8z : Bool) (a0_8 : List Int) (a0_9z : Bool) (a0_9 : List Int) (a0_10z : Bool) (a0_10 : List T) (a0_11 : Int) (a0_12 : Int) (a0_13 : Int) (a0_14z : Bool) (a0_14 : List Int) (a0_15z : Bool) (a0_15 : List Int) (a0_16 : Int) (a0_17 : Int) (a0_18z : Bool) (a0_18 : List Int) (a0_19z : Bool) (a0_19 : List Int) (a0_20z : Bool) (a0_20 : List T) (a0_21 : Int) (a0_22 : Int) (a0_23 : Int) (a0_24z : Bool) (a0_24 : List Int) (a0_25z : Bool) (a0_25 : List Int) (a0_26 : Int) (a0_27 : Int) (a0_28z : Bool) (a0_28 : List Int) (a0_29z : Bool) (a0_29 : List Int) (a0_30z : Bool) (a0_30 : List T) (a0_31z : Bool) (a0_31 : List T) (a0_32 : Int) (a0_33z : Bool) (a0_33 : List T) (a0_34z : Bool) (a0_34 : List T) (a0_35 : Int) (a0_36 : Int) (a0_37z : Bool) (a0_37 : List Int) (a0_38z : Bool) (a0_38 : List Int) (a0_39z : Bool) (a0_39 : List T) (a0_40 : Int) (a0_41 : Int) (a0_42 : Int) (a0_43z : Bool) (a0_43 : List Int) (a0_44z : Bool) (a0_44 : List T) (a1 : Int) : answer Tryz.prog laws_szMsg.Cs 100000 laws_szMsg.cuts [] Tryz.f4 (k + 1) [.v (.agg ((.int .i64 a0_0) :: (.int .i64 a0_1) :: (.int .i64 a0_2) :: (.nums 5 .u8 a0_3z a0_3) :: (.int .i64 a0_4) :: (.nums 5 .u8 a0_5z a0_5) :: (.int .i64 a0_6) :: (.int .i64 a0_7) :: (.nums 5 .u8 a0_8z a0_8) :: (.nums 5 .u8 a0_9z a0_9) :: (.sl 22 a0_10z a0_10) :: (.int .i64 a0_11) :: (.int .i64 a0_12) :: (.int .i64 a0_13) :: (.nums 5 .u8 a0_14z a0_14) :: (.nums 5 .u8 a0_15z a0_15) :: (.int .i64 a0_16) :: (.int .i64 a0_17) :: (.nums 5 .u8 a0_18z a0_18) :: (.nums 5 .u8 a0_19z a0_19) :: (.sl 22 a0_20z a0_20) :: (.int .i64 a0_21) :: (.int .i64 a0_22) :: (.int .i64 a0_23) :: (.nums 5 .u8 a0_24z a0_24) :: (.nums 5 .u8 a0_25z a0_25) :: (.int .i64 a0_26) :: (.int .i64 a0_27) :: (.nums 5 .u8 a0_28z a0_28) :: (.nums 5 .u8 a0_29z a0_29) :: (.sl 22 a0_30z a0_30) :: (.sl 22 a0_31z a0_31) :: (.int .i64 a0_32) :: (.sl 114 a0_33z a0_33) :: (.sl 29 a0_34z a0_34) :: (.int .i64 a0_35) :: (.int .i64 a0_36) :: (.nums 5 .u8 a0_37z a0_37) :: (.nums 5 .u8 a0_38z a0_38) :: (.sl 22 a0_39z a0_39) :: (.int .i64 a0_40) :: (.int .i64 a0_41) :: (.int .i64 a0_42) :: (.nums 5 .u8 a0_43z a0_43) :: (.sl 22 a0_44z a0_44) :: [])), .v (.int .i64 a1)] = (laws_szMsg.f (k + 1) a0_0 a0_1 a0_2 a0_3z a0_3 a0_4 a0_5z a0_5 a0_6 a0_7 a0_8z a0_8 a0_9z a0_9 a0_10z a0_10 a0_11 a0_12 a0_13 a0_14z a0_14 a0_15z a0_15 a0_16 a0_17 a0_18z a0_18 a0_19z a0_19 a0_20z a0_20 a0_21 a0_22 a0_23 a0_24z a0_24 a0_25z a0_25 a0_26 a0_27 a0_28z a0_28 a0_29z a0_29 a0_30z a0_30 a0_31z a0_31 a0_32 a0_33z a0_33 a0_34z a0_34 a0_35 a0_36 a0_37z a0_37 a0_38z a0_38 a0_39z a0_39 a0_40 a0_41 a0_42 a0_43z a0_43 a0_44z a0_44 a1).map laws_szMsg.enc := by
  refine (laws_szMsg.s k a0_0 a0_1 a0_2 a0_3z a0_3 a0_4 a0_5z a0_5 a0_6 a0_7 a0_8z a0_8 a0_9z a0_9 a0_10z a0_10 a0_11 a0_12 a0_13 a0_14z a0_14 a0_15z a0_15 a0_16 a0_17 a0_18z a0_18 a0_19z a0_19 a0_20z a0_20 a0_21 a0_22 a0_23 a0_24z a0_24 a0_25z a0_25 a0_26 a0_27 a0_28z a0_28 a0_29z a0_29 a0_30z a0_30 a0_31z a0_31 a0_32 a0_33z a0_33 a0_34z a0_34 a0_35 a0_36 a0_37z a0_37 a0_38z a0_38 a0_39z a0_39 a0_40 a0_41 a0_42 a0_43z a0_43 a0_44z a0_44 a1).trans (Eq.trans ?_ (laws_szMsg.b_nat laws_szMsg.enc some k a0_0 a0_1 a0_2 a0_3z a0_3 a0_4 a0_5z a0_5 a0_6 a0_7 a0_8z a0_8 a0_9z a0_9 a0_10z a0_10 a0_11 a0_12 a0_13 a0_14z a0_14 a0_15z a0_15 a0_16 a0_17 a0_18z a0_18 a0_19z a0_19 a0_20z a0_20 a0_21 a0_22 a0_23 a0_24z a0_24 a0_25z a0_25 a0_26 a0_27 a0_28z a0_28 a0_29z a0_29 a0_30z a0_30 a0_31z a0_31 a0_32 a0_33z a0_33 a0_34z a0_34 a0_35 a0_36 a0_37z a0_37 a0_38z a0_38 a0_39z a0_39 a0_40 a0_41 a0_42 a0_43z a0_43 a0_44z a0_44 a1))
  simp only [Option.map_some]
theorem laws_szMsg.sound (k : Nat) : SoundF Tryz.prog 4 (fun a => (laws_szMsg.ans k a).val) := by
  refine sound_plain (fun args res h => ?_) (fun t n => rfl)
  unfold laws_szMsg.ans at h
  dsimp only at h
  split at h
  ·
    obtain ⟨_, _, e, g⟩ := takeI_val h; clear h; subst e; have h := g; clear g
    obtain ⟨_, _, e, g⟩ := takeI_val h; clear h; subst e; have h := g; clear g
    obtain ⟨_, _, e, g⟩ := takeI_val h; clear h; subst e; have h := g; clear g
    obtain ⟨_, _, _, e, g⟩ := takeN_val h; clear h; subst e; have h := g; clear g
    obtain ⟨_, _, e, g⟩ := takeI_val h; clear h; subst e; have h := g; clear g
    obtain ⟨_, _, _, e, g⟩ := takeN_val h; clear h; subst e; have h := g; clear g
    obtain ⟨_, _, e, g⟩ := takeI_val h; clear h; subst e; have h := g; clear g
    obtain ⟨_, _, e, g⟩ := takeI_val h; clear h; subst e; have h := g; clear g
    obtain ⟨_, _, _, e, g⟩ := takeN_val h; clear h; subst e; have h := g; clear g
    obtain ⟨_, _, _, e, g⟩ := takeN_val h; clear h; subst e; have h := g; clear g
    obtain ⟨_, _, _, e, g⟩ := takeS_val h; clear h; subst e; have h := g; clear g
    obtain ⟨_, _, e, g⟩ := takeI_val h; clear h; subst e; have h := g; clear g
    obtain ⟨_, _, e, g⟩ := takeI_val h; clear h; subst e; have h := g; clear g
    obtain ⟨_, _, e, g⟩ := takeI_val h; clear h; subst e; have h := g; clear g
    obtain ⟨_, _, _, e, g⟩ := takeN_val h; clear h; subst e; have h := g; clear g
    obtain ⟨_, _, _, e, g⟩ := takeN_val h; clear h; subst e; have h := g; clear g
    obtain ⟨_, _, e, g⟩ := takeI_val h; clear h; subst e; have h := g; clear g
    obtain ⟨_, _, e, g⟩ := takeI_val h; clear h; subst e; have h := g; clear g
    obtain ⟨_, _, _, e, g⟩ := takeN_val h; clear h; subst e; have h := g; clear g
    obtain ⟨_, _, _, e, g⟩ := takeN_val h; clear h; subst e; have h := g; clear g
    obtain ⟨_, _, _, e, g⟩ := takeS_val h; clear h; subst e; have h := g; clear g
    obtain ⟨_, _, e, g⟩ := takeI_val h; clear h; subst e; have h := g; clear g
    obtain ⟨_, _, e, g⟩ := takeI_val h; clear h; subst e; have h := g; clear g
    obtain ⟨_, _, e, g⟩ := takeI_val h; clear h; subst e; have h := g; clear g
    obtain ⟨_, _, _, e, g⟩ := takeN_val h; clear h; subst e; have h := g; clear g
    obtain ⟨_, _, _, e, g⟩ := takeN_val h; clear h; subst e; have h := g; clear g
    obtain ⟨_, _, e, g⟩ := takeI_val h; clear h; subst e; have h := g; clear g
    obtain ⟨_, _, e, g⟩ := takeI_val h; clear h; subst e; have h := g; clear g
    obtain ⟨_, _, _, e, g⟩ := takeN_val h; clear h; subst e; have h := g; clear g
    obtain ⟨_, _, _, e, g⟩ := takeN_val h; clear h; subst e; have h := g; clear g
    obtain ⟨_, _, _, e, g⟩ := takeS_val h; clear h; subst e; have h := g; clear g
    obtain ⟨_, _, _, e, g⟩ := takeS_val h; clear h; subst e; have h := g; clear g
    obtain ⟨_, _, e, g⟩ := takeI_val h; clear h; subst e; have h := g; clear g
    obtain ⟨_, _, _, e, g⟩ := takeS_val h; clear h; subst e; have h := g; clear g
    obtain ⟨_, _, _, e, g⟩ := takeS_val h; clear h; subst e; have h := g; clear g
    obtain ⟨_, _, e, g⟩ := takeI_val h; clear h; subst e; have h := g; clear g
    obtain ⟨_, _, e, g⟩ := takeI_val h; clear h; subst e; have h := g; clear g
    obtain ⟨_, _, _, e, g⟩ := takeN_val h; clear h; subst e; have h := g; clear g
    obtain ⟨_, _, _, e, g⟩ := takeN_val h; clear h; subst e; have h := g; clear g
    obtain ⟨_, _, _, e, g⟩ := takeS_val h; clear h; subst e; have h := g; clear g
    obtain ⟨_, _, e, g⟩ := takeI_val h; clear h; subst e; have h := g; clear g
    obtain ⟨_, _, e, g⟩ := takeI_val h; clear h; subst e; have h := g; clear g
    obtain ⟨_, _, e, g⟩ := takeI_val h; clear h; subst e; have h := g; clear g
    obtain ⟨_, _, _, e, g⟩ := takeN_val h; clear h; subst e; have h := g; clear g
    obtain ⟨_, _, _, e, g⟩ := takeS_val h; clear h; subst e; have h := g; clear g
    obtain ⟨e, g⟩ := takeE_val h; clear h; subst e; have h := g; clear g
    cases k with
    | zero => cases h
    | succ k =>
      unfold Ans.val at h
      rw [← laws_szMsg.eq] at h
      exact answer_sound mixed Tryz.func4 _ _ _ (k + 1) (fun j _ => tab_sound (tab_cons (laws_szVote.sound j) (tab_cons (laws_szQc.sound j) (tab_cons (laws_szHead.sound j) (tab_cons (laws_szBlock.sound j) (tab_cons (laws_szTc.sound j) (tab_cons (laws_szProof.sound j) (tab_cons (laws_szIncl.sound j) (tab_nil))))))))) _ _ h
  · exact (Ans.no_val h).elim

/-! loop.example/g00790/laws.toByteS -/
def laws_toByteS.b {R : Type} (ret : Bool × List Int → Option R) (j0 : Bool → (List Int) → (List Int) → Int → Option R) (k : Nat) (a0z : Bool) (a0 : List Int) : Option R :=
  cond (decide (((a0).length : Int) = ((a0).length : Int))) (cond (decide ((0 : Int) ≤ ((a0).length : Int))) (cond (decide ((a0).length < 140737488355328)) (j0 a0z a0 (List.replicate (a0).length (0 : Int)) 0) (none)) (none)) (none)
def laws_toByteS.l0b {R : Type} (ret : Bool × List Int → Option R) (j0 : Bool → (List Int) → (List Int) → Int → Option R) (k : Nat) (x0z : Bool) (x0 : List Int) (x3 : List Int) (x4 : Int) : Option R :=
  cond (decide (x4 < ((x0).length : Int))) (cond (decide ((0 : Int) ≤ x4)) (cond (decide (x4 < ((x0).length : Int))) (cond (decide ((0 : Int) ≤ x4)) (cond (decide (x4 < ((x3).length : Int))) (j0 x0z x0 ((x3).set (x4).toNat (rdI x0 x4)) (RowKit.wrap64 (x4 + 1))) (none)) (none)) (none)) (none)) (ret (false, x3))
def laws_toByteS.l0 : Nat → Bool → (List Int) → (List Int) → Int → Option (Bool × List Int)
  | 0, _, _, _, _ => none
  | k + 1, x0z, x0, x3, x4 => laws_toByteS.l0b some (laws_toByteS.l0 k) k x0z x0 x3 x4
def laws_toByteS.f : Nat → Bool → (List Int) → Option (Bool × List Int)
  | 0, _, _ => none
  | k + 1, a0z, a0 => laws_toByteS.b some (laws_toByteS.l0 k) k a0z a0
def laws_toByteS.enc (r : Bool × List Int) : Res := ⟨[.vals false [((.nums 5 .u8 r.1 r.2), true)]], []⟩
def laws_toByteS.ans (k : Nat) : List Arg → Ans
  | [.v (.nums 5 .u8 a0z a0)] => ⟨laws_toByteS.f k a0z a0, laws_toByteS.enc⟩
  | _ => Ans.no
def laws_toByteS.Cs (k : Nat) : CallSem := tab []
def laws_toByteS.cuts : List (Nat × Keep) := [(58, ⟨[(0, some []), (3, none), (4, some [])], []⟩)]
noncomputable def laws_toByteS.K0 : List Fr := framesAt [true, true, false, true, false] (bodyOf Tryz.f54 laws_toByteS.cuts) []
def laws_toByteS.N0 (x0z : Bool) (x0 : List Int) (x3 : List Int) (x4 : Int) : St := stOf 22 22 1 [(0, .val ⟨(.nums 5 .u8 x0z x0), [], false, none⟩), (3, .val ⟨(.nums 5 .u8 false x3), [.l 3 0], true, some (.l 3 0)⟩), (4, .val (V.s (.int .i64 x4)))] []
theorem laws_toByteS.s (k : Nat) (a0z : Bool) (a0 : List Int) : answer Tryz.prog laws_toByteS.Cs 100000 laws_toByteS.cuts [] Tryz.f54 (k + 1) [.v (.nums 5 .u8 a0z a0)] = laws_toByteS.b (fun r => some (laws_toByteS.enc r)) (fun x0z x0 x3 x4 => rounds Tryz.prog laws_toByteS.Cs (finish Tryz.prog [] Tryz.f54 [.v (.nums 5 .u8 a0z a0)]) 100000 k laws_toByteS.K0 (laws_toByteS.N0 x0z x0 x3 x4)) k a0z a0 := by kernel_rfl
theorem laws_toByteS.s0 (k : Nat) (G : List Fr → St → Option Res) (a0z : Bool) (a0 : List Int) (yx0z : Bool) (yx0 : List Int) (yx3 : List Int) (yx4 : Int) : resume Tryz.prog (laws_toByteS.Cs k) G (finish Tryz.prog [] Tryz.f54 [.v (.nums 5 .u8 a0z a0)]) 100000 laws_toByteS.K0 (laws_toByteS.N0 yx0z yx0 yx3 yx4) = laws_toByteS.l0b (fun r => some (laws_toByteS.enc r)) (fun x0z x0 x3 x4 => G laws_toByteS.K0 (laws_toByteS.N0 x0z x0 x3 x4)) k yx0z yx0 yx3 yx4 := by kernel_rfl
theorem laws_toByteS.b_nat {R R' : Type} (e : R → R') (ret : Bool × List Int → Option R) (j0 : Bool → (List Int) → (List Int) → Int → Option R) (k : Nat) (a0z : Bool) (a0 : List Int) : laws_toByteS.b (fun r => (ret r).map e) (fun x0z x0 x3 x4 => (j0 x0z x0 x3 x4).map e) k a0z a0 = (laws_toByteS.b ret j0 k a0z a0).map e := by
  unfold laws_toByteS.b
  repeat' first | with_reducible refine nat_cond ?_ ?_ | with_reducible refine nat_bind fun _ => ?_ | rfl
theorem laws_toByteS.l0b_nat {R R' : Type} (e : R → R') (ret : Bool × List Int → Option R) (j0 : Bool → (List Int) → (List Int) → Int → Option R) (k : Nat) (x0z : Bool) (x0 : List Int) (x3 : List Int) (x4 : Int) : laws_toByteS.l0b (fun r => (ret r).map e) (fun x0z x0 x3 x4 => (j0 x0z x0 x3 x4).map e) k x0z x0 x3 x4 = (laws_toByteS.l0b ret j0 k x0z x0 x3 x4).map e := by
  unfold laws_toByteS.l0b
  repeat' first | with_reducible refine nat_cond ?_ ?_ | with_reducible refine nat_bind fun _ => ?_ | rfl
theorem laws_toByteS.rounds_eq (a0z : Bool) (a0 : List Int) : ∀ k, (∀ (x0z : Bool) (x0 : List Int) (x3 : List Int) (x4 : Int), rounds Tryz.prog laws_toByteS.Cs (finish Tryz.prog [] Tryz.f54 [.v (.nums 5 .u8 a0z a0)]) 100000 k laws_toByteS.K0 (laws_toByteS.N0 x0z x0 x3 x4) = (laws_toByteS.l0 k x0z x0 x3 x4).map laws_toByteS.enc)
  | 0 => fun _ _ _ _ => rfl
  | k + 1 => by
    have ih := laws_toByteS.rounds_eq a0z a0 k
    refine fun _ _ _ _ => ?_
    · refine (laws_toByteS.s0 k _ a0z a0 _ _ _ _).trans (Eq.trans ?_ (laws_toByteS.l0b_nat laws_toByteS.enc some (laws_toByteS.l0 k) k _ _ _ _))
      simp only [ih, Option.map_some]
theorem laws_toByteS.eq (k : Nat) (a0z : Bool) (a0 : List Int) : answer Tryz.prog laws_toByteS.Cs 100000 laws_toByteS.cuts [] Tryz.f54 (k + 1) [.v (.nums 5 .u8 a0z a0)] = (laws_toByteS.f (k + 1) a0z a0).map laws_toByteS.enc := by
  have ih := laws_toByteS.rounds_eq a0z a0 k
  refine (laws_toByteS.s k a0z a0).trans (Eq.trans ?_ (laws_toByteS.b_nat laws_toByteS.enc some (laws_toByteS.l0 k) k a0z a0))
  simp only [ih, Option.map_some]
theorem laws_toByteS.sound (k : Nat) : SoundF Tryz.prog 54 (fun a => (laws_toByteS.ans k a).val) := by
  refine sound_plain (fun args res h => ?_) (fun t n => rfl)
  unfold laws_toByteS.ans at h
  dsimp only at h
  split at h
  · cases k with
    | zero => cases h
    | succ k =>
      unfold Ans.val at h
      rw [← laws_toByteS.eq] at h
      exact answer_sound mixed Tryz.func54 _ _ _ (k + 1) (fun j _ => tab_sound (tab_nil)) _ _ h
  · exact (Ans.no_val h).elim

/-! loop.example/g00790/laws.toVote -/
def laws_toVote.b {R : Type} (ret : Int × Int × Bool × (List Int) × Int × Bool × List Int → Option R) (k : Nat) (a0_0 : Int) (a0_1 : Int) (a0_2z : Bool) (a0_2 : List Int) (a0_3 : Int) (a0_4z : Bool) (a0_4 : List Int) : Option R :=
  (laws_toByteS.f k a0_2z a0_2).bind fun t0 => (laws_toByteS.f k a0_4z a0_4).bind fun t1 => ret (a0_0, a0_1, t0.1, t0.2, a0_3, t1.1, t1.2)
def laws_toVote.f : Nat → Int → Int → Bool → (List Int) → Int → Bool → (List Int) → Option (Int × Int × Bool × (List Int) × Int × Bool × List Int)
  | 0, _, _, _, _, _, _, _ => none
  | k + 1, a0_0, a0_1, a0_2z, a0_2, a0_3, a0_4z, a0_4 => laws_toVote.b some k a0_0 a0_1 a0_2z a0_2 a0_3 a0_4z a0_4
def laws_toVote.enc (r : Int × Int × Bool × (List Int) × Int × Bool × List Int) : Res := ⟨[.vals true [((.int .i64 r.1), true), ((.int .i64 r.2.1), true), ((.nums 5 .u8 r.2.2.1 r.2.2.2.1), true), ((.int .i64 r.2.2.2.2.1), true), ((.nums 5 .u8 r.2.2.2.2.2.1 r.2.2.2.2.2.2), true)]], []⟩
def laws_toVote.ans (k : Nat) : List Arg → Ans
  | [.v (.agg [(.int .i64 a0_0), (.int .i64 a0_1), (.nums 5 .u8 a0_2z a0_2), (.int .i64 a0_3), (.nums 5 .u8 a0_4z a0_4)])] => ⟨laws_toVote.f k a0_0 a0_1 a0_2z a0_2 a0_3 a0_4z a0_4, laws_toVote.enc⟩
  | _ => Ans.no
def laws_toVote.Cs (k : Nat) : CallSem := tab [(54, laws_toByteS.ans k)]
def laws_toVote.cuts : List (Nat × Keep) := []
theorem laws_toVote.s (k : Nat) (a0_0 : Int) (a0_1 : Int) (a0_2z : Bool) (a0_2 : List Int) (a0_3 : Int) (a0_4z : Bool) (a0_4 : List Int) : answer Tryz.prog laws_toVote.Cs 100000 laws_toVote.cuts [] Tryz.f23 (k + 1) [.v (.agg [(.int .i64 a0_0), (.int .i64 a0_1), (.nums 5 .u8 a0_2z a0_2), (.int .i64 a0_3), (.nums 5 .u8 a0_4z a0_4)])] = laws_toVote.b (fun r => some (laws_toVote.enc r)) k a0_0 a0_1 a0_2z a0_2 a0_3 a0_4z a0_4 := by kernel_rfl
theorem laws_toVote.b_nat {R R' : Type} (e : R → R') (ret : Int × Int × Bool × (List Int) × Int × Bool × List Int → Option R) (k : Nat) (a0_0 : Int) (a0_1 : Int) (a0_2z : Bool) (a0_2 : List Int) (a0_3 : Int) (a0_4z : Bool) (a0_4 : List Int) : laws_toVote.b (fun r => (ret r).map e) k a0_0 a0_1 a0_2z a0_2 a0_3 a0_4z a0_4 = (laws_toVote.b ret k a0_0 a0_1 a0_2z a0_2 a0_3 a0_4z a0_4).map e := by
  unfold laws_toVote.b
  repeat' first | with_reducible refine nat_cond ?_ ?_ | with_reducible refine nat_bind fun _ => ?_ | rfl
theorem laws_toVote.eq (k : Nat) (a0_0 : Int) (a0_1 : Int) (a0_2z : Bool) (a0_2 : List Int) (a0_3 : Int) (a0_4z : Bool) (a0_4 : List Int) : answer Tryz.prog laws_toVote.Cs 100000 laws_toVote.cuts [] Tryz.f23 (k + 1) [.v (.agg [(.int .i64 a0_0), (.int .i64 a0_1), (.nums 5 .u8 a0_2z a0_2), (.int .i64 a0_3), (.nums 5 .u8 a0_4z a0_4)])] = (laws_toVote.f (k + 1) a0_0 a0_1 a0_2z a0_2 a0_3 a0_4z a0_4).map laws_toVote.enc := by
  refine (laws_toVote.s k a0_0 a0_1 a0_2z a0_2 a0_3 a0_4z a0_4).trans (Eq.trans ?_ (laws_toVote.b_nat laws_toVote.enc some k a0_0 a0_1 a0_2z a0_2 a0_3 a0_4z a0_4))
  simp only [Option.map_some]
theorem laws_toVote.sound (k : Nat) : SoundF Tryz.prog 23 (fun a => (laws_toVote.ans k a).val) := by
  refine sound_plain (fun args res h => ?_) (fun t n => rfl)
  unfold laws_toVote.ans at h
  dsimp only at h
  split at h
  · cases k with
    | zero => cases h
    | succ k =>
      unfold Ans.val at h
      rw [← laws_toVote.eq] at h
      exact answer_sound mixed Tryz.func23 _ _ _ (k + 1) (fun j _ => tab_sound (tab_cons (laws_toByteS.sound j) (tab_nil))) _ _ h
  · exact (Ans.no_val h).elim

/-! loop.example/g00790/laws.toByteSS -/
def laws_toByteSS.b {R : Type} (ret : Bool × List T → Option R) (j0 : Bool → (List T) → (List T) → Int → Option R) (k : Nat) (a0z : Bool) (a0 : List T) : Option R :=
  cond (decide (((a0).length : Int) = ((a0).length : Int))) (cond (decide ((0 : Int) ≤ ((a0).length : Int))) (cond (decide ((a0).length < 5864062014805)) (j0 a0z a0 (List.replicate (a0).length (.nums 5 .u8 true ([] : List Int))) 0) (none)) (none)) (none)
def laws_toByteSS.l0b {R : Type} (ret : Bool × List T → Option R) (j0 : Bool → (List T) → (List T) → Int → Option R) (k : Nat) (x0z : Bool) (x0 : List T) (x3 : List T) (x4 : Int) : Option R :=
  cond (decide (x4 < ((x0).length : Int))) (cond (decide ((0 : Int) ≤ x4)) (cond (decide (x4 < ((x0).length : Int))) ((laws_toByteS.f k (((((x0).getD (x4).toNat .bad).cells.getD 0 .bad)).isNil) (((((x0).getD (x4).toNat .bad).cells.getD 0 .bad)).toNums)).bind fun t0 => cond (decide ((0 : Int) ≤ x4)) (cond (decide (x4 < ((x3).length : Int))) (j0 x0z x0 ((x3).set (x4).toNat (.nums 5 .u8 t0.1 t0.2)) (RowKit.wrap64 (x4 + 1))) (none)) (none)) (none)) (none)) (ret (false, x3))
def laws_toByteSS.l0 : Nat → Bool → (List T) → (List T) → Int → Option (Bool × List T)
  | 0, _, _, _, _ => none
  | k + 1, x0z, x0, x3, x4 => laws_toByteSS.l0b some (laws_toByteSS.l0 k) k x0z x0 x3 x4
def laws_toByteSS.f : Nat → Bool → (List T) → Option (Bool × List T)
  | 0, _, _ => none
  | k + 1, a0z, a0 => laws_toByteSS.b some (laws_toByteSS.l0 k) k a0z a0
def laws_toByteSS.enc (r : Bool × List T) : Res := ⟨[.vals false [((.sl 22 r.1 r.2), true)]], []⟩
def laws_toByteSS.ans (k : Nat) : List Arg → Ans
  | [.v (.sl 22 a0z a0)] => ⟨laws_toByteSS.f k a0z a0, laws_toByteSS.enc⟩
  | _ => Ans.no
def laws_toByteSS.Cs (k : Nat) : CallSem := tab [(54, laws_toByteS.ans k)]
def laws_toByteSS.cuts : List (Nat × Keep) := [(58, ⟨[(0, some []), (3, none), (4, some [])], []⟩)]
noncomputable def laws_toByteSS.K0 : List Fr := framesAt [true, true, false, true, false] (bodyOf Tryz.f55 laws_toByteSS.cuts) []
def laws_toByteSS.N0 (x0z : Bool) (x0 : List T) (x3 : List T) (x4 : Int) : St := stOf 23 23 1 [(0, .val ⟨(.sl 22 x0z x0), [], false, none⟩), (3, .val ⟨(.sl 22 false x3), [.l 3 0], true, some (.l 3 0)⟩), (4, .val (V.s (.int .i64 x4)))] []
theorem laws_toByteSS.s (k : Nat) (a0z : Bool) (a0 : List T) : answer Tryz.prog laws_toByteSS.Cs 100000 laws_toByteSS.cuts [] Tryz.f55 (k + 1) [.v (.sl 22 a0z a0)] = laws_toByteSS.b (fun r => some (laws_toByteSS.enc r)) (fun x0z x0 x3 x4 => rounds Tryz.prog laws_toByteSS.Cs (finish Tryz.prog [] Tryz.f55 [.v (.sl 22 a0z a0)]) 100000 k laws_toByteSS.K0 (laws_toByteSS.N0 x0z x0 x3 x4)) k a0z a0 := by kernel_rfl
theorem laws_toByteSS.s0 (k : Nat) (G : List Fr → St → Option Res) (a0z : Bool) (a0 : List T) (yx0z : Bool) (yx0 : List T) (yx3 : List T) (yx4 : Int) : resume Tryz.prog (laws_toByteSS.Cs k) G (finish Tryz.prog [] Tryz.f55 [.v (.sl 22 a0z a0)]) 100000 laws_toByteSS.K0 (laws_toByteSS.N0 yx0z yx0 yx3 yx4) = laws_toByteSS.l0b (fun r => some (laws_toByteSS.enc r)) (fun x0z x0 x3 x4 => G laws_toByteSS.K0 (laws_toByteSS.N0 x0z x0 x3 x4)) k yx0z yx0 yx3 yx4 := by kernel_rfl
theorem laws_toByteSS.b_nat {R R' : Type} (e : R → R') (ret : Bool × List T → Option R) (j0 : Bool → (List T) → (List T) → Int → Option R) (k : Nat) (a0z : Bool) (a0 : List T) : laws_toByteSS.b (fun r => (ret r).map e) (fun x0z x0 x3 x4 => (j0 x0z x0 x3 x4).map e) k a0z a0 = (laws_toByteSS.b ret j0 k a0z a0).map e := by
  unfold laws_toByteSS.b
  repeat' first | with_reducible refine nat_cond ?_ ?_ | with_reducible refine nat_bind fun _ => ?_ | rfl
theorem laws_toByteSS.l0b_nat {R R' : Type} (e : R → R') (ret : Bool × List T → Option R) (j0 : Bool → (List T) → (List T) → Int → Option R) (k : Nat) (x0z : Bool) (x0 : List T) (x3 : List T) (x4 : Int) : laws_toByteSS.l0b (fun r => (ret r).map e) (fun x0z x0 x3 x4 => (j0 x0z x0 x3 x4).map e) k x0z x0 x3 x4 = (laws_toByteSS.l0b ret j0 k x0z x0 x3 x4).map e := by
  unfold laws_toByteSS.l0b
  repeat' first | with_reducible refine nat_cond ?_ ?_ | with_reducible refine nat_bind fun _ => ?_ | rfl
theorem laws_toByteSS.rounds_eq (a0z : Bool) (a0 : List T) : ∀ k, (∀ (x0z : Bool) (x0 : List T) (x3 : List T) (x4 : Int), rounds Tryz.prog laws_toByteSS.Cs (finish Tryz.prog [] Tryz.f55 [.v (.sl 22 a0z a0)]) 100000 k laws_toByteSS.K0 (laws_toByteSS.N0 x0z x0 x3 x4) = (laws_toByteSS.l0 k x0z x0 x3 x4).map laws_toByteSS.enc)
  | 0 => fun _ _ _ _ => rfl
  | k + 1 => by
    have ih := laws_toByteSS.rounds_eq a0z a0 k
    refine fun _ _ _ _ => ?_
    · refine (laws_toByteSS.s0 k _ a0z a0 _ _ _ _).trans (Eq.trans ?_ (laws_toByteSS.l0b_nat laws_toByteSS.enc some (laws_toByteSS.l0 k) k _ _ _ _))
      simp only [ih, Option.map_some]
theorem laws_toByteSS.eq (k : Nat) (a0z : Bool) (a0 : List T) : answer Tryz.prog laws_toByteSS.Cs 100000 laws_toByteSS.cuts [] Tryz.f55 (k + 1) [.v (.sl 22 a0z a0)] = (laws_toByteSS.f (k + 1) a0z a0).map laws_toByteSS.enc := by
  have ih := laws_toByteSS.rounds_eq a0z a0 k
  refine (laws_toByteSS.s k a0z a0).trans (Eq.trans ?_ (laws_toByteSS.b_nat laws_toByteSS.enc some (laws_toByteSS.l0 k) k a0z a0))
  simp only [ih, Option.map_some]
theorem laws_toByteSS.sound (k : Nat) : SoundF Tryz.prog 55 (fun a => (laws_toByteSS.ans k a).val) := by
  refine sound_plain (fun args res h => ?_) (fun t n => rfl)
  unfold laws_toByteSS.ans at h
  dsimp only at h
  split at h
  · cases k with
    | zero => cases h
    | succ k =>
      unfold Ans.val at h
      rw [← laws_toByteSS.eq] at h
      exact answer_sound mixed Tryz.func55 _ _ _ (k + 1) (fun j _ => tab_sound (tab_cons (laws_toByteS.sound j) (tab_nil))) _ _ h
  · exact (Ans.no_val h).elim

/-! loop.example/g00790/laws.toQc -/
def laws_toQc.b {R : Type} (ret : Int × Int × Bool × (List Int) × Bool × (List Int) × Bool × List T → Option R) (k : Nat) (a0_0 : Int) (a0_1 : Int) (a0_2z : Bool) (a0_2 : List Int) (a0_3z : Bool) (a0_3 : List Int) (a0_4z : Bool) (a0_4 : List T) : Option R :=
  (laws_toByteS.f k a0_2z a0_2).bind fun t0 => (laws_toByteS.f k a0_3z a0_3).bind fun t1 => (laws_toByteSS.f k a0_4z a0_4).bind fun t2 => ret (a0_0, a0_1, t0.1, t0.2, t1.1, t1.2, t2.1, t2.2)
def laws_toQc.f : Nat → Int → Int → Bool → (List Int) → Bool → (List Int) → Bool → (List T) → Option (Int × Int × Bool × (List Int) × Bool × (List Int) × Bool × List T)
  | 0, _, _, _, _, _, _, _, _ => none
  | k + 1, a0_0, a0_1, a0_2z, a0_2, a0_3z, a0_3, a0_4z, a0_4 => laws_toQc.b some k a0_0 a0_1 a0_2z a0_2 a0_3z a0_3 a0_4z a0_4
def laws_toQc.enc (r : Int × Int × Bool × (List Int) × Bool × (List Int) × Bool × List T) : Res := ⟨[.vals true [((.int .i64 r.1), true), ((.int .i64 r.2.1), true), ((.nums 5 .u8 r.2.2.1 r.2.2.2.1), true), ((.nums 5 .u8 r.2.2.2.2.1 r.2.2.2.2.2.1), true), ((.sl 22 r.2.2.2.2.2.2.1 r.2.2.2.2.2.2.2), true)]], []⟩
def laws_toQc.ans (k : Nat) : List Arg → Ans
  | [.v (.agg [(.int .i64 a0_0), (.int .i64 a0_1), (.nums 5 .u8 a0_2z a0_2), (.nums 5 .u8 a0_3z a0_3), (.sl 22 a0_4z a0_4)])] => ⟨laws_toQc.f k a0_0 a0_1 a0_2z a0_2 a0_3z a0_3 a0_4z a0_4, laws_toQc.enc⟩
  | _ => Ans.no
def laws_toQc.Cs (k : Nat) : CallSem := tab [(54, laws_toByteS.ans k), (55, laws_toByteSS.ans k)]
def laws_toQc.cuts : List (Nat × Keep) := []
theorem laws_toQc.s (k : Nat) (a0_0 : Int) (a0_1 : Int) (a0_2z : Bool) (a0_2 : List Int) (a0_3z : Bool) (a0_3 : List Int) (a0_4z : Bool) (a0_4 : List T) : answer Tryz.prog laws_toQc.Cs 100000 laws_toQc.cuts [] Tryz.f24 (k + 1) [.v (.agg [(.int .i64 a0_0), (.int .i64 a0_1), (.nums 5 .u8 a0_2z a0_2), (.nums 5 .u8 a0_3z a0_3), (.sl 22 a0_4z a0_4)])] = laws_toQc.b (fun r => some (laws_toQc.enc r)) k a0_0 a0_1 a0_2z a0_2 a0_3z a0_3 a0_4z a0_4 := by kernel_rfl
theorem laws_toQc.b_nat {R R' : Type} (e : R → R') (ret : Int × Int × Bool × (List Int) × Bool × (List Int) × Bool × List T → Option R) (k : Nat) (a0_0 : Int) (a0_1 : Int) (a0_2z : Bool) (a0_2 : List Int) (a0_3z : Bool) (a0_3 : List Int) (a0_4z : Bool) (a0_4 : List T) : laws_toQc.b (fun r => (ret r).map e) k a0_0 a0_1 a0_2z a0_2 a0_3z a0_3 a0_4z a0_4 = (laws_toQc.b ret k a0_0 a0_1 a0_2z a0_2 a0_3z a0_3 a0_4z a0_4).map e := by
  unfold laws_toQc.b
  repeat' first | with_reducible refine nat_cond ?_ ?_ | with_reducible refine nat_bind fun _ => ?_ | rfl
theorem laws_toQc.eq (k : Nat) (a0_0 : Int) (a0_1 : Int) (a0_2z : Bool) (a0_2 : List Int) (a0_3z : Bool) (a0_3 : List Int) (a0_4z : Bool) (a0_4 : List T) : answer Tryz.prog laws_toQc.Cs 100000 laws_toQc.cuts [] Tryz.f24 (k + 1) [.v (.agg [(.int .i64 a0_0), (.int .i64 a0_1), (.nums 5 .u8 a0_2z a0_2), (.nums 5 .u8 a0_3z a0_3), (.sl 22 a0_4z a0_4)])] = (laws_toQc.f (k + 1) a0_0 a0_1 a0_2z a0_2 a0_3z a0_3 a0_4z a0_4).map laws_toQc.enc := by
  refine (laws_toQc.s k a0_0 a0_1 a0_2z a0_2 a0_3z a0_3 a0_4z a0_4).trans (Eq.trans ?_ (laws_toQc.b_nat laws_toQc.enc some k a0_0 a0_1 a0_2z a0_2 a0_3z a0_3 a0_4z a0_4))
  simp only [Option.map_some]
theorem laws_toQc.sound (k : Nat) : SoundF Tryz.prog 24 (fun a => (laws_toQc.ans k a).val) := by
  refine sound_plain (fun args res h => ?_) (fun t n => rfl)
  unfold laws_toQc.ans at h
  dsimp only at h
  split at h
  · cases k with
    | zero => cases h
    | succ k =>
      unfold Ans.val at h
      rw [← laws_toQc.eq] at h
      exact answer_sound mixed Tryz.func24 _ _ _ (k + 1) (fun j _ => tab_sound (tab_cons (laws_toByteS.sound j) (tab_cons (laws_toByteSS.sound j) (tab_nil)))) _ _ h
  · exact (Ans.no_val h).elim

/-! loop.example/g00790/laws.toHead -/
def laws_toHead.b {R : Type} (ret : Int × Int × Int × Bool × (List Int) × Bool × (List Int) × Int × Int × Bool × (List Int) × Bool × (List Int) × Bool × List T → Option R) (k : Nat) (a0_0 : Int) (a0_1 : Int) (a0_2 : Int) (a0_3z : Bool) (a0_3 : List Int) (a0_4z : Bool) (a0_4 : List Int) (a0_5 : Int) (a0_6 : Int) (a0_7z : Bool) (a0_7 : List Int) (a0_8z : Bool) (a0_8 : List Int) (a0_9z : Bool) (a0_9 : List T) : Option R :=
  (laws_toByteS.f k a0_3z a0_3).bind fun t0 => (laws_toByteS.f k a0_4z a0_4).bind fun t1 => (laws_toQc.f k a0_5 a0_6 a0_7z a0_7 a0_8z a0_8 a0_9z a0_9).bind fun t2 => ret (a0_0, a0_1, a0_2, t0.1, t0.2, t1.1, t1.2, t2.1, t2.2.1, t2.2.2.1, t2.2.2.2.1, t2.2.2.2.2.1, t2.2.2.2.2.2.1, t2.2.2.2.2.2.2.1, t2.2.2.2.2.2.2.2)
def laws_toHead.f : Nat → Int → Int → Int → Bool → (List Int) → Bool → (List Int) → Int → Int → Bool → (List Int) → Bool → (List Int) → Bool → (List T) → Option (Int × Int × Int × Bool × (List Int) × Bool × (List Int) × Int × Int × Bool × (List Int) × Bool × (List Int) × Bool × List T)
  | 0, _, _, _, _, _, _, _, _, _, _, _, _, _, _, _ => none
  | k + 1, a0_0, a0_1, a0_2, a0_3z, a0_3, a0_4z, a0_4, a0_5, a0_6, a0_7z, a0_7, a0_8z, a0_8, a0_9z, a0_9 => laws_toHead.b some k a0_0 a0_1 a0_2 a0_3z a0_3 a0_4z a0_4 a0_5 a0_6 a0_7z a0_7 a0_8z a0_8 a0_9z a0_9
def laws_toHead.enc (r : Int × Int × Int × Bool × (List Int) × Bool × (List Int) × Int × Int × Bool × (List Int) × Bool × (List Int) × Bool × List T) : Res := ⟨[.vals true [((.int .i64 r.1), true), ((.int .i64 r.2.1), true), ((.int .i64 r.2.2.1), true), ((.nums 5 .u8 r.2.2.2.1 r.2.2.2.2.1), true), ((.nums 5 .u8 r.2.2.2.2.2.1 r.2.2.2.2.2.2.1), true), ((.int .i64 r.2.2.2.2.2.2.2.1), true), ((.int .i64 r.2.2.2.2.2.2.2.2.1), true), ((.nums 5 .u8 r.2.2.2.2.2.2.2.2.2.1 r.2.2.2.2.2.2.2.2.2.2.1), true), ((.nums 5 .u8 r.2.2.2.2.2.2.2.2.2.2.2.1 r.2.2.2.2.2.2.2.2.2.2.2.2.1), true), ((.sl 22 r.2.2.2.2.2.2.2.2.2.2.2.2.2.1 r.2.2.2.2.2.2.2.2.2.2.2.2.2.2), true)]], []⟩
def laws_toHead.ans (k : Nat) : List Arg → Ans
  | [.v (.agg [(.int .i64 a0_0), (.int .i64 a0_1), (.int .i64 a0_2), (.nums 5 .u8 a0_3z a0_3), (.nums 5 .u8 a0_4z a0_4), (.int .i64 a0_5), (.int .i64 a0_6), (.nums 5 .u8 a0_7z a0_7), (.nums 5 .u8 a0_8z a0_8), (.sl 22 a0_9z a0_9)])] => ⟨laws_toHead.f k a0_0 a0_1 a0_2 a0_3z a0_3 a0_4z a0_4 a0_5 a0_6 a0_7z a0_7 a0_8z a0_8 a0_9z a0_9, laws_toHead.enc⟩
  | _ => Ans.no
def laws_toHead.Cs (k : Nat) : CallSem := tab [(54, laws_toByteS.ans k), (24, laws_toQc.ans k)]
def laws_toHead.cuts : List (Nat × Keep) := []
theorem laws_toHead.s (k : Nat) (a0_0 : Int) (a0_1 : Int) (a0_2 : Int) (a0_3z : Bool) (a0_3 : List Int) (a0_4z : Bool) (a0_4 : List Int) (a0_5 : Int) (a0_6 : Int) (a0_7z : Bool) (a0_7 : List Int) (a0_8z : Bool) (a0_8 : List Int) (a0_9z : Bool) (a0_9 : List T) : answer Tryz.prog laws_toHead.Cs 100000 laws_toHead.cuts [] Tryz.f25 (k + 1) [.v (.agg [(.int .i64 a0_0), (.int .i64 a0_1), (.int .i64 a0_2), (.nums 5 .u8 a0_3z a0_3), (.nums 5 .u8 a0_4z a0_4), (.int .i64 a0_5), (.int .i64 a0_6), (.nums 5 .u8 a0_7z a0_7), (.nums 5 .u8 a0_8z a0_8), (.sl 22 a0_9z a0_9)])] = laws_toHead.b (fun r => some (laws_toHead.enc r)) k a0_0 a0_1 a0_2 a0_3z a0_3 a0_4z a0_4 a0_5 a0_6 a0_7z a0_7 a0_8z a0_8 a0_9z a0_9 := by kernel_rfl
theorem laws_toHead.b_nat {R R' : Type} (e : R → R') (ret : Int × Int × Int × Bool × (List Int) × Bool × (List Int) × Int × Int × Bool × (List Int) × Bool × (List Int) × Bool × List T → Option R) (k : Nat) (a0_0 : Int) (a0_1 : Int) (a0_2 : Int) (a0_3z : Bool) (a0_3 : List Int) (a0_4z : Bool) (a0_4 : List Int) (a0_5 : Int) (a0_6 : Int) (a0_7z : Bool) (a0_7 : List Int) (a0_8z : Bool) (a0_8 : List Int) (a0_9z : Bool) (a0_9 : List T) : laws_toHead.b (fun r => (ret r).map e) k a0_0 a0_1 a0_2 a0_3z a0_3 a0_4z a0_4 a0_5 a0_6 a0_7z a0_7 a0_8z a0_8 a0_9z a0_9 = (laws_toHead.b ret k a0_0 a0_1 a0_2 a0_3z a0_3 a0_4z a0_4 a0_5 a0_6 a0_7z a0_7 a0_8z a0_8 a0_9z a0_9).map e := by
  unfold laws_toHead.b
  repeat' first | with_reducible refine nat_cond ?_ ?_ | with_reducible refine nat_bind fun _ => ?_ | rfl
theorem laws_toHead.eq (k : Nat) (a0_0 : Int) (a0_1 : Int) (a0_2 : Int) (a0_3z : Bool) (a0_3 : List Int) (a0_4z : Bool) (a0_4 : List Int) (a0_5 : Int) (a0_6 : Int) (a0_7z : Bool) (a0_7 : List Int) (a0_8z : Bool) (a0_8 : List Int) (a0_9z : Bool) (a0_9 : List T) : answer Tryz.prog laws_toHead.Cs 100000 laws_toHead.cuts [] Tryz.f25 (k + 1) [.v (.agg [(.int .i64 a0_0), (.int .i64 a0_1), (.int .i64 a0_2), (.nums 5 .u8 a0_3z a0_3), (.nums 5 .u8 a0_4z a0_4), (.int .i64 a0_5), (.int .i64 a0_6), (.nums 5 .u8 a0_7z a0_7), (.nums 5 .u8 a0_8z a0_8), (.sl 22 a0_9z a0_9)])] = (laws_toHead.f (k + 1) a0_0 a0_1 a0_2 a0_3z a0_3 a0_4z a0_4 a0_5 a0_6 a0_7z a0_7 a0_8z a0_8 a0_9z a0_9).map laws_toHead.enc := by
  refine (laws_toHead.s k a0_0 a0_1 a0_2 a0_3z a0_3 a0_4z a0_4 a0_5 a0_6 a0_7z a0_7 a0_8z a0_8 a0_9z a0_9).trans (Eq.trans ?_ (laws_toHead.b_nat laws_toHead.enc some k a0_0 a0_1 a0_2 a0_3z a0_3 a0_4z a0_4 a0_5 a0_6 a0_7z a0_7 a0_8z a0_8 a0_9z a0_9))
  simp only [Option.map_some]
theorem laws_toHead.sound (k : Nat) : SoundF Tryz.prog 25 (fun a => (laws_toHead.ans k a).val) := by
  refine sound_plain (fun args res h => ?_) (fun t n => rfl)
  unfold laws_toHead.ans at h
  dsimp only at h
  split at h
  · cases k with
    | zero => cases h
    | succ k =>
      unfold Ans.val at h
      rw [← laws_toHead.eq] at h
      exact answer_sound mixed Tryz.func25 _ _ _ (k + 1) (fun j _ => tab_sound (tab_cons (laws_toByteS.sound j) (tab_cons (laws_toQc.sound j) (tab_nil)))) _ _ h
  · exact (Ans.no_val h).elim

/-! loop.example/g00790/laws.toBlock -/
def laws_toBlock.b {R : Type} (ret : Int × Int × Int × Bool × (List Int) × Bool × (List Int) × Int × Int × Bool × (List Int) × Bool × (List Int) × Bool × (List T) × Bool × List T → Option R) (k : Nat) (a0_0 : Int) (a0_1 : Int) (a0_2 : Int) (a0_3z : Bool) (a0_3 : List Int) (a0_4z : Bool) (a0_4 : List Int) (a0_5 : Int) (a0_6 : Int) (a0_7z : Bool) (a0_7 : List Int) (a0_8z : Bool) (a0_8 : List Int) (a0_9z : Bool) (a0_9 : List T) (a0_10z : Bool) (a0_10 : List T) : Option R :=
  (laws_toHead.f k a0_0 a0_1 a0_2 a0_3z a0_3 a0_4z a0_4 a0_5 a0_6 a0_7z a0_7 a0_8z a0_8 a0_9z a0_9).bind fun t0 => (laws_toByteSS.f k a0_10z a0_10).bind fun t1 => ret (t0.1, t0.2.1, t0.2.2.1, t0.2.2.2.1, t0.2.2.2.2.1, t0.2.2.2.2.2.1, t0.2.2.2.2.2.2.1, t0.2.2.2.2.2.2.2.1, t0.2.2.2.2.2.2.2.2.1, t0.2.2.2.2.2.2.2.2.2.1, t0.2.2.2.2.2.2.2.2.2.2.1, t0.2.2.2.2.2.2.2.2.2.2.2.1, t0.2.2.2.2.2.2.2.2.2.2.2.2.1, t0.2.2.2.2.2.2.2.2.2.2.2.2.2.1, t0.2.2.2.2.2.2.2.2.2.2.2.2.2.2, t1.1, t1.2)
def laws_toBlock.f : Nat → Int → Int → Int → Bool → (List Int) → Bool → (List Int) → Int → Int → Bool → (List Int) → Bool → (List Int) → Bool → (List T) → Bool → (List T) → Option (Int × Int × Int × Bool × (List Int) × Bool × (List Int) × Int × Int × Bool × (List Int) × Bool × (List Int) × Bool × (List T) × Bool × List T)
  | 0, _, _, _, _, _, _, _, _, _, _, _, _, _, _, _, _, _ => none
  | k + 1, a0_0, a0_1, a0_2, a0_3z, a0_3, a0_4z, a0_4, a0_5, a0_6, a0_7z, a0_7, a0_8z, a0_8, a0_9z, a0_9, a0_10z, a0_10 => laws_toBlock.b some k a0_0 a0_1 a0_2 a0_3z a0_3 a0_4z a0_4 a0_5 a0_6 a0_7z a0_7 a0_8z a0_8 a0_9z a0_9 a0_10z a0_10
def laws_toBlock.enc (r : Int × Int × Int × Bool × (List Int) × Bool × (List Int) × Int × Int × Bool × (List Int) × Bool × (List Int) × Bool × (List T) × Bool × List T) : Res := ⟨[.vals true [((.int .i64 r.1), true), ((.int .i64 r.2.1), true), ((.int .i64 r.2.2.1), true), ((.nums 5 .u8 r.2.2.2.1 r.2.2.2.2.1), true), ((.nums 5 .u8 r.2.2.2.2.2.1 r.2.2.2.2.2.2.1), true), ((.int .i64 r.2.2.2.2.2.2.2.1), true), ((.int .i64 r.2.2.2.2.2.2.2.2.1), true), ((.nums 5 .u8 r.2.2.2.2.2.2.2.2.2.1 r.2.2.2.2.2.2.2.2.2.2.1), true), ((.nums 5 .u8 r.2.2.2.2.2.2.2.2.2.2.2.1 r.2.2.2.2.2.2.2.2.2.2.2.2.1), true), ((.sl 22 r.2.2.2.2.2.2.2.2.2.2.2.2.2.1 r.2.2.2.2.2.2.2.2.2.2.2.2.2.2.1), true), ((.sl 22 r.2.2.2.2.2.2.2.2.2.2.2.2.2.2.2.1 r.2.2.2.2.2.2.2.2.2.2.2.2.2.2.2.2), true)]], []⟩
def laws_toBlock.ans (k : Nat) : List Arg → Ans
  | [.v (.agg [(.int .i64 a0_0), (.int .i64 a0_1), (.int .i64 a0_2), (.nums 5 .u8 a0_3z a0_3), (.nums 5 .u8 a0_4z a0_4), (.int .i64 a0_5), (.int .i64 a0_6), (.nums 5 .u8 a0_7z a0_7), (.nums 5 .u8 a0_8z a0_8), (.sl 22 a0_9z a0_9), (.sl 22 a0_10z a0_10)])] => ⟨laws_toBlock.f k a0_0 a0_1 a0_2 a0_3z a0_3 a0_4z a0_4 a0_5 a0_6 a0_7z a0_7 a0_8z a0_8 a0_9z a0_9 a0_10z a0_10, laws_toBlock.enc⟩
  | _ => Ans.no
def laws_toBlock.Cs (k : Nat) : CallSem := tab [(55, laws_toByteSS.ans k), (25, laws_toHead.ans k)]
def laws_toBlock.cuts : List (Nat × Keep) := []
theorem laws_toBlock.s (k : Nat) (a0_0 : Int) (a0_1 : Int) (a0_2 : Int) (a0_3z : Bool) (a0_3 : List Int) (a0_4z : Bool) (a0_4 : List Int) (a0_5 : Int) (a0_6 : Int) (a0_7z : Bool) (a0_7 : List Int) (a0_8z : Bool) (a0_8 : List Int) (a0_9z : Bool) (a0_9 : List T) (a0_10z : Bool) (a0_10 : List T) : answer Tryz.prog laws_toBlock.Cs 100000 laws_toBlock.cuts [] Tryz.f26 (k + 1) [.v (.agg [(.int .i64 a0_0), (.int .i64 a0_1), (.int .i64 a0_2), (.nums 5 .u8 a0_3z a0_3), (.nums 5 .u8 a0_4z a0_4), (.int .i64 a0_5), (.int .i64 a0_6), (.nums 5 .u8 a0_7z a0_7), (.nums 5 .u8 a0_8z a0_8), (.sl 22 a0_9z a0_9), (.sl 22 a0_10z a0_10)])] = laws_toBlock.b (fun r => some (laws_toBlock.enc r)) k a0_0 a0_1 a0_2 a0_3z a0_3 a0_4z a0_4 a0_5 a0_6 a0_7z a0_7 a0_8z a0_8 a0_9z a0_9 a0_10z a0_10 := by kernel_rfl
theorem laws_toBlock.b_nat {R R' : Type} (e : R → R') (ret : Int × Int × Int × Bool × (List Int) × Bool × (List Int) × Int × Int × Bool × (List Int) × Bool × (List Int) × Bool × (List T) × Bool × List T → Option R) (k : Nat) (a0_0 : Int) (a0_1 : Int) (a0_2 : Int) (a0_3z : Bool) (a0_3 : List Int) (a0_4z : Bool) (a0_4 : List Int) (a0_5 : Int) (a0_6 : Int) (a0_7z : Bool) (a0_7 : List Int) (a0_8z : Bool) (a0_8 : List Int) (a0_9z : Bool) (a0_9 : List T) (a0_10z : Bool) (a0_10 : List T) : laws_toBlock.b (fun r => (ret r).map e) k a0_0 a0_1 a0_2 a0_3z a0_3 a0_4z a0_4 a0_5 a0_6 a0_7z a0_7 a0_8z a0_8 a0_9z a0_9 a0_10z a0_10 = (laws_toBlock.b ret k a0_0 a0_1 a0_2 a0_3z a0_3 a0_4z a0_4 a0_5 a0_6 a0_7z a0_7 a0_8z a0_8 a0_9z a0_9 a0_10z a0_10).map e := by
  unfold laws_toBlock.b
  repeat' first | with_reducible refine nat_cond ?_ ?_ | with_reducible refine nat_bind fun _ => ?_ | rfl
theorem laws_toBlock.eq (k : Nat) (a0_0 : Int) (a0_1 : Int) (a0_2 : Int) (a0_3z : Bool) (a0_3 : List Int) (a0_4z : Bool) (a0_4 : List Int) (a0_5 : Int) (a0_6 : Int) (a0_7z : Bool) (a0_7 : List Int) (a0_8z : Bool) (a0_8 : List Int) (a0_9z : Bool) (a0_9 : List T) (a0_10z : Bool) (a0_10 : List T) : answer Tryz.prog laws_toBlock.Cs 100000 laws_toBlock.cuts [] Tryz.f26 (k + 1) [.v (.agg [(.int .i64 a0_0), (.int .i64 a0_1), (.int .i64 a0_2), (.nums 5 .u8 a0_3z a0_3), (.nums 5 .u8 a0_4z a0_4), (.int .i64 a0_5), (.int .i64 a0_6), (.nums 5 .u8 a0_7z a0_7), (.nums 5 .u8 a0_8z a0_8), (.sl 22 a0_9z a0_9), (.sl 22 a0_10z a0_10)])] = (laws_toBlock.f (k + 1) a0_0 a0_1 a0_2 a0_3z a0_3 a0_4z a0_4 a0_5 a0_6 a0_7z a0_7 a0_8z a0_8 a0_9z a0_9 a0_10z a0_10).map laws_toBlock.enc := by
  refine (laws_toBlock.s k a0_0 a0_1 a0_2 a0_3z a0_3 a0_4z a0_4 a0_5 a0_6 a0_7z a0_7 a0_8z a0_8 a0_9z a0_9 a0_10z a0_10).trans (Eq.trans ?_ (laws_toBlock.b_nat laws_toBlock.enc some k a0_0 a0_1 a0_2 a0_3z a0_3 a0_4z a0_4 a0_5 a0_6 a0_7z a0_7 a0_8z a0_8 a0_9z a0_9 a0_10z a0_10))
  simp only [Option.map_some]
theorem laws_toBlock.sound (k : Nat) : SoundF Tryz.prog 26 (fun a => (laws_toBlock.ans k a).val) := by
  refine sound_plain (fun args res h => ?_) (fun t n => rfl)
  unfold laws_toBlock.ans at h
  dsimp only at h
  split at h
  · cases k with
    | zero => cases h
    | succ k =>
      unfold Ans.val at h
      rw [← laws_toBlock.eq] at h
      exact answer_sound mixed Tryz.func26 _ _ _ (k + 1) (fun j _ => tab_sound (tab_cons (laws_toByteSS.sound j) (tab_cons (laws_toHead.sound j) (tab_nil)))) _ _ h
  · exact (Ans.no_val h).elim

/-! loop.example/g00790/laws.toEntry -/
def laws_toEntry.b {R : Type} (ret : Int × Int × Bool × List Int → Option R) (k : Nat) (a0_0 : Int) (a0_1 : Int) (a0_2z : Bool) (a0_2 : List Int) : Option R :=
  (laws_toByteS.f k a0_2z a0_2).bind fun t0 => ret (a0_0, a0_1, t0.1, t0.2)
def laws_toEntry.f : Nat → Int → Int → Bool → (List Int) → Option (Int × Int × Bool × List Int)
  | 0, _, _, _, _ => none
  | k + 1, a0_0, a0_1, a0_2z, a0_2 => laws_toEntry.b some k a0_0 a0_1 a0_2z a0_2
def laws_toEntry.enc (r : Int × Int × Bool × List Int) : Res := ⟨[.vals true [((.int .i64 r.1), true), ((.int .i64 r.2.1), true), ((.nums 5 .u8 r.2.2.1 r.2.2.2), true)]], []⟩
def laws_toEntry.ans (k : Nat) : List Arg → Ans
  | [.v (.agg [(.int .i64 a0_0), (.int .i64 a0_1), (.nums 5 .u8 a0_2z a0_2)])] => ⟨laws_toEntry.f k a0_0 a0_1 a0_2z a0_2, laws_toEntry.enc⟩
  | _ => Ans.no
def laws_toEntry.Cs (k : Nat) : CallSem := tab [(54, laws_toByteS.ans k)]
def laws_toEntry.cuts : List (Nat × Keep) := []
theorem laws_toEntry.s (k : Nat) (a0_0 : Int) (a0_1 : Int) (a0_2z : Bool) (a0_2 : List Int) : answer Tryz.prog laws_toEntry.Cs 100000 laws_toEntry.cuts [] Tryz.f72 (k + 1) [.v (.agg [(.int .i64 a0_0), (.int .i64 a0_1), (.nums 5 .u8 a0_2z a0_2)])] = laws_toEntry.b (fun r => some (laws_toEntry.enc r)) k a0_0 a0_1 a0_2z a0_2 := by kernel_rfl
theorem laws_toEntry.b_nat {R R' : Type} (e : R → R') (ret : Int × Int × Bool × List Int → Option R) (k : Nat) (a0_0 : Int) (a0_1 : Int) (a0_2z : Bool) (a0_2 : List Int) : laws_toEntry.b (fun r => (ret r).map e) k a0_0 a0_1 a0_2z a0_2 = (laws_toEntry.b ret k a0_0 a0_1 a0_2z a0_2).map e := by
  unfold laws_toEntry.b
  repeat' first | with_reducible refine nat_cond ?_ ?_ | with_reducible refine nat_bind fun _ => ?_ | rfl
theorem laws_toEntry.eq (k : Nat) (a0_0 : Int) (a0_1 : Int) (a0_2z : Bool) (a0_2 : List Int) : answer Tryz.prog laws_toEntry.Cs 100000 laws_toEntry.cuts [] Tryz.f72 (k + 1) [.v (.agg [(.int .i64 a0_0), (.int .i64 a0_1), (.nums 5 .u8 a0_2z a0_2)])] = (laws_toEntry.f (k + 1) a0_0 a0_1 a0_2z a0_2).map laws_toEntry.enc := by
  refine (laws_toEntry.s k a0_0 a0_1 a0_2z a0_2).trans (Eq.trans ?_ (laws_toEntry.b_nat laws_toEntry.enc some k a0_0 a0_1 a0_2z a0_2))
  simp only [Option.map_some]
theorem laws_toEntry.sound (k : Nat) : SoundF Tryz.prog 72 (fun a => (laws_toEntry.ans k a).val) := by
  refine sound_plain (fun args res h => ?_) (fun t n => rfl)
  unfold laws_toEntry.ans at h
  dsimp only at h
  split at h
  · cases k with
    | zero => cases h
    | succ k =>
      unfold Ans.val at h
      rw [← laws_toEntry.eq] at h
      exact answer_sound mixed Tryz.func72 _ _ _ (k + 1) (fun j _ => tab_sound (tab_cons (laws_toByteS.sound j) (tab_nil))) _ _ h
  · exact (Ans.no_val h).elim

/-! loop.example/g00790/laws.toEntryS -/
def laws_toEntryS.b {R : Type} (ret : Bool × List T → Option R) (j0 : Bool → (List T) → (List T) → Int → Option R) (k : Nat) (a0z : Bool) (a0 : List T) : Option R :=
  cond (decide (((a0).length : Int) = ((a0).length : Int))) (cond (decide ((0 : Int) ≤ ((a0).length : Int))) (cond (decide ((a0).length < 3518437208883)) (j0 a0z a0 (List.replicate (a0).length (.agg [(.int .i64 0), (.int .i64 0), (.nums 5 .u8 true ([] : List Int))])) 0) (none)) (none)) (none)
def laws_toEntryS.l0b {R : Type} (ret : Bool × List T → Option R) (j0 : Bool → (List T) → (List T) → Int → Option R) (k : Nat) (x0z : Bool) (x0 : List T) (x3 : List T) (x4 : Int) : Option R :=
  cond (decide (x4 < ((x0).length : Int))) (cond (decide ((0 : Int) ≤ x4)) (cond (decide (x4 < ((x0).length : Int))) ((laws_toEntry.f k (((((x0).getD (x4).toNat .bad).cells.getD 0 .bad)).toInt) (((((x0).getD (x4).toNat .bad).cells.getD 1 .bad)).toInt) (((((x0).getD (x4).toNat .bad).cells.getD 2 .bad)).isNil) (((((x0).getD (x4).toNat .bad).cells.getD 2 .bad)).toNums)).bind fun t0 => cond (decide ((0 : Int) ≤ x4)) (cond (decide (x4 < ((x3).length : Int))) (j0 x0z x0 ((x3).set (x4).toNat (.agg [(.int .i64 t0.1), (.int .i64 t0.2.1), (.nums 5 .u8 t0.2.2.1 t0.2.2.2)])) (RowKit.wrap64 (x4 + 1))) (none)) (none)) (none)) (none)) (ret (false, x3))
def laws_toEntryS.l0 : Nat → Bool → (List T) → (List T) → Int → Option (Bool × List T)
  | 0, _, _, _, _ => none
  | k + 1, x0z, x0, x3, x4 => laws_toEntryS.l0b some (laws_toEntryS.l0 k) k x0z x0 x3 x4
def laws_toEntryS.f : Nat → Bool → (List T) → Option (Bool × List T)
  | 0, _, _ => none
  | k + 1, a0z, a0 => laws_toEntryS.b some (laws_toEntryS.l0 k) k a0z a0
def laws_toEntryS.enc (r : Bool × List T) : Res := ⟨[.vals false [((.sl 102 r.1 r.2), true)]], []⟩
def laws_toEntryS.ans (k : Nat) : List Arg → Ans
  | [.v (.sl 114 a0z a0)] => ⟨laws_toEntryS.f k a0z a0, laws_toEntryS.enc⟩
  | _ => Ans.no
def laws_toEntryS.Cs (k : Nat) : CallSem := tab [(72, laws_toEntry.ans k)]
def laws_toEntryS.cuts : List (Nat × Keep) := [(58, ⟨[(0, some []), (3, none), (4, some [])], []⟩)]
noncomputable def laws_toEntryS.K0 : List Fr := framesAt [true, true, false, true, false] (bodyOf Tryz.f56 laws_toEntryS.cuts) []
def laws_toEntryS.N0 (x0z : Bool) (x0 : List T) (x3 : List T) (x4 : Int) : St := stOf 23 23 1 [(0, .val ⟨(.sl 114 x0z x0), [], false, none⟩), (3, .val ⟨(.sl 102 false x3), [.l 3 0], true, some (.l 3 0)⟩), (4, .val (V.s (.int .i64 x4)))] []
theorem laws_toEntryS.s (k : Nat) (a0z : Bool) (a0 : List T) : answer Tryz.prog laws_toEntryS.Cs 100000 laws_toEntryS.cuts [] Tryz.f56 (k + 1) [.v (.sl 114 a0z a0)] = laws_toEntryS.b (fun r => some (laws_toEntryS.enc r)) (fun x0z x0 x3 x4 => rounds Tryz.prog laws_toEntryS.Cs (finish Tryz.prog [] Tryz.f56 [.v (.sl 114 a0z a0)]) 100000 k laws_toEntryS.K0 (laws_toEntryS.N0 x0z x0 x3 x4)) k a0z a0 := by kernel_rfl
theorem laws_toEntryS.s0 (k : Nat) (G : List Fr → St → Option Res) (a0z : Bool) (a0 : List T) (yx0z : Bool) (yx0 : List T) (yx3 : List T) (yx4 : Int) : resume Tryz.prog (laws_toEntryS.Cs k) G (finish Tryz.prog [] Tryz.f56 [.v (.sl 114 a0z a0)]) 100000 laws_toEntryS.K0 (laws_toEntryS.N0 yx0z yx0 yx3 yx4) = laws_toEntryS.l0b (fun r => some (laws_toEntryS.enc r)) (fun x0z x0 x3 x4 => G laws_toEntryS.K0 (laws_toEntryS.N0 x0z x0 x3 x4)) k yx0z yx0 yx3 yx4 := by kernel_rfl
theorem laws_toEntryS.b_nat {R R' : Type} (e : R → R') (ret : Bool × List T → Option R) (j0 : Bool → (List T) → (List T) → Int → Option R) (k : Nat) (a0z : Bool) (a0 : List T) : laws_toEntryS.b (fun r => (ret r).map e) (fun x0z x0 x3 x4 => (j0 x0z x0 x3 x4).map e) k a0z a0 = (laws_toEntryS.b ret j0 k a0z a0).map e := by
  unfold laws_toEntryS.b
  repeat' first | with_reducible refine nat_cond ?_ ?_ | with_reducible refine nat_bind fun _ => ?_ | rfl
theorem laws_toEntryS.l0b_nat {R R' : Type} (e : R → R') (ret : Bool × List T → Option R) (j0 : Bool → (List T) → (List T) → Int → Option R) (k : Nat) (x0z : Bool) (x0 : List T) (x3 : List T) (x4 : Int) : laws_toEntryS.l0b (fun r => (ret r).map e) (fun x0z x0 x3 x4 => (j0 x0z x0 x3 x4).map e) k x0z x0 x3 x4 = (laws_toEntryS.l0b ret j0 k x0z x0 x3 x4).map e := by
  unfold laws_toEntryS.l0b
  repeat' first | with_reducible refine nat_cond ?_ ?_ | with_reducible refine nat_bind fun _ => ?_ | rfl
theorem laws_toEntryS.rounds_eq (a0z : Bool) (a0 : List T) : ∀ k, (∀ (x0z : Bool) (x0 : List T) (x3 : List T) (x4 : Int), rounds Tryz.prog laws_toEntryS.Cs (finish Tryz.prog [] Tryz.f56 [.v (.sl 114 a0z a0)]) 100000 k laws_toEntryS.K0 (laws_toEntryS.N0 x0z x0 x3 x4) = (laws_toEntryS.l0 k x0z x0 x3 x4).map laws_toEntryS.enc)
  | 0 => fun _ _ _ _ => rfl
  | k + 1 => by
    have ih := laws_toEntryS.rounds_eq a0z a0 k
    refine fun _ _ _ _ => ?_
    · refine (laws_toEntryS.s0 k _ a0z a0 _ _ _ _).trans (Eq.trans ?_ (laws_toEntryS.l0b_nat laws_toEntryS.enc some (laws_toEntryS.l0 k) k _ _ _ _))
      simp only [ih, Option.map_some]
theorem laws_toEntryS.eq (k : Nat) (a0z : Bool) (a0 : List T) : answer Tryz.prog laws_toEntryS.Cs 100000 laws_toEntryS.cuts [] Tryz.f56 (k + 1) [.v (.sl 114 a0z a0)] = (laws_toEntryS.f (k + 1) a0z a0).map laws_toEntryS.enc := by
  have ih := laws_toEntryS.rounds_eq a0z a0 k
  refine (laws_toEntryS.s k a0z a0).trans (Eq.trans ?_ (laws_toEntryS.b_nat laws_toEntryS.enc some (laws_toEntryS.l0 k) k a0z a0))
  simp only [ih, Option.map_some]
theorem laws_toEntryS.sound (k : Nat) : SoundF Tryz.prog 56 (fun a => (laws_toEntryS.ans k a).val) := by
  refine sound_plain (fun args res h => ?_) (fun t n => rfl)
  unfold laws_toEntryS.ans at h
  dsimp only at h
  split at h
  · cases k with
    | zero => cases h
    | succ k =>
      unfold Ans.val at h
      rw [← laws_toEntryS.eq] at h
      exact answer_sound mixed Tryz.func56 _ _ _ (k + 1) (fun j _ => tab_sound (tab_cons (laws_toEntry.sound j) (tab_nil))) _ _ h
  · exact (Ans.no_val h).elim

end Go.Proofs.YtjffolalgcmhaaaGreatDoorG
