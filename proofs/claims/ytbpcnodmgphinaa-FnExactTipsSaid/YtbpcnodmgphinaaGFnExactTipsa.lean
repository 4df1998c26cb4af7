/- What the functions compute, printed by a program of this repo; each is shown to be what the machine of values answers. No condition. -/
import Derived.Test.YtbpcnodmgphinaaProg
import Derived.KernelRfl
import Derived.Test.YtbpcnodmgphinaaRvD
namespace Go.Proofs.YtbpcnodmgphinaaG
open Go Go.Proofs.YtbpcnodmgphinaaRv Go.Proofs
set_option linter.unusedVariables false
set_option linter.unusedSimpArgs false
theorem mixed : Try.prog.follows .mixedOrders = true := by kernel_rfl
def laws_szByteS.b {R : Type} (ret : Int → Option R) (k : Nat) (a0z : Bool) (a0 : List Int) (a1 : Int) : Option R :=
  cond (decide ((RowKit.wrap64 (a1 - ((a0).length : Int))) < 0)) (ret (-1)) (ret (RowKit.wrap64 (a1 - ((a0).length : Int))))
def laws_szByteS.f : Nat → Bool → (List Int) → Int → Option Int
  | 0, _, _, _ => none
  | k + 1, a0z, a0, a1 => laws_szByteS.b some k a0z a0 a1
def laws_szByteS.enc (r : Int) : Res := ⟨[.vals false [((.int .i64 r), true)]], []⟩
def laws_szByteS.ans (k : Nat) : List Arg → Ans
  | [.v (.nums 5 .u8 a0z a0), .v (.int .i64 a1)] => ⟨laws_szByteS.f k a0z a0 a1, laws_szByteS.enc⟩
  | _ => Ans.no
def laws_szByteS.Cs (k : Nat) : CallSem := tab []
theorem laws_szByteS.eq (k : Nat) (a0z : Bool) (a0 : List Int) (a1 : Int) : answer Try.prog laws_szByteS.Cs 100000 [] [] Try.f185 (k + 1) [.v (.nums 5 .u8 a0z a0), .v (.int .i64 a1)] = (laws_szByteS.f (k + 1) a0z a0 a1).map laws_szByteS.enc := by
  refine Eq.trans (b := laws_szByteS.b (fun r => some (laws_szByteS.enc r)) k a0z a0 a1) (by kernel_rfl) ?_
  show _ = (laws_szByteS.b some k a0z a0 a1).map laws_szByteS.enc
  unfold laws_szByteS.b
  repeat' first | with_reducible refine nat_cond ?_ ?_ | with_reducible refine nat_bind fun _ => ?_ | rfl
theorem laws_szByteS.sound (k : Nat) : SoundF Try.prog 185 (fun a => (laws_szByteS.ans k a).val) := by
  refine sound_plain (fun args res h => ?_) (fun t n => rfl)
  unfold laws_szByteS.ans at h
  dsimp only at h
  split at h
  · cases k with
    | zero => cases h
    | succ k =>
      unfold Ans.val at h
      rw [← laws_szByteS.eq] at h
      exact answer_sound mixed Try.func185 _ _ _ (k + 1) (fun j _ => tab_sound (tab_nil)) _ _ h
  · exact (Ans.no_val h).elim

def laws_szByteSS.b {R : Type} (ret : Int → Option R) (j0 : Bool → (List T) → Int → Int → Option R) (k : Nat) (a0z : Bool) (a0 : List T) (a1 : Int) : Option R :=
  cond (decide ((RowKit.wrap64 (a1 - ((a0).length : Int))) < 0)) (ret (-1)) (j0 a0z a0 (RowKit.wrap64 (a1 - ((a0).length : Int))) 0)
def laws_szByteSS.l0b {R : Type} (ret : Int → Option R) (j0 : Bool → (List T) → Int → Int → Option R) (k : Nat) (x0z : Bool) (x0 : List T) (x1 x5 : Int) : Option R :=
  cond (decide (x5 < ((x0).length : Int))) (cond (decide ((0 : Int) ≤ x5)) (cond (decide (x5 < ((x0).length : Int))) ((laws_szByteS.f k (((((x0).getD (x5).toNat .bad).cells.getD 0 .bad)).isNil) (((((x0).getD (x5).toNat .bad).cells.getD 0 .bad)).toNums) x1).bind fun t0 => cond (decide (t0 < 0)) (ret (-1)) (j0 x0z x0 t0 (RowKit.wrap64 (x5 + 1)))) (none)) (none)) (ret x1)
def laws_szByteSS.l0 : Nat → Bool → (List T) → Int → Int → Option Int
  | 0, _, _, _, _ => none
  | k + 1, x0z, x0, x1, x5 => laws_szByteSS.l0b some (laws_szByteSS.l0 k) k x0z x0 x1 x5
def laws_szByteSS.f : Nat → Bool → (List T) → Int → Option Int
  | 0, _, _, _ => none
  | k + 1, a0z, a0, a1 => laws_szByteSS.b some (laws_szByteSS.l0 k) k a0z a0 a1
def laws_szByteSS.enc (r : Int) : Res := ⟨[.vals false [((.int .i64 r), true)]], []⟩
def laws_szByteSS.ans (k : Nat) : List Arg → Ans
  | [.v (.sl 22 a0z a0), .v (.int .i64 a1)] => ⟨laws_szByteSS.f k a0z a0 a1, laws_szByteSS.enc⟩
  | _ => Ans.no
def laws_szByteSS.Cs (k : Nat) : CallSem := tab [(185, laws_szByteS.ans k)]
def laws_szByteSS.cuts : List (Nat × Keep) := [(122, ⟨[(0, some []), (1, some []), (5, some [])], []⟩)]
noncomputable def laws_szByteSS.K0 : List Fr := framesAt [true, true, true, false, true, false] (bodyOf Try.f233 laws_szByteSS.cuts) []
def laws_szByteSS.N0 (x0z : Bool) (x0 : List T) (x1 x5 : Int) : St := stOf 27 27 2 [(0, .val ⟨(.sl 22 x0z x0), [], false, none⟩), (1, .val (V.s (.int .i64 x1))), (5, .val (V.s (.int .i64 x5)))] []
theorem laws_szByteSS.s0 (k : Nat) (G : List Fr → St → Option Res) (a0z : Bool) (a0 : List T) (a1 : Int) (yx0z : Bool) (yx0 : List T) (yx1 yx5 : Int) : resume Try.prog (laws_szByteSS.Cs k) G (finish Try.prog [] Try.f233 [.v (.sl 22 a0z a0), .v (.int .i64 a1)]) 100000 laws_szByteSS.K0 (laws_szByteSS.N0 yx0z yx0 yx1 yx5) = laws_szByteSS.l0b (fun r => some (laws_szByteSS.enc r)) (fun x0z x0 x1 x5 => G laws_szByteSS.K0 (laws_szByteSS.N0 x0z x0 x1 x5)) k yx0z yx0 yx1 yx5 := by kernel_rfl
theorem laws_szByteSS.bn {R R' : Type} (e : R → R') (ret : Int → Option R) (j0 : Bool → (List T) → Int → Int → Option R) (k : Nat) (a0z : Bool) (a0 : List T) (a1 : Int) : laws_szByteSS.b (fun r => (ret r).map e) (fun x0z x0 x1 x5 => (j0 x0z x0 x1 x5).map e) k a0z a0 a1 = (laws_szByteSS.b ret j0 k a0z a0 a1).map e := by
  unfold laws_szByteSS.b
  repeat' first | with_reducible refine nat_cond ?_ ?_ | with_reducible refine nat_bind fun _ => ?_ | rfl
theorem laws_szByteSS.l0n {R R' : Type} (e : R → R') (ret : Int → Option R) (j0 : Bool → (List T) → Int → Int → Option R) (k : Nat) (x0z : Bool) (x0 : List T) (x1 x5 : Int) : laws_szByteSS.l0b (fun r => (ret r).map e) (fun x0z x0 x1 x5 => (j0 x0z x0 x1 x5).map e) k x0z x0 x1 x5 = (laws_szByteSS.l0b ret j0 k x0z x0 x1 x5).map e := by
  unfold laws_szByteSS.l0b
  repeat' first | with_reducible refine nat_cond ?_ ?_ | with_reducible refine nat_bind fun _ => ?_ | rfl
theorem laws_szByteSS.rq (a0z : Bool) (a0 : List T) (a1 : Int) : ∀ k, (∀ (x0z : Bool) (x0 : List T) (x1 x5 : Int), rounds Try.prog laws_szByteSS.Cs (finish Try.prog [] Try.f233 [.v (.sl 22 a0z a0), .v (.int .i64 a1)]) 100000 k laws_szByteSS.K0 (laws_szByteSS.N0 x0z x0 x1 x5) = (laws_szByteSS.l0 k x0z x0 x1 x5).map laws_szByteSS.enc)
  | 0 => fun _ _ _ _ => rfl
  | k + 1 => by
    have ih := laws_szByteSS.rq a0z a0 a1 k
    refine fun _ _ _ _ => ?_
    · refine (laws_szByteSS.s0 k _ a0z a0 a1 _ _ _ _).trans (Eq.trans ?_ (laws_szByteSS.l0n laws_szByteSS.enc some (laws_szByteSS.l0 k) k _ _ _ _))
      simp only [ih, Option.map_some]
theorem laws_szByteSS.eq (k : Nat) (a0z : Bool) (a0 : List T) (a1 : Int) : answer Try.prog laws_szByteSS.Cs 100000 laws_szByteSS.cuts [] Try.f233 (k + 1) [.v (.sl 22 a0z a0), .v (.int .i64 a1)] = (laws_szByteSS.f (k + 1) a0z a0 a1).map laws_szByteSS.enc := by
  have ih := laws_szByteSS.rq a0z a0 a1 k
  refine Eq.trans (b := laws_szByteSS.b (fun r => some (laws_szByteSS.enc r)) (fun x0z x0 x1 x5 => rounds Try.prog laws_szByteSS.Cs (finish Try.prog [] Try.f233 [.v (.sl 22 a0z a0), .v (.int .i64 a1)]) 100000 k laws_szByteSS.K0 (laws_szByteSS.N0 x0z x0 x1 x5)) k a0z a0 a1) (by kernel_rfl) (Eq.trans ?_ (laws_szByteSS.bn laws_szByteSS.enc some (laws_szByteSS.l0 k) k a0z a0 a1))
  simp only [ih, Option.map_some]
theorem laws_szByteSS.sound (k : Nat) : SoundF Try.prog 233 (fun a => (laws_szByteSS.ans k a).val) := by
  refine sound_plain (fun args res h => ?_) (fun t n => rfl)
  unfold laws_szByteSS.ans at h
  dsimp only at h
  split at h
  · cases k with
    | zero => cases h
    | succ k =>
      unfold Ans.val at h
      rw [← laws_szByteSS.eq] at h
      exact answer_sound mixed Try.func233 _ _ _ (k + 1) (fun j _ => tab_sound (tab_cons (laws_szByteS.sound j) (tab_nil))) _ _ h
  · exact (Ans.no_val h).elim

def laws_szQc.b {R : Type} (ret : Int → Option R) (k : Nat) (a0_0 a0_1 : Int) (a0_2z : Bool) (a0_2 : List Int) (a0_3z : Bool) (a0_3 : List Int) (a0_4z : Bool) (a0_4 : List T) (a1 : Int) : Option R :=
  (laws_szByteS.f k a0_2z a0_2 a1).bind fun t0 => cond (decide (t0 < 0)) (ret (-1)) ((laws_szByteS.f k a0_3z a0_3 t0).bind fun t1 => cond (decide (t1 < 0)) (ret (-1)) ((laws_szByteSS.f k a0_4z a0_4 t1).bind fun t2 => cond (decide (t2 < 0)) (ret (-1)) (ret t2)))
def laws_szQc.f : Nat → Int → Int → Bool → (List Int) → Bool → (List Int) → Bool → (List T) → Int → Option Int
  | 0, _, _, _, _, _, _, _, _, _ => none
  | k + 1, a0_0, a0_1, a0_2z, a0_2, a0_3z, a0_3, a0_4z, a0_4, a1 => laws_szQc.b some k a0_0 a0_1 a0_2z a0_2 a0_3z a0_3 a0_4z a0_4 a1
def laws_szQc.enc (r : Int) : Res := ⟨[.vals false [((.int .i64 r), true)]], []⟩
def laws_szQc.ans (k : Nat) : List Arg → Ans
  | [.v (.agg [(.int .i64 a0_0), (.int .i64 a0_1), (.nums 5 .u8 a0_2z a0_2), (.nums 5 .u8 a0_3z a0_3), (.sl 22 a0_4z a0_4)]), .v (.int .i64 a1)] => ⟨laws_szQc.f k a0_0 a0_1 a0_2z a0_2 a0_3z a0_3 a0_4z a0_4 a1, laws_szQc.enc⟩
  | _ => Ans.no
def laws_szQc.Cs (k : Nat) : CallSem := tab [(185, laws_szByteS.ans k), (233, laws_szByteSS.ans k)]
theorem laws_szQc.eq (k : Nat) (a0_0 a0_1 : Int) (a0_2z : Bool) (a0_2 : List Int) (a0_3z : Bool) (a0_3 : List Int) (a0_4z : Bool) (a0_4 : List T) (a1 : Int) : answer Try.prog laws_szQc.Cs 100000 [] [] Try.f216 (k + 1) [.v (.agg [(.int .i64 a0_0), (.int .i64 a0_1), (.nums 5 .u8 a0_2z a0_2), (.nums 5 .u8 a0_3z a0_3), (.sl 22 a0_4z a0_4)]), .v (.int .i64 a1)] = (laws_szQc.f (k + 1) a0_0 a0_1 a0_2z a0_2 a0_3z a0_3 a0_4z a0_4 a1).map laws_szQc.enc := by
  refine Eq.trans (b := laws_szQc.b (fun r => some (laws_szQc.enc r)) k a0_0 a0_1 a0_2z a0_2 a0_3z a0_3 a0_4z a0_4 a1) (by kernel_rfl) ?_
  show _ = (laws_szQc.b some k a0_0 a0_1 a0_2z a0_2 a0_3z a0_3 a0_4z a0_4 a1).map laws_szQc.enc
  unfold laws_szQc.b
  repeat' first | with_reducible refine nat_cond ?_ ?_ | with_reducible refine nat_bind fun _ => ?_ | rfl
theorem laws_szQc.sound (k : Nat) : SoundF Try.prog 216 (fun a => (laws_szQc.ans k a).val) := by
  refine sound_plain (fun args res h => ?_) (fun t n => rfl)
  unfold laws_szQc.ans at h
  dsimp only at h
  split at h
  · cases k with
    | zero => cases h
    | succ k =>
      unfold Ans.val at h
      rw [← laws_szQc.eq] at h
      exact answer_sound mixed Try.func216 _ _ _ (k + 1) (fun j _ => tab_sound (tab_cons (laws_szByteS.sound j) (tab_cons (laws_szByteSS.sound j) (tab_nil)))) _ _ h
  · exact (Ans.no_val h).elim

def laws_szHead.b {R : Type} (ret : Int → Option R) (k : Nat) (a0_0 a0_1 a0_2 : Int) (a0_3z : Bool) (a0_3 : List Int) (a0_4z : Bool) (a0_4 : List Int) (a0_5 a0_6 : Int) (a0_7z : Bool) (a0_7 : List Int) (a0_8z : Bool) (a0_8 : List Int) (a0_9z : Bool) (a0_9 : List T) (a1 : Int) : Option R :=
  (laws_szByteS.f k a0_3z a0_3 a1).bind fun t0 => cond (decide (t0 < 0)) (ret (-1)) ((laws_szByteS.f k a0_4z a0_4 t0).bind fun t1 => cond (decide (t1 < 0)) (ret (-1)) ((laws_szQc.f k a0_5 a0_6 a0_7z a0_7 a0_8z a0_8 a0_9z a0_9 t1).bind fun t2 => cond (decide (t2 < 0)) (ret (-1)) (ret t2)))
def laws_szHead.f : Nat → Int → Int → Int → Bool → (List Int) → Bool → (List Int) → Int → Int → Bool → (List Int) → Bool → (List Int) → Bool → (List T) → Int → Option Int
  | 0, _, _, _, _, _, _, _, _, _, _, _, _, _, _, _, _ => none
  | k + 1, a0_0, a0_1, a0_2, a0_3z, a0_3, a0_4z, a0_4, a0_5, a0_6, a0_7z, a0_7, a0_8z, a0_8, a0_9z, a0_9, a1 => laws_szHead.b some k a0_0 a0_1 a0_2 a0_3z a0_3 a0_4z a0_4 a0_5 a0_6 a0_7z a0_7 a0_8z a0_8 a0_9z a0_9 a1
def laws_szHead.enc (r : Int) : Res := ⟨[.vals false [((.int .i64 r), true)]], []⟩
def laws_szHead.ans (k : Nat) : List Arg → Ans
  | [.v (.agg [(.int .i64 a0_0), (.int .i64 a0_1), (.int .i64 a0_2), (.nums 5 .u8 a0_3z a0_3), (.nums 5 .u8 a0_4z a0_4), (.int .i64 a0_5), (.int .i64 a0_6), (.nums 5 .u8 a0_7z a0_7), (.nums 5 .u8 a0_8z a0_8), (.sl 22 a0_9z a0_9)]), .v (.int .i64 a1)] => ⟨laws_szHead.f k a0_0 a0_1 a0_2 a0_3z a0_3 a0_4z a0_4 a0_5 a0_6 a0_7z a0_7 a0_8z a0_8 a0_9z a0_9 a1, laws_szHead.enc⟩
  | _ => Ans.no
def laws_szHead.Cs (k : Nat) : CallSem := tab [(185, laws_szByteS.ans k), (216, laws_szQc.ans k)]
theorem laws_szHead.eq (k : Nat) (a0_0 a0_1 a0_2 : Int) (a0_3z : Bool) (a0_3 : List Int) (a0_4z : Bool) (a0_4 : List Int) (a0_5 a0_6 : Int) (a0_7z : Bool) (a0_7 : List Int) (a0_8z : Bool) (a0_8 : List Int) (a0_9z : Bool) (a0_9 : List T) (a1 : Int) : answer Try.prog laws_szHead.Cs 100000 [] [] Try.f178 (k + 1) [.v (.agg [(.int .i64 a0_0), (.int .i64 a0_1), (.int .i64 a0_2), (.nums 5 .u8 a0_3z a0_3), (.nums 5 .u8 a0_4z a0_4), (.int .i64 a0_5), (.int .i64 a0_6), (.nums 5 .u8 a0_7z a0_7), (.nums 5 .u8 a0_8z a0_8), (.sl 22 a0_9z a0_9)]), .v (.int .i64 a1)] = (laws_szHead.f (k + 1) a0_0 a0_1 a0_2 a0_3z a0_3 a0_4z a0_4 a0_5 a0_6 a0_7z a0_7 a0_8z a0_8 a0_9z a0_9 a1).map laws_szHead.enc := by
  refine Eq.trans (b := laws_szHead.b (fun r => some (laws_szHead.enc r)) k a0_0 a0_1 a0_2 a0_3z a0_3 a0_4z a0_4 a0_5 a0_6 a0_7z a0_7 a0_8z a0_8 a0_9z a0_9 a1) (by kernel_rfl) ?_
  show _ = (laws_szHead.b some k a0_0 a0_1 a0_2 a0_3z a0_3 a0_4z a0_4 a0_5 a0_6 a0_7z a0_7 a0_8z a0_8 a0_9z a0_9 a1).map laws_szHead.enc
  unfold laws_szHead.b
  repeat' first | with_reducible refine nat_cond ?_ ?_ | with_reducible refine nat_bind fun _ => ?_ | rfl
theorem laws_szHead.sound (k : Nat) : SoundF Try.prog 178 (fun a => (laws_szHead.ans k a).val) := by
  refine sound_plain (fun args res h => ?_) (fun t n => rfl)
  unfold laws_szHead.ans at h
  dsimp only at h
  split at h
  · cases k with
    | zero => cases h
    | succ k =>
      unfold Ans.val at h
      rw [← laws_szHead.eq] at h
      exact answer_sound mixed Try.func178 _ _ _ (k + 1) (fun j _ => tab_sound (tab_cons (laws_szByteS.sound j) (tab_cons (laws_szQc.sound j) (tab_nil)))) _ _ h
  · exact (Ans.no_val h).elim

def laws_szHeadS.b {R : Type} (ret : Int → Option R) (j0 : Bool → (List T) → Int → Int → Option R) (k : Nat) (a0z : Bool) (a0 : List T) (a1 : Int) : Option R :=
  cond (decide ((RowKit.wrap64 (a1 - ((a0).length : Int))) < 0)) (ret (-1)) (j0 a0z a0 (RowKit.wrap64 (a1 - ((a0).length : Int))) 0)
def laws_szHeadS.l0b {R : Type} (ret : Int → Option R) (j0 : Bool → (List T) → Int → Int → Option R) (k : Nat) (x0z : Bool) (x0 : List T) (x1 x5 : Int) : Option R :=
  cond (decide (x5 < ((x0).length : Int))) (cond (decide ((0 : Int) ≤ x5)) (cond (decide (x5 < ((x0).length : Int))) ((laws_szHead.f k (((((x0).getD (x5).toNat .bad).cells.getD 0 .bad)).toInt) (((((x0).getD (x5).toNat .bad).cells.getD 1 .bad)).toInt) (((((x0).getD (x5).toNat .bad).cells.getD 2 .bad)).toInt) (((((x0).getD (x5).toNat .bad).cells.getD 3 .bad)).isNil) (((((x0).getD (x5).toNat .bad).cells.getD 3 .bad)).toNums) (((((x0).getD (x5).toNat .bad).cells.getD 4 .bad)).isNil) (((((x0).getD (x5).toNat .bad).cells.getD 4 .bad)).toNums) (((((x0).getD (x5).toNat .bad).cells.getD 5 .bad)).toInt) (((((x0).getD (x5).toNat .bad).cells.getD 6 .bad)).toInt) (((((x0).getD (x5).toNat .bad).cells.getD 7 .bad)).isNil) (((((x0).getD (x5).toNat .bad).cells.getD 7 .bad)).toNums) (((((x0).getD (x5).toNat .bad).cells.getD 8 .bad)).isNil) (((((x0).getD (x5).toNat .bad).cells.getD 8 .bad)).toNums) (((((x0).getD (x5).toNat .bad).cells.getD 9 .bad)).isNil) (((((x0).getD (x5).toNat .bad).cells.getD 9 .bad)).toList) x1).bind fun t0 => cond (decide (t0 < 0)) (ret (-1)) (j0 x0z x0 t0 (RowKit.wrap64 (x5 + 1)))) (none)) (none)) (ret x1)
def laws_szHeadS.l0 : Nat → Bool → (List T) → Int → Int → Option Int
  | 0, _, _, _, _ => none
  | k + 1, x0z, x0, x1, x5 => laws_szHeadS.l0b some (laws_szHeadS.l0 k) k x0z x0 x1 x5
def laws_szHeadS.f : Nat → Bool → (List T) → Int → Option Int
  | 0, _, _, _ => none
  | k + 1, a0z, a0, a1 => laws_szHeadS.b some (laws_szHeadS.l0 k) k a0z a0 a1
def laws_szHeadS.enc (r : Int) : Res := ⟨[.vals false [((.int .i64 r), true)]], []⟩
def laws_szHeadS.ans (k : Nat) : List Arg → Ans
  | [.v (.sl 200 a0z a0), .v (.int .i64 a1)] => ⟨laws_szHeadS.f k a0z a0 a1, laws_szHeadS.enc⟩
  | _ => Ans.no
def laws_szHeadS.Cs (k : Nat) : CallSem := tab [(178, laws_szHead.ans k)]
def laws_szHeadS.cuts : List (Nat × Keep) := [(122, ⟨[(0, some []), (1, some []), (5, some [])], []⟩)]
noncomputable def laws_szHeadS.K0 : List Fr := framesAt [true, true, true, false, true, false] (bodyOf Try.f127 laws_szHeadS.cuts) []
def laws_szHeadS.N0 (x0z : Bool) (x0 : List T) (x1 x5 : Int) : St := stOf 27 27 2 [(0, .val ⟨(.sl 200 x0z x0), [], false, none⟩), (1, .val (V.s (.int .i64 x1))), (5, .val (V.s (.int .i64 x5)))] []
theorem laws_szHeadS.s0 (k : Nat) (G : List Fr → St → Option Res) (a0z : Bool) (a0 : List T) (a1 : Int) (yx0z : Bool) (yx0 : List T) (yx1 yx5 : Int) : resume Try.prog (laws_szHeadS.Cs k) G (finish Try.prog [] Try.f127 [.v (.sl 200 a0z a0), .v (.int .i64 a1)]) 100000 laws_szHeadS.K0 (laws_szHeadS.N0 yx0z yx0 yx1 yx5) = laws_szHeadS.l0b (fun r => some (laws_szHeadS.enc r)) (fun x0z x0 x1 x5 => G laws_szHeadS.K0 (laws_szHeadS.N0 x0z x0 x1 x5)) k yx0z yx0 yx1 yx5 := by kernel_rfl
theorem laws_szHeadS.bn {R R' : Type} (e : R → R') (ret : Int → Option R) (j0 : Bool → (List T) → Int → Int → Option R) (k : Nat) (a0z : Bool) (a0 : List T) (a1 : Int) : laws_szHeadS.b (fun r => (ret r).map e) (fun x0z x0 x1 x5 => (j0 x0z x0 x1 x5).map e) k a0z a0 a1 = (laws_szHeadS.b ret j0 k a0z a0 a1).map e := by
  unfold laws_szHeadS.b
  repeat' first | with_reducible refine nat_cond ?_ ?_ | with_reducible refine nat_bind fun _ => ?_ | rfl
theorem laws_szHeadS.l0n {R R' : Type} (e : R → R') (ret : Int → Option R) (j0 : Bool → (List T) → Int → Int → Option R) (k : Nat) (x0z : Bool) (x0 : List T) (x1 x5 : Int) : laws_szHeadS.l0b (fun r => (ret r).map e) (fun x0z x0 x1 x5 => (j0 x0z x0 x1 x5).map e) k x0z x0 x1 x5 = (laws_szHeadS.l0b ret j0 k x0z x0 x1 x5).map e := by
  unfold laws_szHeadS.l0b
  repeat' first | with_reducible refine nat_cond ?_ ?_ | with_reducible refine nat_bind fun _ => ?_ | rfl
theorem laws_szHeadS.rq (a0z : Bool) (a0 : List T) (a1 : Int) : ∀ k, (∀ (x0z : Bool) (x0 : List T) (x1 x5 : Int), rounds Try.prog laws_szHeadS.Cs (finish Try.prog [] Try.f127 [.v (.sl 200 a0z a0), .v (.int .i64 a1)]) 100000 k laws_szHeadS.K0 (laws_szHeadS.N0 x0z x0 x1 x5) = (laws_szHeadS.l0 k x0z x0 x1 x5).map laws_szHeadS.enc)
  | 0 => fun _ _ _ _ => rfl
  | k + 1 => by
    have ih := laws_szHeadS.rq a0z a0 a1 k
    refine fun _ _ _ _ => ?_
    · refine (laws_szHeadS.s0 k _ a0z a0 a1 _ _ _ _).trans (Eq.trans ?_ (laws_szHeadS.l0n laws_szHeadS.enc some (laws_szHeadS.l0 k) k _ _ _ _))
      simp only [ih, Option.map_some]
theorem laws_szHeadS.eq (k : Nat) (a0z : Bool) (a0 : List T) (a1 : Int) : answer Try.prog laws_szHeadS.Cs 100000 laws_szHeadS.cuts [] Try.f127 (k + 1) [.v (.sl 200 a0z a0), .v (.int .i64 a1)] = (laws_szHeadS.f (k + 1) a0z a0 a1).map laws_szHeadS.enc := by
  have ih := laws_szHeadS.rq a0z a0 a1 k
  refine Eq.trans (b := laws_szHeadS.b (fun r => some (laws_szHeadS.enc r)) (fun x0z x0 x1 x5 => rounds Try.prog laws_szHeadS.Cs (finish Try.prog [] Try.f127 [.v (.sl 200 a0z a0), .v (.int .i64 a1)]) 100000 k laws_szHeadS.K0 (laws_szHeadS.N0 x0z x0 x1 x5)) k a0z a0 a1) (by kernel_rfl) (Eq.trans ?_ (laws_szHeadS.bn laws_szHeadS.enc some (laws_szHeadS.l0 k) k a0z a0 a1))
  simp only [ih, Option.map_some]
theorem laws_szHeadS.sound (k : Nat) : SoundF Try.prog 127 (fun a => (laws_szHeadS.ans k a).val) := by
  refine sound_plain (fun args res h => ?_) (fun t n => rfl)
  unfold laws_szHeadS.ans at h
  dsimp only at h
  split at h
  · cases k with
    | zero => cases h
    | succ k =>
      unfold Ans.val at h
      rw [← laws_szHeadS.eq] at h
      exact answer_sound mixed Try.func127 _ _ _ (k + 1) (fun j _ => tab_sound (tab_cons (laws_szHead.sound j) (tab_nil))) _ _ h
  · exact (Ans.no_val h).elim

def laws_szForest.b {R : Type} (ret : Int → Option R) (k : Nat) (a0_0 a0_1 : Int) (a0_2 a0_3 a0_4 : Int) (a0_5z : Bool) (a0_5 : List T) (a1 : Int) : Option R :=
  (laws_szHeadS.f k a0_5z a0_5 a1).bind fun t0 => cond (decide (t0 < 0)) (ret (-1)) (ret t0)
def laws_szForest.f : Nat → Int → Int → Int → Int → Int → Bool → (List T) → Int → Option Int
  | 0, _, _, _, _, _, _, _, _ => none
  | k + 1, a0_0, a0_1, a0_2, a0_3, a0_4, a0_5z, a0_5, a1 => laws_szForest.b some k a0_0 a0_1 a0_2 a0_3 a0_4 a0_5z a0_5 a1
def laws_szForest.enc (r : Int) : Res := ⟨[.vals false [((.int .i64 r), true)]], []⟩
def laws_szForest.ans (k : Nat) : List Arg → Ans
  | [.v (.agg [(.int .i64 a0_0), (.int .i64 a0_1), (.int .i64 a0_2), (.int .i64 a0_3), (.int .i64 a0_4), (.sl 200 a0_5z a0_5)]), .v (.int .i64 a1)] => ⟨laws_szForest.f k a0_0 a0_1 a0_2 a0_3 a0_4 a0_5z a0_5 a1, laws_szForest.enc⟩
  | _ => Ans.no
def laws_szForest.Cs (k : Nat) : CallSem := tab [(127, laws_szHeadS.ans k)]
theorem laws_szForest.eq (k : Nat) (a0_0 a0_1 : Int) (a0_2 a0_3 a0_4 : Int) (a0_5z : Bool) (a0_5 : List T) (a1 : Int) : answer Try.prog laws_szForest.Cs 100000 [] [] Try.f53 (k + 1) [.v (.agg [(.int .i64 a0_0), (.int .i64 a0_1), (.int .i64 a0_2), (.int .i64 a0_3), (.int .i64 a0_4), (.sl 200 a0_5z a0_5)]), .v (.int .i64 a1)] = (laws_szForest.f (k + 1) a0_0 a0_1 a0_2 a0_3 a0_4 a0_5z a0_5 a1).map laws_szForest.enc := by
  refine Eq.trans (b := laws_szForest.b (fun r => some (laws_szForest.enc r)) k a0_0 a0_1 a0_2 a0_3 a0_4 a0_5z a0_5 a1) (by kernel_rfl) ?_
  show _ = (laws_szForest.b some k a0_0 a0_1 a0_2 a0_3 a0_4 a0_5z a0_5 a1).map laws_szForest.enc
  unfold laws_szForest.b
  repeat' first | with_reducible refine nat_cond ?_ ?_ | with_reducible refine nat_bind fun _ => ?_ | rfl
theorem laws_szForest.sound (k : Nat) : SoundF Try.prog 53 (fun a => (laws_szForest.ans k a).val) := by
  refine sound_plain (fun args res h => ?_) (fun t n => rfl)
  unfold laws_szForest.ans at h
  dsimp only at h
  split at h
  · cases k with
    | zero => cases h
    | succ k =>
      unfold Ans.val at h
      rw [← laws_szForest.eq] at h
      exact answer_sound mixed Try.func53 _ _ _ (k + 1) (fun j _ => tab_sound (tab_cons (laws_szHeadS.sound j) (tab_nil))) _ _ h
  · exact (Ans.no_val h).elim

def laws_toLimits.b {R : Type} (ret : Int × Int × Int × Int × Int → Option R) (k : Nat) (a0_0 a0_1 : Int) (a0_2 a0_3 a0_4 : Int) : Option R :=
  ret (a0_0, a0_1, a0_2, a0_3, a0_4)
def laws_toLimits.f : Nat → Int → Int → Int → Int → Int → Option (Int × Int × Int × Int × Int)
  | 0, _, _, _, _, _ => none
  | k + 1, a0_0, a0_1, a0_2, a0_3, a0_4 => laws_toLimits.b some k a0_0 a0_1 a0_2 a0_3 a0_4
def laws_toLimits.enc (r : Int × Int × Int × Int × Int) : Res := ⟨[.vals true [((.int .i64 r.1), true), ((.int .i64 r.2.1), true), ((.int .i64 r.2.2.1), true), ((.int .i64 r.2.2.2.1), true), ((.int .i64 r.2.2.2.2), true)]], []⟩
def laws_toLimits.ans (k : Nat) : List Arg → Ans
  | [.v (.agg [(.int .i64 a0_0), (.int .i64 a0_1), (.int .i64 a0_2), (.int .i64 a0_3), (.int .i64 a0_4)])] => ⟨laws_toLimits.f k a0_0 a0_1 a0_2 a0_3 a0_4, laws_toLimits.enc⟩
  | _ => Ans.no
def laws_toLimits.Cs (k : Nat) : CallSem := tab []
theorem laws_toLimits.eq (k : Nat) (a0_0 a0_1 : Int) (a0_2 a0_3 a0_4 : Int) : answer Try.prog laws_toLimits.Cs 100000 [] [] Try.f131 (k + 1) [.v (.agg [(.int .i64 a0_0), (.int .i64 a0_1), (.int .i64 a0_2), (.int .i64 a0_3), (.int .i64 a0_4)])] = (laws_toLimits.f (k + 1) a0_0 a0_1 a0_2 a0_3 a0_4).map laws_toLimits.enc := by
  refine Eq.trans (b := laws_toLimits.b (fun r => some (laws_toLimits.enc r)) k a0_0 a0_1 a0_2 a0_3 a0_4) (by kernel_rfl) ?_
  show _ = (laws_toLimits.b some k a0_0 a0_1 a0_2 a0_3 a0_4).map laws_toLimits.enc
  unfold laws_toLimits.b
  repeat' first | with_reducible refine nat_cond ?_ ?_ | with_reducible refine nat_bind fun _ => ?_ | rfl
theorem laws_toLimits.sound (k : Nat) : SoundF Try.prog 131 (fun a => (laws_toLimits.ans k a).val) := by
  refine sound_plain (fun args res h => ?_) (fun t n => rfl)
  unfold laws_toLimits.ans at h
  dsimp only at h
  split at h
  · cases k with
    | zero => cases h
    | succ k =>
      unfold Ans.val at h
      rw [← laws_toLimits.eq] at h
      exact answer_sound mixed Try.func131 _ _ _ (k + 1) (fun j _ => tab_sound (tab_nil)) _ _ h
  · exact (Ans.no_val h).elim

def laws_toByteS.b {R : Type} (ret : Bool × List Int → Option R) (j0 : Bool → (List Int) → (List Int) → Int → Option R) (k : Nat) (a0z : Bool) (a0 : List Int) : Option R :=
  cond (decide (((a0).length : Int) = ((a0).length : Int))) (cond (decide ((0 : Int) ≤ ((a0).length : Int))) (cond (decide ((a0).length < 140737488355328)) (j0 a0z a0 (List.replicate (a0).length (0 : Int)) 0) (none)) (none)) (none)
def laws_toByteS.l0b {R : Type} (ret : Bool × List Int → Option R) (j0 : Bool → (List Int) → (List Int) → Int → Option R) (k : Nat) (x0z : Bool) (x0 x3 : List Int) (x4 : Int) : Option R :=
  cond (decide (x4 < ((x0).length : Int))) (cond (decide ((0 : Int) ≤ x4)) (cond (decide (x4 < ((x0).length : Int))) (cond (decide ((0 : Int) ≤ x4)) (cond (decide (x4 < ((x3).length : Int))) (j0 x0z x0 ((x3).set (x4).toNat (rdI x0 x4)) (RowKit.wrap64 (x4 + 1))) (none)) (none)) (none)) (none)) (ret (false, x3))
def laws_toByteS.l0 : Nat → Bool → (List Int) → (List Int) → Int → Option (Bool × List Int)
  | 0, _, _, _, _ => none
  | k + 1, x0z, x0, x3, x4 => laws_toByteS.l0b some (laws_toByteS.l0 k) k x0z x0 x3 x4
def laws_toByteS.f : Nat → Bool → (List Int) → Option (Bool × List Int)
  | 0, _, _ => none
  | k + 1, a0z, a0 => laws_toByteS.b some (laws_toByteS.l0 k) k a0z a0
def laws_toByteS.enc (r : Bool × List Int) : Res := ⟨[.vals false [((.nums 5 .u8 r.1 r.2), true)]], []⟩
def laws_toByteS.ans (k : Nat) : List Arg → Ans
  | [.v (.nums 5 .u8 a0z a0)] => ⟨laws_toByteS.f k a0z a0, laws_toByteS.enc⟩
  | _ => Ans.no
def laws_toByteS.Cs (k : Nat) : CallSem := tab []
def laws_toByteS.cuts : List (Nat × Keep) := [(58, ⟨[(0, some []), (3, none), (4, some [])], []⟩)]
noncomputable def laws_toByteS.K0 : List Fr := framesAt [true, true, false, true, false] (bodyOf Try.f187 laws_toByteS.cuts) []
def laws_toByteS.N0 (x0z : Bool) (x0 x3 : List Int) (x4 : Int) : St := stOf 22 22 1 [(0, .val ⟨(.nums 5 .u8 x0z x0), [], false, none⟩), (3, .val ⟨(.nums 5 .u8 false x3), [.l 3 0], true, some (.l 3 0)⟩), (4, .val (V.s (.int .i64 x4)))] []
theorem laws_toByteS.s0 (k : Nat) (G : List Fr → St → Option Res) (a0z : Bool) (a0 : List Int) (yx0z : Bool) (yx0 yx3 : List Int) (yx4 : Int) : resume Try.prog (laws_toByteS.Cs k) G (finish Try.prog [] Try.f187 [.v (.nums 5 .u8 a0z a0)]) 100000 laws_toByteS.K0 (laws_toByteS.N0 yx0z yx0 yx3 yx4) = laws_toByteS.l0b (fun r => some (laws_toByteS.enc r)) (fun x0z x0 x3 x4 => G laws_toByteS.K0 (laws_toByteS.N0 x0z x0 x3 x4)) k yx0z yx0 yx3 yx4 := by kernel_rfl
theorem laws_toByteS.bn {R R' : Type} (e : R → R') (ret : Bool × List Int → Option R) (j0 : Bool → (List Int) → (List Int) → Int → Option R) (k : Nat) (a0z : Bool) (a0 : List Int) : laws_toByteS.b (fun r => (ret r).map e) (fun x0z x0 x3 x4 => (j0 x0z x0 x3 x4).map e) k a0z a0 = (laws_toByteS.b ret j0 k a0z a0).map e := by
  unfold laws_toByteS.b
  repeat' first | with_reducible refine nat_cond ?_ ?_ | with_reducible refine nat_bind fun _ => ?_ | rfl
theorem laws_toByteS.l0n {R R' : Type} (e : R → R') (ret : Bool × List Int → Option R) (j0 : Bool → (List Int) → (List Int) → Int → Option R) (k : Nat) (x0z : Bool) (x0 x3 : List Int) (x4 : Int) : laws_toByteS.l0b (fun r => (ret r).map e) (fun x0z x0 x3 x4 => (j0 x0z x0 x3 x4).map e) k x0z x0 x3 x4 = (laws_toByteS.l0b ret j0 k x0z x0 x3 x4).map e := by
  unfold laws_toByteS.l0b
  repeat' first | with_reducible refine nat_cond ?_ ?_ | with_reducible refine nat_bind fun _ => ?_ | rfl
theorem laws_toByteS.rq (a0z : Bool) (a0 : List Int) : ∀ k, (∀ (x0z : Bool) (x0 x3 : List Int) (x4 : Int), rounds Try.prog laws_toByteS.Cs (finish Try.prog [] Try.f187 [.v (.nums 5 .u8 a0z a0)]) 100000 k laws_toByteS.K0 (laws_toByteS.N0 x0z x0 x3 x4) = (laws_toByteS.l0 k x0z x0 x3 x4).map laws_toByteS.enc)
  | 0 => fun _ _ _ _ => rfl
  | k + 1 => by
    have ih := laws_toByteS.rq a0z a0 k
    refine fun _ _ _ _ => ?_
    · refine (laws_toByteS.s0 k _ a0z a0 _ _ _ _).trans (Eq.trans ?_ (laws_toByteS.l0n laws_toByteS.enc some (laws_toByteS.l0 k) k _ _ _ _))
      simp only [ih, Option.map_some]
theorem laws_toByteS.eq (k : Nat) (a0z : Bool) (a0 : List Int) : answer Try.prog laws_toByteS.Cs 100000 laws_toByteS.cuts [] Try.f187 (k + 1) [.v (.nums 5 .u8 a0z a0)] = (laws_toByteS.f (k + 1) a0z a0).map laws_toByteS.enc := by
  have ih := laws_toByteS.rq a0z a0 k
  refine Eq.trans (b := laws_toByteS.b (fun r => some (laws_toByteS.enc r)) (fun x0z x0 x3 x4 => rounds Try.prog laws_toByteS.Cs (finish Try.prog [] Try.f187 [.v (.nums 5 .u8 a0z a0)]) 100000 k laws_toByteS.K0 (laws_toByteS.N0 x0z x0 x3 x4)) k a0z a0) (by kernel_rfl) (Eq.trans ?_ (laws_toByteS.bn laws_toByteS.enc some (laws_toByteS.l0 k) k a0z a0))
  simp only [ih, Option.map_some]
theorem laws_toByteS.sound (k : Nat) : SoundF Try.prog 187 (fun a => (laws_toByteS.ans k a).val) := by
  refine sound_plain (fun args res h => ?_) (fun t n => rfl)
  unfold laws_toByteS.ans at h
  dsimp only at h
  split at h
  · cases k with
    | zero => cases h
    | succ k =>
      unfold Ans.val at h
      rw [← laws_toByteS.eq] at h
      exact answer_sound mixed Try.func187 _ _ _ (k + 1) (fun j _ => tab_sound (tab_nil)) _ _ h
  · exact (Ans.no_val h).elim

def laws_toByteSS.b {R : Type} (ret : Bool × List T → Option R) (j0 : Bool → (List T) → (List T) → Int → Option R) (k : Nat) (a0z : Bool) (a0 : List T) : Option R :=
  cond (decide (((a0).length : Int) = ((a0).length : Int))) (cond (decide ((0 : Int) ≤ ((a0).length : Int))) (cond (decide ((a0).length < 5864062014805)) (j0 a0z a0 (List.replicate (a0).length (.nums 5 .u8 true ([] : List Int))) 0) (none)) (none)) (none)
def laws_toByteSS.l0b {R : Type} (ret : Bool × List T → Option R) (j0 : Bool → (List T) → (List T) → Int → Option R) (k : Nat) (x0z : Bool) (x0 x3 : List T) (x4 : Int) : Option R :=
  cond (decide (x4 < ((x0).length : Int))) (cond (decide ((0 : Int) ≤ x4)) (cond (decide (x4 < ((x0).length : Int))) ((laws_toByteS.f k (((((x0).getD (x4).toNat .bad).cells.getD 0 .bad)).isNil) (((((x0).getD (x4).toNat .bad).cells.getD 0 .bad)).toNums)).bind fun t0 => cond (decide ((0 : Int) ≤ x4)) (cond (decide (x4 < ((x3).length : Int))) (j0 x0z x0 ((x3).set (x4).toNat (.nums 5 .u8 t0.1 t0.2)) (RowKit.wrap64 (x4 + 1))) (none)) (none)) (none)) (none)) (ret (false, x3))
def laws_toByteSS.l0 : Nat → Bool → (List T) → (List T) → Int → Option (Bool × List T)
  | 0, _, _, _, _ => none
  | k + 1, x0z, x0, x3, x4 => laws_toByteSS.l0b some (laws_toByteSS.l0 k) k x0z x0 x3 x4
def laws_toByteSS.f : Nat → Bool → (List T) → Option (Bool × List T)
  | 0, _, _ => none
  | k + 1, a0z, a0 => laws_toByteSS.b some (laws_toByteSS.l0 k) k a0z a0
def laws_toByteSS.enc (r : Bool × List T) : Res := ⟨[.vals false [((.sl 22 r.1 r.2), true)]], []⟩
def laws_toByteSS.ans (k : Nat) : List Arg → Ans
  | [.v (.sl 22 a0z a0)] => ⟨laws_toByteSS.f k a0z a0, laws_toByteSS.enc⟩
  | _ => Ans.no
def laws_toByteSS.Cs (k : Nat) : CallSem := tab [(187, laws_toByteS.ans k)]
def laws_toByteSS.cuts : List (Nat × Keep) := [(58, ⟨[(0, some []), (3, none), (4, some [])], []⟩)]
noncomputable def laws_toByteSS.K0 : List Fr := framesAt [true, true, false, true, false] (bodyOf Try.f238 laws_toByteSS.cuts) []
def laws_toByteSS.N0 (x0z : Bool) (x0 x3 : List T) (x4 : Int) : St := stOf 23 23 1 [(0, .val ⟨(.sl 22 x0z x0), [], false, none⟩), (3, .val ⟨(.sl 22 false x3), [.l 3 0], true, some (.l 3 0)⟩), (4, .val (V.s (.int .i64 x4)))] []
theorem laws_toByteSS.s0 (k : Nat) (G : List Fr → St → Option Res) (a0z : Bool) (a0 : List T) (yx0z : Bool) (yx0 yx3 : List T) (yx4 : Int) : resume Try.prog (laws_toByteSS.Cs k) G (finish Try.prog [] Try.f238 [.v (.sl 22 a0z a0)]) 100000 laws_toByteSS.K0 (laws_toByteSS.N0 yx0z yx0 yx3 yx4) = laws_toByteSS.l0b (fun r => some (laws_toByteSS.enc r)) (fun x0z x0 x3 x4 => G laws_toByteSS.K0 (laws_toByteSS.N0 x0z x0 x3 x4)) k yx0z yx0 yx3 yx4 := by kernel_rfl
theorem laws_toByteSS.bn {R R' : Type} (e : R → R') (ret : Bool × List T → Option R) (j0 : Bool → (List T) → (List T) → Int → Option R) (k : Nat) (a0z : Bool) (a0 : List T) : laws_toByteSS.b (fun r => (ret r).map e) (fun x0z x0 x3 x4 => (j0 x0z x0 x3 x4).map e) k a0z a0 = (laws_toByteSS.b ret j0 k a0z a0).map e := by
  unfold laws_toByteSS.b
  repeat' first | with_reducible refine nat_cond ?_ ?_ | with_reducible refine nat_bind fun _ => ?_ | rfl
theorem laws_toByteSS.l0n {R R' : Type} (e : R → R') (ret : Bool × List T → Option R) (j0 : Bool → (List T) → (List T) → Int → Option R) (k : Nat) (x0z : Bool) (x0 x3 : List T) (x4 : Int) : laws_toByteSS.l0b (fun r => (ret r).map e) (fun x0z x0 x3 x4 => (j0 x0z x0 x3 x4).map e) k x0z x0 x3 x4 = (laws_toByteSS.l0b ret j0 k x0z x0 x3 x4).map e := by
  unfold laws_toByteSS.l0b
  repeat' first | with_reducible refine nat_cond ?_ ?_ | with_reducible refine nat_bind fun _ => ?_ | rfl
theorem laws_toByteSS.rq (a0z : Bool) (a0 : List T) : ∀ k, (∀ (x0z : Bool) (x0 x3 : List T) (x4 : Int), rounds Try.prog laws_toByteSS.Cs (finish Try.prog [] Try.f238 [.v (.sl 22 a0z a0)]) 100000 k laws_toByteSS.K0 (laws_toByteSS.N0 x0z x0 x3 x4) = (laws_toByteSS.l0 k x0z x0 x3 x4).map laws_toByteSS.enc)
  | 0 => fun _ _ _ _ => rfl
  | k + 1 => by
    have ih := laws_toByteSS.rq a0z a0 k
    refine fun _ _ _ _ => ?_
    · refine (laws_toByteSS.s0 k _ a0z a0 _ _ _ _).trans (Eq.trans ?_ (laws_toByteSS.l0n laws_toByteSS.enc some (laws_toByteSS.l0 k) k _ _ _ _))
      simp only [ih, Option.map_some]
theorem laws_toByteSS.eq (k : Nat) (a0z : Bool) (a0 : List T) : answer Try.prog laws_toByteSS.Cs 100000 laws_toByteSS.cuts [] Try.f238 (k + 1) [.v (.sl 22 a0z a0)] = (laws_toByteSS.f (k + 1) a0z a0).map laws_toByteSS.enc := by
  have ih := laws_toByteSS.rq a0z a0 k
  refine Eq.trans (b := laws_toByteSS.b (fun r => some (laws_toByteSS.enc r)) (fun x0z x0 x3 x4 => rounds Try.prog laws_toByteSS.Cs (finish Try.prog [] Try.f238 [.v (.sl 22 a0z a0)]) 100000 k laws_toByteSS.K0 (laws_toByteSS.N0 x0z x0 x3 x4)) k a0z a0) (by kernel_rfl) (Eq.trans ?_ (laws_toByteSS.bn laws_toByteSS.enc some (laws_toByteSS.l0 k) k a0z a0))
  simp only [ih, Option.map_some]
theorem laws_toByteSS.sound (k : Nat) : SoundF Try.prog 238 (fun a => (laws_toByteSS.ans k a).val) := by
  refine sound_plain (fun args res h => ?_) (fun t n => rfl)
  unfold laws_toByteSS.ans at h
  dsimp only at h
  split at h
  · cases k with
    | zero => cases h
    | succ k =>
      unfold Ans.val at h
      rw [← laws_toByteSS.eq] at h
      exact answer_sound mixed Try.func238 _ _ _ (k + 1) (fun j _ => tab_sound (tab_cons (laws_toByteS.sound j) (tab_nil))) _ _ h
  · exact (Ans.no_val h).elim

def laws_toQc.b {R : Type} (ret : Int × Int × Bool × (List Int) × Bool × (List Int) × Bool × List T → Option R) (k : Nat) (a0_0 a0_1 : Int) (a0_2z : Bool) (a0_2 : List Int) (a0_3z : Bool) (a0_3 : List Int) (a0_4z : Bool) (a0_4 : List T) : Option R :=
  (laws_toByteS.f k a0_2z a0_2).bind fun t0 => (laws_toByteS.f k a0_3z a0_3).bind fun t1 => (laws_toByteSS.f k a0_4z a0_4).bind fun t2 => ret (a0_0, a0_1, t0.1, t0.2, t1.1, t1.2, t2.1, t2.2)
def laws_toQc.f : Nat → Int → Int → Bool → (List Int) → Bool → (List Int) → Bool → (List T) → Option (Int × Int × Bool × (List Int) × Bool × (List Int) × Bool × List T)
  | 0, _, _, _, _, _, _, _, _ => none
  | k + 1, a0_0, a0_1, a0_2z, a0_2, a0_3z, a0_3, a0_4z, a0_4 => laws_toQc.b some k a0_0 a0_1 a0_2z a0_2 a0_3z a0_3 a0_4z a0_4
def laws_toQc.enc (r : Int × Int × Bool × (List Int) × Bool × (List Int) × Bool × List T) : Res := ⟨[.vals true [((.int .i64 r.1), true), ((.int .i64 r.2.1), true), ((.nums 5 .u8 r.2.2.1 r.2.2.2.1), true), ((.nums 5 .u8 r.2.2.2.2.1 r.2.2.2.2.2.1), true), ((.sl 22 r.2.2.2.2.2.2.1 r.2.2.2.2.2.2.2), true)]], []⟩
def laws_toQc.ans (k : Nat) : List Arg → Ans
  | [.v (.agg [(.int .i64 a0_0), (.int .i64 a0_1), (.nums 5 .u8 a0_2z a0_2), (.nums 5 .u8 a0_3z a0_3), (.sl 22 a0_4z a0_4)])] => ⟨laws_toQc.f k a0_0 a0_1 a0_2z a0_2 a0_3z a0_3 a0_4z a0_4, laws_toQc.enc⟩
  | _ => Ans.no
def laws_toQc.Cs (k : Nat) : CallSem := tab [(187, laws_toByteS.ans k), (238, laws_toByteSS.ans k)]
theorem laws_toQc.eq (k : Nat) (a0_0 a0_1 : Int) (a0_2z : Bool) (a0_2 : List Int) (a0_3z : Bool) (a0_3 : List Int) (a0_4z : Bool) (a0_4 : List T) : answer Try.prog laws_toQc.Cs 100000 [] [] Try.f222 (k + 1) [.v (.agg [(.int .i64 a0_0), (.int .i64 a0_1), (.nums 5 .u8 a0_2z a0_2), (.nums 5 .u8 a0_3z a0_3), (.sl 22 a0_4z a0_4)])] = (laws_toQc.f (k + 1) a0_0 a0_1 a0_2z a0_2 a0_3z a0_3 a0_4z a0_4).map laws_toQc.enc := by
  refine Eq.trans (b := laws_toQc.b (fun r => some (laws_toQc.enc r)) k a0_0 a0_1 a0_2z a0_2 a0_3z a0_3 a0_4z a0_4) (by kernel_rfl) ?_
  show _ = (laws_toQc.b some k a0_0 a0_1 a0_2z a0_2 a0_3z a0_3 a0_4z a0_4).map laws_toQc.enc
  unfold laws_toQc.b
  repeat' first | with_reducible refine nat_cond ?_ ?_ | with_reducible refine nat_bind fun _ => ?_ | rfl
theorem laws_toQc.sound (k : Nat) : SoundF Try.prog 222 (fun a => (laws_toQc.ans k a).val) := by
  refine sound_plain (fun args res h => ?_) (fun t n => rfl)
  unfold laws_toQc.ans at h
  dsimp only at h
  split at h
  · cases k with
    | zero => cases h
    | succ k =>
      unfold Ans.val at h
      rw [← laws_toQc.eq] at h
      exact answer_sound mixed Try.func222 _ _ _ (k + 1) (fun j _ => tab_sound (tab_cons (laws_toByteS.sound j) (tab_cons (laws_toByteSS.sound j) (tab_nil)))) _ _ h
  · exact (Ans.no_val h).elim

def laws_toHead.b {R : Type} (ret : Int × Int × Int × Bool × (List Int) × Bool × (List Int) × Int × Int × Bool × (List Int) × Bool × (List Int) × Bool × List T → Option R) (k : Nat) (a0_0 a0_1 a0_2 : Int) (a0_3z : Bool) (a0_3 : List Int) (a0_4z : Bool) (a0_4 : List Int) (a0_5 a0_6 : Int) (a0_7z : Bool) (a0_7 : List Int) (a0_8z : Bool) (a0_8 : List Int) (a0_9z : Bool) (a0_9 : List T) : Option R :=
  (laws_toByteS.f k a0_3z a0_3).bind fun t0 => (laws_toByteS.f k a0_4z a0_4).bind fun t1 => (laws_toQc.f k a0_5 a0_6 a0_7z a0_7 a0_8z a0_8 a0_9z a0_9).bind fun t2 => ret (a0_0, a0_1, a0_2, t0.1, t0.2, t1.1, t1.2, t2.1, t2.2.1, t2.2.2.1, t2.2.2.2.1, t2.2.2.2.2.1, t2.2.2.2.2.2.1, t2.2.2.2.2.2.2.1, t2.2.2.2.2.2.2.2)
def laws_toHead.f : Nat → Int → Int → Int → Bool → (List Int) → Bool → (List Int) → Int → Int → Bool → (List Int) → Bool → (List Int) → Bool → (List T) → Option (Int × Int × Int × Bool × (List Int) × Bool × (List Int) × Int × Int × Bool × (List Int) × Bool × (List Int) × Bool × List T)
  | 0, _, _, _, _, _, _, _, _, _, _, _, _, _, _, _ => none
  | k + 1, a0_0, a0_1, a0_2, a0_3z, a0_3, a0_4z, a0_4, a0_5, a0_6, a0_7z, a0_7, a0_8z, a0_8, a0_9z, a0_9 => laws_toHead.b some k a0_0 a0_1 a0_2 a0_3z a0_3 a0_4z a0_4 a0_5 a0_6 a0_7z a0_7 a0_8z a0_8 a0_9z a0_9
def laws_toHead.enc (r : Int × Int × Int × Bool × (List Int) × Bool × (List Int) × Int × Int × Bool × (List Int) × Bool × (List Int) × Bool × List T) : Res := ⟨[.vals true [((.int .i64 r.1), true), ((.int .i64 r.2.1), true), ((.int .i64 r.2.2.1), true), ((.nums 5 .u8 r.2.2.2.1 r.2.2.2.2.1), true), ((.nums 5 .u8 r.2.2.2.2.2.1 r.2.2.2.2.2.2.1), true), ((.int .i64 r.2.2.2.2.2.2.2.1), true), ((.int .i64 r.2.2.2.2.2.2.2.2.1), true), ((.nums 5 .u8 r.2.2.2.2.2.2.2.2.2.1 r.2.2.2.2.2.2.2.2.2.2.1), true), ((.nums 5 .u8 r.2.2.2.2.2.2.2.2.2.2.2.1 r.2.2.2.2.2.2.2.2.2.2.2.2.1), true), ((.sl 22 r.2.2.2.2.2.2.2.2.2.2.2.2.2.1 r.2.2.2.2.2.2.2.2.2.2.2.2.2.2), true)]], []⟩
def laws_toHead.ans (k : Nat) : List Arg → Ans
  | [.v (.agg [(.int .i64 a0_0), (.int .i64 a0_1), (.int .i64 a0_2), (.nums 5 .u8 a0_3z a0_3), (.nums 5 .u8 a0_4z a0_4), (.int .i64 a0_5), (.int .i64 a0_6), (.nums 5 .u8 a0_7z a0_7), (.nums 5 .u8 a0_8z a0_8), (.sl 22 a0_9z a0_9)])] => ⟨laws_toHead.f k a0_0 a0_1 a0_2 a0_3z a0_3 a0_4z a0_4 a0_5 a0_6 a0_7z a0_7 a0_8z a0_8 a0_9z a0_9, laws_toHead.enc⟩
  | _ => Ans.no
def laws_toHead.Cs (k : Nat) : CallSem := tab [(187, laws_toByteS.ans k), (222, laws_toQc.ans k)]
theorem laws_toHead.eq (k : Nat) (a0_0 a0_1 a0_2 : Int) (a0_3z : Bool) (a0_3 : List Int) (a0_4z : Bool) (a0_4 : List Int) (a0_5 a0_6 : Int) (a0_7z : Bool) (a0_7 : List Int) (a0_8z : Bool) (a0_8 : List Int) (a0_9z : Bool) (a0_9 : List T) : answer Try.prog laws_toHead.Cs 100000 [] [] Try.f182 (k + 1) [.v (.agg [(.int .i64 a0_0), (.int .i64 a0_1), (.int .i64 a0_2), (.nums 5 .u8 a0_3z a0_3), (.nums 5 .u8 a0_4z a0_4), (.int .i64 a0_5), (.int .i64 a0_6), (.nums 5 .u8 a0_7z a0_7), (.nums 5 .u8 a0_8z a0_8), (.sl 22 a0_9z a0_9)])] = (laws_toHead.f (k + 1) a0_0 a0_1 a0_2 a0_3z a0_3 a0_4z a0_4 a0_5 a0_6 a0_7z a0_7 a0_8z a0_8 a0_9z a0_9).map laws_toHead.enc := by
  refine Eq.trans (b := laws_toHead.b (fun r => some (laws_toHead.enc r)) k a0_0 a0_1 a0_2 a0_3z a0_3 a0_4z a0_4 a0_5 a0_6 a0_7z a0_7 a0_8z a0_8 a0_9z a0_9) (by kernel_rfl) ?_
  show _ = (laws_toHead.b some k a0_0 a0_1 a0_2 a0_3z a0_3 a0_4z a0_4 a0_5 a0_6 a0_7z a0_7 a0_8z a0_8 a0_9z a0_9).map laws_toHead.enc
  unfold laws_toHead.b
  repeat' first | with_reducible refine nat_cond ?_ ?_ | with_reducible refine nat_bind fun _ => ?_ | rfl
theorem laws_toHead.sound (k : Nat) : SoundF Try.prog 182 (fun a => (laws_toHead.ans k a).val) := by
  refine sound_plain (fun args res h => ?_) (fun t n => rfl)
  unfold laws_toHead.ans at h
  dsimp only at h
  split at h
  · cases k with
    | zero => cases h
    | succ k =>
      unfold Ans.val at h
      rw [← laws_toHead.eq] at h
      exact answer_sound mixed Try.func182 _ _ _ (k + 1) (fun j _ => tab_sound (tab_cons (laws_toByteS.sound j) (tab_cons (laws_toQc.sound j) (tab_nil)))) _ _ h
  · exact (Ans.no_val h).elim

def laws_toHeadS.b {R : Type} (ret : Bool × List T → Option R) (j0 : Bool → (List T) → (List T) → Int → Option R) (k : Nat) (a0z : Bool) (a0 : List T) : Option R :=
  cond (decide (((a0).length : Int) = ((a0).length : Int))) (cond (decide ((0 : Int) ≤ ((a0).length : Int))) (cond (decide ((a0).length < 879609302220)) (j0 a0z a0 (List.replicate (a0).length (.agg [(.int .i64 0), (.int .i64 0), (.int .i64 0), (.nums 5 .u8 true ([] : List Int)), (.nums 5 .u8 true ([] : List Int)), (.int .i64 0), (.int .i64 0), (.nums 5 .u8 true ([] : List Int)), (.nums 5 .u8 true ([] : List Int)), (.sl 22 true ([] : List T))])) 0) (none)) (none)) (none)
def laws_toHeadS.l0b {R : Type} (ret : Bool × List T → Option R) (j0 : Bool → (List T) → (List T) → Int → Option R) (k : Nat) (x0z : Bool) (x0 x3 : List T) (x4 : Int) : Option R :=
  cond (decide (x4 < ((x0).length : Int))) (cond (decide ((0 : Int) ≤ x4)) (cond (decide (x4 < ((x0).length : Int))) ((laws_toHead.f k (((((x0).getD (x4).toNat .bad).cells.getD 0 .bad)).toInt) (((((x0).getD (x4).toNat .bad).cells.getD 1 .bad)).toInt) (((((x0).getD (x4).toNat .bad).cells.getD 2 .bad)).toInt) (((((x0).getD (x4).toNat .bad).cells.getD 3 .bad)).isNil) (((((x0).getD (x4).toNat .bad).cells.getD 3 .bad)).toNums) (((((x0).getD (x4).toNat .bad).cells.getD 4 .bad)).isNil) (((((x0).getD (x4).toNat .bad).cells.getD 4 .bad)).toNums) (((((x0).getD (x4).toNat .bad).cells.getD 5 .bad)).toInt) (((((x0).getD (x4).toNat .bad).cells.getD 6 .bad)).toInt) (((((x0).getD (x4).toNat .bad).cells.getD 7 .bad)).isNil) (((((x0).getD (x4).toNat .bad).cells.getD 7 .bad)).toNums) (((((x0).getD (x4).toNat .bad).cells.getD 8 .bad)).isNil) (((((x0).getD (x4).toNat .bad).cells.getD 8 .bad)).toNums) (((((x0).getD (x4).toNat .bad).cells.getD 9 .bad)).isNil) (((((x0).getD (x4).toNat .bad).cells.getD 9 .bad)).toList)).bind fun t0 => cond (decide ((0 : Int) ≤ x4)) (cond (decide (x4 < ((x3).length : Int))) (j0 x0z x0 ((x3).set (x4).toNat (.agg [(.int .i64 t0.1), (.int .i64 t0.2.1), (.int .i64 t0.2.2.1), (.nums 5 .u8 t0.2.2.2.1 t0.2.2.2.2.1), (.nums 5 .u8 t0.2.2.2.2.2.1 t0.2.2.2.2.2.2.1), (.int .i64 t0.2.2.2.2.2.2.2.1), (.int .i64 t0.2.2.2.2.2.2.2.2.1), (.nums 5 .u8 t0.2.2.2.2.2.2.2.2.2.1 t0.2.2.2.2.2.2.2.2.2.2.1), (.nums 5 .u8 t0.2.2.2.2.2.2.2.2.2.2.2.1 t0.2.2.2.2.2.2.2.2.2.2.2.2.1), (.sl 22 t0.2.2.2.2.2.2.2.2.2.2.2.2.2.1 t0.2.2.2.2.2.2.2.2.2.2.2.2.2.2)])) (RowKit.wrap64 (x4 + 1))) (none)) (none)) (none)) (none)) (ret (false, x3))
def laws_toHeadS.l0 : Nat → Bool → (List T) → (List T) → Int → Option (Bool × List T)
  | 0, _, _, _, _ => none
  | k + 1, x0z, x0, x3, x4 => laws_toHeadS.l0b some (laws_toHeadS.l0 k) k x0z x0 x3 x4
def laws_toHeadS.f : Nat → Bool → (List T) → Option (Bool × List T)
  | 0, _, _ => none
  | k + 1, a0z, a0 => laws_toHeadS.b some (laws_toHeadS.l0 k) k a0z a0
def laws_toHeadS.enc (r : Bool × List T) : Res := ⟨[.vals false [((.sl 79 r.1 r.2), true)]], []⟩
def laws_toHeadS.ans (k : Nat) : List Arg → Ans
  | [.v (.sl 200 a0z a0)] => ⟨laws_toHeadS.f k a0z a0, laws_toHeadS.enc⟩
  | _ => Ans.no
def laws_toHeadS.Cs (k : Nat) : CallSem := tab [(182, laws_toHead.ans k)]
def laws_toHeadS.cuts : List (Nat × Keep) := [(58, ⟨[(0, some []), (3, none), (4, some [])], []⟩)]
noncomputable def laws_toHeadS.K0 : List Fr := framesAt [true, true, false, true, false] (bodyOf Try.f132 laws_toHeadS.cuts) []
def laws_toHeadS.N0 (x0z : Bool) (x0 x3 : List T) (x4 : Int) : St := stOf 23 23 1 [(0, .val ⟨(.sl 200 x0z x0), [], false, none⟩), (3, .val ⟨(.sl 79 false x3), [.l 3 0], true, some (.l 3 0)⟩), (4, .val (V.s (.int .i64 x4)))] []
theorem laws_toHeadS.s0 (k : Nat) (G : List Fr → St → Option Res) (a0z : Bool) (a0 : List T) (yx0z : Bool) (yx0 yx3 : List T) (yx4 : Int) : resume Try.prog (laws_toHeadS.Cs k) G (finish Try.prog [] Try.f132 [.v (.sl 200 a0z a0)]) 100000 laws_toHeadS.K0 (laws_toHeadS.N0 yx0z yx0 yx3 yx4) = laws_toHeadS.l0b (fun r => some (laws_toHeadS.enc r)) (fun x0z x0 x3 x4 => G laws_toHeadS.K0 (laws_toHeadS.N0 x0z x0 x3 x4)) k yx0z yx0 yx3 yx4 := by kernel_rfl
theorem laws_toHeadS.bn {R R' : Type} (e : R → R') (ret : Bool × List T → Option R) (j0 : Bool → (List T) → (List T) → Int → Option R) (k : Nat) (a0z : Bool) (a0 : List T) : laws_toHeadS.b (fun r => (ret r).map e) (fun x0z x0 x3 x4 => (j0 x0z x0 x3 x4).map e) k a0z a0 = (laws_toHeadS.b ret j0 k a0z a0).map e := by
  unfold laws_toHeadS.b
  repeat' first | with_reducible refine nat_cond ?_ ?_ | with_reducible refine nat_bind fun _ => ?_ | rfl
theorem laws_toHeadS.l0n {R R' : Type} (e : R → R') (ret : Bool × List T → Option R) (j0 : Bool → (List T) → (List T) → Int → Option R) (k : Nat) (x0z : Bool) (x0 x3 : List T) (x4 : Int) : laws_toHeadS.l0b (fun r => (ret r).map e) (fun x0z x0 x3 x4 => (j0 x0z x0 x3 x4).map e) k x0z x0 x3 x4 = (laws_toHeadS.l0b ret j0 k x0z x0 x3 x4).map e := by
  unfold laws_toHeadS.l0b
  repeat' first | with_reducible refine nat_cond ?_ ?_ | with_reducible refine nat_bind fun _ => ?_ | rfl
theorem laws_toHeadS.rq (a0z : Bool) (a0 : List T) : ∀ k, (∀ (x0z : Bool) (x0 x3 : List T) (x4 : Int), rounds Try.prog laws_toHeadS.Cs (finish Try.prog [] Try.f132 [.v (.sl 200 a0z a0)]) 100000 k laws_toHeadS.K0 (laws_toHeadS.N0 x0z x0 x3 x4) = (laws_toHeadS.l0 k x0z x0 x3 x4).map laws_toHeadS.enc)
  | 0 => fun _ _ _ _ => rfl
  | k + 1 => by
    have ih := laws_toHeadS.rq a0z a0 k
    refine fun _ _ _ _ => ?_
    · refine (laws_toHeadS.s0 k _ a0z a0 _ _ _ _).trans (Eq.trans ?_ (laws_toHeadS.l0n laws_toHeadS.enc some (laws_toHeadS.l0 k) k _ _ _ _))
      simp only [ih, Option.map_some]
theorem laws_toHeadS.eq (k : Nat) (a0z : Bool) (a0 : List T) : answer Try.prog laws_toHeadS.Cs 100000 laws_toHeadS.cuts [] Try.f132 (k + 1) [.v (.sl 200 a0z a0)] = (laws_toHeadS.f (k + 1) a0z a0).map laws_toHeadS.enc := by
  have ih := laws_toHeadS.rq a0z a0 k
  refine Eq.trans (b := laws_toHeadS.b (fun r => some (laws_toHeadS.enc r)) (fun x0z x0 x3 x4 => rounds Try.prog laws_toHeadS.Cs (finish Try.prog [] Try.f132 [.v (.sl 200 a0z a0)]) 100000 k laws_toHeadS.K0 (laws_toHeadS.N0 x0z x0 x3 x4)) k a0z a0) (by kernel_rfl) (Eq.trans ?_ (laws_toHeadS.bn laws_toHeadS.enc some (laws_toHeadS.l0 k) k a0z a0))
  simp only [ih, Option.map_some]
theorem laws_toHeadS.sound (k : Nat) : SoundF Try.prog 132 (fun a => (laws_toHeadS.ans k a).val) := by
  refine sound_plain (fun args res h => ?_) (fun t n => rfl)
  unfold laws_toHeadS.ans at h
  dsimp only at h
  split at h
  · cases k with
    | zero => cases h
    | succ k =>
      unfold Ans.val at h
      rw [← laws_toHeadS.eq] at h
      exact answer_sound mixed Try.func132 _ _ _ (k + 1) (fun j _ => tab_sound (tab_cons (laws_toHead.sound j) (tab_nil))) _ _ h
  · exact (Ans.no_val h).elim

def laws_toForest.b {R : Type} (ret : Int × Int × Int × Int × Int × Bool × List T → Option R) (k : Nat) (a0_0 a0_1 : Int) (a0_2 a0_3 a0_4 : Int) (a0_5z : Bool) (a0_5 : List T) : Option R :=
  (laws_toLimits.f k a0_0 a0_1 a0_2 a0_3 a0_4).bind fun t0 => (laws_toHeadS.f k a0_5z a0_5).bind fun t1 => ret (t0.1, t0.2.1, t0.2.2.1, t0.2.2.2.1, t0.2.2.2.2, t1.1, t1.2)
def laws_toForest.f : Nat → Int → Int → Int → Int → Int → Bool → (List T) → Option (Int × Int × Int × Int × Int × Bool × List T)
  | 0, _, _, _, _, _, _, _ => none
  | k + 1, a0_0, a0_1, a0_2, a0_3, a0_4, a0_5z, a0_5 => laws_toForest.b some k a0_0 a0_1 a0_2 a0_3 a0_4 a0_5z a0_5
def laws_toForest.enc (r : Int × Int × Int × Int × Int × Bool × List T) : Res := ⟨[.vals true [((.int .i64 r.1), true), ((.int .i64 r.2.1), true), ((.int .i64 r.2.2.1), true), ((.int .i64 r.2.2.2.1), true), ((.int .i64 r.2.2.2.2.1), true), ((.sl 79 r.2.2.2.2.2.1 r.2.2.2.2.2.2), true)]], []⟩
def laws_toForest.ans (k : Nat) : List Arg → Ans
  | [.v (.agg [(.int .i64 a0_0), (.int .i64 a0_1), (.int .i64 a0_2), (.int .i64 a0_3), (.int .i64 a0_4), (.sl 200 a0_5z a0_5)])] => ⟨laws_toForest.f k a0_0 a0_1 a0_2 a0_3 a0_4 a0_5z a0_5, laws_toForest.enc⟩
  | _ => Ans.no
def laws_toForest.Cs (k : Nat) : CallSem := tab [(131, laws_toLimits.ans k), (132, laws_toHeadS.ans k)]
theorem laws_toForest.eq (k : Nat) (a0_0 a0_1 : Int) (a0_2 a0_3 a0_4 : Int) (a0_5z : Bool) (a0_5 : List T) : answer Try.prog laws_toForest.Cs 100000 [] [] Try.f55 (k + 1) [.v (.agg [(.int .i64 a0_0), (.int .i64 a0_1), (.int .i64 a0_2), (.int .i64 a0_3), (.int .i64 a0_4), (.sl 200 a0_5z a0_5)])] = (laws_toForest.f (k + 1) a0_0 a0_1 a0_2 a0_3 a0_4 a0_5z a0_5).map laws_toForest.enc := by
  refine Eq.trans (b := laws_toForest.b (fun r => some (laws_toForest.enc r)) k a0_0 a0_1 a0_2 a0_3 a0_4 a0_5z a0_5) (by kernel_rfl) ?_
  show _ = (laws_toForest.b some k a0_0 a0_1 a0_2 a0_3 a0_4 a0_5z a0_5).map laws_toForest.enc
  unfold laws_toForest.b
  repeat' first | with_reducible refine nat_cond ?_ ?_ | with_reducible refine nat_bind fun _ => ?_ | rfl
theorem laws_toForest.sound (k : Nat) : SoundF Try.prog 55 (fun a => (laws_toForest.ans k a).val) := by
  refine sound_plain (fun args res h => ?_) (fun t n => rfl)
  unfold laws_toForest.ans at h
  dsimp only at h
  split at h
  · cases k with
    | zero => cases h
    | succ k =>
      unfold Ans.val at h
      rw [← laws_toForest.eq] at h
      exact answer_sound mixed Try.func55 _ _ _ (k + 1) (fun j _ => tab_sound (tab_cons (laws_toLimits.sound j) (tab_cons (laws_toHeadS.sound j) (tab_nil)))) _ _ h
  · exact (Ans.no_val h).elim

def spec_l01In.b {R : Type} (ret : Bool → Option R) (k : Nat) (a0 a1 a2 : Int) : Option R :=
  cond (decide (a0 ≥ a1)) (ret (decide (a0 ≤ a2))) (ret false)
def spec_l01In.f : Nat → Int → Int → Int → Option Bool
  | 0, _, _, _ => none
  | k + 1, a0, a1, a2 => spec_l01In.b some k a0 a1 a2
def spec_l01In.enc (r : Bool) : Res := ⟨[.vals false [((.bool r), true)]], []⟩
def spec_l01In.ans (k : Nat) : List Arg → Ans
  | [.v (.int .i64 a0), .v (.int .i64 a1), .v (.int .i64 a2)] => ⟨spec_l01In.f k a0 a1 a2, spec_l01In.enc⟩
  | _ => Ans.no
def spec_l01In.Cs (k : Nat) : CallSem := tab []
theorem spec_l01In.eq (k : Nat) (a0 a1 a2 : Int) : answer Try.prog spec_l01In.Cs 100000 [] [] Try.f170 (k + 1) [.v (.int .i64 a0), .v (.int .i64 a1), .v (.int .i64 a2)] = (spec_l01In.f (k + 1) a0 a1 a2).map spec_l01In.enc := by
  refine Eq.trans (b := spec_l01In.b (fun r => some (spec_l01In.enc r)) k a0 a1 a2) (by kernel_rfl) ?_
  show _ = (spec_l01In.b some k a0 a1 a2).map spec_l01In.enc
  unfold spec_l01In.b
  repeat' first | with_reducible refine nat_cond ?_ ?_ | with_reducible refine nat_bind fun _ => ?_ | rfl
theorem spec_l01In.sound (k : Nat) : SoundF Try.prog 170 (fun a => (spec_l01In.ans k a).val) := by
  refine sound_plain (fun args res h => ?_) (fun t n => rfl)
  unfold spec_l01In.ans at h
  dsimp only at h
  split at h
  · cases k with
    | zero => cases h
    | succ k =>
      unfold Ans.val at h
      rw [← spec_l01In.eq] at h
      exact answer_sound mixed Try.func170 _ _ _ (k + 1) (fun j _ => tab_sound (tab_nil)) _ _ h
  · exact (Ans.no_val h).elim

def spec_l02Signers.b {R : Type} (ret : Bool → Option R) (k : Nat) (a0 : Int) : Option R :=
  (spec_l01In.f k a0 1 10).bind fun t0 => ret t0
def spec_l02Signers.f : Nat → Int → Option Bool
  | 0, _ => none
  | k + 1, a0 => spec_l02Signers.b some k a0
def spec_l02Signers.enc (r : Bool) : Res := ⟨[.vals false [((.bool r), true)]], []⟩
def spec_l02Signers.ans (k : Nat) : List Arg → Ans
  | [.v (.int .i64 a0)] => ⟨spec_l02Signers.f k a0, spec_l02Signers.enc⟩
  | _ => Ans.no
def spec_l02Signers.Cs (k : Nat) : CallSem := tab [(170, spec_l01In.ans k)]
theorem spec_l02Signers.eq (k : Nat) (a0 : Int) : answer Try.prog spec_l02Signers.Cs 100000 [] [] Try.f171 (k + 1) [.v (.int .i64 a0)] = (spec_l02Signers.f (k + 1) a0).map spec_l02Signers.enc := by
  refine Eq.trans (b := spec_l02Signers.b (fun r => some (spec_l02Signers.enc r)) k a0) (by kernel_rfl) ?_
  show _ = (spec_l02Signers.b some k a0).map spec_l02Signers.enc
  unfold spec_l02Signers.b
  repeat' first | with_reducible refine nat_cond ?_ ?_ | with_reducible refine nat_bind fun _ => ?_ | rfl
theorem spec_l02Signers.sound (k : Nat) : SoundF Try.prog 171 (fun a => (spec_l02Signers.ans k a).val) := by
  refine sound_plain (fun args res h => ?_) (fun t n => rfl)
  unfold spec_l02Signers.ans at h
  dsimp only at h
  split at h
  · cases k with
    | zero => cases h
    | succ k =>
      unfold Ans.val at h
      rw [← spec_l02Signers.eq] at h
      exact answer_sound mixed Try.func171 _ _ _ (k + 1) (fun j _ => tab_sound (tab_cons (spec_l01In.sound j) (tab_nil))) _ _ h
  · exact (Ans.no_val h).elim

def spec_LimitsOk.b {R : Type} (ret : Bool → Option R) (k : Nat) (a0_0 a0_1 : Int) (a0_2 a0_3 a0_4 : Int) : Option R :=
  (spec_l02Signers.f k a0_0).bind fun t0 => cond t0 ((spec_l01In.f k a0_1 0 40).bind fun t1 => cond t1 ((spec_l01In.f k a0_2 0 8).bind fun t2 => cond t2 ((spec_l01In.f k a0_3 1 4000).bind fun t3 => cond t3 ((spec_l01In.f k a0_4 3 5).bind fun t4 => ret t4) (ret false)) (ret false)) (ret false)) (ret false)
def spec_LimitsOk.f : Nat → Int → Int → Int → Int → Int → Option Bool
  | 0, _, _, _, _, _ => none
  | k + 1, a0_0, a0_1, a0_2, a0_3, a0_4 => spec_LimitsOk.b some k a0_0 a0_1 a0_2 a0_3 a0_4
def spec_LimitsOk.enc (r : Bool) : Res := ⟨[.vals false [((.bool r), true)]], []⟩
def spec_LimitsOk.ans (k : Nat) : List Arg → Ans
  | [.v (.agg [(.int .i64 a0_0), (.int .i64 a0_1), (.int .i64 a0_2), (.int .i64 a0_3), (.int .i64 a0_4)])] => ⟨spec_LimitsOk.f k a0_0 a0_1 a0_2 a0_3 a0_4, spec_LimitsOk.enc⟩
  | _ => Ans.no
def spec_LimitsOk.Cs (k : Nat) : CallSem := tab [(171, spec_l02Signers.ans k), (170, spec_l01In.ans k)]
theorem spec_LimitsOk.eq (k : Nat) (a0_0 a0_1 : Int) (a0_2 a0_3 a0_4 : Int) : answer Try.prog spec_LimitsOk.Cs 100000 [] [] Try.f179 (k + 1) [.v (.agg [(.int .i64 a0_0), (.int .i64 a0_1), (.int .i64 a0_2), (.int .i64 a0_3), (.int .i64 a0_4)])] = (spec_LimitsOk.f (k + 1) a0_0 a0_1 a0_2 a0_3 a0_4).map spec_LimitsOk.enc := by
  refine Eq.trans (b := spec_LimitsOk.b (fun r => some (spec_LimitsOk.enc r)) k a0_0 a0_1 a0_2 a0_3 a0_4) (by kernel_rfl) ?_
  show _ = (spec_LimitsOk.b some k a0_0 a0_1 a0_2 a0_3 a0_4).map spec_LimitsOk.enc
  unfold spec_LimitsOk.b
  repeat' first | with_reducible refine nat_cond ?_ ?_ | with_reducible refine nat_bind fun _ => ?_ | rfl
theorem spec_LimitsOk.sound (k : Nat) : SoundF Try.prog 179 (fun a => (spec_LimitsOk.ans k a).val) := by
  refine sound_plain (fun args res h => ?_) (fun t n => rfl)
  unfold spec_LimitsOk.ans at h
  dsimp only at h
  split at h
  · cases k with
    | zero => cases h
    | succ k =>
      unfold Ans.val at h
      rw [← spec_LimitsOk.eq] at h
      exact answer_sound mixed Try.func179 _ _ _ (k + 1) (fun j _ => tab_sound (tab_cons (spec_l02Signers.sound j) (tab_cons (spec_l01In.sound j) (tab_nil)))) _ _ h
  · exact (Ans.no_val h).elim

def spec_l01Num.b {R : Type} (ret : Bool → Option R) (k : Nat) (a0 : Int) : Option R :=
  (spec_l01In.f k a0 0 1152921504606846975).bind fun t0 => ret t0
def spec_l01Num.f : Nat → Int → Option Bool
  | 0, _ => none
  | k + 1, a0 => spec_l01Num.b some k a0
def spec_l01Num.enc (r : Bool) : Res := ⟨[.vals false [((.bool r), true)]], []⟩
def spec_l01Num.ans (k : Nat) : List Arg → Ans
  | [.v (.int .i64 a0)] => ⟨spec_l01Num.f k a0, spec_l01Num.enc⟩
  | _ => Ans.no
def spec_l01Num.Cs (k : Nat) : CallSem := tab [(170, spec_l01In.ans k)]
theorem spec_l01Num.eq (k : Nat) (a0 : Int) : answer Try.prog spec_l01Num.Cs 100000 [] [] Try.f190 (k + 1) [.v (.int .i64 a0)] = (spec_l01Num.f (k + 1) a0).map spec_l01Num.enc := by
  refine Eq.trans (b := spec_l01Num.b (fun r => some (spec_l01Num.enc r)) k a0) (by kernel_rfl) ?_
  show _ = (spec_l01Num.b some k a0).map spec_l01Num.enc
  unfold spec_l01Num.b
  repeat' first | with_reducible refine nat_cond ?_ ?_ | with_reducible refine nat_bind fun _ => ?_ | rfl
theorem spec_l01Num.sound (k : Nat) : SoundF Try.prog 190 (fun a => (spec_l01Num.ans k a).val) := by
  refine sound_plain (fun args res h => ?_) (fun t n => rfl)
  unfold spec_l01Num.ans at h
  dsimp only at h
  split at h
  · cases k with
    | zero => cases h
    | succ k =>
      unfold Ans.val at h
      rw [← spec_l01Num.eq] at h
      exact answer_sound mixed Try.func190 _ _ _ (k + 1) (fun j _ => tab_sound (tab_cons (spec_l01In.sound j) (tab_nil))) _ _ h
  · exact (Ans.no_val h).elim

def spec_l07Hash.b {R : Type} (ret : Bool → Option R) (k : Nat) (a0z : Bool) (a0 : List Int) : Option R :=
  ret (decide (((a0).length : Int) = 32))
def spec_l07Hash.f : Nat → Bool → (List Int) → Option Bool
  | 0, _, _ => none
  | k + 1, a0z, a0 => spec_l07Hash.b some k a0z a0
def spec_l07Hash.enc (r : Bool) : Res := ⟨[.vals false [((.bool r), true)]], []⟩
def spec_l07Hash.ans (k : Nat) : List Arg → Ans
  | [.v (.nums 5 .u8 a0z a0)] => ⟨spec_l07Hash.f k a0z a0, spec_l07Hash.enc⟩
  | _ => Ans.no
def spec_l07Hash.Cs (k : Nat) : CallSem := tab []
theorem spec_l07Hash.eq (k : Nat) (a0z : Bool) (a0 : List Int) : answer Try.prog spec_l07Hash.Cs 100000 [] [] Try.f191 (k + 1) [.v (.nums 5 .u8 a0z a0)] = (spec_l07Hash.f (k + 1) a0z a0).map spec_l07Hash.enc := by
  refine Eq.trans (b := spec_l07Hash.b (fun r => some (spec_l07Hash.enc r)) k a0z a0) (by kernel_rfl) ?_
  show _ = (spec_l07Hash.b some k a0z a0).map spec_l07Hash.enc
  unfold spec_l07Hash.b
  repeat' first | with_reducible refine nat_cond ?_ ?_ | with_reducible refine nat_bind fun _ => ?_ | rfl
theorem spec_l07Hash.sound (k : Nat) : SoundF Try.prog 191 (fun a => (spec_l07Hash.ans k a).val) := by
  refine sound_plain (fun args res h => ?_) (fun t n => rfl)
  unfold spec_l07Hash.ans at h
  dsimp only at h
  split at h
  · cases k with
    | zero => cases h
    | succ k =>
      unfold Ans.val at h
      rw [← spec_l07Hash.eq] at h
      exact answer_sound mixed Try.func191 _ _ _ (k + 1) (fun j _ => tab_sound (tab_nil)) _ _ h
  · exact (Ans.no_val h).elim

def spec_BitsSize.b {R : Type} (ret : Int → Option R) (k : Nat) (a0 : Int) : Option R :=
  cond (decide (a0 < 1)) (ret 0) (ret (RowKit.wrap64 ((RowKit.wrap64 (Int.tdiv (RowKit.wrap64 (a0 - 1)) 8)) + 1)))
def spec_BitsSize.f : Nat → Int → Option Int
  | 0, _ => none
  | k + 1, a0 => spec_BitsSize.b some k a0
def spec_BitsSize.enc (r : Int) : Res := ⟨[.vals false [((.int .i64 r), true)]], []⟩
def spec_BitsSize.ans (k : Nat) : List Arg → Ans
  | [.v (.int .i64 a0)] => ⟨spec_BitsSize.f k a0, spec_BitsSize.enc⟩
  | _ => Ans.no
def spec_BitsSize.Cs (k : Nat) : CallSem := tab []
theorem spec_BitsSize.eq (k : Nat) (a0 : Int) : answer Try.prog spec_BitsSize.Cs 100000 [] [] Try.f160 (k + 1) [.v (.int .i64 a0)] = (spec_BitsSize.f (k + 1) a0).map spec_BitsSize.enc := by
  refine Eq.trans (b := spec_BitsSize.b (fun r => some (spec_BitsSize.enc r)) k a0) (by kernel_rfl) ?_
  show _ = (spec_BitsSize.b some k a0).map spec_BitsSize.enc
  unfold spec_BitsSize.b
  repeat' first | with_reducible refine nat_cond ?_ ?_ | with_reducible refine nat_bind fun _ => ?_ | rfl
theorem spec_BitsSize.sound (k : Nat) : SoundF Try.prog 160 (fun a => (spec_BitsSize.ans k a).val) := by
  refine sound_plain (fun args res h => ?_) (fun t n => rfl)
  unfold spec_BitsSize.ans at h
  dsimp only at h
  split at h
  · cases k with
    | zero => cases h
    | succ k =>
      unfold Ans.val at h
      rw [← spec_BitsSize.eq] at h
      exact answer_sound mixed Try.func160 _ _ _ (k + 1) (fun j _ => tab_sound (tab_nil)) _ _ h
  · exact (Ans.no_val h).elim

def spec_BitsHas.b {R : Type} (ret : Bool → Option R) (k : Nat) (a0z : Bool) (a0 : List Int) (a1 : Int) : Option R :=
  cond (decide (a1 ≥ 0)) (cond (decide ((RowKit.wrap64 (Int.tdiv a1 8)) < ((a0).length : Int))) (cond (decide ((0 : Int) ≤ (RowKit.wrap64 (Int.tdiv a1 8)))) (cond (decide ((RowKit.wrap64 (Int.tdiv a1 8)) < ((a0).length : Int))) (cond (decide ((0 : Int) ≤ (Int.tmod a1 8))) (ret (decide ((Int.tmod (shrI .i64 (RowKit.wrap64 ((rdI a0 (RowKit.wrap64 (Int.tdiv a1 8))))) (Int.tmod a1 8)) 2) = 1))) (none)) (none)) (none)) (ret false)) (ret false)
def spec_BitsHas.f : Nat → Bool → (List Int) → Int → Option Bool
  | 0, _, _, _ => none
  | k + 1, a0z, a0, a1 => spec_BitsHas.b some k a0z a0 a1
def spec_BitsHas.enc (r : Bool) : Res := ⟨[.vals false [((.bool r), true)]], []⟩
def spec_BitsHas.ans (k : Nat) : List Arg → Ans
  | [.v (.nums 5 .u8 a0z a0), .v (.int .i64 a1)] => ⟨spec_BitsHas.f k a0z a0 a1, spec_BitsHas.enc⟩
  | _ => Ans.no
def spec_BitsHas.Cs (k : Nat) : CallSem := tab []
theorem spec_BitsHas.eq (k : Nat) (a0z : Bool) (a0 : List Int) (a1 : Int) : answer Try.prog spec_BitsHas.Cs 100000 [] [] Try.f173 (k + 1) [.v (.nums 5 .u8 a0z a0), .v (.int .i64 a1)] = (spec_BitsHas.f (k + 1) a0z a0 a1).map spec_BitsHas.enc := by
  refine Eq.trans (b := spec_BitsHas.b (fun r => some (spec_BitsHas.enc r)) k a0z a0 a1) (by kernel_rfl) ?_
  show _ = (spec_BitsHas.b some k a0z a0 a1).map spec_BitsHas.enc
  unfold spec_BitsHas.b
  repeat' first | with_reducible refine nat_cond ?_ ?_ | with_reducible refine nat_bind fun _ => ?_ | rfl
theorem spec_BitsHas.sound (k : Nat) : SoundF Try.prog 173 (fun a => (spec_BitsHas.ans k a).val) := by
  refine sound_plain (fun args res h => ?_) (fun t n => rfl)
  unfold spec_BitsHas.ans at h
  dsimp only at h
  split at h
  · cases k with
    | zero => cases h
    | succ k =>
      unfold Ans.val at h
      rw [← spec_BitsHas.eq] at h
      exact answer_sound mixed Try.func173 _ _ _ (k + 1) (fun j _ => tab_sound (tab_nil)) _ _ h
  · exact (Ans.no_val h).elim

def spec_BitsList.b {R : Type} (ret : Bool × List Int → Option R) (j0 : Bool → (List Int) → (List Int) → Int → Option R) (k : Nat) (a0z : Bool) (a0 : List Int) : Option R :=
  j0 a0z a0 ([] : List Int) 0
def spec_BitsList.l0b {R : Type} (ret : Bool × List Int → Option R) (j0 : Bool → (List Int) → (List Int) → Int → Option R) (k : Nat) (x0z : Bool) (x0 x3 : List Int) (x4 : Int) : Option R :=
  cond (decide (x4 < (RowKit.wrap64 ((8 : Int) * ((x0).length : Int))))) ((spec_BitsHas.f k x0z x0 x4).bind fun t0 => cond t0 (cond (decide ((x3).length + 1 < 17592186044416)) (j0 x0z x0 (x3 ++ ([x4] : List Int)) (RowKit.wrap64 (x4 + 1))) (none)) (j0 x0z x0 x3 (RowKit.wrap64 (x4 + 1)))) (ret (false, x3))
def spec_BitsList.l0 : Nat → Bool → (List Int) → (List Int) → Int → Option (Bool × List Int)
  | 0, _, _, _, _ => none
  | k + 1, x0z, x0, x3, x4 => spec_BitsList.l0b some (spec_BitsList.l0 k) k x0z x0 x3 x4
def spec_BitsList.f : Nat → Bool → (List Int) → Option (Bool × List Int)
  | 0, _, _ => none
  | k + 1, a0z, a0 => spec_BitsList.b some (spec_BitsList.l0 k) k a0z a0
def spec_BitsList.enc (r : Bool × List Int) : Res := ⟨[.vals false [((.nums 3 .i64 r.1 r.2), true)]], []⟩
def spec_BitsList.ans (k : Nat) : List Arg → Ans
  | [.v (.nums 5 .u8 a0z a0)] => ⟨spec_BitsList.f k a0z a0, spec_BitsList.enc⟩
  | _ => Ans.no
def spec_BitsList.Cs (k : Nat) : CallSem := tab [(173, spec_BitsHas.ans k)]
def spec_BitsList.cuts : List (Nat × Keep) := [(58, ⟨[(0, some []), (3, none), (4, some [])], []⟩)]
noncomputable def spec_BitsList.K0 : List Fr := framesAt [true, true, false, true, false] (bodyOf Try.f194 spec_BitsList.cuts) []
def spec_BitsList.N0 (x0z : Bool) (x0 x3 : List Int) (x4 : Int) : St := stOf 21 21 1 [(0, .val ⟨(.nums 5 .u8 x0z x0), [], false, none⟩), (3, .val ⟨(.nums 3 .i64 false x3), [.l 3 0], true, some (.l 3 0)⟩), (4, .val (V.s (.int .i64 x4)))] []
theorem spec_BitsList.s0 (k : Nat) (G : List Fr → St → Option Res) (a0z : Bool) (a0 : List Int) (yx0z : Bool) (yx0 yx3 : List Int) (yx4 : Int) : resume Try.prog (spec_BitsList.Cs k) G (finish Try.prog [] Try.f194 [.v (.nums 5 .u8 a0z a0)]) 100000 spec_BitsList.K0 (spec_BitsList.N0 yx0z yx0 yx3 yx4) = spec_BitsList.l0b (fun r => some (spec_BitsList.enc r)) (fun x0z x0 x3 x4 => G spec_BitsList.K0 (spec_BitsList.N0 x0z x0 x3 x4)) k yx0z yx0 yx3 yx4 := by kernel_rfl
theorem spec_BitsList.bn {R R' : Type} (e : R → R') (ret : Bool × List Int → Option R) (j0 : Bool → (List Int) → (List Int) → Int → Option R) (k : Nat) (a0z : Bool) (a0 : List Int) : spec_BitsList.b (fun r => (ret r).map e) (fun x0z x0 x3 x4 => (j0 x0z x0 x3 x4).map e) k a0z a0 = (spec_BitsList.b ret j0 k a0z a0).map e := by
  unfold spec_BitsList.b
  repeat' first | with_reducible refine nat_cond ?_ ?_ | with_reducible refine nat_bind fun _ => ?_ | rfl
theorem spec_BitsList.l0n {R R' : Type} (e : R → R') (ret : Bool × List Int → Option R) (j0 : Bool → (List Int) → (List Int) → Int → Option R) (k : Nat) (x0z : Bool) (x0 x3 : List Int) (x4 : Int) : spec_BitsList.l0b (fun r => (ret r).map e) (fun x0z x0 x3 x4 => (j0 x0z x0 x3 x4).map e) k x0z x0 x3 x4 = (spec_BitsList.l0b ret j0 k x0z x0 x3 x4).map e := by
  unfold spec_BitsList.l0b
  repeat' first | with_reducible refine nat_cond ?_ ?_ | with_reducible refine nat_bind fun _ => ?_ | rfl
theorem spec_BitsList.rq (a0z : Bool) (a0 : List Int) : ∀ k, (∀ (x0z : Bool) (x0 x3 : List Int) (x4 : Int), rounds Try.prog spec_BitsList.Cs (finish Try.prog [] Try.f194 [.v (.nums 5 .u8 a0z a0)]) 100000 k spec_BitsList.K0 (spec_BitsList.N0 x0z x0 x3 x4) = (spec_BitsList.l0 k x0z x0 x3 x4).map spec_BitsList.enc)
  | 0 => fun _ _ _ _ => rfl
  | k + 1 => by
    have ih := spec_BitsList.rq a0z a0 k
    refine fun _ _ _ _ => ?_
    · refine (spec_BitsList.s0 k _ a0z a0 _ _ _ _).trans (Eq.trans ?_ (spec_BitsList.l0n spec_BitsList.enc some (spec_BitsList.l0 k) k _ _ _ _))
      simp only [ih, Option.map_some]
theorem spec_BitsList.eq (k : Nat) (a0z : Bool) (a0 : List Int) : answer Try.prog spec_BitsList.Cs 100000 spec_BitsList.cuts [] Try.f194 (k + 1) [.v (.nums 5 .u8 a0z a0)] = (spec_BitsList.f (k + 1) a0z a0).map spec_BitsList.enc := by
  have ih := spec_BitsList.rq a0z a0 k
  refine Eq.trans (b := spec_BitsList.b (fun r => some (spec_BitsList.enc r)) (fun x0z x0 x3 x4 => rounds Try.prog spec_BitsList.Cs (finish Try.prog [] Try.f194 [.v (.nums 5 .u8 a0z a0)]) 100000 k spec_BitsList.K0 (spec_BitsList.N0 x0z x0 x3 x4)) k a0z a0) (by kernel_rfl) (Eq.trans ?_ (spec_BitsList.bn spec_BitsList.enc some (spec_BitsList.l0 k) k a0z a0))
  simp only [ih, Option.map_some]
theorem spec_BitsList.sound (k : Nat) : SoundF Try.prog 194 (fun a => (spec_BitsList.ans k a).val) := by
  refine sound_plain (fun args res h => ?_) (fun t n => rfl)
  unfold spec_BitsList.ans at h
  dsimp only at h
  split at h
  · cases k with
    | zero => cases h
    | succ k =>
      unfold Ans.val at h
      rw [← spec_BitsList.eq] at h
      exact answer_sound mixed Try.func194 _ _ _ (k + 1) (fun j _ => tab_sound (tab_cons (spec_BitsHas.sound j) (tab_nil))) _ _ h
  · exact (Ans.no_val h).elim

def spec_BitsOk.b {R : Type} (ret : Bool → Option R) (k : Nat) (a0z : Bool) (a0 : List Int) (a1 : Int) : Option R :=
  (spec_l02Signers.f k a1).bind fun t0 => cond (!t0) (ret false) ((spec_BitsSize.f k a1).bind fun t1 => cond (!(decide (((a0).length : Int) = t1))) (ret false) ((spec_BitsList.f k a0z a0).bind fun t2 => cond (decide (((t2.2).length : Int) = 0)) (ret true) (cond (decide ((0 : Int) ≤ (RowKit.wrap64 (((t2.2).length : Int) - 1)))) (cond (decide ((RowKit.wrap64 (((t2.2).length : Int) - 1)) < ((t2.2).length : Int))) (ret (decide ((rdI t2.2 (RowKit.wrap64 (((t2.2).length : Int) - 1))) < a1))) (none)) (none))))
def spec_BitsOk.f : Nat → Bool → (List Int) → Int → Option Bool
  | 0, _, _, _ => none
  | k + 1, a0z, a0, a1 => spec_BitsOk.b some k a0z a0 a1
def spec_BitsOk.enc (r : Bool) : Res := ⟨[.vals false [((.bool r), true)]], []⟩
def spec_BitsOk.ans (k : Nat) : List Arg → Ans
  | [.v (.nums 5 .u8 a0z a0), .v (.int .i64 a1)] => ⟨spec_BitsOk.f k a0z a0 a1, spec_BitsOk.enc⟩
  | _ => Ans.no
def spec_BitsOk.Cs (k : Nat) : CallSem := tab [(171, spec_l02Signers.ans k), (160, spec_BitsSize.ans k), (194, spec_BitsList.ans k)]
theorem spec_BitsOk.eq (k : Nat) (a0z : Bool) (a0 : List Int) (a1 : Int) : answer Try.prog spec_BitsOk.Cs 100000 [] [] Try.f172 (k + 1) [.v (.nums 5 .u8 a0z a0), .v (.int .i64 a1)] = (spec_BitsOk.f (k + 1) a0z a0 a1).map spec_BitsOk.enc := by
  refine Eq.trans (b := spec_BitsOk.b (fun r => some (spec_BitsOk.enc r)) k a0z a0 a1) (by kernel_rfl) ?_
  show _ = (spec_BitsOk.b some k a0z a0 a1).map spec_BitsOk.enc
  unfold spec_BitsOk.b
  repeat' first | with_reducible refine nat_cond ?_ ?_ | with_reducible refine nat_bind fun _ => ?_ | rfl
theorem spec_BitsOk.sound (k : Nat) : SoundF Try.prog 172 (fun a => (spec_BitsOk.ans k a).val) := by
  refine sound_plain (fun args res h => ?_) (fun t n => rfl)
  unfold spec_BitsOk.ans at h
  dsimp only at h
  split at h
  · cases k with
    | zero => cases h
    | succ k =>
      unfold Ans.val at h
      rw [← spec_BitsOk.eq] at h
      exact answer_sound mixed Try.func172 _ _ _ (k + 1) (fun j _ => tab_sound (tab_cons (spec_l02Signers.sound j) (tab_cons (spec_BitsSize.sound j) (tab_cons (spec_BitsList.sound j) (tab_nil))))) _ _ h
  · exact (Ans.no_val h).elim

def spec_BitsCount.b {R : Type} (ret : Int → Option R) (k : Nat) (a0z : Bool) (a0 : List Int) : Option R :=
  (spec_BitsList.f k a0z a0).bind fun t0 => ret ((t0.2).length : Int)
def spec_BitsCount.f : Nat → Bool → (List Int) → Option Int
  | 0, _, _ => none
  | k + 1, a0z, a0 => spec_BitsCount.b some k a0z a0
def spec_BitsCount.enc (r : Int) : Res := ⟨[.vals false [((.int .i64 r), true)]], []⟩
def spec_BitsCount.ans (k : Nat) : List Arg → Ans
  | [.v (.nums 5 .u8 a0z a0)] => ⟨spec_BitsCount.f k a0z a0, spec_BitsCount.enc⟩
  | _ => Ans.no
def spec_BitsCount.Cs (k : Nat) : CallSem := tab [(194, spec_BitsList.ans k)]
theorem spec_BitsCount.eq (k : Nat) (a0z : Bool) (a0 : List Int) : answer Try.prog spec_BitsCount.Cs 100000 [] [] Try.f224 (k + 1) [.v (.nums 5 .u8 a0z a0)] = (spec_BitsCount.f (k + 1) a0z a0).map spec_BitsCount.enc := by
  refine Eq.trans (b := spec_BitsCount.b (fun r => some (spec_BitsCount.enc r)) k a0z a0) (by kernel_rfl) ?_
  show _ = (spec_BitsCount.b some k a0z a0).map spec_BitsCount.enc
  unfold spec_BitsCount.b
  repeat' first | with_reducible refine nat_cond ?_ ?_ | with_reducible refine nat_bind fun _ => ?_ | rfl
theorem spec_BitsCount.sound (k : Nat) : SoundF Try.prog 224 (fun a => (spec_BitsCount.ans k a).val) := by
  refine sound_plain (fun args res h => ?_) (fun t n => rfl)
  unfold spec_BitsCount.ans at h
  dsimp only at h
  split at h
  · cases k with
    | zero => cases h
    | succ k =>
      unfold Ans.val at h
      rw [← spec_BitsCount.eq] at h
      exact answer_sound mixed Try.func224 _ _ _ (k + 1) (fun j _ => tab_sound (tab_cons (spec_BitsList.sound j) (tab_nil))) _ _ h
  · exact (Ans.no_val h).elim

def spec_l08Hashes.b {R : Type} (ret : Bool → Option R) (j0 : Bool → (List T) → Int → Int → Option R) (k : Nat) (a0z : Bool) (a0 : List T) : Option R :=
  j0 a0z a0 ((a0).length : Int) 0
def spec_l08Hashes.l0b {R : Type} (ret : Bool → Option R) (j0 : Bool → (List T) → Int → Int → Option R) (k : Nat) (x5z : Bool) (x5 : List T) (x6 x7 : Int) : Option R :=
  cond (decide (x7 < x6)) (cond (decide ((0 : Int) ≤ x7)) (cond (decide (x7 < ((x5).length : Int))) ((spec_l07Hash.f k (((((x5).getD (x7).toNat .bad).cells.getD 0 .bad)).isNil) (((((x5).getD (x7).toNat .bad).cells.getD 0 .bad)).toNums)).bind fun t0 => cond (!t0) (ret false) (j0 x5z x5 x6 (RowKit.wrap64 (x7 + 1)))) (none)) (none)) (ret true)
def spec_l08Hashes.l0 : Nat → Bool → (List T) → Int → Int → Option Bool
  | 0, _, _, _, _ => none
  | k + 1, x5z, x5, x6, x7 => spec_l08Hashes.l0b some (spec_l08Hashes.l0 k) k x5z x5 x6 x7
def spec_l08Hashes.f : Nat → Bool → (List T) → Option Bool
  | 0, _, _ => none
  | k + 1, a0z, a0 => spec_l08Hashes.b some (spec_l08Hashes.l0 k) k a0z a0
def spec_l08Hashes.enc (r : Bool) : Res := ⟨[.vals false [((.bool r), true)]], []⟩
def spec_l08Hashes.ans (k : Nat) : List Arg → Ans
  | [.v (.sl 22 a0z a0)] => ⟨spec_l08Hashes.f k a0z a0, spec_l08Hashes.enc⟩
  | _ => Ans.no
def spec_l08Hashes.Cs (k : Nat) : CallSem := tab [(191, spec_l07Hash.ans k)]
def spec_l08Hashes.cuts : List (Nat × Keep) := [(26, ⟨[(5, some []), (6, some []), (7, some [])], []⟩)]
noncomputable def spec_l08Hashes.K0 : List Fr := framesAt [true, false, true, false] (bodyOf Try.f225 spec_l08Hashes.cuts) []
def spec_l08Hashes.N0 (x5z : Bool) (x5 : List T) (x6 x7 : Int) : St := stOf 15 15 1 [(5, .val ⟨(.sl 22 x5z x5), [], false, none⟩), (6, .val (V.s (.int .i64 x6))), (7, .val (V.s (.int .i64 x7)))] []
theorem spec_l08Hashes.s0 (k : Nat) (G : List Fr → St → Option Res) (a0z : Bool) (a0 : List T) (yx5z : Bool) (yx5 : List T) (yx6 yx7 : Int) : resume Try.prog (spec_l08Hashes.Cs k) G (finish Try.prog [] Try.f225 [.v (.sl 22 a0z a0)]) 100000 spec_l08Hashes.K0 (spec_l08Hashes.N0 yx5z yx5 yx6 yx7) = spec_l08Hashes.l0b (fun r => some (spec_l08Hashes.enc r)) (fun x5z x5 x6 x7 => G spec_l08Hashes.K0 (spec_l08Hashes.N0 x5z x5 x6 x7)) k yx5z yx5 yx6 yx7 := by kernel_rfl
theorem spec_l08Hashes.bn {R R' : Type} (e : R → R') (ret : Bool → Option R) (j0 : Bool → (List T) → Int → Int → Option R) (k : Nat) (a0z : Bool) (a0 : List T) : spec_l08Hashes.b (fun r => (ret r).map e) (fun x5z x5 x6 x7 => (j0 x5z x5 x6 x7).map e) k a0z a0 = (spec_l08Hashes.b ret j0 k a0z a0).map e := by
  unfold spec_l08Hashes.b
  repeat' first | with_reducible refine nat_cond ?_ ?_ | with_reducible refine nat_bind fun _ => ?_ | rfl
theorem spec_l08Hashes.l0n {R R' : Type} (e : R → R') (ret : Bool → Option R) (j0 : Bool → (List T) → Int → Int → Option R) (k : Nat) (x5z : Bool) (x5 : List T) (x6 x7 : Int) : spec_l08Hashes.l0b (fun r => (ret r).map e) (fun x5z x5 x6 x7 => (j0 x5z x5 x6 x7).map e) k x5z x5 x6 x7 = (spec_l08Hashes.l0b ret j0 k x5z x5 x6 x7).map e := by
  unfold spec_l08Hashes.l0b
  repeat' first | with_reducible refine nat_cond ?_ ?_ | with_reducible refine nat_bind fun _ => ?_ | rfl
theorem spec_l08Hashes.rq (a0z : Bool) (a0 : List T) : ∀ k, (∀ (x5z : Bool) (x5 : List T) (x6 x7 : Int), rounds Try.prog spec_l08Hashes.Cs (finish Try.prog [] Try.f225 [.v (.sl 22 a0z a0)]) 100000 k spec_l08Hashes.K0 (spec_l08Hashes.N0 x5z x5 x6 x7) = (spec_l08Hashes.l0 k x5z x5 x6 x7).map spec_l08Hashes.enc)
  | 0 => fun _ _ _ _ => rfl
  | k + 1 => by
    have ih := spec_l08Hashes.rq a0z a0 k
    refine fun _ _ _ _ => ?_
    · refine (spec_l08Hashes.s0 k _ a0z a0 _ _ _ _).trans (Eq.trans ?_ (spec_l08Hashes.l0n spec_l08Hashes.enc some (spec_l08Hashes.l0 k) k _ _ _ _))
      simp only [ih, Option.map_some]
theorem spec_l08Hashes.eq (k : Nat) (a0z : Bool) (a0 : List T) : answer Try.prog spec_l08Hashes.Cs 100000 spec_l08Hashes.cuts [] Try.f225 (k + 1) [.v (.sl 22 a0z a0)] = (spec_l08Hashes.f (k + 1) a0z a0).map spec_l08Hashes.enc := by
  have ih := spec_l08Hashes.rq a0z a0 k
  refine Eq.trans (b := spec_l08Hashes.b (fun r => some (spec_l08Hashes.enc r)) (fun x5z x5 x6 x7 => rounds Try.prog spec_l08Hashes.Cs (finish Try.prog [] Try.f225 [.v (.sl 22 a0z a0)]) 100000 k spec_l08Hashes.K0 (spec_l08Hashes.N0 x5z x5 x6 x7)) k a0z a0) (by kernel_rfl) (Eq.trans ?_ (spec_l08Hashes.bn spec_l08Hashes.enc some (spec_l08Hashes.l0 k) k a0z a0))
  simp only [ih, Option.map_some]
theorem spec_l08Hashes.sound (k : Nat) : SoundF Try.prog 225 (fun a => (spec_l08Hashes.ans k a).val) := by
  refine sound_plain (fun args res h => ?_) (fun t n => rfl)
  unfold spec_l08Hashes.ans at h
  dsimp only at h
  split at h
  · cases k with
    | zero => cases h
    | succ k =>
      unfold Ans.val at h
      rw [← spec_l08Hashes.eq] at h
      exact answer_sound mixed Try.func225 _ _ _ (k + 1) (fun j _ => tab_sound (tab_cons (spec_l07Hash.sound j) (tab_nil))) _ _ h
  · exact (Ans.no_val h).elim

def spec_QcOk.b {R : Type} (ret : Bool → Option R) (k : Nat) (a0_0 a0_1 : Int) (a0_2 a0_3 : Int) (a0_4 a1_0 a1_1 : Int) (a1_2z : Bool) (a1_2 : List Int) (a1_3z : Bool) (a1_3 : List Int) (a1_4z : Bool) (a1_4 : List T) : Option R :=
  (spec_LimitsOk.f k a0_0 a0_1 a0_2 a0_3 a0_4).bind fun t0 => cond t0 ((spec_l01Num.f k a1_0).bind fun t1 => cond t1 ((spec_l01Num.f k a1_1).bind fun t2 => cond t2 ((spec_l07Hash.f k a1_2z a1_2).bind fun t3 => cond t3 ((spec_BitsOk.f k a1_3z a1_3 a0_0).bind fun t4 => cond t4 ((spec_BitsCount.f k a1_3z a1_3).bind fun t5 => cond (decide (((a1_4).length : Int) = t5)) ((spec_l08Hashes.f k a1_4z a1_4).bind fun t6 => ret t6) (ret false)) (ret false)) (ret false)) (ret false)) (ret false)) (ret false)
def spec_QcOk.f : Nat → Int → Int → Int → Int → Int → Int → Int → Bool → (List Int) → Bool → (List Int) → Bool → (List T) → Option Bool
  | 0, _, _, _, _, _, _, _, _, _, _, _, _, _ => none
  | k + 1, a0_0, a0_1, a0_2, a0_3, a0_4, a1_0, a1_1, a1_2z, a1_2, a1_3z, a1_3, a1_4z, a1_4 => spec_QcOk.b some k a0_0 a0_1 a0_2 a0_3 a0_4 a1_0 a1_1 a1_2z a1_2 a1_3z a1_3 a1_4z a1_4
def spec_QcOk.enc (r : Bool) : Res := ⟨[.vals false [((.bool r), true)]], []⟩
def spec_QcOk.ans (k : Nat) : List Arg → Ans
  | [.v (.agg [(.int .i64 a0_0), (.int .i64 a0_1), (.int .i64 a0_2), (.int .i64 a0_3), (.int .i64 a0_4)]), .v (.agg [(.int .i64 a1_0), (.int .i64 a1_1), (.nums 5 .u8 a1_2z a1_2), (.nums 5 .u8 a1_3z a1_3), (.sl 22 a1_4z a1_4)])] => ⟨spec_QcOk.f k a0_0 a0_1 a0_2 a0_3 a0_4 a1_0 a1_1 a1_2z a1_2 a1_3z a1_3 a1_4z a1_4, spec_QcOk.enc⟩
  | _ => Ans.no
def spec_QcOk.Cs (k : Nat) : CallSem := tab [(179, spec_LimitsOk.ans k), (190, spec_l01Num.ans k), (191, spec_l07Hash.ans k), (172, spec_BitsOk.ans k), (224, spec_BitsCount.ans k), (225, spec_l08Hashes.ans k)]
theorem spec_QcOk.eq (k : Nat) (a0_0 a0_1 : Int) (a0_2 a0_3 : Int) (a0_4 a1_0 a1_1 : Int) (a1_2z : Bool) (a1_2 : List Int) (a1_3z : Bool) (a1_3 : List Int) (a1_4z : Bool) (a1_4 : List T) : answer Try.prog spec_QcOk.Cs 100000 [] [] Try.f192 (k + 1) [.v (.agg [(.int .i64 a0_0), (.int .i64 a0_1), (.int .i64 a0_2), (.int .i64 a0_3), (.int .i64 a0_4)]), .v (.agg [(.int .i64 a1_0), (.int .i64 a1_1), (.nums 5 .u8 a1_2z a1_2), (.nums 5 .u8 a1_3z a1_3), (.sl 22 a1_4z a1_4)])] = (spec_QcOk.f (k + 1) a0_0 a0_1 a0_2 a0_3 a0_4 a1_0 a1_1 a1_2z a1_2 a1_3z a1_3 a1_4z a1_4).map spec_QcOk.enc := by
  refine Eq.trans (b := spec_QcOk.b (fun r => some (spec_QcOk.enc r)) k a0_0 a0_1 a0_2 a0_3 a0_4 a1_0 a1_1 a1_2z a1_2 a1_3z a1_3 a1_4z a1_4) (by kernel_rfl) ?_
  show _ = (spec_QcOk.b some k a0_0 a0_1 a0_2 a0_3 a0_4 a1_0 a1_1 a1_2z a1_2 a1_3z a1_3 a1_4z a1_4).map spec_QcOk.enc
  unfold spec_QcOk.b
  repeat' first | with_reducible refine nat_cond ?_ ?_ | with_reducible refine nat_bind fun _ => ?_ | rfl
theorem spec_QcOk.sound (k : Nat) : SoundF Try.prog 192 (fun a => (spec_QcOk.ans k a).val) := by
  refine sound_plain (fun args res h => ?_) (fun t n => rfl)
  unfold spec_QcOk.ans at h
  dsimp only at h
  split at h
  · cases k with
    | zero => cases h
    | succ k =>
      unfold Ans.val at h
      rw [← spec_QcOk.eq] at h
      exact answer_sound mixed Try.func192 _ _ _ (k + 1) (fun j _ => tab_sound (tab_cons (spec_LimitsOk.sound j) (tab_cons (spec_l01Num.sound j) (tab_cons (spec_l07Hash.sound j) (tab_cons (spec_BitsOk.sound j) (tab_cons (spec_BitsCount.sound j) (tab_cons (spec_l08Hashes.sound j) (tab_nil)))))))) _ _ h
  · exact (Ans.no_val h).elim

def spec_SameBytes.b {R : Type} (ret : Bool → Option R) (k : Nat) (a0z : Bool) (a0 : List Int) (a1z : Bool) (a1 : List Int) : Option R :=
  ret (decide ((strOf a0) = (strOf a1)))
def spec_SameBytes.f : Nat → Bool → (List Int) → Bool → (List Int) → Option Bool
  | 0, _, _, _, _ => none
  | k + 1, a0z, a0, a1z, a1 => spec_SameBytes.b some k a0z a0 a1z a1
def spec_SameBytes.enc (r : Bool) : Res := ⟨[.vals false [((.bool r), true)]], []⟩
def spec_SameBytes.ans (k : Nat) : List Arg → Ans
  | [.v (.nums 5 .u8 a0z a0), .v (.nums 5 .u8 a1z a1)] => ⟨spec_SameBytes.f k a0z a0 a1z a1, spec_SameBytes.enc⟩
  | _ => Ans.no
def spec_SameBytes.Cs (k : Nat) : CallSem := tab []
theorem spec_SameBytes.eq (k : Nat) (a0z : Bool) (a0 : List Int) (a1z : Bool) (a1 : List Int) : answer Try.prog spec_SameBytes.Cs 100000 [] [] Try.f115 (k + 1) [.v (.nums 5 .u8 a0z a0), .v (.nums 5 .u8 a1z a1)] = (spec_SameBytes.f (k + 1) a0z a0 a1z a1).map spec_SameBytes.enc := by
  refine Eq.trans (b := spec_SameBytes.b (fun r => some (spec_SameBytes.enc r)) k a0z a0 a1z a1) (by kernel_rfl) ?_
  show _ = (spec_SameBytes.b some k a0z a0 a1z a1).map spec_SameBytes.enc
  unfold spec_SameBytes.b
  repeat' first | with_reducible refine nat_cond ?_ ?_ | with_reducible refine nat_bind fun _ => ?_ | rfl
theorem spec_SameBytes.sound (k : Nat) : SoundF Try.prog 115 (fun a => (spec_SameBytes.ans k a).val) := by
  refine sound_plain (fun args res h => ?_) (fun t n => rfl)
  unfold spec_SameBytes.ans at h
  dsimp only at h
  split at h
  · cases k with
    | zero => cases h
    | succ k =>
      unfold Ans.val at h
      rw [← spec_SameBytes.eq] at h
      exact answer_sound mixed Try.func115 _ _ _ (k + 1) (fun j _ => tab_sound (tab_nil)) _ _ h
  · exact (Ans.no_val h).elim

def spec_l13Fits.b {R : Type} (ret : Bool → Option R) (k : Nat) (a0_0 a0_1 a0_2 : Int) (a0_3z : Bool) (a0_3 : List Int) (a0_4z : Bool) (a0_4 : List Int) (a0_5 a0_6 : Int) (a0_7z : Bool) (a0_7 : List Int) (a0_8z : Bool) (a0_8 : List Int) (a0_9z : Bool) (a0_9 : List T) : Option R :=
  cond (decide (a0_5 < a0_0)) (cond (decide (a0_6 = (RowKit.wrap64 (a0_1 - 1)))) ((spec_SameBytes.f k a0_7z a0_7 a0_3z a0_3).bind fun t0 => ret t0) (ret false)) (ret false)
def spec_l13Fits.f : Nat → Int → Int → Int → Bool → (List Int) → Bool → (List Int) → Int → Int → Bool → (List Int) → Bool → (List Int) → Bool → (List T) → Option Bool
  | 0, _, _, _, _, _, _, _, _, _, _, _, _, _, _, _ => none
  | k + 1, a0_0, a0_1, a0_2, a0_3z, a0_3, a0_4z, a0_4, a0_5, a0_6, a0_7z, a0_7, a0_8z, a0_8, a0_9z, a0_9 => spec_l13Fits.b some k a0_0 a0_1 a0_2 a0_3z a0_3 a0_4z a0_4 a0_5 a0_6 a0_7z a0_7 a0_8z a0_8 a0_9z a0_9
def spec_l13Fits.enc (r : Bool) : Res := ⟨[.vals false [((.bool r), true)]], []⟩
def spec_l13Fits.ans (k : Nat) : List Arg → Ans
  | [.v (.agg [(.int .i64 a0_0), (.int .i64 a0_1), (.int .i64 a0_2), (.nums 5 .u8 a0_3z a0_3), (.nums 5 .u8 a0_4z a0_4), (.int .i64 a0_5), (.int .i64 a0_6), (.nums 5 .u8 a0_7z a0_7), (.nums 5 .u8 a0_8z a0_8), (.sl 22 a0_9z a0_9)])] => ⟨spec_l13Fits.f k a0_0 a0_1 a0_2 a0_3z a0_3 a0_4z a0_4 a0_5 a0_6 a0_7z a0_7 a0_8z a0_8 a0_9z a0_9, spec_l13Fits.enc⟩
  | _ => Ans.no
def spec_l13Fits.Cs (k : Nat) : CallSem := tab [(115, spec_SameBytes.ans k)]
theorem spec_l13Fits.eq (k : Nat) (a0_0 a0_1 a0_2 : Int) (a0_3z : Bool) (a0_3 : List Int) (a0_4z : Bool) (a0_4 : List Int) (a0_5 a0_6 : Int) (a0_7z : Bool) (a0_7 : List Int) (a0_8z : Bool) (a0_8 : List Int) (a0_9z : Bool) (a0_9 : List T) : answer Try.prog spec_l13Fits.Cs 100000 [] [] Try.f193 (k + 1) [.v (.agg [(.int .i64 a0_0), (.int .i64 a0_1), (.int .i64 a0_2), (.nums 5 .u8 a0_3z a0_3), (.nums 5 .u8 a0_4z a0_4), (.int .i64 a0_5), (.int .i64 a0_6), (.nums 5 .u8 a0_7z a0_7), (.nums 5 .u8 a0_8z a0_8), (.sl 22 a0_9z a0_9)])] = (spec_l13Fits.f (k + 1) a0_0 a0_1 a0_2 a0_3z a0_3 a0_4z a0_4 a0_5 a0_6 a0_7z a0_7 a0_8z a0_8 a0_9z a0_9).map spec_l13Fits.enc := by
  refine Eq.trans (b := spec_l13Fits.b (fun r => some (spec_l13Fits.enc r)) k a0_0 a0_1 a0_2 a0_3z a0_3 a0_4z a0_4 a0_5 a0_6 a0_7z a0_7 a0_8z a0_8 a0_9z a0_9) (by kernel_rfl) ?_
  show _ = (spec_l13Fits.b some k a0_0 a0_1 a0_2 a0_3z a0_3 a0_4z a0_4 a0_5 a0_6 a0_7z a0_7 a0_8z a0_8 a0_9z a0_9).map spec_l13Fits.enc
  unfold spec_l13Fits.b
  repeat' first | with_reducible refine nat_cond ?_ ?_ | with_reducible refine nat_bind fun _ => ?_ | rfl
theorem spec_l13Fits.sound (k : Nat) : SoundF Try.prog 193 (fun a => (spec_l13Fits.ans k a).val) := by
  refine sound_plain (fun args res h => ?_) (fun t n => rfl)
  unfold spec_l13Fits.ans at h
  dsimp only at h
  split at h
  · cases k with
    | zero => cases h
    | succ k =>
      unfold Ans.val at h
      rw [← spec_l13Fits.eq] at h
      exact answer_sound mixed Try.func193 _ _ _ (k + 1) (fun j _ => tab_sound (tab_cons (spec_SameBytes.sound j) (tab_nil))) _ _ h
  · exact (Ans.no_val h).elim

def spec_HeadOk.b {R : Type} (ret : Bool → Option R) (k : Nat) (a0_0 a0_1 : Int) (a0_2 a0_3 : Int) (a0_4 a1_0 : Int) (a1_1 a1_2 : Int) (a1_3z : Bool) (a1_3 : List Int) (a1_4z : Bool) (a1_4 : List Int) (a1_5 a1_6 : Int) (a1_7z : Bool) (a1_7 : List Int) (a1_8z : Bool) (a1_8 : List Int) (a1_9z : Bool) (a1_9 : List T) : Option R :=
  (spec_LimitsOk.f k a0_0 a0_1 a0_2 a0_3 a0_4).bind fun t0 => cond t0 ((spec_l01Num.f k a1_0).bind fun t1 => cond t1 ((spec_l01In.f k a1_1 1 1152921504606846975).bind fun t2 => cond t2 ((spec_l01In.f k a1_2 0 (RowKit.wrap64 (a0_0 - 1))).bind fun t3 => cond t3 ((spec_l07Hash.f k a1_3z a1_3).bind fun t4 => cond t4 ((spec_l07Hash.f k a1_4z a1_4).bind fun t5 => cond t5 ((spec_QcOk.f k a0_0 a0_1 a0_2 a0_3 a0_4 a1_5 a1_6 a1_7z a1_7 a1_8z a1_8 a1_9z a1_9).bind fun t6 => cond t6 ((spec_l13Fits.f k a1_0 a1_1 a1_2 a1_3z a1_3 a1_4z a1_4 a1_5 a1_6 a1_7z a1_7 a1_8z a1_8 a1_9z a1_9).bind fun t7 => ret t7) (ret false)) (ret false)) (ret false)) (ret false)) (ret false)) (ret false)) (ret false)
def spec_HeadOk.f : Nat → Int → Int → Int → Int → Int → Int → Int → Int → Bool → (List Int) → Bool → (List Int) → Int → Int → Bool → (List Int) → Bool → (List Int) → Bool → (List T) → Option Bool
  | 0, _, _, _, _, _, _, _, _, _, _, _, _, _, _, _, _, _, _, _, _ => none
  | k + 1, a0_0, a0_1, a0_2, a0_3, a0_4, a1_0, a1_1, a1_2, a1_3z, a1_3, a1_4z, a1_4, a1_5, a1_6, a1_7z, a1_7, a1_8z, a1_8, a1_9z, a1_9 => spec_HeadOk.b some k a0_0 a0_1 a0_2 a0_3 a0_4 a1_0 a1_1 a1_2 a1_3z a1_3 a1_4z a1_4 a1_5 a1_6 a1_7z a1_7 a1_8z a1_8 a1_9z a1_9
def spec_HeadOk.enc (r : Bool) : Res := ⟨[.vals false [((.bool r), true)]], []⟩
def spec_HeadOk.ans (k : Nat) : List Arg → Ans
  | [.v (.agg [(.int .i64 a0_0), (.int .i64 a0_1), (.int .i64 a0_2), (.int .i64 a0_3), (.int .i64 a0_4)]), .v (.agg [(.int .i64 a1_0), (.int .i64 a1_1), (.int .i64 a1_2), (.nums 5 .u8 a1_3z a1_3), (.nums 5 .u8 a1_4z a1_4), (.int .i64 a1_5), (.int .i64 a1_6), (.nums 5 .u8 a1_7z a1_7), (.nums 5 .u8 a1_8z a1_8), (.sl 22 a1_9z a1_9)])] => ⟨spec_HeadOk.f k a0_0 a0_1 a0_2 a0_3 a0_4 a1_0 a1_1 a1_2 a1_3z a1_3 a1_4z a1_4 a1_5 a1_6 a1_7z a1_7 a1_8z a1_8 a1_9z a1_9, spec_HeadOk.enc⟩
  | _ => Ans.no
def spec_HeadOk.Cs (k : Nat) : CallSem := tab [(179, spec_LimitsOk.ans k), (170, spec_l01In.ans k), (190, spec_l01Num.ans k), (191, spec_l07Hash.ans k), (192, spec_QcOk.ans k), (193, spec_l13Fits.ans k)]
theorem spec_HeadOk.eq (k : Nat) (a0_0 a0_1 : Int) (a0_2 a0_3 : Int) (a0_4 a1_0 : Int) (a1_1 a1_2 : Int) (a1_3z : Bool) (a1_3 : List Int) (a1_4z : Bool) (a1_4 : List Int) (a1_5 a1_6 : Int) (a1_7z : Bool) (a1_7 : List Int) (a1_8z : Bool) (a1_8 : List Int) (a1_9z : Bool) (a1_9 : List T) : answer Try.prog spec_HeadOk.Cs 100000 [] [] Try.f157 (k + 1) [.v (.agg [(.int .i64 a0_0), (.int .i64 a0_1), (.int .i64 a0_2), (.int .i64 a0_3), (.int .i64 a0_4)]), .v (.agg [(.int .i64 a1_0), (.int .i64 a1_1), (.int .i64 a1_2), (.nums 5 .u8 a1_3z a1_3), (.nums 5 .u8 a1_4z a1_4), (.int .i64 a1_5), (.int .i64 a1_6), (.nums 5 .u8 a1_7z a1_7), (.nums 5 .u8 a1_8z a1_8), (.sl 22 a1_9z a1_9)])] = (spec_HeadOk.f (k + 1) a0_0 a0_1 a0_2 a0_3 a0_4 a1_0 a1_1 a1_2 a1_3z a1_3 a1_4z a1_4 a1_5 a1_6 a1_7z a1_7 a1_8z a1_8 a1_9z a1_9).map spec_HeadOk.enc := by
  refine Eq.trans (b := spec_HeadOk.b (fun r => some (spec_HeadOk.enc r)) k a0_0 a0_1 a0_2 a0_3 a0_4 a1_0 a1_1 a1_2 a1_3z a1_3 a1_4z a1_4 a1_5 a1_6 a1_7z a1_7 a1_8z a1_8 a1_9z a1_9) (by kernel_rfl) ?_
  show _ = (spec_HeadOk.b some k a0_0 a0_1 a0_2 a0_3 a0_4 a1_0 a1_1 a1_2 a1_3z a1_3 a1_4z a1_4 a1_5 a1_6 a1_7z a1_7 a1_8z a1_8 a1_9z a1_9).map spec_HeadOk.enc
  unfold spec_HeadOk.b
  repeat' first | with_reducible refine nat_cond ?_ ?_ | with_reducible refine nat_bind fun _ => ?_ | rfl
theorem spec_HeadOk.sound (k : Nat) : SoundF Try.prog 157 (fun a => (spec_HeadOk.ans k a).val) := by
  refine sound_plain (fun args res h => ?_) (fun t n => rfl)
  unfold spec_HeadOk.ans at h
  dsimp only at h
  split at h
  · cases k with
    | zero => cases h
    | succ k =>
      unfold Ans.val at h
      rw [← spec_HeadOk.eq] at h
      exact answer_sound mixed Try.func157 _ _ _ (k + 1) (fun j _ => tab_sound (tab_cons (spec_LimitsOk.sound j) (tab_cons (spec_l01In.sound j) (tab_cons (spec_l01Num.sound j) (tab_cons (spec_l07Hash.sound j) (tab_cons (spec_QcOk.sound j) (tab_cons (spec_l13Fits.sound j) (tab_nil)))))))) _ _ h
  · exact (Ans.no_val h).elim

def spec_l01Copy.b {R : Type} (ret : Bool × List Int → Option R) (k : Nat) (a0z : Bool) (a0 : List Int) : Option R :=
  cond (decide (0 + (a0).length < 140737488355328)) (ret (((a0).isEmpty && false), a0)) (none)
def spec_l01Copy.f : Nat → Bool → (List Int) → Option (Bool × List Int)
  | 0, _, _ => none
  | k + 1, a0z, a0 => spec_l01Copy.b some k a0z a0
def spec_l01Copy.enc (r : Bool × List Int) : Res := ⟨[.vals false [((.nums 5 .u8 r.1 r.2), true)]], []⟩
def spec_l01Copy.ans (k : Nat) : List Arg → Ans
  | [.v (.nums 5 .u8 a0z a0)] => ⟨spec_l01Copy.f k a0z a0, spec_l01Copy.enc⟩
  | _ => Ans.no
def spec_l01Copy.Cs (k : Nat) : CallSem := tab []
theorem spec_l01Copy.eq (k : Nat) (a0z : Bool) (a0 : List Int) : answer Try.prog spec_l01Copy.Cs 100000 [] [] Try.f155 (k + 1) [.v (.nums 5 .u8 a0z a0)] = (spec_l01Copy.f (k + 1) a0z a0).map spec_l01Copy.enc := by
  refine Eq.trans (b := spec_l01Copy.b (fun r => some (spec_l01Copy.enc r)) k a0z a0) (by kernel_rfl) ?_
  show _ = (spec_l01Copy.b some k a0z a0).map spec_l01Copy.enc
  unfold spec_l01Copy.b
  repeat' first | with_reducible refine nat_cond ?_ ?_ | with_reducible refine nat_bind fun _ => ?_ | rfl
theorem spec_l01Copy.sound (k : Nat) : SoundF Try.prog 155 (fun a => (spec_l01Copy.ans k a).val) := by
  refine sound_plain (fun args res h => ?_) (fun t n => rfl)
  unfold spec_l01Copy.ans at h
  dsimp only at h
  split at h
  · cases k with
    | zero => cases h
    | succ k =>
      unfold Ans.val at h
      rw [← spec_l01Copy.eq] at h
      exact answer_sound mixed Try.func155 _ _ _ (k + 1) (fun j _ => tab_sound (tab_nil)) _ _ h
  · exact (Ans.no_val h).elim

def spec_PutVar.b {R : Type} (ret : Bool × (List Int) × Bool → Option R) (j0 : Int → Bool → (List Int) → Option R) (k : Nat) (a0z : Bool) (a0 : List Int) (a1 : Int) : Option R :=
  (spec_l01Num.f k a1).bind fun t0 => cond (!t0) (ret (true, ([] : List Int), false)) ((spec_l01Copy.f k a0z a0).bind fun t1 => j0 a1 t1.1 t1.2)
def spec_PutVar.l0b {R : Type} (ret : Bool × (List Int) × Bool → Option R) (j0 : Int → Bool → (List Int) → Option R) (k : Nat) (x1 : Int) (x6z : Bool) (x6 : List Int) : Option R :=
  cond (decide (x1 > 127)) (cond (decide ((x6).length + 1 < 140737488355328)) (j0 (RowKit.wrap64 (Int.tdiv x1 128)) false (x6 ++ ([(((RowKit.wrap64 ((128 : Int) + (Int.tmod x1 128)))) % 256)] : List Int))) (none)) (cond (decide ((x6).length + 1 < 140737488355328)) (ret (false, (x6 ++ ([((x1) % 256)] : List Int)), true)) (none))
def spec_PutVar.l0 : Nat → Int → Bool → (List Int) → Option (Bool × (List Int) × Bool)
  | 0, _, _, _ => none
  | k + 1, x1, x6z, x6 => spec_PutVar.l0b some (spec_PutVar.l0 k) k x1 x6z x6
def spec_PutVar.f : Nat → Bool → (List Int) → Int → Option (Bool × (List Int) × Bool)
  | 0, _, _, _ => none
  | k + 1, a0z, a0, a1 => spec_PutVar.b some (spec_PutVar.l0 k) k a0z a0 a1
def spec_PutVar.enc (r : Bool × (List Int) × Bool) : Res := ⟨[.vals false [((.nums 5 .u8 r.1 r.2.1), true)], .vals false [((.bool r.2.2), true)]], []⟩
def spec_PutVar.ans (k : Nat) : List Arg → Ans
  | [.v (.nums 5 .u8 a0z a0), .v (.int .i64 a1)] => ⟨spec_PutVar.f k a0z a0 a1, spec_PutVar.enc⟩
  | _ => Ans.no
def spec_PutVar.Cs (k : Nat) : CallSem := tab [(190, spec_l01Num.ans k), (155, spec_l01Copy.ans k)]
def spec_PutVar.cuts : List (Nat × Keep) := [(60, ⟨[(1, some []), (6, none)], []⟩)]
noncomputable def spec_PutVar.K0 : List Fr := framesAt [true, true, true, false, false] (bodyOf Try.f234 spec_PutVar.cuts) []
def spec_PutVar.N0 (x1 : Int) (x6z : Bool) (x6 : List Int) : St := stOf 28 28 2 [(1, .val (V.s (.int .i64 x1))), (6, .val ⟨(.nums 5 .u8 x6z x6), [.l 6 0], true, some (.l 6 0)⟩)] []
theorem spec_PutVar.s0 (k : Nat) (G : List Fr → St → Option Res) (a0z : Bool) (a0 : List Int) (a1 yx1 : Int) (yx6z : Bool) (yx6 : List Int) : resume Try.prog (spec_PutVar.Cs k) G (finish Try.prog [] Try.f234 [.v (.nums 5 .u8 a0z a0), .v (.int .i64 a1)]) 100000 spec_PutVar.K0 (spec_PutVar.N0 yx1 yx6z yx6) = spec_PutVar.l0b (fun r => some (spec_PutVar.enc r)) (fun x1 x6z x6 => G spec_PutVar.K0 (spec_PutVar.N0 x1 x6z x6)) k yx1 yx6z yx6 := by kernel_rfl
theorem spec_PutVar.bn {R R' : Type} (e : R → R') (ret : Bool × (List Int) × Bool → Option R) (j0 : Int → Bool → (List Int) → Option R) (k : Nat) (a0z : Bool) (a0 : List Int) (a1 : Int) : spec_PutVar.b (fun r => (ret r).map e) (fun x1 x6z x6 => (j0 x1 x6z x6).map e) k a0z a0 a1 = (spec_PutVar.b ret j0 k a0z a0 a1).map e := by
  unfold spec_PutVar.b
  repeat' first | with_reducible refine nat_cond ?_ ?_ | with_reducible refine nat_bind fun _ => ?_ | rfl
theorem spec_PutVar.l0n {R R' : Type} (e : R → R') (ret : Bool × (List Int) × Bool → Option R) (j0 : Int → Bool → (List Int) → Option R) (k : Nat) (x1 : Int) (x6z : Bool) (x6 : List Int) : spec_PutVar.l0b (fun r => (ret r).map e) (fun x1 x6z x6 => (j0 x1 x6z x6).map e) k x1 x6z x6 = (spec_PutVar.l0b ret j0 k x1 x6z x6).map e := by
  unfold spec_PutVar.l0b
  repeat' first | with_reducible refine nat_cond ?_ ?_ | with_reducible refine nat_bind fun _ => ?_ | rfl
theorem spec_PutVar.rq (a0z : Bool) (a0 : List Int) (a1 : Int) : ∀ k, (∀ (x1 : Int) (x6z : Bool) (x6 : List Int), rounds Try.prog spec_PutVar.Cs (finish Try.prog [] Try.f234 [.v (.nums 5 .u8 a0z a0), .v (.int .i64 a1)]) 100000 k spec_PutVar.K0 (spec_PutVar.N0 x1 x6z x6) = (spec_PutVar.l0 k x1 x6z x6).map spec_PutVar.enc)
  | 0 => fun _ _ _ => rfl
  | k + 1 => by
    have ih := spec_PutVar.rq a0z a0 a1 k
    refine fun _ _ _ => ?_
    · refine (spec_PutVar.s0 k _ a0z a0 a1 _ _ _).trans (Eq.trans ?_ (spec_PutVar.l0n spec_PutVar.enc some (spec_PutVar.l0 k) k _ _ _))
      simp only [ih, Option.map_some]
theorem spec_PutVar.eq (k : Nat) (a0z : Bool) (a0 : List Int) (a1 : Int) : answer Try.prog spec_PutVar.Cs 100000 spec_PutVar.cuts [] Try.f234 (k + 1) [.v (.nums 5 .u8 a0z a0), .v (.int .i64 a1)] = (spec_PutVar.f (k + 1) a0z a0 a1).map spec_PutVar.enc := by
  have ih := spec_PutVar.rq a0z a0 a1 k
  refine Eq.trans (b := spec_PutVar.b (fun r => some (spec_PutVar.enc r)) (fun x1 x6z x6 => rounds Try.prog spec_PutVar.Cs (finish Try.prog [] Try.f234 [.v (.nums 5 .u8 a0z a0), .v (.int .i64 a1)]) 100000 k spec_PutVar.K0 (spec_PutVar.N0 x1 x6z x6)) k a0z a0 a1) (by kernel_rfl) (Eq.trans ?_ (spec_PutVar.bn spec_PutVar.enc some (spec_PutVar.l0 k) k a0z a0 a1))
  simp only [ih, Option.map_some]
theorem spec_PutVar.sound (k : Nat) : SoundF Try.prog 234 (fun a => (spec_PutVar.ans k a).val) := by
  refine sound_plain (fun args res h => ?_) (fun t n => rfl)
  unfold spec_PutVar.ans at h
  dsimp only at h
  split at h
  · cases k with
    | zero => cases h
    | succ k =>
      unfold Ans.val at h
      rw [← spec_PutVar.eq] at h
      exact answer_sound mixed Try.func234 _ _ _ (k + 1) (fun j _ => tab_sound (tab_cons (spec_l01Num.sound j) (tab_cons (spec_l01Copy.sound j) (tab_nil)))) _ _ h
  · exact (Ans.no_val h).elim

def spec_l11Num.b {R : Type} (ret : Bool × List Int → Option R) (k : Nat) (a0z : Bool) (a0 : List Int) (a1 : Int) : Option R :=
  (spec_PutVar.f k a0z a0 a1).bind fun t0 => ret (t0.1, t0.2.1)
def spec_l11Num.f : Nat → Bool → (List Int) → Int → Option (Bool × List Int)
  | 0, _, _, _ => none
  | k + 1, a0z, a0, a1 => spec_l11Num.b some k a0z a0 a1
def spec_l11Num.enc (r : Bool × List Int) : Res := ⟨[.vals false [((.nums 5 .u8 r.1 r.2), true)]], []⟩
def spec_l11Num.ans (k : Nat) : List Arg → Ans
  | [.v (.nums 5 .u8 a0z a0), .v (.int .i64 a1)] => ⟨spec_l11Num.f k a0z a0 a1, spec_l11Num.enc⟩
  | _ => Ans.no
def spec_l11Num.Cs (k : Nat) : CallSem := tab [(234, spec_PutVar.ans k)]
theorem spec_l11Num.eq (k : Nat) (a0z : Bool) (a0 : List Int) (a1 : Int) : answer Try.prog spec_l11Num.Cs 100000 [] [] Try.f217 (k + 1) [.v (.nums 5 .u8 a0z a0), .v (.int .i64 a1)] = (spec_l11Num.f (k + 1) a0z a0 a1).map spec_l11Num.enc := by
  refine Eq.trans (b := spec_l11Num.b (fun r => some (spec_l11Num.enc r)) k a0z a0 a1) (by kernel_rfl) ?_
  show _ = (spec_l11Num.b some k a0z a0 a1).map spec_l11Num.enc
  unfold spec_l11Num.b
  repeat' first | with_reducible refine nat_cond ?_ ?_ | with_reducible refine nat_bind fun _ => ?_ | rfl
theorem spec_l11Num.sound (k : Nat) : SoundF Try.prog 217 (fun a => (spec_l11Num.ans k a).val) := by
  refine sound_plain (fun args res h => ?_) (fun t n => rfl)
  unfold spec_l11Num.ans at h
  dsimp only at h
  split at h
  · cases k with
    | zero => cases h
    | succ k =>
      unfold Ans.val at h
      rw [← spec_l11Num.eq] at h
      exact answer_sound mixed Try.func217 _ _ _ (k + 1) (fun j _ => tab_sound (tab_cons (spec_PutVar.sound j) (tab_nil))) _ _ h
  · exact (Ans.no_val h).elim

def spec_PutQc.b {R : Type} (ret : Bool × (List Int) × Bool → Option R) (j0 : Bool → (List Int) → Bool → (List T) → Int → Int → Option R) (k : Nat) (a0_0 a0_1 : Int) (a0_2 a0_3 a0_4 : Int) (a1z : Bool) (a1 : List Int) (a2_0 a2_1 : Int) (a2_2z : Bool) (a2_2 : List Int) (a2_3z : Bool) (a2_3 : List Int) (a2_4z : Bool) (a2_4 : List T) : Option R :=
  (spec_QcOk.f k a0_0 a0_1 a0_2 a0_3 a0_4 a2_0 a2_1 a2_2z a2_2 a2_3z a2_3 a2_4z a2_4).bind fun t0 => cond (!t0) (ret (true, ([] : List Int), false)) ((spec_l11Num.f k a1z a1 a2_0).bind fun t1 => (spec_l11Num.f k t1.1 t1.2 a2_1).bind fun t2 => cond (decide ((t2.2).length + (a2_2).length < 140737488355328)) (cond (decide (((t2.2 ++ a2_2)).length + (a2_3).length < 140737488355328)) (j0 ((a2_3).isEmpty && ((a2_2).isEmpty && t2.1)) ((t2.2 ++ a2_2) ++ a2_3) a2_4z a2_4 ((a2_4).length : Int) 0) (none)) (none))
def spec_PutQc.l0b {R : Type} (ret : Bool × (List Int) × Bool → Option R) (j0 : Bool → (List Int) → Bool → (List T) → Int → Int → Option R) (k : Nat) (x8z : Bool) (x8 : List Int) (x30z : Bool) (x30 : List T) (x31 x32 : Int) : Option R :=
  cond (decide (x32 < x31)) (cond (decide ((0 : Int) ≤ x32)) (cond (decide (x32 < ((x30).length : Int))) (cond (decide ((x8).length + (((((x30).getD (x32).toNat .bad).cells.getD 0 .bad)).toNums).length < 140737488355328)) (j0 ((((((x30).getD (x32).toNat .bad).cells.getD 0 .bad)).toNums).isEmpty && x8z) (x8 ++ ((((x30).getD (x32).toNat .bad).cells.getD 0 .bad)).toNums) x30z x30 x31 (RowKit.wrap64 (x32 + 1))) (none)) (none)) (none)) (ret (x8z, x8, true))
def spec_PutQc.l0 : Nat → Bool → (List Int) → Bool → (List T) → Int → Int → Option (Bool × (List Int) × Bool)
  | 0, _, _, _, _, _, _ => none
  | k + 1, x8z, x8, x30z, x30, x31, x32 => spec_PutQc.l0b some (spec_PutQc.l0 k) k x8z x8 x30z x30 x31 x32
def spec_PutQc.f : Nat → Int → Int → Int → Int → Int → Bool → (List Int) → Int → Int → Bool → (List Int) → Bool → (List Int) → Bool → (List T) → Option (Bool × (List Int) × Bool)
  | 0, _, _, _, _, _, _, _, _, _, _, _, _, _, _, _ => none
  | k + 1, a0_0, a0_1, a0_2, a0_3, a0_4, a1z, a1, a2_0, a2_1, a2_2z, a2_2, a2_3z, a2_3, a2_4z, a2_4 => spec_PutQc.b some (spec_PutQc.l0 k) k a0_0 a0_1 a0_2 a0_3 a0_4 a1z a1 a2_0 a2_1 a2_2z a2_2 a2_3z a2_3 a2_4z a2_4
def spec_PutQc.enc (r : Bool × (List Int) × Bool) : Res := ⟨[.vals false [((.nums 5 .u8 r.1 r.2.1), true)], .vals false [((.bool r.2.2), true)]], []⟩
def spec_PutQc.ans (k : Nat) : List Arg → Ans
  | [.v (.agg [(.int .i64 a0_0), (.int .i64 a0_1), (.int .i64 a0_2), (.int .i64 a0_3), (.int .i64 a0_4)]), .v (.nums 5 .u8 a1z a1), .v (.agg [(.int .i64 a2_0), (.int .i64 a2_1), (.nums 5 .u8 a2_2z a2_2), (.nums 5 .u8 a2_3z a2_3), (.sl 22 a2_4z a2_4)])] => ⟨spec_PutQc.f k a0_0 a0_1 a0_2 a0_3 a0_4 a1z a1 a2_0 a2_1 a2_2z a2_2 a2_3z a2_3 a2_4z a2_4, spec_PutQc.enc⟩
  | _ => Ans.no
def spec_PutQc.Cs (k : Nat) : CallSem := tab [(192, spec_QcOk.ans k), (217, spec_l11Num.ans k)]
def spec_PutQc.cuts : List (Nat × Keep) := [(250, ⟨[(8, none), (30, some []), (31, some []), (32, some [])], []⟩)]
noncomputable def spec_PutQc.K0 : List Fr := framesAt [true, true, true, true, false, true, false] (bodyOf Try.f218 spec_PutQc.cuts) []
def spec_PutQc.N0 (x8z : Bool) (x8 : List Int) (x30z : Bool) (x30 : List T) (x31 x32 : Int) : St := stOf 41 41 3 [(8, .val ⟨(.nums 5 .u8 x8z x8), [.l 8 0], true, some (.l 8 0)⟩), (30, .val ⟨(.sl 22 x30z x30), [], false, none⟩), (31, .val (V.s (.int .i64 x31))), (32, .val (V.s (.int .i64 x32)))] []
theorem spec_PutQc.s0 (k : Nat) (G : List Fr → St → Option Res) (a0_0 a0_1 : Int) (a0_2 a0_3 a0_4 : Int) (a1z : Bool) (a1 : List Int) (a2_0 a2_1 : Int) (a2_2z : Bool) (a2_2 : List Int) (a2_3z : Bool) (a2_3 : List Int) (a2_4z : Bool) (a2_4 : List T) (yx8z : Bool) (yx8 : List Int) (yx30z : Bool) (yx30 : List T) (yx31 yx32 : Int) : resume Try.prog (spec_PutQc.Cs k) G (finish Try.prog [] Try.f218 [.v (.agg [(.int .i64 a0_0), (.int .i64 a0_1), (.int .i64 a0_2), (.int .i64 a0_3), (.int .i64 a0_4)]), .v (.nums 5 .u8 a1z a1), .v (.agg [(.int .i64 a2_0), (.int .i64 a2_1), (.nums 5 .u8 a2_2z a2_2), (.nums 5 .u8 a2_3z a2_3), (.sl 22 a2_4z a2_4)])]) 100000 spec_PutQc.K0 (spec_PutQc.N0 yx8z yx8 yx30z yx30 yx31 yx32) = spec_PutQc.l0b (fun r => some (spec_PutQc.enc r)) (fun x8z x8 x30z x30 x31 x32 => G spec_PutQc.K0 (spec_PutQc.N0 x8z x8 x30z x30 x31 x32)) k yx8z yx8 yx30z yx30 yx31 yx32 := by kernel_rfl
theorem spec_PutQc.bn {R R' : Type} (e : R → R') (ret : Bool × (List Int) × Bool → Option R) (j0 : Bool → (List Int) → Bool → (List T) → Int → Int → Option R) (k : Nat) (a0_0 a0_1 : Int) (a0_2 a0_3 a0_4 : Int) (a1z : Bool) (a1 : List Int) (a2_0 a2_1 : Int) (a2_2z : Bool) (a2_2 : List Int) (a2_3z : Bool) (a2_3 : List Int) (a2_4z : Bool) (a2_4 : List T) : spec_PutQc.b (fun r => (ret r).map e) (fun x8z x8 x30z x30 x31 x32 => (j0 x8z x8 x30z x30 x31 x32).map e) k a0_0 a0_1 a0_2 a0_3 a0_4 a1z a1 a2_0 a2_1 a2_2z a2_2 a2_3z a2_3 a2_4z a2_4 = (spec_PutQc.b ret j0 k a0_0 a0_1 a0_2 a0_3 a0_4 a1z a1 a2_0 a2_1 a2_2z a2_2 a2_3z a2_3 a2_4z a2_4).map e := by
  unfold spec_PutQc.b
  repeat' first | with_reducible refine nat_cond ?_ ?_ | with_reducible refine nat_bind fun _ => ?_ | rfl
theorem spec_PutQc.l0n {R R' : Type} (e : R → R') (ret : Bool × (List Int) × Bool → Option R) (j0 : Bool → (List Int) → Bool → (List T) → Int → Int → Option R) (k : Nat) (x8z : Bool) (x8 : List Int) (x30z : Bool) (x30 : List T) (x31 x32 : Int) : spec_PutQc.l0b (fun r => (ret r).map e) (fun x8z x8 x30z x30 x31 x32 => (j0 x8z x8 x30z x30 x31 x32).map e) k x8z x8 x30z x30 x31 x32 = (spec_PutQc.l0b ret j0 k x8z x8 x30z x30 x31 x32).map e := by
  unfold spec_PutQc.l0b
  repeat' first | with_reducible refine nat_cond ?_ ?_ | with_reducible refine nat_bind fun _ => ?_ | rfl
theorem spec_PutQc.rq (a0_0 a0_1 : Int) (a0_2 a0_3 a0_4 : Int) (a1z : Bool) (a1 : List Int) (a2_0 a2_1 : Int) (a2_2z : Bool) (a2_2 : List Int) (a2_3z : Bool) (a2_3 : List Int) (a2_4z : Bool) (a2_4 : List T) : ∀ k, (∀ (x8z : Bool) (x8 : List Int) (x30z : Bool) (x30 : List T) (x31 x32 : Int), rounds Try.prog spec_PutQc.Cs (finish Try.prog [] Try.f218 [.v (.agg [(.int .i64 a0_0), (.int .i64 a0_1), (.int .i64 a0_2), (.int .i64 a0_3), (.int .i64 a0_4)]), .v (.nums 5 .u8 a1z a1), .v (.agg [(.int .i64 a2_0), (.int .i64 a2_1), (.nums 5 .u8 a2_2z a2_2), (.nums 5 .u8 a2_3z a2_3), (.sl 22 a2_4z a2_4)])]) 100000 k spec_PutQc.K0 (spec_PutQc.N0 x8z x8 x30z x30 x31 x32) = (spec_PutQc.l0 k x8z x8 x30z x30 x31 x32).map spec_PutQc.enc)
  | 0 => fun _ _ _ _ _ _ => rfl
  | k + 1 => by
    have ih := spec_PutQc.rq a0_0 a0_1 a0_2 a0_3 a0_4 a1z a1 a2_0 a2_1 a2_2z a2_2 a2_3z a2_3 a2_4z a2_4 k
    refine fun _ _ _ _ _ _ => ?_
    · refine (spec_PutQc.s0 k _ a0_0 a0_1 a0_2 a0_3 a0_4 a1z a1 a2_0 a2_1 a2_2z a2_2 a2_3z a2_3 a2_4z a2_4 _ _ _ _ _ _).trans (Eq.trans ?_ (spec_PutQc.l0n spec_PutQc.enc some (spec_PutQc.l0 k) k _ _ _ _ _ _))
      simp only [ih, Option.map_some]
theorem spec_PutQc.eq (k : Nat) (a0_0 a0_1 : Int) (a0_2 a0_3 a0_4 : Int) (a1z : Bool) (a1 : List Int) (a2_0 a2_1 : Int) (a2_2z : Bool) (a2_2 : List Int) (a2_3z : Bool) (a2_3 : List Int) (a2_4z : Bool) (a2_4 : List T) : answer Try.prog spec_PutQc.Cs 100000 spec_PutQc.cuts [] Try.f218 (k + 1) [.v (.agg [(.int .i64 a0_0), (.int .i64 a0_1), (.int .i64 a0_2), (.int .i64 a0_3), (.int .i64 a0_4)]), .v (.nums 5 .u8 a1z a1), .v (.agg [(.int .i64 a2_0), (.int .i64 a2_1), (.nums 5 .u8 a2_2z a2_2), (.nums 5 .u8 a2_3z a2_3), (.sl 22 a2_4z a2_4)])] = (spec_PutQc.f (k + 1) a0_0 a0_1 a0_2 a0_3 a0_4 a1z a1 a2_0 a2_1 a2_2z a2_2 a2_3z a2_3 a2_4z a2_4).map spec_PutQc.enc := by
  have ih := spec_PutQc.rq a0_0 a0_1 a0_2 a0_3 a0_4 a1z a1 a2_0 a2_1 a2_2z a2_2 a2_3z a2_3 a2_4z a2_4 k
  refine Eq.trans (b := spec_PutQc.b (fun r => some (spec_PutQc.enc r)) (fun x8z x8 x30z x30 x31 x32 => rounds Try.prog spec_PutQc.Cs (finish Try.prog [] Try.f218 [.v (.agg [(.int .i64 a0_0), (.int .i64 a0_1), (.int .i64 a0_2), (.int .i64 a0_3), (.int .i64 a0_4)]), .v (.nums 5 .u8 a1z a1), .v (.agg [(.int .i64 a2_0), (.int .i64 a2_1), (.nums 5 .u8 a2_2z a2_2), (.nums 5 .u8 a2_3z a2_3), (.sl 22 a2_4z a2_4)])]) 100000 k spec_PutQc.K0 (spec_PutQc.N0 x8z x8 x30z x30 x31 x32)) k a0_0 a0_1 a0_2 a0_3 a0_4 a1z a1 a2_0 a2_1 a2_2z a2_2 a2_3z a2_3 a2_4z a2_4) (by kernel_rfl) (Eq.trans ?_ (spec_PutQc.bn spec_PutQc.enc some (spec_PutQc.l0 k) k a0_0 a0_1 a0_2 a0_3 a0_4 a1z a1 a2_0 a2_1 a2_2z a2_2 a2_3z a2_3 a2_4z a2_4))
  simp only [ih, Option.map_some]
theorem spec_PutQc.sound (k : Nat) : SoundF Try.prog 218 (fun a => (spec_PutQc.ans k a).val) := by
  refine sound_plain (fun args res h => ?_) (fun t n => rfl)
  unfold spec_PutQc.ans at h
  dsimp only at h
  split at h
  · cases k with
    | zero => cases h
    | succ k =>
      unfold Ans.val at h
      rw [← spec_PutQc.eq] at h
      exact answer_sound mixed Try.func218 _ _ _ (k + 1) (fun j _ => tab_sound (tab_cons (spec_QcOk.sound j) (tab_cons (spec_l11Num.sound j) (tab_nil)))) _ _ h
  · exact (Ans.no_val h).elim

end Go.Proofs.YtbpcnodmgphinaaG
