/- What the functions compute, printed by a program of this repo; each is shown to be what the machine of values answers. No condition. -/
import Derived.Test.YtjffolalgcmhaaaDoorProg
import Derived.KernelRfl
import Derived.Test.YtjffolalgcmhaaaDoorLay
namespace Go.Proofs.YtjffolalgcmhaaaDoorG
open Go Go.Proofs.YtjffolalgcmhaaaDoorRv Go.Proofs
set_option linter.unusedVariables false
set_option linter.unusedSimpArgs false
theorem mixed : Tryd.prog.follows .mixedOrders = true := by kernel_rfl
/-! loop.example/g00790/laws.szByteS -/
def laws_szByteS.b {R : Type} (ret : Int → Option R) (k : Nat) (a0z : Bool) (a0 : List Int) (a1 : Int) : Option R :=
  cond (decide ((RowKit.wrap64 (a1 - ((a0).length : Int))) < 0)) (ret (-1)) (ret (RowKit.wrap64 (a1 - ((a0).length : Int))))
def laws_szByteS.f : Nat → Bool → (List Int) → Int → Option Int
  | 0, _, _, _ => none
  | k + 1, a0z, a0, a1 => laws_szByteS.b some k a0z a0 a1
def laws_szByteS.enc (r : Int) : Res := ⟨[.vals false [((.int .i64 r), true)]], []⟩
def laws_szByteS.ans (k : Nat) : List Arg → Ans
  | [.v (.nums 5 .u8 a0z a0), .v (.int .i64 a1)] => ⟨laws_szByteS.f k a0z a0 a1, laws_szByteS.enc⟩
  | _ => Ans.no
def laws_szByteS.Cs (k : Nat) : CallSem := tab []
def laws_szByteS.cuts : List (Nat × Keep) := []
theorem laws_szByteS.s (k : Nat) (a0z : Bool) (a0 : List Int) (a1 : Int) : answer Tryd.prog laws_szByteS.Cs 100000 laws_szByteS.cuts [] Tryd.f69 (k + 1) [.v (.nums 5 .u8 a0z a0), .v (.int .i64 a1)] = laws_szByteS.b (fun r => some (laws_szByteS.enc r)) k a0z a0 a1 := by kernel_rfl
theorem laws_szByteS.b_nat {R R' : Type} (e : R → R') (ret : Int → Option R) (k : Nat) (a0z : Bool) (a0 : List Int) (a1 : Int) : laws_szByteS.b (fun r => (ret r).map e) k a0z a0 a1 = (laws_szByteS.b ret k a0z a0 a1).map e := by
  unfold laws_szByteS.b
  repeat' first | with_reducible refine nat_cond ?_ ?_ | with_reducible refine nat_bind fun _ => ?_ | rfl
theorem laws_szByteS.eq (k : Nat) (a0z : Bool) (a0 : List Int) (a1 : Int) : answer Tryd.prog laws_szByteS.Cs 100000 laws_szByteS.cuts [] Tryd.f69 (k + 1) [.v (.nums 5 .u8 a0z a0), .v (.int .i64 a1)] = (laws_szByteS.f (k + 1) a0z a0 a1).map laws_szByteS.enc := by
  refine (laws_szByteS.s k a0z a0 a1).trans (Eq.trans ?_ (laws_szByteS.b_nat laws_szByteS.enc some k a0z a0 a1))
  simp only [Option.map_some]
theorem laws_szByteS.sound (k : Nat) : SoundF Tryd.prog 69 (fun a => (laws_szByteS.ans k a).val) := by
  refine sound_plain (fun args res h => ?_) (fun t n => rfl)
  unfold laws_szByteS.ans at h
  dsimp only at h
  split at h
  · cases k with
    | zero => cases h
    | succ k =>
      unfold Ans.val at h
      rw [← laws_szByteS.eq] at h
      exact answer_sound mixed Tryd.func69 _ _ _ (k + 1) (fun j _ => tab_sound (tab_nil)) _ _ h
  · exact (Ans.no_val h).elim

/-! loop.example/g00790/laws.szByteSS -/
def laws_szByteSS.b {R : Type} (ret : Int → Option R) (j0 : Bool → (List T) → Int → Int → Option R) (k : Nat) (a0z : Bool) (a0 : List T) (a1 : Int) : Option R :=
  cond (decide ((RowKit.wrap64 (a1 - ((a0).length : Int))) < 0)) (ret (-1)) (j0 a0z a0 (RowKit.wrap64 (a1 - ((a0).length : Int))) 0)
def laws_szByteSS.l0b {R : Type} (ret : Int → Option R) (j0 : Bool → (List T) → Int → Int → Option R) (k : Nat) (x0z : Bool) (x0 : List T) (x1 : Int) (x5 : Int) : Option R :=
  cond (decide (x5 < ((x0).length : Int))) (cond (decide ((0 : Int) ≤ x5)) (cond (decide (x5 < ((x0).length : Int))) ((laws_szByteS.f k (((((x0).getD (x5).toNat .bad).cells.getD 0 .bad)).isNil) (((((x0).getD (x5).toNat .bad).cells.getD 0 .bad)).toNums) x1).bind fun t0 => cond (decide (t0 < 0)) (ret (-1)) (j0 x0z x0 t0 (RowKit.wrap64 (x5 + 1)))) (none)) (none)) (ret x1)
def laws_szByteSS.l0 : Nat → Bool → (List T) → Int → Int → Option Int
  | 0, _, _, _, _ => none
  | k + 1, x0z, x0, x1, x5 => laws_szByteSS.l0b some (laws_szByteSS.l0 k) k x0z x0 x1 x5
def laws_szByteSS.f : Nat → Bool → (List T) → Int → Option Int
  | 0, _, _, _ => none
  | k + 1, a0z, a0, a1 => laws_szByteSS.b some (laws_szByteSS.l0 k) k a0z a0 a1
def laws_szByteSS.enc (r : Int) : Res := ⟨[.vals false [((.int .i64 r), true)]], []⟩
def laws_szByteSS.ans (k : Nat) : List Arg → Ans
  | [.v (.sl 28 a0z a0), .v (.int .i64 a1)] => ⟨laws_szByteSS.f k a0z a0 a1, laws_szByteSS.enc⟩
  | _ => Ans.no
def laws_szByteSS.Cs (k : Nat) : CallSem := tab [(69, laws_szByteS.ans k)]
def laws_szByteSS.cuts : List (Nat × Keep) := [(122, ⟨[(0, some []), (1, some []), (5, some [])], []⟩)]
noncomputable def laws_szByteSS.K0 : List Fr := framesAt [true, true, true, false, true, false] (bodyOf Tryd.f75 laws_szByteSS.cuts) []
def laws_szByteSS.N0 (x0z : Bool) (x0 : List T) (x1 : Int) (x5 : Int) : St := stOf 27 27 2 [(0, .val ⟨(.sl 28 x0z x0), [], false, none⟩), (1, .val (V.s (.int .i64 x1))), (5, .val (V.s (.int .i64 x5)))] []
theorem laws_szByteSS.s (k : Nat) (a0z : Bool) (a0 : List T) (a1 : Int) : answer Tryd.prog laws_szByteSS.Cs 100000 laws_szByteSS.cuts [] Tryd.f75 (k + 1) [.v (.sl 28 a0z a0), .v (.int .i64 a1)] = laws_szByteSS.b (fun r => some (laws_szByteSS.enc r)) (fun x0z x0 x1 x5 => rounds Tryd.prog laws_szByteSS.Cs (finish Tryd.prog [] Tryd.f75 [.v (.sl 28 a0z a0), .v (.int .i64 a1)]) 100000 k laws_szByteSS.K0 (laws_szByteSS.N0 x0z x0 x1 x5)) k a0z a0 a1 := by kernel_rfl
theorem laws_szByteSS.s0 (k : Nat) (G : List Fr → St → Option Res) (a0z : Bool) (a0 : List T) (a1 : Int) (yx0z : Bool) (yx0 : List T) (yx1 : Int) (yx5 : Int) : resume Tryd.prog (laws_szByteSS.Cs k) G (finish Tryd.prog [] Tryd.f75 [.v (.sl 28 a0z a0), .v (.int .i64 a1)]) 100000 laws_szByteSS.K0 (laws_szByteSS.N0 yx0z yx0 yx1 yx5) = laws_szByteSS.l0b (fun r => some (laws_szByteSS.enc r)) (fun x0z x0 x1 x5 => G laws_szByteSS.K0 (laws_szByteSS.N0 x0z x0 x1 x5)) k yx0z yx0 yx1 yx5 := by kernel_rfl
theorem laws_szByteSS.b_nat {R R' : Type} (e : R → R') (ret : Int → Option R) (j0 : Bool → (List T) → Int → Int → Option R) (k : Nat) (a0z : Bool) (a0 : List T) (a1 : Int) : laws_szByteSS.b (fun r => (ret r).map e) (fun x0z x0 x1 x5 => (j0 x0z x0 x1 x5).map e) k a0z a0 a1 = (laws_szByteSS.b ret j0 k a0z a0 a1).map e := by
  unfold laws_szByteSS.b
  repeat' first | with_reducible refine nat_cond ?_ ?_ | with_reducible refine nat_bind fun _ => ?_ | rfl
theorem laws_szByteSS.l0b_nat {R R' : Type} (e : R → R') (ret : Int → Option R) (j0 : Bool → (List T) → Int → Int → Option R) (k : Nat) (x0z : Bool) (x0 : List T) (x1 : Int) (x5 : Int) : laws_szByteSS.l0b (fun r => (ret r).map e) (fun x0z x0 x1 x5 => (j0 x0z x0 x1 x5).map e) k x0z x0 x1 x5 = (laws_szByteSS.l0b ret j0 k x0z x0 x1 x5).map e := by
  unfold laws_szByteSS.l0b
  repeat' first | with_reducible refine nat_cond ?_ ?_ | with_reducible refine nat_bind fun _ => ?_ | rfl
theorem laws_szByteSS.rounds_eq (a0z : Bool) (a0 : List T) (a1 : Int) : ∀ k, (∀ (x0z : Bool) (x0 : List T) (x1 : Int) (x5 : Int), rounds Tryd.prog laws_szByteSS.Cs (finish Tryd.prog [] Tryd.f75 [.v (.sl 28 a0z a0), .v (.int .i64 a1)]) 100000 k laws_szByteSS.K0 (laws_szByteSS.N0 x0z x0 x1 x5) = (laws_szByteSS.l0 k x0z x0 x1 x5).map laws_szByteSS.enc)
  | 0 => fun _ _ _ _ => rfl
  | k + 1 => by
    have ih := laws_szByteSS.rounds_eq a0z a0 a1 k
    refine fun _ _ _ _ => ?_
    · refine (laws_szByteSS.s0 k _ a0z a0 a1 _ _ _ _).trans (Eq.trans ?_ (laws_szByteSS.l0b_nat laws_szByteSS.enc some (laws_szByteSS.l0 k) k _ _ _ _))
      simp only [ih, Option.map_some]
theorem laws_szByteSS.eq (k : Nat) (a0z : Bool) (a0 : List T) (a1 : Int) : answer Tryd.prog laws_szByteSS.Cs 100000 laws_szByteSS.cuts [] Tryd.f75 (k + 1) [.v (.sl 28 a0z a0), .v (.int .i64 a1)] = (laws_szByteSS.f (k + 1) a0z a0 a1).map laws_szByteSS.enc := by
  have ih := laws_szByteSS.rounds_eq a0z a0 a1 k
  refine (laws_szByteSS.s k a0z a0 a1).trans (Eq.trans ?_ (laws_szByteSS.b_nat laws_szByteSS.enc some (laws_szByteSS.l0 k) k a0z a0 a1))
  simp only [ih, Option.map_some]
theorem laws_szByteSS.sound (k : Nat) : SoundF Tryd.prog 75 (fun a => (laws_szByteSS.ans k a).val) := by
  refine sound_plain (fun args res h => ?_) (fun t n => rfl)
  unfold laws_szByteSS.ans at h
  dsimp only at h
  split at h
  · cases k with
    | zero => cases h
    | succ k =>
      unfold Ans.val at h
      rw [← laws_szByteSS.eq] at h
      exact answer_sound mixed Tryd.func75 _ _ _ (k + 1) (fun j _ => tab_sound (tab_cons (laws_szByteS.sound j) (tab_nil))) _ _ h
  · exact (Ans.no_val h).elim

/-! loop.example/g00790/laws.szQc -/
def laws_szQc.b {R : Type} (ret : Int → Option R) (k : Nat) (a0_0 : Int) (a0_1 : Int) (a0_2z : Bool) (a0_2 : List Int) (a0_3z : Bool) (a0_3 : List Int) (a0_4z : Bool) (a0_4 : List T) (a1 : Int) : Option R :=
  (laws_szByteS.f k a0_2z a0_2 a1).bind fun t0 => cond (decide (t0 < 0)) (ret (-1)) ((laws_szByteS.f k a0_3z a0_3 t0).bind fun t1 => cond (decide (t1 < 0)) (ret (-1)) ((laws_szByteSS.f k a0_4z a0_4 t1).bind fun t2 => cond (decide (t2 < 0)) (ret (-1)) (ret t2)))
def laws_szQc.f : Nat → Int → Int → Bool → (List Int) → Bool → (List Int) → Bool → (List T) → Int → Option Int
  | 0, _, _, _, _, _, _, _, _, _ => none
  | k + 1, a0_0, a0_1, a0_2z, a0_2, a0_3z, a0_3, a0_4z, a0_4, a1 => laws_szQc.b some k a0_0 a0_1 a0_2z a0_2 a0_3z a0_3 a0_4z a0_4 a1
def laws_szQc.enc (r : Int) : Res := ⟨[.vals false [((.int .i64 r), true)]], []⟩
def laws_szQc.ans (k : Nat) : List Arg → Ans
  | [.v (.agg [(.int .i64 a0_0), (.int .i64 a0_1), (.nums 5 .u8 a0_2z a0_2), (.nums 5 .u8 a0_3z a0_3), (.sl 28 a0_4z a0_4)]), .v (.int .i64 a1)] => ⟨laws_szQc.f k a0_0 a0_1 a0_2z a0_2 a0_3z a0_3 a0_4z a0_4 a1, laws_szQc.enc⟩
  | _ => Ans.no
def laws_szQc.Cs (k : Nat) : CallSem := tab [(69, laws_szByteS.ans k), (75, laws_szByteSS.ans k)]
def laws_szQc.cuts : List (Nat × Keep) := []
theorem laws_szQc.s (k : Nat) (a0_0 : Int) (a0_1 : Int) (a0_2z : Bool) (a0_2 : List Int) (a0_3z : Bool) (a0_3 : List Int) (a0_4z : Bool) (a0_4 : List T) (a1 : Int) : answer Tryd.prog laws_szQc.Cs 100000 laws_szQc.cuts [] Tryd.f51 (k + 1) [.v (.agg [(.int .i64 a0_0), (.int .i64 a0_1), (.nums 5 .u8 a0_2z a0_2), (.nums 5 .u8 a0_3z a0_3), (.sl 28 a0_4z a0_4)]), .v (.int .i64 a1)] = laws_szQc.b (fun r => some (laws_szQc.enc r)) k a0_0 a0_1 a0_2z a0_2 a0_3z a0_3 a0_4z a0_4 a1 := by kernel_rfl
theorem laws_szQc.b_nat {R R' : Type} (e : R → R') (ret : Int → Option R) (k : Nat) (a0_0 : Int) (a0_1 : Int) (a0_2z : Bool) (a0_2 : List Int) (a0_3z : Bool) (a0_3 : List Int) (a0_4z : Bool) (a0_4 : List T) (a1 : Int) : laws_szQc.b (fun r => (ret r).map e) k a0_0 a0_1 a0_2z a0_2 a0_3z a0_3 a0_4z a0_4 a1 = (laws_szQc.b ret k a0_0 a0_1 a0_2z a0_2 a0_3z a0_3 a0_4z a0_4 a1).map e := by
  unfold laws_szQc.b
  repeat' first | with_reducible refine nat_cond ?_ ?_ | with_reducible refine nat_bind fun _ => ?_ | rfl
theorem laws_szQc.eq (k : Nat) (a0_0 : Int) (a0_1 : Int) (a0_2z : Bool) (a0_2 : List Int) (a0_3z : Bool) (a0_3 : List Int) (a0_4z : Bool) (a0_4 : List T) (a1 : Int) : answer Tryd.prog laws_szQc.Cs 100000 laws_szQc.cuts [] Tryd.f51 (k + 1) [.v (.agg [(.int .i64 a0_0), (.int .i64 a0_1), (.nums 5 .u8 a0_2z a0_2), (.nums 5 .u8 a0_3z a0_3), (.sl 28 a0_4z a0_4)]), .v (.int .i64 a1)] = (laws_szQc.f (k + 1) a0_0 a0_1 a0_2z a0_2 a0_3z a0_3 a0_4z a0_4 a1).map laws_szQc.enc := by
  refine (laws_szQc.s k a0_0 a0_1 a0_2z a0_2 a0_3z a0_3 a0_4z a0_4 a1).trans (Eq.trans ?_ (laws_szQc.b_nat laws_szQc.enc some k a0_0 a0_1 a0_2z a0_2 a0_3z a0_3 a0_4z a0_4 a1))
  simp only [Option.map_some]
theorem laws_szQc.sound (k : Nat) : SoundF Tryd.prog 51 (fun a => (laws_szQc.ans k a).val) := by
  refine sound_plain (fun args res h => ?_) (fun t n => rfl)
  unfold laws_szQc.ans at h
  dsimp only at h
  split at h
  · cases k with
    | zero => cases h
    | succ k =>
      unfold Ans.val at h
      rw [← laws_szQc.eq] at h
      exact answer_sound mixed Tryd.func51 _ _ _ (k + 1) (fun j _ => tab_sound (tab_cons (laws_szByteS.sound j) (tab_cons (laws_szByteSS.sound j) (tab_nil)))) _ _ h
  · exact (Ans.no_val h).elim

/-! loop.example/g00790/laws.szHead -/
def laws_szHead.b {R : Type} (ret : Int → Option R) (k : Nat) (a0_0 : Int) (a0_1 : Int) (a0_2 : Int) (a0_3z : Bool) (a0_3 : List Int) (a0_4z : Bool) (a0_4 : List Int) (a0_5 : Int) (a0_6 : Int) (a0_7z : Bool) (a0_7 : List Int) (a0_8z : Bool) (a0_8 : List Int) (a0_9z : Bool) (a0_9 : List T) (a1 : Int) : Option R :=
  (laws_szByteS.f k a0_3z a0_3 a1).bind fun t0 => cond (decide (t0 < 0)) (ret (-1)) ((laws_szByteS.f k a0_4z a0_4 t0).bind fun t1 => cond (decide (t1 < 0)) (ret (-1)) ((laws_szQc.f k a0_5 a0_6 a0_7z a0_7 a0_8z a0_8 a0_9z a0_9 t1).bind fun t2 => cond (decide (t2 < 0)) (ret (-1)) (ret t2)))
def laws_szHead.f : Nat → Int → Int → Int → Bool → (List Int) → Bool → (List Int) → Int → Int → Bool → (List Int) → Bool → (List Int) → Bool → (List T) → Int → Option Int
  | 0, _, _, _, _, _, _, _, _, _, _, _, _, _, _, _, _ => none
  | k + 1, a0_0, a0_1, a0_2, a0_3z, a0_3, a0_4z, a0_4, a0_5, a0_6, a0_7z, a0_7, a0_8z, a0_8, a0_9z, a0_9, a1 => laws_szHead.b some k a0_0 a0_1 a0_2 a0_3z a0_3 a0_4z a0_4 a0_5 a0_6 a0_7z a0_7 a0_8z a0_8 a0_9z a0_9 a1
def laws_szHead.enc (r : Int) : Res := ⟨[.vals false [((.int .i64 r), true)]], []⟩
def laws_szHead.ans (k : Nat) : List Arg → Ans
  | [.v (.agg [(.int .i64 a0_0), (.int .i64 a0_1), (.int .i64 a0_2), (.nums 5 .u8 a0_3z a0_3), (.nums 5 .u8 a0_4z a0_4), (.int .i64 a0_5), (.int .i64 a0_6), (.nums 5 .u8 a0_7z a0_7), (.nums 5 .u8 a0_8z a0_8), (.sl 28 a0_9z a0_9)]), .v (.int .i64 a1)] => ⟨laws_szHead.f k a0_0 a0_1 a0_2 a0_3z a0_3 a0_4z a0_4 a0_5 a0_6 a0_7z a0_7 a0_8z a0_8 a0_9z a0_9 a1, laws_szHead.enc⟩
  | _ => Ans.no
def laws_szHead.Cs (k : Nat) : CallSem := tab [(69, laws_szByteS.ans k), (51, laws_szQc.ans k)]
def laws_szHead.cuts : List (Nat × Keep) := []
theorem laws_szHead.s (k : Nat) (a0_0 : Int) (a0_1 : Int) (a0_2 : Int) (a0_3z : Bool) (a0_3 : List Int) (a0_4z : Bool) (a0_4 : List Int) (a0_5 : Int) (a0_6 : Int) (a0_7z : Bool) (a0_7 : List Int) (a0_8z : Bool) (a0_8 : List Int) (a0_9z : Bool) (a0_9 : List T) (a1 : Int) : answer Tryd.prog laws_szHead.Cs 100000 laws_szHead.cuts [] Tryd.f26 (k + 1) [.v (.agg [(.int .i64 a0_0), (.int .i64 a0_1), (.int .i64 a0_2), (.nums 5 .u8 a0_3z a0_3), (.nums 5 .u8 a0_4z a0_4), (.int .i64 a0_5), (.int .i64 a0_6), (.nums 5 .u8 a0_7z a0_7), (.nums 5 .u8 a0_8z a0_8), (.sl 28 a0_9z a0_9)]), .v (.int .i64 a1)] = laws_szHead.b (fun r => some (laws_szHead.enc r)) k a0_0 a0_1 a0_2 a0_3z a0_3 a0_4z a0_4 a0_5 a0_6 a0_7z a0_7 a0_8z a0_8 a0_9z a0_9 a1 := by kernel_rfl
theorem laws_szHead.b_nat {R R' : Type} (e : R → R') (ret : Int → Option R) (k : Nat) (a0_0 : Int) (a0_1 : Int) (a0_2 : Int) (a0_3z : Bool) (a0_3 : List Int) (a0_4z : Bool) (a0_4 : List Int) (a0_5 : Int) (a0_6 : Int) (a0_7z : Bool) (a0_7 : List Int) (a0_8z : Bool) (a0_8 : List Int) (a0_9z : Bool) (a0_9 : List T) (a1 : Int) : laws_szHead.b (fun r => (ret r).map e) k a0_0 a0_1 a0_2 a0_3z a0_3 a0_4z a0_4 a0_5 a0_6 a0_7z a0_7 a0_8z a0_8 a0_9z a0_9 a1 = (laws_szHead.b ret k a0_0 a0_1 a0_2 a0_3z a0_3 a0_4z a0_4 a0_5 a0_6 a0_7z a0_7 a0_8z a0_8 a0_9z a0_9 a1).map e := by
  unfold laws_szHead.b
  repeat' first | with_reducible refine nat_cond ?_ ?_ | with_reducible refine nat_bind fun _ => ?_ | rfl
theorem laws_szHead.eq (k : Nat) (a0_0 : Int) (a0_1 : Int) (a0_2 : Int) (a0_3z : Bool) (a0_3 : List Int) (a0_4z : Bool) (a0_4 : List Int) (a0_5 : Int) (a0_6 : Int) (a0_7z : Bool) (a0_7 : List Int) (a0_8z : Bool) (a0_8 : List Int) (a0_9z : Bool) (a0_9 : List T) (a1 : Int) : answer Tryd.prog laws_szHead.Cs 100000 laws_szHead.cuts [] Tryd.f26 (k + 1) [.v (.agg [(.int .i64 a0_0), (.int .i64 a0_1), (.int .i64 a0_2), (.nums 5 .u8 a0_3z a0_3), (.nums 5 .u8 a0_4z a0_4), (.int .i64 a0_5), (.int .i64 a0_6), (.nums 5 .u8 a0_7z a0_7), (.nums 5 .u8 a0_8z a0_8), (.sl 28 a0_9z a0_9)]), .v (.int .i64 a1)] = (laws_szHead.f (k + 1) a0_0 a0_1 a0_2 a0_3z a0_3 a0_4z a0_4 a0_5 a0_6 a0_7z a0_7 a0_8z a0_8 a0_9z a0_9 a1).map laws_szHead.enc := by
  refine (laws_szHead.s k a0_0 a0_1 a0_2 a0_3z a0_3 a0_4z a0_4 a0_5 a0_6 a0_7z a0_7 a0_8z a0_8 a0_9z a0_9 a1).trans (Eq.trans ?_ (laws_szHead.b_nat laws_szHead.enc some k a0_0 a0_1 a0_2 a0_3z a0_3 a0_4z a0_4 a0_5 a0_6 a0_7z a0_7 a0_8z a0_8 a0_9z a0_9 a1))
  simp only [Option.map_some]
theorem laws_szHead.sound (k : Nat) : SoundF Tryd.prog 26 (fun a => (laws_szHead.ans k a).val) := by
  refine sound_plain (fun args res h => ?_) (fun t n => rfl)
  unfold laws_szHead.ans at h
  dsimp only at h
  split at h
  · cases k with
    | zero => cases h
    | succ k =>
      unfold Ans.val at h
      rw [← laws_szHead.eq] at h
      exact answer_sound mixed Tryd.func26 _ _ _ (k + 1) (fun j _ => tab_sound (tab_cons (laws_szByteS.sound j) (tab_cons (laws_szQc.sound j) (tab_nil)))) _ _ h
  · exact (Ans.no_val h).elim

/-! loop.example/g00790/laws.szHeadS -/
def laws_szHeadS.b {R : Type} (ret : Int → Option R) (j0 : Bool → (List T) → Int → Int → Option R) (k : Nat) (a0z : Bool) (a0 : List T) (a1 : Int) : Option R :=
  cond (decide ((RowKit.wrap64 (a1 - ((a0).length : Int))) < 0)) (ret (-1)) (j0 a0z a0 (RowKit.wrap64 (a1 - ((a0).length : Int))) 0)
def laws_szHeadS.l0b {R : Type} (ret : Int → Option R) (j0 : Bool → (List T) → Int → Int → Option R) (k : Nat) (x0z : Bool) (x0 : List T) (x1 : Int) (x5 : Int) : Option R :=
  cond (decide (x5 < ((x0).length : Int))) (cond (decide ((0 : Int) ≤ x5)) (cond (decide (x5 < ((x0).length : Int))) ((laws_szHead.f k (((((x0).getD (x5).toNat .bad).cells.getD 0 .bad)).toInt) (((((x0).getD (x5).toNat .bad).cells.getD 1 .bad)).toInt) (((((x0).getD (x5).toNat .bad).cells.getD 2 .bad)).toInt) (((((x0).getD (x5).toNat .bad).cells.getD 3 .bad)).isNil) (((((x0).getD (x5).toNat .bad).cells.getD 3 .bad)).toNums) (((((x0).getD (x5).toNat .bad).cells.getD 4 .bad)).isNil) (((((x0).getD (x5).toNat .bad).cells.getD 4 .bad)).toNums) (((((x0).getD (x5).toNat .bad).cells.getD 5 .bad)).toInt) (((((x0).getD (x5).toNat .bad).cells.getD 6 .bad)).toInt) (((((x0).getD (x5).toNat .bad).cells.getD 7 .bad)).isNil) (((((x0).getD (x5).toNat .bad).cells.getD 7 .bad)).toNums) (((((x0).getD (x5).toNat .bad).cells.getD 8 .bad)).isNil) (((((x0).getD (x5).toNat .bad).cells.getD 8 .bad)).toNums) (((((x0).getD (x5).toNat .bad).cells.getD 9 .bad)).isNil) (((((x0).getD (x5).toNat .bad).cells.getD 9 .bad)).toList) x1).bind fun t0 => cond (decide (t0 < 0)) (ret (-1)) (j0 x0z x0 t0 (RowKit.wrap64 (x5 + 1)))) (none)) (none)) (ret x1)
def laws_szHeadS.l0 : Nat → Bool → (List T) → Int → Int → Option Int
  | 0, _, _, _, _ => none
  | k + 1, x0z, x0, x1, x5 => laws_szHeadS.l0b some (laws_szHeadS.l0 k) k x0z x0 x1 x5
def laws_szHeadS.f : Nat → Bool → (List T) → Int → Option Int
  | 0, _, _, _ => none
  | k + 1, a0z, a0, a1 => laws_szHeadS.b some (laws_szHeadS.l0 k) k a0z a0 a1
def laws_szHeadS.enc (r : Int) : Res := ⟨[.vals false [((.int .i64 r), true)]], []⟩
def laws_szHeadS.ans (k : Nat) : List Arg → Ans
  | [.v (.sl 49 a0z a0), .v (.int .i64 a1)] => ⟨laws_szHeadS.f k a0z a0 a1, laws_szHeadS.enc⟩
  | _ => Ans.no
def laws_szHeadS.Cs (k : Nat) : CallSem := tab [(26, laws_szHead.ans k)]
def laws_szHeadS.cuts : List (Nat × Keep) := [(122, ⟨[(0, some []), (1, some []), (5, some [])], []⟩)]
noncomputable def laws_szHeadS.K0 : List Fr := framesAt [true, true, true, false, true, false] (bodyOf Tryd.f86 laws_szHeadS.cuts) []
def laws_szHeadS.N0 (x0z : Bool) (x0 : List T) (x1 : Int) (x5 : Int) : St := stOf 27 27 2 [(0, .val ⟨(.sl 49 x0z x0), [], false, none⟩), (1, .val (V.s (.int .i64 x1))), (5, .val (V.s (.int .i64 x5)))] []
theorem laws_szHeadS.s (k : Nat) (a0z : Bool) (a0 : List T) (a1 : Int) : answer Tryd.prog laws_szHeadS.Cs 100000 laws_szHeadS.cuts [] Tryd.f86 (k + 1) [.v (.sl 49 a0z a0), .v (.int .i64 a1)] = laws_szHeadS.b (fun r => some (laws_szHeadS.enc r)) (fun x0z x0 x1 x5 => rounds Tryd.prog laws_szHeadS.Cs (finish Tryd.prog [] Tryd.f86 [.v (.sl 49 a0z a0), .v (.int .i64 a1)]) 100000 k laws_szHeadS.K0 (laws_szHeadS.N0 x0z x0 x1 x5)) k a0z a0 a1 := by kernel_rfl
theorem laws_szHeadS.s0 (k : Nat) (G : List Fr → St → Option Res) (a0z : Bool) (a0 : List T) (a1 : Int) (yx0z : Bool) (yx0 : List T) (yx1 : Int) (yx5 : Int) : resume Tryd.prog (laws_szHeadS.Cs k) G (finish Tryd.prog [] Tryd.f86 [.v (.sl 49 a0z a0), .v (.int .i64 a1)]) 100000 laws_szHeadS.K0 (laws_szHeadS.N0 yx0z yx0 yx1 yx5) = laws_szHeadS.l0b (fun r => some (laws_szHeadS.enc r)) (fun x0z x0 x1 x5 => G laws_szHeadS.K0 (laws_szHeadS.N0 x0z x0 x1 x5)) k yx0z yx0 yx1 yx5 := by kernel_rfl
theorem laws_szHeadS.b_nat {R R' : Type} (e : R → R') (ret : Int → Option R) (j0 : Bool → (List T) → Int → Int → Option R) (k : Nat) (a0z : Bool) (a0 : List T) (a1 : Int) : laws_szHeadS.b (fun r => (ret r).map e) (fun x0z x0 x1 x5 => (j0 x0z x0 x1 x5).map e) k a0z a0 a1 = (laws_szHeadS.b ret j0 k a0z a0 a1).map e := by
  unfold laws_szHeadS.b
  repeat' first | with_reducible refine nat_cond ?_ ?_ | with_reducible refine nat_bind fun _ => ?_ | rfl
theorem laws_szHeadS.l0b_nat {R R' : Type} (e : R → R') (ret : Int → Option R) (j0 : Bool → (List T) → Int → Int → Option R) (k : Nat) (x0z : Bool) (x0 : List T) (x1 : Int) (x5 : Int) : laws_szHeadS.l0b (fun r => (ret r).map e) (fun x0z x0 x1 x5 => (j0 x0z x0 x1 x5).map e) k x0z x0 x1 x5 = (laws_szHeadS.l0b ret j0 k x0z x0 x1 x5).map e := by
  unfold laws_szHeadS.l0b
  repeat' first | with_reducible refine nat_cond ?_ ?_ | with_reducible refine nat_bind fun _ => ?_ | rfl
theorem laws_szHeadS.rounds_eq (a0z : Bool) (a0 : List T) (a1 : Int) : ∀ k, (∀ (x0z : Bool) (x0 : List T) (x1 : Int) (x5 : Int), rounds Tryd.prog laws_szHeadS.Cs (finish Tryd.prog [] Tryd.f86 [.v (.sl 49 a0z a0), .v (.int .i64 a1)]) 100000 k laws_szHeadS.K0 (laws_szHeadS.N0 x0z x0 x1 x5) = (laws_szHeadS.l0 k x0z x0 x1 x5).map laws_szHeadS.enc)
  | 0 => fun _ _ _ _ => rfl
  | k + 1 => by
    have ih := laws_szHeadS.rounds_eq a0z a0 a1 k
    refine fun _ _ _ _ => ?_
    · refine (laws_szHeadS.s0 k _ a0z a0 a1 _ _ _ _).trans (Eq.trans ?_ (laws_szHeadS.l0b_nat laws_szHeadS.enc some (laws_szHeadS.l0 k) k _ _ _ _))
      simp only [ih, Option.map_some]
theorem laws_szHeadS.eq (k : Nat) (a0z : Bool) (a0 : List T) (a1 : Int) : answer Tryd.prog laws_szHeadS.Cs 100000 laws_szHeadS.cuts [] Tryd.f86 (k + 1) [.v (.sl 49 a0z a0), .v (.int .i64 a1)] = (laws_szHeadS.f (k + 1) a0z a0 a1).map laws_szHeadS.enc := by
  have ih := laws_szHeadS.rounds_eq a0z a0 a1 k
  refine (laws_szHeadS.s k a0z a0 a1).trans (Eq.trans ?_ (laws_szHeadS.b_nat laws_szHeadS.enc some (laws_szHeadS.l0 k) k a0z a0 a1))
  simp only [ih, Option.map_some]
theorem laws_szHeadS.sound (k : Nat) : SoundF Tryd.prog 86 (fun a => (laws_szHeadS.ans k a).val) := by
  refine sound_plain (fun args res h => ?_) (fun t n => rfl)
  unfold laws_szHeadS.ans at h
  dsimp only at h
  split at h
  · cases k with
    | zero => cases h
    | succ k =>
      unfold Ans.val at h
      rw [← laws_szHeadS.eq] at h
      exact answer_sound mixed Tryd.func86 _ _ _ (k + 1) (fun j _ => tab_sound (tab_cons (laws_szHead.sound j) (tab_nil))) _ _ h
  · exact (Ans.no_val h).elim

/-! loop.example/g00790/laws.szProof -/
def laws_szProof.b {R : Type} (ret : Int → Option R) (k : Nat) (a0_0z : Bool) (a0_0 : List T) (a0_1 : Int) (a0_2 : Int) (a0_3z : Bool) (a0_3 : List Int) (a0_4z : Bool) (a0_4 : List Int) (a0_5z : Bool) (a0_5 : List T) (a1 : Int) : Option R :=
  (laws_szHeadS.f k a0_0z a0_0 a1).bind fun t0 => cond (decide (t0 < 0)) (ret (-1)) ((laws_szQc.f k a0_1 a0_2 a0_3z a0_3 a0_4z a0_4 a0_5z a0_5 t0).bind fun t1 => cond (decide (t1 < 0)) (ret (-1)) (ret t1))
def laws_szProof.f : Nat → Bool → (List T) → Int → Int → Bool → (List Int) → Bool → (List Int) → Bool → (List T) → Int → Option Int
  | 0, _, _, _, _, _, _, _, _, _, _, _ => none
  | k + 1, a0_0z, a0_0, a0_1, a0_2, a0_3z, a0_3, a0_4z, a0_4, a0_5z, a0_5, a1 => laws_szProof.b some k a0_0z a0_0 a0_1 a0_2 a0_3z a0_3 a0_4z a0_4 a0_5z a0_5 a1
def laws_szProof.enc (r : Int) : Res := ⟨[.vals false [((.int .i64 r), true)]], []⟩
def laws_szProof.ans (k : Nat) : List Arg → Ans
  | [.v (.agg [(.sl 49 a0_0z a0_0), (.int .i64 a0_1), (.int .i64 a0_2), (.nums 5 .u8 a0_3z a0_3), (.nums 5 .u8 a0_4z a0_4), (.sl 28 a0_5z a0_5)]), .v (.int .i64 a1)] => ⟨laws_szProof.f k a0_0z a0_0 a0_1 a0_2 a0_3z a0_3 a0_4z a0_4 a0_5z a0_5 a1, laws_szProof.enc⟩
  | _ => Ans.no
def laws_szProof.Cs (k : Nat) : CallSem := tab [(86, laws_szHeadS.ans k), (51, laws_szQc.ans k)]
def laws_szProof.cuts : List (Nat × Keep) := []
theorem laws_szProof.s (k : Nat) (a0_0z : Bool) (a0_0 : List T) (a0_1 : Int) (a0_2 : Int) (a0_3z : Bool) (a0_3 : List Int) (a0_4z : Bool) (a0_4 : List Int) (a0_5z : Bool) (a0_5 : List T) (a1 : Int) : answer Tryd.prog laws_szProof.Cs 100000 laws_szProof.cuts [] Tryd.f41 (k + 1) [.v (.agg [(.sl 49 a0_0z a0_0), (.int .i64 a0_1), (.int .i64 a0_2), (.nums 5 .u8 a0_3z a0_3), (.nums 5 .u8 a0_4z a0_4), (.sl 28 a0_5z a0_5)]), .v (.int .i64 a1)] = laws_szProof.b (fun r => some (laws_szProof.enc r)) k a0_0z a0_0 a0_1 a0_2 a0_3z a0_3 a0_4z a0_4 a0_5z a0_5 a1 := by kernel_rfl
theorem laws_szProof.b_nat {R R' : Type} (e : R → R') (ret : Int → Option R) (k : Nat) (a0_0z : Bool) (a0_0 : List T) (a0_1 : Int) (a0_2 : Int) (a0_3z : Bool) (a0_3 : List Int) (a0_4z : Bool) (a0_4 : List Int) (a0_5z : Bool) (a0_5 : List T) (a1 : Int) : laws_szProof.b (fun r => (ret r).map e) k a0_0z a0_0 a0_1 a0_2 a0_3z a0_3 a0_4z a0_4 a0_5z a0_5 a1 = (laws_szProof.b ret k a0_0z a0_0 a0_1 a0_2 a0_3z a0_3 a0_4z a0_4 a0_5z a0_5 a1).map e := by
  unfold laws_szProof.b
  repeat' first | with_reducible refine nat_cond ?_ ?_ | with_reducible refine nat_bind fun _ => ?_ | rfl
theorem laws_szProof.eq (k : Nat) (a0_0z : Bool) (a0_0 : List T) (a0_1 : Int) (a0_2 : Int) (a0_3z : Bool) (a0_3 : List Int) (a0_4z : Bool) (a0_4 : List Int) (a0_5z : Bool) (a0_5 : List T) (a1 : Int) : answer Tryd.prog laws_szProof.Cs 100000 laws_szProof.cuts [] Tryd.f41 (k + 1) [.v (.agg [(.sl 49 a0_0z a0_0), (.int .i64 a0_1), (.int .i64 a0_2), (.nums 5 .u8 a0_3z a0_3), (.nums 5 .u8 a0_4z a0_4), (.sl 28 a0_5z a0_5)]), .v (.int .i64 a1)] = (laws_szProof.f (k + 1) a0_0z a0_0 a0_1 a0_2 a0_3z a0_3 a0_4z a0_4 a0_5z a0_5 a1).map laws_szProof.enc := by
  refine (laws_szProof.s k a0_0z a0_0 a0_1 a0_2 a0_3z a0_3 a0_4z a0_4 a0_5z a0_5 a1).trans (Eq.trans ?_ (laws_szProof.b_nat laws_szProof.enc some k a0_0z a0_0 a0_1 a0_2 a0_3z a0_3 a0_4z a0_4 a0_5z a0_5 a1))
  simp only [Option.map_some]
theorem laws_szProof.sound (k : Nat) : SoundF Tryd.prog 41 (fun a => (laws_szProof.ans k a).val) := by
  refine sound_plain (fun args res h => ?_) (fun t n => rfl)
  unfold laws_szProof.ans at h
  dsimp only at h
  split at h
  · cases k with
    | zero => cases h
    | succ k =>
      unfold Ans.val at h
      rw [← laws_szProof.eq] at h
      exact answer_sound mixed Tryd.func41 _ _ _ (k + 1) (fun j _ => tab_sound (tab_cons (laws_szHeadS.sound j) (tab_cons (laws_szQc.sound j) (tab_nil)))) _ _ h
  · exact (Ans.no_val h).elim

/-! loop.example/g00790/laws.toByteS -/
def laws_toByteS.b {R : Type} (ret : Bool × List Int → Option R) (j0 : Bool → (List Int) → (List Int) → Int → Option R) (k : Nat) (a0z : Bool) (a0 : List Int) : Option R :=
  cond (decide (((a0).length : Int) = ((a0).length : Int))) (cond (decide ((0 : Int) ≤ ((a0).length : Int))) (cond (decide ((a0).length < 140737488355328)) (j0 a0z a0 (List.replicate (a0).length (0 : Int)) 0) (none)) (none)) (none)
def laws_toByteS.l0b {R : Type} (ret : Bool × List Int → Option R) (j0 : Bool → (List Int) → (List Int) → Int → Option R) (k : Nat) (x0z : Bool) (x0 : List Int) (x3 : List Int) (x4 : Int) : Option R :=
  cond (decide (x4 < ((x0).length : Int))) (cond (decide ((0 : Int) ≤ x4)) (cond (decide (x4 < ((x0).length : Int))) (cond (decide ((0 : Int) ≤ x4)) (cond (decide (x4 < ((x3).length : Int))) (j0 x0z x0 ((x3).set (x4).toNat (rdI x0 x4)) (RowKit.wrap64 (x4 + 1))) (none)) (none)) (none)) (none)) (ret (false, x3))
def laws_toByteS.l0 : Nat → Bool → (List Int) → (List Int) → Int → Option (Bool × List Int)
  | 0, _, _, _, _ => none
  | k + 1, x0z, x0, x3, x4 => laws_toByteS.l0b some (laws_toByteS.l0 k) k x0z x0 x3 x4
def laws_toByteS.f : Nat → Bool → (List Int) → Option (Bool × List Int)
  | 0, _, _ => none
  | k + 1, a0z, a0 => laws_toByteS.b some (laws_toByteS.l0 k) k a0z a0
def laws_toByteS.enc (r : Bool × List Int) : Res := ⟨[.vals false [((.nums 5 .u8 r.1 r.2), true)]], []⟩
def laws_toByteS.ans (k : Nat) : List Arg → Ans
  | [.v (.nums 5 .u8 a0z a0)] => ⟨laws_toByteS.f k a0z a0, laws_toByteS.enc⟩
  | _ => Ans.no
def laws_toByteS.Cs (k : Nat) : CallSem := tab []
def laws_toByteS.cuts : List (Nat × Keep) := [(58, ⟨[(0, some []), (3, none), (4, some [])], []⟩)]
noncomputable def laws_toByteS.K0 : List Fr := framesAt [true, true, false, true, false] (bodyOf Tryd.f71 laws_toByteS.cuts) []
def laws_toByteS.N0 (x0z : Bool) (x0 : List Int) (x3 : List Int) (x4 : Int) : St := stOf 22 22 1 [(0, .val ⟨(.nums 5 .u8 x0z x0), [], false, none⟩), (3, .val ⟨(.nums 5 .u8 false x3), [.l 3 0], true, some (.l 3 0)⟩), (4, .val (V.s (.int .i64 x4)))] []
theorem laws_toByteS.s (k : Nat) (a0z : Bool) (a0 : List Int) : answer Tryd.prog laws_toByteS.Cs 100000 laws_toByteS.cuts [] Tryd.f71 (k + 1) [.v (.nums 5 .u8 a0z a0)] = laws_toByteS.b (fun r => some (laws_toByteS.enc r)) (fun x0z x0 x3 x4 => rounds Tryd.prog laws_toByteS.Cs (finish Tryd.prog [] Tryd.f71 [.v (.nums 5 .u8 a0z a0)]) 100000 k laws_toByteS.K0 (laws_toByteS.N0 x0z x0 x3 x4)) k a0z a0 := by kernel_rfl
theorem laws_toByteS.s0 (k : Nat) (G : List Fr → St → Option Res) (a0z : Bool) (a0 : List Int) (yx0z : Bool) (yx0 : List Int) (yx3 : List Int) (yx4 : Int) : resume Tryd.prog (laws_toByteS.Cs k) G (finish Tryd.prog [] Tryd.f71 [.v (.nums 5 .u8 a0z a0)]) 100000 laws_toByteS.K0 (laws_toByteS.N0 yx0z yx0 yx3 yx4) = laws_toByteS.l0b (fun r => some (laws_toByteS.enc r)) (fun x0z x0 x3 x4 => G laws_toByteS.K0 (laws_toByteS.N0 x0z x0 x3 x4)) k yx0z yx0 yx3 yx4 := by kernel_rfl
theorem laws_toByteS.b_nat {R R' : Type} (e : R → R') (ret : Bool × List Int → Option R) (j0 : Bool → (List Int) → (List Int) → Int → Option R) (k : Nat) (a0z : Bool) (a0 : List Int) : laws_toByteS.b (fun r => (ret r).map e) (fun x0z x0 x3 x4 => (j0 x0z x0 x3 x4).map e) k a0z a0 = (laws_toByteS.b ret j0 k a0z a0).map e := by
  unfold laws_toByteS.b
  repeat' first | with_reducible refine nat_cond ?_ ?_ | with_reducible refine nat_bind fun _ => ?_ | rfl
theorem laws_toByteS.l0b_nat {R R' : Type} (e : R → R') (ret : Bool × List Int → Option R) (j0 : Bool → (List Int) → (List Int) → Int → Option R) (k : Nat) (x0z : Bool) (x0 : List Int) (x3 : List Int) (x4 : Int) : laws_toByteS.l0b (fun r => (ret r).map e) (fun x0z x0 x3 x4 => (j0 x0z x0 x3 x4).map e) k x0z x0 x3 x4 = (laws_toByteS.l0b ret j0 k x0z x0 x3 x4).map e := by
  unfold laws_toByteS.l0b
  repeat' first | with_reducible refine nat_cond ?_ ?_ | with_reducible refine nat_bind fun _ => ?_ | rfl
theorem laws_toByteS.rounds_eq (a0z : Bool) (a0 : List Int) : ∀ k, (∀ (x0z : Bool) (x0 : List Int) (x3 : List Int) (x4 : Int), rounds Tryd.prog laws_toByteS.Cs (finish Tryd.prog [] Tryd.f71 [.v (.nums 5 .u8 a0z a0)]) 100000 k laws_toByteS.K0 (laws_toByteS.N0 x0z x0 x3 x4) = (laws_toByteS.l0 k x0z x0 x3 x4).map laws_toByteS.enc)
  | 0 => fun _ _ _ _ => rfl
  | k + 1 => by
    have ih := laws_toByteS.rounds_eq a0z a0 k
    refine fun _ _ _ _ => ?_
    · refine (laws_toByteS.s0 k _ a0z a0 _ _ _ _).trans (Eq.trans ?_ (laws_toByteS.l0b_nat laws_toByteS.enc some (laws_toByteS.l0 k) k _ _ _ _))
      simp only [ih, Option.map_some]
theorem laws_toByteS.eq (k : Nat) (a0z : Bool) (a0 : List Int) : answer Tryd.prog laws_toByteS.Cs 100000 laws_toByteS.cuts [] Tryd.f71 (k + 1) [.v (.nums 5 .u8 a0z a0)] = (laws_toByteS.f (k + 1) a0z a0).map laws_toByteS.enc := by
  have ih := laws_toByteS.rounds_eq a0z a0 k
  refine (laws_toByteS.s k a0z a0).trans (Eq.trans ?_ (laws_toByteS.b_nat laws_toByteS.enc some (laws_toByteS.l0 k) k a0z a0))
  simp only [ih, Option.map_some]
theorem laws_toByteS.sound (k : Nat) : SoundF Tryd.prog 71 (fun a => (laws_toByteS.ans k a).val) := by
  refine sound_plain (fun args res h => ?_) (fun t n => rfl)
  unfold laws_toByteS.ans at h
  dsimp only at h
  split at h
  · cases k with
    | zero => cases h
    | succ k =>
      unfold Ans.val at h
      rw [← laws_toByteS.eq] at h
      exact answer_sound mixed Tryd.func71 _ _ _ (k + 1) (fun j _ => tab_sound (tab_nil)) _ _ h
  · exact (Ans.no_val h).elim

/-! loop.example/g00790/laws.toByteSS -/
def laws_toByteSS.b {R : Type} (ret : Bool × List T → Option R) (j0 : Bool → (List T) → (List T) → Int → Option R) (k : Nat) (a0z : Bool) (a0 : List T) : Option R :=
  cond (decide (((a0).length : Int) = ((a0).length : Int))) (cond (decide ((0 : Int) ≤ ((a0).length : Int))) (cond (decide ((a0).length < 5864062014805)) (j0 a0z a0 (List.replicate (a0).length (.nums 5 .u8 true ([] : List Int))) 0) (none)) (none)) (none)
def laws_toByteSS.l0b {R : Type} (ret : Bool × List T → Option R) (j0 : Bool → (List T) → (List T) → Int → Option R) (k : Nat) (x0z : Bool) (x0 : List T) (x3 : List T) (x4 : Int) : Option R :=
  cond (decide (x4 < ((x0).length : Int))) (cond (decide ((0 : Int) ≤ x4)) (cond (decide (x4 < ((x0).length : Int))) ((laws_toByteS.f k (((((x0).getD (x4).toNat .bad).cells.getD 0 .bad)).isNil) (((((x0).getD (x4).toNat .bad).cells.getD 0 .bad)).toNums)).bind fun t0 => cond (decide ((0 : Int) ≤ x4)) (cond (decide (x4 < ((x3).length : Int))) (j0 x0z x0 ((x3).set (x4).toNat (.nums 5 .u8 t0.1 t0.2)) (RowKit.wrap64 (x4 + 1))) (none)) (none)) (none)) (none)) (ret (false, x3))
def laws_toByteSS.l0 : Nat → Bool → (List T) → (List T) → Int → Option (Bool × List T)
  | 0, _, _, _, _ => none
  | k + 1, x0z, x0, x3, x4 => laws_toByteSS.l0b some (laws_toByteSS.l0 k) k x0z x0 x3 x4
def laws_toByteSS.f : Nat → Bool → (List T) → Option (Bool × List T)
  | 0, _, _ => none
  | k + 1, a0z, a0 => laws_toByteSS.b some (laws_toByteSS.l0 k) k a0z a0
def laws_toByteSS.enc (r : Bool × List T) : Res := ⟨[.vals false [((.sl 28 r.1 r.2), true)]], []⟩
def laws_toByteSS.ans (k : Nat) : List Arg → Ans
  | [.v (.sl 28 a0z a0)] => ⟨laws_toByteSS.f k a0z a0, laws_toByteSS.enc⟩
  | _ => Ans.no
def laws_toByteSS.Cs (k : Nat) : CallSem := tab [(71, laws_toByteS.ans k)]
def laws_toByteSS.cuts : List (Nat × Keep) := [(58, ⟨[(0, some []), (3, none), (4, some [])], []⟩)]
noncomputable def laws_toByteSS.K0 : List Fr := framesAt [true, true, false, true, false] (bodyOf Tryd.f78 laws_toByteSS.cuts) []
def laws_toByteSS.N0 (x0z : Bool) (x0 : List T) (x3 : List T) (x4 : Int) : St := stOf 23 23 1 [(0, .val ⟨(.sl 28 x0z x0), [], false, none⟩), (3, .val ⟨(.sl 28 false x3), [.l 3 0], true, some (.l 3 0)⟩), (4, .val (V.s (.int .i64 x4)))] []
theorem laws_toByteSS.s (k : Nat) (a0z : Bool) (a0 : List T) : answer Tryd.prog laws_toByteSS.Cs 100000 laws_toByteSS.cuts [] Tryd.f78 (k + 1) [.v (.sl 28 a0z a0)] = laws_toByteSS.b (fun r => some (laws_toByteSS.enc r)) (fun x0z x0 x3 x4 => rounds Tryd.prog laws_toByteSS.Cs (finish Tryd.prog [] Tryd.f78 [.v (.sl 28 a0z a0)]) 100000 k laws_toByteSS.K0 (laws_toByteSS.N0 x0z x0 x3 x4)) k a0z a0 := by kernel_rfl
theorem laws_toByteSS.s0 (k : Nat) (G : List Fr → St → Option Res) (a0z : Bool) (a0 : List T) (yx0z : Bool) (yx0 : List T) (yx3 : List T) (yx4 : Int) : resume Tryd.prog (laws_toByteSS.Cs k) G (finish Tryd.prog [] Tryd.f78 [.v (.sl 28 a0z a0)]) 100000 laws_toByteSS.K0 (laws_toByteSS.N0 yx0z yx0 yx3 yx4) = laws_toByteSS.l0b (fun r => some (laws_toByteSS.enc r)) (fun x0z x0 x3 x4 => G laws_toByteSS.K0 (laws_toByteSS.N0 x0z x0 x3 x4)) k yx0z yx0 yx3 yx4 := by kernel_rfl
theorem laws_toByteSS.b_nat {R R' : Type} (e : R → R') (ret : Bool × List T → Option R) (j0 : Bool → (List T) → (List T) → Int → Option R) (k : Nat) (a0z : Bool) (a0 : List T) : laws_toByteSS.b (fun r => (ret r).map e) (fun x0z x0 x3 x4 => (j0 x0z x0 x3 x4).map e) k a0z a0 = (laws_toByteSS.b ret j0 k a0z a0).map e := by
  unfold laws_toByteSS.b
  repeat' first | with_reducible refine nat_cond ?_ ?_ | with_reducible refine nat_bind fun _ => ?_ | rfl
theorem laws_toByteSS.l0b_nat {R R' : Type} (e : R → R') (ret : Bool × List T → Option R) (j0 : Bool → (List T) → (List T) → Int → Option R) (k : Nat) (x0z : Bool) (x0 : List T) (x3 : List T) (x4 : Int) : laws_toByteSS.l0b (fun r => (ret r).map e) (fun x0z x0 x3 x4 => (j0 x0z x0 x3 x4).map e) k x0z x0 x3 x4 = (laws_toByteSS.l0b ret j0 k x0z x0 x3 x4).map e := by
  unfold laws_toByteSS.l0b
  repeat' first | with_reducible refine nat_cond ?_ ?_ | with_reducible refine nat_bind fun _ => ?_ | rfl
theorem laws_toByteSS.rounds_eq (a0z : Bool) (a0 : List T) : ∀ k, (∀ (x0z : Bool) (x0 : List T) (x3 : List T) (x4 : Int), rounds Tryd.prog laws_toByteSS.Cs (finish Tryd.prog [] Tryd.f78 [.v (.sl 28 a0z a0)]) 100000 k laws_toByteSS.K0 (laws_toByteSS.N0 x0z x0 x3 x4) = (laws_toByteSS.l0 k x0z x0 x3 x4).map laws_toByteSS.enc)
  | 0 => fun _ _ _ _ => rfl
  | k + 1 => by
    have ih := laws_toByteSS.rounds_eq a0z a0 k
    refine fun _ _ _ _ => ?_
    · refine (laws_toByteSS.s0 k _ a0z a0 _ _ _ _).trans (Eq.trans ?_ (laws_toByteSS.l0b_nat laws_toByteSS.enc some (laws_toByteSS.l0 k) k _ _ _ _))
      simp only [ih, Option.map_some]
theorem laws_toByteSS.eq (k : Nat) (a0z : Bool) (a0 : List T) : answer Tryd.prog laws_toByteSS.Cs 100000 laws_toByteSS.cuts [] Tryd.f78 (k + 1) [.v (.sl 28 a0z a0)] = (laws_toByteSS.f (k + 1) a0z a0).map laws_toByteSS.enc := by
  have ih := laws_toByteSS.rounds_eq a0z a0 k
  refine (laws_toByteSS.s k a0z a0).trans (Eq.trans ?_ (laws_toByteSS.b_nat laws_toByteSS.enc some (laws_toByteSS.l0 k) k a0z a0))
  simp only [ih, Option.map_some]
theorem laws_toByteSS.sound (k : Nat) : SoundF Tryd.prog 78 (fun a => (laws_toByteSS.ans k a).val) := by
  refine sound_plain (fun args res h => ?_) (fun t n => rfl)
  unfold laws_toByteSS.ans at h
  dsimp only at h
  split at h
  · cases k with
    | zero => cases h
    | succ k =>
      unfold Ans.val at h
      rw [← laws_toByteSS.eq] at h
      exact answer_sound mixed Tryd.func78 _ _ _ (k + 1) (fun j _ => tab_sound (tab_cons (laws_toByteS.sound j) (tab_nil))) _ _ h
  · exact (Ans.no_val h).elim

/-! loop.example/g00790/laws.toQc -/
def laws_toQc.b {R : Type} (ret : Int × Int × Bool × (List Int) × Bool × (List Int) × Bool × List T → Option R) (k : Nat) (a0_0 : Int) (a0_1 : Int) (a0_2z : Bool) (a0_2 : List Int) (a0_3z : Bool) (a0_3 : List Int) (a0_4z : Bool) (a0_4 : List T) : Option R :=
  (laws_toByteS.f k a0_2z a0_2).bind fun t0 => (laws_toByteS.f k a0_3z a0_3).bind fun t1 => (laws_toByteSS.f k a0_4z a0_4).bind fun t2 => ret (a0_0, a0_1, t0.1, t0.2, t1.1, t1.2, t2.1, t2.2)
def laws_toQc.f : Nat → Int → Int → Bool → (List Int) → Bool → (List Int) → Bool → (List T) → Option (Int × Int × Bool × (List Int) × Bool × (List Int) × Bool × List T)
  | 0, _, _, _, _, _, _, _, _ => none
  | k + 1, a0_0, a0_1, a0_2z, a0_2, a0_3z, a0_3, a0_4z, a0_4 => laws_toQc.b some k a0_0 a0_1 a0_2z a0_2 a0_3z a0_3 a0_4z a0_4
def laws_toQc.enc (r : Int × Int × Bool × (List Int) × Bool × (List Int) × Bool × List T) : Res := ⟨[.vals true [((.int .i64 r.1), true), ((.int .i64 r.2.1), true), ((.nums 5 .u8 r.2.2.1 r.2.2.2.1), true), ((.nums 5 .u8 r.2.2.2.2.1 r.2.2.2.2.2.1), true), ((.sl 28 r.2.2.2.2.2.2.1 r.2.2.2.2.2.2.2), true)]], []⟩
def laws_toQc.ans (k : Nat) : List Arg → Ans
  | [.v (.agg [(.int .i64 a0_0), (.int .i64 a0_1), (.nums 5 .u8 a0_2z a0_2), (.nums 5 .u8 a0_3z a0_3), (.sl 28 a0_4z a0_4)])] => ⟨laws_toQc.f k a0_0 a0_1 a0_2z a0_2 a0_3z a0_3 a0_4z a0_4, laws_toQc.enc⟩
  | _ => Ans.no
def laws_toQc.Cs (k : Nat) : CallSem := tab [(71, laws_toByteS.ans k), (78, laws_toByteSS.ans k)]
def laws_toQc.cuts : List (Nat × Keep) := []
theorem laws_toQc.s (k : Nat) (a0_0 : Int) (a0_1 : Int) (a0_2z : Bool) (a0_2 : List Int) (a0_3z : Bool) (a0_3 : List Int) (a0_4z : Bool) (a0_4 : List T) : answer Tryd.prog laws_toQc.Cs 100000 laws_toQc.cuts [] Tryd.f53 (k + 1) [.v (.agg [(.int .i64 a0_0), (.int .i64 a0_1), (.nums 5 .u8 a0_2z a0_2), (.nums 5 .u8 a0_3z a0_3), (.sl 28 a0_4z a0_4)])] = laws_toQc.b (fun r => some (laws_toQc.enc r)) k a0_0 a0_1 a0_2z a0_2 a0_3z a0_3 a0_4z a0_4 := by kernel_rfl
theorem laws_toQc.b_nat {R R' : Type} (e : R → R') (ret : Int × Int × Bool × (List Int) × Bool × (List Int) × Bool × List T → Option R) (k : Nat) (a0_0 : Int) (a0_1 : Int) (a0_2z : Bool) (a0_2 : List Int) (a0_3z : Bool) (a0_3 : List Int) (a0_4z : Bool) (a0_4 : List T) : laws_toQc.b (fun r => (ret r).map e) k a0_0 a0_1 a0_2z a0_2 a0_3z a0_3 a0_4z a0_4 = (laws_toQc.b ret k a0_0 a0_1 a0_2z a0_2 a0_3z a0_3 a0_4z a0_4).map e := by
  unfold laws_toQc.b
  repeat' first | with_reducible refine nat_cond ?_ ?_ | with_reducible refine nat_bind fun _ => ?_ | rfl
theorem laws_toQc.eq (k : Nat) (a0_0 : Int) (a0_1 : Int) (a0_2z : Bool) (a0_2 : List Int) (a0_3z : Bool) (a0_3 : List Int) (a0_4z : Bool) (a0_4 : List T) : answer Tryd.prog laws_toQc.Cs 100000 laws_toQc.cuts [] Tryd.f53 (k + 1) [.v (.agg [(.int .i64 a0_0), (.int .i64 a0_1), (.nums 5 .u8 a0_2z a0_2), (.nums 5 .u8 a0_3z a0_3), (.sl 28 a0_4z a0_4)])] = (laws_toQc.f (k + 1) a0_0 a0_1 a0_2z a0_2 a0_3z a0_3 a0_4z a0_4).map laws_toQc.enc := by
  refine (laws_toQc.s k a0_0 a0_1 a0_2z a0_2 a0_3z a0_3 a0_4z a0_4).trans (Eq.trans ?_ (laws_toQc.b_nat laws_toQc.enc some k a0_0 a0_1 a0_2z a0_2 a0_3z a0_3 a0_4z a0_4))
  simp only [Option.map_some]
theorem laws_toQc.sound (k : Nat) : SoundF Tryd.prog 53 (fun a => (laws_toQc.ans k a).val) := by
  refine sound_plain (fun args res h => ?_) (fun t n => rfl)
  unfold laws_toQc.ans at h
  dsimp only at h
  split at h
  · cases k with
    | zero => cases h
    | succ k =>
      unfold Ans.val at h
      rw [← laws_toQc.eq] at h
      exact answer_sound mixed Tryd.func53 _ _ _ (k + 1) (fun j _ => tab_sound (tab_cons (laws_toByteS.sound j) (tab_cons (laws_toByteSS.sound j) (tab_nil)))) _ _ h
  · exact (Ans.no_val h).elim

/-! loop.example/g00790/laws.toHead -/
def laws_toHead.b {R : Type} (ret : Int × Int × Int × Bool × (List Int) × Bool × (List Int) × Int × Int × Bool × (List Int) × Bool × (List Int) × Bool × List T → Option R) (k : Nat) (a0_0 : Int) (a0_1 : Int) (a0_2 : Int) (a0_3z : Bool) (a0_3 : List Int) (a0_4z : Bool) (a0_4 : List Int) (a0_5 : Int) (a0_6 : Int) (a0_7z : Bool) (a0_7 : List Int) (a0_8z : Bool) (a0_8 : List Int) (a0_9z : Bool) (a0_9 : List T) : Option R :=
  (laws_toByteS.f k a0_3z a0_3).bind fun t0 => (laws_toByteS.f k a0_4z a0_4).bind fun t1 => (laws_toQc.f k a0_5 a0_6 a0_7z a0_7 a0_8z a0_8 a0_9z a0_9).bind fun t2 => ret (a0_0, a0_1, a0_2, t0.1, t0.2, t1.1, t1.2, t2.1, t2.2.1, t2.2.2.1, t2.2.2.2.1, t2.2.2.2.2.1, t2.2.2.2.2.2.1, t2.2.2.2.2.2.2.1, t2.2.2.2.2.2.2.2)
def laws_toHead.f : Nat → Int → Int → Int → Bool → (List Int) → Bool → (List Int) → Int → Int → Bool → (List Int) → Bool → (List Int) → Bool → (List T) → Option (Int × Int × Int × Bool × (List Int) × Bool × (List Int) × Int × Int × Bool × (List Int) × Bool × (List Int) × Bool × List T)
  | 0, _, _, _, _, _, _, _, _, _, _, _, _, _, _, _ => none
  | k + 1, a0_0, a0_1, a0_2, a0_3z, a0_3, a0_4z, a0_4, a0_5, a0_6, a0_7z, a0_7, a0_8z, a0_8, a0_9z, a0_9 => laws_toHead.b some k a0_0 a0_1 a0_2 a0_3z a0_3 a0_4z a0_4 a0_5 a0_6 a0_7z a0_7 a0_8z a0_8 a0_9z a0_9
def laws_toHead.enc (r : Int × Int × Int × Bool × (List Int) × Bool × (List Int) × Int × Int × Bool × (List Int) × Bool × (List Int) × Bool × List T) : Res := ⟨[.vals true [((.int .i64 r.1), true), ((.int .i64 r.2.1), true), ((.int .i64 r.2.2.1), true), ((.nums 5 .u8 r.2.2.2.1 r.2.2.2.2.1), true), ((.nums 5 .u8 r.2.2.2.2.2.1 r.2.2.2.2.2.2.1), true), ((.int .i64 r.2.2.2.2.2.2.2.1), true), ((.int .i64 r.2.2.2.2.2.2.2.2.1), true), ((.nums 5 .u8 r.2.2.2.2.2.2.2.2.2.1 r.2.2.2.2.2.2.2.2.2.2.1), true), ((.nums 5 .u8 r.2.2.2.2.2.2.2.2.2.2.2.1 r.2.2.2.2.2.2.2.2.2.2.2.2.1), true), ((.sl 28 r.2.2.2.2.2.2.2.2.2.2.2.2.2.1 r.2.2.2.2.2.2.2.2.2.2.2.2.2.2), true)]], []⟩
def laws_toHead.ans (k : Nat) : List Arg → Ans
  | [.v (.agg [(.int .i64 a0_0), (.int .i64 a0_1), (.int .i64 a0_2), (.nums 5 .u8 a0_3z a0_3), (.nums 5 .u8 a0_4z a0_4), (.int .i64 a0_5), (.int .i64 a0_6), (.nums 5 .u8 a0_7z a0_7), (.nums 5 .u8 a0_8z a0_8), (.sl 28 a0_9z a0_9)])] => ⟨laws_toHead.f k a0_0 a0_1 a0_2 a0_3z a0_3 a0_4z a0_4 a0_5 a0_6 a0_7z a0_7 a0_8z a0_8 a0_9z a0_9, laws_toHead.enc⟩
  | _ => Ans.no
def laws_toHead.Cs (k : Nat) : CallSem := tab [(71, laws_toByteS.ans k), (53, laws_toQc.ans k)]
def laws_toHead.cuts : List (Nat × Keep) := []
theorem laws_toHead.s (k : Nat) (a0_0 : Int) (a0_1 : Int) (a0_2 : Int) (a0_3z : Bool) (a0_3 : List Int) (a0_4z : Bool) (a0_4 : List Int) (a0_5 : Int) (a0_6 : Int) (a0_7z : Bool) (a0_7 : List Int) (a0_8z : Bool) (a0_8 : List Int) (a0_9z : Bool) (a0_9 : List T) : answer Tryd.prog laws_toHead.Cs 100000 laws_toHead.cuts [] Tryd.f28 (k + 1) [.v (.agg [(.int .i64 a0_0), (.int .i64 a0_1), (.int .i64 a0_2), (.nums 5 .u8 a0_3z a0_3), (.nums 5 .u8 a0_4z a0_4), (.int .i64 a0_5), (.int .i64 a0_6), (.nums 5 .u8 a0_7z a0_7), (.nums 5 .u8 a0_8z a0_8), (.sl 28 a0_9z a0_9)])] = laws_toHead.b (fun r => some (laws_toHead.enc r)) k a0_0 a0_1 a0_2 a0_3z a0_3 a0_4z a0_4 a0_5 a0_6 a0_7z a0_7 a0_8z a0_8 a0_9z a0_9 := by kernel_rfl
theorem laws_toHead.b_nat {R R' : Type} (e : R → R') (ret : Int × Int × Int × Bool × (List Int) × Bool × (List Int) × Int × Int × Bool × (List Int) × Bool × (List Int) × Bool × List T → Option R) (k : Nat) (a0_0 : Int) (a0_1 : Int) (a0_2 : Int) (a0_3z : Bool) (a0_3 : List Int) (a0_4z : Bool) (a0_4 : List Int) (a0_5 : Int) (a0_6 : Int) (a0_7z : Bool) (a0_7 : List Int) (a0_8z : Bool) (a0_8 : List Int) (a0_9z : Bool) (a0_9 : List T) : laws_toHead.b (fun r => (ret r).map e) k a0_0 a0_1 a0_2 a0_3z a0_3 a0_4z a0_4 a0_5 a0_6 a0_7z a0_7 a0_8z a0_8 a0_9z a0_9 = (laws_toHead.b ret k a0_0 a0_1 a0_2 a0_3z a0_3 a0_4z a0_4 a0_5 a0_6 a0_7z a0_7 a0_8z a0_8 a0_9z a0_9).map e := by
  unfold laws_toHead.b
  repeat' first | with_reducible refine nat_cond ?_ ?_ | with_reducible refine nat_bind fun _ => ?_ | rfl
theorem laws_toHead.eq (k : Nat) (a0_0 : Int) (a0_1 : Int) (a0_2 : Int) (a0_3z : Bool) (a0_3 : List Int) (a0_4z : Bool) (a0_4 : List Int) (a0_5 : Int) (a0_6 : Int) (a0_7z : Bool) (a0_7 : List Int) (a0_8z : Bool) (a0_8 : List Int) (a0_9z : Bool) (a0_9 : List T) : answer Tryd.prog laws_toHead.Cs 100000 laws_toHead.cuts [] Tryd.f28 (k + 1) [.v (.agg [(.int .i64 a0_0), (.int .i64 a0_1), (.int .i64 a0_2), (.nums 5 .u8 a0_3z a0_3), (.nums 5 .u8 a0_4z a0_4), (.int .i64 a0_5), (.int .i64 a0_6), (.nums 5 .u8 a0_7z a0_7), (.nums 5 .u8 a0_8z a0_8), (.sl 28 a0_9z a0_9)])] = (laws_toHead.f (k + 1) a0_0 a0_1 a0_2 a0_3z a0_3 a0_4z a0_4 a0_5 a0_6 a0_7z a0_7 a0_8z a0_8 a0_9z a0_9).map laws_toHead.enc := by
  refine (laws_toHead.s k a0_0 a0_1 a0_2 a0_3z a0_3 a0_4z a0_4 a0_5 a0_6 a0_7z a0_7 a0_8z a0_8 a0_9z a0_9).trans (Eq.trans ?_ (laws_toHead.b_nat laws_toHead.enc some k a0_0 a0_1 a0_2 a0_3z a0_3 a0_4z a0_4 a0_5 a0_6 a0_7z a0_7 a0_8z a0_8 a0_9z a0_9))
  simp only [Option.map_some]
theorem laws_toHead.sound (k : Nat) : SoundF Tryd.prog 28 (fun a => (laws_toHead.ans k a).val) := by
  refine sound_plain (fun args res h => ?_) (fun t n => rfl)
  unfold laws_toHead.ans at h
  dsimp only at h
  split at h
  · cases k with
    | zero => cases h
    | succ k =>
      unfold Ans.val at h
      rw [← laws_toHead.eq] at h
      exact answer_sound mixed Tryd.func28 _ _ _ (k + 1) (fun j _ => tab_sound (tab_cons (laws_toByteS.sound j) (tab_cons (laws_toQc.sound j) (tab_nil)))) _ _ h
  · exact (Ans.no_val h).elim

/-! loop.example/g00790/laws.toHeadS -/
def laws_toHeadS.b {R : Type} (ret : Bool × List T → Option R) (j0 : Bool → (List T) → (List T) → Int → Option R) (k : Nat) (a0z : Bool) (a0 : List T) : Option R :=
  cond (decide (((a0).length : Int) = ((a0).length : Int))) (cond (decide ((0 : Int) ≤ ((a0).length : Int))) (cond (decide ((a0).length < 879609302220)) (j0 a0z a0 (List.replicate (a0).length (.agg [(.int .i64 0), (.int .i64 0), (.int .i64 0), (.nums 5 .u8 true ([] : List Int)), (.nums 5 .u8 true ([] : List Int)), (.int .i64 0), (.int .i64 0), (.nums 5 .u8 true ([] : List Int)), (.nums 5 .u8 true ([] : List Int)), (.sl 28 true ([] : List T))])) 0) (none)) (none)) (none)
def laws_toHeadS.l0b {R : Type} (ret : Bool × List T → Option R) (j0 : Bool → (List T) → (List T) → Int → Option R) (k : Nat) (x0z : Bool) (x0 : List T) (x3 : List T) (x4 : Int) : Option R :=
  cond (decide (x4 < ((x0).length : Int))) (cond (decide ((0 : Int) ≤ x4)) (cond (decide (x4 < ((x0).length : Int))) ((laws_toHead.f k (((((x0).getD (x4).toNat .bad).cells.getD 0 .bad)).toInt) (((((x0).getD (x4).toNat .bad).cells.getD 1 .bad)).toInt) (((((x0).getD (x4).toNat .bad).cells.getD 2 .bad)).toInt) (((((x0).getD (x4).toNat .bad).cells.getD 3 .bad)).isNil) (((((x0).getD (x4).toNat .bad).cells.getD 3 .bad)).toNums) (((((x0).getD (x4).toNat .bad).cells.getD 4 .bad)).isNil) (((((x0).getD (x4).toNat .bad).cells.getD 4 .bad)).toNums) (((((x0).getD (x4).toNat .bad).cells.getD 5 .bad)).toInt) (((((x0).getD (x4).toNat .bad).cells.getD 6 .bad)).toInt) (((((x0).getD (x4).toNat .bad).cells.getD 7 .bad)).isNil) (((((x0).getD (x4).toNat .bad).cells.getD 7 .bad)).toNums) (((((x0).getD (x4).toNat .bad).cells.getD 8 .bad)).isNil) (((((x0).getD (x4).toNat .bad).cells.getD 8 .bad)).toNums) (((((x0).getD (x4).toNat .bad).cells.getD 9 .bad)).isNil) (((((x0).getD (x4).toNat .bad).cells.getD 9 .bad)).toList)).bind fun t0 => cond (decide ((0 : Int) ≤ x4)) (cond (decide (x4 < ((x3).length : Int))) (j0 x0z x0 ((x3).set (x4).toNat (.agg [(.int .i64 t0.1), (.int .i64 t0.2.1), (.int .i64 t0.2.2.1), (.nums 5 .u8 t0.2.2.2.1 t0.2.2.2.2.1), (.nums 5 .u8 t0.2.2.2.2.2.1 t0.2.2.2.2.2.2.1), (.int .i64 t0.2.2.2.2.2.2.2.1), (.int .i64 t0.2.2.2.2.2.2.2.2.1), (.nums 5 .u8 t0.2.2.2.2.2.2.2.2.2.1 t0.2.2.2.2.2.2.2.2.2.2.1), (.nums 5 .u8 t0.2.2.2.2.2.2.2.2.2.2.2.1 t0.2.2.2.2.2.2.2.2.2.2.2.2.1), (.sl 28 t0.2.2.2.2.2.2.2.2.2.2.2.2.2.1 t0.2.2.2.2.2.2.2.2.2.2.2.2.2.2)])) (RowKit.wrap64 (x4 + 1))) (none)) (none)) (none)) (none)) (ret (false, x3))
def laws_toHeadS.l0 : Nat → Bool → (List T) → (List T) → Int → Option (Bool × List T)
  | 0, _, _, _, _ => none
  | k + 1, x0z, x0, x3, x4 => laws_toHeadS.l0b some (laws_toHeadS.l0 k) k x0z x0 x3 x4
def laws_toHeadS.f : Nat → Bool → (List T) → Option (Bool × List T)
  | 0, _, _ => none
  | k + 1, a0z, a0 => laws_toHeadS.b some (laws_toHeadS.l0 k) k a0z a0
def laws_toHeadS.enc (r : Bool × List T) : Res := ⟨[.vals false [((.sl 54 r.1 r.2), true)]], []⟩
def laws_toHeadS.ans (k : Nat) : List Arg → Ans
  | [.v (.sl 49 a0z a0)] => ⟨laws_toHeadS.f k a0z a0, laws_toHeadS.enc⟩
  | _ => Ans.no
def laws_toHeadS.Cs (k : Nat) : CallSem := tab [(28, laws_toHead.ans k)]
def laws_toHeadS.cuts : List (Nat × Keep) := [(58, ⟨[(0, some []), (3, none), (4, some [])], []⟩)]
noncomputable def laws_toHeadS.K0 : List Fr := framesAt [true, true, false, true, false] (bodyOf Tryd.f87 laws_toHeadS.cuts) []
def laws_toHeadS.N0 (x0z : Bool) (x0 : List T) (x3 : List T) (x4 : Int) : St := stOf 23 23 1 [(0, .val ⟨(.sl 49 x0z x0), [], false, none⟩), (3, .val ⟨(.sl 54 false x3), [.l 3 0], true, some (.l 3 0)⟩), (4, .val (V.s (.int .i64 x4)))] []
theorem laws_toHeadS.s (k : Nat) (a0z : Bool) (a0 : List T) : answer Tryd.prog laws_toHeadS.Cs 100000 laws_toHeadS.cuts [] Tryd.f87 (k + 1) [.v (.sl 49 a0z a0)] = laws_toHeadS.b (fun r => some (laws_toHeadS.enc r)) (fun x0z x0 x3 x4 => rounds Tryd.prog laws_toHeadS.Cs (finish Tryd.prog [] Tryd.f87 [.v (.sl 49 a0z a0)]) 100000 k laws_toHeadS.K0 (laws_toHeadS.N0 x0z x0 x3 x4)) k a0z a0 := by kernel_rfl
theorem laws_toHeadS.s0 (k : Nat) (G : List Fr → St → Option Res) (a0z : Bool) (a0 : List T) (yx0z : Bool) (yx0 : List T) (yx3 : List T) (yx4 : Int) : resume Tryd.prog (laws_toHeadS.Cs k) G (finish Tryd.prog [] Tryd.f87 [.v (.sl 49 a0z a0)]) 100000 laws_toHeadS.K0 (laws_toHeadS.N0 yx0z yx0 yx3 yx4) = laws_toHeadS.l0b (fun r => some (laws_toHeadS.enc r)) (fun x0z x0 x3 x4 => G laws_toHeadS.K0 (laws_toHeadS.N0 x0z x0 x3 x4)) k yx0z yx0 yx3 yx4 := by kernel_rfl
theorem laws_toHeadS.b_nat {R R' : Type} (e : R → R') (ret : Bool × List T → Option R) (j0 : Bool → (List T) → (List T) → Int → Option R) (k : Nat) (a0z : Bool) (a0 : List T) : laws_toHeadS.b (fun r => (ret r).map e) (fun x0z x0 x3 x4 => (j0 x0z x0 x3 x4).map e) k a0z a0 = (laws_toHeadS.b ret j0 k a0z a0).map e := by
  unfold laws_toHeadS.b
  repeat' first | with_reducible refine nat_cond ?_ ?_ | with_reducible refine nat_bind fun _ => ?_ | rfl
theorem laws_toHeadS.l0b_nat {R R' : Type} (e : R → R') (ret : Bool × List T → Option R) (j0 : Bool → (List T) → (List T) → Int → Option R) (k : Nat) (x0z : Bool) (x0 : List T) (x3 : List T) (x4 : Int) : laws_toHeadS.l0b (fun r => (ret r).map e) (fun x0z x0 x3 x4 => (j0 x0z x0 x3 x4).map e) k x0z x0 x3 x4 = (laws_toHeadS.l0b ret j0 k x0z x0 x3 x4).map e := by
  unfold laws_toHeadS.l0b
  repeat' first | with_reducible refine nat_cond ?_ ?_ | with_reducible refine nat_bind fun _ => ?_ | rfl
theorem laws_toHeadS.rounds_eq (a0z : Bool) (a0 : List T) : ∀ k, (∀ (x0z : Bool) (x0 : List T) (x3 : List T) (x4 : Int), rounds Tryd.prog laws_toHeadS.Cs (finish Tryd.prog [] Tryd.f87 [.v (.sl 49 a0z a0)]) 100000 k laws_toHeadS.K0 (laws_toHeadS.N0 x0z x0 x3 x4) = (laws_toHeadS.l0 k x0z x0 x3 x4).map laws_toHeadS.enc)
  | 0 => fun _ _ _ _ => rfl
  | k + 1 => by
    have ih := laws_toHeadS.rounds_eq a0z a0 k
    refine fun _ _ _ _ => ?_
    · refine (laws_toHeadS.s0 k _ a0z a0 _ _ _ _).trans (Eq.trans ?_ (laws_toHeadS.l0b_nat laws_toHeadS.enc some (laws_toHeadS.l0 k) k _ _ _ _))
      simp only [ih, Option.map_some]
theorem laws_toHeadS.eq (k : Nat) (a0z : Bool) (a0 : List T) : answer Tryd.prog laws_toHeadS.Cs 100000 laws_toHeadS.cuts [] Tryd.f87 (k + 1) [.v (.sl 49 a0z a0)] = (laws_toHeadS.f (k + 1) a0z a0).map laws_toHeadS.enc := by
  have ih := laws_toHeadS.rounds_eq a0z a0 k
  refine (laws_toHeadS.s k a0z a0).trans (Eq.trans ?_ (laws_toHeadS.b_nat laws_toHeadS.enc some (laws_toHeadS.l0 k) k a0z a0))
  simp only [ih, Option.map_some]
theorem laws_toHeadS.sound (k : Nat) : SoundF Tryd.prog 87 (fun a => (laws_toHeadS.ans k a).val) := by
  refine sound_plain (fun args res h => ?_) (fun t n => rfl)
  unfold laws_toHeadS.ans at h
  dsimp only at h
  split at h
  · cases k with
    | zero => cases h
    | succ k =>
      unfold Ans.val at h
      rw [← laws_toHeadS.eq] at h
      exact answer_sound mixed Tryd.func87 _ _ _ (k + 1) (fun j _ => tab_sound (tab_cons (laws_toHead.sound j) (tab_nil))) _ _ h
  · exact (Ans.no_val h).elim

/-! loop.example/g00790/laws.toProof -/
def laws_toProof.b {R : Type} (ret : Bool × (List T) × Int × Int × Bool × (List Int) × Bool × (List Int) × Bool × List T → Option R) (k : Nat) (a0_0z : Bool) (a0_0 : List T) (a0_1 : Int) (a0_2 : Int) (a0_3z : Bool) (a0_3 : List Int) (a0_4z : Bool) (a0_4 : List Int) (a0_5z : Bool) (a0_5 : List T) : Option R :=
  (laws_toHeadS.f k a0_0z a0_0).bind fun t0 => (laws_toQc.f k a0_1 a0_2 a0_3z a0_3 a0_4z a0_4 a0_5z a0_5).bind fun t1 => ret (t0.1, t0.2, t1.1, t1.2.1, t1.2.2.1, t1.2.2.2.1, t1.2.2.2.2.1, t1.2.2.2.2.2.1, t1.2.2.2.2.2.2.1, t1.2.2.2.2.2.2.2)
def laws_toProof.f : Nat → Bool → (List T) → Int → Int → Bool → (List Int) → Bool → (List Int) → Bool → (List T) → Option (Bool × (List T) × Int × Int × Bool × (List Int) × Bool × (List Int) × Bool × List T)
  | 0, _, _, _, _, _, _, _, _, _, _ => none
  | k + 1, a0_0z, a0_0, a0_1, a0_2, a0_3z, a0_3, a0_4z, a0_4, a0_5z, a0_5 => laws_toProof.b some k a0_0z a0_0 a0_1 a0_2 a0_3z a0_3 a0_4z a0_4 a0_5z a0_5
def laws_toProof.enc (r : Bool × (List T) × Int × Int × Bool × (List Int) × Bool × (List Int) × Bool × List T) : Res := ⟨[.vals true [((.sl 54 r.1 r.2.1), true), ((.int .i64 r.2.2.1), true), ((.int .i64 r.2.2.2.1), true), ((.nums 5 .u8 r.2.2.2.2.1 r.2.2.2.2.2.1), true), ((.nums 5 .u8 r.2.2.2.2.2.2.1 r.2.2.2.2.2.2.2.1), true), ((.sl 28 r.2.2.2.2.2.2.2.2.1 r.2.2.2.2.2.2.2.2.2), true)]], []⟩
def laws_toProof.ans (k : Nat) : List Arg → Ans
  | [.v (.agg [(.sl 49 a0_0z a0_0), (.int .i64 a0_1), (.int .i64 a0_2), (.nums 5 .u8 a0_3z a0_3), (.nums 5 .u8 a0_4z a0_4), (.sl 28 a0_5z a0_5)])] => ⟨laws_toProof.f k a0_0z a0_0 a0_1 a0_2 a0_3z a0_3 a0_4z a0_4 a0_5z a0_5, laws_toProof.enc⟩
  | _ => Ans.no
def laws_toProof.Cs (k : Nat) : CallSem := tab [(87, laws_toHeadS.ans k), (53, laws_toQc.ans k)]
def laws_toProof.cuts : List (Nat × Keep) := []
theorem laws_toProof.s (k : Nat) (a0_0z : Bool) (a0_0 : List T) (a0_1 : Int) (a0_2 : Int) (a0_3z : Bool) (a0_3 : List Int) (a0_4z : Bool) (a0_4 : List Int) (a0_5z : Bool) (a0_5 : List T) : answer Tryd.prog laws_toProof.Cs 100000 laws_toProof.cuts [] Tryd.f43 (k + 1) [.v (.agg [(.sl 49 a0_0z a0_0), (.int .i64 a0_1), (.int .i64 a0_2), (.nums 5 .u8 a0_3z a0_3), (.nums 5 .u8 a0_4z a0_4), (.sl 28 a0_5z a0_5)])] = laws_toProof.b (fun r => some (laws_toProof.enc r)) k a0_0z a0_0 a0_1 a0_2 a0_3z a0_3 a0_4z a0_4 a0_5z a0_5 := by kernel_rfl
theorem laws_toProof.b_nat {R R' : Type} (e : R → R') (ret : Bool × (List T) × Int × Int × Bool × (List Int) × Bool × (List Int) × Bool × List T → Option R) (k : Nat) (a0_0z : Bool) (a0_0 : List T) (a0_1 : Int) (a0_2 : Int) (a0_3z : Bool) (a0_3 : List Int) (a0_4z : Bool) (a0_4 : List Int) (a0_5z : Bool) (a0_5 : List T) : laws_toProof.b (fun r => (ret r).map e) k a0_0z a0_0 a0_1 a0_2 a0_3z a0_3 a0_4z a0_4 a0_5z a0_5 = (laws_toProof.b ret k a0_0z a0_0 a0_1 a0_2 a0_3z a0_3 a0_4z a0_4 a0_5z a0_5).map e := by
  unfold laws_toProof.b
  repeat' first | with_reducible refine nat_cond ?_ ?_ | with_reducible refine nat_bind fun _ => ?_ | rfl
theorem laws_toProof.eq (k : Nat) (a0_0z : Bool) (a0_0 : List T) (a0_1 : Int) (a0_2 : Int) (a0_3z : Bool) (a0_3 : List Int) (a0_4z : Bool) (a0_4 : List Int) (a0_5z : Bool) (a0_5 : List T) : answer Tryd.prog laws_toProof.Cs 100000 laws_toProof.cuts [] Tryd.f43 (k + 1) [.v (.agg [(.sl 49 a0_0z a0_0), (.int .i64 a0_1), (.int .i64 a0_2), (.nums 5 .u8 a0_3z a0_3), (.nums 5 .u8 a0_4z a0_4), (.sl 28 a0_5z a0_5)])] = (laws_toProof.f (k + 1) a0_0z a0_0 a0_1 a0_2 a0_3z a0_3 a0_4z a0_4 a0_5z a0_5).map laws_toProof.enc := by
  refine (laws_toProof.s k a0_0z a0_0 a0_1 a0_2 a0_3z a0_3 a0_4z a0_4 a0_5z a0_5).trans (Eq.trans ?_ (laws_toProof.b_nat laws_toProof.enc some k a0_0z a0_0 a0_1 a0_2 a0_3z a0_3 a0_4z a0_4 a0_5z a0_5))
  simp only [Option.map_some]
theorem laws_toProof.sound (k : Nat) : SoundF Tryd.prog 43 (fun a => (laws_toProof.ans k a).val) := by
  refine sound_plain (fun args res h => ?_) (fun t n => rfl)
  unfold laws_toProof.ans at h
  dsimp only at h
  split at h
  · cases k with
    | zero => cases h
    | succ k =>
      unfold Ans.val at h
      rw [← laws_toProof.eq] at h
      exact answer_sound mixed Tryd.func43 _ _ _ (k + 1) (fun j _ => tab_sound (tab_cons (laws_toHeadS.sound j) (tab_cons (laws_toQc.sound j) (tab_nil)))) _ _ h
  · exact (Ans.no_val h).elim

/-! loop.example/g00790/spec.l01In -/
def spec_l01In.b {R : Type} (ret : Bool → Option R) (k : Nat) (a0 : Int) (a1 : Int) (a2 : Int) : Option R :=
  cond (decide (a0 ≥ a1)) (ret (decide (a0 ≤ a2))) (ret false)
def spec_l01In.f : Nat → Int → Int → Int → Option Bool
  | 0, _, _, _ => none
  | k + 1, a0, a1, a2 => spec_l01In.b some k a0 a1 a2
def spec_l01In.enc (r : Bool) : Res := ⟨[.vals false [((.bool r), true)]], []⟩
def spec_l01In.ans (k : Nat) : List Arg → Ans
  | [.v (.int .i64 a0), .v (.int .i64 a1), .v (.int .i64 a2)] => ⟨spec_l01In.f k a0 a1 a2, spec_l01In.enc⟩
  | _ => Ans.no
def spec_l01In.Cs (k : Nat) : CallSem := tab []
def spec_l01In.cuts : List (Nat × Keep) := []
theorem spec_l01In.s (k : Nat) (a0 : Int) (a1 : Int) (a2 : Int) : answer Tryd.prog spec_l01In.Cs 100000 spec_l01In.cuts [] Tryd.f107 (k + 1) [.v (.int .i64 a0), .v (.int .i64 a1), .v (.int .i64 a2)] = spec_l01In.b (fun r => some (spec_l01In.enc r)) k a0 a1 a2 := by kernel_rfl
theorem spec_l01In.b_nat {R R' : Type} (e : R → R') (ret : Bool → Option R) (k : Nat) (a0 : Int) (a1 : Int) (a2 : Int) : spec_l01In.b (fun r => (ret r).map e) k a0 a1 a2 = (spec_l01In.b ret k a0 a1 a2).map e := by
  unfold spec_l01In.b
  repeat' first | with_reducible refine nat_cond ?_ ?_ | with_reducible refine nat_bind fun _ => ?_ | rfl
theorem spec_l01In.eq (k : Nat) (a0 : Int) (a1 : Int) (a2 : Int) : answer Tryd.prog spec_l01In.Cs 100000 spec_l01In.cuts [] Tryd.f107 (k + 1) [.v (.int .i64 a0), .v (.int .i64 a1), .v (.int .i64 a2)] = (spec_l01In.f (k + 1) a0 a1 a2).map spec_l01In.enc := by
  refine (spec_l01In.s k a0 a1 a2).trans (Eq.trans ?_ (spec_l01In.b_nat spec_l01In.enc some k a0 a1 a2))
  simp only [Option.map_some]
theorem spec_l01In.sound (k : Nat) : SoundF Tryd.prog 107 (fun a => (spec_l01In.ans k a).val) := by
  refine sound_plain (fun args res h => ?_) (fun t n => rfl)
  unfold spec_l01In.ans at h
  dsimp only at h
  split at h
  · cases k with
    | zero => cases h
    | succ k =>
      unfold Ans.val at h
      rw [← spec_l01In.eq] at h
      exact answer_sound mixed Tryd.func107 _ _ _ (k + 1) (fun j _ => tab_sound (tab_nil)) _ _ h
  · exact (Ans.no_val h).elim

/-! loop.example/g00790/spec.l01Num -/
def spec_l01Num.b {R : Type} (ret : Bool → Option R) (k : Nat) (a0 : Int) : Option R :=
  (spec_l01In.f k a0 0 1152921504606846975).bind fun t0 => ret t0
def spec_l01Num.f : Nat → Int → Option Bool
  | 0, _ => none
  | k + 1, a0 => spec_l01Num.b some k a0
def spec_l01Num.enc (r : Bool) : Res := ⟨[.vals false [((.bool r), true)]], []⟩
def spec_l01Num.ans (k : Nat) : List Arg → Ans
  | [.v (.int .i64 a0)] => ⟨spec_l01Num.f k a0, spec_l01Num.enc⟩
  | _ => Ans.no
def spec_l01Num.Cs (k : Nat) : CallSem := tab [(107, spec_l01In.ans k)]
def spec_l01Num.cuts : List (Nat × Keep) := []
theorem spec_l01Num.s (k : Nat) (a0 : Int) : answer Tryd.prog spec_l01Num.Cs 100000 spec_l01Num.cuts [] Tryd.f106 (k + 1) [.v (.int .i64 a0)] = spec_l01Num.b (fun r => some (spec_l01Num.enc r)) k a0 := by kernel_rfl
theorem spec_l01Num.b_nat {R R' : Type} (e : R → R') (ret : Bool → Option R) (k : Nat) (a0 : Int) : spec_l01Num.b (fun r => (ret r).map e) k a0 = (spec_l01Num.b ret k a0).map e := by
  unfold spec_l01Num.b
  repeat' first | with_reducible refine nat_cond ?_ ?_ | with_reducible refine nat_bind fun _ => ?_ | rfl
theorem spec_l01Num.eq (k : Nat) (a0 : Int) : answer Tryd.prog spec_l01Num.Cs 100000 spec_l01Num.cuts [] Tryd.f106 (k + 1) [.v (.int .i64 a0)] = (spec_l01Num.f (k + 1) a0).map spec_l01Num.enc := by
  refine (spec_l01Num.s k a0).trans (Eq.trans ?_ (spec_l01Num.b_nat spec_l01Num.enc some k a0))
  simp only [Option.map_some]
theorem spec_l01Num.sound (k : Nat) : SoundF Tryd.prog 106 (fun a => (spec_l01Num.ans k a).val) := by
  refine sound_plain (fun args res h => ?_) (fun t n => rfl)
  unfold spec_l01Num.ans at h
  dsimp only at h
  split at h
  · cases k with
    | zero => cases h
    | succ k =>
      unfold Ans.val at h
      rw [← spec_l01Num.eq] at h
      exact answer_sound mixed Tryd.func106 _ _ _ (k + 1) (fun j _ => tab_sound (tab_cons (spec_l01In.sound j) (tab_nil))) _ _ h
  · exact (Ans.no_val h).elim

/-! loop.example/g00790/spec.NumText -/
def spec_NumText.b {R : Type} (ret : ByteArray → Option R) (j0 : Int → ByteArray → Option R) (k : Nat) (a0 : Int) : Option R :=
  (spec_l01Num.f k a0).bind fun t0 => cond (!t0) (ret (⟨#[]⟩ : ByteArray)) (j0 a0 (⟨#[]⟩ : ByteArray))
def spec_NumText.l0b {R : Type} (ret : ByteArray → Option R) (j0 : Int → ByteArray → Option R) (k : Nat) (x0 : Int) (x3 : ByteArray) : Option R :=
  cond (decide (x0 > 9)) (cond (decide (((strOf ([(((RowKit.wrap64 ((48 : Int) + (Int.tmod x0 10)))) % 256)] : List Int))).size + (x3).size ≤ 140737488355328)) (j0 (RowKit.wrap64 (Int.tdiv x0 10)) ((strOf ([(((RowKit.wrap64 ((48 : Int) + (Int.tmod x0 10)))) % 256)] : List Int)) ++ x3)) (none)) (cond (decide (((strOf ([(((RowKit.wrap64 ((48 : Int) + x0))) % 256)] : List Int))).size + (x3).size ≤ 140737488355328)) (ret ((strOf ([(((RowKit.wrap64 ((48 : Int) + x0))) % 256)] : List Int)) ++ x3)) (none))
def spec_NumText.l0 : Nat → Int → ByteArray → Option ByteArray
  | 0, _, _ => none
  | k + 1, x0, x3 => spec_NumText.l0b some (spec_NumText.l0 k) k x0 x3
def spec_NumText.f : Nat → Int → Option ByteArray
  | 0, _ => none
  | k + 1, a0 => spec_NumText.b some (spec_NumText.l0 k) k a0
def spec_NumText.enc (r : ByteArray) : Res := ⟨[.vals false [((.str r), true)]], []⟩
def spec_NumText.ans (k : Nat) : List Arg → Ans
  | [.v (.int .i64 a0)] => ⟨spec_NumText.f k a0, spec_NumText.enc⟩
  | _ => Ans.no
def spec_NumText.Cs (k : Nat) : CallSem := tab [(106, spec_l01Num.ans k)]
def spec_NumText.cuts : List (Nat × Keep) := [(60, ⟨[(0, some []), (3, some [])], []⟩)]
noncomputable def spec_NumText.K0 : List Fr := framesAt [true, true, true, false, false] (bodyOf Tryd.f63 spec_NumText.cuts) []
def spec_NumText.N0 (x0 : Int) (x3 : ByteArray) : St := stOf 26 26 1 [(0, .val (V.s (.int .i64 x0))), (3, .val (V.s (.str x3)))] []
theorem spec_NumText.s (k : Nat) (a0 : Int) : answer Tryd.prog spec_NumText.Cs 100000 spec_NumText.cuts [] Tryd.f63 (k + 1) [.v (.int .i64 a0)] = spec_NumText.b (fun r => some (spec_NumText.enc r)) (fun x0 x3 => rounds Tryd.prog spec_NumText.Cs (finish Tryd.prog [] Tryd.f63 [.v (.int .i64 a0)]) 100000 k spec_NumText.K0 (spec_NumText.N0 x0 x3)) k a0 := by kernel_rfl
theorem spec_NumText.s0 (k : Nat) (G : List Fr → St → Option Res) (a0 : Int) (yx0 : Int) (yx3 : ByteArray) : resume Tryd.prog (spec_NumText.Cs k) G (finish Tryd.prog [] Tryd.f63 [.v (.int .i64 a0)]) 100000 spec_NumText.K0 (spec_NumText.N0 yx0 yx3) = spec_NumText.l0b (fun r => some (spec_NumText.enc r)) (fun x0 x3 => G spec_NumText.K0 (spec_NumText.N0 x0 x3)) k yx0 yx3 := by kernel_rfl
theorem spec_NumText.b_nat {R R' : Type} (e : R → R') (ret : ByteArray → Option R) (j0 : Int → ByteArray → Option R) (k : Nat) (a0 : Int) : spec_NumText.b (fun r => (ret r).map e) (fun x0 x3 => (j0 x0 x3).map e) k a0 = (spec_NumText.b ret j0 k a0).map e := by
  unfold spec_NumText.b
  repeat' first | with_reducible refine nat_cond ?_ ?_ | with_reducible refine nat_bind fun _ => ?_ | rfl
theorem spec_NumText.l0b_nat {R R' : Type} (e : R → R') (ret : ByteArray → Option R) (j0 : Int → ByteArray → Option R) (k : Nat) (x0 : Int) (x3 : ByteArray) : spec_NumText.l0b (fun r => (ret r).map e) (fun x0 x3 => (j0 x0 x3).map e) k x0 x3 = (spec_NumText.l0b ret j0 k x0 x3).map e := by
  unfold spec_NumText.l0b
  repeat' first | with_reducible refine nat_cond ?_ ?_ | with_reducible refine nat_bind fun _ => ?_ | rfl
theorem spec_NumText.rounds_eq (a0 : Int) : ∀ k, (∀ (x0 : Int) (x3 : ByteArray), rounds Tryd.prog spec_NumText.Cs (finish Tryd.prog [] Tryd.f63 [.v (.int .i64 a0)]) 100000 k spec_NumText.K0 (spec_NumText.N0 x0 x3) = (spec_NumText.l0 k x0 x3).map spec_NumText.enc)
  | 0 => fun _ _ => rfl
  | k + 1 => by
    have ih := spec_NumText.rounds_eq a0 k
    refine fun _ _ => ?_
    · refine (spec_NumText.s0 k _ a0 _ _).trans (Eq.trans ?_ (spec_NumText.l0b_nat spec_NumText.enc some (spec_NumText.l0 k) k _ _))
      simp only [ih, Option.map_some]
theorem spec_NumText.eq (k : Nat) (a0 : Int) : answer Tryd.prog spec_NumText.Cs 100000 spec_NumText.cuts [] Tryd.f63 (k + 1) [.v (.int .i64 a0)] = (spec_NumText.f (k + 1) a0).map spec_NumText.enc := by
  have ih := spec_NumText.rounds_eq a0 k
  refine (spec_NumText.s k a0).trans (Eq.trans ?_ (spec_NumText.b_nat spec_NumText.enc some (spec_NumText.l0 k) k a0))
  simp only [ih, Option.map_some]
theorem spec_NumText.sound (k : Nat) : SoundF Tryd.prog 63 (fun a => (spec_NumText.ans k a).val) := by
  refine sound_plain (fun args res h => ?_) (fun t n => rfl)
  unfold spec_NumText.ans at h
  dsimp only at h
  split at h
  · cases k with
    | zero => cases h
    | succ k =>
      unfold Ans.val at h
      rw [← spec_NumText.eq] at h
      exact answer_sound mixed Tryd.func63 _ _ _ (k + 1) (fun j _ => tab_sound (tab_cons (spec_l01Num.sound j) (tab_nil))) _ _ h
  · exact (Ans.no_val h).elim

/-! loop.example/g00790/spec.ProofText -/
def spec_ProofText.b {R : Type} (ret : ByteArray → Option R) (j0 : ByteArray → Bool → (List T) → Int → Int → Option R) (k : Nat) (a0_0z : Bool) (a0_0 : List T) (a0_1 : Int) (a0_2 : Int) (a0_3z : Bool) (a0_3 : List Int) (a0_4z : Bool) (a0_4 : List Int) (a0_5z : Bool) (a0_5 : List T) : Option R :=
  j0 (⟨#[112, 114, 111, 111, 102]⟩ : ByteArray) a0_0z a0_0 ((a0_0).length : Int) 0
def spec_ProofText.l0b {R : Type} (ret : ByteArray → Option R) (j0 : ByteArray → Bool → (List T) → Int → Int → Option R) (k : Nat) (x3 : ByteArray) (x7z : Bool) (x7 : List T) (x8 : Int) (x9 : Int) : Option R :=
  cond (decide (x9 < x8)) (cond (decide ((0 : Int) ≤ x9)) (cond (decide (x9 < ((x7).length : Int))) (cond (decide ((x3).size + ((⟨#[32]⟩ : ByteArray)).size ≤ 140737488355328)) ((spec_NumText.f k (((((x7).getD (x9).toNat .bad).cells.getD 0 .bad)).toInt)).bind fun t0 => cond (decide (((x3 ++ (⟨#[32]⟩ : ByteArray))).size + (t0).size ≤ 140737488355328)) (cond (decide ((((x3 ++ (⟨#[32]⟩ : ByteArray)) ++ t0)).size + ((⟨#[47]⟩ : ByteArray)).size ≤ 140737488355328)) ((spec_NumText.f k (((((x7).getD (x9).toNat .bad).cells.getD 1 .bad)).toInt)).bind fun t1 => cond (decide (((((x3 ++ (⟨#[32]⟩ : ByteArray)) ++ t0) ++ (⟨#[47]⟩ : ByteArray))).size + (t1).size ≤ 140737488355328)) (j0 ((((x3 ++ (⟨#[32]⟩ : ByteArray)) ++ t0) ++ (⟨#[47]⟩ : ByteArray)) ++ t1) x7z x7 x8 (RowKit.wrap64 (x9 + 1))) (none)) (none)) (none)) (none)) (none)) (none)) (ret x3)
def spec_ProofText.l0 : Nat → ByteArray → Bool → (List T) → Int → Int → Option ByteArray
  | 0, _, _, _, _, _ => none
  | k + 1, x3, x7z, x7, x8, x9 => spec_ProofText.l0b some (spec_ProofText.l0 k) k x3 x7z x7 x8 x9
def spec_ProofText.f : Nat → Bool → (List T) → Int → Int → Bool → (List Int) → Bool → (List Int) → Bool → (List T) → Option ByteArray
  | 0, _, _, _, _, _, _, _, _, _, _ => none
  | k + 1, a0_0z, a0_0, a0_1, a0_2, a0_3z, a0_3, a0_4z, a0_4, a0_5z, a0_5 => spec_ProofText.b some (spec_ProofText.l0 k) k a0_0z a0_0 a0_1 a0_2 a0_3z a0_3 a0_4z a0_4 a0_5z a0_5
def spec_ProofText.enc (r : ByteArray) : Res := ⟨[.vals false [((.str r), true)]], []⟩
def spec_ProofText.ans (k : Nat) : List Arg → Ans
  | [.v (.agg [(.sl 54 a0_0z a0_0), (.int .i64 a0_1), (.int .i64 a0_2), (.nums 5 .u8 a0_3z a0_3), (.nums 5 .u8 a0_4z a0_4), (.sl 28 a0_5z a0_5)])] => ⟨spec_ProofText.f k a0_0z a0_0 a0_1 a0_2 a0_3z a0_3 a0_4z a0_4 a0_5z a0_5, spec_ProofText.enc⟩
  | _ => Ans.no
def spec_ProofText.Cs (k : Nat) : CallSem := tab [(63, spec_NumText.ans k)]
def spec_ProofText.cuts : List (Nat × Keep) := [(58, ⟨[(3, some []), (7, some []), (8, some []), (9, some [])], []⟩)]
noncomputable def spec_ProofText.K0 : List Fr := framesAt [true, true, false, true, false] (bodyOf Tryd.f42 spec_ProofText.cuts) []
def spec_ProofText.N0 (x3 : ByteArray) (x7z : Bool) (x7 : List T) (x8 : Int) (x9 : Int) : St := stOf 26 26 1 [(3, .val (V.s (.str x3))), (7, .val ⟨(.sl 54 x7z x7), [], false, none⟩), (8, .val (V.s (.int .i64 x8))), (9, .val (V.s (.int .i64 x9)))] []
theorem spec_ProofText.s (k : Nat) (a0_0z : Bool) (a0_0 : List T) (a0_1 : Int) (a0_2 : Int) (a0_3z : Bool) (a0_3 : List Int) (a0_4z : Bool) (a0_4 : List Int) (a0_5z : Bool) (a0_5 : List T) : answer Tryd.prog spec_ProofText.Cs 100000 spec_ProofText.cuts [] Tryd.f42 (k + 1) [.v (.agg [(.sl 54 a0_0z a0_0), (.int .i64 a0_1), (.int .i64 a0_2), (.nums 5 .u8 a0_3z a0_3), (.nums 5 .u8 a0_4z a0_4), (.sl 28 a0_5z a0_5)])] = spec_ProofText.b (fun r => some (spec_ProofText.enc r)) (fun x3 x7z x7 x8 x9 => rounds Tryd.prog spec_ProofText.Cs (finish Tryd.prog [] Tryd.f42 [.v (.agg [(.sl 54 a0_0z a0_0), (.int .i64 a0_1), (.int .i64 a0_2), (.nums 5 .u8 a0_3z a0_3), (.nums 5 .u8 a0_4z a0_4), (.sl 28 a0_5z a0_5)])]) 100000 k spec_ProofText.K0 (spec_ProofText.N0 x3 x7z x7 x8 x9)) k a0_0z a0_0 a0_1 a0_2 a0_3z a0_3 a0_4z a0_4 a0_5z a0_5 := by kernel_rfl
theorem spec_ProofText.s0 (k : Nat) (G : List Fr → St → Option Res) (a0_0z : Bool) (a0_0 : List T) (a0_1 : Int) (a0_2 : Int) (a0_3z : Bool) (a0_3 : List Int) (a0_4z : Bool) (a0_4 : List Int) (a0_5z : Bool) (a0_5 : List T) (yx3 : ByteArray) (yx7z : Bool) (yx7 : List T) (yx8 : Int) (yx9 : Int) : resume Tryd.prog (spec_ProofText.Cs k) G (finish Tryd.prog [] Tryd.f42 [.v (.agg [(.sl 54 a0_0z a0_0), (.int .i64 a0_1), (.int .i64 a0_2), (.nums 5 .u8 a0_3z a0_3), (.nums 5 .u8 a0_4z a0_4), (.sl 28 a0_5z a0_5)])]) 100000 spec_ProofText.K0 (spec_ProofText.N0 yx3 yx7z yx7 yx8 yx9) = spec_ProofText.l0b (fun r => some (spec_ProofText.enc r)) (fun x3 x7z x7 x8 x9 => G spec_ProofText.K0 (spec_ProofText.N0 x3 x7z x7 x8 x9)) k yx3 yx7z yx7 yx8 yx9 := by kernel_rfl
theorem spec_ProofText.b_nat {R R' : Type} (e : R → R') (ret : ByteArray → Option R) (j0 : ByteArray → Bool → (List T) → Int → Int → Option R) (k : Nat) (a0_0z : Bool) (a0_0 : List T) (a0_1 : Int) (a0_2 : Int) (a0_3z : Bool) (a0_3 : List Int) (a0_4z : Bool) (a0_4 : List Int) (a0_5z : Bool) (a0_5 : List T) : spec_ProofText.b (fun r => (ret r).map e) (fun x3 x7z x7 x8 x9 => (j0 x3 x7z x7 x8 x9).map e) k a0_0z a0_0 a0_1 a0_2 a0_3z a0_3 a0_4z a0_4 a0_5z a0_5 = (spec_ProofText.b ret j0 k a0_0z a0_0 a0_1 a0_2 a0_3z a0_3 a0_4z a0_4 a0_5z a0_5).map e := by
  unfold spec_ProofText.b
  repeat' first | with_reducible refine nat_cond ?_ ?_ | with_reducible refine nat_bind fun _ => ?_ | rfl
theorem spec_ProofText.l0b_nat {R R' : Type} (e : R → R') (ret : ByteArray → Option R) (j0 : ByteArray → Bool → (List T) → Int → Int → Option R) (k : Nat) (x3 : ByteArray) (x7z : Bool) (x7 : List T) (x8 : Int) (x9 : Int) : spec_ProofText.l0b (fun r => (ret r).map e) (fun x3 x7z x7 x8 x9 => (j0 x3 x7z x7 x8 x9).map e) k x3 x7z x7 x8 x9 = (spec_ProofText.l0b ret j0 k x3 x7z x7 x8 x9).map e := by
  unfold spec_ProofText.l0b
  repeat' first | with_reducible refine nat_cond ?_ ?_ | with_reducible refine nat_bind fun _ => ?_ | rfl
theorem spec_ProofText.rounds_eq (a0_0z : Bool) (a0_0 : List T) (a0_1 : Int) (a0_2 : Int) (a0_3z : Bool) (a0_3 : List Int) (a0_4z : Bool) (a0_4 : List Int) (a0_5z : Bool) (a0_5 : List T) : ∀ k, (∀ (x3 : ByteArray) (x7z : Bool) (x7 : List T) (x8 : Int) (x9 : Int), rounds Tryd.prog spec_ProofText.Cs (finish Tryd.prog [] Tryd.f42 [.v (.agg [(.sl 54 a0_0z a0_0), (.int .i64 a0_1), (.int .i64 a0_2), (.nums 5 .u8 a0_3z a0_3), (.nums 5 .u8 a0_4z a0_4), (.sl 28 a0_5z a0_5)])]) 100000 k spec_ProofText.K0 (spec_ProofText.N0 x3 x7z x7 x8 x9) = (spec_ProofText.l0 k x3 x7z x7 x8 x9).map spec_ProofText.enc)
  | 0 => fun _ _ _ _ _ => rfl
  | k + 1 => by
    have ih := spec_ProofText.rounds_eq a0_0z a0_0 a0_1 a0_2 a0_3z a0_3 a0_4z a0_4 a0_5z a0_5 k
    refine fun _ _ _ _ _ => ?_
    · refine (spec_ProofText.s0 k _ a0_0z a0_0 a0_1 a0_2 a0_3z a0_3 a0_4z a0_4 a0_5z a0_5 _ _ _ _ _).trans (Eq.trans ?_ (spec_ProofText.l0b_nat spec_ProofText.enc some (spec_ProofText.l0 k) k _ _ _ _ _))
      simp only [ih, Option.map_some]
theorem spec_ProofText.eq (k : Nat) (a0_0z : Bool) (a0_0 : List T) (a0_1 : Int) (a0_2 : Int) (a0_3z : Bool) (a0_3 : List Int) (a0_4z : Bool) (a0_4 : List Int) (a0_5z : Bool) (a0_5 : List T) : answer Tryd.prog spec_ProofText.Cs 100000 spec_ProofText.cuts [] Tryd.f42 (k + 1) [.v (.agg [(.sl 54 a0_0z a0_0), (.int .i64 a0_1), (.int .i64 a0_2), (.nums 5 .u8 a0_3z a0_3), (.nums 5 .u8 a0_4z a0_4), (.sl 28 a0_5z a0_5)])] = (spec_ProofText.f (k + 1) a0_0z a0_0 a0_1 a0_2 a0_3z a0_3 a0_4z a0_4 a0_5z a0_5).map spec_ProofText.enc := by
  have ih := spec_ProofText.rounds_eq a0_0z a0_0 a0_1 a0_2 a0_3z a0_3 a0_4z a0_4 a0_5z a0_5 k
  refine (spec_ProofText.s k a0_0z a0_0 a0_1 a0_2 a0_3z a0_3 a0_4z a0_4 a0_5z a0_5).trans (Eq.trans ?_ (spec_ProofText.b_nat spec_ProofText.enc some (spec_ProofText.l0 k) k a0_0z a0_0 a0_1 a0_2 a0_3z a0_3 a0_4z a0_4 a0_5z a0_5))
  simp only [ih, Option.map_some]
theorem spec_ProofText.sound (k : Nat) : SoundF Tryd.prog 42 (fun a => (spec_ProofText.ans k a).val) := by
  refine sound_plain (fun args res h => ?_) (fun t n => rfl)
  unfold spec_ProofText.ans at h
  dsimp only at h
  split at h
  · cases k with
    | zero => cases h
    | succ k =>
      unfold Ans.val at h
      rw [← spec_ProofText.eq] at h
      exact answer_sound mixed Tryd.func42 _ _ _ (k + 1) (fun j _ => tab_sound (tab_cons (spec_NumText.sound j) (tab_nil))) _ _ h
  · exact (Ans.no_val h).elim

/-! loop.example/g00790/impl.within -/
def impl_within.b {R : Type} (ret : Bool → Option R) (k : Nat) (a0 : Int) (a1 : Int) (a2 : Int) : Option R :=
  cond (decide (a1 ≤ a0)) (ret (decide (a0 ≤ a2))) (ret false)
def impl_within.f : Nat → Int → Int → Int → Option Bool
  | 0, _, _, _ => none
  | k + 1, a0, a1, a2 => impl_within.b some k a0 a1 a2
def impl_within.enc (r : Bool) : Res := ⟨[.vals false [((.bool r), true)]], []⟩
def impl_within.ans (k : Nat) : List Arg → Ans
  | [.v (.int .i64 a0), .v (.int .i64 a1), .v (.int .i64 a2)] => ⟨impl_within.f k a0 a1 a2, impl_within.enc⟩
  | _ => Ans.no
def impl_within.Cs (k : Nat) : CallSem := tab []
def impl_within.cuts : List (Nat × Keep) := []
theorem impl_within.s (k : Nat) (a0 : Int) (a1 : Int) (a2 : Int) : answer Tryd.prog impl_within.Cs 100000 impl_within.cuts [] Tryd.f105 (k + 1) [.v (.int .i64 a0), .v (.int .i64 a1), .v (.int .i64 a2)] = impl_within.b (fun r => some (impl_within.enc r)) k a0 a1 a2 := by kernel_rfl
theorem impl_within.b_nat {R R' : Type} (e : R → R') (ret : Bool → Option R) (k : Nat) (a0 : Int) (a1 : Int) (a2 : Int) : impl_within.b (fun r => (ret r).map e) k a0 a1 a2 = (impl_within.b ret k a0 a1 a2).map e := by
  unfold impl_within.b
  repeat' first | with_reducible refine nat_cond ?_ ?_ | with_reducible refine nat_bind fun _ => ?_ | rfl
theorem impl_within.eq (k : Nat) (a0 : Int) (a1 : Int) (a2 : Int) : answer Tryd.prog impl_within.Cs 100000 impl_within.cuts [] Tryd.f105 (k + 1) [.v (.int .i64 a0), .v (.int .i64 a1), .v (.int .i64 a2)] = (impl_within.f (k + 1) a0 a1 a2).map impl_within.enc := by
  refine (impl_within.s k a0 a1 a2).trans (Eq.trans ?_ (impl_within.b_nat impl_within.enc some k a0 a1 a2))
  simp only [Option.map_some]
theorem impl_within.sound (k : Nat) : SoundF Tryd.prog 105 (fun a => (impl_within.ans k a).val) := by
  refine sound_plain (fun args res h => ?_) (fun t n => rfl)
  unfold impl_within.ans at h
  dsimp only at h
  split at h
  · cases k with
    | zero => cases h
    | succ k =>
      unfold Ans.val at h
      rw [← impl_within.eq] at h
      exact answer_sound mixed Tryd.func105 _ _ _ (k + 1) (fun j _ => tab_sound (tab_nil)) _ _ h
  · exact (Ans.no_val h).elim

/-! loop.example/g00790/impl.isNum -/
def impl_isNum.b {R : Type} (ret : Bool → Option R) (k : Nat) (a0 : Int) : Option R :=
  (impl_within.f k a0 0 1152921504606846975).bind fun t0 => ret t0
def impl_isNum.f : Nat → Int → Option Bool
  | 0, _ => none
  | k + 1, a0 => impl_isNum.b some k a0
def impl_isNum.enc (r : Bool) : Res := ⟨[.vals false [((.bool r), true)]], []⟩
def impl_isNum.ans (k : Nat) : List Arg → Ans
  | [.v (.int .i64 a0)] => ⟨impl_isNum.f k a0, impl_isNum.enc⟩
  | _ => Ans.no
def impl_isNum.Cs (k : Nat) : CallSem := tab [(105, impl_within.ans k)]
def impl_isNum.cuts : List (Nat × Keep) := []
theorem impl_isNum.s (k : Nat) (a0 : Int) : answer Tryd.prog impl_isNum.Cs 100000 impl_isNum.cuts [] Tryd.f108 (k + 1) [.v (.int .i64 a0)] = impl_isNum.b (fun r => some (impl_isNum.enc r)) k a0 := by kernel_rfl
theorem impl_isNum.b_nat {R R' : Type} (e : R → R') (ret : Bool → Option R) (k : Nat) (a0 : Int) : impl_isNum.b (fun r => (ret r).map e) k a0 = (impl_isNum.b ret k a0).map e := by
  unfold impl_isNum.b
  repeat' first | with_reducible refine nat_cond ?_ ?_ | with_reducible refine nat_bind fun _ => ?_ | rfl
theorem impl_isNum.eq (k : Nat) (a0 : Int) : answer Tryd.prog impl_isNum.Cs 100000 impl_isNum.cuts [] Tryd.f108 (k + 1) [.v (.int .i64 a0)] = (impl_isNum.f (k + 1) a0).map impl_isNum.enc := by
  refine (impl_isNum.s k a0).trans (Eq.trans ?_ (impl_isNum.b_nat impl_isNum.enc some k a0))
  simp only [Option.map_some]
theorem impl_isNum.sound (k : Nat) : SoundF Tryd.prog 108 (fun a => (impl_isNum.ans k a).val) := by
  refine sound_plain (fun args res h => ?_) (fun t n => rfl)
  unfold impl_isNum.ans at h
  dsimp only at h
  split at h
  · cases k with
    | zero => cases h
    | succ k =>
      unfold Ans.val at h
      rw [← impl_isNum.eq] at h
      exact answer_sound mixed Tryd.func108 _ _ _ (k + 1) (fun j _ => tab_sound (tab_cons (impl_within.sound j) (tab_nil))) _ _ h
  · exact (Ans.no_val h).elim

/-! strconv_Itoa -/
def strconv_Itoa.f (k : Nat) (a0 : Int) : Option ByteArray := cond (inI a0) (some (itoaB a0)) none
def strconv_Itoa.enc (r : ByteArray) : Res := ⟨[.vals false [((.str r), true)]], []⟩
def strconv_Itoa.ans (k : Nat) : List Arg → Ans
  | [.v (.int .i64 a0)] => ⟨strconv_Itoa.f k a0, strconv_Itoa.enc⟩
  | _ => Ans.no
theorem strconv_Itoa.sound (k : Nat) : SoundF Tryd.prog 109 (fun a => (strconv_Itoa.ans k a).val) := by
  refine sound_ext (fun _ _ => rfl) fun args res h => ?_
  unfold strconv_Itoa.ans at h
  split at h
  · exact ext_itoa lay_Itoa h
  · exact (Ans.no_val h).elim

/-! loop.example/g00790/impl.NumText -/
def impl_NumText.b {R : Type} (ret : ByteArray → Option R) (k : Nat) (a0 : Int) : Option R :=
  (impl_isNum.f k a0).bind fun t0 => cond (!t0) (ret (⟨#[]⟩ : ByteArray)) ((strconv_Itoa.f k a0).bind fun t1 => ret t1)
def impl_NumText.f : Nat → Int → Option ByteArray
  | 0, _ => none
  | k + 1, a0 => impl_NumText.b some k a0
def impl_NumText.enc (r : ByteArray) : Res := ⟨[.vals false [((.str r), true)]], []⟩
def impl_NumText.ans (k : Nat) : List Arg → Ans
  | [.v (.int .i64 a0)] => ⟨impl_NumText.f k a0, impl_NumText.enc⟩
  | _ => Ans.no
def impl_NumText.Cs (k : Nat) : CallSem := tab [(108, impl_isNum.ans k), (109, strconv_Itoa.ans k)]
def impl_NumText.cuts : List (Nat × Keep) := []
theorem impl_NumText.s (k : Nat) (a0 : Int) : answer Tryd.prog impl_NumText.Cs 100000 impl_NumText.cuts [] Tryd.f66 (k + 1) [.v (.int .i64 a0)] = impl_NumText.b (fun r => some (impl_NumText.enc r)) k a0 := by kernel_rfl
theorem impl_NumText.b_nat {R R' : Type} (e : R → R') (ret : ByteArray → Option R) (k : Nat) (a0 : Int) : impl_NumText.b (fun r => (ret r).map e) k a0 = (impl_NumText.b ret k a0).map e := by
  unfold impl_NumText.b
  repeat' first | with_reducible refine nat_cond ?_ ?_ | with_reducible refine nat_bind fun _ => ?_ | rfl
theorem impl_NumText.eq (k : Nat) (a0 : Int) : answer Tryd.prog impl_NumText.Cs 100000 impl_NumText.cuts [] Tryd.f66 (k + 1) [.v (.int .i64 a0)] = (impl_NumText.f (k + 1) a0).map impl_NumText.enc := by
  refine (impl_NumText.s k a0).trans (Eq.trans ?_ (impl_NumText.b_nat impl_NumText.enc some k a0))
  simp only [Option.map_some]
theorem impl_NumText.sound (k : Nat) : SoundF Tryd.prog 66 (fun a => (impl_NumText.ans k a).val) := by
  refine sound_plain (fun args res h => ?_) (fun t n => rfl)
  unfold impl_NumText.ans at h
  dsimp only at h
  split at h
  · cases k with
    | zero => cases h
    | succ k =>
      unfold Ans.val at h
      rw [← impl_NumText.eq] at h
      exact answer_sound mixed Tryd.func66 _ _ _ (k + 1) (fun j _ => tab_sound (tab_cons (impl_isNum.sound j) (tab_cons (strconv_Itoa.sound j) (tab_nil)))) _ _ h
  · exact (Ans.no_val h).elim

/-! loop.example/g00790/impl.place -/
def impl_place.b {R : Type} (ret : ByteArray → Option R) (k : Nat) (a0 : Int) (a1 : Int) : Option R :=
  (impl_NumText.f k a0).bind fun t0 => cond (decide ((t0).size + ((⟨#[47]⟩ : ByteArray)).size ≤ 140737488355328)) ((impl_NumText.f k a1).bind fun t1 => cond (decide (((t0 ++ (⟨#[47]⟩ : ByteArray))).size + (t1).size ≤ 140737488355328)) (ret ((t0 ++ (⟨#[47]⟩ : ByteArray)) ++ t1)) (none)) (none)
def impl_place.f : Nat → Int → Int → Option ByteArray
  | 0, _, _ => none
  | k + 1, a0, a1 => impl_place.b some k a0 a1
def impl_place.enc (r : ByteArray) : Res := ⟨[.vals false [((.str r), true)]], []⟩
def impl_place.ans (k : Nat) : List Arg → Ans
  | [.v (.int .i64 a0), .v (.int .i64 a1)] => ⟨impl_place.f k a0 a1, impl_place.enc⟩
  | _ => Ans.no
def impl_place.Cs (k : Nat) : CallSem := tab [(66, impl_NumText.ans k)]
def impl_place.cuts : List (Nat × Keep) := []
theorem impl_place.s (k : Nat) (a0 : Int) (a1 : Int) : answer Tryd.prog impl_place.Cs 100000 impl_place.cuts [] Tryd.f72 (k + 1) [.v (.int .i64 a0), .v (.int .i64 a1)] = impl_place.b (fun r => some (impl_place.enc r)) k a0 a1 := by kernel_rfl
theorem impl_place.b_nat {R R' : Type} (e : R → R') (ret : ByteArray → Option R) (k : Nat) (a0 : Int) (a1 : Int) : impl_place.b (fun r => (ret r).map e) k a0 a1 = (impl_place.b ret k a0 a1).map e := by
  unfold impl_place.b
  repeat' first | with_reducible refine nat_cond ?_ ?_ | with_reducible refine nat_bind fun _ => ?_ | rfl
theorem impl_place.eq (k : Nat) (a0 : Int) (a1 : Int) : answer Tryd.prog impl_place.Cs 100000 impl_place.cuts [] Tryd.f72 (k + 1) [.v (.int .i64 a0), .v (.int .i64 a1)] = (impl_place.f (k + 1) a0 a1).map impl_place.enc := by
  refine (impl_place.s k a0 a1).trans (Eq.trans ?_ (impl_place.b_nat impl_place.enc some k a0 a1))
  simp only [Option.map_some]
theorem impl_place.sound (k : Nat) : SoundF Tryd.prog 72 (fun a => (impl_place.ans k a).val) := by
  refine sound_plain (fun args res h => ?_) (fun t n => rfl)
  unfold impl_place.ans at h
  dsimp only at h
  split at h
  · cases k with
    | zero => cases h
    | succ k =>
      unfold Ans.val at h
      rw [← impl_place.eq] at h
      exact answer_sound mixed Tryd.func72 _ _ _ (k + 1) (fun j _ => tab_sound (tab_cons (impl_NumText.sound j) (tab_nil))) _ _ h
  · exact (Ans.no_val h).elim

/-! loop.example/g00790/impl.ProofText -/
def impl_ProofText.b {R : Type} (ret : ByteArray → Option R) (j0 : ByteArray → Bool → (List T) → Int → Int → Option R) (k : Nat) (a0_0z : Bool) (a0_0 : List T) (a0_1 : Int) (a0_2 : Int) (a0_3z : Bool) (a0_3 : List Int) (a0_4z : Bool) (a0_4 : List Int) (a0_5z : Bool) (a0_5 : List T) : Option R :=
  j0 (⟨#[112, 114, 111, 111, 102]⟩ : ByteArray) a0_0z a0_0 ((a0_0).length : Int) 0
def impl_ProofText.l0b {R : Type} (ret : ByteArray → Option R) (j0 : ByteArray → Bool → (List T) → Int → Int → Option R) (k : Nat) (x3 : ByteArray) (x7z : Bool) (x7 : List T) (x8 : Int) (x9 : Int) : Option R :=
  cond (decide (x9 < x8)) (cond (decide ((0 : Int) ≤ x9)) (cond (decide (x9 < ((x7).length : Int))) ((impl_place.f k (((((x7).getD (x9).toNat .bad).cells.getD 0 .bad)).toInt) (((((x7).getD (x9).toNat .bad).cells.getD 1 .bad)).toInt)).bind fun t0 => cond (decide (((⟨#[32]⟩ : ByteArray)).size + (t0).size ≤ 140737488355328)) (cond (decide ((x3).size + (((⟨#[32]⟩ : ByteArray) ++ t0)).size ≤ 140737488355328)) (j0 (x3 ++ ((⟨#[32]⟩ : ByteArray) ++ t0)) x7z x7 x8 (RowKit.wrap64 (x9 + 1))) (none)) (none)) (none)) (none)) (ret x3)
def impl_ProofText.l0 : Nat → ByteArray → Bool → (List T) → Int → Int → Option ByteArray
  | 0, _, _, _, _, _ => none
  | k + 1, x3, x7z, x7, x8, x9 => impl_ProofText.l0b some (impl_ProofText.l0 k) k x3 x7z x7 x8 x9
def impl_ProofText.f : Nat → Bool → (List T) → Int → Int → Bool → (List Int) → Bool → (List Int) → Bool → (List T) → Option ByteArray
  | 0, _, _, _, _, _, _, _, _, _, _ => none
  | k + 1, a0_0z, a0_0, a0_1, a0_2, a0_3z, a0_3, a0_4z, a0_4, a0_5z, a0_5 => impl_ProofText.b some (impl_ProofText.l0 k) k a0_0z a0_0 a0_1 a0_2 a0_3z a0_3 a0_4z a0_4 a0_5z a0_5
def impl_ProofText.enc (r : ByteArray) : Res := ⟨[.vals false [((.str r), true)]], []⟩
def impl_ProofText.ans (k : Nat) : List Arg → Ans
  | [.v (.agg [(.sl 54 a0_0z a0_0), (.int .i64 a0_1), (.int .i64 a0_2), (.nums 5 .u8 a0_3z a0_3), (.nums 5 .u8 a0_4z a0_4), (.sl 28 a0_5z a0_5)])] => ⟨impl_ProofText.f k a0_0z a0_0 a0_1 a0_2 a0_3z a0_3 a0_4z a0_4 a0_5z a0_5, impl_ProofText.enc⟩
  | _ => Ans.no
def impl_ProofText.Cs (k : Nat) : CallSem := tab [(72, impl_place.ans k)]
def impl_ProofText.cuts : List (Nat × Keep) := [(58, ⟨[(3, some []), (7, some []), (8, some []), (9, some [])], []⟩)]
noncomputable def impl_ProofText.K0 : List Fr := framesAt [true, true, false, true, false] (bodyOf Tryd.f44 impl_ProofText.cuts) []
def impl_ProofText.N0 (x3 : ByteArray) (x7z : Bool) (x7 : List T) (x8 : Int) (x9 : Int) : St := stOf 23 23 1 [(3, .val (V.s (.str x3))), (7, .val ⟨(.sl 54 x7z x7), [], false, none⟩), (8, .val (V.s (.int .i64 x8))), (9, .val (V.s (.int .i64 x9)))] []
theorem impl_ProofText.s (k : Nat) (a0_0z : Bool) (a0_0 : List T) (a0_1 : Int) (a0_2 : Int) (a0_3z : Bool) (a0_3 : List Int) (a0_4z : Bool) (a0_4 : List Int) (a0_5z : Bool) (a0_5 : List T) : answer Tryd.prog impl_ProofText.Cs 100000 impl_ProofText.cuts [] Tryd.f44 (k + 1) [.v (.agg [(.sl 54 a0_0z a0_0), (.int .i64 a0_1), (.int .i64 a0_2), (.nums 5 .u8 a0_3z a0_3), (.nums 5 .u8 a0_4z a0_4), (.sl 28 a0_5z a0_5)])] = impl_ProofText.b (fun r => some (impl_ProofText.enc r)) (fun x3 x7z x7 x8 x9 => rounds Tryd.prog impl_ProofText.Cs (finish Tryd.prog [] Tryd.f44 [.v (.agg [(.sl 54 a0_0z a0_0), (.int .i64 a0_1), (.int .i64 a0_2), (.nums 5 .u8 a0_3z a0_3), (.nums 5 .u8 a0_4z a0_4), (.sl 28 a0_5z a0_5)])]) 100000 k impl_ProofText.K0 (impl_ProofText.N0 x3 x7z x7 x8 x9)) k a0_0z a0_0 a0_1 a0_2 a0_3z a0_3 a0_4z a0_4 a0_5z a0_5 := by kernel_rfl
theorem impl_ProofText.s0 (k : Nat) (G : List Fr → St → Option Res) (a0_0z : Bool) (a0_0 : List T) (a0_1 : Int) (a0_2 : Int) (a0_3z : Bool) (a0_3 : List Int) (a0_4z : Bool) (a0_4 : List Int) (a0_5z : Bool) (a0_5 : List T) (yx3 : ByteArray) (yx7z : Bool) (yx7 : List T) (yx8 : Int) (yx9 : Int) : resume Tryd.prog (impl_ProofText.Cs k) G (finish Tryd.prog [] Tryd.f44 [.v (.agg [(.sl 54 a0_0z a0_0), (.int .i64 a0_1), (.int .i64 a0_2), (.nums 5 .u8 a0_3z a0_3), (.nums 5 .u8 a0_4z a0_4), (.sl 28 a0_5z a0_5)])]) 100000 impl_ProofText.K0 (impl_ProofText.N0 yx3 yx7z yx7 yx8 yx9) = impl_ProofText.l0b (fun r => some (impl_ProofText.enc r)) (fun x3 x7z x7 x8 x9 => G impl_ProofText.K0 (impl_ProofText.N0 x3 x7z x7 x8 x9)) k yx3 yx7z yx7 yx8 yx9 := by kernel_rfl
theorem impl_ProofText.b_nat {R R' : Type} (e : R → R') (ret : ByteArray → Option R) (j0 : ByteArray → Bool → (List T) → Int → Int → Option R) (k : Nat) (a0_0z : Bool) (a0_0 : List T) (a0_1 : Int) (a0_2 : Int) (a0_3z : Bool) (a0_3 : List Int) (a0_4z : Bool) (a0_4 : List Int) (a0_5z : Bool) (a0_5 : List T) : impl_ProofText.b (fun r => (ret r).map e) (fun x3 x7z x7 x8 x9 => (j0 x3 x7z x7 x8 x9).map e) k a0_0z a0_0 a0_1 a0_2 a0_3z a0_3 a0_4z a0_4 a0_5z a0_5 = (impl_ProofText.b ret j0 k a0_0z a0_0 a0_1 a0_2 a0_3z a0_3 a0_4z a0_4 a0_5z a0_5).map e := by
  unfold impl_ProofText.b
  repeat' first | with_reducible refine nat_cond ?_ ?_ | with_reducible refine nat_bind fun _ => ?_ | rfl
theorem impl_ProofText.l0b_nat {R R' : Type} (e : R → R') (ret : ByteArray → Option R) (j0 : ByteArray → Bool → (List T) → Int → Int → Option R) (k : Nat) (x3 : ByteArray) (x7z : Bool) (x7 : List T) (x8 : Int) (x9 : Int) : impl_ProofText.l0b (fun r => (ret r).map e) (fun x3 x7z x7 x8 x9 => (j0 x3 x7z x7 x8 x9).map e) k x3 x7z x7 x8 x9 = (impl_ProofText.l0b ret j0 k x3 x7z x7 x8 x9).map e := by
  unfold impl_ProofText.l0b
  repeat' first | with_reducible refine nat_cond ?_ ?_ | with_reducible refine nat_bind fun _ => ?_ | rfl
theorem impl_ProofText.rounds_eq (a0_0z : Bool) (a0_0 : List T) (a0_1 : Int) (a0_2 : Int) (a0_3z : Bool) (a0_3 : List Int) (a0_4z : Bool) (a0_4 : List Int) (a0_5z : Bool) (a0_5 : List T) : ∀ k, (∀ (x3 : ByteArray) (x7z : Bool) (x7 : List T) (x8 : Int) (x9 : Int), rounds Tryd.prog impl_ProofText.Cs (finish Tryd.prog [] Tryd.f44 [.v (.agg [(.sl 54 a0_0z a0_0), (.int .i64 a0_1), (.int .i64 a0_2), (.nums 5 .u8 a0_3z a0_3), (.nums 5 .u8 a0_4z a0_4), (.sl 28 a0_5z a0_5)])]) 100000 k impl_ProofText.K0 (impl_ProofText.N0 x3 x7z x7 x8 x9) = (impl_ProofText.l0 k x3 x7z x7 x8 x9).map impl_ProofText.enc)
  | 0 => fun _ _ _ _ _ => rfl
  | k + 1 => by
    have ih := impl_ProofText.rounds_eq a0_0z a0_0 a0_1 a0_2 a0_3z a0_3 a0_4z a0_4 a0_5z a0_5 k
    refine fun _ _ _ _ _ => ?_
    · refine (impl_ProofText.s0 k _ a0_0z a0_0 a0_1 a0_2 a0_3z a0_3 a0_4z a0_4 a0_5z a0_5 _ _ _ _ _).trans (Eq.trans ?_ (impl_ProofText.l0b_nat impl_ProofText.enc some (impl_ProofText.l0 k) k _ _ _ _ _))
      simp only [ih, Option.map_some]
theorem impl_ProofText.eq (k : Nat) (a0_0z : Bool) (a0_0 : List T) (a0_1 : Int) (a0_2 : Int) (a0_3z : Bool) (a0_3 : List Int) (a0_4z : Bool) (a0_4 : List Int) (a0_5z : Bool) (a0_5 : List T) : answer Tryd.prog impl_ProofText.Cs 100000 impl_ProofText.cuts [] Tryd.f44 (k + 1) [.v (.agg [(.sl 54 a0_0z a0_0), (.int .i64 a0_1), (.int .i64 a0_2), (.nums 5 .u8 a0_3z a0_3), (.nums 5 .u8 a0_4z a0_4), (.sl 28 a0_5z a0_5)])] = (impl_ProofText.f (k + 1) a0_0z a0_0 a0_1 a0_2 a0_3z a0_3 a0_4z a0_4 a0_5z a0_5).map impl_ProofText.enc := by
  have ih := impl_ProofText.rounds_eq a0_0z a0_0 a0_1 a0_2 a0_3z a0_3 a0_4z a0_4 a0_5z a0_5 k
  refine (impl_ProofText.s k a0_0z a0_0 a0_1 a0_2 a0_3z a0_3 a0_4z a0_4 a0_5z a0_5).trans (Eq.trans ?_ (impl_ProofText.b_nat impl_ProofText.enc some (impl_ProofText.l0 k) k a0_0z a0_0 a0_1 a0_2 a0_3z a0_3 a0_4z a0_4 a0_5z a0_5))
  simp only [ih, Option.map_some]
theorem impl_ProofText.sound (k : Nat) : SoundF Tryd.prog 44 (fun a => (impl_ProofText.ans k a).val) := by
  refine sound_plain (fun args res h => ?_) (fun t n => rfl)
  unfold impl_ProofText.ans at h
  dsimp only at h
  split at h
  · cases k with
    | zero => cases h
    | succ k =>
      unfold Ans.val at h
      rw [← impl_ProofText.eq] at h
      exact answer_sound mixed Tryd.func44 _ _ _ (k + 1) (fun j _ => tab_sound (tab_cons (impl_place.sound j) (tab_nil))) _ _ h
  · exact (Ans.no_val h).elim

/-! loop.example/g00790/laws.eqByteS -/
def laws_eqByteS.b {R : Type} (ret : Bool → Option R) (j0 : Bool → (List Int) → Bool → (List Int) → Int → Option R) (k : Nat) (a0z : Bool) (a0 : List Int) (a1z : Bool) (a1 : List Int) : Option R :=
  cond (!(decide (((a0).length : Int) = ((a1).length : Int)))) (ret false) (j0 a0z a0 a1z a1 0)
def laws_eqByteS.l0b {R : Type} (ret : Bool → Option R) (j0 : Bool → (List Int) → Bool → (List Int) → Int → Option R) (k : Nat) (x0z : Bool) (x0 : List Int) (x1z : Bool) (x1 : List Int) (x5 : Int) : Option R :=
  cond (decide (x5 < ((x0).length : Int))) (cond (decide ((0 : Int) ≤ x5)) (cond (decide (x5 < ((x0).length : Int))) (cond (decide ((0 : Int) ≤ x5)) (cond (decide (x5 < ((x1).length : Int))) (cond (!(decide ((rdI x0 x5) = (rdI x1 x5)))) (ret false) (j0 x0z x0 x1z x1 (RowKit.wrap64 (x5 + 1)))) (none)) (none)) (none)) (none)) (ret true)
def laws_eqByteS.l0 : Nat → Bool → (List Int) → Bool → (List Int) → Int → Option Bool
  | 0, _, _, _, _, _ => none
  | k + 1, x0z, x0, x1z, x1, x5 => laws_eqByteS.l0b some (laws_eqByteS.l0 k) k x0z x0 x1z x1 x5
def laws_eqByteS.f : Nat → Bool → (List Int) → Bool → (List Int) → Option Bool
  | 0, _, _, _, _ => none
  | k + 1, a0z, a0, a1z, a1 => laws_eqByteS.b some (laws_eqByteS.l0 k) k a0z a0 a1z a1
def laws_eqByteS.enc (r : Bool) : Res := ⟨[.vals false [((.bool r), true)]], []⟩
def laws_eqByteS.ans (k : Nat) : List Arg → Ans
  | [.v (.nums 5 .u8 a0z a0), .v (.nums 5 .u8 a1z a1)] => ⟨laws_eqByteS.f k a0z a0 a1z a1, laws_eqByteS.enc⟩
  | _ => Ans.no
def laws_eqByteS.Cs (k : Nat) : CallSem := tab []
def laws_eqByteS.cuts : List (Nat × Keep) := [(58, ⟨[(0, some []), (1, some []), (5, some [])], []⟩)]
noncomputable def laws_eqByteS.K0 : List Fr := framesAt [true, true, false, true, false] (bodyOf Tryd.f74 laws_eqByteS.cuts) []
def laws_eqByteS.N0 (x0z : Bool) (x0 : List Int) (x1z : Bool) (x1 : List Int) (x5 : Int) : St := stOf 26 26 2 [(0, .val ⟨(.nums 5 .u8 x0z x0), [], false, none⟩), (1, .val ⟨(.nums 5 .u8 x1z x1), [], false, none⟩), (5, .val (V.s (.int .i64 x5)))] []
theorem laws_eqByteS.s (k : Nat) (a0z : Bool) (a0 : List Int) (a1z : Bool) (a1 : List Int) : answer Tryd.prog laws_eqByteS.Cs 100000 laws_eqByteS.cuts [] Tryd.f74 (k + 1) [.v (.nums 5 .u8 a0z a0), .v (.nums 5 .u8 a1z a1)] = laws_eqByteS.b (fun r => some (laws_eqByteS.enc r)) (fun x0z x0 x1z x1 x5 => rounds Tryd.prog laws_eqByteS.Cs (finish Tryd.prog [] Tryd.f74 [.v (.nums 5 .u8 a0z a0), .v (.nums 5 .u8 a1z a1)]) 100000 k laws_eqByteS.K0 (laws_eqByteS.N0 x0z x0 x1z x1 x5)) k a0z a0 a1z a1 := by kernel_rfl
theorem laws_eqByteS.s0 (k : Nat) (G : List Fr → St → Option Res) (a0z : Bool) (a0 : List Int) (a1z : Bool) (a1 : List Int) (yx0z : Bool) (yx0 : List Int) (yx1z : Bool) (yx1 : List Int) (yx5 : Int) : resume Tryd.prog (laws_eqByteS.Cs k) G (finish Tryd.prog [] Tryd.f74 [.v (.nums 5 .u8 a0z a0), .v (.nums 5 .u8 a1z a1)]) 100000 laws_eqByteS.K0 (laws_eqByteS.N0 yx0z yx0 yx1z yx1 yx5) = laws_eqByteS.l0b (fun r => some (laws_eqByteS.enc r)) (fun x0z x0 x1z x1 x5 => G laws_eqByteS.K0 (laws_eqByteS.N0 x0z x0 x1z x1 x5)) k yx0z yx0 yx1z yx1 yx5 := by kernel_rfl
theorem laws_eqByteS.b_nat {R R' : Type} (e : R → R') (ret : Bool → Option R) (j0 : Bool → (List Int) → Bool → (List Int) → Int → Option R) (k : Nat) (a0z : Bool) (a0 : List Int) (a1z : Bool) (a1 : List Int) : laws_eqByteS.b (fun r => (ret r).map e) (fun x0z x0 x1z x1 x5 => (j0 x0z x0 x1z x1 x5).map e) k a0z a0 a1z a1 = (laws_eqByteS.b ret j0 k a0z a0 a1z a1).map e := by
  unfold laws_eqByteS.b
  repeat' first | with_reducible refine nat_cond ?_ ?_ | with_reducible refine nat_bind fun _ => ?_ | rfl
theorem laws_eqByteS.l0b_nat {R R' : Type} (e : R → R') (ret : Bool → Option R) (j0 : Bool → (List Int) → Bool → (List Int) → Int → Option R) (k : Nat) (x0z : Bool) (x0 : List Int) (x1z : Bool) (x1 : List Int) (x5 : Int) : laws_eqByteS.l0b (fun r => (ret r).map e) (fun x0z x0 x1z x1 x5 => (j0 x0z x0 x1z x1 x5).map e) k x0z x0 x1z x1 x5 = (laws_eqByteS.l0b ret j0 k x0z x0 x1z x1 x5).map e := by
  unfold laws_eqByteS.l0b
  repeat' first | with_reducible refine nat_cond ?_ ?_ | with_reducible refine nat_bind fun _ => ?_ | rfl
theorem laws_eqByteS.rounds_eq (a0z : Bool) (a0 : List Int) (a1z : Bool) (a1 : List Int) : ∀ k, (∀ (x0z : Bool) (x0 : List Int) (x1z : Bool) (x1 : List Int) (x5 : Int), rounds Tryd.prog laws_eqByteS.Cs (finish Tryd.prog [] Tryd.f74 [.v (.nums 5 .u8 a0z a0), .v (.nums 5 .u8 a1z a1)]) 100000 k laws_eqByteS.K0 (laws_eqByteS.N0 x0z x0 x1z x1 x5) = (laws_eqByteS.l0 k x0z x0 x1z x1 x5).map laws_eqByteS.enc)
  | 0 => fun _ _ _ _ _ => rfl
  | k + 1 => by
    have ih := laws_eqByteS.rounds_eq a0z a0 a1z a1 k
    refine fun _ _ _ _ _ => ?_
    · refine (laws_eqByteS.s0 k _ a0z a0 a1z a1 _ _ _ _ _).trans (Eq.trans ?_ (laws_eqByteS.l0b_nat laws_eqByteS.enc some (laws_eqByteS.l0 k) k _ _ _ _ _))
      simp only [ih, Option.map_some]
theorem laws_eqByteS.eq (k : Nat) (a0z : Bool) (a0 : List Int) (a1z : Bool) (a1 : List Int) : answer Tryd.prog laws_eqByteS.Cs 100000 laws_eqByteS.cuts [] Tryd.f74 (k + 1) [.v (.nums 5 .u8 a0z a0), .v (.nums 5 .u8 a1z a1)] = (laws_eqByteS.f (k + 1) a0z a0 a1z a1).map laws_eqByteS.enc := by
  have ih := laws_eqByteS.rounds_eq a0z a0 a1z a1 k
  refine (laws_eqByteS.s k a0z a0 a1z a1).trans (Eq.trans ?_ (laws_eqByteS.b_nat laws_eqByteS.enc some (laws_eqByteS.l0 k) k a0z a0 a1z a1))
  simp only [ih, Option.map_some]
theorem laws_eqByteS.sound (k : Nat) : SoundF Tryd.prog 74 (fun a => (laws_eqByteS.ans k a).val) := by
  refine sound_plain (fun args res h => ?_) (fun t n => rfl)
  unfold laws_eqByteS.ans at h
  dsimp only at h
  split at h
  · cases k with
    | zero => cases h
    | succ k =>
      unfold Ans.val at h
      rw [← laws_eqByteS.eq] at h
      exact answer_sound mixed Tryd.func74 _ _ _ (k + 1) (fun j _ => tab_sound (tab_nil)) _ _ h
  · exact (Ans.no_val h).elim

/-! loop.example/g00790/laws.eqByteSS -/
def laws_eqByteSS.b {R : Type} (ret : Bool → Option R) (j0 : Bool → (List T) → Bool → (List T) → Int → Option R) (k : Nat) (a0z : Bool) (a0 : List T) (a1z : Bool) (a1 : List T) : Option R :=
  cond (!(decide (((a0).length : Int) = ((a1).length : Int)))) (ret false) (j0 a0z a0 a1z a1 0)
def laws_eqByteSS.l0b {R : Type} (ret : Bool → Option R) (j0 : Bool → (List T) → Bool → (List T) → Int → Option R) (k : Nat) (x0z : Bool) (x0 : List T) (x1z : Bool) (x1 : List T) (x5 : Int) : Option R :=
  cond (decide (x5 < ((x0).length : Int))) (cond (decide ((0 : Int) ≤ x5)) (cond (decide (x5 < ((x0).length : Int))) (cond (decide ((0 : Int) ≤ x5)) (cond (decide (x5 < ((x1).length : Int))) ((laws_eqByteS.f k (((((x0).getD (x5).toNat .bad).cells.getD 0 .bad)).isNil) (((((x0).getD (x5).toNat .bad).cells.getD 0 .bad)).toNums) (((((x1).getD (x5).toNat .bad).cells.getD 0 .bad)).isNil) (((((x1).getD (x5).toNat .bad).cells.getD 0 .bad)).toNums)).bind fun t0 => cond (!t0) (ret false) (j0 x0z x0 x1z x1 (RowKit.wrap64 (x5 + 1)))) (none)) (none)) (none)) (none)) (ret true)
def laws_eqByteSS.l0 : Nat → Bool → (List T) → Bool → (List T) → Int → Option Bool
  | 0, _, _, _, _, _ => none
  | k + 1, x0z, x0, x1z, x1, x5 => laws_eqByteSS.l0b some (laws_eqByteSS.l0 k) k x0z x0 x1z x1 x5
def laws_eqByteSS.f : Nat → Bool → (List T) → Bool → (List T) → Option Bool
  | 0, _, _, _, _ => none
  | k + 1, a0z, a0, a1z, a1 => laws_eqByteSS.b some (laws_eqByteSS.l0 k) k a0z a0 a1z a1
def laws_eqByteSS.enc (r : Bool) : Res := ⟨[.vals false [((.bool r), true)]], []⟩
def laws_eqByteSS.ans (k : Nat) : List Arg → Ans
  | [.v (.sl 28 a0z a0), .v (.sl 28 a1z a1)] => ⟨laws_eqByteSS.f k a0z a0 a1z a1, laws_eqByteSS.enc⟩
  | _ => Ans.no
def laws_eqByteSS.Cs (k : Nat) : CallSem := tab [(74, laws_eqByteS.ans k)]
def laws_eqByteSS.cuts : List (Nat × Keep) := [(58, ⟨[(0, some []), (1, some []), (5, some [])], []⟩)]
noncomputable def laws_eqByteSS.K0 : List Fr := framesAt [true, true, false, true, false] (bodyOf Tryd.f80 laws_eqByteSS.cuts) []
def laws_eqByteSS.N0 (x0z : Bool) (x0 : List T) (x1z : Bool) (x1 : List T) (x5 : Int) : St := stOf 27 27 2 [(0, .val ⟨(.sl 28 x0z x0), [], false, none⟩), (1, .val ⟨(.sl 28 x1z x1), [], false, none⟩), (5, .val (V.s (.int .i64 x5)))] []
theorem laws_eqByteSS.s (k : Nat) (a0z : Bool) (a0 : List T) (a1z : Bool) (a1 : List T) : answer Tryd.prog laws_eqByteSS.Cs 100000 laws_eqByteSS.cuts [] Tryd.f80 (k + 1) [.v (.sl 28 a0z a0), .v (.sl 28 a1z a1)] = laws_eqByteSS.b (fun r => some (laws_eqByteSS.enc r)) (fun x0z x0 x1z x1 x5 => rounds Tryd.prog laws_eqByteSS.Cs (finish Tryd.prog [] Tryd.f80 [.v (.sl 28 a0z a0), .v (.sl 28 a1z a1)]) 100000 k laws_eqByteSS.K0 (laws_eqByteSS.N0 x0z x0 x1z x1 x5)) k a0z a0 a1z a1 := by kernel_rfl
theorem laws_eqByteSS.s0 (k : Nat) (G : List Fr → St → Option Res) (a0z : Bool) (a0 : List T) (a1z : Bool) (a1 : List T) (yx0z : Bool) (yx0 : List T) (yx1z : Bool) (yx1 : List T) (yx5 : Int) : resume Tryd.prog (laws_eqByteSS.Cs k) G (finish Tryd.prog [] Tryd.f80 [.v (.sl 28 a0z a0), .v (.sl 28 a1z a1)]) 100000 laws_eqByteSS.K0 (laws_eqByteSS.N0 yx0z yx0 yx1z yx1 yx5) = laws_eqByteSS.l0b (fun r => some (laws_eqByteSS.enc r)) (fun x0z x0 x1z x1 x5 => G laws_eqByteSS.K0 (laws_eqByteSS.N0 x0z x0 x1z x1 x5)) k yx0z yx0 yx1z yx1 yx5 := by kernel_rfl
theorem laws_eqByteSS.b_nat {R R' : Type} (e : R → R') (ret : Bool → Option R) (j0 : Bool → (List T) → Bool → (List T) → Int → Option R) (k : Nat) (a0z : Bool) (a0 : List T) (a1z : Bool) (a1 : List T) : laws_eqByteSS.b (fun r => (ret r).map e) (fun x0z x0 x1z x1 x5 => (j0 x0z x0 x1z x1 x5).map e) k a0z a0 a1z a1 = (laws_eqByteSS.b ret j0 k a0z a0 a1z a1).map e := by
  unfold laws_eqByteSS.b
  repeat' first | with_reducible refine nat_cond ?_ ?_ | with_reducible refine nat_bind fun _ => ?_ | rfl
theorem laws_eqByteSS.l0b_nat {R R' : Type} (e : R → R') (ret : Bool → Option R) (j0 : Bool → (List T) → Bool → (List T) → Int → Option R) (k : Nat) (x0z : Bool) (x0 : List T) (x1z : Bool) (x1 : List T) (x5 : Int) : laws_eqByteSS.l0b (fun r => (ret r).map e) (fun x0z x0 x1z x1 x5 => (j0 x0z x0 x1z x1 x5).map e) k x0z x0 x1z x1 x5 = (laws_eqByteSS.l0b ret j0 k x0z x0 x1z x1 x5).map e := by
  unfold laws_eqByteSS.l0b
  repeat' first | with_reducible refine nat_cond ?_ ?_ | with_reducible refine nat_bind fun _ => ?_ | rfl
theorem laws_eqByteSS.rounds_eq (a0z : Bool) (a0 : List T) (a1z : Bool) (a1 : List T) : ∀ k, (∀ (x0z : Bool) (x0 : List T) (x1z : Bool) (x1 : List T) (x5 : Int), rounds Tryd.prog laws_eqByteSS.Cs (finish Tryd.prog [] Tryd.f80 [.v (.sl 28 a0z a0), .v (.sl 28 a1z a1)]) 100000 k laws_eqByteSS.K0 (laws_eqByteSS.N0 x0z x0 x1z x1 x5) = (laws_eqByteSS.l0 k x0z x0 x1z x1 x5).map laws_eqByteSS.enc)
  | 0 => fun _ _ _ _ _ => rfl
  | k + 1 => by
    have ih := laws_eqByteSS.rounds_eq a0z a0 a1z a1 k
    refine fun _ _ _ _ _ => ?_
    · refine (laws_eqByteSS.s0 k _ a0z a0 a1z a1 _ _ _ _ _).trans (Eq.trans ?_ (laws_eqByteSS.l0b_nat laws_eqByteSS.enc some (laws_eqByteSS.l0 k) k _ _ _ _ _))
      simp only [ih, Option.map_some]
theorem laws_eqByteSS.eq (k : Nat) (a0z : Bool) (a0 : List T) (a1z : Bool) (a1 : List T) : answer Tryd.prog laws_eqByteSS.Cs 100000 laws_eqByteSS.cuts [] Tryd.f80 (k + 1) [.v (.sl 28 a0z a0), .v (.sl 28 a1z a1)] = (laws_eqByteSS.f (k + 1) a0z a0 a1z a1).map laws_eqByteSS.enc := by
  have ih := laws_eqByteSS.rounds_eq a0z a0 a1z a1 k
  refine (laws_eqByteSS.s k a0z a0 a1z a1).trans (Eq.trans ?_ (laws_eqByteSS.b_nat laws_eqByteSS.enc some (laws_eqByteSS.l0 k) k a0z a0 a1z a1))
  simp only [ih, Option.map_some]
theorem laws_eqByteSS.sound (k : Nat) : SoundF Tryd.prog 80 (fun a => (laws_eqByteSS.ans k a).val) := by
  refine sound_plain (fun args res h => ?_) (fun t n => rfl)
  unfold laws_eqByteSS.ans at h
  dsimp only at h
  split at h
  · cases k with
    | zero => cases h
    | succ k =>
      unfold Ans.val at h
      rw [← laws_eqByteSS.eq] at h
      exact answer_sound mixed Tryd.func80 _ _ _ (k + 1) (fun j _ => tab_sound (tab_cons (laws_eqByteS.sound j) (tab_nil))) _ _ h
  · exact (Ans.no_val h).elim

end Go.Proofs.YtjffolalgcmhaaaDoorG
