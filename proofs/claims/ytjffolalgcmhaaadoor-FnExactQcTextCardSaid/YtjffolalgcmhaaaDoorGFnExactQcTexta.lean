/- What the functions compute, printed by a program of this repo; each is shown to be what the machine of values answers. No condition. -/
import Derived.Test.YtjffolalgcmhaaaDoorProg
import Derived.KernelRfl
import Derived.Test.YtjffolalgcmhaaaDoorLay
namespace Go.Proofs.YtjffolalgcmhaaaDoorG
open Go Go.Proofs.YtjffolalgcmhaaaDoorRv Go.Proofs
set_option linter.unusedVariables false
set_option linter.unusedSimpArgs false
theorem mixed : Tryd.prog.follows .mixedOrders = true := by kernel_rfl
/-! loop.example/g00790/laws.szByteS -/
def laws_szByteS.b {R : Type} (ret : Int → Option R) (k : Nat) (a0z : Bool) (a0 : List Int) (a1 : Int) : Option R :=
  cond (decide ((RowKit.wrap64 (a1 - ((a0).length : Int))) < 0)) (ret (-1)) (ret (RowKit.wrap64 (a1 - ((a0).length : Int))))
def laws_szByteS.f : Nat → Bool → (List Int) → Int → Option Int
  | 0, _, _, _ => none
  | k + 1, a0z, a0, a1 => laws_szByteS.b some k a0z a0 a1
def laws_szByteS.enc (r : Int) : Res := ⟨[.vals false [((.int .i64 r), true)]], []⟩
def laws_szByteS.ans (k : Nat) : List Arg → Ans
  | [.v (.nums 5 .u8 a0z a0), .v (.int .i64 a1)] => ⟨laws_szByteS.f k a0z a0 a1, laws_szByteS.enc⟩
  | _ => Ans.no
def laws_szByteS.Cs (k : Nat) : CallSem := tab []
def laws_szByteS.cuts : List (Nat × Keep) := []
theorem laws_szByteS.s (k : Nat) (a0z : Bool) (a0 : List Int) (a1 : Int) : answer Tryd.prog laws_szByteS.Cs 100000 laws_szByteS.cuts [] Tryd.f69 (k + 1) [.v (.nums 5 .u8 a0z a0), .v (.int .i64 a1)] = laws_szByteS.b (fun r => some (laws_szByteS.enc r)) k a0z a0 a1 := by kernel_rfl
theorem laws_szByteS.b_nat {R R' : Type} (e : R → R') (ret : Int → Option R) (k : Nat) (a0z : Bool) (a0 : List Int) (a1 : Int) : laws_szByteS.b (fun r => (ret r).map e) k a0z a0 a1 = (laws_szByteS.b ret k a0z a0 a1).map e := by
  unfold laws_szByteS.b
  repeat' first | with_reducible refine nat_cond ?_ ?_ | with_reducible refine nat_bind fun _ => ?_ | rfl
theorem laws_szByteS.eq (k : Nat) (a0z : Bool) (a0 : List Int) (a1 : Int) : answer Tryd.prog laws_szByteS.Cs 100000 laws_szByteS.cuts [] Tryd.f69 (k + 1) [.v (.nums 5 .u8 a0z a0), .v (.int .i64 a1)] = (laws_szByteS.f (k + 1) a0z a0 a1).map laws_szByteS.enc := by
  refine (laws_szByteS.s k a0z a0 a1).trans (Eq.trans ?_ (laws_szByteS.b_nat laws_szByteS.enc some k a0z a0 a1))
  simp only [Option.map_some]
theorem laws_szByteS.sound (k : Nat) : SoundF Tryd.prog 69 (fun a => (laws_szByteS.ans k a).val) := by
  refine sound_plain (fun args res h => ?_) (fun t n => rfl)
  unfold laws_szByteS.ans at h
  dsimp only at h
  split at h
  · cases k with
    | zero => cases h
    | succ k =>
      unfold Ans.val at h
      rw [← laws_szByteS.eq] at h
      exact answer_sound mixed Tryd.func69 _ _ _ (k + 1) (fun j _ => tab_sound (tab_nil)) _ _ h
  · exact (Ans.no_val h).elim

/-! loop.example/g00790/laws.szByteSS -/
def laws_szByteSS.b {R : Type} (ret : Int → Option R) (j0 : Bool → (List T) → Int → Int → Option R) (k : Nat) (a0z : Bool) (a0 : List T) (a1 : Int) : Option R :=
  cond (decide ((RowKit.wrap64 (a1 - ((a0).length : Int))) < 0)) (ret (-1)) (j0 a0z a0 (RowKit.wrap64 (a1 - ((a0).length : Int))) 0)
def laws_szByteSS.l0b {R : Type} (ret : Int → Option R) (j0 : Bool → (List T) → Int → Int → Option R) (k : Nat) (x0z : Bool) (x0 : List T) (x1 : Int) (x5 : Int) : Option R :=
  cond (decide (x5 < ((x0).length : Int))) (cond (decide ((0 : Int) ≤ x5)) (cond (decide (x5 < ((x0).length : Int))) ((laws_szByteS.f k (((((x0).getD (x5).toNat .bad).cells.getD 0 .bad)).isNil) (((((x0).getD (x5).toNat .bad).cells.getD 0 .bad)).toNums) x1).bind fun t0 => cond (decide (t0 < 0)) (ret (-1)) (j0 x0z x0 t0 (RowKit.wrap64 (x5 + 1)))) (none)) (none)) (ret x1)
def laws_szByteSS.l0 : Nat → Bool → (List T) → Int → Int → Option Int
  | 0, _, _, _, _ => none
  | k + 1, x0z, x0, x1, x5 => laws_szByteSS.l0b some (laws_szByteSS.l0 k) k x0z x0 x1 x5
def laws_szByteSS.f : Nat → Bool → (List T) → Int → Option Int
  | 0, _, _, _ => none
  | k + 1, a0z, a0, a1 => laws_szByteSS.b some (laws_szByteSS.l0 k) k a0z a0 a1
def laws_szByteSS.enc (r : Int) : Res := ⟨[.vals false [((.int .i64 r), true)]], []⟩
def laws_szByteSS.ans (k : Nat) : List Arg → Ans
  | [.v (.sl 28 a0z a0), .v (.int .i64 a1)] => ⟨laws_szByteSS.f k a0z a0 a1, laws_szByteSS.enc⟩
  | _ => Ans.no
def laws_szByteSS.Cs (k : Nat) : CallSem := tab [(69, laws_szByteS.ans k)]
def laws_szByteSS.cuts : List (Nat × Keep) := [(122, ⟨[(0, some []), (1, some []), (5, some [])], []⟩)]
noncomputable def laws_szByteSS.K0 : List Fr := framesAt [true, true, true, false, true, false] (bodyOf Tryd.f75 laws_szByteSS.cuts) []
def laws_szByteSS.N0 (x0z : Bool) (x0 : List T) (x1 : Int) (x5 : Int) : St := stOf 27 27 2 [(0, .val ⟨(.sl 28 x0z x0), [], false, none⟩), (1, .val (V.s (.int .i64 x1))), (5, .val (V.s (.int .i64 x5)))] []
theorem laws_szByteSS.s (k : Nat) (a0z : Bool) (a0 : List T) (a1 : Int) : answer Tryd.prog laws_szByteSS.Cs 100000 laws_szByteSS.cuts [] Tryd.f75 (k + 1) [.v (.sl 28 a0z a0), .v (.int .i64 a1)] = laws_szByteSS.b (fun r => some (laws_szByteSS.enc r)) (fun x0z x0 x1 x5 => rounds Tryd.prog laws_szByteSS.Cs (finish Tryd.prog [] Tryd.f75 [.v (.sl 28 a0z a0), .v (.int .i64 a1)]) 100000 k laws_szByteSS.K0 (laws_szByteSS.N0 x0z x0 x1 x5)) k a0z a0 a1 := by kernel_rfl
theorem laws_szByteSS.s0 (k : Nat) (G : List Fr → St → Option Res) (a0z : Bool) (a0 : List T) (a1 : Int) (yx0z : Bool) (yx0 : List T) (yx1 : Int) (yx5 : Int) : resume Tryd.prog (laws_szByteSS.Cs k) G (finish Tryd.prog [] Tryd.f75 [.v (.sl 28 a0z a0), .v (.int .i64 a1)]) 100000 laws_szByteSS.K0 (laws_szByteSS.N0 yx0z yx0 yx1 yx5) = laws_szByteSS.l0b (fun r => some (laws_szByteSS.enc r)) (fun x0z x0 x1 x5 => G laws_szByteSS.K0 (laws_szByteSS.N0 x0z x0 x1 x5)) k yx0z yx0 yx1 yx5 := by kernel_rfl
theorem laws_szByteSS.b_nat {R R' : Type} (e : R → R') (ret : Int → Option R) (j0 : Bool → (List T) → Int → Int → Option R) (k : Nat) (a0z : Bool) (a0 : List T) (a1 : Int) : laws_szByteSS.b (fun r => (ret r).map e) (fun x0z x0 x1 x5 => (j0 x0z x0 x1 x5).map e) k a0z a0 a1 = (laws_szByteSS.b ret j0 k a0z a0 a1).map e := by
  unfold laws_szByteSS.b
  repeat' first | with_reducible refine nat_cond ?_ ?_ | with_reducible refine nat_bind fun _ => ?_ | rfl
theorem laws_szByteSS.l0b_nat {R R' : Type} (e : R → R') (ret : Int → Option R) (j0 : Bool → (List T) → Int → Int → Option R) (k : Nat) (x0z : Bool) (x0 : List T) (x1 : Int) (x5 : Int) : laws_szByteSS.l0b (fun r => (ret r).map e) (fun x0z x0 x1 x5 => (j0 x0z x0 x1 x5).map e) k x0z x0 x1 x5 = (laws_szByteSS.l0b ret j0 k x0z x0 x1 x5).map e := by
  unfold laws_szByteSS.l0b
  repeat' first | with_reducible refine nat_cond ?_ ?_ | with_reducible refine nat_bind fun _ => ?_ | rfl
theorem laws_szByteSS.rounds_eq (a0z : Bool) (a0 : List T) (a1 : Int) : ∀ k, (∀ (x0z : Bool) (x0 : List T) (x1 : Int) (x5 : Int), rounds Tryd.prog laws_szByteSS.Cs (finish Tryd.prog [] Tryd.f75 [.v (.sl 28 a0z a0), .v (.int .i64 a1)]) 100000 k laws_szByteSS.K0 (laws_szByteSS.N0 x0z x0 x1 x5) = (laws_szByteSS.l0 k x0z x0 x1 x5).map laws_szByteSS.enc)
  | 0 => fun _ _ _ _ => rfl
  | k + 1 => by
    have ih := laws_szByteSS.rounds_eq a0z a0 a1 k
    refine fun _ _ _ _ => ?_
    · refine (laws_szByteSS.s0 k _ a0z a0 a1 _ _ _ _).trans (Eq.trans ?_ (laws_szByteSS.l0b_nat laws_szByteSS.enc some (laws_szByteSS.l0 k) k _ _ _ _))
      simp only [ih, Option.map_some]
theorem laws_szByteSS.eq (k : Nat) (a0z : Bool) (a0 : List T) (a1 : Int) : answer Tryd.prog laws_szByteSS.Cs 100000 laws_szByteSS.cuts [] Tryd.f75 (k + 1) [.v (.sl 28 a0z a0), .v (.int .i64 a1)] = (laws_szByteSS.f (k + 1) a0z a0 a1).map laws_szByteSS.enc := by
  have ih := laws_szByteSS.rounds_eq a0z a0 a1 k
  refine (laws_szByteSS.s k a0z a0 a1).trans (Eq.trans ?_ (laws_szByteSS.b_nat laws_szByteSS.enc some (laws_szByteSS.l0 k) k a0z a0 a1))
  simp only [ih, Option.map_some]
theorem laws_szByteSS.sound (k : Nat) : SoundF Tryd.prog 75 (fun a => (laws_szByteSS.ans k a).val) := by
  refine sound_plain (fun args res h => ?_) (fun t n => rfl)
  unfold laws_szByteSS.ans at h
  dsimp only at h
  split at h
  · cases k with
    | zero => cases h
    | succ k =>
      unfold Ans.val at h
      rw [← laws_szByteSS.eq] at h
      exact answer_sound mixed Tryd.func75 _ _ _ (k + 1) (fun j _ => tab_sound (tab_cons (laws_szByteS.sound j) (tab_nil))) _ _ h
  · exact (Ans.no_val h).elim

/-! loop.example/g00790/laws.szQc -/
def laws_szQc.b {R : Type} (ret : Int → Option R) (k : Nat) (a0_0 : Int) (a0_1 : Int) (a0_2z : Bool) (a0_2 : List Int) (a0_3z : Bool) (a0_3 : List Int) (a0_4z : Bool) (a0_4 : List T) (a1 : Int) : Option R :=
  (laws_szByteS.f k a0_2z a0_2 a1).bind fun t0 => cond (decide (t0 < 0)) (ret (-1)) ((laws_szByteS.f k a0_3z a0_3 t0).bind fun t1 => cond (decide (t1 < 0)) (ret (-1)) ((laws_szByteSS.f k a0_4z a0_4 t1).bind fun t2 => cond (decide (t2 < 0)) (ret (-1)) (ret t2)))
def laws_szQc.f : Nat → Int → Int → Bool → (List Int) → Bool → (List Int) → Bool → (List T) → Int → Option Int
  | 0, _, _, _, _, _, _, _, _, _ => none
  | k + 1, a0_0, a0_1, a0_2z, a0_2, a0_3z, a0_3, a0_4z, a0_4, a1 => laws_szQc.b some k a0_0 a0_1 a0_2z a0_2 a0_3z a0_3 a0_4z a0_4 a1
def laws_szQc.enc (r : Int) : Res := ⟨[.vals false [((.int .i64 r), true)]], []⟩
def laws_szQc.ans (k : Nat) : List Arg → Ans
  | [.v (.agg [(.int .i64 a0_0), (.int .i64 a0_1), (.nums 5 .u8 a0_2z a0_2), (.nums 5 .u8 a0_3z a0_3), (.sl 28 a0_4z a0_4)]), .v (.int .i64 a1)] => ⟨laws_szQc.f k a0_0 a0_1 a0_2z a0_2 a0_3z a0_3 a0_4z a0_4 a1, laws_szQc.enc⟩
  | _ => Ans.no
def laws_szQc.Cs (k : Nat) : CallSem := tab [(69, laws_szByteS.ans k), (75, laws_szByteSS.ans k)]
def laws_szQc.cuts : List (Nat × Keep) := []
theorem laws_szQc.s (k : Nat) (a0_0 : Int) (a0_1 : Int) (a0_2z : Bool) (a0_2 : List Int) (a0_3z : Bool) (a0_3 : List Int) (a0_4z : Bool) (a0_4 : List T) (a1 : Int) : answer Tryd.prog laws_szQc.Cs 100000 laws_szQc.cuts [] Tryd.f51 (k + 1) [.v (.agg [(.int .i64 a0_0), (.int .i64 a0_1), (.nums 5 .u8 a0_2z a0_2), (.nums 5 .u8 a0_3z a0_3), (.sl 28 a0_4z a0_4)]), .v (.int .i64 a1)] = laws_szQc.b (fun r => some (laws_szQc.enc r)) k a0_0 a0_1 a0_2z a0_2 a0_3z a0_3 a0_4z a0_4 a1 := by kernel_rfl
theorem laws_szQc.b_nat {R R' : Type} (e : R → R') (ret : Int → Option R) (k : Nat) (a0_0 : Int) (a0_1 : Int) (a0_2z : Bool) (a0_2 : List Int) (a0_3z : Bool) (a0_3 : List Int) (a0_4z : Bool) (a0_4 : List T) (a1 : Int) : laws_szQc.b (fun r => (ret r).map e) k a0_0 a0_1 a0_2z a0_2 a0_3z a0_3 a0_4z a0_4 a1 = (laws_szQc.b ret k a0_0 a0_1 a0_2z a0_2 a0_3z a0_3 a0_4z a0_4 a1).map e := by
  unfold laws_szQc.b
  repeat' first | with_reducible refine nat_cond ?_ ?_ | with_reducible refine nat_bind fun _ => ?_ | rfl
theorem laws_szQc.eq (k : Nat) (a0_0 : Int) (a0_1 : Int) (a0_2z : Bool) (a0_2 : List Int) (a0_3z : Bool) (a0_3 : List Int) (a0_4z : Bool) (a0_4 : List T) (a1 : Int) : answer Tryd.prog laws_szQc.Cs 100000 laws_szQc.cuts [] Tryd.f51 (k + 1) [.v (.agg [(.int .i64 a0_0), (.int .i64 a0_1), (.nums 5 .u8 a0_2z a0_2), (.nums 5 .u8 a0_3z a0_3), (.sl 28 a0_4z a0_4)]), .v (.int .i64 a1)] = (laws_szQc.f (k + 1) a0_0 a0_1 a0_2z a0_2 a0_3z a0_3 a0_4z a0_4 a1).map laws_szQc.enc := by
  refine (laws_szQc.s k a0_0 a0_1 a0_2z a0_2 a0_3z a0_3 a0_4z a0_4 a1).trans (Eq.trans ?_ (laws_szQc.b_nat laws_szQc.enc some k a0_0 a0_1 a0_2z a0_2 a0_3z a0_3 a0_4z a0_4 a1))
  simp only [Option.map_some]
theorem laws_szQc.sound (k : Nat) : SoundF Tryd.prog 51 (fun a => (laws_szQc.ans k a).val) := by
  refine sound_plain (fun args res h => ?_) (fun t n => rfl)
  unfold laws_szQc.ans at h
  dsimp only at h
  split at h
  · cases k with
    | zero => cases h
    | succ k =>
      unfold Ans.val at h
      rw [← laws_szQc.eq] at h
      exact answer_sound mixed Tryd.func51 _ _ _ (k + 1) (fun j _ => tab_sound (tab_cons (laws_szByteS.sound j) (tab_cons (laws_szByteSS.sound j) (tab_nil)))) _ _ h
  · exact (Ans.no_val h).elim

/-! loop.example/g00790/laws.toByteS -/
def laws_toByteS.b {R : Type} (ret : Bool × List Int → Option R) (j0 : Bool → (List Int) → (List Int) → Int → Option R) (k : Nat) (a0z : Bool) (a0 : List Int) : Option R :=
  cond (decide (((a0).length : Int) = ((a0).length : Int))) (cond (decide ((0 : Int) ≤ ((a0).length : Int))) (cond (decide ((a0).length < 140737488355328)) (j0 a0z a0 (List.replicate (a0).length (0 : Int)) 0) (none)) (none)) (none)
def laws_toByteS.l0b {R : Type} (ret : Bool × List Int → Option R) (j0 : Bool → (List Int) → (List Int) → Int → Option R) (k : Nat) (x0z : Bool) (x0 : List Int) (x3 : List Int) (x4 : Int) : Option R :=
  cond (decide (x4 < ((x0).length : Int))) (cond (decide ((0 : Int) ≤ x4)) (cond (decide (x4 < ((x0).length : Int))) (cond (decide ((0 : Int) ≤ x4)) (cond (decide (x4 < ((x3).length : Int))) (j0 x0z x0 ((x3).set (x4).toNat (rdI x0 x4)) (RowKit.wrap64 (x4 + 1))) (none)) (none)) (none)) (none)) (ret (false, x3))
def laws_toByteS.l0 : Nat → Bool → (List Int) → (List Int) → Int → Option (Bool × List Int)
  | 0, _, _, _, _ => none
  | k + 1, x0z, x0, x3, x4 => laws_toByteS.l0b some (laws_toByteS.l0 k) k x0z x0 x3 x4
def laws_toByteS.f : Nat → Bool → (List Int) → Option (Bool × List Int)
  | 0, _, _ => none
  | k + 1, a0z, a0 => laws_toByteS.b some (laws_toByteS.l0 k) k a0z a0
def laws_toByteS.enc (r : Bool × List Int) : Res := ⟨[.vals false [((.nums 5 .u8 r.1 r.2), true)]], []⟩
def laws_toByteS.ans (k : Nat) : List Arg → Ans
  | [.v (.nums 5 .u8 a0z a0)] => ⟨laws_toByteS.f k a0z a0, laws_toByteS.enc⟩
  | _ => Ans.no
def laws_toByteS.Cs (k : Nat) : CallSem := tab []
def laws_toByteS.cuts : List (Nat × Keep) := [(58, ⟨[(0, some []), (3, none), (4, some [])], []⟩)]
noncomputable def laws_toByteS.K0 : List Fr := framesAt [true, true, false, true, false] (bodyOf Tryd.f71 laws_toByteS.cuts) []
def laws_toByteS.N0 (x0z : Bool) (x0 : List Int) (x3 : List Int) (x4 : Int) : St := stOf 22 22 1 [(0, .val ⟨(.nums 5 .u8 x0z x0), [], false, none⟩), (3, .val ⟨(.nums 5 .u8 false x3), [.l 3 0], true, some (.l 3 0)⟩), (4, .val (V.s (.int .i64 x4)))] []
theorem laws_toByteS.s (k : Nat) (a0z : Bool) (a0 : List Int) : answer Tryd.prog laws_toByteS.Cs 100000 laws_toByteS.cuts [] Tryd.f71 (k + 1) [.v (.nums 5 .u8 a0z a0)] = laws_toByteS.b (fun r => some (laws_toByteS.enc r)) (fun x0z x0 x3 x4 => rounds Tryd.prog laws_toByteS.Cs (finish Tryd.prog [] Tryd.f71 [.v (.nums 5 .u8 a0z a0)]) 100000 k laws_toByteS.K0 (laws_toByteS.N0 x0z x0 x3 x4)) k a0z a0 := by kernel_rfl
theorem laws_toByteS.s0 (k : Nat) (G : List Fr → St → Option Res) (a0z : Bool) (a0 : List Int) (yx0z : Bool) (yx0 : List Int) (yx3 : List Int) (yx4 : Int) : resume Tryd.prog (laws_toByteS.Cs k) G (finish Tryd.prog [] Tryd.f71 [.v (.nums 5 .u8 a0z a0)]) 100000 laws_toByteS.K0 (laws_toByteS.N0 yx0z yx0 yx3 yx4) = laws_toByteS.l0b (fun r => some (laws_toByteS.enc r)) (fun x0z x0 x3 x4 => G laws_toByteS.K0 (laws_toByteS.N0 x0z x0 x3 x4)) k yx0z yx0 yx3 yx4 := by kernel_rfl
theorem laws_toByteS.b_nat {R R' : Type} (e : R → R') (ret : Bool × List Int → Option R) (j0 : Bool → (List Int) → (List Int) → Int → Option R) (k : Nat) (a0z : Bool) (a0 : List Int) : laws_toByteS.b (fun r => (ret r).map e) (fun x0z x0 x3 x4 => (j0 x0z x0 x3 x4).map e) k a0z a0 = (laws_toByteS.b ret j0 k a0z a0).map e := by
  unfold laws_toByteS.b
  repeat' first | with_reducible refine nat_cond ?_ ?_ | with_reducible refine nat_bind fun _ => ?_ | rfl
theorem laws_toByteS.l0b_nat {R R' : Type} (e : R → R') (ret : Bool × List Int → Option R) (j0 : Bool → (List Int) → (List Int) → Int → Option R) (k : Nat) (x0z : Bool) (x0 : List Int) (x3 : List Int) (x4 : Int) : laws_toByteS.l0b (fun r => (ret r).map e) (fun x0z x0 x3 x4 => (j0 x0z x0 x3 x4).map e) k x0z x0 x3 x4 = (laws_toByteS.l0b ret j0 k x0z x0 x3 x4).map e := by
  unfold laws_toByteS.l0b
  repeat' first | with_reducible refine nat_cond ?_ ?_ | with_reducible refine nat_bind fun _ => ?_ | rfl
theorem laws_toByteS.rounds_eq (a0z : Bool) (a0 : List Int) : ∀ k, (∀ (x0z : Bool) (x0 : List Int) (x3 : List Int) (x4 : Int), rounds Tryd.prog laws_toByteS.Cs (finish Tryd.prog [] Tryd.f71 [.v (.nums 5 .u8 a0z a0)]) 100000 k laws_toByteS.K0 (laws_toByteS.N0 x0z x0 x3 x4) = (laws_toByteS.l0 k x0z x0 x3 x4).map laws_toByteS.enc)
  | 0 => fun _ _ _ _ => rfl
  | k + 1 => by
    have ih := laws_toByteS.rounds_eq a0z a0 k
    refine fun _ _ _ _ => ?_
    · refine (laws_toByteS.s0 k _ a0z a0 _ _ _ _).trans (Eq.trans ?_ (laws_toByteS.l0b_nat laws_toByteS.enc some (laws_toByteS.l0 k) k _ _ _ _))
      simp only [ih, Option.map_some]
theorem laws_toByteS.eq (k : Nat) (a0z : Bool) (a0 : List Int) : answer Tryd.prog laws_toByteS.Cs 100000 laws_toByteS.cuts [] Tryd.f71 (k + 1) [.v (.nums 5 .u8 a0z a0)] = (laws_toByteS.f (k + 1) a0z a0).map laws_toByteS.enc := by
  have ih := laws_toByteS.rounds_eq a0z a0 k
  refine (laws_toByteS.s k a0z a0).trans (Eq.trans ?_ (laws_toByteS.b_nat laws_toByteS.enc some (laws_toByteS.l0 k) k a0z a0))
  simp only [ih, Option.map_some]
theorem laws_toByteS.sound (k : Nat) : SoundF Tryd.prog 71 (fun a => (laws_toByteS.ans k a).val) := by
  refine sound_plain (fun args res h => ?_) (fun t n => rfl)
  unfold laws_toByteS.ans at h
  dsimp only at h
  split at h
  · cases k with
    | zero => cases h
    | succ k =>
      unfold Ans.val at h
      rw [← laws_toByteS.eq] at h
      exact answer_sound mixed Tryd.func71 _ _ _ (k + 1) (fun j _ => tab_sound (tab_nil)) _ _ h
  · exact (Ans.no_val h).elim

/-! loop.example/g00790/laws.toByteSS -/
def laws_toByteSS.b {R : Type} (ret : Bool × List T → Option R) (j0 : Bool → (List T) → (List T) → Int → Option R) (k : Nat) (a0z : Bool) (a0 : List T) : Option R :=
  cond (decide (((a0).length : Int) = ((a0).length : Int))) (cond (decide ((0 : Int) ≤ ((a0).length : Int))) (cond (decide ((a0).length < 5864062014805)) (j0 a0z a0 (List.replicate (a0).length (.nums 5 .u8 true ([] : List Int))) 0) (none)) (none)) (none)
def laws_toByteSS.l0b {R : Type} (ret : Bool × List T → Option R) (j0 : Bool → (List T) → (List T) → Int → Option R) (k : Nat) (x0z : Bool) (x0 : List T) (x3 : List T) (x4 : Int) : Option R :=
  cond (decide (x4 < ((x0).length : Int))) (cond (decide ((0 : Int) ≤ x4)) (cond (decide (x4 < ((x0).length : Int))) ((laws_toByteS.f k (((((x0).getD (x4).toNat .bad).cells.getD 0 .bad)).isNil) (((((x0).getD (x4).toNat .bad).cells.getD 0 .bad)).toNums)).bind fun t0 => cond (decide ((0 : Int) ≤ x4)) (cond (decide (x4 < ((x3).length : Int))) (j0 x0z x0 ((x3).set (x4).toNat (.nums 5 .u8 t0.1 t0.2)) (RowKit.wrap64 (x4 + 1))) (none)) (none)) (none)) (none)) (ret (false, x3))
def laws_toByteSS.l0 : Nat → Bool → (List T) → (List T) → Int → Option (Bool × List T)
  | 0, _, _, _, _ => none
  | k + 1, x0z, x0, x3, x4 => laws_toByteSS.l0b some (laws_toByteSS.l0 k) k x0z x0 x3 x4
def laws_toByteSS.f : Nat → Bool → (List T) → Option (Bool × List T)
  | 0, _, _ => none
  | k + 1, a0z, a0 => laws_toByteSS.b some (laws_toByteSS.l0 k) k a0z a0
def laws_toByteSS.enc (r : Bool × List T) : Res := ⟨[.vals false [((.sl 28 r.1 r.2), true)]], []⟩
def laws_toByteSS.ans (k : Nat) : List Arg → Ans
  | [.v (.sl 28 a0z a0)] => ⟨laws_toByteSS.f k a0z a0, laws_toByteSS.enc⟩
  | _ => Ans.no
def laws_toByteSS.Cs (k : Nat) : CallSem := tab [(71, laws_toByteS.ans k)]
def laws_toByteSS.cuts : List (Nat × Keep) := [(58, ⟨[(0, some []), (3, none), (4, some [])], []⟩)]
noncomputable def laws_toByteSS.K0 : List Fr := framesAt [true, true, false, true, false] (bodyOf Tryd.f78 laws_toByteSS.cuts) []
def laws_toByteSS.N0 (x0z : Bool) (x0 : List T) (x3 : List T) (x4 : Int) : St := stOf 23 23 1 [(0, .val ⟨(.sl 28 x0z x0), [], false, none⟩), (3, .val ⟨(.sl 28 false x3), [.l 3 0], true, some (.l 3 0)⟩), (4, .val (V.s (.int .i64 x4)))] []
theorem laws_toByteSS.s (k : Nat) (a0z : Bool) (a0 : List T) : answer Tryd.prog laws_toByteSS.Cs 100000 laws_toByteSS.cuts [] Tryd.f78 (k + 1) [.v (.sl 28 a0z a0)] = laws_toByteSS.b (fun r => some (laws_toByteSS.enc r)) (fun x0z x0 x3 x4 => rounds Tryd.prog laws_toByteSS.Cs (finish Tryd.prog [] Tryd.f78 [.v (.sl 28 a0z a0)]) 100000 k laws_toByteSS.K0 (laws_toByteSS.N0 x0z x0 x3 x4)) k a0z a0 := by kernel_rfl
theorem laws_toByteSS.s0 (k : Nat) (G : List Fr → St → Option Res) (a0z : Bool) (a0 : List T) (yx0z : Bool) (yx0 : List T) (yx3 : List T) (yx4 : Int) : resume Tryd.prog (laws_toByteSS.Cs k) G (finish Tryd.prog [] Tryd.f78 [.v (.sl 28 a0z a0)]) 100000 laws_toByteSS.K0 (laws_toByteSS.N0 yx0z yx0 yx3 yx4) = laws_toByteSS.l0b (fun r => some (laws_toByteSS.enc r)) (fun x0z x0 x3 x4 => G laws_toByteSS.K0 (laws_toByteSS.N0 x0z x0 x3 x4)) k yx0z yx0 yx3 yx4 := by kernel_rfl
theorem laws_toByteSS.b_nat {R R' : Type} (e : R → R') (ret : Bool × List T → Option R) (j0 : Bool → (List T) → (List T) → Int → Option R) (k : Nat) (a0z : Bool) (a0 : List T) : laws_toByteSS.b (fun r => (ret r).map e) (fun x0z x0 x3 x4 => (j0 x0z x0 x3 x4).map e) k a0z a0 = (laws_toByteSS.b ret j0 k a0z a0).map e := by
  unfold laws_toByteSS.b
  repeat' first | with_reducible refine nat_cond ?_ ?_ | with_reducible refine nat_bind fun _ => ?_ | rfl
theorem laws_toByteSS.l0b_nat {R R' : Type} (e : R → R') (ret : Bool × List T → Option R) (j0 : Bool → (List T) → (List T) → Int → Option R) (k : Nat) (x0z : Bool) (x0 : List T) (x3 : List T) (x4 : Int) : laws_toByteSS.l0b (fun r => (ret r).map e) (fun x0z x0 x3 x4 => (j0 x0z x0 x3 x4).map e) k x0z x0 x3 x4 = (laws_toByteSS.l0b ret j0 k x0z x0 x3 x4).map e := by
  unfold laws_toByteSS.l0b
  repeat' first | with_reducible refine nat_cond ?_ ?_ | with_reducible refine nat_bind fun _ => ?_ | rfl
theorem laws_toByteSS.rounds_eq (a0z : Bool) (a0 : List T) : ∀ k, (∀ (x0z : Bool) (x0 : List T) (x3 : List T) (x4 : Int), rounds Tryd.prog laws_toByteSS.Cs (finish Tryd.prog [] Tryd.f78 [.v (.sl 28 a0z a0)]) 100000 k laws_toByteSS.K0 (laws_toByteSS.N0 x0z x0 x3 x4) = (laws_toByteSS.l0 k x0z x0 x3 x4).map laws_toByteSS.enc)
  | 0 => fun _ _ _ _ => rfl
  | k + 1 => by
    have ih := laws_toByteSS.rounds_eq a0z a0 k
    refine fun _ _ _ _ => ?_
    · refine (laws_toByteSS.s0 k _ a0z a0 _ _ _ _).trans (Eq.trans ?_ (laws_toByteSS.l0b_nat laws_toByteSS.enc some (laws_toByteSS.l0 k) k _ _ _ _))
      simp only [ih, Option.map_some]
theorem laws_toByteSS.eq (k : Nat) (a0z : Bool) (a0 : List T) : answer Tryd.prog laws_toByteSS.Cs 100000 laws_toByteSS.cuts [] Tryd.f78 (k + 1) [.v (.sl 28 a0z a0)] = (laws_toByteSS.f (k + 1) a0z a0).map laws_toByteSS.enc := by
  have ih := laws_toByteSS.rounds_eq a0z a0 k
  refine (laws_toByteSS.s k a0z a0).trans (Eq.trans ?_ (laws_toByteSS.b_nat laws_toByteSS.enc some (laws_toByteSS.l0 k) k a0z a0))
  simp only [ih, Option.map_some]
theorem laws_toByteSS.sound (k : Nat) : SoundF Tryd.prog 78 (fun a => (laws_toByteSS.ans k a).val) := by
  refine sound_plain (fun args res h => ?_) (fun t n => rfl)
  unfold laws_toByteSS.ans at h
  dsimp only at h
  split at h
  · cases k with
    | zero => cases h
    | succ k =>
      unfold Ans.val at h
      rw [← laws_toByteSS.eq] at h
      exact answer_sound mixed Tryd.func78 _ _ _ (k + 1) (fun j _ => tab_sound (tab_cons (laws_toByteS.sound j) (tab_nil))) _ _ h
  · exact (Ans.no_val h).elim

/-! loop.example/g00790/laws.toQc -/
def laws_toQc.b {R : Type} (ret : Int × Int × Bool × (List Int) × Bool × (List Int) × Bool × List T → Option R) (k : Nat) (a0_0 : Int) (a0_1 : Int) (a0_2z : Bool) (a0_2 : List Int) (a0_3z : Bool) (a0_3 : List Int) (a0_4z : Bool) (a0_4 : List T) : Option R :=
  (laws_toByteS.f k a0_2z a0_2).bind fun t0 => (laws_toByteS.f k a0_3z a0_3).bind fun t1 => (laws_toByteSS.f k a0_4z a0_4).bind fun t2 => ret (a0_0, a0_1, t0.1, t0.2, t1.1, t1.2, t2.1, t2.2)
def laws_toQc.f : Nat → Int → Int → Bool → (List Int) → Bool → (List Int) → Bool → (List T) → Option (Int × Int × Bool × (List Int) × Bool × (List Int) × Bool × List T)
  | 0, _, _, _, _, _, _, _, _ => none
  | k + 1, a0_0, a0_1, a0_2z, a0_2, a0_3z, a0_3, a0_4z, a0_4 => laws_toQc.b some k a0_0 a0_1 a0_2z a0_2 a0_3z a0_3 a0_4z a0_4
def laws_toQc.enc (r : Int × Int × Bool × (List Int) × Bool × (List Int) × Bool × List T) : Res := ⟨[.vals true [((.int .i64 r.1), true), ((.int .i64 r.2.1), true), ((.nums 5 .u8 r.2.2.1 r.2.2.2.1), true), ((.nums 5 .u8 r.2.2.2.2.1 r.2.2.2.2.2.1), true), ((.sl 28 r.2.2.2.2.2.2.1 r.2.2.2.2.2.2.2), true)]], []⟩
def laws_toQc.ans (k : Nat) : List Arg → Ans
  | [.v (.agg [(.int .i64 a0_0), (.int .i64 a0_1), (.nums 5 .u8 a0_2z a0_2), (.nums 5 .u8 a0_3z a0_3), (.sl 28 a0_4z a0_4)])] => ⟨laws_toQc.f k a0_0 a0_1 a0_2z a0_2 a0_3z a0_3 a0_4z a0_4, laws_toQc.enc⟩
  | _ => Ans.no
def laws_toQc.Cs (k : Nat) : CallSem := tab [(71, laws_toByteS.ans k), (78, laws_toByteSS.ans k)]
def laws_toQc.cuts : List (Nat × Keep) := []
theorem laws_toQc.s (k : Nat) (a0_0 : Int) (a0_1 : Int) (a0_2z : Bool) (a0_2 : List Int) (a0_3z : Bool) (a0_3 : List Int) (a0_4z : Bool) (a0_4 : List T) : answer Tryd.prog laws_toQc.Cs 100000 laws_toQc.cuts [] Tryd.f53 (k + 1) [.v (.agg [(.int .i64 a0_0), (.int .i64 a0_1), (.nums 5 .u8 a0_2z a0_2), (.nums 5 .u8 a0_3z a0_3), (.sl 28 a0_4z a0_4)])] = laws_toQc.b (fun r => some (laws_toQc.enc r)) k a0_0 a0_1 a0_2z a0_2 a0_3z a0_3 a0_4z a0_4 := by kernel_rfl
theorem laws_toQc.b_nat {R R' : Type} (e : R → R') (ret : Int × Int × Bool × (List Int) × Bool × (List Int) × Bool × List T → Option R) (k : Nat) (a0_0 : Int) (a0_1 : Int) (a0_2z : Bool) (a0_2 : List Int) (a0_3z : Bool) (a0_3 : List Int) (a0_4z : Bool) (a0_4 : List T) : laws_toQc.b (fun r => (ret r).map e) k a0_0 a0_1 a0_2z a0_2 a0_3z a0_3 a0_4z a0_4 = (laws_toQc.b ret k a0_0 a0_1 a0_2z a0_2 a0_3z a0_3 a0_4z a0_4).map e := by
  unfold laws_toQc.b
  repeat' first | with_reducible refine nat_cond ?_ ?_ | with_reducible refine nat_bind fun _ => ?_ | rfl
theorem laws_toQc.eq (k : Nat) (a0_0 : Int) (a0_1 : Int) (a0_2z : Bool) (a0_2 : List Int) (a0_3z : Bool) (a0_3 : List Int) (a0_4z : Bool) (a0_4 : List T) : answer Tryd.prog laws_toQc.Cs 100000 laws_toQc.cuts [] Tryd.f53 (k + 1) [.v (.agg [(.int .i64 a0_0), (.int .i64 a0_1), (.nums 5 .u8 a0_2z a0_2), (.nums 5 .u8 a0_3z a0_3), (.sl 28 a0_4z a0_4)])] = (laws_toQc.f (k + 1) a0_0 a0_1 a0_2z a0_2 a0_3z a0_3 a0_4z a0_4).map laws_toQc.enc := by
  refine (laws_toQc.s k a0_0 a0_1 a0_2z a0_2 a0_3z a0_3 a0_4z a0_4).trans (Eq.trans ?_ (laws_toQc.b_nat laws_toQc.enc some k a0_0 a0_1 a0_2z a0_2 a0_3z a0_3 a0_4z a0_4))
  simp only [Option.map_some]
theorem laws_toQc.sound (k : Nat) : SoundF Tryd.prog 53 (fun a => (laws_toQc.ans k a).val) := by
  refine sound_plain (fun args res h => ?_) (fun t n => rfl)
  unfold laws_toQc.ans at h
  dsimp only at h
  split at h
  · cases k with
    | zero => cases h
    | succ k =>
      unfold Ans.val at h
      rw [← laws_toQc.eq] at h
      exact answer_sound mixed Tryd.func53 _ _ _ (k + 1) (fun j _ => tab_sound (tab_cons (laws_toByteS.sound j) (tab_cons (laws_toByteSS.sound j) (tab_nil)))) _ _ h
  · exact (Ans.no_val h).elim

/-! loop.example/g00790/spec.BitsHas -/
def spec_BitsHas.b {R : Type} (ret : Bool → Option R) (k : Nat) (a0z : Bool) (a0 : List Int) (a1 : Int) : Option R :=
  cond (decide (a1 ≥ 0)) (cond (decide ((RowKit.wrap64 (Int.tdiv a1 8)) < ((a0).length : Int))) (cond (decide ((0 : Int) ≤ (RowKit.wrap64 (Int.tdiv a1 8)))) (cond (decide ((RowKit.wrap64 (Int.tdiv a1 8)) < ((a0).length : Int))) (cond (decide ((0 : Int) ≤ (Int.tmod a1 8))) (ret (decide ((Int.tmod (shrI .i64 (RowKit.wrap64 ((rdI a0 (RowKit.wrap64 (Int.tdiv a1 8))))) (Int.tmod a1 8)) 2) = 1))) (none)) (none)) (none)) (ret false)) (ret false)
def spec_BitsHas.f : Nat → Bool → (List Int) → Int → Option Bool
  | 0, _, _, _ => none
  | k + 1, a0z, a0, a1 => spec_BitsHas.b some k a0z a0 a1
def spec_BitsHas.enc (r : Bool) : Res := ⟨[.vals false [((.bool r), true)]], []⟩
def spec_BitsHas.ans (k : Nat) : List Arg → Ans
  | [.v (.nums 5 .u8 a0z a0), .v (.int .i64 a1)] => ⟨spec_BitsHas.f k a0z a0 a1, spec_BitsHas.enc⟩
  | _ => Ans.no
def spec_BitsHas.Cs (k : Nat) : CallSem := tab []
def spec_BitsHas.cuts : List (Nat × Keep) := []
theorem spec_BitsHas.s (k : Nat) (a0z : Bool) (a0 : List Int) (a1 : Int) : answer Tryd.prog spec_BitsHas.Cs 100000 spec_BitsHas.cuts [] Tryd.f122 (k + 1) [.v (.nums 5 .u8 a0z a0), .v (.int .i64 a1)] = spec_BitsHas.b (fun r => some (spec_BitsHas.enc r)) k a0z a0 a1 := by kernel_rfl
theorem spec_BitsHas.b_nat {R R' : Type} (e : R → R') (ret : Bool → Option R) (k : Nat) (a0z : Bool) (a0 : List Int) (a1 : Int) : spec_BitsHas.b (fun r => (ret r).map e) k a0z a0 a1 = (spec_BitsHas.b ret k a0z a0 a1).map e := by
  unfold spec_BitsHas.b
  repeat' first | with_reducible refine nat_cond ?_ ?_ | with_reducible refine nat_bind fun _ => ?_ | rfl
theorem spec_BitsHas.eq (k : Nat) (a0z : Bool) (a0 : List Int) (a1 : Int) : answer Tryd.prog spec_BitsHas.Cs 100000 spec_BitsHas.cuts [] Tryd.f122 (k + 1) [.v (.nums 5 .u8 a0z a0), .v (.int .i64 a1)] = (spec_BitsHas.f (k + 1) a0z a0 a1).map spec_BitsHas.enc := by
  refine (spec_BitsHas.s k a0z a0 a1).trans (Eq.trans ?_ (spec_BitsHas.b_nat spec_BitsHas.enc some k a0z a0 a1))
  simp only [Option.map_some]
theorem spec_BitsHas.sound (k : Nat) : SoundF Tryd.prog 122 (fun a => (spec_BitsHas.ans k a).val) := by
  refine sound_plain (fun args res h => ?_) (fun t n => rfl)
  unfold spec_BitsHas.ans at h
  dsimp only at h
  split at h
  · cases k with
    | zero => cases h
    | succ k =>
      unfold Ans.val at h
      rw [← spec_BitsHas.eq] at h
      exact answer_sound mixed Tryd.func122 _ _ _ (k + 1) (fun j _ => tab_sound (tab_nil)) _ _ h
  · exact (Ans.no_val h).elim

/-! loop.example/g00790/spec.BitsList -/
def spec_BitsList.b {R : Type} (ret : Bool × List Int → Option R) (j0 : Bool → (List Int) → (List Int) → Int → Option R) (k : Nat) (a0z : Bool) (a0 : List Int) : Option R :=
  j0 a0z a0 ([] : List Int) 0
def spec_BitsList.l0b {R : Type} (ret : Bool × List Int → Option R) (j0 : Bool → (List Int) → (List Int) → Int → Option R) (k : Nat) (x0z : Bool) (x0 : List Int) (x3 : List Int) (x4 : Int) : Option R :=
  cond (decide (x4 < (RowKit.wrap64 ((8 : Int) * ((x0).length : Int))))) ((spec_BitsHas.f k x0z x0 x4).bind fun t0 => cond t0 (cond (decide ((x3).length + 1 < 17592186044416)) (j0 x0z x0 (x3 ++ ([x4] : List Int)) (RowKit.wrap64 (x4 + 1))) (none)) (j0 x0z x0 x3 (RowKit.wrap64 (x4 + 1)))) (ret (false, x3))
def spec_BitsList.l0 : Nat → Bool → (List Int) → (List Int) → Int → Option (Bool × List Int)
  | 0, _, _, _, _ => none
  | k + 1, x0z, x0, x3, x4 => spec_BitsList.l0b some (spec_BitsList.l0 k) k x0z x0 x3 x4
def spec_BitsList.f : Nat → Bool → (List Int) → Option (Bool × List Int)
  | 0, _, _ => none
  | k + 1, a0z, a0 => spec_BitsList.b some (spec_BitsList.l0 k) k a0z a0
def spec_BitsList.enc (r : Bool × List Int) : Res := ⟨[.vals false [((.nums 3 .i64 r.1 r.2), true)]], []⟩
def spec_BitsList.ans (k : Nat) : List Arg → Ans
  | [.v (.nums 5 .u8 a0z a0)] => ⟨spec_BitsList.f k a0z a0, spec_BitsList.enc⟩
  | _ => Ans.no
def spec_BitsList.Cs (k : Nat) : CallSem := tab [(122, spec_BitsHas.ans k)]
def spec_BitsList.cuts : List (Nat × Keep) := [(58, ⟨[(0, some []), (3, none), (4, some [])], []⟩)]
noncomputable def spec_BitsList.K0 : List Fr := framesAt [true, true, false, true, false] (bodyOf Tryd.f94 spec_BitsList.cuts) []
def spec_BitsList.N0 (x0z : Bool) (x0 : List Int) (x3 : List Int) (x4 : Int) : St := stOf 21 21 1 [(0, .val ⟨(.nums 5 .u8 x0z x0), [], false, none⟩), (3, .val ⟨(.nums 3 .i64 false x3), [.l 3 0], true, some (.l 3 0)⟩), (4, .val (V.s (.int .i64 x4)))] []
theorem spec_BitsList.s (k : Nat) (a0z : Bool) (a0 : List Int) : answer Tryd.prog spec_BitsList.Cs 100000 spec_BitsList.cuts [] Tryd.f94 (k + 1) [.v (.nums 5 .u8 a0z a0)] = spec_BitsList.b (fun r => some (spec_BitsList.enc r)) (fun x0z x0 x3 x4 => rounds Tryd.prog spec_BitsList.Cs (finish Tryd.prog [] Tryd.f94 [.v (.nums 5 .u8 a0z a0)]) 100000 k spec_BitsList.K0 (spec_BitsList.N0 x0z x0 x3 x4)) k a0z a0 := by kernel_rfl
theorem spec_BitsList.s0 (k : Nat) (G : List Fr → St → Option Res) (a0z : Bool) (a0 : List Int) (yx0z : Bool) (yx0 : List Int) (yx3 : List Int) (yx4 : Int) : resume Tryd.prog (spec_BitsList.Cs k) G (finish Tryd.prog [] Tryd.f94 [.v (.nums 5 .u8 a0z a0)]) 100000 spec_BitsList.K0 (spec_BitsList.N0 yx0z yx0 yx3 yx4) = spec_BitsList.l0b (fun r => some (spec_BitsList.enc r)) (fun x0z x0 x3 x4 => G spec_BitsList.K0 (spec_BitsList.N0 x0z x0 x3 x4)) k yx0z yx0 yx3 yx4 := by kernel_rfl
theorem spec_BitsList.b_nat {R R' : Type} (e : R → R') (ret : Bool × List Int → Option R) (j0 : Bool → (List Int) → (List Int) → Int → Option R) (k : Nat) (a0z : Bool) (a0 : List Int) : spec_BitsList.b (fun r => (ret r).map e) (fun x0z x0 x3 x4 => (j0 x0z x0 x3 x4).map e) k a0z a0 = (spec_BitsList.b ret j0 k a0z a0).map e := by
  unfold spec_BitsList.b
  repeat' first | with_reducible refine nat_cond ?_ ?_ | with_reducible refine nat_bind fun _ => ?_ | rfl
theorem spec_BitsList.l0b_nat {R R' : Type} (e : R → R') (ret : Bool × List Int → Option R) (j0 : Bool → (List Int) → (List Int) → Int → Option R) (k : Nat) (x0z : Bool) (x0 : List Int) (x3 : List Int) (x4 : Int) : spec_BitsList.l0b (fun r => (ret r).map e) (fun x0z x0 x3 x4 => (j0 x0z x0 x3 x4).map e) k x0z x0 x3 x4 = (spec_BitsList.l0b ret j0 k x0z x0 x3 x4).map e := by
  unfold spec_BitsList.l0b
  repeat' first | with_reducible refine nat_cond ?_ ?_ | with_reducible refine nat_bind fun _ => ?_ | rfl
theorem spec_BitsList.rounds_eq (a0z : Bool) (a0 : List Int) : ∀ k, (∀ (x0z : Bool) (x0 : List Int) (x3 : List Int) (x4 : Int), rounds Tryd.prog spec_BitsList.Cs (finish Tryd.prog [] Tryd.f94 [.v (.nums 5 .u8 a0z a0)]) 100000 k spec_BitsList.K0 (spec_BitsList.N0 x0z x0 x3 x4) = (spec_BitsList.l0 k x0z x0 x3 x4).map spec_BitsList.enc)
  | 0 => fun _ _ _ _ => rfl
  | k + 1 => by
    have ih := spec_BitsList.rounds_eq a0z a0 k
    refine fun _ _ _ _ => ?_
    · refine (spec_BitsList.s0 k _ a0z a0 _ _ _ _).trans (Eq.trans ?_ (spec_BitsList.l0b_nat spec_BitsList.enc some (spec_BitsList.l0 k) k _ _ _ _))
      simp only [ih, Option.map_some]
theorem spec_BitsList.eq (k : Nat) (a0z : Bool) (a0 : List Int) : answer Tryd.prog spec_BitsList.Cs 100000 spec_BitsList.cuts [] Tryd.f94 (k + 1) [.v (.nums 5 .u8 a0z a0)] = (spec_BitsList.f (k + 1) a0z a0).map spec_BitsList.enc := by
  have ih := spec_BitsList.rounds_eq a0z a0 k
  refine (spec_BitsList.s k a0z a0).trans (Eq.trans ?_ (spec_BitsList.b_nat spec_BitsList.enc some (spec_BitsList.l0 k) k a0z a0))
  simp only [ih, Option.map_some]
theorem spec_BitsList.sound (k : Nat) : SoundF Tryd.prog 94 (fun a => (spec_BitsList.ans k a).val) := by
  refine sound_plain (fun args res h => ?_) (fun t n => rfl)
  unfold spec_BitsList.ans at h
  dsimp only at h
  split at h
  · cases k with
    | zero => cases h
    | succ k =>
      unfold Ans.val at h
      rw [← spec_BitsList.eq] at h
      exact answer_sound mixed Tryd.func94 _ _ _ (k + 1) (fun j _ => tab_sound (tab_cons (spec_BitsHas.sound j) (tab_nil))) _ _ h
  · exact (Ans.no_val h).elim

/-! loop.example/g00790/spec.l01In -/
def spec_l01In.b {R : Type} (ret : Bool → Option R) (k : Nat) (a0 : Int) (a1 : Int) (a2 : Int) : Option R :=
  cond (decide (a0 ≥ a1)) (ret (decide (a0 ≤ a2))) (ret false)
def spec_l01In.f : Nat → Int → Int → Int → Option Bool
  | 0, _, _, _ => none
  | k + 1, a0, a1, a2 => spec_l01In.b some k a0 a1 a2
def spec_l01In.enc (r : Bool) : Res := ⟨[.vals false [((.bool r), true)]], []⟩
def spec_l01In.ans (k : Nat) : List Arg → Ans
  | [.v (.int .i64 a0), .v (.int .i64 a1), .v (.int .i64 a2)] => ⟨spec_l01In.f k a0 a1 a2, spec_l01In.enc⟩
  | _ => Ans.no
def spec_l01In.Cs (k : Nat) : CallSem := tab []
def spec_l01In.cuts : List (Nat × Keep) := []
theorem spec_l01In.s (k : Nat) (a0 : Int) (a1 : Int) (a2 : Int) : answer Tryd.prog spec_l01In.Cs 100000 spec_l01In.cuts [] Tryd.f107 (k + 1) [.v (.int .i64 a0), .v (.int .i64 a1), .v (.int .i64 a2)] = spec_l01In.b (fun r => some (spec_l01In.enc r)) k a0 a1 a2 := by kernel_rfl
theorem spec_l01In.b_nat {R R' : Type} (e : R → R') (ret : Bool → Option R) (k : Nat) (a0 : Int) (a1 : Int) (a2 : Int) : spec_l01In.b (fun r => (ret r).map e) k a0 a1 a2 = (spec_l01In.b ret k a0 a1 a2).map e := by
  unfold spec_l01In.b
  repeat' first | with_reducible refine nat_cond ?_ ?_ | with_reducible refine nat_bind fun _ => ?_ | rfl
theorem spec_l01In.eq (k : Nat) (a0 : Int) (a1 : Int) (a2 : Int) : answer Tryd.prog spec_l01In.Cs 100000 spec_l01In.cuts [] Tryd.f107 (k + 1) [.v (.int .i64 a0), .v (.int .i64 a1), .v (.int .i64 a2)] = (spec_l01In.f (k + 1) a0 a1 a2).map spec_l01In.enc := by
  refine (spec_l01In.s k a0 a1 a2).trans (Eq.trans ?_ (spec_l01In.b_nat spec_l01In.enc some k a0 a1 a2))
  simp only [Option.map_some]
theorem spec_l01In.sound (k : Nat) : SoundF Tryd.prog 107 (fun a => (spec_l01In.ans k a).val) := by
  refine sound_plain (fun args res h => ?_) (fun t n => rfl)
  unfold spec_l01In.ans at h
  dsimp only at h
  split at h
  · cases k with
    | zero => cases h
    | succ k =>
      unfold Ans.val at h
      rw [← spec_l01In.eq] at h
      exact answer_sound mixed Tryd.func107 _ _ _ (k + 1) (fun j _ => tab_sound (tab_nil)) _ _ h
  · exact (Ans.no_val h).elim

/-! loop.example/g00790/spec.l01Num -/
def spec_l01Num.b {R : Type} (ret : Bool → Option R) (k : Nat) (a0 : Int) : Option R :=
  (spec_l01In.f k a0 0 1152921504606846975).bind fun t0 => ret t0
def spec_l01Num.f : Nat → Int → Option Bool
  | 0, _ => none
  | k + 1, a0 => spec_l01Num.b some k a0
def spec_l01Num.enc (r : Bool) : Res := ⟨[.vals false [((.bool r), true)]], []⟩
def spec_l01Num.ans (k : Nat) : List Arg → Ans
  | [.v (.int .i64 a0)] => ⟨spec_l01Num.f k a0, spec_l01Num.enc⟩
  | _ => Ans.no
def spec_l01Num.Cs (k : Nat) : CallSem := tab [(107, spec_l01In.ans k)]
def spec_l01Num.cuts : List (Nat × Keep) := []
theorem spec_l01Num.s (k : Nat) (a0 : Int) : answer Tryd.prog spec_l01Num.Cs 100000 spec_l01Num.cuts [] Tryd.f106 (k + 1) [.v (.int .i64 a0)] = spec_l01Num.b (fun r => some (spec_l01Num.enc r)) k a0 := by kernel_rfl
theorem spec_l01Num.b_nat {R R' : Type} (e : R → R') (ret : Bool → Option R) (k : Nat) (a0 : Int) : spec_l01Num.b (fun r => (ret r).map e) k a0 = (spec_l01Num.b ret k a0).map e := by
  unfold spec_l01Num.b
  repeat' first | with_reducible refine nat_cond ?_ ?_ | with_reducible refine nat_bind fun _ => ?_ | rfl
theorem spec_l01Num.eq (k : Nat) (a0 : Int) : answer Tryd.prog spec_l01Num.Cs 100000 spec_l01Num.cuts [] Tryd.f106 (k + 1) [.v (.int .i64 a0)] = (spec_l01Num.f (k + 1) a0).map spec_l01Num.enc := by
  refine (spec_l01Num.s k a0).trans (Eq.trans ?_ (spec_l01Num.b_nat spec_l01Num.enc some k a0))
  simp only [Option.map_some]
theorem spec_l01Num.sound (k : Nat) : SoundF Tryd.prog 106 (fun a => (spec_l01Num.ans k a).val) := by
  refine sound_plain (fun args res h => ?_) (fun t n => rfl)
  unfold spec_l01Num.ans at h
  dsimp only at h
  split at h
  · cases k with
    | zero => cases h
    | succ k =>
      unfold Ans.val at h
      rw [← spec_l01Num.eq] at h
      exact answer_sound mixed Tryd.func106 _ _ _ (k + 1) (fun j _ => tab_sound (tab_cons (spec_l01In.sound j) (tab_nil))) _ _ h
  · exact (Ans.no_val h).elim

/-! loop.example/g00790/spec.NumText -/
def spec_NumText.b {R : Type} (ret : ByteArray → Option R) (j0 : Int → ByteArray → Option R) (k : Nat) (a0 : Int) : Option R :=
  (spec_l01Num.f k a0).bind fun t0 => cond (!t0) (ret (⟨#[]⟩ : ByteArray)) (j0 a0 (⟨#[]⟩ : ByteArray))
def spec_NumText.l0b {R : Type} (ret : ByteArray → Option R) (j0 : Int → ByteArray → Option R) (k : Nat) (x0 : Int) (x3 : ByteArray) : Option R :=
  cond (decide (x0 > 9)) (cond (decide (((strOf ([(((RowKit.wrap64 ((48 : Int) + (Int.tmod x0 10)))) % 256)] : List Int))).size + (x3).size ≤ 140737488355328)) (j0 (RowKit.wrap64 (Int.tdiv x0 10)) ((strOf ([(((RowKit.wrap64 ((48 : Int) + (Int.tmod x0 10)))) % 256)] : List Int)) ++ x3)) (none)) (cond (decide (((strOf ([(((RowKit.wrap64 ((48 : Int) + x0))) % 256)] : List Int))).size + (x3).size ≤ 140737488355328)) (ret ((strOf ([(((RowKit.wrap64 ((48 : Int) + x0))) % 256)] : List Int)) ++ x3)) (none))
def spec_NumText.l0 : Nat → Int → ByteArray → Option ByteArray
  | 0, _, _ => none
  | k + 1, x0, x3 => spec_NumText.l0b some (spec_NumText.l0 k) k x0 x3
def spec_NumText.f : Nat → Int → Option ByteArray
  | 0, _ => none
  | k + 1, a0 => spec_NumText.b some (spec_NumText.l0 k) k a0
def spec_NumText.enc (r : ByteArray) : Res := ⟨[.vals false [((.str r), true)]], []⟩
def spec_NumText.ans (k : Nat) : List Arg → Ans
  | [.v (.int .i64 a0)] => ⟨spec_NumText.f k a0, spec_NumText.enc⟩
  | _ => Ans.no
def spec_NumText.Cs (k : Nat) : CallSem := tab [(106, spec_l01Num.ans k)]
def spec_NumText.cuts : List (Nat × Keep) := [(60, ⟨[(0, some []), (3, some [])], []⟩)]
noncomputable def spec_NumText.K0 : List Fr := framesAt [true, true, true, false, false] (bodyOf Tryd.f63 spec_NumText.cuts) []
def spec_NumText.N0 (x0 : Int) (x3 : ByteArray) : St := stOf 26 26 1 [(0, .val (V.s (.int .i64 x0))), (3, .val (V.s (.str x3)))] []
theorem spec_NumText.s (k : Nat) (a0 : Int) : answer Tryd.prog spec_NumText.Cs 100000 spec_NumText.cuts [] Tryd.f63 (k + 1) [.v (.int .i64 a0)] = spec_NumText.b (fun r => some (spec_NumText.enc r)) (fun x0 x3 => rounds Tryd.prog spec_NumText.Cs (finish Tryd.prog [] Tryd.f63 [.v (.int .i64 a0)]) 100000 k spec_NumText.K0 (spec_NumText.N0 x0 x3)) k a0 := by kernel_rfl
theorem spec_NumText.s0 (k : Nat) (G : List Fr → St → Option Res) (a0 : Int) (yx0 : Int) (yx3 : ByteArray) : resume Tryd.prog (spec_NumText.Cs k) G (finish Tryd.prog [] Tryd.f63 [.v (.int .i64 a0)]) 100000 spec_NumText.K0 (spec_NumText.N0 yx0 yx3) = spec_NumText.l0b (fun r => some (spec_NumText.enc r)) (fun x0 x3 => G spec_NumText.K0 (spec_NumText.N0 x0 x3)) k yx0 yx3 := by kernel_rfl
theorem spec_NumText.b_nat {R R' : Type} (e : R → R') (ret : ByteArray → Option R) (j0 : Int → ByteArray → Option R) (k : Nat) (a0 : Int) : spec_NumText.b (fun r => (ret r).map e) (fun x0 x3 => (j0 x0 x3).map e) k a0 = (spec_NumText.b ret j0 k a0).map e := by
  unfold spec_NumText.b
  repeat' first | with_reducible refine nat_cond ?_ ?_ | with_reducible refine nat_bind fun _ => ?_ | rfl
theorem spec_NumText.l0b_nat {R R' : Type} (e : R → R') (ret : ByteArray → Option R) (j0 : Int → ByteArray → Option R) (k : Nat) (x0 : Int) (x3 : ByteArray) : spec_NumText.l0b (fun r => (ret r).map e) (fun x0 x3 => (j0 x0 x3).map e) k x0 x3 = (spec_NumText.l0b ret j0 k x0 x3).map e := by
  unfold spec_NumText.l0b
  repeat' first | with_reducible refine nat_cond ?_ ?_ | with_reducible refine nat_bind fun _ => ?_ | rfl
theorem spec_NumText.rounds_eq (a0 : Int) : ∀ k, (∀ (x0 : Int) (x3 : ByteArray), rounds Tryd.prog spec_NumText.Cs (finish Tryd.prog [] Tryd.f63 [.v (.int .i64 a0)]) 100000 k spec_NumText.K0 (spec_NumText.N0 x0 x3) = (spec_NumText.l0 k x0 x3).map spec_NumText.enc)
  | 0 => fun _ _ => rfl
  | k + 1 => by
    have ih := spec_NumText.rounds_eq a0 k
    refine fun _ _ => ?_
    · refine (spec_NumText.s0 k _ a0 _ _).trans (Eq.trans ?_ (spec_NumText.l0b_nat spec_NumText.enc some (spec_NumText.l0 k) k _ _))
      simp only [ih, Option.map_some]
theorem spec_NumText.eq (k : Nat) (a0 : Int) : answer Tryd.prog spec_NumText.Cs 100000 spec_NumText.cuts [] Tryd.f63 (k + 1) [.v (.int .i64 a0)] = (spec_NumText.f (k + 1) a0).map spec_NumText.enc := by
  have ih := spec_NumText.rounds_eq a0 k
  refine (spec_NumText.s k a0).trans (Eq.trans ?_ (spec_NumText.b_nat spec_NumText.enc some (spec_NumText.l0 k) k a0))
  simp only [ih, Option.map_some]
theorem spec_NumText.sound (k : Nat) : SoundF Tryd.prog 63 (fun a => (spec_NumText.ans k a).val) := by
  refine sound_plain (fun args res h => ?_) (fun t n => rfl)
  unfold spec_NumText.ans at h
  dsimp only at h
  split at h
  · cases k with
    | zero => cases h
    | succ k =>
      unfold Ans.val at h
      rw [← spec_NumText.eq] at h
      exact answer_sound mixed Tryd.func63 _ _ _ (k + 1) (fun j _ => tab_sound (tab_cons (spec_l01Num.sound j) (tab_nil))) _ _ h
  · exact (Ans.no_val h).elim

/-! loop.example/g00790/spec.l01Hex -/
def spec_l01Hex.b {R : Type} (ret : Int → Option R) (k : Nat) (a0 : Int) : Option R :=
  cond (decide (a0 < 10)) (ret (((RowKit.wrap64 ((48 : Int) + a0))) % 256)) (ret (((RowKit.wrap64 ((87 : Int) + a0))) % 256))
def spec_l01Hex.f : Nat → Int → Option Int
  | 0, _ => none
  | k + 1, a0 => spec_l01Hex.b some k a0
def spec_l01Hex.enc (r : Int) : Res := ⟨[.vals false [((.int .u8 r), true)]], []⟩
def spec_l01Hex.ans (k : Nat) : List Arg → Ans
  | [.v (.int .i64 a0)] => ⟨spec_l01Hex.f k a0, spec_l01Hex.enc⟩
  | _ => Ans.no
def spec_l01Hex.Cs (k : Nat) : CallSem := tab []
def spec_l01Hex.cuts : List (Nat × Keep) := []
theorem spec_l01Hex.s (k : Nat) (a0 : Int) : answer Tryd.prog spec_l01Hex.Cs 100000 spec_l01Hex.cuts [] Tryd.f111 (k + 1) [.v (.int .i64 a0)] = spec_l01Hex.b (fun r => some (spec_l01Hex.enc r)) k a0 := by kernel_rfl
theorem spec_l01Hex.b_nat {R R' : Type} (e : R → R') (ret : Int → Option R) (k : Nat) (a0 : Int) : spec_l01Hex.b (fun r => (ret r).map e) k a0 = (spec_l01Hex.b ret k a0).map e := by
  unfold spec_l01Hex.b
  repeat' first | with_reducible refine nat_cond ?_ ?_ | with_reducible refine nat_bind fun _ => ?_ | rfl
theorem spec_l01Hex.eq (k : Nat) (a0 : Int) : answer Tryd.prog spec_l01Hex.Cs 100000 spec_l01Hex.cuts [] Tryd.f111 (k + 1) [.v (.int .i64 a0)] = (spec_l01Hex.f (k + 1) a0).map spec_l01Hex.enc := by
  refine (spec_l01Hex.s k a0).trans (Eq.trans ?_ (spec_l01Hex.b_nat spec_l01Hex.enc some k a0))
  simp only [Option.map_some]
theorem spec_l01Hex.sound (k : Nat) : SoundF Tryd.prog 111 (fun a => (spec_l01Hex.ans k a).val) := by
  refine sound_plain (fun args res h => ?_) (fun t n => rfl)
  unfold spec_l01Hex.ans at h
  dsimp only at h
  split at h
  · cases k with
    | zero => cases h
    | succ k =>
      unfold Ans.val at h
      rw [← spec_l01Hex.eq] at h
      exact answer_sound mixed Tryd.func111 _ _ _ (k + 1) (fun j _ => tab_sound (tab_nil)) _ _ h
  · exact (Ans.no_val h).elim

/-! loop.example/g00790/spec.HexText -/
def spec_HexText.b {R : Type} (ret : ByteArray → Option R) (j0 : (List Int) → Bool → (List Int) → Int → Int → Option R) (k : Nat) (a0z : Bool) (a0 : List Int) : Option R :=
  j0 ([] : List Int) a0z a0 ((a0).length : Int) 0
def spec_HexText.l0b {R : Type} (ret : ByteArray → Option R) (j0 : (List Int) → Bool → (List Int) → Int → Int → Option R) (k : Nat) (x3 : List Int) (x7z : Bool) (x7 : List Int) (x8 : Int) (x9 : Int) : Option R :=
  cond (decide (x9 < x8)) (cond (decide ((0 : Int) ≤ x9)) (cond (decide (x9 < ((x7).length : Int))) ((spec_l01Hex.f k (RowKit.wrap64 (Int.tdiv (RowKit.wrap64 ((rdI x7 x9))) 16))).bind fun t0 => (spec_l01Hex.f k (Int.tmod (RowKit.wrap64 ((rdI x7 x9))) 16)).bind fun t1 => cond (decide ((x3).length + 2 < 140737488355328)) (j0 (x3 ++ ([t0, t1] : List Int)) x7z x7 x8 (RowKit.wrap64 (x9 + 1))) (none)) (none)) (none)) (ret (strOf x3))
def spec_HexText.l0 : Nat → (List Int) → Bool → (List Int) → Int → Int → Option ByteArray
  | 0, _, _, _, _, _ => none
  | k + 1, x3, x7z, x7, x8, x9 => spec_HexText.l0b some (spec_HexText.l0 k) k x3 x7z x7 x8 x9
def spec_HexText.f : Nat → Bool → (List Int) → Option ByteArray
  | 0, _, _ => none
  | k + 1, a0z, a0 => spec_HexText.b some (spec_HexText.l0 k) k a0z a0
def spec_HexText.enc (r : ByteArray) : Res := ⟨[.vals false [((.str r), true)]], []⟩
def spec_HexText.ans (k : Nat) : List Arg → Ans
  | [.v (.nums 5 .u8 a0z a0)] => ⟨spec_HexText.f k a0z a0, spec_HexText.enc⟩
  | _ => Ans.no
def spec_HexText.Cs (k : Nat) : CallSem := tab [(111, spec_l01Hex.ans k)]
def spec_HexText.cuts : List (Nat × Keep) := [(58, ⟨[(3, none), (7, some []), (8, some []), (9, some [])], []⟩)]
noncomputable def spec_HexText.K0 : List Fr := framesAt [true, true, false, true, false] (bodyOf Tryd.f77 spec_HexText.cuts) []
def spec_HexText.N0 (x3 : List Int) (x7z : Bool) (x7 : List Int) (x8 : Int) (x9 : Int) : St := stOf 27 27 1 [(3, .val ⟨(.nums 5 .u8 false x3), [.l 3 0], true, some (.l 3 0)⟩), (7, .val ⟨(.nums 5 .u8 x7z x7), [], false, none⟩), (8, .val (V.s (.int .i64 x8))), (9, .val (V.s (.int .i64 x9)))] []
theorem spec_HexText.s (k : Nat) (a0z : Bool) (a0 : List Int) : answer Tryd.prog spec_HexText.Cs 100000 spec_HexText.cuts [] Tryd.f77 (k + 1) [.v (.nums 5 .u8 a0z a0)] = spec_HexText.b (fun r => some (spec_HexText.enc r)) (fun x3 x7z x7 x8 x9 => rounds Tryd.prog spec_HexText.Cs (finish Tryd.prog [] Tryd.f77 [.v (.nums 5 .u8 a0z a0)]) 100000 k spec_HexText.K0 (spec_HexText.N0 x3 x7z x7 x8 x9)) k a0z a0 := by kernel_rfl
theorem spec_HexText.s0 (k : Nat) (G : List Fr → St → Option Res) (a0z : Bool) (a0 : List Int) (yx3 : List Int) (yx7z : Bool) (yx7 : List Int) (yx8 : Int) (yx9 : Int) : resume Tryd.prog (spec_HexText.Cs k) G (finish Tryd.prog [] Tryd.f77 [.v (.nums 5 .u8 a0z a0)]) 100000 spec_HexText.K0 (spec_HexText.N0 yx3 yx7z yx7 yx8 yx9) = spec_HexText.l0b (fun r => some (spec_HexText.enc r)) (fun x3 x7z x7 x8 x9 => G spec_HexText.K0 (spec_HexText.N0 x3 x7z x7 x8 x9)) k yx3 yx7z yx7 yx8 yx9 := by kernel_rfl
theorem spec_HexText.b_nat {R R' : Type} (e : R → R') (ret : ByteArray → Option R) (j0 : (List Int) → Bool → (List Int) → Int → Int → Option R) (k : Nat) (a0z : Bool) (a0 : List Int) : spec_HexText.b (fun r => (ret r).map e) (fun x3 x7z x7 x8 x9 => (j0 x3 x7z x7 x8 x9).map e) k a0z a0 = (spec_HexText.b ret j0 k a0z a0).map e := by
  unfold spec_HexText.b
  repeat' first | with_reducible refine nat_cond ?_ ?_ | with_reducible refine nat_bind fun _ => ?_ | rfl
theorem spec_HexText.l0b_nat {R R' : Type} (e : R → R') (ret : ByteArray → Option R) (j0 : (List Int) → Bool → (List Int) → Int → Int → Option R) (k : Nat) (x3 : List Int) (x7z : Bool) (x7 : List Int) (x8 : Int) (x9 : Int) : spec_HexText.l0b (fun r => (ret r).map e) (fun x3 x7z x7 x8 x9 => (j0 x3 x7z x7 x8 x9).map e) k x3 x7z x7 x8 x9 = (spec_HexText.l0b ret j0 k x3 x7z x7 x8 x9).map e := by
  unfold spec_HexText.l0b
  repeat' first | with_reducible refine nat_cond ?_ ?_ | with_reducible refine nat_bind fun _ => ?_ | rfl
theorem spec_HexText.rounds_eq (a0z : Bool) (a0 : List Int) : ∀ k, (∀ (x3 : List Int) (x7z : Bool) (x7 : List Int) (x8 : Int) (x9 : Int), rounds Tryd.prog spec_HexText.Cs (finish Tryd.prog [] Tryd.f77 [.v (.nums 5 .u8 a0z a0)]) 100000 k spec_HexText.K0 (spec_HexText.N0 x3 x7z x7 x8 x9) = (spec_HexText.l0 k x3 x7z x7 x8 x9).map spec_HexText.enc)
  | 0 => fun _ _ _ _ _ => rfl
  | k + 1 => by
    have ih := spec_HexText.rounds_eq a0z a0 k
    refine fun _ _ _ _ _ => ?_
    · refine (spec_HexText.s0 k _ a0z a0 _ _ _ _ _).trans (Eq.trans ?_ (spec_HexText.l0b_nat spec_HexText.enc some (spec_HexText.l0 k) k _ _ _ _ _))
      simp only [ih, Option.map_some]
theorem spec_HexText.eq (k : Nat) (a0z : Bool) (a0 : List Int) : answer Tryd.prog spec_HexText.Cs 100000 spec_HexText.cuts [] Tryd.f77 (k + 1) [.v (.nums 5 .u8 a0z a0)] = (spec_HexText.f (k + 1) a0z a0).map spec_HexText.enc := by
  have ih := spec_HexText.rounds_eq a0z a0 k
  refine (spec_HexText.s k a0z a0).trans (Eq.trans ?_ (spec_HexText.b_nat spec_HexText.enc some (spec_HexText.l0 k) k a0z a0))
  simp only [ih, Option.map_some]
theorem spec_HexText.sound (k : Nat) : SoundF Tryd.prog 77 (fun a => (spec_HexText.ans k a).val) := by
  refine sound_plain (fun args res h => ?_) (fun t n => rfl)
  unfold spec_HexText.ans at h
  dsimp only at h
  split at h
  · cases k with
    | zero => cases h
    | succ k =>
      unfold Ans.val at h
      rw [← spec_HexText.eq] at h
      exact answer_sound mixed Tryd.func77 _ _ _ (k + 1) (fun j _ => tab_sound (tab_cons (spec_l01Hex.sound j) (tab_nil))) _ _ h
  · exact (Ans.no_val h).elim

/-! loop.example/g00790/spec.Short -/
def spec_Short.b {R : Type} (ret : ByteArray → Option R) (k : Nat) (a0z : Bool) (a0 : List Int) : Option R :=
  cond (decide (((a0).length : Int) > 4)) (cond (decide ((4 : Int) ≤ ((a0).length : Int))) ((spec_HexText.f k a0z (((a0).take 4).drop 0)).bind fun t0 => ret t0) (none)) ((spec_HexText.f k a0z a0).bind fun t0 => ret t0)
def spec_Short.f : Nat → Bool → (List Int) → Option ByteArray
  | 0, _, _ => none
  | k + 1, a0z, a0 => spec_Short.b some k a0z a0
def spec_Short.enc (r : ByteArray) : Res := ⟨[.vals false [((.str r), true)]], []⟩
def spec_Short.ans (k : Nat) : List Arg → Ans
  | [.v (.nums 5 .u8 a0z a0)] => ⟨spec_Short.f k a0z a0, spec_Short.enc⟩
  | _ => Ans.no
def spec_Short.Cs (k : Nat) : CallSem := tab [(77, spec_HexText.ans k)]
def spec_Short.cuts : List (Nat × Keep) := []
theorem spec_Short.s (k : Nat) (a0z : Bool) (a0 : List Int) : answer Tryd.prog spec_Short.Cs 100000 spec_Short.cuts [] Tryd.f70 (k + 1) [.v (.nums 5 .u8 a0z a0)] = spec_Short.b (fun r => some (spec_Short.enc r)) k a0z a0 := by kernel_rfl
theorem spec_Short.b_nat {R R' : Type} (e : R → R') (ret : ByteArray → Option R) (k : Nat) (a0z : Bool) (a0 : List Int) : spec_Short.b (fun r => (ret r).map e) k a0z a0 = (spec_Short.b ret k a0z a0).map e := by
  unfold spec_Short.b
  repeat' first | with_reducible refine nat_cond ?_ ?_ | with_reducible refine nat_bind fun _ => ?_ | rfl
theorem spec_Short.eq (k : Nat) (a0z : Bool) (a0 : List Int) : answer Tryd.prog spec_Short.Cs 100000 spec_Short.cuts [] Tryd.f70 (k + 1) [.v (.nums 5 .u8 a0z a0)] = (spec_Short.f (k + 1) a0z a0).map spec_Short.enc := by
  refine (spec_Short.s k a0z a0).trans (Eq.trans ?_ (spec_Short.b_nat spec_Short.enc some k a0z a0))
  simp only [Option.map_some]
theorem spec_Short.sound (k : Nat) : SoundF Tryd.prog 70 (fun a => (spec_Short.ans k a).val) := by
  refine sound_plain (fun args res h => ?_) (fun t n => rfl)
  unfold spec_Short.ans at h
  dsimp only at h
  split at h
  · cases k with
    | zero => cases h
    | succ k =>
      unfold Ans.val at h
      rw [← spec_Short.eq] at h
      exact answer_sound mixed Tryd.func70 _ _ _ (k + 1) (fun j _ => tab_sound (tab_cons (spec_HexText.sound j) (tab_nil))) _ _ h
  · exact (Ans.no_val h).elim

/-! loop.example/g00790/spec.l29Join -/
def spec_l29Join.b {R : Type} (ret : ByteArray → Option R) (j0 : ByteArray → ByteArray → Bool → (List T) → Int → Int → Option R) (k : Nat) (a0z : Bool) (a0 : List T) (a1 : ByteArray) : Option R :=
  j0 a1 (⟨#[]⟩ : ByteArray) a0z a0 ((a0).length : Int) 0
def spec_l29Join.l0b {R : Type} (ret : ByteArray → Option R) (j0 : ByteArray → ByteArray → Bool → (List T) → Int → Int → Option R) (k : Nat) (x1 : ByteArray) (x5 : ByteArray) (x8z : Bool) (x8 : List T) (x9 : Int) (x10 : Int) : Option R :=
  cond (decide (x10 < x9)) (cond (decide ((0 : Int) ≤ x10)) (cond (decide (x10 < ((x8).length : Int))) (cond (decide (x10 > 0)) (cond (decide ((x5).size + (x1).size ≤ 140737488355328)) (cond (decide (((x5 ++ x1)).size + (((((x8).getD (x10).toNat .bad).cells.getD 0 .bad)).toStr).size ≤ 140737488355328)) (j0 x1 ((x5 ++ x1) ++ ((((x8).getD (x10).toNat .bad).cells.getD 0 .bad)).toStr) x8z x8 x9 (RowKit.wrap64 (x10 + 1))) (none)) (none)) (cond (decide ((x5).size + (((((x8).getD (x10).toNat .bad).cells.getD 0 .bad)).toStr).size ≤ 140737488355328)) (j0 x1 (x5 ++ ((((x8).getD (x10).toNat .bad).cells.getD 0 .bad)).toStr) x8z x8 x9 (RowKit.wrap64 (x10 + 1))) (none))) (none)) (none)) (ret x5)
def spec_l29Join.l0 : Nat → ByteArray → ByteArray → Bool → (List T) → Int → Int → Option ByteArray
  | 0, _, _, _, _, _, _ => none
  | k + 1, x1, x5, x8z, x8, x9, x10 => spec_l29Join.l0b some (spec_l29Join.l0 k) k x1 x5 x8z x8 x9 x10
def spec_l29Join.f : Nat → Bool → (List T) → ByteArray → Option ByteArray
  | 0, _, _, _ => none
  | k + 1, a0z, a0, a1 => spec_l29Join.b some (spec_l29Join.l0 k) k a0z a0 a1
def spec_l29Join.enc (r : ByteArray) : Res := ⟨[.vals false [((.str r), true)]], []⟩
def spec_l29Join.ans (k : Nat) : List Arg → Ans
  | [.v (.sl 9 a0z a0), .v (.str a1)] => ⟨spec_l29Join.f k a0z a0 a1, spec_l29Join.enc⟩
  | _ => Ans.no
def spec_l29Join.Cs (k : Nat) : CallSem := tab []
def spec_l29Join.cuts : List (Nat × Keep) := [(58, ⟨[(1, some []), (5, some []), (8, some []), (9, some []), (10, some [])], []⟩)]
noncomputable def spec_l29Join.K0 : List Fr := framesAt [true, true, false, true, false] (bodyOf Tryd.f82 spec_l29Join.cuts) []
def spec_l29Join.N0 (x1 : ByteArray) (x5 : ByteArray) (x8z : Bool) (x8 : List T) (x9 : Int) (x10 : Int) : St := stOf 25 25 2 [(1, .val (V.s (.str x1))), (5, .val (V.s (.str x5))), (8, .val ⟨(.sl 9 x8z x8), [], false, none⟩), (9, .val (V.s (.int .i64 x9))), (10, .val (V.s (.int .i64 x10)))] []
theorem spec_l29Join.s (k : Nat) (a0z : Bool) (a0 : List T) (a1 : ByteArray) : answer Tryd.prog spec_l29Join.Cs 100000 spec_l29Join.cuts [] Tryd.f82 (k + 1) [.v (.sl 9 a0z a0), .v (.str a1)] = spec_l29Join.b (fun r => some (spec_l29Join.enc r)) (fun x1 x5 x8z x8 x9 x10 => rounds Tryd.prog spec_l29Join.Cs (finish Tryd.prog [] Tryd.f82 [.v (.sl 9 a0z a0), .v (.str a1)]) 100000 k spec_l29Join.K0 (spec_l29Join.N0 x1 x5 x8z x8 x9 x10)) k a0z a0 a1 := by kernel_rfl
theorem spec_l29Join.s0 (k : Nat) (G : List Fr → St → Option Res) (a0z : Bool) (a0 : List T) (a1 : ByteArray) (yx1 : ByteArray) (yx5 : ByteArray) (yx8z : Bool) (yx8 : List T) (yx9 : Int) (yx10 : Int) : resume Tryd.prog (spec_l29Join.Cs k) G (finish Tryd.prog [] Tryd.f82 [.v (.sl 9 a0z a0), .v (.str a1)]) 100000 spec_l29Join.K0 (spec_l29Join.N0 yx1 yx5 yx8z yx8 yx9 yx10) = spec_l29Join.l0b (fun r => some (spec_l29Join.enc r)) (fun x1 x5 x8z x8 x9 x10 => G spec_l29Join.K0 (spec_l29Join.N0 x1 x5 x8z x8 x9 x10)) k yx1 yx5 yx8z yx8 yx9 yx10 := by kernel_rfl
theorem spec_l29Join.b_nat {R R' : Type} (e : R → R') (ret : ByteArray → Option R) (j0 : ByteArray → ByteArray → Bool → (List T) → Int → Int → Option R) (k : Nat) (a0z : Bool) (a0 : List T) (a1 : ByteArray) : spec_l29Join.b (fun r => (ret r).map e) (fun x1 x5 x8z x8 x9 x10 => (j0 x1 x5 x8z x8 x9 x10).map e) k a0z a0 a1 = (spec_l29Join.b ret j0 k a0z a0 a1).map e := by
  unfold spec_l29Join.b
  repeat' first | with_reducible refine nat_cond ?_ ?_ | with_reducible refine nat_bind fun _ => ?_ | rfl
theorem spec_l29Join.l0b_nat {R R' : Type} (e : R → R') (ret : ByteArray → Option R) (j0 : ByteArray → ByteArray → Bool → (List T) → Int → Int → Option R) (k : Nat) (x1 : ByteArray) (x5 : ByteArray) (x8z : Bool) (x8 : List T) (x9 : Int) (x10 : Int) : spec_l29Join.l0b (fun r => (ret r).map e) (fun x1 x5 x8z x8 x9 x10 => (j0 x1 x5 x8z x8 x9 x10).map e) k x1 x5 x8z x8 x9 x10 = (spec_l29Join.l0b ret j0 k x1 x5 x8z x8 x9 x10).map e := by
  unfold spec_l29Join.l0b
  repeat' first | with_reducible refine nat_cond ?_ ?_ | with_reducible refine nat_bind fun _ => ?_ | rfl
theorem spec_l29Join.rounds_eq (a0z : Bool) (a0 : List T) (a1 : ByteArray) : ∀ k, (∀ (x1 : ByteArray) (x5 : ByteArray) (x8z : Bool) (x8 : List T) (x9 : Int) (x10 : Int), rounds Tryd.prog spec_l29Join.Cs (finish Tryd.prog [] Tryd.f82 [.v (.sl 9 a0z a0), .v (.str a1)]) 100000 k spec_l29Join.K0 (spec_l29Join.N0 x1 x5 x8z x8 x9 x10) = (spec_l29Join.l0 k x1 x5 x8z x8 x9 x10).map spec_l29Join.enc)
  | 0 => fun _ _ _ _ _ _ => rfl
  | k + 1 => by
    have ih := spec_l29Join.rounds_eq a0z a0 a1 k
    refine fun _ _ _ _ _ _ => ?_
    · refine (spec_l29Join.s0 k _ a0z a0 a1 _ _ _ _ _ _).trans (Eq.trans ?_ (spec_l29Join.l0b_nat spec_l29Join.enc some (spec_l29Join.l0 k) k _ _ _ _ _ _))
      simp only [ih, Option.map_some]
theorem spec_l29Join.eq (k : Nat) (a0z : Bool) (a0 : List T) (a1 : ByteArray) : answer Tryd.prog spec_l29Join.Cs 100000 spec_l29Join.cuts [] Tryd.f82 (k + 1) [.v (.sl 9 a0z a0), .v (.str a1)] = (spec_l29Join.f (k + 1) a0z a0 a1).map spec_l29Join.enc := by
  have ih := spec_l29Join.rounds_eq a0z a0 a1 k
  refine (spec_l29Join.s k a0z a0 a1).trans (Eq.trans ?_ (spec_l29Join.b_nat spec_l29Join.enc some (spec_l29Join.l0 k) k a0z a0 a1))
  simp only [ih, Option.map_some]
theorem spec_l29Join.sound (k : Nat) : SoundF Tryd.prog 82 (fun a => (spec_l29Join.ans k a).val) := by
  refine sound_plain (fun args res h => ?_) (fun t n => rfl)
  unfold spec_l29Join.ans at h
  dsimp only at h
  split at h
  · cases k with
    | zero => cases h
    | succ k =>
      unfold Ans.val at h
      rw [← spec_l29Join.eq] at h
      exact answer_sound mixed Tryd.func82 _ _ _ (k + 1) (fun j _ => tab_sound (tab_nil)) _ _ h
  · exact (Ans.no_val h).elim

/-! loop.example/g00790/spec.l29Or -/
def spec_l29Or.b {R : Type} (ret : ByteArray → Option R) (k : Nat) (a0 : ByteArray) : Option R :=
  cond (decide (a0 = (⟨#[]⟩ : ByteArray))) (ret (⟨#[45]⟩ : ByteArray)) (ret a0)
def spec_l29Or.f : Nat → ByteArray → Option ByteArray
  | 0, _ => none
  | k + 1, a0 => spec_l29Or.b some k a0
def spec_l29Or.enc (r : ByteArray) : Res := ⟨[.vals false [((.str r), true)]], []⟩
def spec_l29Or.ans (k : Nat) : List Arg → Ans
  | [.v (.str a0)] => ⟨spec_l29Or.f k a0, spec_l29Or.enc⟩
  | _ => Ans.no
def spec_l29Or.Cs (k : Nat) : CallSem := tab []
def spec_l29Or.cuts : List (Nat × Keep) := []
theorem spec_l29Or.s (k : Nat) (a0 : ByteArray) : answer Tryd.prog spec_l29Or.Cs 100000 spec_l29Or.cuts [] Tryd.f76 (k + 1) [.v (.str a0)] = spec_l29Or.b (fun r => some (spec_l29Or.enc r)) k a0 := by kernel_rfl
theorem spec_l29Or.b_nat {R R' : Type} (e : R → R') (ret : ByteArray → Option R) (k : Nat) (a0 : ByteArray) : spec_l29Or.b (fun r => (ret r).map e) k a0 = (spec_l29Or.b ret k a0).map e := by
  unfold spec_l29Or.b
  repeat' first | with_reducible refine nat_cond ?_ ?_ | with_reducible refine nat_bind fun _ => ?_ | rfl
theorem spec_l29Or.eq (k : Nat) (a0 : ByteArray) : answer Tryd.prog spec_l29Or.Cs 100000 spec_l29Or.cuts [] Tryd.f76 (k + 1) [.v (.str a0)] = (spec_l29Or.f (k + 1) a0).map spec_l29Or.enc := by
  refine (spec_l29Or.s k a0).trans (Eq.trans ?_ (spec_l29Or.b_nat spec_l29Or.enc some k a0))
  simp only [Option.map_some]
theorem spec_l29Or.sound (k : Nat) : SoundF Tryd.prog 76 (fun a => (spec_l29Or.ans k a).val) := by
  refine sound_plain (fun args res h => ?_) (fun t n => rfl)
  unfold spec_l29Or.ans at h
  dsimp only at h
  split at h
  · cases k with
    | zero => cases h
    | succ k =>
      unfold Ans.val at h
      rw [← spec_l29Or.eq] at h
      exact answer_sound mixed Tryd.func76 _ _ _ (k + 1) (fun j _ => tab_sound (tab_nil)) _ _ h
  · exact (Ans.no_val h).elim

/-! loop.example/g00790/spec.QcText -/
def spec_QcText.b {R : Type} (ret : ByteArray → Option R) (j0 : (List T) → Bool → (List Int) → Int → Int → Int → Int → Bool → (List Int) → Bool → (List Int) → Bool → (List T) → Option R) (k : Nat) (a0_0 : Int) (a0_1 : Int) (a0_2z : Bool) (a0_2 : List Int) (a0_3z : Bool) (a0_3 : List Int) (a0_4z : Bool) (a0_4 : List T) : Option R :=
  (spec_BitsList.f k a0_3z a0_3).bind fun t0 => j0 ([] : List T) t0.1 t0.2 ((t0.2).length : Int) 0 a0_0 a0_1 a0_2z a0_2 a0_3z a0_3 a0_4z a0_4
def spec_QcText.l0b {R : Type} (ret : ByteArray → Option R) (j0 : (List T) → Bool → (List Int) → Int → Int → Int → Int → Bool → (List Int) → Bool → (List Int) → Bool → (List T) → Option R) (k : Nat) (x3 : List T) (x9z : Bool) (x9 : List Int) (x10 : Int) (x11 : Int) (c1_0 : Int) (c1_1 : Int) (c1_2z : Bool) (c1_2 : List Int) (c1_3z : Bool) (c1_3 : List Int) (c1_4z : Bool) (c1_4 : List T) : Option R :=
  cond (decide (x11 < x10)) (cond (decide ((0 : Int) ≤ x11)) (cond (decide (x11 < ((x9).length : Int))) ((spec_NumText.f k (rdI x9 x11)).bind fun t0 => cond (decide ((x3).length + 1 < 8796093022208)) (j0 (x3 ++ ([(.str t0)] : List T)) x9z x9 x10 (RowKit.wrap64 (x11 + 1)) c1_0 c1_1 c1_2z c1_2 c1_3z c1_3 c1_4z c1_4) (none)) (none)) (none)) ((spec_NumText.f k c1_0).bind fun t0 => cond (decide (((⟨#[113, 99, 32]⟩ : ByteArray)).size + (t0).size ≤ 140737488355328)) (cond (decide ((((⟨#[113, 99, 32]⟩ : ByteArray) ++ t0)).size + ((⟨#[47]⟩ : ByteArray)).size ≤ 140737488355328)) ((spec_NumText.f k c1_1).bind fun t1 => cond (decide (((((⟨#[113, 99, 32]⟩ : ByteArray) ++ t0) ++ (⟨#[47]⟩ : ByteArray))).size + (t1).size ≤ 140737488355328)) (cond (decide ((((((⟨#[113, 99, 32]⟩ : ByteArray) ++ t0) ++ (⟨#[47]⟩ : ByteArray)) ++ t1)).size + ((⟨#[32]⟩ : ByteArray)).size ≤ 140737488355328)) ((spec_Short.f k c1_2z c1_2).bind fun t2 => cond (decide (((((((⟨#[113, 99, 32]⟩ : ByteArray) ++ t0) ++ (⟨#[47]⟩ : ByteArray)) ++ t1) ++ (⟨#[32]⟩ : ByteArray))).size + (t2).size ≤ 140737488355328)) (cond (decide ((((((((⟨#[113, 99, 32]⟩ : ByteArray) ++ t0) ++ (⟨#[47]⟩ : ByteArray)) ++ t1) ++ (⟨#[32]⟩ : ByteArray)) ++ t2)).size + ((⟨#[32]⟩ : ByteArray)).size ≤ 140737488355328)) ((spec_l29Join.f k false x3 (⟨#[44]⟩ : ByteArray)).bind fun t3 => (spec_l29Or.f k t3).bind fun t4 => cond (decide (((((((((⟨#[113, 99, 32]⟩ : ByteArray) ++ t0) ++ (⟨#[47]⟩ : ByteArray)) ++ t1) ++ (⟨#[32]⟩ : ByteArray)) ++ t2) ++ (⟨#[32]⟩ : ByteArray))).size + (t4).size ≤ 140737488355328)) (ret ((((((((⟨#[113, 99, 32]⟩ : ByteArray) ++ t0) ++ (⟨#[47]⟩ : ByteArray)) ++ t1) ++ (⟨#[32]⟩ : ByteArray)) ++ t2) ++ (⟨#[32]⟩ : ByteArray)) ++ t4)) (none)) (none)) (none)) (none)) (none)) (none)) (none))
def spec_QcText.l0 : Nat → (List T) → Bool → (List Int) → Int → Int → Int → Int → Bool → (List Int) → Bool → (List Int) → Bool → (List T) → Option ByteArray
  | 0, _, _, _, _, _, _, _, _, _, _, _, _, _ => none
  | k + 1, x3, x9z, x9, x10, x11, c1_0, c1_1, c1_2z, c1_2, c1_3z, c1_3, c1_4z, c1_4 => spec_QcText.l0b some (spec_QcText.l0 k) k x3 x9z x9 x10 x11 c1_0 c1_1 c1_2z c1_2 c1_3z c1_3 c1_4z c1_4
def spec_QcText.f : Nat → Int → Int → Bool → (List Int) → Bool → (List Int) → Bool → (List T) → Option ByteArray
  | 0, _, _, _, _, _, _, _, _ => none
  | k + 1, a0_0, a0_1, a0_2z, a0_2, a0_3z, a0_3, a0_4z, a0_4 => spec_QcText.b some (spec_QcText.l0 k) k a0_0 a0_1 a0_2z a0_2 a0_3z a0_3 a0_4z a0_4
def spec_QcText.enc (r : ByteArray) : Res := ⟨[.vals false [((.str r), true)]], []⟩
def spec_QcText.ans (k : Nat) : List Arg → Ans
  | [.v (.agg [(.int .i64 a0_0), (.int .i64 a0_1), (.nums 5 .u8 a0_2z a0_2), (.nums 5 .u8 a0_3z a0_3), (.sl 28 a0_4z a0_4)])] => ⟨spec_QcText.f k a0_0 a0_1 a0_2z a0_2 a0_3z a0_3 a0_4z a0_4, spec_QcText.enc⟩
  | _ => Ans.no
def spec_QcText.Cs (k : Nat) : CallSem := tab [(94, spec_BitsList.ans k), (63, spec_NumText.ans k), (70, spec_Short.ans k), (82, spec_l29Join.ans k), (76, spec_l29Or.ans k)]
def spec_QcText.cuts : List (Nat × Keep) := [(58, ⟨[(1, some []), (3, none), (9, none), (10, some []), (11, some [])], [(1, [some [], some [], some [], some [], some []])]⟩)]
noncomputable def spec_QcText.K0 : List Fr := framesAt [true, true, false, true, false] (bodyOf Tryd.f52 spec_QcText.cuts) []
def spec_QcText.N0 (x3 : List T) (x9z : Bool) (x9 : List Int) (x10 : Int) (x11 : Int) (c1_0 : Int) (c1_1 : Int) (c1_2z : Bool) (c1_2 : List Int) (c1_3z : Bool) (c1_3 : List Int) (c1_4z : Bool) (c1_4 : List T) : St := stOf 40 40 1 [(1, .bp 1 0), (3, .val ⟨(.sl 9 false x3), [.l 3 0], true, some (.l 3 0)⟩), (9, .val ⟨(.nums 3 .i64 x9z x9), [.l 9 0], true, some (.l 9 0)⟩), (10, .val (V.s (.int .i64 x10))), (11, .val (V.s (.int .i64 x11)))] [(1, .cells [V.s (.int .i64 c1_0), V.s (.int .i64 c1_1), ⟨(.nums 5 .u8 c1_2z c1_2), [], false, none⟩, ⟨(.nums 5 .u8 c1_3z c1_3), [], false, none⟩, ⟨(.sl 28 c1_4z c1_4), [], false, none⟩])]
theorem spec_QcText.s (k : Nat) (a0_0 : Int) (a0_1 : Int) (a0_2z : Bool) (a0_2 : List Int) (a0_3z : Bool) (a0_3 : List Int) (a0_4z : Bool) (a0_4 : List T) : answer Tryd.prog spec_QcText.Cs 100000 spec_QcText.cuts [] Tryd.f52 (k + 1) [.v (.agg [(.int .i64 a0_0), (.int .i64 a0_1), (.nums 5 .u8 a0_2z a0_2), (.nums 5 .u8 a0_3z a0_3), (.sl 28 a0_4z a0_4)])] = spec_QcText.b (fun r => some (spec_QcText.enc r)) (fun x3 x9z x9 x10 x11 c1_0 c1_1 c1_2z c1_2 c1_3z c1_3 c1_4z c1_4 => rounds Tryd.prog spec_QcText.Cs (finish Tryd.prog [] Tryd.f52 [.v (.agg [(.int .i64 a0_0), (.int .i64 a0_1), (.nums 5 .u8 a0_2z a0_2), (.nums 5 .u8 a0_3z a0_3), (.sl 28 a0_4z a0_4)])]) 100000 k spec_QcText.K0 (spec_QcText.N0 x3 x9z x9 x10 x11 c1_0 c1_1 c1_2z c1_2 c1_3z c1_3 c1_4z c1_4)) k a0_0 a0_1 a0_2z a0_2 a0_3z a0_3 a0_4z a0_4 := by kernel_rfl
theorem spec_QcText.s0 (k : Nat) (G : List Fr → St → Option Res) (a0_0 : Int) (a0_1 : Int) (a0_2z : Bool) (a0_2 : List Int) (a0_3z : Bool) (a0_3 : List Int) (a0_4z : Bool) (a0_4 : List T) (yx3 : List T) (yx9z : Bool) (yx9 : List Int) (yx10 : Int) (yx11 : Int) (yc1_0 : Int) (yc1_1 : Int) (yc1_2z : Bool) (yc1_2 : List Int) (yc1_3z : Bool) (yc1_3 : List Int) (yc1_4z : Bool) (yc1_4 : List T) : resume Tryd.prog (spec_QcText.Cs k) G (finish Tryd.prog [] Tryd.f52 [.v (.agg [(.int .i64 a0_0), (.int .i64 a0_1), (.nums 5 .u8 a0_2z a0_2), (.nums 5 .u8 a0_3z a0_3), (.sl 28 a0_4z a0_4)])]) 100000 spec_QcText.K0 (spec_QcText.N0 yx3 yx9z yx9 yx10 yx11 yc1_0 yc1_1 yc1_2z yc1_2 yc1_3z yc1_3 yc1_4z yc1_4) = spec_QcText.l0b (fun r => some (spec_QcText.enc r)) (fun x3 x9z x9 x10 x11 c1_0 c1_1 c1_2z c1_2 c1_3z c1_3 c1_4z c1_4 => G spec_QcText.K0 (spec_QcText.N0 x3 x9z x9 x10 x11 c1_0 c1_1 c1_2z c1_2 c1_3z c1_3 c1_4z c1_4)) k yx3 yx9z yx9 yx10 yx11 yc1_0 yc1_1 yc1_2z yc1_2 yc1_3z yc1_3 yc1_4z yc1_4 := by kernel_rfl
theorem spec_QcText.b_nat {R R' : Type} (e : R → R') (ret : ByteArray → Option R) (j0 : (List T) → Bool → (List Int) → Int → Int → Int → Int → Bool → (List Int) → Bool → (List Int) → Bool → (List T) → Option R) (k : Nat) (a0_0 : Int) (a0_1 : Int) (a0_2z : Bool) (a0_2 : List Int) (a0_3z : Bool) (a0_3 : List Int) (a0_4z : Bool) (a0_4 : List T) : spec_QcText.b (fun r => (ret r).map e) (fun x3 x9z x9 x10 x11 c1_0 c1_1 c1_2z c1_2 c1_3z c1_3 c1_4z c1_4 => (j0 x3 x9z x9 x10 x11 c1_0 c1_1 c1_2z c1_2 c1_3z c1_3 c1_4z c1_4).map e) k a0_0 a0_1 a0_2z a0_2 a0_3z a0_3 a0_4z a0_4 = (spec_QcText.b ret j0 k a0_0 a0_1 a0_2z a0_2 a0_3z a0_3 a0_4z a0_4).map e := by
  unfold spec_QcText.b
  repeat' first | with_reducible refine nat_cond ?_ ?_ | with_reducible refine nat_bind fun _ => ?_ | rfl
theorem spec_QcText.l0b_nat {R R' : Type} (e : R → R') (ret : ByteArray → Option R) (j0 : (List T) → Bool → (List Int) → Int → Int → Int → Int → Bool → (List Int) → Bool → (List Int) → Bool → (List T) → Option R) (k : Nat) (x3 : List T) (x9z : Bool) (x9 : List Int) (x10 : Int) (x11 : Int) (c1_0 : Int) (c1_1 : Int) (c1_2z : Bool) (c1_2 : List Int) (c1_3z : Bool) (c1_3 : List Int) (c1_4z : Bool) (c1_4 : List T) : spec_QcText.l0b (fun r => (ret r).map e) (fun x3 x9z x9 x10 x11 c1_0 c1_1 c1_2z c1_2 c1_3z c1_3 c1_4z c1_4 => (j0 x3 x9z x9 x10 x11 c1_0 c1_1 c1_2z c1_2 c1_3z c1_3 c1_4z c1_4).map e) k x3 x9z x9 x10 x11 c1_0 c1_1 c1_2z c1_2 c1_3z c1_3 c1_4z c1_4 = (spec_QcText.l0b ret j0 k x3 x9z x9 x10 x11 c1_0 c1_1 c1_2z c1_2 c1_3z c1_3 c1_4z c1_4).map e := by
  unfold spec_QcText.l0b
  repeat' first | with_reducible refine nat_cond ?_ ?_ | with_reducible refine nat_bind fun _ => ?_ | rfl
theorem spec_QcText.rounds_eq (a0_0 : Int) (a0_1 : Int) (a0_2z : Bool) (a0_2 : List Int) (a0_3z : Bool) (a0_3 : List Int) (a0_4z : Bool) (a0_4 : List T) : ∀ k, (∀ (x3 : List T) (x9z : Bool) (x9 : List Int) (x10 : Int) (x11 : Int) (c1_0 : Int) (c1_1 : Int) (c1_2z : Bool) (c1_2 : List Int) (c1_3z : Bool) (c1_3 : List Int) (c1_4z : Bool) (c1_4 : List T), rounds Tryd.prog spec_QcText.Cs (finish Tryd.prog [] Tryd.f52 [.v (.agg [(.int .i64 a0_0), (.int .i64 a0_1), (.nums 5 .u8 a0_2z a0_2), (.nums 5 .u8 a0_3z a0_3), (.sl 28 a0_4z a0_4)])]) 100000 k spec_QcText.K0 (spec_QcText.N0 x3 x9z x9 x10 x11 c1_0 c1_1 c1_2z c1_2 c1_3z c1_3 c1_4z c1_4) = (spec_QcText.l0 k x3 x9z x9 x10 x11 c1_0 c1_1 c1_2z c1_2 c1_3z c1_3 c1_4z c1_4).map spec_QcText.enc)
  | 0 => fun _ _ _ _ _ _ _ _ _ _ _ _ _ => rfl
  | k + 1 => by
    have ih := spec_QcText.rounds_eq a0_0 a0_1 a0_2z a0_2 a0_3z a0_3 a0_4z a0_4 k
    refine fun _ _ _ _ _ _ _ _ _ _ _ _ _ => ?_
    · refine (spec_QcText.s0 k _ a0_0 a0_1 a0_2z a0_2 a0_3z a0_3 a0_4z a0_4 _ _ _ _ _ _ _ _ _ _ _ _ _).trans (Eq.trans ?_ (spec_QcText.l0b_nat spec_QcText.enc some (spec_QcText.l0 k) k _ _ _ _ _ _ _ _ _ _ _ _ _))
      simp only [ih, Option.map_some]
theorem spec_QcText.eq (k : Nat) (a0_0 : Int) (a0_1 : Int) (a0_2z : Bool) (a0_2 : List Int) (a0_3z : Bool) (a0_3 : List Int) (a0_4z : Bool) (a0_4 : List T) : answer Tryd.prog spec_QcText.Cs 100000 spec_QcText.cuts [] Tryd.f52 (k + 1) [.v (.agg [(.int .i64 a0_0), (.int .i64 a0_1), (.nums 5 .u8 a0_2z a0_2), (.nums 5 .u8 a0_3z a0_3), (.sl 28 a0_4z a0_4)])] = (spec_QcText.f (k + 1) a0_0 a0_1 a0_2z a0_2 a0_3z a0_3 a0_4z a0_4).map spec_QcText.enc := by
  have ih := spec_QcText.rounds_eq a0_0 a0_1 a0_2z a0_2 a0_3z a0_3 a0_4z a0_4 k
  refine (spec_QcText.s k a0_0 a0_1 a0_2z a0_2 a0_3z a0_3 a0_4z a0_4).trans (Eq.trans ?_ (spec_QcText.b_nat spec_QcText.enc some (spec_QcText.l0 k) k a0_0 a0_1 a0_2z a0_2 a0_3z a0_3 a0_4z a0_4))
  simp only [ih, Option.map_some]
theorem spec_QcText.sound (k : Nat) : SoundF Tryd.prog 52 (fun a => (spec_QcText.ans k a).val) := by
  refine sound_plain (fun args res h => ?_) (fun t n => rfl)
  unfold spec_QcText.ans at h
  dsimp only at h
  split at h
  · cases k with
    | zero => cases h
    | succ k =>
      unfold Ans.val at h
      rw [← spec_QcText.eq] at h
      exact answer_sound mixed Tryd.func52 _ _ _ (k + 1) (fun j _ => tab_sound (tab_cons (spec_BitsList.sound j) (tab_cons (spec_NumText.sound j) (tab_cons (spec_Short.sound j) (tab_cons (spec_l29Join.sound j) (tab_cons (spec_l29Or.sound j) (tab_nil))))))) _ _ h
  · exact (Ans.no_val h).elim

/-! loop.example/g00790/impl.within -/
def impl_within.b {R : Type} (ret : Bool → Option R) (k : Nat) (a0 : Int) (a1 : Int) (a2 : Int) : Option R :=
  cond (decide (a1 ≤ a0)) (ret (decide (a0 ≤ a2))) (ret false)
def impl_within.f : Nat → Int → Int → Int → Option Bool
  | 0, _, _, _ => none
  | k + 1, a0, a1, a2 => impl_within.b some k a0 a1 a2
def impl_within.enc (r : Bool) : Res := ⟨[.vals false [((.bool r), true)]], []⟩
def impl_within.ans (k : Nat) : List Arg → Ans
  | [.v (.int .i64 a0), .v (.int .i64 a1), .v (.int .i64 a2)] => ⟨impl_within.f k a0 a1 a2, impl_within.enc⟩
  | _ => Ans.no
def impl_within.Cs (k : Nat) : CallSem := tab []
def impl_within.cuts : List (Nat × Keep) := []
theorem impl_within.s (k : Nat) (a0 : Int) (a1 : Int) (a2 : Int) : answer Tryd.prog impl_within.Cs 100000 impl_within.cuts [] Tryd.f105 (k + 1) [.v (.int .i64 a0), .v (.int .i64 a1), .v (.int .i64 a2)] = impl_within.b (fun r => some (impl_within.enc r)) k a0 a1 a2 := by kernel_rfl
theorem impl_within.b_nat {R R' : Type} (e : R → R') (ret : Bool → Option R) (k : Nat) (a0 : Int) (a1 : Int) (a2 : Int) : impl_within.b (fun r => (ret r).map e) k a0 a1 a2 = (impl_within.b ret k a0 a1 a2).map e := by
  unfold impl_within.b
  repeat' first | with_reducible refine nat_cond ?_ ?_ | with_reducible refine nat_bind fun _ => ?_ | rfl
theorem impl_within.eq (k : Nat) (a0 : Int) (a1 : Int) (a2 : Int) : answer Tryd.prog impl_within.Cs 100000 impl_within.cuts [] Tryd.f105 (k + 1) [.v (.int .i64 a0), .v (.int .i64 a1), .v (.int .i64 a2)] = (impl_within.f (k + 1) a0 a1 a2).map impl_within.enc := by
  refine (impl_within.s k a0 a1 a2).trans (Eq.trans ?_ (impl_within.b_nat impl_within.enc some k a0 a1 a2))
  simp only [Option.map_some]
theorem impl_within.sound (k : Nat) : SoundF Tryd.prog 105 (fun a => (impl_within.ans k a).val) := by
  refine sound_plain (fun args res h => ?_) (fun t n => rfl)
  unfold impl_within.ans at h
  dsimp only at h
  split at h
  · cases k with
    | zero => cases h
    | succ k =>
      unfold Ans.val at h
      rw [← impl_within.eq] at h
      exact answer_sound mixed Tryd.func105 _ _ _ (k + 1) (fun j _ => tab_sound (tab_nil)) _ _ h
  · exact (Ans.no_val h).elim

/-! loop.example/g00790/impl.BitsHas -/
def impl_BitsHas.b {R : Type} (ret : Bool → Option R) (k : Nat) (a0z : Bool) (a0 : List Int) (a1 : Int) : Option R :=
  (impl_within.f k a1 0 (RowKit.wrap64 ((RowKit.wrap64 ((8 : Int) * ((a0).length : Int))) - 1))).bind fun t0 => cond t0 (cond (decide ((0 : Int) ≤ (RowKit.wrap64 (Int.tdiv a1 8)))) (cond (decide ((RowKit.wrap64 (Int.tdiv a1 8)) < ((a0).length : Int))) (cond (decide ((0 : Int) ≤ (Int.tmod a1 8))) (ret (decide ((Go.bits .and .u8 (shrI .u8 (rdI a0 (RowKit.wrap64 (Int.tdiv a1 8))) (Int.tmod a1 8)) 1) = 1))) (none)) (none)) (none)) (ret false)
def impl_BitsHas.f : Nat → Bool → (List Int) → Int → Option Bool
  | 0, _, _, _ => none
  | k + 1, a0z, a0, a1 => impl_BitsHas.b some k a0z a0 a1
def impl_BitsHas.enc (r : Bool) : Res := ⟨[.vals false [((.bool r), true)]], []⟩
def impl_BitsHas.ans (k : Nat) : List Arg → Ans
  | [.v (.nums 5 .u8 a0z a0), .v (.int .i64 a1)] => ⟨impl_BitsHas.f k a0z a0 a1, impl_BitsHas.enc⟩
  | _ => Ans.no
def impl_BitsHas.Cs (k : Nat) : CallSem := tab [(105, impl_within.ans k)]
def impl_BitsHas.cuts : List (Nat × Keep) := []
theorem impl_BitsHas.s (k : Nat) (a0z : Bool) (a0 : List Int) (a1 : Int) : answer Tryd.prog impl_BitsHas.Cs 100000 impl_BitsHas.cuts [] Tryd.f123 (k + 1) [.v (.nums 5 .u8 a0z a0), .v (.int .i64 a1)] = impl_BitsHas.b (fun r => some (impl_BitsHas.enc r)) k a0z a0 a1 := by kernel_rfl
theorem impl_BitsHas.b_nat {R R' : Type} (e : R → R') (ret : Bool → Option R) (k : Nat) (a0z : Bool) (a0 : List Int) (a1 : Int) : impl_BitsHas.b (fun r => (ret r).map e) k a0z a0 a1 = (impl_BitsHas.b ret k a0z a0 a1).map e := by
  unfold impl_BitsHas.b
  repeat' first | with_reducible refine nat_cond ?_ ?_ | with_reducible refine nat_bind fun _ => ?_ | rfl
theorem impl_BitsHas.eq (k : Nat) (a0z : Bool) (a0 : List Int) (a1 : Int) : answer Tryd.prog impl_BitsHas.Cs 100000 impl_BitsHas.cuts [] Tryd.f123 (k + 1) [.v (.nums 5 .u8 a0z a0), .v (.int .i64 a1)] = (impl_BitsHas.f (k + 1) a0z a0 a1).map impl_BitsHas.enc := by
  refine (impl_BitsHas.s k a0z a0 a1).trans (Eq.trans ?_ (impl_BitsHas.b_nat impl_BitsHas.enc some k a0z a0 a1))
  simp only [Option.map_some]
theorem impl_BitsHas.sound (k : Nat) : SoundF Tryd.prog 123 (fun a => (impl_BitsHas.ans k a).val) := by
  refine sound_plain (fun args res h => ?_) (fun t n => rfl)
  unfold impl_BitsHas.ans at h
  dsimp only at h
  split at h
  · cases k with
    | zero => cases h
    | succ k =>
      unfold Ans.val at h
      rw [← impl_BitsHas.eq] at h
      exact answer_sound mixed Tryd.func123 _ _ _ (k + 1) (fun j _ => tab_sound (tab_cons (impl_within.sound j) (tab_nil))) _ _ h
  · exact (Ans.no_val h).elim

/-! loop.example/g00790/impl.BitsList -/
def impl_BitsList.b {R : Type} (ret : Bool × List Int → Option R) (j0 : Bool → (List Int) → (List Int) → Int → Int → Option R) (k : Nat) (a0z : Bool) (a0 : List Int) : Option R :=
  j0 a0z a0 ([] : List Int) (RowKit.wrap64 ((8 : Int) * ((a0).length : Int))) 0
def impl_BitsList.l0b {R : Type} (ret : Bool × List Int → Option R) (j0 : Bool → (List Int) → (List Int) → Int → Int → Option R) (k : Nat) (x0z : Bool) (x0 : List Int) (x3 : List Int) (x8 : Int) (x9 : Int) : Option R :=
  cond (decide (x9 < x8)) ((impl_BitsHas.f k x0z x0 x9).bind fun t0 => cond t0 (cond (decide ((x3).length + 1 < 17592186044416)) (j0 x0z x0 (x3 ++ ([x9] : List Int)) x8 (RowKit.wrap64 (x9 + 1))) (none)) (j0 x0z x0 x3 x8 (RowKit.wrap64 (x9 + 1)))) (ret (false, x3))
def impl_BitsList.l0 : Nat → Bool → (List Int) → (List Int) → Int → Int → Option (Bool × List Int)
  | 0, _, _, _, _, _ => none
  | k + 1, x0z, x0, x3, x8, x9 => impl_BitsList.l0b some (impl_BitsList.l0 k) k x0z x0 x3 x8 x9
def impl_BitsList.f : Nat → Bool → (List Int) → Option (Bool × List Int)
  | 0, _, _ => none
  | k + 1, a0z, a0 => impl_BitsList.b some (impl_BitsList.l0 k) k a0z a0
def impl_BitsList.enc (r : Bool × List Int) : Res := ⟨[.vals false [((.nums 3 .i64 r.1 r.2), true)]], []⟩
def impl_BitsList.ans (k : Nat) : List Arg → Ans
  | [.v (.nums 5 .u8 a0z a0)] => ⟨impl_BitsList.f k a0z a0, impl_BitsList.enc⟩
  | _ => Ans.no
def impl_BitsList.Cs (k : Nat) : CallSem := tab [(123, impl_BitsHas.ans k)]
def impl_BitsList.cuts : List (Nat × Keep) := [(58, ⟨[(0, some []), (3, none), (8, some []), (9, some [])], []⟩)]
noncomputable def impl_BitsList.K0 : List Fr := framesAt [true, true, false, true, false] (bodyOf Tryd.f95 impl_BitsList.cuts) []
def impl_BitsList.N0 (x0z : Bool) (x0 : List Int) (x3 : List Int) (x8 : Int) (x9 : Int) : St := stOf 21 21 1 [(0, .val ⟨(.nums 5 .u8 x0z x0), [], false, none⟩), (3, .val ⟨(.nums 3 .i64 false x3), [.l 3 0], true, some (.l 3 0)⟩), (8, .val (V.s (.int .i64 x8))), (9, .val (V.s (.int .i64 x9)))] []
theorem impl_BitsList.s (k : Nat) (a0z : Bool) (a0 : List Int) : answer Tryd.prog impl_BitsList.Cs 100000 impl_BitsList.cuts [] Tryd.f95 (k + 1) [.v (.nums 5 .u8 a0z a0)] = impl_BitsList.b (fun r => some (impl_BitsList.enc r)) (fun x0z x0 x3 x8 x9 => rounds Tryd.prog impl_BitsList.Cs (finish Tryd.prog [] Tryd.f95 [.v (.nums 5 .u8 a0z a0)]) 100000 k impl_BitsList.K0 (impl_BitsList.N0 x0z x0 x3 x8 x9)) k a0z a0 := by kernel_rfl
theorem impl_BitsList.s0 (k : Nat) (G : List Fr → St → Option Res) (a0z : Bool) (a0 : List Int) (yx0z : Bool) (yx0 : List Int) (yx3 : List Int) (yx8 : Int) (yx9 : Int) : resume Tryd.prog (impl_BitsList.Cs k) G (finish Tryd.prog [] Tryd.f95 [.v (.nums 5 .u8 a0z a0)]) 100000 impl_BitsList.K0 (impl_BitsList.N0 yx0z yx0 yx3 yx8 yx9) = impl_BitsList.l0b (fun r => some (impl_BitsList.enc r)) (fun x0z x0 x3 x8 x9 => G impl_BitsList.K0 (impl_BitsList.N0 x0z x0 x3 x8 x9)) k yx0z yx0 yx3 yx8 yx9 := by kernel_rfl
theorem impl_BitsList.b_nat {R R' : Type} (e : R → R') (ret : Bool × List Int → Option R) (j0 : Bool → (List Int) → (List Int) → Int → Int → Option R) (k : Nat) (a0z : Bool) (a0 : List Int) : impl_BitsList.b (fun r => (ret r).map e) (fun x0z x0 x3 x8 x9 => (j0 x0z x0 x3 x8 x9).map e) k a0z a0 = (impl_BitsList.b ret j0 k a0z a0).map e := by
  unfold impl_BitsList.b
  repeat' first | with_reducible refine nat_cond ?_ ?_ | with_reducible refine nat_bind fun _ => ?_ | rfl
theorem impl_BitsList.l0b_nat {R R' : Type} (e : R → R') (ret : Bool × List Int → Option R) (j0 : Bool → (List Int) → (List Int) → Int → Int → Option R) (k : Nat) (x0z : Bool) (x0 : List Int) (x3 : List Int) (x8 : Int) (x9 : Int) : impl_BitsList.l0b (fun r => (ret r).map e) (fun x0z x0 x3 x8 x9 => (j0 x0z x0 x3 x8 x9).map e) k x0z x0 x3 x8 x9 = (impl_BitsList.l0b ret j0 k x0z x0 x3 x8 x9).map e := by
  unfold impl_BitsList.l0b
  repeat' first | with_reducible refine nat_cond ?_ ?_ | with_reducible refine nat_bind fun _ => ?_ | rfl
theorem impl_BitsList.rounds_eq (a0z : Bool) (a0 : List Int) : ∀ k, (∀ (x0z : Bool) (x0 : List Int) (x3 : List Int) (x8 : Int) (x9 : Int), rounds Tryd.prog impl_BitsList.Cs (finish Tryd.prog [] Tryd.f95 [.v (.nums 5 .u8 a0z a0)]) 100000 k impl_BitsList.K0 (impl_BitsList.N0 x0z x0 x3 x8 x9) = (impl_BitsList.l0 k x0z x0 x3 x8 x9).map impl_BitsList.enc)
  | 0 => fun _ _ _ _ _ => rfl
  | k + 1 => by
    have ih := impl_BitsList.rounds_eq a0z a0 k
    refine fun _ _ _ _ _ => ?_
    · refine (impl_BitsList.s0 k _ a0z a0 _ _ _ _ _).trans (Eq.trans ?_ (impl_BitsList.l0b_nat impl_BitsList.enc some (impl_BitsList.l0 k) k _ _ _ _ _))
      simp only [ih, Option.map_some]
theorem impl_BitsList.eq (k : Nat) (a0z : Bool) (a0 : List Int) : answer Tryd.prog impl_BitsList.Cs 100000 impl_BitsList.cuts [] Tryd.f95 (k + 1) [.v (.nums 5 .u8 a0z a0)] = (impl_BitsList.f (k + 1) a0z a0).map impl_BitsList.enc := by
  have ih := impl_BitsList.rounds_eq a0z a0 k
  refine (impl_BitsList.s k a0z a0).trans (Eq.trans ?_ (impl_BitsList.b_nat impl_BitsList.enc some (impl_BitsList.l0 k) k a0z a0))
  simp only [ih, Option.map_some]
theorem impl_BitsList.sound (k : Nat) : SoundF Tryd.prog 95 (fun a => (impl_BitsList.ans k a).val) := by
  refine sound_plain (fun args res h => ?_) (fun t n => rfl)
  unfold impl_BitsList.ans at h
  dsimp only at h
  split at h
  · cases k with
    | zero => cases h
    | succ k =>
      unfold Ans.val at h
      rw [← impl_BitsList.eq] at h
      exact answer_sound mixed Tryd.func95 _ _ _ (k + 1) (fun j _ => tab_sound (tab_cons (impl_BitsHas.sound j) (tab_nil))) _ _ h
  · exact (Ans.no_val h).elim

/-! loop.example/g00790/impl.isNum -/
def impl_isNum.b {R : Type} (ret : Bool → Option R) (k : Nat) (a0 : Int) : Option R :=
  (impl_within.f k a0 0 1152921504606846975).bind fun t0 => ret t0
def impl_isNum.f : Nat → Int → Option Bool
  | 0, _ => none
  | k + 1, a0 => impl_isNum.b some k a0
def impl_isNum.enc (r : Bool) : Res := ⟨[.vals false [((.bool r), true)]], []⟩
def impl_isNum.ans (k : Nat) : List Arg → Ans
  | [.v (.int .i64 a0)] => ⟨impl_isNum.f k a0, impl_isNum.enc⟩
  | _ => Ans.no
def impl_isNum.Cs (k : Nat) : CallSem := tab [(105, impl_within.ans k)]
def impl_isNum.cuts : List (Nat × Keep) := []
theorem impl_isNum.s (k : Nat) (a0 : Int) : answer Tryd.prog impl_isNum.Cs 100000 impl_isNum.cuts [] Tryd.f108 (k + 1) [.v (.int .i64 a0)] = impl_isNum.b (fun r => some (impl_isNum.enc r)) k a0 := by kernel_rfl
theorem impl_isNum.b_nat {R R' : Type} (e : R → R') (ret : Bool → Option R) (k : Nat) (a0 : Int) : impl_isNum.b (fun r => (ret r).map e) k a0 = (impl_isNum.b ret k a0).map e := by
  unfold impl_isNum.b
  repeat' first | with_reducible refine nat_cond ?_ ?_ | with_reducible refine nat_bind fun _ => ?_ | rfl
theorem impl_isNum.eq (k : Nat) (a0 : Int) : answer Tryd.prog impl_isNum.Cs 100000 impl_isNum.cuts [] Tryd.f108 (k + 1) [.v (.int .i64 a0)] = (impl_isNum.f (k + 1) a0).map impl_isNum.enc := by
  refine (impl_isNum.s k a0).trans (Eq.trans ?_ (impl_isNum.b_nat impl_isNum.enc some k a0))
  simp only [Option.map_some]
theorem impl_isNum.sound (k : Nat) : SoundF Tryd.prog 108 (fun a => (impl_isNum.ans k a).val) := by
  refine sound_plain (fun args res h => ?_) (fun t n => rfl)
  unfold impl_isNum.ans at h
  dsimp only at h
  split at h
  · cases k with
    | zero => cases h
    | succ k =>
      unfold Ans.val at h
      rw [← impl_isNum.eq] at h
      exact answer_sound mixed Tryd.func108 _ _ _ (k + 1) (fun j _ => tab_sound (tab_cons (impl_within.sound j) (tab_nil))) _ _ h
  · exact (Ans.no_val h).elim

/-! strconv_Itoa -/
def strconv_Itoa.f (k : Nat) (a0 : Int) : Option ByteArray := cond (inI a0) (some (itoaB a0)) none
def strconv_Itoa.enc (r : ByteArray) : Res := ⟨[.vals false [((.str r), true)]], []⟩
def strconv_Itoa.ans (k : Nat) : List Arg → Ans
  | [.v (.int .i64 a0)] => ⟨strconv_Itoa.f k a0, strconv_Itoa.enc⟩
  | _ => Ans.no
theorem strconv_Itoa.sound (k : Nat) : SoundF Tryd.prog 109 (fun a => (strconv_Itoa.ans k a).val) := by
  refine sound_ext (fun _ _ => rfl) fun args res h => ?_
  unfold strconv_Itoa.ans at h
  split at h
  · exact ext_itoa lay_Itoa h
  · exact (Ans.no_val h).elim

/-! loop.example/g00790/impl.NumText -/
def impl_NumText.b {R : Type} (ret : ByteArray → Option R) (k : Nat) (a0 : Int) : Option R :=
  (impl_isNum.f k a0).bind fun t0 => cond (!t0) (ret (⟨#[]⟩ : ByteArray)) ((strconv_Itoa.f k a0).bind fun t1 => ret t1)
def impl_NumText.f : Nat → Int → Option ByteArray
  | 0, _ => none
  | k + 1, a0 => impl_NumText.b some k a0
def impl_NumText.enc (r : ByteArray) : Res := ⟨[.vals false [((.str r), true)]], []⟩
def impl_NumText.ans (k : Nat) : List Arg → Ans
  | [.v (.int .i64 a0)] => ⟨impl_NumText.f k a0, impl_NumText.enc⟩
  | _ => Ans.no
def impl_NumText.Cs (k : Nat) : CallSem := tab [(108, impl_isNum.ans k), (109, strconv_Itoa.ans k)]
def impl_NumText.cuts : List (Nat × Keep) := []
theorem impl_NumText.s (k : Nat) (a0 : Int) : answer Tryd.prog impl_NumText.Cs 100000 impl_NumText.cuts [] Tryd.f66 (k + 1) [.v (.int .i64 a0)] = impl_NumText.b (fun r => some (impl_NumText.enc r)) k a0 := by kernel_rfl
theorem impl_NumText.b_nat {R R' : Type} (e : R → R') (ret : ByteArray → Option R) (k : Nat) (a0 : Int) : impl_NumText.b (fun r => (ret r).map e) k a0 = (impl_NumText.b ret k a0).map e := by
  unfold impl_NumText.b
  repeat' first | with_reducible refine nat_cond ?_ ?_ | with_reducible refine nat_bind fun _ => ?_ | rfl
theorem impl_NumText.eq (k : Nat) (a0 : Int) : answer Tryd.prog impl_NumText.Cs 100000 impl_NumText.cuts [] Tryd.f66 (k + 1) [.v (.int .i64 a0)] = (impl_NumText.f (k + 1) a0).map impl_NumText.enc := by
  refine (impl_NumText.s k a0).trans (Eq.trans ?_ (impl_NumText.b_nat impl_NumText.enc some k a0))
  simp only [Option.map_some]
theorem impl_NumText.sound (k : Nat) : SoundF Tryd.prog 66 (fun a => (impl_NumText.ans k a).val) := by
  refine sound_plain (fun args res h => ?_) (fun t n => rfl)
  unfold impl_NumText.ans at h
  dsimp only at h
  split at h
  · cases k with
    | zero => cases h
    | succ k =>
      unfold Ans.val at h
      rw [← impl_NumText.eq] at h
      exact answer_sound mixed Tryd.func66 _ _ _ (k + 1) (fun j _ => tab_sound (tab_cons (impl_isNum.sound j) (tab_cons (strconv_Itoa.sound j) (tab_nil)))) _ _ h
  · exact (Ans.no_val h).elim

/-! loop.example/g00790/impl.place -/
def impl_place.b {R : Type} (ret : ByteArray → Option R) (k : Nat) (a0 : Int) (a1 : Int) : Option R :=
  (impl_NumText.f k a0).bind fun t0 => cond (decide ((t0).size + ((⟨#[47]⟩ : ByteArray)).size ≤ 140737488355328)) ((impl_NumText.f k a1).bind fun t1 => cond (decide (((t0 ++ (⟨#[47]⟩ : ByteArray))).size + (t1).size ≤ 140737488355328)) (ret ((t0 ++ (⟨#[47]⟩ : ByteArray)) ++ t1)) (none)) (none)
def impl_place.f : Nat → Int → Int → Option ByteArray
  | 0, _, _ => none
  | k + 1, a0, a1 => impl_place.b some k a0 a1
def impl_place.enc (r : ByteArray) : Res := ⟨[.vals false [((.str r), true)]], []⟩
def impl_place.ans (k : Nat) : List Arg → Ans
  | [.v (.int .i64 a0), .v (.int .i64 a1)] => ⟨impl_place.f k a0 a1, impl_place.enc⟩
  | _ => Ans.no
def impl_place.Cs (k : Nat) : CallSem := tab [(66, impl_NumText.ans k)]
def impl_place.cuts : List (Nat × Keep) := []
theorem impl_place.s (k : Nat) (a0 : Int) (a1 : Int) : answer Tryd.prog impl_place.Cs 100000 impl_place.cuts [] Tryd.f72 (k + 1) [.v (.int .i64 a0), .v (.int .i64 a1)] = impl_place.b (fun r => some (impl_place.enc r)) k a0 a1 := by kernel_rfl
theorem impl_place.b_nat {R R' : Type} (e : R → R') (ret : ByteArray → Option R) (k : Nat) (a0 : Int) (a1 : Int) : impl_place.b (fun r => (ret r).map e) k a0 a1 = (impl_place.b ret k a0 a1).map e := by
  unfold impl_place.b
  repeat' first | with_reducible refine nat_cond ?_ ?_ | with_reducible refine nat_bind fun _ => ?_ | rfl
theorem impl_place.eq (k : Nat) (a0 : Int) (a1 : Int) : answer Tryd.prog impl_place.Cs 100000 impl_place.cuts [] Tryd.f72 (k + 1) [.v (.int .i64 a0), .v (.int .i64 a1)] = (impl_place.f (k + 1) a0 a1).map impl_place.enc := by
  refine (impl_place.s k a0 a1).trans (Eq.trans ?_ (impl_place.b_nat impl_place.enc some k a0 a1))
  simp only [Option.map_some]
theorem impl_place.sound (k : Nat) : SoundF Tryd.prog 72 (fun a => (impl_place.ans k a).val) := by
  refine sound_plain (fun args res h => ?_) (fun t n => rfl)
  unfold impl_place.ans at h
  dsimp only at h
  split at h
  · cases k with
    | zero => cases h
    | succ k =>
      unfold Ans.val at h
      rw [← impl_place.eq] at h
      exact answer_sound mixed Tryd.func72 _ _ _ (k + 1) (fun j _ => tab_sound (tab_cons (impl_NumText.sound j) (tab_nil))) _ _ h
  · exact (Ans.no_val h).elim

/-! loop.example/g00790/impl.HexText -/
def impl_HexText.b {R : Type} (ret : ByteArray → Option R) (j0 : (List Int) → Bool → (List Int) → Int → Int → Option R) (k : Nat) (a0z : Bool) (a0 : List Int) : Option R :=
  j0 ([] : List Int) a0z a0 ((a0).length : Int) 0
def impl_HexText.l0b {R : Type} (ret : ByteArray → Option R) (j0 : (List Int) → Bool → (List Int) → Int → Int → Option R) (k : Nat) (x3 : List Int) (x7z : Bool) (x7 : List Int) (x8 : Int) (x9 : Int) : Option R :=
  cond (decide (x9 < x8)) (cond (decide ((0 : Int) ≤ x9)) (cond (decide (x9 < ((x7).length : Int))) (cond (decide ((0 : Int) ≤ (shrI .u8 (rdI x7 x9) 4))) (cond (decide ((shrI .u8 (rdI x7 x9) 4) < (((⟨#[48, 49, 50, 51, 52, 53, 54, 55, 56, 57, 97, 98, 99, 100, 101, 102]⟩ : ByteArray)).size : Int))) (cond (decide ((0 : Int) ≤ (Go.bits .and .u8 (rdI x7 x9) 15))) (cond (decide ((Go.bits .and .u8 (rdI x7 x9) 15) < (((⟨#[48, 49, 50, 51, 52, 53, 54, 55, 56, 57, 97, 98, 99, 100, 101, 102]⟩ : ByteArray)).size : Int))) (cond (decide ((x3).length + 2 < 140737488355328)) (j0 (x3 ++ ([(btI (⟨#[48, 49, 50, 51, 52, 53, 54, 55, 56, 57, 97, 98, 99, 100, 101, 102]⟩ : ByteArray) (shrI .u8 (rdI x7 x9) 4)), (btI (⟨#[48, 49, 50, 51, 52, 53, 54, 55, 56, 57, 97, 98, 99, 100, 101, 102]⟩ : ByteArray) (Go.bits .and .u8 (rdI x7 x9) 15))] : List Int)) x7z x7 x8 (RowKit.wrap64 (x9 + 1))) (none)) (none)) (none)) (none)) (none)) (none)) (none)) (ret (strOf x3))
def impl_HexText.l0 : Nat → (List Int) → Bool → (List Int) → Int → Int → Option ByteArray
  | 0, _, _, _, _, _ => none
  | k + 1, x3, x7z, x7, x8, x9 => impl_HexText.l0b some (impl_HexText.l0 k) k x3 x7z x7 x8 x9
def impl_HexText.f : Nat → Bool → (List Int) → Option ByteArray
  | 0, _, _ => none
  | k + 1, a0z, a0 => impl_HexText.b some (impl_HexText.l0 k) k a0z a0
def impl_HexText.enc (r : ByteArray) : Res := ⟨[.vals false [((.str r), true)]], []⟩
def impl_HexText.ans (k : Nat) : List Arg → Ans
  | [.v (.nums 5 .u8 a0z a0)] => ⟨impl_HexText.f k a0z a0, impl_HexText.enc⟩
  | _ => Ans.no
def impl_HexText.Cs (k : Nat) : CallSem := tab []
def impl_HexText.cuts : List (Nat × Keep) := [(58, ⟨[(3, none), (7, some []), (8, some []), (9, some [])], []⟩)]
noncomputable def impl_HexText.K0 : List Fr := framesAt [true, true, false, true, false] (bodyOf Tryd.f79 impl_HexText.cuts) []
def impl_HexText.N0 (x3 : List Int) (x7z : Bool) (x7 : List Int) (x8 : Int) (x9 : Int) : St := stOf 25 25 1 [(3, .val ⟨(.nums 5 .u8 false x3), [.l 3 0], true, some (.l 3 0)⟩), (7, .val ⟨(.nums 5 .u8 x7z x7), [], false, none⟩), (8, .val (V.s (.int .i64 x8))), (9, .val (V.s (.int .i64 x9)))] []
theorem impl_HexText.s (k : Nat) (a0z : Bool) (a0 : List Int) : answer Tryd.prog impl_HexText.Cs 100000 impl_HexText.cuts [] Tryd.f79 (k + 1) [.v (.nums 5 .u8 a0z a0)] = impl_HexText.b (fun r => some (impl_HexText.enc r)) (fun x3 x7z x7 x8 x9 => rounds Tryd.prog impl_HexText.Cs (finish Tryd.prog [] Tryd.f79 [.v (.nums 5 .u8 a0z a0)]) 100000 k impl_HexText.K0 (impl_HexText.N0 x3 x7z x7 x8 x9)) k a0z a0 := by kernel_rfl
theorem impl_HexText.s0 (k : Nat) (G : List Fr → St → Option Res) (a0z : Bool) (a0 : List Int) (yx3 : List Int) (yx7z : Bool) (yx7 : List Int) (yx8 : Int) (yx9 : Int) : resume Tryd.prog (impl_HexText.Cs k) G (finish Tryd.prog [] Tryd.f79 [.v (.nums 5 .u8 a0z a0)]) 100000 impl_HexText.K0 (impl_HexText.N0 yx3 yx7z yx7 yx8 yx9) = impl_HexText.l0b (fun r => some (impl_HexText.enc r)) (fun x3 x7z x7 x8 x9 => G impl_HexText.K0 (impl_HexText.N0 x3 x7z x7 x8 x9)) k yx3 yx7z yx7 yx8 yx9 := by kernel_rfl
theorem impl_HexText.b_nat {R R' : Type} (e : R → R') (ret : ByteArray → Option R) (j0 : (List Int) → Bool → (List Int) → Int → Int → Option R) (k : Nat) (a0z : Bool) (a0 : List Int) : impl_HexText.b (fun r => (ret r).map e) (fun x3 x7z x7 x8 x9 => (j0 x3 x7z x7 x8 x9).map e) k a0z a0 = (impl_HexText.b ret j0 k a0z a0).map e := by
  unfold impl_HexText.b
  repeat' first | with_reducible refine nat_cond ?_ ?_ | with_reducible refine nat_bind fun _ => ?_ | rfl
theorem impl_HexText.l0b_nat {R R' : Type} (e : R → R') (ret : ByteArray → Option R) (j0 : (List Int) → Bool → (List Int) → Int → Int → Option R) (k : Nat) (x3 : List Int) (x7z : Bool) (x7 : List Int) (x8 : Int) (x9 : Int) : impl_HexText.l0b (fun r => (ret r).map e) (fun x3 x7z x7 x8 x9 => (j0 x3 x7z x7 x8 x9).map e) k x3 x7z x7 x8 x9 = (impl_HexText.l0b ret j0 k x3 x7z x7 x8 x9).map e := by
  unfold impl_HexText.l0b
  repeat' first | with_reducible refine nat_cond ?_ ?_ | with_reducible refine nat_bind fun _ => ?_ | rfl
theorem impl_HexText.rounds_eq (a0z : Bool) (a0 : List Int) : ∀ k, (∀ (x3 : List Int) (x7z : Bool) (x7 : List Int) (x8 : Int) (x9 : Int), rounds Tryd.prog impl_HexText.Cs (finish Tryd.prog [] Tryd.f79 [.v (.nums 5 .u8 a0z a0)]) 100000 k impl_HexText.K0 (impl_HexText.N0 x3 x7z x7 x8 x9) = (impl_HexText.l0 k x3 x7z x7 x8 x9).map impl_HexText.enc)
  | 0 => fun _ _ _ _ _ => rfl
  | k + 1 => by
    have ih := impl_HexText.rounds_eq a0z a0 k
    refine fun _ _ _ _ _ => ?_
    · refine (impl_HexText.s0 k _ a0z a0 _ _ _ _ _).trans (Eq.trans ?_ (impl_HexText.l0b_nat impl_HexText.enc some (impl_HexText.l0 k) k _ _ _ _ _))
      simp only [ih, Option.map_some]
theorem impl_HexText.eq (k : Nat) (a0z : Bool) (a0 : List Int) : answer Tryd.prog impl_HexText.Cs 100000 impl_HexText.cuts [] Tryd.f79 (k + 1) [.v (.nums 5 .u8 a0z a0)] = (impl_HexText.f (k + 1) a0z a0).map impl_HexText.enc := by
  have ih := impl_HexText.rounds_eq a0z a0 k
  refine (impl_HexText.s k a0z a0).trans (Eq.trans ?_ (impl_HexText.b_nat impl_HexText.enc some (impl_HexText.l0 k) k a0z a0))
  simp only [ih, Option.map_some]
theorem impl_HexText.sound (k : Nat) : SoundF Tryd.prog 79 (fun a => (impl_HexText.ans k a).val) := by
  refine sound_plain (fun args res h => ?_) (fun t n => rfl)
  unfold impl_HexText.ans at h
  dsimp only at h
  split at h
  · cases k with
    | zero => cases h
    | succ k =>
      unfold Ans.val at h
      rw [← impl_HexText.eq] at h
      exact answer_sound mixed Tryd.func79 _ _ _ (k + 1) (fun j _ => tab_sound (tab_nil)) _ _ h
  · exact (Ans.no_val h).elim

/-! loop.example/g00790/impl.Short -/
def impl_Short.b {R : Type} (ret : ByteArray → Option R) (k : Nat) (a0z : Bool) (a0 : List Int) : Option R :=
  cond (decide ((0 : Int) ≤ (mnI ((a0).length : Int) 4))) (cond (decide ((mnI ((a0).length : Int) 4) ≤ ((a0).length : Int))) (cond (decide ((0 : Int) ≤ (mnI ((a0).length : Int) 4))) ((impl_HexText.f k a0z (((a0).take ((mnI ((a0).length : Int) 4)).toNat).drop 0)).bind fun t0 => ret t0) (none)) (none)) (none)
def impl_Short.f : Nat → Bool → (List Int) → Option ByteArray
  | 0, _, _ => none
  | k + 1, a0z, a0 => impl_Short.b some k a0z a0
def impl_Short.enc (r : ByteArray) : Res := ⟨[.vals false [((.str r), true)]], []⟩
def impl_Short.ans (k : Nat) : List Arg → Ans
  | [.v (.nums 5 .u8 a0z a0)] => ⟨impl_Short.f k a0z a0, impl_Short.enc⟩
  | _ => Ans.no
def impl_Short.Cs (k : Nat) : CallSem := tab [(79, impl_HexText.ans k)]
def impl_Short.cuts : List (Nat × Keep) := []
theorem impl_Short.s (k : Nat) (a0z : Bool) (a0 : List Int) : answer Tryd.prog impl_Short.Cs 100000 impl_Short.cuts [] Tryd.f73 (k + 1) [.v (.nums 5 .u8 a0z a0)] = impl_Short.b (fun r => some (impl_Short.enc r)) k a0z a0 := by kernel_rfl
theorem impl_Short.b_nat {R R' : Type} (e : R → R') (ret : ByteArray → Option R) (k : Nat) (a0z : Bool) (a0 : List Int) : impl_Short.b (fun r => (ret r).map e) k a0z a0 = (impl_Short.b ret k a0z a0).map e := by
  unfold impl_Short.b
  repeat' first | with_reducible refine nat_cond ?_ ?_ | with_reducible refine nat_bind fun _ => ?_ | rfl
theorem impl_Short.eq (k : Nat) (a0z : Bool) (a0 : List Int) : answer Tryd.prog impl_Short.Cs 100000 impl_Short.cuts [] Tryd.f73 (k + 1) [.v (.nums 5 .u8 a0z a0)] = (impl_Short.f (k + 1) a0z a0).map impl_Short.enc := by
  refine (impl_Short.s k a0z a0).trans (Eq.trans ?_ (impl_Short.b_nat impl_Short.enc some k a0z a0))
  simp only [Option.map_some]
theorem impl_Short.sound (k : Nat) : SoundF Tryd.prog 73 (fun a => (impl_Short.ans k a).val) := by
  refine sound_plain (fun args res h => ?_) (fun t n => rfl)
  unfold impl_Short.ans at h
  dsimp only at h
  split at h
  · cases k with
    | zero => cases h
    | succ k =>
      unfold Ans.val at h
      rw [← impl_Short.eq] at h
      exact answer_sound mixed Tryd.func73 _ _ _ (k + 1) (fun j _ => tab_sound (tab_cons (impl_HexText.sound j) (tab_nil))) _ _ h
  · exact (Ans.no_val h).elim

/-! strings_Join -/
def strings_Join.f (k : Nat) (a0z : Bool) (a0 : List T) (a1 : ByteArray) : Option ByteArray := cond (joinOk a0 a1) (some (joinB a0 a1)) none
def strings_Join.enc (r : ByteArray) : Res := ⟨[.vals false [((.str r), true)]], []⟩
def strings_Join.ans (k : Nat) : List Arg → Ans
  | [.v (.sl 9 a0z a0), .v (.str a1)] => ⟨strings_Join.f k a0z a0 a1, strings_Join.enc⟩
  | _ => Ans.no
theorem strings_Join.sound (k : Nat) : SoundF Tryd.prog 92 (fun a => (strings_Join.ans k a).val) := by
  refine sound_ext (fun _ _ => rfl) fun args res h => ?_
  unfold strings_Join.ans at h
  split at h
  · exact ext_join lay_Join (by kernel_rfl) h
  · exact (Ans.no_val h).elim

/-! loop.example/g00790/impl.orDash -/
def impl_orDash.b {R : Type} (ret : ByteArray → Option R) (k : Nat) (a0z : Bool) (a0 : List T) : Option R :=
  cond (decide (((a0).length : Int) = 0)) (ret (⟨#[45]⟩ : ByteArray)) ((strings_Join.f k a0z a0 (⟨#[44]⟩ : ByteArray)).bind fun t0 => ret t0)
def impl_orDash.f : Nat → Bool → (List T) → Option ByteArray
  | 0, _, _ => none
  | k + 1, a0z, a0 => impl_orDash.b some k a0z a0
def impl_orDash.enc (r : ByteArray) : Res := ⟨[.vals false [((.str r), true)]], []⟩
def impl_orDash.ans (k : Nat) : List Arg → Ans
  | [.v (.sl 9 a0z a0)] => ⟨impl_orDash.f k a0z a0, impl_orDash.enc⟩
  | _ => Ans.no
def impl_orDash.Cs (k : Nat) : CallSem := tab [(92, strings_Join.ans k)]
def impl_orDash.cuts : List (Nat × Keep) := []
theorem impl_orDash.s (k : Nat) (a0z : Bool) (a0 : List T) : answer Tryd.prog impl_orDash.Cs 100000 impl_orDash.cuts [] Tryd.f84 (k + 1) [.v (.sl 9 a0z a0)] = impl_orDash.b (fun r => some (impl_orDash.enc r)) k a0z a0 := by kernel_rfl
theorem impl_orDash.b_nat {R R' : Type} (e : R → R') (ret : ByteArray → Option R) (k : Nat) (a0z : Bool) (a0 : List T) : impl_orDash.b (fun r => (ret r).map e) k a0z a0 = (impl_orDash.b ret k a0z a0).map e := by
  unfold impl_orDash.b
  repeat' first | with_reducible refine nat_cond ?_ ?_ | with_reducible refine nat_bind fun _ => ?_ | rfl
theorem impl_orDash.eq (k : Nat) (a0z : Bool) (a0 : List T) : answer Tryd.prog impl_orDash.Cs 100000 impl_orDash.cuts [] Tryd.f84 (k + 1) [.v (.sl 9 a0z a0)] = (impl_orDash.f (k + 1) a0z a0).map impl_orDash.enc := by
  refine (impl_orDash.s k a0z a0).trans (Eq.trans ?_ (impl_orDash.b_nat impl_orDash.enc some k a0z a0))
  simp only [Option.map_some]
theorem impl_orDash.sound (k : Nat) : SoundF Tryd.prog 84 (fun a => (impl_orDash.ans k a).val) := by
  refine sound_plain (fun args res h => ?_) (fun t n => rfl)
  unfold impl_orDash.ans at h
  dsimp only at h
  split at h
  · cases k with
    | zero => cases h
    | succ k =>
      unfold Ans.val at h
      rw [← impl_orDash.eq] at h
      exact answer_sound mixed Tryd.func84 _ _ _ (k + 1) (fun j _ => tab_sound (tab_cons (strings_Join.sound j) (tab_nil))) _ _ h
  · exact (Ans.no_val h).elim

end Go.Proofs.YtjffolalgcmhaaaDoorG
