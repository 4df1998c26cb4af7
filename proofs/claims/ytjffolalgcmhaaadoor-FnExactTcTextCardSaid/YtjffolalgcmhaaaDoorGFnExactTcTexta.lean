/- What the functions compute, printed by a program of this repo; each is shown to be what the machine of values answers. No condition. -/
import Derived.Test.YtjffolalgcmhaaaDoorProg
import Derived.KernelRfl
import Derived.Test.YtjffolalgcmhaaaDoorLay
namespace Go.Proofs.YtjffolalgcmhaaaDoorG
open Go Go.Proofs.YtjffolalgcmhaaaDoorRv Go.Proofs
set_option linter.unusedVariables false
set_option linter.unusedSimpArgs false
theorem mixed : Tryd.prog.follows .mixedOrders = true := by kernel_rfl
/-! loop.example/g00790/laws.szByteS -/
def laws_szByteS.b {R : Type} (ret : Int → Option R) (k : Nat) (a0z : Bool) (a0 : List Int) (a1 : Int) : Option R :=
  cond (decide ((RowKit.wrap64 (a1 - ((a0).length : Int))) < 0)) (ret (-1)) (ret (RowKit.wrap64 (a1 - ((a0).length : Int))))
def laws_szByteS.f : Nat → Bool → (List Int) → Int → Option Int
  | 0, _, _, _ => none
  | k + 1, a0z, a0, a1 => laws_szByteS.b some k a0z a0 a1
def laws_szByteS.enc (r : Int) : Res := ⟨[.vals false [((.int .i64 r), true)]], []⟩
def laws_szByteS.ans (k : Nat) : List Arg → Ans
  | [.v (.nums 5 .u8 a0z a0), .v (.int .i64 a1)] => ⟨laws_szByteS.f k a0z a0 a1, laws_szByteS.enc⟩
  | _ => Ans.no
def laws_szByteS.Cs (k : Nat) : CallSem := tab []
def laws_szByteS.cuts : List (Nat × Keep) := []
theorem laws_szByteS.s (k : Nat) (a0z : Bool) (a0 : List Int) (a1 : Int) : answer Tryd.prog laws_szByteS.Cs 100000 laws_szByteS.cuts [] Tryd.f69 (k + 1) [.v (.nums 5 .u8 a0z a0), .v (.int .i64 a1)] = laws_szByteS.b (fun r => some (laws_szByteS.enc r)) k a0z a0 a1 := by kernel_rfl
theorem laws_szByteS.b_nat {R R' : Type} (e : R → R') (ret : Int → Option R) (k : Nat) (a0z : Bool) (a0 : List Int) (a1 : Int) : laws_szByteS.b (fun r => (ret r).map e) k a0z a0 a1 = (laws_szByteS.b ret k a0z a0 a1).map e := by
  unfold laws_szByteS.b
  repeat' first | with_reducible refine nat_cond ?_ ?_ | with_reducible refine nat_bind fun _ => ?_ | rfl
theorem laws_szByteS.eq (k : Nat) (a0z : Bool) (a0 : List Int) (a1 : Int) : answer Tryd.prog laws_szByteS.Cs 100000 laws_szByteS.cuts [] Tryd.f69 (k + 1) [.v (.nums 5 .u8 a0z a0), .v (.int .i64 a1)] = (laws_szByteS.f (k + 1) a0z a0 a1).map laws_szByteS.enc := by
  refine (laws_szByteS.s k a0z a0 a1).trans (Eq.trans ?_ (laws_szByteS.b_nat laws_szByteS.enc some k a0z a0 a1))
  simp only [Option.map_some]
theorem laws_szByteS.sound (k : Nat) : SoundF Tryd.prog 69 (fun a => (laws_szByteS.ans k a).val) := by
  refine sound_plain (fun args res h => ?_) (fun t n => rfl)
  unfold laws_szByteS.ans at h
  dsimp only at h
  split at h
  · cases k with
    | zero => cases h
    | succ k =>
      unfold Ans.val at h
      rw [← laws_szByteS.eq] at h
      exact answer_sound mixed Tryd.func69 _ _ _ (k + 1) (fun j _ => tab_sound (tab_nil)) _ _ h
  · exact (Ans.no_val h).elim

/-! loop.example/g00790/laws.szEntry -/
def laws_szEntry.b {R : Type} (ret : Int → Option R) (k : Nat) (a0_0 : Int) (a0_1 : Int) (a0_2z : Bool) (a0_2 : List Int) (a1 : Int) : Option R :=
  (laws_szByteS.f k a0_2z a0_2 a1).bind fun t0 => cond (decide (t0 < 0)) (ret (-1)) (ret t0)
def laws_szEntry.f : Nat → Int → Int → Bool → (List Int) → Int → Option Int
  | 0, _, _, _, _, _ => none
  | k + 1, a0_0, a0_1, a0_2z, a0_2, a1 => laws_szEntry.b some k a0_0 a0_1 a0_2z a0_2 a1
def laws_szEntry.enc (r : Int) : Res := ⟨[.vals false [((.int .i64 r), true)]], []⟩
def laws_szEntry.ans (k : Nat) : List Arg → Ans
  | [.v (.agg [(.int .i64 a0_0), (.int .i64 a0_1), (.nums 5 .u8 a0_2z a0_2)]), .v (.int .i64 a1)] => ⟨laws_szEntry.f k a0_0 a0_1 a0_2z a0_2 a1, laws_szEntry.enc⟩
  | _ => Ans.no
def laws_szEntry.Cs (k : Nat) : CallSem := tab [(69, laws_szByteS.ans k)]
def laws_szEntry.cuts : List (Nat × Keep) := []
theorem laws_szEntry.s (k : Nat) (a0_0 : Int) (a0_1 : Int) (a0_2z : Bool) (a0_2 : List Int) (a1 : Int) : answer Tryd.prog laws_szEntry.Cs 100000 laws_szEntry.cuts [] Tryd.f112 (k + 1) [.v (.agg [(.int .i64 a0_0), (.int .i64 a0_1), (.nums 5 .u8 a0_2z a0_2)]), .v (.int .i64 a1)] = laws_szEntry.b (fun r => some (laws_szEntry.enc r)) k a0_0 a0_1 a0_2z a0_2 a1 := by kernel_rfl
theorem laws_szEntry.b_nat {R R' : Type} (e : R → R') (ret : Int → Option R) (k : Nat) (a0_0 : Int) (a0_1 : Int) (a0_2z : Bool) (a0_2 : List Int) (a1 : Int) : laws_szEntry.b (fun r => (ret r).map e) k a0_0 a0_1 a0_2z a0_2 a1 = (laws_szEntry.b ret k a0_0 a0_1 a0_2z a0_2 a1).map e := by
  unfold laws_szEntry.b
  repeat' first | with_reducible refine nat_cond ?_ ?_ | with_reducible refine nat_bind fun _ => ?_ | rfl
theorem laws_szEntry.eq (k : Nat) (a0_0 : Int) (a0_1 : Int) (a0_2z : Bool) (a0_2 : List Int) (a1 : Int) : answer Tryd.prog laws_szEntry.Cs 100000 laws_szEntry.cuts [] Tryd.f112 (k + 1) [.v (.agg [(.int .i64 a0_0), (.int .i64 a0_1), (.nums 5 .u8 a0_2z a0_2)]), .v (.int .i64 a1)] = (laws_szEntry.f (k + 1) a0_0 a0_1 a0_2z a0_2 a1).map laws_szEntry.enc := by
  refine (laws_szEntry.s k a0_0 a0_1 a0_2z a0_2 a1).trans (Eq.trans ?_ (laws_szEntry.b_nat laws_szEntry.enc some k a0_0 a0_1 a0_2z a0_2 a1))
  simp only [Option.map_some]
theorem laws_szEntry.sound (k : Nat) : SoundF Tryd.prog 112 (fun a => (laws_szEntry.ans k a).val) := by
  refine sound_plain (fun args res h => ?_) (fun t n => rfl)
  unfold laws_szEntry.ans at h
  dsimp only at h
  split at h
  · cases k with
    | zero => cases h
    | succ k =>
      unfold Ans.val at h
      rw [← laws_szEntry.eq] at h
      exact answer_sound mixed Tryd.func112 _ _ _ (k + 1) (fun j _ => tab_sound (tab_cons (laws_szByteS.sound j) (tab_nil))) _ _ h
  · exact (Ans.no_val h).elim

/-! loop.example/g00790/laws.szEntryS -/
def laws_szEntryS.b {R : Type} (ret : Int → Option R) (j0 : Bool → (List T) → Int → Int → Option R) (k : Nat) (a0z : Bool) (a0 : List T) (a1 : Int) : Option R :=
  cond (decide ((RowKit.wrap64 (a1 - ((a0).length : Int))) < 0)) (ret (-1)) (j0 a0z a0 (RowKit.wrap64 (a1 - ((a0).length : Int))) 0)
def laws_szEntryS.l0b {R : Type} (ret : Int → Option R) (j0 : Bool → (List T) → Int → Int → Option R) (k : Nat) (x0z : Bool) (x0 : List T) (x1 : Int) (x5 : Int) : Option R :=
  cond (decide (x5 < ((x0).length : Int))) (cond (decide ((0 : Int) ≤ x5)) (cond (decide (x5 < ((x0).length : Int))) ((laws_szEntry.f k (((((x0).getD (x5).toNat .bad).cells.getD 0 .bad)).toInt) (((((x0).getD (x5).toNat .bad).cells.getD 1 .bad)).toInt) (((((x0).getD (x5).toNat .bad).cells.getD 2 .bad)).isNil) (((((x0).getD (x5).toNat .bad).cells.getD 2 .bad)).toNums) x1).bind fun t0 => cond (decide (t0 < 0)) (ret (-1)) (j0 x0z x0 t0 (RowKit.wrap64 (x5 + 1)))) (none)) (none)) (ret x1)
def laws_szEntryS.l0 : Nat → Bool → (List T) → Int → Int → Option Int
  | 0, _, _, _, _ => none
  | k + 1, x0z, x0, x1, x5 => laws_szEntryS.l0b some (laws_szEntryS.l0 k) k x0z x0 x1 x5
def laws_szEntryS.f : Nat → Bool → (List T) → Int → Option Int
  | 0, _, _, _ => none
  | k + 1, a0z, a0, a1 => laws_szEntryS.b some (laws_szEntryS.l0 k) k a0z a0 a1
def laws_szEntryS.enc (r : Int) : Res := ⟨[.vals false [((.int .i64 r), true)]], []⟩
def laws_szEntryS.ans (k : Nat) : List Arg → Ans
  | [.v (.sl 165 a0z a0), .v (.int .i64 a1)] => ⟨laws_szEntryS.f k a0z a0 a1, laws_szEntryS.enc⟩
  | _ => Ans.no
def laws_szEntryS.Cs (k : Nat) : CallSem := tab [(112, laws_szEntry.ans k)]
def laws_szEntryS.cuts : List (Nat × Keep) := [(122, ⟨[(0, some []), (1, some []), (5, some [])], []⟩)]
noncomputable def laws_szEntryS.K0 : List Fr := framesAt [true, true, true, false, true, false] (bodyOf Tryd.f81 laws_szEntryS.cuts) []
def laws_szEntryS.N0 (x0z : Bool) (x0 : List T) (x1 : Int) (x5 : Int) : St := stOf 27 27 2 [(0, .val ⟨(.sl 165 x0z x0), [], false, none⟩), (1, .val (V.s (.int .i64 x1))), (5, .val (V.s (.int .i64 x5)))] []
theorem laws_szEntryS.s (k : Nat) (a0z : Bool) (a0 : List T) (a1 : Int) : answer Tryd.prog laws_szEntryS.Cs 100000 laws_szEntryS.cuts [] Tryd.f81 (k + 1) [.v (.sl 165 a0z a0), .v (.int .i64 a1)] = laws_szEntryS.b (fun r => some (laws_szEntryS.enc r)) (fun x0z x0 x1 x5 => rounds Tryd.prog laws_szEntryS.Cs (finish Tryd.prog [] Tryd.f81 [.v (.sl 165 a0z a0), .v (.int .i64 a1)]) 100000 k laws_szEntryS.K0 (laws_szEntryS.N0 x0z x0 x1 x5)) k a0z a0 a1 := by kernel_rfl
theorem laws_szEntryS.s0 (k : Nat) (G : List Fr → St → Option Res) (a0z : Bool) (a0 : List T) (a1 : Int) (yx0z : Bool) (yx0 : List T) (yx1 : Int) (yx5 : Int) : resume Tryd.prog (laws_szEntryS.Cs k) G (finish Tryd.prog [] Tryd.f81 [.v (.sl 165 a0z a0), .v (.int .i64 a1)]) 100000 laws_szEntryS.K0 (laws_szEntryS.N0 yx0z yx0 yx1 yx5) = laws_szEntryS.l0b (fun r => some (laws_szEntryS.enc r)) (fun x0z x0 x1 x5 => G laws_szEntryS.K0 (laws_szEntryS.N0 x0z x0 x1 x5)) k yx0z yx0 yx1 yx5 := by kernel_rfl
theorem laws_szEntryS.b_nat {R R' : Type} (e : R → R') (ret : Int → Option R) (j0 : Bool → (List T) → Int → Int → Option R) (k : Nat) (a0z : Bool) (a0 : List T) (a1 : Int) : laws_szEntryS.b (fun r => (ret r).map e) (fun x0z x0 x1 x5 => (j0 x0z x0 x1 x5).map e) k a0z a0 a1 = (laws_szEntryS.b ret j0 k a0z a0 a1).map e := by
  unfold laws_szEntryS.b
  repeat' first | with_reducible refine nat_cond ?_ ?_ | with_reducible refine nat_bind fun _ => ?_ | rfl
theorem laws_szEntryS.l0b_nat {R R' : Type} (e : R → R') (ret : Int → Option R) (j0 : Bool → (List T) → Int → Int → Option R) (k : Nat) (x0z : Bool) (x0 : List T) (x1 : Int) (x5 : Int) : laws_szEntryS.l0b (fun r => (ret r).map e) (fun x0z x0 x1 x5 => (j0 x0z x0 x1 x5).map e) k x0z x0 x1 x5 = (laws_szEntryS.l0b ret j0 k x0z x0 x1 x5).map e := by
  unfold laws_szEntryS.l0b
  repeat' first | with_reducible refine nat_cond ?_ ?_ | with_reducible refine nat_bind fun _ => ?_ | rfl
theorem laws_szEntryS.rounds_eq (a0z : Bool) (a0 : List T) (a1 : Int) : ∀ k, (∀ (x0z : Bool) (x0 : List T) (x1 : Int) (x5 : Int), rounds Tryd.prog laws_szEntryS.Cs (finish Tryd.prog [] Tryd.f81 [.v (.sl 165 a0z a0), .v (.int .i64 a1)]) 100000 k laws_szEntryS.K0 (laws_szEntryS.N0 x0z x0 x1 x5) = (laws_szEntryS.l0 k x0z x0 x1 x5).map laws_szEntryS.enc)
  | 0 => fun _ _ _ _ => rfl
  | k + 1 => by
    have ih := laws_szEntryS.rounds_eq a0z a0 a1 k
    refine fun _ _ _ _ => ?_
    · refine (laws_szEntryS.s0 k _ a0z a0 a1 _ _ _ _).trans (Eq.trans ?_ (laws_szEntryS.l0b_nat laws_szEntryS.enc some (laws_szEntryS.l0 k) k _ _ _ _))
      simp only [ih, Option.map_some]
theorem laws_szEntryS.eq (k : Nat) (a0z : Bool) (a0 : List T) (a1 : Int) : answer Tryd.prog laws_szEntryS.Cs 100000 laws_szEntryS.cuts [] Tryd.f81 (k + 1) [.v (.sl 165 a0z a0), .v (.int .i64 a1)] = (laws_szEntryS.f (k + 1) a0z a0 a1).map laws_szEntryS.enc := by
  have ih := laws_szEntryS.rounds_eq a0z a0 a1 k
  refine (laws_szEntryS.s k a0z a0 a1).trans (Eq.trans ?_ (laws_szEntryS.b_nat laws_szEntryS.enc some (laws_szEntryS.l0 k) k a0z a0 a1))
  simp only [ih, Option.map_some]
theorem laws_szEntryS.sound (k : Nat) : SoundF Tryd.prog 81 (fun a => (laws_szEntryS.ans k a).val) := by
  refine sound_plain (fun args res h => ?_) (fun t n => rfl)
  unfold laws_szEntryS.ans at h
  dsimp only at h
  split at h
  · cases k with
    | zero => cases h
    | succ k =>
      unfold Ans.val at h
      rw [← laws_szEntryS.eq] at h
      exact answer_sound mixed Tryd.func81 _ _ _ (k + 1) (fun j _ => tab_sound (tab_cons (laws_szEntry.sound j) (tab_nil))) _ _ h
  · exact (Ans.no_val h).elim

/-! loop.example/g00790/laws.szTc -/
def laws_szTc.b {R : Type} (ret : Int → Option R) (k : Nat) (a0_0 : Int) (a0_1z : Bool) (a0_1 : List T) (a1 : Int) : Option R :=
  (laws_szEntryS.f k a0_1z a0_1 a1).bind fun t0 => cond (decide (t0 < 0)) (ret (-1)) (ret t0)
def laws_szTc.f : Nat → Int → Bool → (List T) → Int → Option Int
  | 0, _, _, _, _ => none
  | k + 1, a0_0, a0_1z, a0_1, a1 => laws_szTc.b some k a0_0 a0_1z a0_1 a1
def laws_szTc.enc (r : Int) : Res := ⟨[.vals false [((.int .i64 r), true)]], []⟩
def laws_szTc.ans (k : Nat) : List Arg → Ans
  | [.v (.agg [(.int .i64 a0_0), (.sl 165 a0_1z a0_1)]), .v (.int .i64 a1)] => ⟨laws_szTc.f k a0_0 a0_1z a0_1 a1, laws_szTc.enc⟩
  | _ => Ans.no
def laws_szTc.Cs (k : Nat) : CallSem := tab [(81, laws_szEntryS.ans k)]
def laws_szTc.cuts : List (Nat × Keep) := []
theorem laws_szTc.s (k : Nat) (a0_0 : Int) (a0_1z : Bool) (a0_1 : List T) (a1 : Int) : answer Tryd.prog laws_szTc.Cs 100000 laws_szTc.cuts [] Tryd.f31 (k + 1) [.v (.agg [(.int .i64 a0_0), (.sl 165 a0_1z a0_1)]), .v (.int .i64 a1)] = laws_szTc.b (fun r => some (laws_szTc.enc r)) k a0_0 a0_1z a0_1 a1 := by kernel_rfl
theorem laws_szTc.b_nat {R R' : Type} (e : R → R') (ret : Int → Option R) (k : Nat) (a0_0 : Int) (a0_1z : Bool) (a0_1 : List T) (a1 : Int) : laws_szTc.b (fun r => (ret r).map e) k a0_0 a0_1z a0_1 a1 = (laws_szTc.b ret k a0_0 a0_1z a0_1 a1).map e := by
  unfold laws_szTc.b
  repeat' first | with_reducible refine nat_cond ?_ ?_ | with_reducible refine nat_bind fun _ => ?_ | rfl
theorem laws_szTc.eq (k : Nat) (a0_0 : Int) (a0_1z : Bool) (a0_1 : List T) (a1 : Int) : answer Tryd.prog laws_szTc.Cs 100000 laws_szTc.cuts [] Tryd.f31 (k + 1) [.v (.agg [(.int .i64 a0_0), (.sl 165 a0_1z a0_1)]), .v (.int .i64 a1)] = (laws_szTc.f (k + 1) a0_0 a0_1z a0_1 a1).map laws_szTc.enc := by
  refine (laws_szTc.s k a0_0 a0_1z a0_1 a1).trans (Eq.trans ?_ (laws_szTc.b_nat laws_szTc.enc some k a0_0 a0_1z a0_1 a1))
  simp only [Option.map_some]
theorem laws_szTc.sound (k : Nat) : SoundF Tryd.prog 31 (fun a => (laws_szTc.ans k a).val) := by
  refine sound_plain (fun args res h => ?_) (fun t n => rfl)
  unfold laws_szTc.ans at h
  dsimp only at h
  split at h
  · cases k with
    | zero => cases h
    | succ k =>
      unfold Ans.val at h
      rw [← laws_szTc.eq] at h
      exact answer_sound mixed Tryd.func31 _ _ _ (k + 1) (fun j _ => tab_sound (tab_cons (laws_szEntryS.sound j) (tab_nil))) _ _ h
  · exact (Ans.no_val h).elim

/-! loop.example/g00790/laws.toByteS -/
def laws_toByteS.b {R : Type} (ret : Bool × List Int → Option R) (j0 : Bool → (List Int) → (List Int) → Int → Option R) (k : Nat) (a0z : Bool) (a0 : List Int) : Option R :=
  cond (decide (((a0).length : Int) = ((a0).length : Int))) (cond (decide ((0 : Int) ≤ ((a0).length : Int))) (cond (decide ((a0).length < 140737488355328)) (j0 a0z a0 (List.replicate (a0).length (0 : Int)) 0) (none)) (none)) (none)
def laws_toByteS.l0b {R : Type} (ret : Bool × List Int → Option R) (j0 : Bool → (List Int) → (List Int) → Int → Option R) (k : Nat) (x0z : Bool) (x0 : List Int) (x3 : List Int) (x4 : Int) : Option R :=
  cond (decide (x4 < ((x0).length : Int))) (cond (decide ((0 : Int) ≤ x4)) (cond (decide (x4 < ((x0).length : Int))) (cond (decide ((0 : Int) ≤ x4)) (cond (decide (x4 < ((x3).length : Int))) (j0 x0z x0 ((x3).set (x4).toNat (rdI x0 x4)) (RowKit.wrap64 (x4 + 1))) (none)) (none)) (none)) (none)) (ret (false, x3))
def laws_toByteS.l0 : Nat → Bool → (List Int) → (List Int) → Int → Option (Bool × List Int)
  | 0, _, _, _, _ => none
  | k + 1, x0z, x0, x3, x4 => laws_toByteS.l0b some (laws_toByteS.l0 k) k x0z x0 x3 x4
def laws_toByteS.f : Nat → Bool → (List Int) → Option (Bool × List Int)
  | 0, _, _ => none
  | k + 1, a0z, a0 => laws_toByteS.b some (laws_toByteS.l0 k) k a0z a0
def laws_toByteS.enc (r : Bool × List Int) : Res := ⟨[.vals false [((.nums 5 .u8 r.1 r.2), true)]], []⟩
def laws_toByteS.ans (k : Nat) : List Arg → Ans
  | [.v (.nums 5 .u8 a0z a0)] => ⟨laws_toByteS.f k a0z a0, laws_toByteS.enc⟩
  | _ => Ans.no
def laws_toByteS.Cs (k : Nat) : CallSem := tab []
def laws_toByteS.cuts : List (Nat × Keep) := [(58, ⟨[(0, some []), (3, none), (4, some [])], []⟩)]
noncomputable def laws_toByteS.K0 : List Fr := framesAt [true, true, false, true, false] (bodyOf Tryd.f71 laws_toByteS.cuts) []
def laws_toByteS.N0 (x0z : Bool) (x0 : List Int) (x3 : List Int) (x4 : Int) : St := stOf 22 22 1 [(0, .val ⟨(.nums 5 .u8 x0z x0), [], false, none⟩), (3, .val ⟨(.nums 5 .u8 false x3), [.l 3 0], true, some (.l 3 0)⟩), (4, .val (V.s (.int .i64 x4)))] []
theorem laws_toByteS.s (k : Nat) (a0z : Bool) (a0 : List Int) : answer Tryd.prog laws_toByteS.Cs 100000 laws_toByteS.cuts [] Tryd.f71 (k + 1) [.v (.nums 5 .u8 a0z a0)] = laws_toByteS.b (fun r => some (laws_toByteS.enc r)) (fun x0z x0 x3 x4 => rounds Tryd.prog laws_toByteS.Cs (finish Tryd.prog [] Tryd.f71 [.v (.nums 5 .u8 a0z a0)]) 100000 k laws_toByteS.K0 (laws_toByteS.N0 x0z x0 x3 x4)) k a0z a0 := by kernel_rfl
theorem laws_toByteS.s0 (k : Nat) (G : List Fr → St → Option Res) (a0z : Bool) (a0 : List Int) (yx0z : Bool) (yx0 : List Int) (yx3 : List Int) (yx4 : Int) : resume Tryd.prog (laws_toByteS.Cs k) G (finish Tryd.prog [] Tryd.f71 [.v (.nums 5 .u8 a0z a0)]) 100000 laws_toByteS.K0 (laws_toByteS.N0 yx0z yx0 yx3 yx4) = laws_toByteS.l0b (fun r => some (laws_toByteS.enc r)) (fun x0z x0 x3 x4 => G laws_toByteS.K0 (laws_toByteS.N0 x0z x0 x3 x4)) k yx0z yx0 yx3 yx4 := by kernel_rfl
theorem laws_toByteS.b_nat {R R' : Type} (e : R → R') (ret : Bool × List Int → Option R) (j0 : Bool → (List Int) → (List Int) → Int → Option R) (k : Nat) (a0z : Bool) (a0 : List Int) : laws_toByteS.b (fun r => (ret r).map e) (fun x0z x0 x3 x4 => (j0 x0z x0 x3 x4).map e) k a0z a0 = (laws_toByteS.b ret j0 k a0z a0).map e := by
  unfold laws_toByteS.b
  repeat' first | with_reducible refine nat_cond ?_ ?_ | with_reducible refine nat_bind fun _ => ?_ | rfl
theorem laws_toByteS.l0b_nat {R R' : Type} (e : R → R') (ret : Bool × List Int → Option R) (j0 : Bool → (List Int) → (List Int) → Int → Option R) (k : Nat) (x0z : Bool) (x0 : List Int) (x3 : List Int) (x4 : Int) : laws_toByteS.l0b (fun r => (ret r).map e) (fun x0z x0 x3 x4 => (j0 x0z x0 x3 x4).map e) k x0z x0 x3 x4 = (laws_toByteS.l0b ret j0 k x0z x0 x3 x4).map e := by
  unfold laws_toByteS.l0b
  repeat' first | with_reducible refine nat_cond ?_ ?_ | with_reducible refine nat_bind fun _ => ?_ | rfl
theorem laws_toByteS.rounds_eq (a0z : Bool) (a0 : List Int) : ∀ k, (∀ (x0z : Bool) (x0 : List Int) (x3 : List Int) (x4 : Int), rounds Tryd.prog laws_toByteS.Cs (finish Tryd.prog [] Tryd.f71 [.v (.nums 5 .u8 a0z a0)]) 100000 k laws_toByteS.K0 (laws_toByteS.N0 x0z x0 x3 x4) = (laws_toByteS.l0 k x0z x0 x3 x4).map laws_toByteS.enc)
  | 0 => fun _ _ _ _ => rfl
  | k + 1 => by
    have ih := laws_toByteS.rounds_eq a0z a0 k
    refine fun _ _ _ _ => ?_
    · refine (laws_toByteS.s0 k _ a0z a0 _ _ _ _).trans (Eq.trans ?_ (laws_toByteS.l0b_nat laws_toByteS.enc some (laws_toByteS.l0 k) k _ _ _ _))
      simp only [ih, Option.map_some]
theorem laws_toByteS.eq (k : Nat) (a0z : Bool) (a0 : List Int) : answer Tryd.prog laws_toByteS.Cs 100000 laws_toByteS.cuts [] Tryd.f71 (k + 1) [.v (.nums 5 .u8 a0z a0)] = (laws_toByteS.f (k + 1) a0z a0).map laws_toByteS.enc := by
  have ih := laws_toByteS.rounds_eq a0z a0 k
  refine (laws_toByteS.s k a0z a0).trans (Eq.trans ?_ (laws_toByteS.b_nat laws_toByteS.enc some (laws_toByteS.l0 k) k a0z a0))
  simp only [ih, Option.map_some]
theorem laws_toByteS.sound (k : Nat) : SoundF Tryd.prog 71 (fun a => (laws_toByteS.ans k a).val) := by
  refine sound_plain (fun args res h => ?_) (fun t n => rfl)
  unfold laws_toByteS.ans at h
  dsimp only at h
  split at h
  · cases k with
    | zero => cases h
    | succ k =>
      unfold Ans.val at h
      rw [← laws_toByteS.eq] at h
      exact answer_sound mixed Tryd.func71 _ _ _ (k + 1) (fun j _ => tab_sound (tab_nil)) _ _ h
  · exact (Ans.no_val h).elim

/-! loop.example/g00790/laws.toEntry -/
def laws_toEntry.b {R : Type} (ret : Int × Int × Bool × List Int → Option R) (k : Nat) (a0_0 : Int) (a0_1 : Int) (a0_2z : Bool) (a0_2 : List Int) : Option R :=
  (laws_toByteS.f k a0_2z a0_2).bind fun t0 => ret (a0_0, a0_1, t0.1, t0.2)
def laws_toEntry.f : Nat → Int → Int → Bool → (List Int) → Option (Int × Int × Bool × List Int)
  | 0, _, _, _, _ => none
  | k + 1, a0_0, a0_1, a0_2z, a0_2 => laws_toEntry.b some k a0_0 a0_1 a0_2z a0_2
def laws_toEntry.enc (r : Int × Int × Bool × List Int) : Res := ⟨[.vals true [((.int .i64 r.1), true), ((.int .i64 r.2.1), true), ((.nums 5 .u8 r.2.2.1 r.2.2.2), true)]], []⟩
def laws_toEntry.ans (k : Nat) : List Arg → Ans
  | [.v (.agg [(.int .i64 a0_0), (.int .i64 a0_1), (.nums 5 .u8 a0_2z a0_2)])] => ⟨laws_toEntry.f k a0_0 a0_1 a0_2z a0_2, laws_toEntry.enc⟩
  | _ => Ans.no
def laws_toEntry.Cs (k : Nat) : CallSem := tab [(71, laws_toByteS.ans k)]
def laws_toEntry.cuts : List (Nat × Keep) := []
theorem laws_toEntry.s (k : Nat) (a0_0 : Int) (a0_1 : Int) (a0_2z : Bool) (a0_2 : List Int) : answer Tryd.prog laws_toEntry.Cs 100000 laws_toEntry.cuts [] Tryd.f113 (k + 1) [.v (.agg [(.int .i64 a0_0), (.int .i64 a0_1), (.nums 5 .u8 a0_2z a0_2)])] = laws_toEntry.b (fun r => some (laws_toEntry.enc r)) k a0_0 a0_1 a0_2z a0_2 := by kernel_rfl
theorem laws_toEntry.b_nat {R R' : Type} (e : R → R') (ret : Int × Int × Bool × List Int → Option R) (k : Nat) (a0_0 : Int) (a0_1 : Int) (a0_2z : Bool) (a0_2 : List Int) : laws_toEntry.b (fun r => (ret r).map e) k a0_0 a0_1 a0_2z a0_2 = (laws_toEntry.b ret k a0_0 a0_1 a0_2z a0_2).map e := by
  unfold laws_toEntry.b
  repeat' first | with_reducible refine nat_cond ?_ ?_ | with_reducible refine nat_bind fun _ => ?_ | rfl
theorem laws_toEntry.eq (k : Nat) (a0_0 : Int) (a0_1 : Int) (a0_2z : Bool) (a0_2 : List Int) : answer Tryd.prog laws_toEntry.Cs 100000 laws_toEntry.cuts [] Tryd.f113 (k + 1) [.v (.agg [(.int .i64 a0_0), (.int .i64 a0_1), (.nums 5 .u8 a0_2z a0_2)])] = (laws_toEntry.f (k + 1) a0_0 a0_1 a0_2z a0_2).map laws_toEntry.enc := by
  refine (laws_toEntry.s k a0_0 a0_1 a0_2z a0_2).trans (Eq.trans ?_ (laws_toEntry.b_nat laws_toEntry.enc some k a0_0 a0_1 a0_2z a0_2))
  simp only [Option.map_some]
theorem laws_toEntry.sound (k : Nat) : SoundF Tryd.prog 113 (fun a => (laws_toEntry.ans k a).val) := by
  refine sound_plain (fun args res h => ?_) (fun t n => rfl)
  unfold laws_toEntry.ans at h
  dsimp only at h
  split at h
  · cases k with
    | zero => cases h
    | succ k =>
      unfold Ans.val at h
      rw [← laws_toEntry.eq] at h
      exact answer_sound mixed Tryd.func113 _ _ _ (k + 1) (fun j _ => tab_sound (tab_cons (laws_toByteS.sound j) (tab_nil))) _ _ h
  · exact (Ans.no_val h).elim

/-! loop.example/g00790/laws.toEntryS -/
def laws_toEntryS.b {R : Type} (ret : Bool × List T → Option R) (j0 : Bool → (List T) → (List T) → Int → Option R) (k : Nat) (a0z : Bool) (a0 : List T) : Option R :=
  cond (decide (((a0).length : Int) = ((a0).length : Int))) (cond (decide ((0 : Int) ≤ ((a0).length : Int))) (cond (decide ((a0).length < 3518437208883)) (j0 a0z a0 (List.replicate (a0).length (.agg [(.int .i64 0), (.int .i64 0), (.nums 5 .u8 true ([] : List Int))])) 0) (none)) (none)) (none)
def laws_toEntryS.l0b {R : Type} (ret : Bool × List T → Option R) (j0 : Bool → (List T) → (List T) → Int → Option R) (k : Nat) (x0z : Bool) (x0 : List T) (x3 : List T) (x4 : Int) : Option R :=
  cond (decide (x4 < ((x0).length : Int))) (cond (decide ((0 : Int) ≤ x4)) (cond (decide (x4 < ((x0).length : Int))) ((laws_toEntry.f k (((((x0).getD (x4).toNat .bad).cells.getD 0 .bad)).toInt) (((((x0).getD (x4).toNat .bad).cells.getD 1 .bad)).toInt) (((((x0).getD (x4).toNat .bad).cells.getD 2 .bad)).isNil) (((((x0).getD (x4).toNat .bad).cells.getD 2 .bad)).toNums)).bind fun t0 => cond (decide ((0 : Int) ≤ x4)) (cond (decide (x4 < ((x3).length : Int))) (j0 x0z x0 ((x3).set (x4).toNat (.agg [(.int .i64 t0.1), (.int .i64 t0.2.1), (.nums 5 .u8 t0.2.2.1 t0.2.2.2)])) (RowKit.wrap64 (x4 + 1))) (none)) (none)) (none)) (none)) (ret (false, x3))
def laws_toEntryS.l0 : Nat → Bool → (List T) → (List T) → Int → Option (Bool × List T)
  | 0, _, _, _, _ => none
  | k + 1, x0z, x0, x3, x4 => laws_toEntryS.l0b some (laws_toEntryS.l0 k) k x0z x0 x3 x4
def laws_toEntryS.f : Nat → Bool → (List T) → Option (Bool × List T)
  | 0, _, _ => none
  | k + 1, a0z, a0 => laws_toEntryS.b some (laws_toEntryS.l0 k) k a0z a0
def laws_toEntryS.enc (r : Bool × List T) : Res := ⟨[.vals false [((.sl 130 r.1 r.2), true)]], []⟩
def laws_toEntryS.ans (k : Nat) : List Arg → Ans
  | [.v (.sl 165 a0z a0)] => ⟨laws_toEntryS.f k a0z a0, laws_toEntryS.enc⟩
  | _ => Ans.no
def laws_toEntryS.Cs (k : Nat) : CallSem := tab [(113, laws_toEntry.ans k)]
def laws_toEntryS.cuts : List (Nat × Keep) := [(58, ⟨[(0, some []), (3, none), (4, some [])], []⟩)]
noncomputable def laws_toEntryS.K0 : List Fr := framesAt [true, true, false, true, false] (bodyOf Tryd.f83 laws_toEntryS.cuts) []
def laws_toEntryS.N0 (x0z : Bool) (x0 : List T) (x3 : List T) (x4 : Int) : St := stOf 23 23 1 [(0, .val ⟨(.sl 165 x0z x0), [], false, none⟩), (3, .val ⟨(.sl 130 false x3), [.l 3 0], true, some (.l 3 0)⟩), (4, .val (V.s (.int .i64 x4)))] []
theorem laws_toEntryS.s (k : Nat) (a0z : Bool) (a0 : List T) : answer Tryd.prog laws_toEntryS.Cs 100000 laws_toEntryS.cuts [] Tryd.f83 (k + 1) [.v (.sl 165 a0z a0)] = laws_toEntryS.b (fun r => some (laws_toEntryS.enc r)) (fun x0z x0 x3 x4 => rounds Tryd.prog laws_toEntryS.Cs (finish Tryd.prog [] Tryd.f83 [.v (.sl 165 a0z a0)]) 100000 k laws_toEntryS.K0 (laws_toEntryS.N0 x0z x0 x3 x4)) k a0z a0 := by kernel_rfl
theorem laws_toEntryS.s0 (k : Nat) (G : List Fr → St → Option Res) (a0z : Bool) (a0 : List T) (yx0z : Bool) (yx0 : List T) (yx3 : List T) (yx4 : Int) : resume Tryd.prog (laws_toEntryS.Cs k) G (finish Tryd.prog [] Tryd.f83 [.v (.sl 165 a0z a0)]) 100000 laws_toEntryS.K0 (laws_toEntryS.N0 yx0z yx0 yx3 yx4) = laws_toEntryS.l0b (fun r => some (laws_toEntryS.enc r)) (fun x0z x0 x3 x4 => G laws_toEntryS.K0 (laws_toEntryS.N0 x0z x0 x3 x4)) k yx0z yx0 yx3 yx4 := by kernel_rfl
theorem laws_toEntryS.b_nat {R R' : Type} (e : R → R') (ret : Bool × List T → Option R) (j0 : Bool → (List T) → (List T) → Int → Option R) (k : Nat) (a0z : Bool) (a0 : List T) : laws_toEntryS.b (fun r => (ret r).map e) (fun x0z x0 x3 x4 => (j0 x0z x0 x3 x4).map e) k a0z a0 = (laws_toEntryS.b ret j0 k a0z a0).map e := by
  unfold laws_toEntryS.b
  repeat' first | with_reducible refine nat_cond ?_ ?_ | with_reducible refine nat_bind fun _ => ?_ | rfl
theorem laws_toEntryS.l0b_nat {R R' : Type} (e : R → R') (ret : Bool × List T → Option R) (j0 : Bool → (List T) → (List T) → Int → Option R) (k : Nat) (x0z : Bool) (x0 : List T) (x3 : List T) (x4 : Int) : laws_toEntryS.l0b (fun r => (ret r).map e) (fun x0z x0 x3 x4 => (j0 x0z x0 x3 x4).map e) k x0z x0 x3 x4 = (laws_toEntryS.l0b ret j0 k x0z x0 x3 x4).map e := by
  unfold laws_toEntryS.l0b
  repeat' first | with_reducible refine nat_cond ?_ ?_ | with_reducible refine nat_bind fun _ => ?_ | rfl
theorem laws_toEntryS.rounds_eq (a0z : Bool) (a0 : List T) : ∀ k, (∀ (x0z : Bool) (x0 : List T) (x3 : List T) (x4 : Int), rounds Tryd.prog laws_toEntryS.Cs (finish Tryd.prog [] Tryd.f83 [.v (.sl 165 a0z a0)]) 100000 k laws_toEntryS.K0 (laws_toEntryS.N0 x0z x0 x3 x4) = (laws_toEntryS.l0 k x0z x0 x3 x4).map laws_toEntryS.enc)
  | 0 => fun _ _ _ _ => rfl
  | k + 1 => by
    have ih := laws_toEntryS.rounds_eq a0z a0 k
    refine fun _ _ _ _ => ?_
    · refine (laws_toEntryS.s0 k _ a0z a0 _ _ _ _).trans (Eq.trans ?_ (laws_toEntryS.l0b_nat laws_toEntryS.enc some (laws_toEntryS.l0 k) k _ _ _ _))
      simp only [ih, Option.map_some]
theorem laws_toEntryS.eq (k : Nat) (a0z : Bool) (a0 : List T) : answer Tryd.prog laws_toEntryS.Cs 100000 laws_toEntryS.cuts [] Tryd.f83 (k + 1) [.v (.sl 165 a0z a0)] = (laws_toEntryS.f (k + 1) a0z a0).map laws_toEntryS.enc := by
  have ih := laws_toEntryS.rounds_eq a0z a0 k
  refine (laws_toEntryS.s k a0z a0).trans (Eq.trans ?_ (laws_toEntryS.b_nat laws_toEntryS.enc some (laws_toEntryS.l0 k) k a0z a0))
  simp only [ih, Option.map_some]
theorem laws_toEntryS.sound (k : Nat) : SoundF Tryd.prog 83 (fun a => (laws_toEntryS.ans k a).val) := by
  refine sound_plain (fun args res h => ?_) (fun t n => rfl)
  unfold laws_toEntryS.ans at h
  dsimp only at h
  split at h
  · cases k with
    | zero => cases h
    | succ k =>
      unfold Ans.val at h
      rw [← laws_toEntryS.eq] at h
      exact answer_sound mixed Tryd.func83 _ _ _ (k + 1) (fun j _ => tab_sound (tab_cons (laws_toEntry.sound j) (tab_nil))) _ _ h
  · exact (Ans.no_val h).elim

/-! loop.example/g00790/laws.toTc -/
def laws_toTc.b {R : Type} (ret : Int × Bool × List T → Option R) (k : Nat) (a0_0 : Int) (a0_1z : Bool) (a0_1 : List T) : Option R :=
  (laws_toEntryS.f k a0_1z a0_1).bind fun t0 => ret (a0_0, t0.1, t0.2)
def laws_toTc.f : Nat → Int → Bool → (List T) → Option (Int × Bool × List T)
  | 0, _, _, _ => none
  | k + 1, a0_0, a0_1z, a0_1 => laws_toTc.b some k a0_0 a0_1z a0_1
def laws_toTc.enc (r : Int × Bool × List T) : Res := ⟨[.vals true [((.int .i64 r.1), true), ((.sl 130 r.2.1 r.2.2), true)]], []⟩
def laws_toTc.ans (k : Nat) : List Arg → Ans
  | [.v (.agg [(.int .i64 a0_0), (.sl 165 a0_1z a0_1)])] => ⟨laws_toTc.f k a0_0 a0_1z a0_1, laws_toTc.enc⟩
  | _ => Ans.no
def laws_toTc.Cs (k : Nat) : CallSem := tab [(83, laws_toEntryS.ans k)]
def laws_toTc.cuts : List (Nat × Keep) := []
theorem laws_toTc.s (k : Nat) (a0_0 : Int) (a0_1z : Bool) (a0_1 : List T) : answer Tryd.prog laws_toTc.Cs 100000 laws_toTc.cuts [] Tryd.f33 (k + 1) [.v (.agg [(.int .i64 a0_0), (.sl 165 a0_1z a0_1)])] = laws_toTc.b (fun r => some (laws_toTc.enc r)) k a0_0 a0_1z a0_1 := by kernel_rfl
theorem laws_toTc.b_nat {R R' : Type} (e : R → R') (ret : Int × Bool × List T → Option R) (k : Nat) (a0_0 : Int) (a0_1z : Bool) (a0_1 : List T) : laws_toTc.b (fun r => (ret r).map e) k a0_0 a0_1z a0_1 = (laws_toTc.b ret k a0_0 a0_1z a0_1).map e := by
  unfold laws_toTc.b
  repeat' first | with_reducible refine nat_cond ?_ ?_ | with_reducible refine nat_bind fun _ => ?_ | rfl
theorem laws_toTc.eq (k : Nat) (a0_0 : Int) (a0_1z : Bool) (a0_1 : List T) : answer Tryd.prog laws_toTc.Cs 100000 laws_toTc.cuts [] Tryd.f33 (k + 1) [.v (.agg [(.int .i64 a0_0), (.sl 165 a0_1z a0_1)])] = (laws_toTc.f (k + 1) a0_0 a0_1z a0_1).map laws_toTc.enc := by
  refine (laws_toTc.s k a0_0 a0_1z a0_1).trans (Eq.trans ?_ (laws_toTc.b_nat laws_toTc.enc some k a0_0 a0_1z a0_1))
  simp only [Option.map_some]
theorem laws_toTc.sound (k : Nat) : SoundF Tryd.prog 33 (fun a => (laws_toTc.ans k a).val) := by
  refine sound_plain (fun args res h => ?_) (fun t n => rfl)
  unfold laws_toTc.ans at h
  dsimp only at h
  split at h
  · cases k with
    | zero => cases h
    | succ k =>
      unfold Ans.val at h
      rw [← laws_toTc.eq] at h
      exact answer_sound mixed Tryd.func33 _ _ _ (k + 1) (fun j _ => tab_sound (tab_cons (laws_toEntryS.sound j) (tab_nil))) _ _ h
  · exact (Ans.no_val h).elim

/-! loop.example/g00790/spec.l01In -/
def spec_l01In.b {R : Type} (ret : Bool → Option R) (k : Nat) (a0 : Int) (a1 : Int) (a2 : Int) : Option R :=
  cond (decide (a0 ≥ a1)) (ret (decide (a0 ≤ a2))) (ret false)
def spec_l01In.f : Nat → Int → Int → Int → Option Bool
  | 0, _, _, _ => none
  | k + 1, a0, a1, a2 => spec_l01In.b some k a0 a1 a2
def spec_l01In.enc (r : Bool) : Res := ⟨[.vals false [((.bool r), true)]], []⟩
def spec_l01In.ans (k : Nat) : List Arg → Ans
  | [.v (.int .i64 a0), .v (.int .i64 a1), .v (.int .i64 a2)] => ⟨spec_l01In.f k a0 a1 a2, spec_l01In.enc⟩
  | _ => Ans.no
def spec_l01In.Cs (k : Nat) : CallSem := tab []
def spec_l01In.cuts : List (Nat × Keep) := []
theorem spec_l01In.s (k : Nat) (a0 : Int) (a1 : Int) (a2 : Int) : answer Tryd.prog spec_l01In.Cs 100000 spec_l01In.cuts [] Tryd.f107 (k + 1) [.v (.int .i64 a0), .v (.int .i64 a1), .v (.int .i64 a2)] = spec_l01In.b (fun r => some (spec_l01In.enc r)) k a0 a1 a2 := by kernel_rfl
theorem spec_l01In.b_nat {R R' : Type} (e : R → R') (ret : Bool → Option R) (k : Nat) (a0 : Int) (a1 : Int) (a2 : Int) : spec_l01In.b (fun r => (ret r).map e) k a0 a1 a2 = (spec_l01In.b ret k a0 a1 a2).map e := by
  unfold spec_l01In.b
  repeat' first | with_reducible refine nat_cond ?_ ?_ | with_reducible refine nat_bind fun _ => ?_ | rfl
theorem spec_l01In.eq (k : Nat) (a0 : Int) (a1 : Int) (a2 : Int) : answer Tryd.prog spec_l01In.Cs 100000 spec_l01In.cuts [] Tryd.f107 (k + 1) [.v (.int .i64 a0), .v (.int .i64 a1), .v (.int .i64 a2)] = (spec_l01In.f (k + 1) a0 a1 a2).map spec_l01In.enc := by
  refine (spec_l01In.s k a0 a1 a2).trans (Eq.trans ?_ (spec_l01In.b_nat spec_l01In.enc some k a0 a1 a2))
  simp only [Option.map_some]
theorem spec_l01In.sound (k : Nat) : SoundF Tryd.prog 107 (fun a => (spec_l01In.ans k a).val) := by
  refine sound_plain (fun args res h => ?_) (fun t n => rfl)
  unfold spec_l01In.ans at h
  dsimp only at h
  split at h
  · cases k with
    | zero => cases h
    | succ k =>
      unfold Ans.val at h
      rw [← spec_l01In.eq] at h
      exact answer_sound mixed Tryd.func107 _ _ _ (k + 1) (fun j _ => tab_sound (tab_nil)) _ _ h
  · exact (Ans.no_val h).elim

/-! loop.example/g00790/spec.l01Num -/
def spec_l01Num.b {R : Type} (ret : Bool → Option R) (k : Nat) (a0 : Int) : Option R :=
  (spec_l01In.f k a0 0 1152921504606846975).bind fun t0 => ret t0
def spec_l01Num.f : Nat → Int → Option Bool
  | 0, _ => none
  | k + 1, a0 => spec_l01Num.b some k a0
def spec_l01Num.enc (r : Bool) : Res := ⟨[.vals false [((.bool r), true)]], []⟩
def spec_l01Num.ans (k : Nat) : List Arg → Ans
  | [.v (.int .i64 a0)] => ⟨spec_l01Num.f k a0, spec_l01Num.enc⟩
  | _ => Ans.no
def spec_l01Num.Cs (k : Nat) : CallSem := tab [(107, spec_l01In.ans k)]
def spec_l01Num.cuts : List (Nat × Keep) := []
theorem spec_l01Num.s (k : Nat) (a0 : Int) : answer Tryd.prog spec_l01Num.Cs 100000 spec_l01Num.cuts [] Tryd.f106 (k + 1) [.v (.int .i64 a0)] = spec_l01Num.b (fun r => some (spec_l01Num.enc r)) k a0 := by kernel_rfl
theorem spec_l01Num.b_nat {R R' : Type} (e : R → R') (ret : Bool → Option R) (k : Nat) (a0 : Int) : spec_l01Num.b (fun r => (ret r).map e) k a0 = (spec_l01Num.b ret k a0).map e := by
  unfold spec_l01Num.b
  repeat' first | with_reducible refine nat_cond ?_ ?_ | with_reducible refine nat_bind fun _ => ?_ | rfl
theorem spec_l01Num.eq (k : Nat) (a0 : Int) : answer Tryd.prog spec_l01Num.Cs 100000 spec_l01Num.cuts [] Tryd.f106 (k + 1) [.v (.int .i64 a0)] = (spec_l01Num.f (k + 1) a0).map spec_l01Num.enc := by
  refine (spec_l01Num.s k a0).trans (Eq.trans ?_ (spec_l01Num.b_nat spec_l01Num.enc some k a0))
  simp only [Option.map_some]
theorem spec_l01Num.sound (k : Nat) : SoundF Tryd.prog 106 (fun a => (spec_l01Num.ans k a).val) := by
  refine sound_plain (fun args res h => ?_) (fun t n => rfl)
  unfold spec_l01Num.ans at h
  dsimp only at h
  split at h
  · cases k with
    | zero => cases h
    | succ k =>
      unfold Ans.val at h
      rw [← spec_l01Num.eq] at h
      exact answer_sound mixed Tryd.func106 _ _ _ (k + 1) (fun j _ => tab_sound (tab_cons (spec_l01In.sound j) (tab_nil))) _ _ h
  · exact (Ans.no_val h).elim

/-! loop.example/g00790/spec.NumText -/
def spec_NumText.b {R : Type} (ret : ByteArray → Option R) (j0 : Int → ByteArray → Option R) (k : Nat) (a0 : Int) : Option R :=
  (spec_l01Num.f k a0).bind fun t0 => cond (!t0) (ret (⟨#[]⟩ : ByteArray)) (j0 a0 (⟨#[]⟩ : ByteArray))
def spec_NumText.l0b {R : Type} (ret : ByteArray → Option R) (j0 : Int → ByteArray → Option R) (k : Nat) (x0 : Int) (x3 : ByteArray) : Option R :=
  cond (decide (x0 > 9)) (cond (decide (((strOf ([(((RowKit.wrap64 ((48 : Int) + (Int.tmod x0 10)))) % 256)] : List Int))).size + (x3).size ≤ 140737488355328)) (j0 (RowKit.wrap64 (Int.tdiv x0 10)) ((strOf ([(((RowKit.wrap64 ((48 : Int) + (Int.tmod x0 10)))) % 256)] : List Int)) ++ x3)) (none)) (cond (decide (((strOf ([(((RowKit.wrap64 ((48 : Int) + x0))) % 256)] : List Int))).size + (x3).size ≤ 140737488355328)) (ret ((strOf ([(((RowKit.wrap64 ((48 : Int) + x0))) % 256)] : List Int)) ++ x3)) (none))
def spec_NumText.l0 : Nat → Int → ByteArray → Option ByteArray
  | 0, _, _ => none
  | k + 1, x0, x3 => spec_NumText.l0b some (spec_NumText.l0 k) k x0 x3
def spec_NumText.f : Nat → Int → Option ByteArray
  | 0, _ => none
  | k + 1, a0 => spec_NumText.b some (spec_NumText.l0 k) k a0
def spec_NumText.enc (r : ByteArray) : Res := ⟨[.vals false [((.str r), true)]], []⟩
def spec_NumText.ans (k : Nat) : List Arg → Ans
  | [.v (.int .i64 a0)] => ⟨spec_NumText.f k a0, spec_NumText.enc⟩
  | _ => Ans.no
def spec_NumText.Cs (k : Nat) : CallSem := tab [(106, spec_l01Num.ans k)]
def spec_NumText.cuts : List (Nat × Keep) := [(60, ⟨[(0, some []), (3, some [])], []⟩)]
noncomputable def spec_NumText.K0 : List Fr := framesAt [true, true, true, false, false] (bodyOf Tryd.f63 spec_NumText.cuts) []
def spec_NumText.N0 (x0 : Int) (x3 : ByteArray) : St := stOf 26 26 1 [(0, .val (V.s (.int .i64 x0))), (3, .val (V.s (.str x3)))] []
theorem spec_NumText.s (k : Nat) (a0 : Int) : answer Tryd.prog spec_NumText.Cs 100000 spec_NumText.cuts [] Tryd.f63 (k + 1) [.v (.int .i64 a0)] = spec_NumText.b (fun r => some (spec_NumText.enc r)) (fun x0 x3 => rounds Tryd.prog spec_NumText.Cs (finish Tryd.prog [] Tryd.f63 [.v (.int .i64 a0)]) 100000 k spec_NumText.K0 (spec_NumText.N0 x0 x3)) k a0 := by kernel_rfl
theorem spec_NumText.s0 (k : Nat) (G : List Fr → St → Option Res) (a0 : Int) (yx0 : Int) (yx3 : ByteArray) : resume Tryd.prog (spec_NumText.Cs k) G (finish Tryd.prog [] Tryd.f63 [.v (.int .i64 a0)]) 100000 spec_NumText.K0 (spec_NumText.N0 yx0 yx3) = spec_NumText.l0b (fun r => some (spec_NumText.enc r)) (fun x0 x3 => G spec_NumText.K0 (spec_NumText.N0 x0 x3)) k yx0 yx3 := by kernel_rfl
theorem spec_NumText.b_nat {R R' : Type} (e : R → R') (ret : ByteArray → Option R) (j0 : Int → ByteArray → Option R) (k : Nat) (a0 : Int) : spec_NumText.b (fun r => (ret r).map e) (fun x0 x3 => (j0 x0 x3).map e) k a0 = (spec_NumText.b ret j0 k a0).map e := by
  unfold spec_NumText.b
  repeat' first | with_reducible refine nat_cond ?_ ?_ | with_reducible refine nat_bind fun _ => ?_ | rfl
theorem spec_NumText.l0b_nat {R R' : Type} (e : R → R') (ret : ByteArray → Option R) (j0 : Int → ByteArray → Option R) (k : Nat) (x0 : Int) (x3 : ByteArray) : spec_NumText.l0b (fun r => (ret r).map e) (fun x0 x3 => (j0 x0 x3).map e) k x0 x3 = (spec_NumText.l0b ret j0 k x0 x3).map e := by
  unfold spec_NumText.l0b
  repeat' first | with_reducible refine nat_cond ?_ ?_ | with_reducible refine nat_bind fun _ => ?_ | rfl
theorem spec_NumText.rounds_eq (a0 : Int) : ∀ k, (∀ (x0 : Int) (x3 : ByteArray), rounds Tryd.prog spec_NumText.Cs (finish Tryd.prog [] Tryd.f63 [.v (.int .i64 a0)]) 100000 k spec_NumText.K0 (spec_NumText.N0 x0 x3) = (spec_NumText.l0 k x0 x3).map spec_NumText.enc)
  | 0 => fun _ _ => rfl
  | k + 1 => by
    have ih := spec_NumText.rounds_eq a0 k
    refine fun _ _ => ?_
    · refine (spec_NumText.s0 k _ a0 _ _).trans (Eq.trans ?_ (spec_NumText.l0b_nat spec_NumText.enc some (spec_NumText.l0 k) k _ _))
      simp only [ih, Option.map_some]
theorem spec_NumText.eq (k : Nat) (a0 : Int) : answer Tryd.prog spec_NumText.Cs 100000 spec_NumText.cuts [] Tryd.f63 (k + 1) [.v (.int .i64 a0)] = (spec_NumText.f (k + 1) a0).map spec_NumText.enc := by
  have ih := spec_NumText.rounds_eq a0 k
  refine (spec_NumText.s k a0).trans (Eq.trans ?_ (spec_NumText.b_nat spec_NumText.enc some (spec_NumText.l0 k) k a0))
  simp only [ih, Option.map_some]
theorem spec_NumText.sound (k : Nat) : SoundF Tryd.prog 63 (fun a => (spec_NumText.ans k a).val) := by
  refine sound_plain (fun args res h => ?_) (fun t n => rfl)
  unfold spec_NumText.ans at h
  dsimp only at h
  split at h
  · cases k with
    | zero => cases h
    | succ k =>
      unfold Ans.val at h
      rw [← spec_NumText.eq] at h
      exact answer_sound mixed Tryd.func63 _ _ _ (k + 1) (fun j _ => tab_sound (tab_cons (spec_l01Num.sound j) (tab_nil))) _ _ h
  · exact (Ans.no_val h).elim

/-! loop.example/g00790/spec.l29Join -/
def spec_l29Join.b {R : Type} (ret : ByteArray → Option R) (j0 : ByteArray → ByteArray → Bool → (List T) → Int → Int → Option R) (k : Nat) (a0z : Bool) (a0 : List T) (a1 : ByteArray) : Option R :=
  j0 a1 (⟨#[]⟩ : ByteArray) a0z a0 ((a0).length : Int) 0
def spec_l29Join.l0b {R : Type} (ret : ByteArray → Option R) (j0 : ByteArray → ByteArray → Bool → (List T) → Int → Int → Option R) (k : Nat) (x1 : ByteArray) (x5 : ByteArray) (x8z : Bool) (x8 : List T) (x9 : Int) (x10 : Int) : Option R :=
  cond (decide (x10 < x9)) (cond (decide ((0 : Int) ≤ x10)) (cond (decide (x10 < ((x8).length : Int))) (cond (decide (x10 > 0)) (cond (decide ((x5).size + (x1).size ≤ 140737488355328)) (cond (decide (((x5 ++ x1)).size + (((((x8).getD (x10).toNat .bad).cells.getD 0 .bad)).toStr).size ≤ 140737488355328)) (j0 x1 ((x5 ++ x1) ++ ((((x8).getD (x10).toNat .bad).cells.getD 0 .bad)).toStr) x8z x8 x9 (RowKit.wrap64 (x10 + 1))) (none)) (none)) (cond (decide ((x5).size + (((((x8).getD (x10).toNat .bad).cells.getD 0 .bad)).toStr).size ≤ 140737488355328)) (j0 x1 (x5 ++ ((((x8).getD (x10).toNat .bad).cells.getD 0 .bad)).toStr) x8z x8 x9 (RowKit.wrap64 (x10 + 1))) (none))) (none)) (none)) (ret x5)
def spec_l29Join.l0 : Nat → ByteArray → ByteArray → Bool → (List T) → Int → Int → Option ByteArray
  | 0, _, _, _, _, _, _ => none
  | k + 1, x1, x5, x8z, x8, x9, x10 => spec_l29Join.l0b some (spec_l29Join.l0 k) k x1 x5 x8z x8 x9 x10
def spec_l29Join.f : Nat → Bool → (List T) → ByteArray → Option ByteArray
  | 0, _, _, _ => none
  | k + 1, a0z, a0, a1 => spec_l29Join.b some (spec_l29Join.l0 k) k a0z a0 a1
def spec_l29Join.enc (r : ByteArray) : Res := ⟨[.vals false [((.str r), true)]], []⟩
def spec_l29Join.ans (k : Nat) : List Arg → Ans
  | [.v (.sl 9 a0z a0), .v (.str a1)] => ⟨spec_l29Join.f k a0z a0 a1, spec_l29Join.enc⟩
  | _ => Ans.no
def spec_l29Join.Cs (k : Nat) : CallSem := tab []
def spec_l29Join.cuts : List (Nat × Keep) := [(58, ⟨[(1, some []), (5, some []), (8, some []), (9, some []), (10, some [])], []⟩)]
noncomputable def spec_l29Join.K0 : List Fr := framesAt [true, true, false, true, false] (bodyOf Tryd.f82 spec_l29Join.cuts) []
def spec_l29Join.N0 (x1 : ByteArray) (x5 : ByteArray) (x8z : Bool) (x8 : List T) (x9 : Int) (x10 : Int) : St := stOf 25 25 2 [(1, .val (V.s (.str x1))), (5, .val (V.s (.str x5))), (8, .val ⟨(.sl 9 x8z x8), [], false, none⟩), (9, .val (V.s (.int .i64 x9))), (10, .val (V.s (.int .i64 x10)))] []
theorem spec_l29Join.s (k : Nat) (a0z : Bool) (a0 : List T) (a1 : ByteArray) : answer Tryd.prog spec_l29Join.Cs 100000 spec_l29Join.cuts [] Tryd.f82 (k + 1) [.v (.sl 9 a0z a0), .v (.str a1)] = spec_l29Join.b (fun r => some (spec_l29Join.enc r)) (fun x1 x5 x8z x8 x9 x10 => rounds Tryd.prog spec_l29Join.Cs (finish Tryd.prog [] Tryd.f82 [.v (.sl 9 a0z a0), .v (.str a1)]) 100000 k spec_l29Join.K0 (spec_l29Join.N0 x1 x5 x8z x8 x9 x10)) k a0z a0 a1 := by kernel_rfl
theorem spec_l29Join.s0 (k : Nat) (G : List Fr → St → Option Res) (a0z : Bool) (a0 : List T) (a1 : ByteArray) (yx1 : ByteArray) (yx5 : ByteArray) (yx8z : Bool) (yx8 : List T) (yx9 : Int) (yx10 : Int) : resume Tryd.prog (spec_l29Join.Cs k) G (finish Tryd.prog [] Tryd.f82 [.v (.sl 9 a0z a0), .v (.str a1)]) 100000 spec_l29Join.K0 (spec_l29Join.N0 yx1 yx5 yx8z yx8 yx9 yx10) = spec_l29Join.l0b (fun r => some (spec_l29Join.enc r)) (fun x1 x5 x8z x8 x9 x10 => G spec_l29Join.K0 (spec_l29Join.N0 x1 x5 x8z x8 x9 x10)) k yx1 yx5 yx8z yx8 yx9 yx10 := by kernel_rfl
theorem spec_l29Join.b_nat {R R' : Type} (e : R → R') (ret : ByteArray → Option R) (j0 : ByteArray → ByteArray → Bool → (List T) → Int → Int → Option R) (k : Nat) (a0z : Bool) (a0 : List T) (a1 : ByteArray) : spec_l29Join.b (fun r => (ret r).map e) (fun x1 x5 x8z x8 x9 x10 => (j0 x1 x5 x8z x8 x9 x10).map e) k a0z a0 a1 = (spec_l29Join.b ret j0 k a0z a0 a1).map e := by
  unfold spec_l29Join.b
  repeat' first | with_reducible refine nat_cond ?_ ?_ | with_reducible refine nat_bind fun _ => ?_ | rfl
theorem spec_l29Join.l0b_nat {R R' : Type} (e : R → R') (ret : ByteArray → Option R) (j0 : ByteArray → ByteArray → Bool → (List T) → Int → Int → Option R) (k : Nat) (x1 : ByteArray) (x5 : ByteArray) (x8z : Bool) (x8 : List T) (x9 : Int) (x10 : Int) : spec_l29Join.l0b (fun r => (ret r).map e) (fun x1 x5 x8z x8 x9 x10 => (j0 x1 x5 x8z x8 x9 x10).map e) k x1 x5 x8z x8 x9 x10 = (spec_l29Join.l0b ret j0 k x1 x5 x8z x8 x9 x10).map e := by
  unfold spec_l29Join.l0b
  repeat' first | with_reducible refine nat_cond ?_ ?_ | with_reducible refine nat_bind fun _ => ?_ | rfl
theorem spec_l29Join.rounds_eq (a0z : Bool) (a0 : List T) (a1 : ByteArray) : ∀ k, (∀ (x1 : ByteArray) (x5 : ByteArray) (x8z : Bool) (x8 : List T) (x9 : Int) (x10 : Int), rounds Tryd.prog spec_l29Join.Cs (finish Tryd.prog [] Tryd.f82 [.v (.sl 9 a0z a0), .v (.str a1)]) 100000 k spec_l29Join.K0 (spec_l29Join.N0 x1 x5 x8z x8 x9 x10) = (spec_l29Join.l0 k x1 x5 x8z x8 x9 x10).map spec_l29Join.enc)
  | 0 => fun _ _ _ _ _ _ => rfl
  | k + 1 => by
    have ih := spec_l29Join.rounds_eq a0z a0 a1 k
    refine fun _ _ _ _ _ _ => ?_
    · refine (spec_l29Join.s0 k _ a0z a0 a1 _ _ _ _ _ _).trans (Eq.trans ?_ (spec_l29Join.l0b_nat spec_l29Join.enc some (spec_l29Join.l0 k) k _ _ _ _ _ _))
      simp only [ih, Option.map_some]
theorem spec_l29Join.eq (k : Nat) (a0z : Bool) (a0 : List T) (a1 : ByteArray) : answer Tryd.prog spec_l29Join.Cs 100000 spec_l29Join.cuts [] Tryd.f82 (k + 1) [.v (.sl 9 a0z a0), .v (.str a1)] = (spec_l29Join.f (k + 1) a0z a0 a1).map spec_l29Join.enc := by
  have ih := spec_l29Join.rounds_eq a0z a0 a1 k
  refine (spec_l29Join.s k a0z a0 a1).trans (Eq.trans ?_ (spec_l29Join.b_nat spec_l29Join.enc some (spec_l29Join.l0 k) k a0z a0 a1))
  simp only [ih, Option.map_some]
theorem spec_l29Join.sound (k : Nat) : SoundF Tryd.prog 82 (fun a => (spec_l29Join.ans k a).val) := by
  refine sound_plain (fun args res h => ?_) (fun t n => rfl)
  unfold spec_l29Join.ans at h
  dsimp only at h
  split at h
  · cases k with
    | zero => cases h
    | succ k =>
      unfold Ans.val at h
      rw [← spec_l29Join.eq] at h
      exact answer_sound mixed Tryd.func82 _ _ _ (k + 1) (fun j _ => tab_sound (tab_nil)) _ _ h
  · exact (Ans.no_val h).elim

/-! loop.example/g00790/spec.TcText -/
def spec_TcText.b {R : Type} (ret : ByteArray → Option R) (j0 : (List T) → Bool → (List T) → Int → Int → Int → Bool → (List T) → Option R) (k : Nat) (a0_0 : Int) (a0_1z : Bool) (a0_1 : List T) : Option R :=
  j0 ([] : List T) a0_1z a0_1 ((a0_1).length : Int) 0 a0_0 a0_1z a0_1
def spec_TcText.l0b {R : Type} (ret : ByteArray → Option R) (j0 : (List T) → Bool → (List T) → Int → Int → Int → Bool → (List T) → Option R) (k : Nat) (x3 : List T) (x8z : Bool) (x8 : List T) (x9 : Int) (x10 : Int) (c1_0 : Int) (c1_1z : Bool) (c1_1 : List T) : Option R :=
  cond (decide (x10 < x9)) (cond (decide ((0 : Int) ≤ x10)) (cond (decide (x10 < ((x8).length : Int))) ((spec_NumText.f k (((((x8).getD (x10).toNat .bad).cells.getD 0 .bad)).toInt)).bind fun t0 => cond (decide ((t0).size + ((⟨#[58]⟩ : ByteArray)).size ≤ 140737488355328)) ((spec_NumText.f k (((((x8).getD (x10).toNat .bad).cells.getD 1 .bad)).toInt)).bind fun t1 => cond (decide (((t0 ++ (⟨#[58]⟩ : ByteArray))).size + (t1).size ≤ 140737488355328)) (cond (decide ((x3).length + 1 < 8796093022208)) (j0 (x3 ++ ([(.str ((t0 ++ (⟨#[58]⟩ : ByteArray)) ++ t1))] : List T)) x8z x8 x9 (RowKit.wrap64 (x10 + 1)) c1_0 c1_1z c1_1) (none)) (none)) (none)) (none)) (none)) (cond (decide (((x3).length : Int) = 0)) ((spec_NumText.f k c1_0).bind fun t0 => cond (decide (((⟨#[116, 99, 32]⟩ : ByteArray)).size + (t0).size ≤ 140737488355328)) (cond (decide ((((⟨#[116, 99, 32]⟩ : ByteArray) ++ t0)).size + ((⟨#[32, 45]⟩ : ByteArray)).size ≤ 140737488355328)) (ret (((⟨#[116, 99, 32]⟩ : ByteArray) ++ t0) ++ (⟨#[32, 45]⟩ : ByteArray))) (none)) (none)) ((spec_NumText.f k c1_0).bind fun t0 => cond (decide (((⟨#[116, 99, 32]⟩ : ByteArray)).size + (t0).size ≤ 140737488355328)) (cond (decide ((((⟨#[116, 99, 32]⟩ : ByteArray) ++ t0)).size + ((⟨#[32]⟩ : ByteArray)).size ≤ 140737488355328)) ((spec_l29Join.f k false x3 (⟨#[44]⟩ : ByteArray)).bind fun t1 => cond (decide (((((⟨#[116, 99, 32]⟩ : ByteArray) ++ t0) ++ (⟨#[32]⟩ : ByteArray))).size + (t1).size ≤ 140737488355328)) (ret ((((⟨#[116, 99, 32]⟩ : ByteArray) ++ t0) ++ (⟨#[32]⟩ : ByteArray)) ++ t1)) (none)) (none)) (none)))
def spec_TcText.l0 : Nat → (List T) → Bool → (List T) → Int → Int → Int → Bool → (List T) → Option ByteArray
  | 0, _, _, _, _, _, _, _, _ => none
  | k + 1, x3, x8z, x8, x9, x10, c1_0, c1_1z, c1_1 => spec_TcText.l0b some (spec_TcText.l0 k) k x3 x8z x8 x9 x10 c1_0 c1_1z c1_1
def spec_TcText.f : Nat → Int → Bool → (List T) → Option ByteArray
  | 0, _, _, _ => none
  | k + 1, a0_0, a0_1z, a0_1 => spec_TcText.b some (spec_TcText.l0 k) k a0_0 a0_1z a0_1
def spec_TcText.enc (r : ByteArray) : Res := ⟨[.vals false [((.str r), true)]], []⟩
def spec_TcText.ans (k : Nat) : List Arg → Ans
  | [.v (.agg [(.int .i64 a0_0), (.sl 130 a0_1z a0_1)])] => ⟨spec_TcText.f k a0_0 a0_1z a0_1, spec_TcText.enc⟩
  | _ => Ans.no
def spec_TcText.Cs (k : Nat) : CallSem := tab [(63, spec_NumText.ans k), (82, spec_l29Join.ans k)]
def spec_TcText.cuts : List (Nat × Keep) := [(58, ⟨[(1, some []), (3, none), (8, some []), (9, some []), (10, some [])], [(1, [some [], some []])]⟩)]
noncomputable def spec_TcText.K0 : List Fr := framesAt [true, true, false, true, false] (bodyOf Tryd.f32 spec_TcText.cuts) []
def spec_TcText.N0 (x3 : List T) (x8z : Bool) (x8 : List T) (x9 : Int) (x10 : Int) (c1_0 : Int) (c1_1z : Bool) (c1_1 : List T) : St := stOf 42 42 1 [(1, .bp 1 0), (3, .val ⟨(.sl 9 false x3), [.l 3 0], true, some (.l 3 0)⟩), (8, .val ⟨(.sl 130 x8z x8), [], false, none⟩), (9, .val (V.s (.int .i64 x9))), (10, .val (V.s (.int .i64 x10)))] [(1, .cells [V.s (.int .i64 c1_0), ⟨(.sl 130 c1_1z c1_1), [], false, none⟩])]
theorem spec_TcText.s (k : Nat) (a0_0 : Int) (a0_1z : Bool) (a0_1 : List T) : answer Tryd.prog spec_TcText.Cs 100000 spec_TcText.cuts [] Tryd.f32 (k + 1) [.v (.agg [(.int .i64 a0_0), (.sl 130 a0_1z a0_1)])] = spec_TcText.b (fun r => some (spec_TcText.enc r)) (fun x3 x8z x8 x9 x10 c1_0 c1_1z c1_1 => rounds Tryd.prog spec_TcText.Cs (finish Tryd.prog [] Tryd.f32 [.v (.agg [(.int .i64 a0_0), (.sl 130 a0_1z a0_1)])]) 100000 k spec_TcText.K0 (spec_TcText.N0 x3 x8z x8 x9 x10 c1_0 c1_1z c1_1)) k a0_0 a0_1z a0_1 := by kernel_rfl
theorem spec_TcText.s0 (k : Nat) (G : List Fr → St → Option Res) (a0_0 : Int) (a0_1z : Bool) (a0_1 : List T) (yx3 : List T) (yx8z : Bool) (yx8 : List T) (yx9 : Int) (yx10 : Int) (yc1_0 : Int) (yc1_1z : Bool) (yc1_1 : List T) : resume Tryd.prog (spec_TcText.Cs k) G (finish Tryd.prog [] Tryd.f32 [.v (.agg [(.int .i64 a0_0), (.sl 130 a0_1z a0_1)])]) 100000 spec_TcText.K0 (spec_TcText.N0 yx3 yx8z yx8 yx9 yx10 yc1_0 yc1_1z yc1_1) = spec_TcText.l0b (fun r => some (spec_TcText.enc r)) (fun x3 x8z x8 x9 x10 c1_0 c1_1z c1_1 => G spec_TcText.K0 (spec_TcText.N0 x3 x8z x8 x9 x10 c1_0 c1_1z c1_1)) k yx3 yx8z yx8 yx9 yx10 yc1_0 yc1_1z yc1_1 := by kernel_rfl
theorem spec_TcText.b_nat {R R' : Type} (e : R → R') (ret : ByteArray → Option R) (j0 : (List T) → Bool → (List T) → Int → Int → Int → Bool → (List T) → Option R) (k : Nat) (a0_0 : Int) (a0_1z : Bool) (a0_1 : List T) : spec_TcText.b (fun r => (ret r).map e) (fun x3 x8z x8 x9 x10 c1_0 c1_1z c1_1 => (j0 x3 x8z x8 x9 x10 c1_0 c1_1z c1_1).map e) k a0_0 a0_1z a0_1 = (spec_TcText.b ret j0 k a0_0 a0_1z a0_1).map e := by
  unfold spec_TcText.b
  repeat' first | with_reducible refine nat_cond ?_ ?_ | with_reducible refine nat_bind fun _ => ?_ | rfl
theorem spec_TcText.l0b_nat {R R' : Type} (e : R → R') (ret : ByteArray → Option R) (j0 : (List T) → Bool → (List T) → Int → Int → Int → Bool → (List T) → Option R) (k : Nat) (x3 : List T) (x8z : Bool) (x8 : List T) (x9 : Int) (x10 : Int) (c1_0 : Int) (c1_1z : Bool) (c1_1 : List T) : spec_TcText.l0b (fun r => (ret r).map e) (fun x3 x8z x8 x9 x10 c1_0 c1_1z c1_1 => (j0 x3 x8z x8 x9 x10 c1_0 c1_1z c1_1).map e) k x3 x8z x8 x9 x10 c1_0 c1_1z c1_1 = (spec_TcText.l0b ret j0 k x3 x8z x8 x9 x10 c1_0 c1_1z c1_1).map e := by
  unfold spec_TcText.l0b
  repeat' first | with_reducible refine nat_cond ?_ ?_ | with_reducible refine nat_bind fun _ => ?_ | rfl
theorem spec_TcText.rounds_eq (a0_0 : Int) (a0_1z : Bool) (a0_1 : List T) : ∀ k, (∀ (x3 : List T) (x8z : Bool) (x8 : List T) (x9 : Int) (x10 : Int) (c1_0 : Int) (c1_1z : Bool) (c1_1 : List T), rounds Tryd.prog spec_TcText.Cs (finish Tryd.prog [] Tryd.f32 [.v (.agg [(.int .i64 a0_0), (.sl 130 a0_1z a0_1)])]) 100000 k spec_TcText.K0 (spec_TcText.N0 x3 x8z x8 x9 x10 c1_0 c1_1z c1_1) = (spec_TcText.l0 k x3 x8z x8 x9 x10 c1_0 c1_1z c1_1).map spec_TcText.enc)
  | 0 => fun _ _ _ _ _ _ _ _ => rfl
  | k + 1 => by
    have ih := spec_TcText.rounds_eq a0_0 a0_1z a0_1 k
    refine fun _ _ _ _ _ _ _ _ => ?_
    · refine (spec_TcText.s0 k _ a0_0 a0_1z a0_1 _ _ _ _ _ _ _ _).trans (Eq.trans ?_ (spec_TcText.l0b_nat spec_TcText.enc some (spec_TcText.l0 k) k _ _ _ _ _ _ _ _))
      simp only [ih, Option.map_some]
theorem spec_TcText.eq (k : Nat) (a0_0 : Int) (a0_1z : Bool) (a0_1 : List T) : answer Tryd.prog spec_TcText.Cs 100000 spec_TcText.cuts [] Tryd.f32 (k + 1) [.v (.agg [(.int .i64 a0_0), (.sl 130 a0_1z a0_1)])] = (spec_TcText.f (k + 1) a0_0 a0_1z a0_1).map spec_TcText.enc := by
  have ih := spec_TcText.rounds_eq a0_0 a0_1z a0_1 k
  refine (spec_TcText.s k a0_0 a0_1z a0_1).trans (Eq.trans ?_ (spec_TcText.b_nat spec_TcText.enc some (spec_TcText.l0 k) k a0_0 a0_1z a0_1))
  simp only [ih, Option.map_some]
theorem spec_TcText.sound (k : Nat) : SoundF Tryd.prog 32 (fun a => (spec_TcText.ans k a).val) := by
  refine sound_plain (fun args res h => ?_) (fun t n => rfl)
  unfold spec_TcText.ans at h
  dsimp only at h
  split at h
  · cases k with
    | zero => cases h
    | succ k =>
      unfold Ans.val at h
      rw [← spec_TcText.eq] at h
      exact answer_sound mixed Tryd.func32 _ _ _ (k + 1) (fun j _ => tab_sound (tab_cons (spec_NumText.sound j) (tab_cons (spec_l29Join.sound j) (tab_nil)))) _ _ h
  · exact (Ans.no_val h).elim

/-! loop.example/g00790/impl.within -/
def impl_within.b {R : Type} (ret : Bool → Option R) (k : Nat) (a0 : Int) (a1 : Int) (a2 : Int) : Option R :=
  cond (decide (a1 ≤ a0)) (ret (decide (a0 ≤ a2))) (ret false)
def impl_within.f : Nat → Int → Int → Int → Option Bool
  | 0, _, _, _ => none
  | k + 1, a0, a1, a2 => impl_within.b some k a0 a1 a2
def impl_within.enc (r : Bool) : Res := ⟨[.vals false [((.bool r), true)]], []⟩
def impl_within.ans (k : Nat) : List Arg → Ans
  | [.v (.int .i64 a0), .v (.int .i64 a1), .v (.int .i64 a2)] => ⟨impl_within.f k a0 a1 a2, impl_within.enc⟩
  | _ => Ans.no
def impl_within.Cs (k : Nat) : CallSem := tab []
def impl_within.cuts : List (Nat × Keep) := []
theorem impl_within.s (k : Nat) (a0 : Int) (a1 : Int) (a2 : Int) : answer Tryd.prog impl_within.Cs 100000 impl_within.cuts [] Tryd.f105 (k + 1) [.v (.int .i64 a0), .v (.int .i64 a1), .v (.int .i64 a2)] = impl_within.b (fun r => some (impl_within.enc r)) k a0 a1 a2 := by kernel_rfl
theorem impl_within.b_nat {R R' : Type} (e : R → R') (ret : Bool → Option R) (k : Nat) (a0 : Int) (a1 : Int) (a2 : Int) : impl_within.b (fun r => (ret r).map e) k a0 a1 a2 = (impl_within.b ret k a0 a1 a2).map e := by
  unfold impl_within.b
  repeat' first | with_reducible refine nat_cond ?_ ?_ | with_reducible refine nat_bind fun _ => ?_ | rfl
theorem impl_within.eq (k : Nat) (a0 : Int) (a1 : Int) (a2 : Int) : answer Tryd.prog impl_within.Cs 100000 impl_within.cuts [] Tryd.f105 (k + 1) [.v (.int .i64 a0), .v (.int .i64 a1), .v (.int .i64 a2)] = (impl_within.f (k + 1) a0 a1 a2).map impl_within.enc := by
  refine (impl_within.s k a0 a1 a2).trans (Eq.trans ?_ (impl_within.b_nat impl_within.enc some k a0 a1 a2))
  simp only [Option.map_some]
theorem impl_within.sound (k : Nat) : SoundF Tryd.prog 105 (fun a => (impl_within.ans k a).val) := by
  refine sound_plain (fun args res h => ?_) (fun t n => rfl)
  unfold impl_within.ans at h
  dsimp only at h
  split at h
  · cases k with
    | zero => cases h
    | succ k =>
      unfold Ans.val at h
      rw [← impl_within.eq] at h
      exact answer_sound mixed Tryd.func105 _ _ _ (k + 1) (fun j _ => tab_sound (tab_nil)) _ _ h
  · exact (Ans.no_val h).elim

/-! loop.example/g00790/impl.isNum -/
def impl_isNum.b {R : Type} (ret : Bool → Option R) (k : Nat) (a0 : Int) : Option R :=
  (impl_within.f k a0 0 1152921504606846975).bind fun t0 => ret t0
def impl_isNum.f : Nat → Int → Option Bool
  | 0, _ => none
  | k + 1, a0 => impl_isNum.b some k a0
def impl_isNum.enc (r : Bool) : Res := ⟨[.vals false [((.bool r), true)]], []⟩
def impl_isNum.ans (k : Nat) : List Arg → Ans
  | [.v (.int .i64 a0)] => ⟨impl_isNum.f k a0, impl_isNum.enc⟩
  | _ => Ans.no
def impl_isNum.Cs (k : Nat) : CallSem := tab [(105, impl_within.ans k)]
def impl_isNum.cuts : List (Nat × Keep) := []
theorem impl_isNum.s (k : Nat) (a0 : Int) : answer Tryd.prog impl_isNum.Cs 100000 impl_isNum.cuts [] Tryd.f108 (k + 1) [.v (.int .i64 a0)] = impl_isNum.b (fun r => some (impl_isNum.enc r)) k a0 := by kernel_rfl
theorem impl_isNum.b_nat {R R' : Type} (e : R → R') (ret : Bool → Option R) (k : Nat) (a0 : Int) : impl_isNum.b (fun r => (ret r).map e) k a0 = (impl_isNum.b ret k a0).map e := by
  unfold impl_isNum.b
  repeat' first | with_reducible refine nat_cond ?_ ?_ | with_reducible refine nat_bind fun _ => ?_ | rfl
theorem impl_isNum.eq (k : Nat) (a0 : Int) : answer Tryd.prog impl_isNum.Cs 100000 impl_isNum.cuts [] Tryd.f108 (k + 1) [.v (.int .i64 a0)] = (impl_isNum.f (k + 1) a0).map impl_isNum.enc := by
  refine (impl_isNum.s k a0).trans (Eq.trans ?_ (impl_isNum.b_nat impl_isNum.enc some k a0))
  simp only [Option.map_some]
theorem impl_isNum.sound (k : Nat) : SoundF Tryd.prog 108 (fun a => (impl_isNum.ans k a).val) := by
  refine sound_plain (fun args res h => ?_) (fun t n => rfl)
  unfold impl_isNum.ans at h
  dsimp only at h
  split at h
  · cases k with
    | zero => cases h
    | succ k =>
      unfold Ans.val at h
      rw [← impl_isNum.eq] at h
      exact answer_sound mixed Tryd.func108 _ _ _ (k + 1) (fun j _ => tab_sound (tab_cons (impl_within.sound j) (tab_nil))) _ _ h
  · exact (Ans.no_val h).elim

/-! strconv_Itoa -/
def strconv_Itoa.f (k : Nat) (a0 : Int) : Option ByteArray := cond (inI a0) (some (itoaB a0)) none
def strconv_Itoa.enc (r : ByteArray) : Res := ⟨[.vals false [((.str r), true)]], []⟩
def strconv_Itoa.ans (k : Nat) : List Arg → Ans
  | [.v (.int .i64 a0)] => ⟨strconv_Itoa.f k a0, strconv_Itoa.enc⟩
  | _ => Ans.no
theorem strconv_Itoa.sound (k : Nat) : SoundF Tryd.prog 109 (fun a => (strconv_Itoa.ans k a).val) := by
  refine sound_ext (fun _ _ => rfl) fun args res h => ?_
  unfold strconv_Itoa.ans at h
  split at h
  · exact ext_itoa lay_Itoa h
  · exact (Ans.no_val h).elim

/-! loop.example/g00790/impl.NumText -/
def impl_NumText.b {R : Type} (ret : ByteArray → Option R) (k : Nat) (a0 : Int) : Option R :=
  (impl_isNum.f k a0).bind fun t0 => cond (!t0) (ret (⟨#[]⟩ : ByteArray)) ((strconv_Itoa.f k a0).bind fun t1 => ret t1)
def impl_NumText.f : Nat → Int → Option ByteArray
  | 0, _ => none
  | k + 1, a0 => impl_NumText.b some k a0
def impl_NumText.enc (r : ByteArray) : Res := ⟨[.vals false [((.str r), true)]], []⟩
def impl_NumText.ans (k : Nat) : List Arg → Ans
  | [.v (.int .i64 a0)] => ⟨impl_NumText.f k a0, impl_NumText.enc⟩
  | _ => Ans.no
def impl_NumText.Cs (k : Nat) : CallSem := tab [(108, impl_isNum.ans k), (109, strconv_Itoa.ans k)]
def impl_NumText.cuts : List (Nat × Keep) := []
theorem impl_NumText.s (k : Nat) (a0 : Int) : answer Tryd.prog impl_NumText.Cs 100000 impl_NumText.cuts [] Tryd.f66 (k + 1) [.v (.int .i64 a0)] = impl_NumText.b (fun r => some (impl_NumText.enc r)) k a0 := by kernel_rfl
theorem impl_NumText.b_nat {R R' : Type} (e : R → R') (ret : ByteArray → Option R) (k : Nat) (a0 : Int) : impl_NumText.b (fun r => (ret r).map e) k a0 = (impl_NumText.b ret k a0).map e := by
  unfold impl_NumText.b
  repeat' first | with_reducible refine nat_cond ?_ ?_ | with_reducible refine nat_bind fun _ => ?_ | rfl
theorem impl_NumText.eq (k : Nat) (a0 : Int) : answer Tryd.prog impl_NumText.Cs 100000 impl_NumText.cuts [] Tryd.f66 (k + 1) [.v (.int .i64 a0)] = (impl_NumText.f (k + 1) a0).map impl_NumText.enc := by
  refine (impl_NumText.s k a0).trans (Eq.trans ?_ (impl_NumText.b_nat impl_NumText.enc some k a0))
  simp only [Option.map_some]
theorem impl_NumText.sound (k : Nat) : SoundF Tryd.prog 66 (fun a => (impl_NumText.ans k a).val) := by
  refine sound_plain (fun args res h => ?_) (fun t n => rfl)
  unfold impl_NumText.ans at h
  dsimp only at h
  split at h
  · cases k with
    | zero => cases h
    | succ k =>
      unfold Ans.val at h
      rw [← impl_NumText.eq] at h
      exact answer_sound mixed Tryd.func66 _ _ _ (k + 1) (fun j _ => tab_sound (tab_cons (impl_isNum.sound j) (tab_cons (strconv_Itoa.sound j) (tab_nil)))) _ _ h
  · exact (Ans.no_val h).elim

/-! strings_Join -/
def strings_Join.f (k : Nat) (a0z : Bool) (a0 : List T) (a1 : ByteArray) : Option ByteArray := cond (joinOk a0 a1) (some (joinB a0 a1)) none
def strings_Join.enc (r : ByteArray) : Res := ⟨[.vals false [((.str r), true)]], []⟩
def strings_Join.ans (k : Nat) : List Arg → Ans
  | [.v (.sl 9 a0z a0), .v (.str a1)] => ⟨strings_Join.f k a0z a0 a1, strings_Join.enc⟩
  | _ => Ans.no
theorem strings_Join.sound (k : Nat) : SoundF Tryd.prog 92 (fun a => (strings_Join.ans k a).val) := by
  refine sound_ext (fun _ _ => rfl) fun args res h => ?_
  unfold strings_Join.ans at h
  split at h
  · exact ext_join lay_Join (by kernel_rfl) h
  · exact (Ans.no_val h).elim

/-! loop.example/g00790/impl.orDash -/
def impl_orDash.b {R : Type} (ret : ByteArray → Option R) (k : Nat) (a0z : Bool) (a0 : List T) : Option R :=
  cond (decide (((a0).length : Int) = 0)) (ret (⟨#[45]⟩ : ByteArray)) ((strings_Join.f k a0z a0 (⟨#[44]⟩ : ByteArray)).bind fun t0 => ret t0)
def impl_orDash.f : Nat → Bool → (List T) → Option ByteArray
  | 0, _, _ => none
  | k + 1, a0z, a0 => impl_orDash.b some k a0z a0
def impl_orDash.enc (r : ByteArray) : Res := ⟨[.vals false [((.str r), true)]], []⟩
def impl_orDash.ans (k : Nat) : List Arg → Ans
  | [.v (.sl 9 a0z a0)] => ⟨impl_orDash.f k a0z a0, impl_orDash.enc⟩
  | _ => Ans.no
def impl_orDash.Cs (k : Nat) : CallSem := tab [(92, strings_Join.ans k)]
def impl_orDash.cuts : List (Nat × Keep) := []
theorem impl_orDash.s (k : Nat) (a0z : Bool) (a0 : List T) : answer Tryd.prog impl_orDash.Cs 100000 impl_orDash.cuts [] Tryd.f84 (k + 1) [.v (.sl 9 a0z a0)] = impl_orDash.b (fun r => some (impl_orDash.enc r)) k a0z a0 := by kernel_rfl
theorem impl_orDash.b_nat {R R' : Type} (e : R → R') (ret : ByteArray → Option R) (k : Nat) (a0z : Bool) (a0 : List T) : impl_orDash.b (fun r => (ret r).map e) k a0z a0 = (impl_orDash.b ret k a0z a0).map e := by
  unfold impl_orDash.b
  repeat' first | with_reducible refine nat_cond ?_ ?_ | with_reducible refine nat_bind fun _ => ?_ | rfl
theorem impl_orDash.eq (k : Nat) (a0z : Bool) (a0 : List T) : answer Tryd.prog impl_orDash.Cs 100000 impl_orDash.cuts [] Tryd.f84 (k + 1) [.v (.sl 9 a0z a0)] = (impl_orDash.f (k + 1) a0z a0).map impl_orDash.enc := by
  refine (impl_orDash.s k a0z a0).trans (Eq.trans ?_ (impl_orDash.b_nat impl_orDash.enc some k a0z a0))
  simp only [Option.map_some]
theorem impl_orDash.sound (k : Nat) : SoundF Tryd.prog 84 (fun a => (impl_orDash.ans k a).val) := by
  refine sound_plain (fun args res h => ?_) (fun t n => rfl)
  unfold impl_orDash.ans at h
  dsimp only at h
  split at h
  · cases k with
    | zero => cases h
    | succ k =>
      unfold Ans.val at h
      rw [← impl_orDash.eq] at h
      exact answer_sound mixed Tryd.func84 _ _ _ (k + 1) (fun j _ => tab_sound (tab_cons (strings_Join.sound j) (tab_nil))) _ _ h
  · exact (Ans.no_val h).elim

/-! loop.example/g00790/impl.TcText -/
def impl_TcText.b {R : Type} (ret : ByteArray → Option R) (j0 : (List T) → Bool → (List T) → Int → Int → Int → Bool → (List T) → Option R) (k : Nat) (a0_0 : Int) (a0_1z : Bool) (a0_1 : List T) : Option R :=
  j0 ([] : List T) a0_1z a0_1 ((a0_1).length : Int) 0 a0_0 a0_1z a0_1
def impl_TcText.l0b {R : Type} (ret : ByteArray → Option R) (j0 : (List T) → Bool → (List T) → Int → Int → Int → Bool → (List T) → Option R) (k : Nat) (x3 : List T) (x8z : Bool) (x8 : List T) (x9 : Int) (x10 : Int) (c1_0 : Int) (c1_1z : Bool) (c1_1 : List T) : Option R :=
  cond (decide (x10 < x9)) (cond (decide ((0 : Int) ≤ x10)) (cond (decide (x10 < ((x8).length : Int))) ((impl_NumText.f k (((((x8).getD (x10).toNat .bad).cells.getD 0 .bad)).toInt)).bind fun t0 => cond (decide ((t0).size + ((⟨#[58]⟩ : ByteArray)).size ≤ 140737488355328)) ((impl_NumText.f k (((((x8).getD (x10).toNat .bad).cells.getD 1 .bad)).toInt)).bind fun t1 => cond (decide (((t0 ++ (⟨#[58]⟩ : ByteArray))).size + (t1).size ≤ 140737488355328)) (cond (decide ((x3).length + 1 < 8796093022208)) (j0 (x3 ++ ([(.str ((t0 ++ (⟨#[58]⟩ : ByteArray)) ++ t1))] : List T)) x8z x8 x9 (RowKit.wrap64 (x10 + 1)) c1_0 c1_1z c1_1) (none)) (none)) (none)) (none)) (none)) ((impl_NumText.f k c1_0).bind fun t0 => cond (decide (((⟨#[116, 99, 32]⟩ : ByteArray)).size + (t0).size ≤ 140737488355328)) (cond (decide ((((⟨#[116, 99, 32]⟩ : ByteArray) ++ t0)).size + ((⟨#[32]⟩ : ByteArray)).size ≤ 140737488355328)) ((impl_orDash.f k false x3).bind fun t1 => cond (decide (((((⟨#[116, 99, 32]⟩ : ByteArray) ++ t0) ++ (⟨#[32]⟩ : ByteArray))).size + (t1).size ≤ 140737488355328)) (ret ((((⟨#[116, 99, 32]⟩ : ByteArray) ++ t0) ++ (⟨#[32]⟩ : ByteArray)) ++ t1)) (none)) (none)) (none))
def impl_TcText.l0 : Nat → (List T) → Bool → (List T) → Int → Int → Int → Bool → (List T) → Option ByteArray
  | 0, _, _, _, _, _, _, _, _ => none
  | k + 1, x3, x8z, x8, x9, x10, c1_0, c1_1z, c1_1 => impl_TcText.l0b some (impl_TcText.l0 k) k x3 x8z x8 x9 x10 c1_0 c1_1z c1_1
def impl_TcText.f : Nat → Int → Bool → (List T) → Option ByteArray
  | 0, _, _, _ => none
  | k + 1, a0_0, a0_1z, a0_1 => impl_TcText.b some (impl_TcText.l0 k) k a0_0 a0_1z a0_1
def impl_TcText.enc (r : ByteArray) : Res := ⟨[.vals false [((.str r), true)]], []⟩
def impl_TcText.ans (k : Nat) : List Arg → Ans
  | [.v (.agg [(.int .i64 a0_0), (.sl 130 a0_1z a0_1)])] => ⟨impl_TcText.f k a0_0 a0_1z a0_1, impl_TcText.enc⟩
  | _ => Ans.no
def impl_TcText.Cs (k : Nat) : CallSem := tab [(66, impl_NumText.ans k), (84, impl_orDash.ans k)]
def impl_TcText.cuts : List (Nat × Keep) := [(58, ⟨[(1, some []), (3, none), (8, some []), (9, some []), (10, some [])], [(1, [some [], some []])]⟩)]
noncomputable def impl_TcText.K0 : List Fr := framesAt [true, true, false, true, false] (bodyOf Tryd.f34 impl_TcText.cuts) []
def impl_TcText.N0 (x3 : List T) (x8z : Bool) (x8 : List T) (x9 : Int) (x10 : Int) (c1_0 : Int) (c1_1z : Bool) (c1_1 : List T) : St := stOf 34 34 1 [(1, .bp 1 0), (3, .val ⟨(.sl 9 false x3), [.l 3 0], true, some (.l 3 0)⟩), (8, .val ⟨(.sl 130 x8z x8), [], false, none⟩), (9, .val (V.s (.int .i64 x9))), (10, .val (V.s (.int .i64 x10)))] [(1, .cells [V.s (.int .i64 c1_0), ⟨(.sl 130 c1_1z c1_1), [], false, none⟩])]
theorem impl_TcText.s (k : Nat) (a0_0 : Int) (a0_1z : Bool) (a0_1 : List T) : answer Tryd.prog impl_TcText.Cs 100000 impl_TcText.cuts [] Tryd.f34 (k + 1) [.v (.agg [(.int .i64 a0_0), (.sl 130 a0_1z a0_1)])] = impl_TcText.b (fun r => some (impl_TcText.enc r)) (fun x3 x8z x8 x9 x10 c1_0 c1_1z c1_1 => rounds Tryd.prog impl_TcText.Cs (finish Tryd.prog [] Tryd.f34 [.v (.agg [(.int .i64 a0_0), (.sl 130 a0_1z a0_1)])]) 100000 k impl_TcText.K0 (impl_TcText.N0 x3 x8z x8 x9 x10 c1_0 c1_1z c1_1)) k a0_0 a0_1z a0_1 := by kernel_rfl
theorem impl_TcText.s0 (k : Nat) (G : List Fr → St → Option Res) (a0_0 : Int) (a0_1z : Bool) (a0_1 : List T) (yx3 : List T) (yx8z : Bool) (yx8 : List T) (yx9 : Int) (yx10 : Int) (yc1_0 : Int) (yc1_1z : Bool) (yc1_1 : List T) : resume Tryd.prog (impl_TcText.Cs k) G (finish Tryd.prog [] Tryd.f34 [.v (.agg [(.int .i64 a0_0), (.sl 130 a0_1z a0_1)])]) 100000 impl_TcText.K0 (impl_TcText.N0 yx3 yx8z yx8 yx9 yx10 yc1_0 yc1_1z yc1_1) = impl_TcText.l0b (fun r => some (impl_TcText.enc r)) (fun x3 x8z x8 x9 x10 c1_0 c1_1z c1_1 => G impl_TcText.K0 (impl_TcText.N0 x3 x8z x8 x9 x10 c1_0 c1_1z c1_1)) k yx3 yx8z yx8 yx9 yx10 yc1_0 yc1_1z yc1_1 := by kernel_rfl
theorem impl_TcText.b_nat {R R' : Type} (e : R → R') (ret : ByteArray → Option R) (j0 : (List T) → Bool → (List T) → Int → Int → Int → Bool → (List T) → Option R) (k : Nat) (a0_0 : Int) (a0_1z : Bool) (a0_1 : List T) : impl_TcText.b (fun r => (ret r).map e) (fun x3 x8z x8 x9 x10 c1_0 c1_1z c1_1 => (j0 x3 x8z x8 x9 x10 c1_0 c1_1z c1_1).map e) k a0_0 a0_1z a0_1 = (impl_TcText.b ret j0 k a0_0 a0_1z a0_1).map e := by
  unfold impl_TcText.b
  repeat' first | with_reducible refine nat_cond ?_ ?_ | with_reducible refine nat_bind fun _ => ?_ | rfl
theorem impl_TcText.l0b_nat {R R' : Type} (e : R → R') (ret : ByteArray → Option R) (j0 : (List T) → Bool → (List T) → Int → Int → Int → Bool → (List T) → Option R) (k : Nat) (x3 : List T) (x8z : Bool) (x8 : List T) (x9 : Int) (x10 : Int) (c1_0 : Int) (c1_1z : Bool) (c1_1 : List T) : impl_TcText.l0b (fun r => (ret r).map e) (fun x3 x8z x8 x9 x10 c1_0 c1_1z c1_1 => (j0 x3 x8z x8 x9 x10 c1_0 c1_1z c1_1).map e) k x3 x8z x8 x9 x10 c1_0 c1_1z c1_1 = (impl_TcText.l0b ret j0 k x3 x8z x8 x9 x10 c1_0 c1_1z c1_1).map e := by
  unfold impl_TcText.l0b
  repeat' first | with_reducible refine nat_cond ?_ ?_ | with_reducible refine nat_bind fun _ => ?_ | rfl
theorem impl_TcText.rounds_eq (a0_0 : Int) (a0_1z : Bool) (a0_1 : List T) : ∀ k, (∀ (x3 : List T) (x8z : Bool) (x8 : List T) (x9 : Int) (x10 : Int) (c1_0 : Int) (c1_1z : Bool) (c1_1 : List T), rounds Tryd.prog impl_TcText.Cs (finish Tryd.prog [] Tryd.f34 [.v (.agg [(.int .i64 a0_0), (.sl 130 a0_1z a0_1)])]) 100000 k impl_TcText.K0 (impl_TcText.N0 x3 x8z x8 x9 x10 c1_0 c1_1z c1_1) = (impl_TcText.l0 k x3 x8z x8 x9 x10 c1_0 c1_1z c1_1).map impl_TcText.enc)
  | 0 => fun _ _ _ _ _ _ _ _ => rfl
  | k + 1 => by
    have ih := impl_TcText.rounds_eq a0_0 a0_1z a0_1 k
    refine fun _ _ _ _ _ _ _ _ => ?_
    · refine (impl_TcText.s0 k _ a0_0 a0_1z a0_1 _ _ _ _ _ _ _ _).trans (Eq.trans ?_ (impl_TcText.l0b_nat impl_TcText.enc some (impl_TcText.l0 k) k _ _ _ _ _ _ _ _))
      simp only [ih, Option.map_some]
theorem impl_TcText.eq (k : Nat) (a0_0 : Int) (a0_1z : Bool) (a0_1 : List T) : answer Tryd.prog impl_TcText.Cs 100000 impl_TcText.cuts [] Tryd.f34 (k + 1) [.v (.agg [(.int .i64 a0_0), (.sl 130 a0_1z a0_1)])] = (impl_TcText.f (k + 1) a0_0 a0_1z a0_1).map impl_TcText.enc := by
  have ih := impl_TcText.rounds_eq a0_0 a0_1z a0_1 k
  refine (impl_TcText.s k a0_0 a0_1z a0_1).trans (Eq.trans ?_ (impl_TcText.b_nat impl_TcText.enc some (impl_TcText.l0 k) k a0_0 a0_1z a0_1))
  simp only [ih, Option.map_some]
theorem impl_TcText.sound (k : Nat) : SoundF Tryd.prog 34 (fun a => (impl_TcText.ans k a).val) := by
  refine sound_plain (fun args res h => ?_) (fun t n => rfl)
  unfold impl_TcText.ans at h
  dsimp only at h
  split at h
  · cases k with
    | zero => cases h
    | succ k =>
      unfold Ans.val at h
      rw [← impl_TcText.eq] at h
      exact answer_sound mixed Tryd.func34 _ _ _ (k + 1) (fun j _ => tab_sound (tab_cons (impl_NumText.sound j) (tab_cons (impl_orDash.sound j) (tab_nil)))) _ _ h
  · exact (Ans.no_val h).elim

/-! loop.example/g00790/laws.eqByteS -/
def laws_eqByteS.b {R : Type} (ret : Bool → Option R) (j0 : Bool → (List Int) → Bool → (List Int) → Int → Option R) (k : Nat) (a0z : Bool) (a0 : List Int) (a1z : Bool) (a1 : List Int) : Option R :=
  cond (!(decide (((a0).length : Int) = ((a1).length : Int)))) (ret false) (j0 a0z a0 a1z a1 0)
def laws_eqByteS.l0b {R : Type} (ret : Bool → Option R) (j0 : Bool → (List Int) → Bool → (List Int) → Int → Option R) (k : Nat) (x0z : Bool) (x0 : List Int) (x1z : Bool) (x1 : List Int) (x5 : Int) : Option R :=
  cond (decide (x5 < ((x0).length : Int))) (cond (decide ((0 : Int) ≤ x5)) (cond (decide (x5 < ((x0).length : Int))) (cond (decide ((0 : Int) ≤ x5)) (cond (decide (x5 < ((x1).length : Int))) (cond (!(decide ((rdI x0 x5) = (rdI x1 x5)))) (ret false) (j0 x0z x0 x1z x1 (RowKit.wrap64 (x5 + 1)))) (none)) (none)) (none)) (none)) (ret true)
def laws_eqByteS.l0 : Nat → Bool → (List Int) → Bool → (List Int) → Int → Option Bool
  | 0, _, _, _, _, _ => none
  | k + 1, x0z, x0, x1z, x1, x5 => laws_eqByteS.l0b some (laws_eqByteS.l0 k) k x0z x0 x1z x1 x5
def laws_eqByteS.f : Nat → Bool → (List Int) → Bool → (List Int) → Option Bool
  | 0, _, _, _, _ => none
  | k + 1, a0z, a0, a1z, a1 => laws_eqByteS.b some (laws_eqByteS.l0 k) k a0z a0 a1z a1
def laws_eqByteS.enc (r : Bool) : Res := ⟨[.vals false [((.bool r), true)]], []⟩
def laws_eqByteS.ans (k : Nat) : List Arg → Ans
  | [.v (.nums 5 .u8 a0z a0), .v (.nums 5 .u8 a1z a1)] => ⟨laws_eqByteS.f k a0z a0 a1z a1, laws_eqByteS.enc⟩
  | _ => Ans.no
def laws_eqByteS.Cs (k : Nat) : CallSem := tab []
def laws_eqByteS.cuts : List (Nat × Keep) := [(58, ⟨[(0, some []), (1, some []), (5, some [])], []⟩)]
noncomputable def laws_eqByteS.K0 : List Fr := framesAt [true, true, false, true, false] (bodyOf Tryd.f74 laws_eqByteS.cuts) []
def laws_eqByteS.N0 (x0z : Bool) (x0 : List Int) (x1z : Bool) (x1 : List Int) (x5 : Int) : St := stOf 26 26 2 [(0, .val ⟨(.nums 5 .u8 x0z x0), [], false, none⟩), (1, .val ⟨(.nums 5 .u8 x1z x1), [], false, none⟩), (5, .val (V.s (.int .i64 x5)))] []
theorem laws_eqByteS.s (k : Nat) (a0z : Bool) (a0 : List Int) (a1z : Bool) (a1 : List Int) : answer Tryd.prog laws_eqByteS.Cs 100000 laws_eqByteS.cuts [] Tryd.f74 (k + 1) [.v (.nums 5 .u8 a0z a0), .v (.nums 5 .u8 a1z a1)] = laws_eqByteS.b (fun r => some (laws_eqByteS.enc r)) (fun x0z x0 x1z x1 x5 => rounds Tryd.prog laws_eqByteS.Cs (finish Tryd.prog [] Tryd.f74 [.v (.nums 5 .u8 a0z a0), .v (.nums 5 .u8 a1z a1)]) 100000 k laws_eqByteS.K0 (laws_eqByteS.N0 x0z x0 x1z x1 x5)) k a0z a0 a1z a1 := by kernel_rfl
theorem laws_eqByteS.s0 (k : Nat) (G : List Fr → St → Option Res) (a0z : Bool) (a0 : List Int) (a1z : Bool) (a1 : List Int) (yx0z : Bool) (yx0 : List Int) (yx1z : Bool) (yx1 : List Int) (yx5 : Int) : resume Tryd.prog (laws_eqByteS.Cs k) G (finish Tryd.prog [] Tryd.f74 [.v (.nums 5 .u8 a0z a0), .v (.nums 5 .u8 a1z a1)]) 100000 laws_eqByteS.K0 (laws_eqByteS.N0 yx0z yx0 yx1z yx1 yx5) = laws_eqByteS.l0b (fun r => some (laws_eqByteS.enc r)) (fun x0z x0 x1z x1 x5 => G laws_eqByteS.K0 (laws_eqByteS.N0 x0z x0 x1z x1 x5)) k yx0z yx0 yx1z yx1 yx5 := by kernel_rfl
theorem laws_eqByteS.b_nat {R R' : Type} (e : R → R') (ret : Bool → Option R) (j0 : Bool → (List Int) → Bool → (List Int) → Int → Option R) (k : Nat) (a0z : Bool) (a0 : List Int) (a1z : Bool) (a1 : List Int) : laws_eqByteS.b (fun r => (ret r).map e) (fun x0z x0 x1z x1 x5 => (j0 x0z x0 x1z x1 x5).map e) k a0z a0 a1z a1 = (laws_eqByteS.b ret j0 k a0z a0 a1z a1).map e := by
  unfold laws_eqByteS.b
  repeat' first | with_reducible refine nat_cond ?_ ?_ | with_reducible refine nat_bind fun _ => ?_ | rfl
theorem laws_eqByteS.l0b_nat {R R' : Type} (e : R → R') (ret : Bool → Option R) (j0 : Bool → (List Int) → Bool → (List Int) → Int → Option R) (k : Nat) (x0z : Bool) (x0 : List Int) (x1z : Bool) (x1 : List Int) (x5 : Int) : laws_eqByteS.l0b (fun r => (ret r).map e) (fun x0z x0 x1z x1 x5 => (j0 x0z x0 x1z x1 x5).map e) k x0z x0 x1z x1 x5 = (laws_eqByteS.l0b ret j0 k x0z x0 x1z x1 x5).map e := by
  unfold laws_eqByteS.l0b
  repeat' first | with_reducible refine nat_cond ?_ ?_ | with_reducible refine nat_bind fun _ => ?_ | rfl
theorem laws_eqByteS.rounds_eq (a0z : Bool) (a0 : List Int) (a1z : Bool) (a1 : List Int) : ∀ k, (∀ (x0z : Bool) (x0 : List Int) (x1z : Bool) (x1 : List Int) (x5 : Int), rounds Tryd.prog laws_eqByteS.Cs (finish Tryd.prog [] Tryd.f74 [.v (.nums 5 .u8 a0z a0), .v (.nums 5 .u8 a1z a1)]) 100000 k laws_eqByteS.K0 (laws_eqByteS.N0 x0z x0 x1z x1 x5) = (laws_eqByteS.l0 k x0z x0 x1z x1 x5).map laws_eqByteS.enc)
  | 0 => fun _ _ _ _ _ => rfl
  | k + 1 => by
    have ih := laws_eqByteS.rounds_eq a0z a0 a1z a1 k
    refine fun _ _ _ _ _ => ?_
    · refine (laws_eqByteS.s0 k _ a0z a0 a1z a1 _ _ _ _ _).trans (Eq.trans ?_ (laws_eqByteS.l0b_nat laws_eqByteS.enc some (laws_eqByteS.l0 k) k _ _ _ _ _))
      simp only [ih, Option.map_some]
theorem laws_eqByteS.eq (k : Nat) (a0z : Bool) (a0 : List Int) (a1z : Bool) (a1 : List Int) : answer Tryd.prog laws_eqByteS.Cs 100000 laws_eqByteS.cuts [] Tryd.f74 (k + 1) [.v (.nums 5 .u8 a0z a0), .v (.nums 5 .u8 a1z a1)] = (laws_eqByteS.f (k + 1) a0z a0 a1z a1).map laws_eqByteS.enc := by
  have ih := laws_eqByteS.rounds_eq a0z a0 a1z a1 k
  refine (laws_eqByteS.s k a0z a0 a1z a1).trans (Eq.trans ?_ (laws_eqByteS.b_nat laws_eqByteS.enc some (laws_eqByteS.l0 k) k a0z a0 a1z a1))
  simp only [ih, Option.map_some]
theorem laws_eqByteS.sound (k : Nat) : SoundF Tryd.prog 74 (fun a => (laws_eqByteS.ans k a).val) := by
  refine sound_plain (fun args res h => ?_) (fun t n => rfl)
  unfold laws_eqByteS.ans at h
  dsimp only at h
  split at h
  · cases k with
    | zero => cases h
    | succ k =>
      unfold Ans.val at h
      rw [← laws_eqByteS.eq] at h
      exact answer_sound mixed Tryd.func74 _ _ _ (k + 1) (fun j _ => tab_sound (tab_nil)) _ _ h
  · exact (Ans.no_val h).elim

/-! loop.example/g00790/laws.eqEntry -/
def laws_eqEntry.b {R : Type} (ret : Bool → Option R) (k : Nat) (a0_0 : Int) (a0_1 : Int) (a0_2z : Bool) (a0_2 : List Int) (a1_0 : Int) (a1_1 : Int) (a1_2z : Bool) (a1_2 : List Int) : Option R :=
  cond (!(decide (a0_0 = a1_0))) (ret false) (cond (!(decide (a0_1 = a1_1))) (ret false) ((laws_eqByteS.f k a0_2z a0_2 a1_2z a1_2).bind fun t0 => cond (!t0) (ret false) (ret true)))
def laws_eqEntry.f : Nat → Int → Int → Bool → (List Int) → Int → Int → Bool → (List Int) → Option Bool
  | 0, _, _, _, _, _, _, _, _ => none
  | k + 1, a0_0, a0_1, a0_2z, a0_2, a1_0, a1_1, a1_2z, a1_2 => laws_eqEntry.b some k a0_0 a0_1 a0_2z a0_2 a1_0 a1_1 a1_2z a1_2
def laws_eqEntry.enc (r : Bool) : Res := ⟨[.vals false [((.bool r), true)]], []⟩
def laws_eqEntry.ans (k : Nat) : List Arg → Ans
  | [.v (.agg [(.int .i64 a0_0), (.int .i64 a0_1), (.nums 5 .u8 a0_2z a0_2)]), .v (.agg [(.int .i64 a1_0), (.int .i64 a1_1), (.nums 5 .u8 a1_2z a1_2)])] => ⟨laws_eqEntry.f k a0_0 a0_1 a0_2z a0_2 a1_0 a1_1 a1_2z a1_2, laws_eqEntry.enc⟩
  | _ => Ans.no
def laws_eqEntry.Cs (k : Nat) : CallSem := tab [(74, laws_eqByteS.ans k)]
def laws_eqEntry.cuts : List (Nat × Keep) := []
theorem laws_eqEntry.s (k : Nat) (a0_0 : Int) (a0_1 : Int) (a0_2z : Bool) (a0_2 : List Int) (a1_0 : Int) (a1_1 : Int) (a1_2z : Bool) (a1_2 : List Int) : answer Tryd.prog laws_eqEntry.Cs 100000 laws_eqEntry.cuts [] Tryd.f114 (k + 1) [.v (.agg [(.int .i64 a0_0), (.int .i64 a0_1), (.nums 5 .u8 a0_2z a0_2)]), .v (.agg [(.int .i64 a1_0), (.int .i64 a1_1), (.nums 5 .u8 a1_2z a1_2)])] = laws_eqEntry.b (fun r => some (laws_eqEntry.enc r)) k a0_0 a0_1 a0_2z a0_2 a1_0 a1_1 a1_2z a1_2 := by kernel_rfl
theorem laws_eqEntry.b_nat {R R' : Type} (e : R → R') (ret : Bool → Option R) (k : Nat) (a0_0 : Int) (a0_1 : Int) (a0_2z : Bool) (a0_2 : List Int) (a1_0 : Int) (a1_1 : Int) (a1_2z : Bool) (a1_2 : List Int) : laws_eqEntry.b (fun r => (ret r).map e) k a0_0 a0_1 a0_2z a0_2 a1_0 a1_1 a1_2z a1_2 = (laws_eqEntry.b ret k a0_0 a0_1 a0_2z a0_2 a1_0 a1_1 a1_2z a1_2).map e := by
  unfold laws_eqEntry.b
  repeat' first | with_reducible refine nat_cond ?_ ?_ | with_reducible refine nat_bind fun _ => ?_ | rfl
theorem laws_eqEntry.eq (k : Nat) (a0_0 : Int) (a0_1 : Int) (a0_2z : Bool) (a0_2 : List Int) (a1_0 : Int) (a1_1 : Int) (a1_2z : Bool) (a1_2 : List Int) : answer Tryd.prog laws_eqEntry.Cs 100000 laws_eqEntry.cuts [] Tryd.f114 (k + 1) [.v (.agg [(.int .i64 a0_0), (.int .i64 a0_1), (.nums 5 .u8 a0_2z a0_2)]), .v (.agg [(.int .i64 a1_0), (.int .i64 a1_1), (.nums 5 .u8 a1_2z a1_2)])] = (laws_eqEntry.f (k + 1) a0_0 a0_1 a0_2z a0_2 a1_0 a1_1 a1_2z a1_2).map laws_eqEntry.enc := by
  refine (laws_eqEntry.s k a0_0 a0_1 a0_2z a0_2 a1_0 a1_1 a1_2z a1_2).trans (Eq.trans ?_ (laws_eqEntry.b_nat laws_eqEntry.enc some k a0_0 a0_1 a0_2z a0_2 a1_0 a1_1 a1_2z a1_2))
  simp only [Option.map_some]
theorem laws_eqEntry.sound (k : Nat) : SoundF Tryd.prog 114 (fun a => (laws_eqEntry.ans k a).val) := by
  refine sound_plain (fun args res h => ?_) (fun t n => rfl)
  unfold laws_eqEntry.ans at h
  dsimp only at h
  split at h
  · cases k with
    | zero => cases h
    | succ k =>
      unfold Ans.val at h
      rw [← laws_eqEntry.eq] at h
      exact answer_sound mixed Tryd.func114 _ _ _ (k + 1) (fun j _ => tab_sound (tab_cons (laws_eqByteS.sound j) (tab_nil))) _ _ h
  · exact (Ans.no_val h).elim

/-! loop.example/g00790/laws.eqEntryS -/
def laws_eqEntryS.b {R : Type} (ret : Bool → Option R) (j0 : Bool → (List T) → Bool → (List T) → Int → Option R) (k : Nat) (a0z : Bool) (a0 : List T) (a1z : Bool) (a1 : List T) : Option R :=
  cond (!(decide (((a0).length : Int) = ((a1).length : Int)))) (ret false) (j0 a0z a0 a1z a1 0)
def laws_eqEntryS.l0b {R : Type} (ret : Bool → Option R) (j0 : Bool → (List T) → Bool → (List T) → Int → Option R) (k : Nat) (x0z : Bool) (x0 : List T) (x1z : Bool) (x1 : List T) (x5 : Int) : Option R :=
  cond (decide (x5 < ((x0).length : Int))) (cond (decide ((0 : Int) ≤ x5)) (cond (decide (x5 < ((x0).length : Int))) (cond (decide ((0 : Int) ≤ x5)) (cond (decide (x5 < ((x1).length : Int))) ((laws_eqEntry.f k (((((x0).getD (x5).toNat .bad).cells.getD 0 .bad)).toInt) (((((x0).getD (x5).toNat .bad).cells.getD 1 .bad)).toInt) (((((x0).getD (x5).toNat .bad).cells.getD 2 .bad)).isNil) (((((x0).getD (x5).toNat .bad).cells.getD 2 .bad)).toNums) (((((x1).getD (x5).toNat .bad).cells.getD 0 .bad)).toInt) (((((x1).getD (x5).toNat .bad).cells.getD 1 .bad)).toInt) (((((x1).getD (x5).toNat .bad).cells.getD 2 .bad)).isNil) (((((x1).getD (x5).toNat .bad).cells.getD 2 .bad)).toNums)).bind fun t0 => cond (!t0) (ret false) (j0 x0z x0 x1z x1 (RowKit.wrap64 (x5 + 1)))) (none)) (none)) (none)) (none)) (ret true)
def laws_eqEntryS.l0 : Nat → Bool → (List T) → Bool → (List T) → Int → Option Bool
  | 0, _, _, _, _, _ => none
  | k + 1, x0z, x0, x1z, x1, x5 => laws_eqEntryS.l0b some (laws_eqEntryS.l0 k) k x0z x0 x1z x1 x5
def laws_eqEntryS.f : Nat → Bool → (List T) → Bool → (List T) → Option Bool
  | 0, _, _, _, _ => none
  | k + 1, a0z, a0, a1z, a1 => laws_eqEntryS.b some (laws_eqEntryS.l0 k) k a0z a0 a1z a1
def laws_eqEntryS.enc (r : Bool) : Res := ⟨[.vals false [((.bool r), true)]], []⟩
def laws_eqEntryS.ans (k : Nat) : List Arg → Ans
  | [.v (.sl 130 a0z a0), .v (.sl 130 a1z a1)] => ⟨laws_eqEntryS.f k a0z a0 a1z a1, laws_eqEntryS.enc⟩
  | _ => Ans.no
def laws_eqEntryS.Cs (k : Nat) : CallSem := tab [(114, laws_eqEntry.ans k)]
def laws_eqEntryS.cuts : List (Nat × Keep) := [(58, ⟨[(0, some []), (1, some []), (5, some [])], []⟩)]
noncomputable def laws_eqEntryS.K0 : List Fr := framesAt [true, true, false, true, false] (bodyOf Tryd.f85 laws_eqEntryS.cuts) []
def laws_eqEntryS.N0 (x0z : Bool) (x0 : List T) (x1z : Bool) (x1 : List T) (x5 : Int) : St := stOf 27 27 2 [(0, .val ⟨(.sl 130 x0z x0), [], false, none⟩), (1, .val ⟨(.sl 130 x1z x1), [], false, none⟩), (5, .val (V.s (.int .i64 x5)))] []
theorem laws_eqEntryS.s (k : Nat) (a0z : Bool) (a0 : List T) (a1z : Bool) (a1 : List T) : answer Tryd.prog laws_eqEntryS.Cs 100000 laws_eqEntryS.cuts [] Tryd.f85 (k + 1) [.v (.sl 130 a0z a0), .v (.sl 130 a1z a1)] = laws_eqEntryS.b (fun r => some (laws_eqEntryS.enc r)) (fun x0z x0 x1z x1 x5 => rounds Tryd.prog laws_eqEntryS.Cs (finish Tryd.prog [] Tryd.f85 [.v (.sl 130 a0z a0), .v (.sl 130 a1z a1)]) 100000 k laws_eqEntryS.K0 (laws_eqEntryS.N0 x0z x0 x1z x1 x5)) k a0z a0 a1z a1 := by kernel_rfl
theorem laws_eqEntryS.s0 (k : Nat) (G : List Fr → St → Option Res) (a0z : Bool) (a0 : List T) (a1z : Bool) (a1 : List T) (yx0z : Bool) (yx0 : List T) (yx1z : Bool) (yx1 : List T) (yx5 : Int) : resume Tryd.prog (laws_eqEntryS.Cs k) G (finish Tryd.prog [] Tryd.f85 [.v (.sl 130 a0z a0), .v (.sl 130 a1z a1)]) 100000 laws_eqEntryS.K0 (laws_eqEntryS.N0 yx0z yx0 yx1z yx1 yx5) = laws_eqEntryS.l0b (fun r => some (laws_eqEntryS.enc r)) (fun x0z x0 x1z x1 x5 => G laws_eqEntryS.K0 (laws_eqEntryS.N0 x0z x0 x1z x1 x5)) k yx0z yx0 yx1z yx1 yx5 := by kernel_rfl
theorem laws_eqEntryS.b_nat {R R' : Type} (e : R → R') (ret : Bool → Option R) (j0 : Bool → (List T) → Bool → (List T) → Int → Option R) (k : Nat) (a0z : Bool) (a0 : List T) (a1z : Bool) (a1 : List T) : laws_eqEntryS.b (fun r => (ret r).map e) (fun x0z x0 x1z x1 x5 => (j0 x0z x0 x1z x1 x5).map e) k a0z a0 a1z a1 = (laws_eqEntryS.b ret j0 k a0z a0 a1z a1).map e := by
  unfold laws_eqEntryS.b
  repeat' first | with_reducible refine nat_cond ?_ ?_ | with_reducible refine nat_bind fun _ => ?_ | rfl
theorem laws_eqEntryS.l0b_nat {R R' : Type} (e : R → R') (ret : Bool → Option R) (j0 : Bool → (List T) → Bool → (List T) → Int → Option R) (k : Nat) (x0z : Bool) (x0 : List T) (x1z : Bool) (x1 : List T) (x5 : Int) : laws_eqEntryS.l0b (fun r => (ret r).map e) (fun x0z x0 x1z x1 x5 => (j0 x0z x0 x1z x1 x5).map e) k x0z x0 x1z x1 x5 = (laws_eqEntryS.l0b ret j0 k x0z x0 x1z x1 x5).map e := by
  unfold laws_eqEntryS.l0b
  repeat' first | with_reducible refine nat_cond ?_ ?_ | with_reducible refine nat_bind fun _ => ?_ | rfl
theorem laws_eqEntryS.rounds_eq (a0z : Bool) (a0 : List T) (a1z : Bool) (a1 : List T) : ∀ k, (∀ (x0z : Bool) (x0 : List T) (x1z : Bool) (x1 : List T) (x5 : Int), rounds Tryd.prog laws_eqEntryS.Cs (finish Tryd.prog [] Tryd.f85 [.v (.sl 130 a0z a0), .v (.sl 130 a1z a1)]) 100000 k laws_eqEntryS.K0 (laws_eqEntryS.N0 x0z x0 x1z x1 x5) = (laws_eqEntryS.l0 k x0z x0 x1z x1 x5).map laws_eqEntryS.enc)
  | 0 => fun _ _ _ _ _ => rfl
  | k + 1 => by
    have ih := laws_eqEntryS.rounds_eq a0z a0 a1z a1 k
    refine fun _ _ _ _ _ => ?_
    · refine (laws_eqEntryS.s0 k _ a0z a0 a1z a1 _ _ _ _ _).trans (Eq.trans ?_ (laws_eqEntryS.l0b_nat laws_eqEntryS.enc some (laws_eqEntryS.l0 k) k _ _ _ _ _))
      simp only [ih, Option.map_some]
theorem laws_eqEntryS.eq (k : Nat) (a0z : Bool) (a0 : List T) (a1z : Bool) (a1 : List T) : answer Tryd.prog laws_eqEntryS.Cs 100000 laws_eqEntryS.cuts [] Tryd.f85 (k + 1) [.v (.sl 130 a0z a0), .v (.sl 130 a1z a1)] = (laws_eqEntryS.f (k + 1) a0z a0 a1z a1).map laws_eqEntryS.enc := by
  have ih := laws_eqEntryS.rounds_eq a0z a0 a1z a1 k
  refine (laws_eqEntryS.s k a0z a0 a1z a1).trans (Eq.trans ?_ (laws_eqEntryS.b_nat laws_eqEntryS.enc some (laws_eqEntryS.l0 k) k a0z a0 a1z a1))
  simp only [ih, Option.map_some]
theorem laws_eqEntryS.sound (k : Nat) : SoundF Tryd.prog 85 (fun a => (laws_eqEntryS.ans k a).val) := by
  refine sound_plain (fun args res h => ?_) (fun t n => rfl)
  unfold laws_eqEntryS.ans at h
  dsimp only at h
  split at h
  · cases k with
    | zero => cases h
    | succ k =>
      unfold Ans.val at h
      rw [← laws_eqEntryS.eq] at h
      exact answer_sound mixed Tryd.func85 _ _ _ (k + 1) (fun j _ => tab_sound (tab_cons (laws_eqEntry.sound j) (tab_nil))) _ _ h
  · exact (Ans.no_val h).elim

/-! loop.example/g00790/laws.eqTc -/
def laws_eqTc.b {R : Type} (ret : Bool → Option R) (k : Nat) (a0_0 : Int) (a0_1z : Bool) (a0_1 : List T) (a1_0 : Int) (a1_1z : Bool) (a1_1 : List T) : Option R :=
  cond (!(decide (a0_0 = a1_0))) (ret false) ((laws_eqEntryS.f k a0_1z a0_1 a1_1z a1_1).bind fun t0 => cond (!t0) (ret false) (ret true))
def laws_eqTc.f : Nat → Int → Bool → (List T) → Int → Bool → (List T) → Option Bool
  | 0, _, _, _, _, _, _ => none
  | k + 1, a0_0, a0_1z, a0_1, a1_0, a1_1z, a1_1 => laws_eqTc.b some k a0_0 a0_1z a0_1 a1_0 a1_1z a1_1
def laws_eqTc.enc (r : Bool) : Res := ⟨[.vals false [((.bool r), true)]], []⟩
def laws_eqTc.ans (k : Nat) : List Arg → Ans
  | [.v (.agg [(.int .i64 a0_0), (.sl 130 a0_1z a0_1)]), .v (.agg [(.int .i64 a1_0), (.sl 130 a1_1z a1_1)])] => ⟨laws_eqTc.f k a0_0 a0_1z a0_1 a1_0 a1_1z a1_1, laws_eqTc.enc⟩
  | _ => Ans.no
def laws_eqTc.Cs (k : Nat) : CallSem := tab [(85, laws_eqEntryS.ans k)]
def laws_eqTc.cuts : List (Nat × Keep) := []
theorem laws_eqTc.s (k : Nat) (a0_0 : Int) (a0_1z : Bool) (a0_1 : List T) (a1_0 : Int) (a1_1z : Bool) (a1_1 : List T) : answer Tryd.prog laws_eqTc.Cs 100000 laws_eqTc.cuts [] Tryd.f35 (k + 1) [.v (.agg [(.int .i64 a0_0), (.sl 130 a0_1z a0_1)]), .v (.agg [(.int .i64 a1_0), (.sl 130 a1_1z a1_1)])] = laws_eqTc.b (fun r => some (laws_eqTc.enc r)) k a0_0 a0_1z a0_1 a1_0 a1_1z a1_1 := by kernel_rfl
theorem laws_eqTc.b_nat {R R' : Type} (e : R → R') (ret : Bool → Option R) (k : Nat) (a0_0 : Int) (a0_1z : Bool) (a0_1 : List T) (a1_0 : Int) (a1_1z : Bool) (a1_1 : List T) : laws_eqTc.b (fun r => (ret r).map e) k a0_0 a0_1z a0_1 a1_0 a1_1z a1_1 = (laws_eqTc.b ret k a0_0 a0_1z a0_1 a1_0 a1_1z a1_1).map e := by
  unfold laws_eqTc.b
  repeat' first | with_reducible refine nat_cond ?_ ?_ | with_reducible refine nat_bind fun _ => ?_ | rfl
theorem laws_eqTc.eq (k : Nat) (a0_0 : Int) (a0_1z : Bool) (a0_1 : List T) (a1_0 : Int) (a1_1z : Bool) (a1_1 : List T) : answer Tryd.prog laws_eqTc.Cs 100000 laws_eqTc.cuts [] Tryd.f35 (k + 1) [.v (.agg [(.int .i64 a0_0), (.sl 130 a0_1z a0_1)]), .v (.agg [(.int .i64 a1_0), (.sl 130 a1_1z a1_1)])] = (laws_eqTc.f (k + 1) a0_0 a0_1z a0_1 a1_0 a1_1z a1_1).map laws_eqTc.enc := by
  refine (laws_eqTc.s k a0_0 a0_1z a0_1 a1_0 a1_1z a1_1).trans (Eq.trans ?_ (laws_eqTc.b_nat laws_eqTc.enc some k a0_0 a0_1z a0_1 a1_0 a1_1z a1_1))
  simp only [Option.map_some]
theorem laws_eqTc.sound (k : Nat) : SoundF Tryd.prog 35 (fun a => (laws_eqTc.ans k a).val) := by
  refine sound_plain (fun args res h => ?_) (fun t n => rfl)
  unfold laws_eqTc.ans at h
  dsimp only at h
  split at h
  · cases k with
    | zero => cases h
    | succ k =>
      unfold Ans.val at h
      rw [← laws_eqTc.eq] at h
      exact answer_sound mixed Tryd.func35 _ _ _ (k + 1) (fun j _ => tab_sound (tab_cons (laws_eqEntryS.sound j) (tab_nil))) _ _ h
  · exact (Ans.no_val h).elim

/-! loop.example/g00790/laws.FnExactTcText -/
def laws_FnExactTcText.b {R : Type} (ret : Bool → Option R) (k : Nat) (a0_0 : Int) (a0_1z : Bool) (a0_1 : List T) : Option R :=
  (laws_szTc.f k a0_0 a0_1z a0_1 1048576).bind fun t0 => cond (decide (t0 < 0)) (ret true) ((laws_toTc.f k a0_0 a0_1z a0_1).bind fun t1 => (spec_TcText.f k t1.1 t1.2.1 t1.2.2).bind fun t2 => (laws_toTc.f k a0_0 a0_1z a0_1).bind fun t3 => (impl_TcText.f k t3.1 t3.2.1 t3.2.2).bind fun t4 => cond (!decide (t4 = t2)) (ret false) ((laws_toTc.f k a0_0 a0_1z a0_1).bind fun t5 => (laws_eqTc.f k t3.1 t3.2.1 t3.2.2 t5.1 t5.2.1 t5.2.2).bind fun t6 => cond (!t6) (ret false) (ret true)))
def laws_FnExactTcText.f : Nat → Int → Bool → (List T) → Option Bool
  | 0, _, _, _ => none
  | k + 1, a0_0, a0_1z, a0_1 => laws_FnExactTcText.b some k a0_0 a0_1z a0_1
def laws_FnExactTcText.enc (r : Bool) : Res := ⟨[.vals false [((.bool r), true)]], []⟩
def laws_FnExactTcText.ans (k : Nat) : List Arg → Ans
  | [.v (.agg [(.int .i64 a0_0), (.sl 165 a0_1z a0_1)])] => ⟨laws_FnExactTcText.f k a0_0 a0_1z a0_1, laws_FnExactTcText.enc⟩
  | _ => Ans.no
def laws_FnExactTcText.Cs (k : Nat) : CallSem := tab [(31, laws_szTc.ans k), (33, laws_toTc.ans k), (32, spec_TcText.ans k), (34, impl_TcText.ans k), (35, laws_eqTc.ans k)]
def laws_FnExactTcText.cuts : List (Nat × Keep) := []
theorem laws_FnExactTcText.s (k : Nat) (a0_0 : Int) (a0_1z : Bool) (a0_1 : List T) : answer Tryd.prog laws_FnExactTcText.Cs 100000 laws_FnExactTcText.cuts [] Tryd.f7 (k + 1) [.v (.agg [(.int .i64 a0_0), (.sl 165 a0_1z a0_1)])] = laws_FnExactTcText.b (fun r => some (laws_FnExactTcText.enc r)) k a0_0 a0_1z a0_1 := by kernel_rfl
theorem laws_FnExactTcText.b_nat {R R' : Type} (e : R → R') (ret : Bool → Option R) (k : Nat) (a0_0 : Int) (a0_1z : Bool) (a0_1 : List T) : laws_FnExactTcText.b (fun r => (ret r).map e) k a0_0 a0_1z a0_1 = (laws_FnExactTcText.b ret k a0_0 a0_1z a0_1).map e := by
  unfold laws_FnExactTcText.b
  repeat' first | with_reducible refine nat_cond ?_ ?_ | with_reducible refine nat_bind fun _ => ?_ | rfl
theorem laws_FnExactTcText.eq (k : Nat) (a0_0 : Int) (a0_1z : Bool) (a0_1 : List T) : answer Tryd.prog laws_FnExactTcText.Cs 100000 laws_FnExactTcText.cuts [] Tryd.f7 (k + 1) [.v (.agg [(.int .i64 a0_0), (.sl 165 a0_1z a0_1)])] = (laws_FnExactTcText.f (k + 1) a0_0 a0_1z a0_1).map laws_FnExactTcText.enc := by
  refine (laws_FnExactTcText.s k a0_0 a0_1z a0_1).trans (Eq.trans ?_ (laws_FnExactTcText.b_nat laws_FnExactTcText.enc some k a0_0 a0_1z a0_1))
  simp only [Option.map_some]
theorem laws_FnExactTcText.sound (k : Nat) : SoundF Tryd.prog 7 (fun a => (laws_FnExactTcText.ans k a).val) := by
  refine sound_plain (fun args res h => ?_) (fun t n => rfl)
  unfold laws_FnExactTcText.ans at h
  dsimp only at h
  split at h
  · cases k with
    | zero => cases h
    | succ k =>
      unfold Ans.val at h
      rw [← laws_FnExactTcText.eq] at h
      exact answer_sound mixed Tryd.func7 _ _ _ (k + 1) (fun j _ => tab_sound (tab_cons (laws_szTc.sound j) (tab_cons (laws_toTc.sound j) (tab_cons (spec_TcText.sound j) (tab_cons (impl_TcText.sound j) (tab_cons (laws_eqTc.sound j) (tab_nil))))))) _ _ h
  · exact (Ans.no_val h).elim
end Go.Proofs.YtjffolalgcmhaaaDoorG
