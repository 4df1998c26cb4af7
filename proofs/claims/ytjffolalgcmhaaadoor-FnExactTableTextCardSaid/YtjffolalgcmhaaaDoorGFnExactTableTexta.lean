/- What the functions compute, printed by a program of this repo; each is shown to be what the machine of values answers. No condition. -/
import Derived.Test.YtjffolalgcmhaaaDoorProg
import Derived.KernelRfl
import Derived.Test.YtjffolalgcmhaaaDoorLay
namespace Go.Proofs.YtjffolalgcmhaaaDoorG
open Go Go.Proofs.YtjffolalgcmhaaaDoorRv Go.Proofs
set_option linter.unusedVariables false
set_option linter.unusedSimpArgs false
theorem mixed : Tryd.prog.follows .mixedOrders = true := by kernel_rfl
/-! loop.example/g00790/laws.szByteS -/
def laws_szByteS.b {R : Type} (ret : Int → Option R) (k : Nat) (a0z : Bool) (a0 : List Int) (a1 : Int) : Option R :=
  cond (decide ((RowKit.wrap64 (a1 - ((a0).length : Int))) < 0)) (ret (-1)) (ret (RowKit.wrap64 (a1 - ((a0).length : Int))))
def laws_szByteS.f : Nat → Bool → (List Int) → Int → Option Int
  | 0, _, _, _ => none
  | k + 1, a0z, a0, a1 => laws_szByteS.b some k a0z a0 a1
def laws_szByteS.enc (r : Int) : Res := ⟨[.vals false [((.int .i64 r), true)]], []⟩
def laws_szByteS.ans (k : Nat) : List Arg → Ans
  | [.v (.nums 5 .u8 a0z a0), .v (.int .i64 a1)] => ⟨laws_szByteS.f k a0z a0 a1, laws_szByteS.enc⟩
  | _ => Ans.no
def laws_szByteS.Cs (k : Nat) : CallSem := tab []
def laws_szByteS.cuts : List (Nat × Keep) := []
theorem laws_szByteS.s (k : Nat) (a0z : Bool) (a0 : List Int) (a1 : Int) : answer Tryd.prog laws_szByteS.Cs 100000 laws_szByteS.cuts [] Tryd.f69 (k + 1) [.v (.nums 5 .u8 a0z a0), .v (.int .i64 a1)] = laws_szByteS.b (fun r => some (laws_szByteS.enc r)) k a0z a0 a1 := by kernel_rfl
theorem laws_szByteS.b_nat {R R' : Type} (e : R → R') (ret : Int → Option R) (k : Nat) (a0z : Bool) (a0 : List Int) (a1 : Int) : laws_szByteS.b (fun r => (ret r).map e) k a0z a0 a1 = (laws_szByteS.b ret k a0z a0 a1).map e := by
  unfold laws_szByteS.b
  repeat' first | with_reducible refine nat_cond ?_ ?_ | with_reducible refine nat_bind fun _ => ?_ | rfl
theorem laws_szByteS.eq (k : Nat) (a0z : Bool) (a0 : List Int) (a1 : Int) : answer Tryd.prog laws_szByteS.Cs 100000 laws_szByteS.cuts [] Tryd.f69 (k + 1) [.v (.nums 5 .u8 a0z a0), .v (.int .i64 a1)] = (laws_szByteS.f (k + 1) a0z a0 a1).map laws_szByteS.enc := by
  refine (laws_szByteS.s k a0z a0 a1).trans (Eq.trans ?_ (laws_szByteS.b_nat laws_szByteS.enc some k a0z a0 a1))
  simp only [Option.map_some]
theorem laws_szByteS.sound (k : Nat) : SoundF Tryd.prog 69 (fun a => (laws_szByteS.ans k a).val) := by
  refine sound_plain (fun args res h => ?_) (fun t n => rfl)
  unfold laws_szByteS.ans at h
  dsimp only at h
  split at h
  · cases k with
    | zero => cases h
    | succ k =>
      unfold Ans.val at h
      rw [← laws_szByteS.eq] at h
      exact answer_sound mixed Tryd.func69 _ _ _ (k + 1) (fun j _ => tab_sound (tab_nil)) _ _ h
  · exact (Ans.no_val h).elim

/-! loop.example/g00790/laws.szRow -/
def laws_szRow.b {R : Type} (ret : Int → Option R) (k : Nat) (a0_0 : Int) (a0_1z : Bool) (a0_1 : List Int) (a1 : Int) : Option R :=
  (laws_szByteS.f k a0_1z a0_1 a1).bind fun t0 => cond (decide (t0 < 0)) (ret (-1)) (ret t0)
def laws_szRow.f : Nat → Int → Bool → (List Int) → Int → Option Int
  | 0, _, _, _, _ => none
  | k + 1, a0_0, a0_1z, a0_1, a1 => laws_szRow.b some k a0_0 a0_1z a0_1 a1
def laws_szRow.enc (r : Int) : Res := ⟨[.vals false [((.int .i64 r), true)]], []⟩
def laws_szRow.ans (k : Nat) : List Arg → Ans
  | [.v (.agg [(.int .i64 a0_0), (.nums 5 .u8 a0_1z a0_1)]), .v (.int .i64 a1)] => ⟨laws_szRow.f k a0_0 a0_1z a0_1 a1, laws_szRow.enc⟩
  | _ => Ans.no
def laws_szRow.Cs (k : Nat) : CallSem := tab [(69, laws_szByteS.ans k)]
def laws_szRow.cuts : List (Nat × Keep) := []
theorem laws_szRow.s (k : Nat) (a0_0 : Int) (a0_1z : Bool) (a0_1 : List Int) (a1 : Int) : answer Tryd.prog laws_szRow.Cs 100000 laws_szRow.cuts [] Tryd.f115 (k + 1) [.v (.agg [(.int .i64 a0_0), (.nums 5 .u8 a0_1z a0_1)]), .v (.int .i64 a1)] = laws_szRow.b (fun r => some (laws_szRow.enc r)) k a0_0 a0_1z a0_1 a1 := by kernel_rfl
theorem laws_szRow.b_nat {R R' : Type} (e : R → R') (ret : Int → Option R) (k : Nat) (a0_0 : Int) (a0_1z : Bool) (a0_1 : List Int) (a1 : Int) : laws_szRow.b (fun r => (ret r).map e) k a0_0 a0_1z a0_1 a1 = (laws_szRow.b ret k a0_0 a0_1z a0_1 a1).map e := by
  unfold laws_szRow.b
  repeat' first | with_reducible refine nat_cond ?_ ?_ | with_reducible refine nat_bind fun _ => ?_ | rfl
theorem laws_szRow.eq (k : Nat) (a0_0 : Int) (a0_1z : Bool) (a0_1 : List Int) (a1 : Int) : answer Tryd.prog laws_szRow.Cs 100000 laws_szRow.cuts [] Tryd.f115 (k + 1) [.v (.agg [(.int .i64 a0_0), (.nums 5 .u8 a0_1z a0_1)]), .v (.int .i64 a1)] = (laws_szRow.f (k + 1) a0_0 a0_1z a0_1 a1).map laws_szRow.enc := by
  refine (laws_szRow.s k a0_0 a0_1z a0_1 a1).trans (Eq.trans ?_ (laws_szRow.b_nat laws_szRow.enc some k a0_0 a0_1z a0_1 a1))
  simp only [Option.map_some]
theorem laws_szRow.sound (k : Nat) : SoundF Tryd.prog 115 (fun a => (laws_szRow.ans k a).val) := by
  refine sound_plain (fun args res h => ?_) (fun t n => rfl)
  unfold laws_szRow.ans at h
  dsimp only at h
  split at h
  · cases k with
    | zero => cases h
    | succ k =>
      unfold Ans.val at h
      rw [← laws_szRow.eq] at h
      exact answer_sound mixed Tryd.func115 _ _ _ (k + 1) (fun j _ => tab_sound (tab_cons (laws_szByteS.sound j) (tab_nil))) _ _ h
  · exact (Ans.no_val h).elim

/-! loop.example/g00790/laws.szRowS -/
def laws_szRowS.b {R : Type} (ret : Int → Option R) (j0 : Bool → (List T) → Int → Int → Option R) (k : Nat) (a0z : Bool) (a0 : List T) (a1 : Int) : Option R :=
  cond (decide ((RowKit.wrap64 (a1 - ((a0).length : Int))) < 0)) (ret (-1)) (j0 a0z a0 (RowKit.wrap64 (a1 - ((a0).length : Int))) 0)
def laws_szRowS.l0b {R : Type} (ret : Int → Option R) (j0 : Bool → (List T) → Int → Int → Option R) (k : Nat) (x0z : Bool) (x0 : List T) (x1 : Int) (x5 : Int) : Option R :=
  cond (decide (x5 < ((x0).length : Int))) (cond (decide ((0 : Int) ≤ x5)) (cond (decide (x5 < ((x0).length : Int))) ((laws_szRow.f k (((((x0).getD (x5).toNat .bad).cells.getD 0 .bad)).toInt) (((((x0).getD (x5).toNat .bad).cells.getD 1 .bad)).isNil) (((((x0).getD (x5).toNat .bad).cells.getD 1 .bad)).toNums) x1).bind fun t0 => cond (decide (t0 < 0)) (ret (-1)) (j0 x0z x0 t0 (RowKit.wrap64 (x5 + 1)))) (none)) (none)) (ret x1)
def laws_szRowS.l0 : Nat → Bool → (List T) → Int → Int → Option Int
  | 0, _, _, _, _ => none
  | k + 1, x0z, x0, x1, x5 => laws_szRowS.l0b some (laws_szRowS.l0 k) k x0z x0 x1 x5
def laws_szRowS.f : Nat → Bool → (List T) → Int → Option Int
  | 0, _, _, _ => none
  | k + 1, a0z, a0, a1 => laws_szRowS.b some (laws_szRowS.l0 k) k a0z a0 a1
def laws_szRowS.enc (r : Int) : Res := ⟨[.vals false [((.int .i64 r), true)]], []⟩
def laws_szRowS.ans (k : Nat) : List Arg → Ans
  | [.v (.sl 169 a0z a0), .v (.int .i64 a1)] => ⟨laws_szRowS.f k a0z a0 a1, laws_szRowS.enc⟩
  | _ => Ans.no
def laws_szRowS.Cs (k : Nat) : CallSem := tab [(115, laws_szRow.ans k)]
def laws_szRowS.cuts : List (Nat × Keep) := [(122, ⟨[(0, some []), (1, some []), (5, some [])], []⟩)]
noncomputable def laws_szRowS.K0 : List Fr := framesAt [true, true, true, false, true, false] (bodyOf Tryd.f89 laws_szRowS.cuts) []
def laws_szRowS.N0 (x0z : Bool) (x0 : List T) (x1 : Int) (x5 : Int) : St := stOf 27 27 2 [(0, .val ⟨(.sl 169 x0z x0), [], false, none⟩), (1, .val (V.s (.int .i64 x1))), (5, .val (V.s (.int .i64 x5)))] []
theorem laws_szRowS.s (k : Nat) (a0z : Bool) (a0 : List T) (a1 : Int) : answer Tryd.prog laws_szRowS.Cs 100000 laws_szRowS.cuts [] Tryd.f89 (k + 1) [.v (.sl 169 a0z a0), .v (.int .i64 a1)] = laws_szRowS.b (fun r => some (laws_szRowS.enc r)) (fun x0z x0 x1 x5 => rounds Tryd.prog laws_szRowS.Cs (finish Tryd.prog [] Tryd.f89 [.v (.sl 169 a0z a0), .v (.int .i64 a1)]) 100000 k laws_szRowS.K0 (laws_szRowS.N0 x0z x0 x1 x5)) k a0z a0 a1 := by kernel_rfl
theorem laws_szRowS.s0 (k : Nat) (G : List Fr → St → Option Res) (a0z : Bool) (a0 : List T) (a1 : Int) (yx0z : Bool) (yx0 : List T) (yx1 : Int) (yx5 : Int) : resume Tryd.prog (laws_szRowS.Cs k) G (finish Tryd.prog [] Tryd.f89 [.v (.sl 169 a0z a0), .v (.int .i64 a1)]) 100000 laws_szRowS.K0 (laws_szRowS.N0 yx0z yx0 yx1 yx5) = laws_szRowS.l0b (fun r => some (laws_szRowS.enc r)) (fun x0z x0 x1 x5 => G laws_szRowS.K0 (laws_szRowS.N0 x0z x0 x1 x5)) k yx0z yx0 yx1 yx5 := by kernel_rfl
theorem laws_szRowS.b_nat {R R' : Type} (e : R → R') (ret : Int → Option R) (j0 : Bool → (List T) → Int → Int → Option R) (k : Nat) (a0z : Bool) (a0 : List T) (a1 : Int) : laws_szRowS.b (fun r => (ret r).map e) (fun x0z x0 x1 x5 => (j0 x0z x0 x1 x5).map e) k a0z a0 a1 = (laws_szRowS.b ret j0 k a0z a0 a1).map e := by
  unfold laws_szRowS.b
  repeat' first | with_reducible refine nat_cond ?_ ?_ | with_reducible refine nat_bind fun _ => ?_ | rfl
theorem laws_szRowS.l0b_nat {R R' : Type} (e : R → R') (ret : Int → Option R) (j0 : Bool → (List T) → Int → Int → Option R) (k : Nat) (x0z : Bool) (x0 : List T) (x1 : Int) (x5 : Int) : laws_szRowS.l0b (fun r => (ret r).map e) (fun x0z x0 x1 x5 => (j0 x0z x0 x1 x5).map e) k x0z x0 x1 x5 = (laws_szRowS.l0b ret j0 k x0z x0 x1 x5).map e := by
  unfold laws_szRowS.l0b
  repeat' first | with_reducible refine nat_cond ?_ ?_ | with_reducible refine nat_bind fun _ => ?_ | rfl
theorem laws_szRowS.rounds_eq (a0z : Bool) (a0 : List T) (a1 : Int) : ∀ k, (∀ (x0z : Bool) (x0 : List T) (x1 : Int) (x5 : Int), rounds Tryd.prog laws_szRowS.Cs (finish Tryd.prog [] Tryd.f89 [.v (.sl 169 a0z a0), .v (.int .i64 a1)]) 100000 k laws_szRowS.K0 (laws_szRowS.N0 x0z x0 x1 x5) = (laws_szRowS.l0 k x0z x0 x1 x5).map laws_szRowS.enc)
  | 0 => fun _ _ _ _ => rfl
  | k + 1 => by
    have ih := laws_szRowS.rounds_eq a0z a0 a1 k
    refine fun _ _ _ _ => ?_
    · refine (laws_szRowS.s0 k _ a0z a0 a1 _ _ _ _).trans (Eq.trans ?_ (laws_szRowS.l0b_nat laws_szRowS.enc some (laws_szRowS.l0 k) k _ _ _ _))
      simp only [ih, Option.map_some]
theorem laws_szRowS.eq (k : Nat) (a0z : Bool) (a0 : List T) (a1 : Int) : answer Tryd.prog laws_szRowS.Cs 100000 laws_szRowS.cuts [] Tryd.f89 (k + 1) [.v (.sl 169 a0z a0), .v (.int .i64 a1)] = (laws_szRowS.f (k + 1) a0z a0 a1).map laws_szRowS.enc := by
  have ih := laws_szRowS.rounds_eq a0z a0 a1 k
  refine (laws_szRowS.s k a0z a0 a1).trans (Eq.trans ?_ (laws_szRowS.b_nat laws_szRowS.enc some (laws_szRowS.l0 k) k a0z a0 a1))
  simp only [ih, Option.map_some]
theorem laws_szRowS.sound (k : Nat) : SoundF Tryd.prog 89 (fun a => (laws_szRowS.ans k a).val) := by
  refine sound_plain (fun args res h => ?_) (fun t n => rfl)
  unfold laws_szRowS.ans at h
  dsimp only at h
  split at h
  · cases k with
    | zero => cases h
    | succ k =>
      unfold Ans.val at h
      rw [← laws_szRowS.eq] at h
      exact answer_sound mixed Tryd.func89 _ _ _ (k + 1) (fun j _ => tab_sound (tab_cons (laws_szRow.sound j) (tab_nil))) _ _ h
  · exact (Ans.no_val h).elim

/-! loop.example/g00790/laws.szTable -/
def laws_szTable.b {R : Type} (ret : Int → Option R) (k : Nat) (a0_0z : Bool) (a0_0 : List T) (a1 : Int) : Option R :=
  (laws_szRowS.f k a0_0z a0_0 a1).bind fun t0 => cond (decide (t0 < 0)) (ret (-1)) (ret t0)
def laws_szTable.f : Nat → Bool → (List T) → Int → Option Int
  | 0, _, _, _ => none
  | k + 1, a0_0z, a0_0, a1 => laws_szTable.b some k a0_0z a0_0 a1
def laws_szTable.enc (r : Int) : Res := ⟨[.vals false [((.int .i64 r), true)]], []⟩
def laws_szTable.ans (k : Nat) : List Arg → Ans
  | [.v (.agg [(.sl 169 a0_0z a0_0)]), .v (.int .i64 a1)] => ⟨laws_szTable.f k a0_0z a0_0 a1, laws_szTable.enc⟩
  | _ => Ans.no
def laws_szTable.Cs (k : Nat) : CallSem := tab [(89, laws_szRowS.ans k)]
def laws_szTable.cuts : List (Nat × Keep) := []
theorem laws_szTable.s (k : Nat) (a0_0z : Bool) (a0_0 : List T) (a1 : Int) : answer Tryd.prog laws_szTable.Cs 100000 laws_szTable.cuts [] Tryd.f46 (k + 1) [.v (.agg [(.sl 169 a0_0z a0_0)]), .v (.int .i64 a1)] = laws_szTable.b (fun r => some (laws_szTable.enc r)) k a0_0z a0_0 a1 := by kernel_rfl
theorem laws_szTable.b_nat {R R' : Type} (e : R → R') (ret : Int → Option R) (k : Nat) (a0_0z : Bool) (a0_0 : List T) (a1 : Int) : laws_szTable.b (fun r => (ret r).map e) k a0_0z a0_0 a1 = (laws_szTable.b ret k a0_0z a0_0 a1).map e := by
  unfold laws_szTable.b
  repeat' first | with_reducible refine nat_cond ?_ ?_ | with_reducible refine nat_bind fun _ => ?_ | rfl
theorem laws_szTable.eq (k : Nat) (a0_0z : Bool) (a0_0 : List T) (a1 : Int) : answer Tryd.prog laws_szTable.Cs 100000 laws_szTable.cuts [] Tryd.f46 (k + 1) [.v (.agg [(.sl 169 a0_0z a0_0)]), .v (.int .i64 a1)] = (laws_szTable.f (k + 1) a0_0z a0_0 a1).map laws_szTable.enc := by
  refine (laws_szTable.s k a0_0z a0_0 a1).trans (Eq.trans ?_ (laws_szTable.b_nat laws_szTable.enc some k a0_0z a0_0 a1))
  simp only [Option.map_some]
theorem laws_szTable.sound (k : Nat) : SoundF Tryd.prog 46 (fun a => (laws_szTable.ans k a).val) := by
  refine sound_plain (fun args res h => ?_) (fun t n => rfl)
  unfold laws_szTable.ans at h
  dsimp only at h
  split at h
  · cases k with
    | zero => cases h
    | succ k =>
      unfold Ans.val at h
      rw [← laws_szTable.eq] at h
      exact answer_sound mixed Tryd.func46 _ _ _ (k + 1) (fun j _ => tab_sound (tab_cons (laws_szRowS.sound j) (tab_nil))) _ _ h
  · exact (Ans.no_val h).elim

/-! loop.example/g00790/laws.toByteS -/
def laws_toByteS.b {R : Type} (ret : Bool × List Int → Option R) (j0 : Bool → (List Int) → (List Int) → Int → Option R) (k : Nat) (a0z : Bool) (a0 : List Int) : Option R :=
  cond (decide (((a0).length : Int) = ((a0).length : Int))) (cond (decide ((0 : Int) ≤ ((a0).length : Int))) (cond (decide ((a0).length < 140737488355328)) (j0 a0z a0 (List.replicate (a0).length (0 : Int)) 0) (none)) (none)) (none)
def laws_toByteS.l0b {R : Type} (ret : Bool × List Int → Option R) (j0 : Bool → (List Int) → (List Int) → Int → Option R) (k : Nat) (x0z : Bool) (x0 : List Int) (x3 : List Int) (x4 : Int) : Option R :=
  cond (decide (x4 < ((x0).length : Int))) (cond (decide ((0 : Int) ≤ x4)) (cond (decide (x4 < ((x0).length : Int))) (cond (decide ((0 : Int) ≤ x4)) (cond (decide (x4 < ((x3).length : Int))) (j0 x0z x0 ((x3).set (x4).toNat (rdI x0 x4)) (RowKit.wrap64 (x4 + 1))) (none)) (none)) (none)) (none)) (ret (false, x3))
def laws_toByteS.l0 : Nat → Bool → (List Int) → (List Int) → Int → Option (Bool × List Int)
  | 0, _, _, _, _ => none
  | k + 1, x0z, x0, x3, x4 => laws_toByteS.l0b some (laws_toByteS.l0 k) k x0z x0 x3 x4
def laws_toByteS.f : Nat → Bool → (List Int) → Option (Bool × List Int)
  | 0, _, _ => none
  | k + 1, a0z, a0 => laws_toByteS.b some (laws_toByteS.l0 k) k a0z a0
def laws_toByteS.enc (r : Bool × List Int) : Res := ⟨[.vals false [((.nums 5 .u8 r.1 r.2), true)]], []⟩
def laws_toByteS.ans (k : Nat) : List Arg → Ans
  | [.v (.nums 5 .u8 a0z a0)] => ⟨laws_toByteS.f k a0z a0, laws_toByteS.enc⟩
  | _ => Ans.no
def laws_toByteS.Cs (k : Nat) : CallSem := tab []
def laws_toByteS.cuts : List (Nat × Keep) := [(58, ⟨[(0, some []), (3, none), (4, some [])], []⟩)]
noncomputable def laws_toByteS.K0 : List Fr := framesAt [true, true, false, true, false] (bodyOf Tryd.f71 laws_toByteS.cuts) []
def laws_toByteS.N0 (x0z : Bool) (x0 : List Int) (x3 : List Int) (x4 : Int) : St := stOf 22 22 1 [(0, .val ⟨(.nums 5 .u8 x0z x0), [], false, none⟩), (3, .val ⟨(.nums 5 .u8 false x3), [.l 3 0], true, some (.l 3 0)⟩), (4, .val (V.s (.int .i64 x4)))] []
theorem laws_toByteS.s (k : Nat) (a0z : Bool) (a0 : List Int) : answer Tryd.prog laws_toByteS.Cs 100000 laws_toByteS.cuts [] Tryd.f71 (k + 1) [.v (.nums 5 .u8 a0z a0)] = laws_toByteS.b (fun r => some (laws_toByteS.enc r)) (fun x0z x0 x3 x4 => rounds Tryd.prog laws_toByteS.Cs (finish Tryd.prog [] Tryd.f71 [.v (.nums 5 .u8 a0z a0)]) 100000 k laws_toByteS.K0 (laws_toByteS.N0 x0z x0 x3 x4)) k a0z a0 := by kernel_rfl
theorem laws_toByteS.s0 (k : Nat) (G : List Fr → St → Option Res) (a0z : Bool) (a0 : List Int) (yx0z : Bool) (yx0 : List Int) (yx3 : List Int) (yx4 : Int) : resume Tryd.prog (laws_toByteS.Cs k) G (finish Tryd.prog [] Tryd.f71 [.v (.nums 5 .u8 a0z a0)]) 100000 laws_toByteS.K0 (laws_toByteS.N0 yx0z yx0 yx3 yx4) = laws_toByteS.l0b (fun r => some (laws_toByteS.enc r)) (fun x0z x0 x3 x4 => G laws_toByteS.K0 (laws_toByteS.N0 x0z x0 x3 x4)) k yx0z yx0 yx3 yx4 := by kernel_rfl
theorem laws_toByteS.b_nat {R R' : Type} (e : R → R') (ret : Bool × List Int → Option R) (j0 : Bool → (List Int) → (List Int) → Int → Option R) (k : Nat) (a0z : Bool) (a0 : List Int) : laws_toByteS.b (fun r => (ret r).map e) (fun x0z x0 x3 x4 => (j0 x0z x0 x3 x4).map e) k a0z a0 = (laws_toByteS.b ret j0 k a0z a0).map e := by
  unfold laws_toByteS.b
  repeat' first | with_reducible refine nat_cond ?_ ?_ | with_reducible refine nat_bind fun _ => ?_ | rfl
theorem laws_toByteS.l0b_nat {R R' : Type} (e : R → R') (ret : Bool × List Int → Option R) (j0 : Bool → (List Int) → (List Int) → Int → Option R) (k : Nat) (x0z : Bool) (x0 : List Int) (x3 : List Int) (x4 : Int) : laws_toByteS.l0b (fun r => (ret r).map e) (fun x0z x0 x3 x4 => (j0 x0z x0 x3 x4).map e) k x0z x0 x3 x4 = (laws_toByteS.l0b ret j0 k x0z x0 x3 x4).map e := by
  unfold laws_toByteS.l0b
  repeat' first | with_reducible refine nat_cond ?_ ?_ | with_reducible refine nat_bind fun _ => ?_ | rfl
theorem laws_toByteS.rounds_eq (a0z : Bool) (a0 : List Int) : ∀ k, (∀ (x0z : Bool) (x0 : List Int) (x3 : List Int) (x4 : Int), rounds Tryd.prog laws_toByteS.Cs (finish Tryd.prog [] Tryd.f71 [.v (.nums 5 .u8 a0z a0)]) 100000 k laws_toByteS.K0 (laws_toByteS.N0 x0z x0 x3 x4) = (laws_toByteS.l0 k x0z x0 x3 x4).map laws_toByteS.enc)
  | 0 => fun _ _ _ _ => rfl
  | k + 1 => by
    have ih := laws_toByteS.rounds_eq a0z a0 k
    refine fun _ _ _ _ => ?_
    · refine (laws_toByteS.s0 k _ a0z a0 _ _ _ _).trans (Eq.trans ?_ (laws_toByteS.l0b_nat laws_toByteS.enc some (laws_toByteS.l0 k) k _ _ _ _))
      simp only [ih, Option.map_some]
theorem laws_toByteS.eq (k : Nat) (a0z : Bool) (a0 : List Int) : answer Tryd.prog laws_toByteS.Cs 100000 laws_toByteS.cuts [] Tryd.f71 (k + 1) [.v (.nums 5 .u8 a0z a0)] = (laws_toByteS.f (k + 1) a0z a0).map laws_toByteS.enc := by
  have ih := laws_toByteS.rounds_eq a0z a0 k
  refine (laws_toByteS.s k a0z a0).trans (Eq.trans ?_ (laws_toByteS.b_nat laws_toByteS.enc some (laws_toByteS.l0 k) k a0z a0))
  simp only [ih, Option.map_some]
theorem laws_toByteS.sound (k : Nat) : SoundF Tryd.prog 71 (fun a => (laws_toByteS.ans k a).val) := by
  refine sound_plain (fun args res h => ?_) (fun t n => rfl)
  unfold laws_toByteS.ans at h
  dsimp only at h
  split at h
  · cases k with
    | zero => cases h
    | succ k =>
      unfold Ans.val at h
      rw [← laws_toByteS.eq] at h
      exact answer_sound mixed Tryd.func71 _ _ _ (k + 1) (fun j _ => tab_sound (tab_nil)) _ _ h
  · exact (Ans.no_val h).elim

/-! loop.example/g00790/laws.toRow -/
def laws_toRow.b {R : Type} (ret : Int × Bool × List Int → Option R) (k : Nat) (a0_0 : Int) (a0_1z : Bool) (a0_1 : List Int) : Option R :=
  (laws_toByteS.f k a0_1z a0_1).bind fun t0 => ret (a0_0, t0.1, t0.2)
def laws_toRow.f : Nat → Int → Bool → (List Int) → Option (Int × Bool × List Int)
  | 0, _, _, _ => none
  | k + 1, a0_0, a0_1z, a0_1 => laws_toRow.b some k a0_0 a0_1z a0_1
def laws_toRow.enc (r : Int × Bool × List Int) : Res := ⟨[.vals true [((.int .i64 r.1), true), ((.nums 5 .u8 r.2.1 r.2.2), true)]], []⟩
def laws_toRow.ans (k : Nat) : List Arg → Ans
  | [.v (.agg [(.int .i64 a0_0), (.nums 5 .u8 a0_1z a0_1)])] => ⟨laws_toRow.f k a0_0 a0_1z a0_1, laws_toRow.enc⟩
  | _ => Ans.no
def laws_toRow.Cs (k : Nat) : CallSem := tab [(71, laws_toByteS.ans k)]
def laws_toRow.cuts : List (Nat × Keep) := []
theorem laws_toRow.s (k : Nat) (a0_0 : Int) (a0_1z : Bool) (a0_1 : List Int) : answer Tryd.prog laws_toRow.Cs 100000 laws_toRow.cuts [] Tryd.f117 (k + 1) [.v (.agg [(.int .i64 a0_0), (.nums 5 .u8 a0_1z a0_1)])] = laws_toRow.b (fun r => some (laws_toRow.enc r)) k a0_0 a0_1z a0_1 := by kernel_rfl
theorem laws_toRow.b_nat {R R' : Type} (e : R → R') (ret : Int × Bool × List Int → Option R) (k : Nat) (a0_0 : Int) (a0_1z : Bool) (a0_1 : List Int) : laws_toRow.b (fun r => (ret r).map e) k a0_0 a0_1z a0_1 = (laws_toRow.b ret k a0_0 a0_1z a0_1).map e := by
  unfold laws_toRow.b
  repeat' first | with_reducible refine nat_cond ?_ ?_ | with_reducible refine nat_bind fun _ => ?_ | rfl
theorem laws_toRow.eq (k : Nat) (a0_0 : Int) (a0_1z : Bool) (a0_1 : List Int) : answer Tryd.prog laws_toRow.Cs 100000 laws_toRow.cuts [] Tryd.f117 (k + 1) [.v (.agg [(.int .i64 a0_0), (.nums 5 .u8 a0_1z a0_1)])] = (laws_toRow.f (k + 1) a0_0 a0_1z a0_1).map laws_toRow.enc := by
  refine (laws_toRow.s k a0_0 a0_1z a0_1).trans (Eq.trans ?_ (laws_toRow.b_nat laws_toRow.enc some k a0_0 a0_1z a0_1))
  simp only [Option.map_some]
theorem laws_toRow.sound (k : Nat) : SoundF Tryd.prog 117 (fun a => (laws_toRow.ans k a).val) := by
  refine sound_plain (fun args res h => ?_) (fun t n => rfl)
  unfold laws_toRow.ans at h
  dsimp only at h
  split at h
  · cases k with
    | zero => cases h
    | succ k =>
      unfold Ans.val at h
      rw [← laws_toRow.eq] at h
      exact answer_sound mixed Tryd.func117 _ _ _ (k + 1) (fun j _ => tab_sound (tab_cons (laws_toByteS.sound j) (tab_nil))) _ _ h
  · exact (Ans.no_val h).elim

/-! loop.example/g00790/laws.toRowS -/
def laws_toRowS.b {R : Type} (ret : Bool × List T → Option R) (j0 : Bool → (List T) → (List T) → Int → Option R) (k : Nat) (a0z : Bool) (a0 : List T) : Option R :=
  cond (decide (((a0).length : Int) = ((a0).length : Int))) (cond (decide ((0 : Int) ≤ ((a0).length : Int))) (cond (decide ((a0).length < 4398046511104)) (j0 a0z a0 (List.replicate (a0).length (.agg [(.int .i64 0), (.nums 5 .u8 true ([] : List Int))])) 0) (none)) (none)) (none)
def laws_toRowS.l0b {R : Type} (ret : Bool × List T → Option R) (j0 : Bool → (List T) → (List T) → Int → Option R) (k : Nat) (x0z : Bool) (x0 : List T) (x3 : List T) (x4 : Int) : Option R :=
  cond (decide (x4 < ((x0).length : Int))) (cond (decide ((0 : Int) ≤ x4)) (cond (decide (x4 < ((x0).length : Int))) ((laws_toRow.f k (((((x0).getD (x4).toNat .bad).cells.getD 0 .bad)).toInt) (((((x0).getD (x4).toNat .bad).cells.getD 1 .bad)).isNil) (((((x0).getD (x4).toNat .bad).cells.getD 1 .bad)).toNums)).bind fun t0 => cond (decide ((0 : Int) ≤ x4)) (cond (decide (x4 < ((x3).length : Int))) (j0 x0z x0 ((x3).set (x4).toNat (.agg [(.int .i64 t0.1), (.nums 5 .u8 t0.2.1 t0.2.2)])) (RowKit.wrap64 (x4 + 1))) (none)) (none)) (none)) (none)) (ret (false, x3))
def laws_toRowS.l0 : Nat → Bool → (List T) → (List T) → Int → Option (Bool × List T)
  | 0, _, _, _, _ => none
  | k + 1, x0z, x0, x3, x4 => laws_toRowS.l0b some (laws_toRowS.l0 k) k x0z x0 x3 x4
def laws_toRowS.f : Nat → Bool → (List T) → Option (Bool × List T)
  | 0, _, _ => none
  | k + 1, a0z, a0 => laws_toRowS.b some (laws_toRowS.l0 k) k a0z a0
def laws_toRowS.enc (r : Bool × List T) : Res := ⟨[.vals false [((.sl 140 r.1 r.2), true)]], []⟩
def laws_toRowS.ans (k : Nat) : List Arg → Ans
  | [.v (.sl 169 a0z a0)] => ⟨laws_toRowS.f k a0z a0, laws_toRowS.enc⟩
  | _ => Ans.no
def laws_toRowS.Cs (k : Nat) : CallSem := tab [(117, laws_toRow.ans k)]
def laws_toRowS.cuts : List (Nat × Keep) := [(58, ⟨[(0, some []), (3, none), (4, some [])], []⟩)]
noncomputable def laws_toRowS.K0 : List Fr := framesAt [true, true, false, true, false] (bodyOf Tryd.f91 laws_toRowS.cuts) []
def laws_toRowS.N0 (x0z : Bool) (x0 : List T) (x3 : List T) (x4 : Int) : St := stOf 23 23 1 [(0, .val ⟨(.sl 169 x0z x0), [], false, none⟩), (3, .val ⟨(.sl 140 false x3), [.l 3 0], true, some (.l 3 0)⟩), (4, .val (V.s (.int .i64 x4)))] []
theorem laws_toRowS.s (k : Nat) (a0z : Bool) (a0 : List T) : answer Tryd.prog laws_toRowS.Cs 100000 laws_toRowS.cuts [] Tryd.f91 (k + 1) [.v (.sl 169 a0z a0)] = laws_toRowS.b (fun r => some (laws_toRowS.enc r)) (fun x0z x0 x3 x4 => rounds Tryd.prog laws_toRowS.Cs (finish Tryd.prog [] Tryd.f91 [.v (.sl 169 a0z a0)]) 100000 k laws_toRowS.K0 (laws_toRowS.N0 x0z x0 x3 x4)) k a0z a0 := by kernel_rfl
theorem laws_toRowS.s0 (k : Nat) (G : List Fr → St → Option Res) (a0z : Bool) (a0 : List T) (yx0z : Bool) (yx0 : List T) (yx3 : List T) (yx4 : Int) : resume Tryd.prog (laws_toRowS.Cs k) G (finish Tryd.prog [] Tryd.f91 [.v (.sl 169 a0z a0)]) 100000 laws_toRowS.K0 (laws_toRowS.N0 yx0z yx0 yx3 yx4) = laws_toRowS.l0b (fun r => some (laws_toRowS.enc r)) (fun x0z x0 x3 x4 => G laws_toRowS.K0 (laws_toRowS.N0 x0z x0 x3 x4)) k yx0z yx0 yx3 yx4 := by kernel_rfl
theorem laws_toRowS.b_nat {R R' : Type} (e : R → R') (ret : Bool × List T → Option R) (j0 : Bool → (List T) → (List T) → Int → Option R) (k : Nat) (a0z : Bool) (a0 : List T) : laws_toRowS.b (fun r => (ret r).map e) (fun x0z x0 x3 x4 => (j0 x0z x0 x3 x4).map e) k a0z a0 = (laws_toRowS.b ret j0 k a0z a0).map e := by
  unfold laws_toRowS.b
  repeat' first | with_reducible refine nat_cond ?_ ?_ | with_reducible refine nat_bind fun _ => ?_ | rfl
theorem laws_toRowS.l0b_nat {R R' : Type} (e : R → R') (ret : Bool × List T → Option R) (j0 : Bool → (List T) → (List T) → Int → Option R) (k : Nat) (x0z : Bool) (x0 : List T) (x3 : List T) (x4 : Int) : laws_toRowS.l0b (fun r => (ret r).map e) (fun x0z x0 x3 x4 => (j0 x0z x0 x3 x4).map e) k x0z x0 x3 x4 = (laws_toRowS.l0b ret j0 k x0z x0 x3 x4).map e := by
  unfold laws_toRowS.l0b
  repeat' first | with_reducible refine nat_cond ?_ ?_ | with_reducible refine nat_bind fun _ => ?_ | rfl
theorem laws_toRowS.rounds_eq (a0z : Bool) (a0 : List T) : ∀ k, (∀ (x0z : Bool) (x0 : List T) (x3 : List T) (x4 : Int), rounds Tryd.prog laws_toRowS.Cs (finish Tryd.prog [] Tryd.f91 [.v (.sl 169 a0z a0)]) 100000 k laws_toRowS.K0 (laws_toRowS.N0 x0z x0 x3 x4) = (laws_toRowS.l0 k x0z x0 x3 x4).map laws_toRowS.enc)
  | 0 => fun _ _ _ _ => rfl
  | k + 1 => by
    have ih := laws_toRowS.rounds_eq a0z a0 k
    refine fun _ _ _ _ => ?_
    · refine (laws_toRowS.s0 k _ a0z a0 _ _ _ _).trans (Eq.trans ?_ (laws_toRowS.l0b_nat laws_toRowS.enc some (laws_toRowS.l0 k) k _ _ _ _))
      simp only [ih, Option.map_some]
theorem laws_toRowS.eq (k : Nat) (a0z : Bool) (a0 : List T) : answer Tryd.prog laws_toRowS.Cs 100000 laws_toRowS.cuts [] Tryd.f91 (k + 1) [.v (.sl 169 a0z a0)] = (laws_toRowS.f (k + 1) a0z a0).map laws_toRowS.enc := by
  have ih := laws_toRowS.rounds_eq a0z a0 k
  refine (laws_toRowS.s k a0z a0).trans (Eq.trans ?_ (laws_toRowS.b_nat laws_toRowS.enc some (laws_toRowS.l0 k) k a0z a0))
  simp only [ih, Option.map_some]
theorem laws_toRowS.sound (k : Nat) : SoundF Tryd.prog 91 (fun a => (laws_toRowS.ans k a).val) := by
  refine sound_plain (fun args res h => ?_) (fun t n => rfl)
  unfold laws_toRowS.ans at h
  dsimp only at h
  split at h
  · cases k with
    | zero => cases h
    | succ k =>
      unfold Ans.val at h
      rw [← laws_toRowS.eq] at h
      exact answer_sound mixed Tryd.func91 _ _ _ (k + 1) (fun j _ => tab_sound (tab_cons (laws_toRow.sound j) (tab_nil))) _ _ h
  · exact (Ans.no_val h).elim

/-! loop.example/g00790/laws.toTable -/
def laws_toTable.b {R : Type} (ret : Bool × List T → Option R) (k : Nat) (a0_0z : Bool) (a0_0 : List T) : Option R :=
  (laws_toRowS.f k a0_0z a0_0).bind fun t0 => ret (t0.1, t0.2)
def laws_toTable.f : Nat → Bool → (List T) → Option (Bool × List T)
  | 0, _, _ => none
  | k + 1, a0_0z, a0_0 => laws_toTable.b some k a0_0z a0_0
def laws_toTable.enc (r : Bool × List T) : Res := ⟨[.vals true [((.sl 140 r.1 r.2), true)]], []⟩
def laws_toTable.ans (k : Nat) : List Arg → Ans
  | [.v (.agg [(.sl 169 a0_0z a0_0)])] => ⟨laws_toTable.f k a0_0z a0_0, laws_toTable.enc⟩
  | _ => Ans.no
def laws_toTable.Cs (k : Nat) : CallSem := tab [(91, laws_toRowS.ans k)]
def laws_toTable.cuts : List (Nat × Keep) := []
theorem laws_toTable.s (k : Nat) (a0_0z : Bool) (a0_0 : List T) : answer Tryd.prog laws_toTable.Cs 100000 laws_toTable.cuts [] Tryd.f48 (k + 1) [.v (.agg [(.sl 169 a0_0z a0_0)])] = laws_toTable.b (fun r => some (laws_toTable.enc r)) k a0_0z a0_0 := by kernel_rfl
theorem laws_toTable.b_nat {R R' : Type} (e : R → R') (ret : Bool × List T → Option R) (k : Nat) (a0_0z : Bool) (a0_0 : List T) : laws_toTable.b (fun r => (ret r).map e) k a0_0z a0_0 = (laws_toTable.b ret k a0_0z a0_0).map e := by
  unfold laws_toTable.b
  repeat' first | with_reducible refine nat_cond ?_ ?_ | with_reducible refine nat_bind fun _ => ?_ | rfl
theorem laws_toTable.eq (k : Nat) (a0_0z : Bool) (a0_0 : List T) : answer Tryd.prog laws_toTable.Cs 100000 laws_toTable.cuts [] Tryd.f48 (k + 1) [.v (.agg [(.sl 169 a0_0z a0_0)])] = (laws_toTable.f (k + 1) a0_0z a0_0).map laws_toTable.enc := by
  refine (laws_toTable.s k a0_0z a0_0).trans (Eq.trans ?_ (laws_toTable.b_nat laws_toTable.enc some k a0_0z a0_0))
  simp only [Option.map_some]
theorem laws_toTable.sound (k : Nat) : SoundF Tryd.prog 48 (fun a => (laws_toTable.ans k a).val) := by
  refine sound_plain (fun args res h => ?_) (fun t n => rfl)
  unfold laws_toTable.ans at h
  dsimp only at h
  split at h
  · cases k with
    | zero => cases h
    | succ k =>
      unfold Ans.val at h
      rw [← laws_toTable.eq] at h
      exact answer_sound mixed Tryd.func48 _ _ _ (k + 1) (fun j _ => tab_sound (tab_cons (laws_toRowS.sound j) (tab_nil))) _ _ h
  · exact (Ans.no_val h).elim

/-! loop.example/g00790/spec.l01In -/
def spec_l01In.b {R : Type} (ret : Bool → Option R) (k : Nat) (a0 : Int) (a1 : Int) (a2 : Int) : Option R :=
  cond (decide (a0 ≥ a1)) (ret (decide (a0 ≤ a2))) (ret false)
def spec_l01In.f : Nat → Int → Int → Int → Option Bool
  | 0, _, _, _ => none
  | k + 1, a0, a1, a2 => spec_l01In.b some k a0 a1 a2
def spec_l01In.enc (r : Bool) : Res := ⟨[.vals false [((.bool r), true)]], []⟩
def spec_l01In.ans (k : Nat) : List Arg → Ans
  | [.v (.int .i64 a0), .v (.int .i64 a1), .v (.int .i64 a2)] => ⟨spec_l01In.f k a0 a1 a2, spec_l01In.enc⟩
  | _ => Ans.no
def spec_l01In.Cs (k : Nat) : CallSem := tab []
def spec_l01In.cuts : List (Nat × Keep) := []
theorem spec_l01In.s (k : Nat) (a0 : Int) (a1 : Int) (a2 : Int) : answer Tryd.prog spec_l01In.Cs 100000 spec_l01In.cuts [] Tryd.f107 (k + 1) [.v (.int .i64 a0), .v (.int .i64 a1), .v (.int .i64 a2)] = spec_l01In.b (fun r => some (spec_l01In.enc r)) k a0 a1 a2 := by kernel_rfl
theorem spec_l01In.b_nat {R R' : Type} (e : R → R') (ret : Bool → Option R) (k : Nat) (a0 : Int) (a1 : Int) (a2 : Int) : spec_l01In.b (fun r => (ret r).map e) k a0 a1 a2 = (spec_l01In.b ret k a0 a1 a2).map e := by
  unfold spec_l01In.b
  repeat' first | with_reducible refine nat_cond ?_ ?_ | with_reducible refine nat_bind fun _ => ?_ | rfl
theorem spec_l01In.eq (k : Nat) (a0 : Int) (a1 : Int) (a2 : Int) : answer Tryd.prog spec_l01In.Cs 100000 spec_l01In.cuts [] Tryd.f107 (k + 1) [.v (.int .i64 a0), .v (.int .i64 a1), .v (.int .i64 a2)] = (spec_l01In.f (k + 1) a0 a1 a2).map spec_l01In.enc := by
  refine (spec_l01In.s k a0 a1 a2).trans (Eq.trans ?_ (spec_l01In.b_nat spec_l01In.enc some k a0 a1 a2))
  simp only [Option.map_some]
theorem spec_l01In.sound (k : Nat) : SoundF Tryd.prog 107 (fun a => (spec_l01In.ans k a).val) := by
  refine sound_plain (fun args res h => ?_) (fun t n => rfl)
  unfold spec_l01In.ans at h
  dsimp only at h
  split at h
  · cases k with
    | zero => cases h
    | succ k =>
      unfold Ans.val at h
      rw [← spec_l01In.eq] at h
      exact answer_sound mixed Tryd.func107 _ _ _ (k + 1) (fun j _ => tab_sound (tab_nil)) _ _ h
  · exact (Ans.no_val h).elim

/-! loop.example/g00790/spec.l02Signers -/
def spec_l02Signers.b {R : Type} (ret : Bool → Option R) (k : Nat) (a0 : Int) : Option R :=
  (spec_l01In.f k a0 1 10).bind fun t0 => ret t0
def spec_l02Signers.f : Nat → Int → Option Bool
  | 0, _ => none
  | k + 1, a0 => spec_l02Signers.b some k a0
def spec_l02Signers.enc (r : Bool) : Res := ⟨[.vals false [((.bool r), true)]], []⟩
def spec_l02Signers.ans (k : Nat) : List Arg → Ans
  | [.v (.int .i64 a0)] => ⟨spec_l02Signers.f k a0, spec_l02Signers.enc⟩
  | _ => Ans.no
def spec_l02Signers.Cs (k : Nat) : CallSem := tab [(107, spec_l01In.ans k)]
def spec_l02Signers.cuts : List (Nat × Keep) := []
theorem spec_l02Signers.s (k : Nat) (a0 : Int) : answer Tryd.prog spec_l02Signers.Cs 100000 spec_l02Signers.cuts [] Tryd.f116 (k + 1) [.v (.int .i64 a0)] = spec_l02Signers.b (fun r => some (spec_l02Signers.enc r)) k a0 := by kernel_rfl
theorem spec_l02Signers.b_nat {R R' : Type} (e : R → R') (ret : Bool → Option R) (k : Nat) (a0 : Int) : spec_l02Signers.b (fun r => (ret r).map e) k a0 = (spec_l02Signers.b ret k a0).map e := by
  unfold spec_l02Signers.b
  repeat' first | with_reducible refine nat_cond ?_ ?_ | with_reducible refine nat_bind fun _ => ?_ | rfl
theorem spec_l02Signers.eq (k : Nat) (a0 : Int) : answer Tryd.prog spec_l02Signers.Cs 100000 spec_l02Signers.cuts [] Tryd.f116 (k + 1) [.v (.int .i64 a0)] = (spec_l02Signers.f (k + 1) a0).map spec_l02Signers.enc := by
  refine (spec_l02Signers.s k a0).trans (Eq.trans ?_ (spec_l02Signers.b_nat spec_l02Signers.enc some k a0))
  simp only [Option.map_some]
theorem spec_l02Signers.sound (k : Nat) : SoundF Tryd.prog 116 (fun a => (spec_l02Signers.ans k a).val) := by
  refine sound_plain (fun args res h => ?_) (fun t n => rfl)
  unfold spec_l02Signers.ans at h
  dsimp only at h
  split at h
  · cases k with
    | zero => cases h
    | succ k =>
      unfold Ans.val at h
      rw [← spec_l02Signers.eq] at h
      exact answer_sound mixed Tryd.func116 _ _ _ (k + 1) (fun j _ => tab_sound (tab_cons (spec_l01In.sound j) (tab_nil))) _ _ h
  · exact (Ans.no_val h).elim

/-! loop.example/g00790/spec.TableOk -/
def spec_TableOk.b {R : Type} (ret : Bool → Option R) (j0 : Bool → (List T) → Int → Int → Bool → (List T) → Option R) (k : Nat) (a0_0z : Bool) (a0_0 : List T) : Option R :=
  j0 a0_0z a0_0 ((a0_0).length : Int) 0 a0_0z a0_0
def spec_TableOk.l0b {R : Type} (ret : Bool → Option R) (j0 : Bool → (List T) → Int → Int → Bool → (List T) → Option R) (k : Nat) (x6z : Bool) (x6 : List T) (x7 : Int) (x8 : Int) (c1_0z : Bool) (c1_0 : List T) : Option R :=
  cond (decide (x8 < x7)) (cond (decide ((0 : Int) ≤ x8)) (cond (decide (x8 < ((x6).length : Int))) ((spec_l01In.f k (((((x6).getD (x8).toNat .bad).cells.getD 0 .bad)).toInt) 1 1099511627776).bind fun t0 => cond (!t0) (ret false) ((spec_l01In.f k ((((((x6).getD (x8).toNat .bad).cells.getD 1 .bad)).toNums).length : Int) 1 64).bind fun t1 => cond (!t1) (ret false) (j0 x6z x6 x7 (RowKit.wrap64 (x8 + 1)) c1_0z c1_0))) (none)) (none)) ((spec_l02Signers.f k ((c1_0).length : Int)).bind fun t0 => ret t0)
def spec_TableOk.l0 : Nat → Bool → (List T) → Int → Int → Bool → (List T) → Option Bool
  | 0, _, _, _, _, _, _ => none
  | k + 1, x6z, x6, x7, x8, c1_0z, c1_0 => spec_TableOk.l0b some (spec_TableOk.l0 k) k x6z x6 x7 x8 c1_0z c1_0
def spec_TableOk.f : Nat → Bool → (List T) → Option Bool
  | 0, _, _ => none
  | k + 1, a0_0z, a0_0 => spec_TableOk.b some (spec_TableOk.l0 k) k a0_0z a0_0
def spec_TableOk.enc (r : Bool) : Res := ⟨[.vals false [((.bool r), true)]], []⟩
def spec_TableOk.ans (k : Nat) : List Arg → Ans
  | [.v (.agg [(.sl 140 a0_0z a0_0)])] => ⟨spec_TableOk.f k a0_0z a0_0, spec_TableOk.enc⟩
  | _ => Ans.no
def spec_TableOk.Cs (k : Nat) : CallSem := tab [(107, spec_l01In.ans k), (116, spec_l02Signers.ans k)]
def spec_TableOk.cuts : List (Nat × Keep) := [(26, ⟨[(1, some []), (6, some []), (7, some []), (8, some [])], [(1, [some []])]⟩)]
noncomputable def spec_TableOk.K0 : List Fr := framesAt [true, false, true, false] (bodyOf Tryd.f90 spec_TableOk.cuts) []
def spec_TableOk.N0 (x6z : Bool) (x6 : List T) (x7 : Int) (x8 : Int) (c1_0z : Bool) (c1_0 : List T) : St := stOf 28 28 1 [(1, .bp 1 0), (6, .val ⟨(.sl 140 x6z x6), [], false, none⟩), (7, .val (V.s (.int .i64 x7))), (8, .val (V.s (.int .i64 x8)))] [(1, .cells [⟨(.sl 140 c1_0z c1_0), [], false, none⟩])]
theorem spec_TableOk.s (k : Nat) (a0_0z : Bool) (a0_0 : List T) : answer Tryd.prog spec_TableOk.Cs 100000 spec_TableOk.cuts [] Tryd.f90 (k + 1) [.v (.agg [(.sl 140 a0_0z a0_0)])] = spec_TableOk.b (fun r => some (spec_TableOk.enc r)) (fun x6z x6 x7 x8 c1_0z c1_0 => rounds Tryd.prog spec_TableOk.Cs (finish Tryd.prog [] Tryd.f90 [.v (.agg [(.sl 140 a0_0z a0_0)])]) 100000 k spec_TableOk.K0 (spec_TableOk.N0 x6z x6 x7 x8 c1_0z c1_0)) k a0_0z a0_0 := by kernel_rfl
theorem spec_TableOk.s0 (k : Nat) (G : List Fr → St → Option Res) (a0_0z : Bool) (a0_0 : List T) (yx6z : Bool) (yx6 : List T) (yx7 : Int) (yx8 : Int) (yc1_0z : Bool) (yc1_0 : List T) : resume Tryd.prog (spec_TableOk.Cs k) G (finish Tryd.prog [] Tryd.f90 [.v (.agg [(.sl 140 a0_0z a0_0)])]) 100000 spec_TableOk.K0 (spec_TableOk.N0 yx6z yx6 yx7 yx8 yc1_0z yc1_0) = spec_TableOk.l0b (fun r => some (spec_TableOk.enc r)) (fun x6z x6 x7 x8 c1_0z c1_0 => G spec_TableOk.K0 (spec_TableOk.N0 x6z x6 x7 x8 c1_0z c1_0)) k yx6z yx6 yx7 yx8 yc1_0z yc1_0 := by kernel_rfl
theorem spec_TableOk.b_nat {R R' : Type} (e : R → R') (ret : Bool → Option R) (j0 : Bool → (List T) → Int → Int → Bool → (List T) → Option R) (k : Nat) (a0_0z : Bool) (a0_0 : List T) : spec_TableOk.b (fun r => (ret r).map e) (fun x6z x6 x7 x8 c1_0z c1_0 => (j0 x6z x6 x7 x8 c1_0z c1_0).map e) k a0_0z a0_0 = (spec_TableOk.b ret j0 k a0_0z a0_0).map e := by
  unfold spec_TableOk.b
  repeat' first | with_reducible refine nat_cond ?_ ?_ | with_reducible refine nat_bind fun _ => ?_ | rfl
theorem spec_TableOk.l0b_nat {R R' : Type} (e : R → R') (ret : Bool → Option R) (j0 : Bool → (List T) → Int → Int → Bool → (List T) → Option R) (k : Nat) (x6z : Bool) (x6 : List T) (x7 : Int) (x8 : Int) (c1_0z : Bool) (c1_0 : List T) : spec_TableOk.l0b (fun r => (ret r).map e) (fun x6z x6 x7 x8 c1_0z c1_0 => (j0 x6z x6 x7 x8 c1_0z c1_0).map e) k x6z x6 x7 x8 c1_0z c1_0 = (spec_TableOk.l0b ret j0 k x6z x6 x7 x8 c1_0z c1_0).map e := by
  unfold spec_TableOk.l0b
  repeat' first | with_reducible refine nat_cond ?_ ?_ | with_reducible refine nat_bind fun _ => ?_ | rfl
theorem spec_TableOk.rounds_eq (a0_0z : Bool) (a0_0 : List T) : ∀ k, (∀ (x6z : Bool) (x6 : List T) (x7 : Int) (x8 : Int) (c1_0z : Bool) (c1_0 : List T), rounds Tryd.prog spec_TableOk.Cs (finish Tryd.prog [] Tryd.f90 [.v (.agg [(.sl 140 a0_0z a0_0)])]) 100000 k spec_TableOk.K0 (spec_TableOk.N0 x6z x6 x7 x8 c1_0z c1_0) = (spec_TableOk.l0 k x6z x6 x7 x8 c1_0z c1_0).map spec_TableOk.enc)
  | 0 => fun _ _ _ _ _ _ => rfl
  | k + 1 => by
    have ih := spec_TableOk.rounds_eq a0_0z a0_0 k
    refine fun _ _ _ _ _ _ => ?_
    · refine (spec_TableOk.s0 k _ a0_0z a0_0 _ _ _ _ _ _).trans (Eq.trans ?_ (spec_TableOk.l0b_nat spec_TableOk.enc some (spec_TableOk.l0 k) k _ _ _ _ _ _))
      simp only [ih, Option.map_some]
theorem spec_TableOk.eq (k : Nat) (a0_0z : Bool) (a0_0 : List T) : answer Tryd.prog spec_TableOk.Cs 100000 spec_TableOk.cuts [] Tryd.f90 (k + 1) [.v (.agg [(.sl 140 a0_0z a0_0)])] = (spec_TableOk.f (k + 1) a0_0z a0_0).map spec_TableOk.enc := by
  have ih := spec_TableOk.rounds_eq a0_0z a0_0 k
  refine (spec_TableOk.s k a0_0z a0_0).trans (Eq.trans ?_ (spec_TableOk.b_nat spec_TableOk.enc some (spec_TableOk.l0 k) k a0_0z a0_0))
  simp only [ih, Option.map_some]
theorem spec_TableOk.sound (k : Nat) : SoundF Tryd.prog 90 (fun a => (spec_TableOk.ans k a).val) := by
  refine sound_plain (fun args res h => ?_) (fun t n => rfl)
  unfold spec_TableOk.ans at h
  dsimp only at h
  split at h
  · cases k with
    | zero => cases h
    | succ k =>
      unfold Ans.val at h
      rw [← spec_TableOk.eq] at h
      exact answer_sound mixed Tryd.func90 _ _ _ (k + 1) (fun j _ => tab_sound (tab_cons (spec_l01In.sound j) (tab_cons (spec_l02Signers.sound j) (tab_nil)))) _ _ h
  · exact (Ans.no_val h).elim

/-! loop.example/g00790/spec.l01Num -/
def spec_l01Num.b {R : Type} (ret : Bool → Option R) (k : Nat) (a0 : Int) : Option R :=
  (spec_l01In.f k a0 0 1152921504606846975).bind fun t0 => ret t0
def spec_l01Num.f : Nat → Int → Option Bool
  | 0, _ => none
  | k + 1, a0 => spec_l01Num.b some k a0
def spec_l01Num.enc (r : Bool) : Res := ⟨[.vals false [((.bool r), true)]], []⟩
def spec_l01Num.ans (k : Nat) : List Arg → Ans
  | [.v (.int .i64 a0)] => ⟨spec_l01Num.f k a0, spec_l01Num.enc⟩
  | _ => Ans.no
def spec_l01Num.Cs (k : Nat) : CallSem := tab [(107, spec_l01In.ans k)]
def spec_l01Num.cuts : List (Nat × Keep) := []
theorem spec_l01Num.s (k : Nat) (a0 : Int) : answer Tryd.prog spec_l01Num.Cs 100000 spec_l01Num.cuts [] Tryd.f106 (k + 1) [.v (.int .i64 a0)] = spec_l01Num.b (fun r => some (spec_l01Num.enc r)) k a0 := by kernel_rfl
theorem spec_l01Num.b_nat {R R' : Type} (e : R → R') (ret : Bool → Option R) (k : Nat) (a0 : Int) : spec_l01Num.b (fun r => (ret r).map e) k a0 = (spec_l01Num.b ret k a0).map e := by
  unfold spec_l01Num.b
  repeat' first | with_reducible refine nat_cond ?_ ?_ | with_reducible refine nat_bind fun _ => ?_ | rfl
theorem spec_l01Num.eq (k : Nat) (a0 : Int) : answer Tryd.prog spec_l01Num.Cs 100000 spec_l01Num.cuts [] Tryd.f106 (k + 1) [.v (.int .i64 a0)] = (spec_l01Num.f (k + 1) a0).map spec_l01Num.enc := by
  refine (spec_l01Num.s k a0).trans (Eq.trans ?_ (spec_l01Num.b_nat spec_l01Num.enc some k a0))
  simp only [Option.map_some]
theorem spec_l01Num.sound (k : Nat) : SoundF Tryd.prog 106 (fun a => (spec_l01Num.ans k a).val) := by
  refine sound_plain (fun args res h => ?_) (fun t n => rfl)
  unfold spec_l01Num.ans at h
  dsimp only at h
  split at h
  · cases k with
    | zero => cases h
    | succ k =>
      unfold Ans.val at h
      rw [← spec_l01Num.eq] at h
      exact answer_sound mixed Tryd.func106 _ _ _ (k + 1) (fun j _ => tab_sound (tab_cons (spec_l01In.sound j) (tab_nil))) _ _ h
  · exact (Ans.no_val h).elim

/-! loop.example/g00790/spec.NumText -/
def spec_NumText.b {R : Type} (ret : ByteArray → Option R) (j0 : Int → ByteArray → Option R) (k : Nat) (a0 : Int) : Option R :=
  (spec_l01Num.f k a0).bind fun t0 => cond (!t0) (ret (⟨#[]⟩ : ByteArray)) (j0 a0 (⟨#[]⟩ : ByteArray))
def spec_NumText.l0b {R : Type} (ret : ByteArray → Option R) (j0 : Int → ByteArray → Option R) (k : Nat) (x0 : Int) (x3 : ByteArray) : Option R :=
  cond (decide (x0 > 9)) (cond (decide (((strOf ([(((RowKit.wrap64 ((48 : Int) + (Int.tmod x0 10)))) % 256)] : List Int))).size + (x3).size ≤ 140737488355328)) (j0 (RowKit.wrap64 (Int.tdiv x0 10)) ((strOf ([(((RowKit.wrap64 ((48 : Int) + (Int.tmod x0 10)))) % 256)] : List Int)) ++ x3)) (none)) (cond (decide (((strOf ([(((RowKit.wrap64 ((48 : Int) + x0))) % 256)] : List Int))).size + (x3).size ≤ 140737488355328)) (ret ((strOf ([(((RowKit.wrap64 ((48 : Int) + x0))) % 256)] : List Int)) ++ x3)) (none))
def spec_NumText.l0 : Nat → Int → ByteArray → Option ByteArray
  | 0, _, _ => none
  | k + 1, x0, x3 => spec_NumText.l0b some (spec_NumText.l0 k) k x0 x3
def spec_NumText.f : Nat → Int → Option ByteArray
  | 0, _ => none
  | k + 1, a0 => spec_NumText.b some (spec_NumText.l0 k) k a0
def spec_NumText.enc (r : ByteArray) : Res := ⟨[.vals false [((.str r), true)]], []⟩
def spec_NumText.ans (k : Nat) : List Arg → Ans
  | [.v (.int .i64 a0)] => ⟨spec_NumText.f k a0, spec_NumText.enc⟩
  | _ => Ans.no
def spec_NumText.Cs (k : Nat) : CallSem := tab [(106, spec_l01Num.ans k)]
def spec_NumText.cuts : List (Nat × Keep) := [(60, ⟨[(0, some []), (3, some [])], []⟩)]
noncomputable def spec_NumText.K0 : List Fr := framesAt [true, true, true, false, false] (bodyOf Tryd.f63 spec_NumText.cuts) []
def spec_NumText.N0 (x0 : Int) (x3 : ByteArray) : St := stOf 26 26 1 [(0, .val (V.s (.int .i64 x0))), (3, .val (V.s (.str x3)))] []
theorem spec_NumText.s (k : Nat) (a0 : Int) : answer Tryd.prog spec_NumText.Cs 100000 spec_NumText.cuts [] Tryd.f63 (k + 1) [.v (.int .i64 a0)] = spec_NumText.b (fun r => some (spec_NumText.enc r)) (fun x0 x3 => rounds Tryd.prog spec_NumText.Cs (finish Tryd.prog [] Tryd.f63 [.v (.int .i64 a0)]) 100000 k spec_NumText.K0 (spec_NumText.N0 x0 x3)) k a0 := by kernel_rfl
theorem spec_NumText.s0 (k : Nat) (G : List Fr → St → Option Res) (a0 : Int) (yx0 : Int) (yx3 : ByteArray) : resume Tryd.prog (spec_NumText.Cs k) G (finish Tryd.prog [] Tryd.f63 [.v (.int .i64 a0)]) 100000 spec_NumText.K0 (spec_NumText.N0 yx0 yx3) = spec_NumText.l0b (fun r => some (spec_NumText.enc r)) (fun x0 x3 => G spec_NumText.K0 (spec_NumText.N0 x0 x3)) k yx0 yx3 := by kernel_rfl
theorem spec_NumText.b_nat {R R' : Type} (e : R → R') (ret : ByteArray → Option R) (j0 : Int → ByteArray → Option R) (k : Nat) (a0 : Int) : spec_NumText.b (fun r => (ret r).map e) (fun x0 x3 => (j0 x0 x3).map e) k a0 = (spec_NumText.b ret j0 k a0).map e := by
  unfold spec_NumText.b
  repeat' first | with_reducible refine nat_cond ?_ ?_ | with_reducible refine nat_bind fun _ => ?_ | rfl
theorem spec_NumText.l0b_nat {R R' : Type} (e : R → R') (ret : ByteArray → Option R) (j0 : Int → ByteArray → Option R) (k : Nat) (x0 : Int) (x3 : ByteArray) : spec_NumText.l0b (fun r => (ret r).map e) (fun x0 x3 => (j0 x0 x3).map e) k x0 x3 = (spec_NumText.l0b ret j0 k x0 x3).map e := by
  unfold spec_NumText.l0b
  repeat' first | with_reducible refine nat_cond ?_ ?_ | with_reducible refine nat_bind fun _ => ?_ | rfl
theorem spec_NumText.rounds_eq (a0 : Int) : ∀ k, (∀ (x0 : Int) (x3 : ByteArray), rounds Tryd.prog spec_NumText.Cs (finish Tryd.prog [] Tryd.f63 [.v (.int .i64 a0)]) 100000 k spec_NumText.K0 (spec_NumText.N0 x0 x3) = (spec_NumText.l0 k x0 x3).map spec_NumText.enc)
  | 0 => fun _ _ => rfl
  | k + 1 => by
    have ih := spec_NumText.rounds_eq a0 k
    refine fun _ _ => ?_
    · refine (spec_NumText.s0 k _ a0 _ _).trans (Eq.trans ?_ (spec_NumText.l0b_nat spec_NumText.enc some (spec_NumText.l0 k) k _ _))
      simp only [ih, Option.map_some]
theorem spec_NumText.eq (k : Nat) (a0 : Int) : answer Tryd.prog spec_NumText.Cs 100000 spec_NumText.cuts [] Tryd.f63 (k + 1) [.v (.int .i64 a0)] = (spec_NumText.f (k + 1) a0).map spec_NumText.enc := by
  have ih := spec_NumText.rounds_eq a0 k
  refine (spec_NumText.s k a0).trans (Eq.trans ?_ (spec_NumText.b_nat spec_NumText.enc some (spec_NumText.l0 k) k a0))
  simp only [ih, Option.map_some]
theorem spec_NumText.sound (k : Nat) : SoundF Tryd.prog 63 (fun a => (spec_NumText.ans k a).val) := by
  refine sound_plain (fun args res h => ?_) (fun t n => rfl)
  unfold spec_NumText.ans at h
  dsimp only at h
  split at h
  · cases k with
    | zero => cases h
    | succ k =>
      unfold Ans.val at h
      rw [← spec_NumText.eq] at h
      exact answer_sound mixed Tryd.func63 _ _ _ (k + 1) (fun j _ => tab_sound (tab_cons (spec_l01Num.sound j) (tab_nil))) _ _ h
  · exact (Ans.no_val h).elim

/-! loop.example/g00790/spec.l01Hex -/
def spec_l01Hex.b {R : Type} (ret : Int → Option R) (k : Nat) (a0 : Int) : Option R :=
  cond (decide (a0 < 10)) (ret (((RowKit.wrap64 ((48 : Int) + a0))) % 256)) (ret (((RowKit.wrap64 ((87 : Int) + a0))) % 256))
def spec_l01Hex.f : Nat → Int → Option Int
  | 0, _ => none
  | k + 1, a0 => spec_l01Hex.b some k a0
def spec_l01Hex.enc (r : Int) : Res := ⟨[.vals false [((.int .u8 r), true)]], []⟩
def spec_l01Hex.ans (k : Nat) : List Arg → Ans
  | [.v (.int .i64 a0)] => ⟨spec_l01Hex.f k a0, spec_l01Hex.enc⟩
  | _ => Ans.no
def spec_l01Hex.Cs (k : Nat) : CallSem := tab []
def spec_l01Hex.cuts : List (Nat × Keep) := []
theorem spec_l01Hex.s (k : Nat) (a0 : Int) : answer Tryd.prog spec_l01Hex.Cs 100000 spec_l01Hex.cuts [] Tryd.f111 (k + 1) [.v (.int .i64 a0)] = spec_l01Hex.b (fun r => some (spec_l01Hex.enc r)) k a0 := by kernel_rfl
theorem spec_l01Hex.b_nat {R R' : Type} (e : R → R') (ret : Int → Option R) (k : Nat) (a0 : Int) : spec_l01Hex.b (fun r => (ret r).map e) k a0 = (spec_l01Hex.b ret k a0).map e := by
  unfold spec_l01Hex.b
  repeat' first | with_reducible refine nat_cond ?_ ?_ | with_reducible refine nat_bind fun _ => ?_ | rfl
theorem spec_l01Hex.eq (k : Nat) (a0 : Int) : answer Tryd.prog spec_l01Hex.Cs 100000 spec_l01Hex.cuts [] Tryd.f111 (k + 1) [.v (.int .i64 a0)] = (spec_l01Hex.f (k + 1) a0).map spec_l01Hex.enc := by
  refine (spec_l01Hex.s k a0).trans (Eq.trans ?_ (spec_l01Hex.b_nat spec_l01Hex.enc some k a0))
  simp only [Option.map_some]
theorem spec_l01Hex.sound (k : Nat) : SoundF Tryd.prog 111 (fun a => (spec_l01Hex.ans k a).val) := by
  refine sound_plain (fun args res h => ?_) (fun t n => rfl)
  unfold spec_l01Hex.ans at h
  dsimp only at h
  split at h
  · cases k with
    | zero => cases h
    | succ k =>
      unfold Ans.val at h
      rw [← spec_l01Hex.eq] at h
      exact answer_sound mixed Tryd.func111 _ _ _ (k + 1) (fun j _ => tab_sound (tab_nil)) _ _ h
  · exact (Ans.no_val h).elim

/-! loop.example/g00790/spec.HexText -/
def spec_HexText.b {R : Type} (ret : ByteArray → Option R) (j0 : (List Int) → Bool → (List Int) → Int → Int → Option R) (k : Nat) (a0z : Bool) (a0 : List Int) : Option R :=
  j0 ([] : List Int) a0z a0 ((a0).length : Int) 0
def spec_HexText.l0b {R : Type} (ret : ByteArray → Option R) (j0 : (List Int) → Bool → (List Int) → Int → Int → Option R) (k : Nat) (x3 : List Int) (x7z : Bool) (x7 : List Int) (x8 : Int) (x9 : Int) : Option R :=
  cond (decide (x9 < x8)) (cond (decide ((0 : Int) ≤ x9)) (cond (decide (x9 < ((x7).length : Int))) ((spec_l01Hex.f k (RowKit.wrap64 (Int.tdiv (RowKit.wrap64 ((rdI x7 x9))) 16))).bind fun t0 => (spec_l01Hex.f k (Int.tmod (RowKit.wrap64 ((rdI x7 x9))) 16)).bind fun t1 => cond (decide ((x3).length + 2 < 140737488355328)) (j0 (x3 ++ ([t0, t1] : List Int)) x7z x7 x8 (RowKit.wrap64 (x9 + 1))) (none)) (none)) (none)) (ret (strOf x3))
def spec_HexText.l0 : Nat → (List Int) → Bool → (List Int) → Int → Int → Option ByteArray
  | 0, _, _, _, _, _ => none
  | k + 1, x3, x7z, x7, x8, x9 => spec_HexText.l0b some (spec_HexText.l0 k) k x3 x7z x7 x8 x9
def spec_HexText.f : Nat → Bool → (List Int) → Option ByteArray
  | 0, _, _ => none
  | k + 1, a0z, a0 => spec_HexText.b some (spec_HexText.l0 k) k a0z a0
def spec_HexText.enc (r : ByteArray) : Res := ⟨[.vals false [((.str r), true)]], []⟩
def spec_HexText.ans (k : Nat) : List Arg → Ans
  | [.v (.nums 5 .u8 a0z a0)] => ⟨spec_HexText.f k a0z a0, spec_HexText.enc⟩
  | _ => Ans.no
def spec_HexText.Cs (k : Nat) : CallSem := tab [(111, spec_l01Hex.ans k)]
def spec_HexText.cuts : List (Nat × Keep) := [(58, ⟨[(3, none), (7, some []), (8, some []), (9, some [])], []⟩)]
noncomputable def spec_HexText.K0 : List Fr := framesAt [true, true, false, true, false] (bodyOf Tryd.f77 spec_HexText.cuts) []
def spec_HexText.N0 (x3 : List Int) (x7z : Bool) (x7 : List Int) (x8 : Int) (x9 : Int) : St := stOf 27 27 1 [(3, .val ⟨(.nums 5 .u8 false x3), [.l 3 0], true, some (.l 3 0)⟩), (7, .val ⟨(.nums 5 .u8 x7z x7), [], false, none⟩), (8, .val (V.s (.int .i64 x8))), (9, .val (V.s (.int .i64 x9)))] []
theorem spec_HexText.s (k : Nat) (a0z : Bool) (a0 : List Int) : answer Tryd.prog spec_HexText.Cs 100000 spec_HexText.cuts [] Tryd.f77 (k + 1) [.v (.nums 5 .u8 a0z a0)] = spec_HexText.b (fun r => some (spec_HexText.enc r)) (fun x3 x7z x7 x8 x9 => rounds Tryd.prog spec_HexText.Cs (finish Tryd.prog [] Tryd.f77 [.v (.nums 5 .u8 a0z a0)]) 100000 k spec_HexText.K0 (spec_HexText.N0 x3 x7z x7 x8 x9)) k a0z a0 := by kernel_rfl
theorem spec_HexText.s0 (k : Nat) (G : List Fr → St → Option Res) (a0z : Bool) (a0 : List Int) (yx3 : List Int) (yx7z : Bool) (yx7 : List Int) (yx8 : Int) (yx9 : Int) : resume Tryd.prog (spec_HexText.Cs k) G (finish Tryd.prog [] Tryd.f77 [.v (.nums 5 .u8 a0z a0)]) 100000 spec_HexText.K0 (spec_HexText.N0 yx3 yx7z yx7 yx8 yx9) = spec_HexText.l0b (fun r => some (spec_HexText.enc r)) (fun x3 x7z x7 x8 x9 => G spec_HexText.K0 (spec_HexText.N0 x3 x7z x7 x8 x9)) k yx3 yx7z yx7 yx8 yx9 := by kernel_rfl
theorem spec_HexText.b_nat {R R' : Type} (e : R → R') (ret : ByteArray → Option R) (j0 : (List Int) → Bool → (List Int) → Int → Int → Option R) (k : Nat) (a0z : Bool) (a0 : List Int) : spec_HexText.b (fun r => (ret r).map e) (fun x3 x7z x7 x8 x9 => (j0 x3 x7z x7 x8 x9).map e) k a0z a0 = (spec_HexText.b ret j0 k a0z a0).map e := by
  unfold spec_HexText.b
  repeat' first | with_reducible refine nat_cond ?_ ?_ | with_reducible refine nat_bind fun _ => ?_ | rfl
theorem spec_HexText.l0b_nat {R R' : Type} (e : R → R') (ret : ByteArray → Option R) (j0 : (List Int) → Bool → (List Int) → Int → Int → Option R) (k : Nat) (x3 : List Int) (x7z : Bool) (x7 : List Int) (x8 : Int) (x9 : Int) : spec_HexText.l0b (fun r => (ret r).map e) (fun x3 x7z x7 x8 x9 => (j0 x3 x7z x7 x8 x9).map e) k x3 x7z x7 x8 x9 = (spec_HexText.l0b ret j0 k x3 x7z x7 x8 x9).map e := by
  unfold spec_HexText.l0b
  repeat' first | with_reducible refine nat_cond ?_ ?_ | with_reducible refine nat_bind fun _ => ?_ | rfl
theorem spec_HexText.rounds_eq (a0z : Bool) (a0 : List Int) : ∀ k, (∀ (x3 : List Int) (x7z : Bool) (x7 : List Int) (x8 : Int) (x9 : Int), rounds Tryd.prog spec_HexText.Cs (finish Tryd.prog [] Tryd.f77 [.v (.nums 5 .u8 a0z a0)]) 100000 k spec_HexText.K0 (spec_HexText.N0 x3 x7z x7 x8 x9) = (spec_HexText.l0 k x3 x7z x7 x8 x9).map spec_HexText.enc)
  | 0 => fun _ _ _ _ _ => rfl
  | k + 1 => by
    have ih := spec_HexText.rounds_eq a0z a0 k
    refine fun _ _ _ _ _ => ?_
    · refine (spec_HexText.s0 k _ a0z a0 _ _ _ _ _).trans (Eq.trans ?_ (spec_HexText.l0b_nat spec_HexText.enc some (spec_HexText.l0 k) k _ _ _ _ _))
      simp only [ih, Option.map_some]
theorem spec_HexText.eq (k : Nat) (a0z : Bool) (a0 : List Int) : answer Tryd.prog spec_HexText.Cs 100000 spec_HexText.cuts [] Tryd.f77 (k + 1) [.v (.nums 5 .u8 a0z a0)] = (spec_HexText.f (k + 1) a0z a0).map spec_HexText.enc := by
  have ih := spec_HexText.rounds_eq a0z a0 k
  refine (spec_HexText.s k a0z a0).trans (Eq.trans ?_ (spec_HexText.b_nat spec_HexText.enc some (spec_HexText.l0 k) k a0z a0))
  simp only [ih, Option.map_some]
theorem spec_HexText.sound (k : Nat) : SoundF Tryd.prog 77 (fun a => (spec_HexText.ans k a).val) := by
  refine sound_plain (fun args res h => ?_) (fun t n => rfl)
  unfold spec_HexText.ans at h
  dsimp only at h
  split at h
  · cases k with
    | zero => cases h
    | succ k =>
      unfold Ans.val at h
      rw [← spec_HexText.eq] at h
      exact answer_sound mixed Tryd.func77 _ _ _ (k + 1) (fun j _ => tab_sound (tab_cons (spec_l01Hex.sound j) (tab_nil))) _ _ h
  · exact (Ans.no_val h).elim

/-! loop.example/g00790/spec.l29Join -/
def spec_l29Join.b {R : Type} (ret : ByteArray → Option R) (j0 : ByteArray → ByteArray → Bool → (List T) → Int → Int → Option R) (k : Nat) (a0z : Bool) (a0 : List T) (a1 : ByteArray) : Option R :=
  j0 a1 (⟨#[]⟩ : ByteArray) a0z a0 ((a0).length : Int) 0
def spec_l29Join.l0b {R : Type} (ret : ByteArray → Option R) (j0 : ByteArray → ByteArray → Bool → (List T) → Int → Int → Option R) (k : Nat) (x1 : ByteArray) (x5 : ByteArray) (x8z : Bool) (x8 : List T) (x9 : Int) (x10 : Int) : Option R :=
  cond (decide (x10 < x9)) (cond (decide ((0 : Int) ≤ x10)) (cond (decide (x10 < ((x8).length : Int))) (cond (decide (x10 > 0)) (cond (decide ((x5).size + (x1).size ≤ 140737488355328)) (cond (decide (((x5 ++ x1)).size + (((((x8).getD (x10).toNat .bad).cells.getD 0 .bad)).toStr).size ≤ 140737488355328)) (j0 x1 ((x5 ++ x1) ++ ((((x8).getD (x10).toNat .bad).cells.getD 0 .bad)).toStr) x8z x8 x9 (RowKit.wrap64 (x10 + 1))) (none)) (none)) (cond (decide ((x5).size + (((((x8).getD (x10).toNat .bad).cells.getD 0 .bad)).toStr).size ≤ 140737488355328)) (j0 x1 (x5 ++ ((((x8).getD (x10).toNat .bad).cells.getD 0 .bad)).toStr) x8z x8 x9 (RowKit.wrap64 (x10 + 1))) (none))) (none)) (none)) (ret x5)
def spec_l29Join.l0 : Nat → ByteArray → ByteArray → Bool → (List T) → Int → Int → Option ByteArray
  | 0, _, _, _, _, _, _ => none
  | k + 1, x1, x5, x8z, x8, x9, x10 => spec_l29Join.l0b some (spec_l29Join.l0 k) k x1 x5 x8z x8 x9 x10
def spec_l29Join.f : Nat → Bool → (List T) → ByteArray → Option ByteArray
  | 0, _, _, _ => none
  | k + 1, a0z, a0, a1 => spec_l29Join.b some (spec_l29Join.l0 k) k a0z a0 a1
def spec_l29Join.enc (r : ByteArray) : Res := ⟨[.vals false [((.str r), true)]], []⟩
def spec_l29Join.ans (k : Nat) : List Arg → Ans
  | [.v (.sl 9 a0z a0), .v (.str a1)] => ⟨spec_l29Join.f k a0z a0 a1, spec_l29Join.enc⟩
  | _ => Ans.no
def spec_l29Join.Cs (k : Nat) : CallSem := tab []
def spec_l29Join.cuts : List (Nat × Keep) := [(58, ⟨[(1, some []), (5, some []), (8, some []), (9, some []), (10, some [])], []⟩)]
noncomputable def spec_l29Join.K0 : List Fr := framesAt [true, true, false, true, false] (bodyOf Tryd.f82 spec_l29Join.cuts) []
def spec_l29Join.N0 (x1 : ByteArray) (x5 : ByteArray) (x8z : Bool) (x8 : List T) (x9 : Int) (x10 : Int) : St := stOf 25 25 2 [(1, .val (V.s (.str x1))), (5, .val (V.s (.str x5))), (8, .val ⟨(.sl 9 x8z x8), [], false, none⟩), (9, .val (V.s (.int .i64 x9))), (10, .val (V.s (.int .i64 x10)))] []
theorem spec_l29Join.s (k : Nat) (a0z : Bool) (a0 : List T) (a1 : ByteArray) : answer Tryd.prog spec_l29Join.Cs 100000 spec_l29Join.cuts [] Tryd.f82 (k + 1) [.v (.sl 9 a0z a0), .v (.str a1)] = spec_l29Join.b (fun r => some (spec_l29Join.enc r)) (fun x1 x5 x8z x8 x9 x10 => rounds Tryd.prog spec_l29Join.Cs (finish Tryd.prog [] Tryd.f82 [.v (.sl 9 a0z a0), .v (.str a1)]) 100000 k spec_l29Join.K0 (spec_l29Join.N0 x1 x5 x8z x8 x9 x10)) k a0z a0 a1 := by kernel_rfl
theorem spec_l29Join.s0 (k : Nat) (G : List Fr → St → Option Res) (a0z : Bool) (a0 : List T) (a1 : ByteArray) (yx1 : ByteArray) (yx5 : ByteArray) (yx8z : Bool) (yx8 : List T) (yx9 : Int) (yx10 : Int) : resume Tryd.prog (spec_l29Join.Cs k) G (finish Tryd.prog [] Tryd.f82 [.v (.sl 9 a0z a0), .v (.str a1)]) 100000 spec_l29Join.K0 (spec_l29Join.N0 yx1 yx5 yx8z yx8 yx9 yx10) = spec_l29Join.l0b (fun r => some (spec_l29Join.enc r)) (fun x1 x5 x8z x8 x9 x10 => G spec_l29Join.K0 (spec_l29Join.N0 x1 x5 x8z x8 x9 x10)) k yx1 yx5 yx8z yx8 yx9 yx10 := by kernel_rfl
theorem spec_l29Join.b_nat {R R' : Type} (e : R → R') (ret : ByteArray → Option R) (j0 : ByteArray → ByteArray → Bool → (List T) → Int → Int → Option R) (k : Nat) (a0z : Bool) (a0 : List T) (a1 : ByteArray) : spec_l29Join.b (fun r => (ret r).map e) (fun x1 x5 x8z x8 x9 x10 => (j0 x1 x5 x8z x8 x9 x10).map e) k a0z a0 a1 = (spec_l29Join.b ret j0 k a0z a0 a1).map e := by
  unfold spec_l29Join.b
  repeat' first | with_reducible refine nat_cond ?_ ?_ | with_reducible refine nat_bind fun _ => ?_ | rfl
theorem spec_l29Join.l0b_nat {R R' : Type} (e : R → R') (ret : ByteArray → Option R) (j0 : ByteArray → ByteArray → Bool → (List T) → Int → Int → Option R) (k : Nat) (x1 : ByteArray) (x5 : ByteArray) (x8z : Bool) (x8 : List T) (x9 : Int) (x10 : Int) : spec_l29Join.l0b (fun r => (ret r).map e) (fun x1 x5 x8z x8 x9 x10 => (j0 x1 x5 x8z x8 x9 x10).map e) k x1 x5 x8z x8 x9 x10 = (spec_l29Join.l0b ret j0 k x1 x5 x8z x8 x9 x10).map e := by
  unfold spec_l29Join.l0b
  repeat' first | with_reducible refine nat_cond ?_ ?_ | with_reducible refine nat_bind fun _ => ?_ | rfl
theorem spec_l29Join.rounds_eq (a0z : Bool) (a0 : List T) (a1 : ByteArray) : ∀ k, (∀ (x1 : ByteArray) (x5 : ByteArray) (x8z : Bool) (x8 : List T) (x9 : Int) (x10 : Int), rounds Tryd.prog spec_l29Join.Cs (finish Tryd.prog [] Tryd.f82 [.v (.sl 9 a0z a0), .v (.str a1)]) 100000 k spec_l29Join.K0 (spec_l29Join.N0 x1 x5 x8z x8 x9 x10) = (spec_l29Join.l0 k x1 x5 x8z x8 x9 x10).map spec_l29Join.enc)
  | 0 => fun _ _ _ _ _ _ => rfl
  | k + 1 => by
    have ih := spec_l29Join.rounds_eq a0z a0 a1 k
    refine fun _ _ _ _ _ _ => ?_
    · refine (spec_l29Join.s0 k _ a0z a0 a1 _ _ _ _ _ _).trans (Eq.trans ?_ (spec_l29Join.l0b_nat spec_l29Join.enc some (spec_l29Join.l0 k) k _ _ _ _ _ _))
      simp only [ih, Option.map_some]
theorem spec_l29Join.eq (k : Nat) (a0z : Bool) (a0 : List T) (a1 : ByteArray) : answer Tryd.prog spec_l29Join.Cs 100000 spec_l29Join.cuts [] Tryd.f82 (k + 1) [.v (.sl 9 a0z a0), .v (.str a1)] = (spec_l29Join.f (k + 1) a0z a0 a1).map spec_l29Join.enc := by
  have ih := spec_l29Join.rounds_eq a0z a0 a1 k
  refine (spec_l29Join.s k a0z a0 a1).trans (Eq.trans ?_ (spec_l29Join.b_nat spec_l29Join.enc some (spec_l29Join.l0 k) k a0z a0 a1))
  simp only [ih, Option.map_some]
theorem spec_l29Join.sound (k : Nat) : SoundF Tryd.prog 82 (fun a => (spec_l29Join.ans k a).val) := by
  refine sound_plain (fun args res h => ?_) (fun t n => rfl)
  unfold spec_l29Join.ans at h
  dsimp only at h
  split at h
  · cases k with
    | zero => cases h
    | succ k =>
      unfold Ans.val at h
      rw [← spec_l29Join.eq] at h
      exact answer_sound mixed Tryd.func82 _ _ _ (k + 1) (fun j _ => tab_sound (tab_nil)) _ _ h
  · exact (Ans.no_val h).elim

/-! loop.example/g00790/spec.TableText -/
def spec_TableText.b {R : Type} (ret : ByteArray → Option R) (j0 : (List T) → Bool → (List T) → Int → Int → Option R) (k : Nat) (a0_0z : Bool) (a0_0 : List T) : Option R :=
  (spec_TableOk.f k a0_0z a0_0).bind fun t0 => cond (!t0) (ret (⟨#[]⟩ : ByteArray)) (j0 ([] : List T) a0_0z a0_0 ((a0_0).length : Int) 0)
def spec_TableText.l0b {R : Type} (ret : ByteArray → Option R) (j0 : (List T) → Bool → (List T) → Int → Int → Option R) (k : Nat) (x3 : List T) (x11z : Bool) (x11 : List T) (x12 : Int) (x13 : Int) : Option R :=
  cond (decide (x13 < x12)) (cond (decide ((0 : Int) ≤ x13)) (cond (decide (x13 < ((x11).length : Int))) ((spec_NumText.f k (((((x11).getD (x13).toNat .bad).cells.getD 0 .bad)).toInt)).bind fun t0 => cond (decide ((t0).size + ((⟨#[58]⟩ : ByteArray)).size ≤ 140737488355328)) ((spec_HexText.f k (((((x11).getD (x13).toNat .bad).cells.getD 1 .bad)).isNil) (((((x11).getD (x13).toNat .bad).cells.getD 1 .bad)).toNums)).bind fun t1 => cond (decide (((t0 ++ (⟨#[58]⟩ : ByteArray))).size + (t1).size ≤ 140737488355328)) (cond (decide ((x3).length + 1 < 8796093022208)) (j0 (x3 ++ ([(.str ((t0 ++ (⟨#[58]⟩ : ByteArray)) ++ t1))] : List T)) x11z x11 x12 (RowKit.wrap64 (x13 + 1))) (none)) (none)) (none)) (none)) (none)) ((spec_l29Join.f k false x3 (⟨#[44]⟩ : ByteArray)).bind fun t0 => cond (decide (((⟨#[116, 97, 98, 108, 101, 32]⟩ : ByteArray)).size + (t0).size ≤ 140737488355328)) (ret ((⟨#[116, 97, 98, 108, 101, 32]⟩ : ByteArray) ++ t0)) (none))
def spec_TableText.l0 : Nat → (List T) → Bool → (List T) → Int → Int → Option ByteArray
  | 0, _, _, _, _, _ => none
  | k + 1, x3, x11z, x11, x12, x13 => spec_TableText.l0b some (spec_TableText.l0 k) k x3 x11z x11 x12 x13
def spec_TableText.f : Nat → Bool → (List T) → Option ByteArray
  | 0, _, _ => none
  | k + 1, a0_0z, a0_0 => spec_TableText.b some (spec_TableText.l0 k) k a0_0z a0_0
def spec_TableText.enc (r : ByteArray) : Res := ⟨[.vals false [((.str r), true)]], []⟩
def spec_TableText.ans (k : Nat) : List Arg → Ans
  | [.v (.agg [(.sl 140 a0_0z a0_0)])] => ⟨spec_TableText.f k a0_0z a0_0, spec_TableText.enc⟩
  | _ => Ans.no
def spec_TableText.Cs (k : Nat) : CallSem := tab [(90, spec_TableOk.ans k), (63, spec_NumText.ans k), (77, spec_HexText.ans k), (82, spec_l29Join.ans k)]
def spec_TableText.cuts : List (Nat × Keep) := [(122, ⟨[(3, none), (11, some []), (12, some []), (13, some [])], []⟩)]
noncomputable def spec_TableText.K0 : List Fr := framesAt [true, true, true, false, true, false] (bodyOf Tryd.f47 spec_TableText.cuts) []
def spec_TableText.N0 (x3 : List T) (x11z : Bool) (x11 : List T) (x12 : Int) (x13 : Int) : St := stOf 32 32 1 [(3, .val ⟨(.sl 9 false x3), [.l 3 0], true, some (.l 3 0)⟩), (11, .val ⟨(.sl 140 x11z x11), [], false, none⟩), (12, .val (V.s (.int .i64 x12))), (13, .val (V.s (.int .i64 x13)))] []
theorem spec_TableText.s (k : Nat) (a0_0z : Bool) (a0_0 : List T) : answer Tryd.prog spec_TableText.Cs 100000 spec_TableText.cuts [] Tryd.f47 (k + 1) [.v (.agg [(.sl 140 a0_0z a0_0)])] = spec_TableText.b (fun r => some (spec_TableText.enc r)) (fun x3 x11z x11 x12 x13 => rounds Tryd.prog spec_TableText.Cs (finish Tryd.prog [] Tryd.f47 [.v (.agg [(.sl 140 a0_0z a0_0)])]) 100000 k spec_TableText.K0 (spec_TableText.N0 x3 x11z x11 x12 x13)) k a0_0z a0_0 := by kernel_rfl
theorem spec_TableText.s0 (k : Nat) (G : List Fr → St → Option Res) (a0_0z : Bool) (a0_0 : List T) (yx3 : List T) (yx11z : Bool) (yx11 : List T) (yx12 : Int) (yx13 : Int) : resume Tryd.prog (spec_TableText.Cs k) G (finish Tryd.prog [] Tryd.f47 [.v (.agg [(.sl 140 a0_0z a0_0)])]) 100000 spec_TableText.K0 (spec_TableText.N0 yx3 yx11z yx11 yx12 yx13) = spec_TableText.l0b (fun r => some (spec_TableText.enc r)) (fun x3 x11z x11 x12 x13 => G spec_TableText.K0 (spec_TableText.N0 x3 x11z x11 x12 x13)) k yx3 yx11z yx11 yx12 yx13 := by kernel_rfl
theorem spec_TableText.b_nat {R R' : Type} (e : R → R') (ret : ByteArray → Option R) (j0 : (List T) → Bool → (List T) → Int → Int → Option R) (k : Nat) (a0_0z : Bool) (a0_0 : List T) : spec_TableText.b (fun r => (ret r).map e) (fun x3 x11z x11 x12 x13 => (j0 x3 x11z x11 x12 x13).map e) k a0_0z a0_0 = (spec_TableText.b ret j0 k a0_0z a0_0).map e := by
  unfold spec_TableText.b
  repeat' first | with_reducible refine nat_cond ?_ ?_ | with_reducible refine nat_bind fun _ => ?_ | rfl
theorem spec_TableText.l0b_nat {R R' : Type} (e : R → R') (ret : ByteArray → Option R) (j0 : (List T) → Bool → (List T) → Int → Int → Option R) (k : Nat) (x3 : List T) (x11z : Bool) (x11 : List T) (x12 : Int) (x13 : Int) : spec_TableText.l0b (fun r => (ret r).map e) (fun x3 x11z x11 x12 x13 => (j0 x3 x11z x11 x12 x13).map e) k x3 x11z x11 x12 x13 = (spec_TableText.l0b ret j0 k x3 x11z x11 x12 x13).map e := by
  unfold spec_TableText.l0b
  repeat' first | with_reducible refine nat_cond ?_ ?_ | with_reducible refine nat_bind fun _ => ?_ | rfl
theorem spec_TableText.rounds_eq (a0_0z : Bool) (a0_0 : List T) : ∀ k, (∀ (x3 : List T) (x11z : Bool) (x11 : List T) (x12 : Int) (x13 : Int), rounds Tryd.prog spec_TableText.Cs (finish Tryd.prog [] Tryd.f47 [.v (.agg [(.sl 140 a0_0z a0_0)])]) 100000 k spec_TableText.K0 (spec_TableText.N0 x3 x11z x11 x12 x13) = (spec_TableText.l0 k x3 x11z x11 x12 x13).map spec_TableText.enc)
  | 0 => fun _ _ _ _ _ => rfl
  | k + 1 => by
    have ih := spec_TableText.rounds_eq a0_0z a0_0 k
    refine fun _ _ _ _ _ => ?_
    · refine (spec_TableText.s0 k _ a0_0z a0_0 _ _ _ _ _).trans (Eq.trans ?_ (spec_TableText.l0b_nat spec_TableText.enc some (spec_TableText.l0 k) k _ _ _ _ _))
      simp only [ih, Option.map_some]
theorem spec_TableText.eq (k : Nat) (a0_0z : Bool) (a0_0 : List T) : answer Tryd.prog spec_TableText.Cs 100000 spec_TableText.cuts [] Tryd.f47 (k + 1) [.v (.agg [(.sl 140 a0_0z a0_0)])] = (spec_TableText.f (k + 1) a0_0z a0_0).map spec_TableText.enc := by
  have ih := spec_TableText.rounds_eq a0_0z a0_0 k
  refine (spec_TableText.s k a0_0z a0_0).trans (Eq.trans ?_ (spec_TableText.b_nat spec_TableText.enc some (spec_TableText.l0 k) k a0_0z a0_0))
  simp only [ih, Option.map_some]
theorem spec_TableText.sound (k : Nat) : SoundF Tryd.prog 47 (fun a => (spec_TableText.ans k a).val) := by
  refine sound_plain (fun args res h => ?_) (fun t n => rfl)
  unfold spec_TableText.ans at h
  dsimp only at h
  split at h
  · cases k with
    | zero => cases h
    | succ k =>
      unfold Ans.val at h
      rw [← spec_TableText.eq] at h
      exact answer_sound mixed Tryd.func47 _ _ _ (k + 1) (fun j _ => tab_sound (tab_cons (spec_TableOk.sound j) (tab_cons (spec_NumText.sound j) (tab_cons (spec_HexText.sound j) (tab_cons (spec_l29Join.sound j) (tab_nil)))))) _ _ h
  · exact (Ans.no_val h).elim

/-! loop.example/g00790/impl.within -/
def impl_within.b {R : Type} (ret : Bool → Option R) (k : Nat) (a0 : Int) (a1 : Int) (a2 : Int) : Option R :=
  cond (decide (a1 ≤ a0)) (ret (decide (a0 ≤ a2))) (ret false)
def impl_within.f : Nat → Int → Int → Int → Option Bool
  | 0, _, _, _ => none
  | k + 1, a0, a1, a2 => impl_within.b some k a0 a1 a2
def impl_within.enc (r : Bool) : Res := ⟨[.vals false [((.bool r), true)]], []⟩
def impl_within.ans (k : Nat) : List Arg → Ans
  | [.v (.int .i64 a0), .v (.int .i64 a1), .v (.int .i64 a2)] => ⟨impl_within.f k a0 a1 a2, impl_within.enc⟩
  | _ => Ans.no
def impl_within.Cs (k : Nat) : CallSem := tab []
def impl_within.cuts : List (Nat × Keep) := []
theorem impl_within.s (k : Nat) (a0 : Int) (a1 : Int) (a2 : Int) : answer Tryd.prog impl_within.Cs 100000 impl_within.cuts [] Tryd.f105 (k + 1) [.v (.int .i64 a0), .v (.int .i64 a1), .v (.int .i64 a2)] = impl_within.b (fun r => some (impl_within.enc r)) k a0 a1 a2 := by kernel_rfl
theorem impl_within.b_nat {R R' : Type} (e : R → R') (ret : Bool → Option R) (k : Nat) (a0 : Int) (a1 : Int) (a2 : Int) : impl_within.b (fun r => (ret r).map e) k a0 a1 a2 = (impl_within.b ret k a0 a1 a2).map e := by
  unfold impl_within.b
  repeat' first | with_reducible refine nat_cond ?_ ?_ | with_reducible refine nat_bind fun _ => ?_ | rfl
theorem impl_within.eq (k : Nat) (a0 : Int) (a1 : Int) (a2 : Int) : answer Tryd.prog impl_within.Cs 100000 impl_within.cuts [] Tryd.f105 (k + 1) [.v (.int .i64 a0), .v (.int .i64 a1), .v (.int .i64 a2)] = (impl_within.f (k + 1) a0 a1 a2).map impl_within.enc := by
  refine (impl_within.s k a0 a1 a2).trans (Eq.trans ?_ (impl_within.b_nat impl_within.enc some k a0 a1 a2))
  simp only [Option.map_some]
theorem impl_within.sound (k : Nat) : SoundF Tryd.prog 105 (fun a => (impl_within.ans k a).val) := by
  refine sound_plain (fun args res h => ?_) (fun t n => rfl)
  unfold impl_within.ans at h
  dsimp only at h
  split at h
  · cases k with
    | zero => cases h
    | succ k =>
      unfold Ans.val at h
      rw [← impl_within.eq] at h
      exact answer_sound mixed Tryd.func105 _ _ _ (k + 1) (fun j _ => tab_sound (tab_nil)) _ _ h
  · exact (Ans.no_val h).elim

/-! loop.example/g00790/impl.TableOk -/
def impl_TableOk.b {R : Type} (ret : Bool → Option R) (j0 : Bool → (List T) → Int → Int → Bool → (List T) → Option R) (k : Nat) (a0_0z : Bool) (a0_0 : List T) : Option R :=
  j0 a0_0z a0_0 ((a0_0).length : Int) 0 a0_0z a0_0
def impl_TableOk.l0b {R : Type} (ret : Bool → Option R) (j0 : Bool → (List T) → Int → Int → Bool → (List T) → Option R) (k : Nat) (x6z : Bool) (x6 : List T) (x7 : Int) (x8 : Int) (c1_0z : Bool) (c1_0 : List T) : Option R :=
  cond (decide (x8 < x7)) (cond (decide ((0 : Int) ≤ x8)) (cond (decide (x8 < ((x6).length : Int))) ((impl_within.f k (((((x6).getD (x8).toNat .bad).cells.getD 0 .bad)).toInt) 1 1099511627776).bind fun t0 => cond (!t0) (ret false) ((impl_within.f k ((((((x6).getD (x8).toNat .bad).cells.getD 1 .bad)).toNums).length : Int) 1 64).bind fun t1 => cond (!t1) (ret false) (j0 x6z x6 x7 (RowKit.wrap64 (x8 + 1)) c1_0z c1_0))) (none)) (none)) ((impl_within.f k ((c1_0).length : Int) 1 10).bind fun t0 => ret t0)
def impl_TableOk.l0 : Nat → Bool → (List T) → Int → Int → Bool → (List T) → Option Bool
  | 0, _, _, _, _, _, _ => none
  | k + 1, x6z, x6, x7, x8, c1_0z, c1_0 => impl_TableOk.l0b some (impl_TableOk.l0 k) k x6z x6 x7 x8 c1_0z c1_0
def impl_TableOk.f : Nat → Bool → (List T) → Option Bool
  | 0, _, _ => none
  | k + 1, a0_0z, a0_0 => impl_TableOk.b some (impl_TableOk.l0 k) k a0_0z a0_0
def impl_TableOk.enc (r : Bool) : Res := ⟨[.vals false [((.bool r), true)]], []⟩
def impl_TableOk.ans (k : Nat) : List Arg → Ans
  | [.v (.agg [(.sl 140 a0_0z a0_0)])] => ⟨impl_TableOk.f k a0_0z a0_0, impl_TableOk.enc⟩
  | _ => Ans.no
def impl_TableOk.Cs (k : Nat) : CallSem := tab [(105, impl_within.ans k)]
def impl_TableOk.cuts : List (Nat × Keep) := [(26, ⟨[(1, some []), (6, some []), (7, some []), (8, some [])], [(1, [some []])]⟩)]
noncomputable def impl_TableOk.K0 : List Fr := framesAt [true, false, true, false] (bodyOf Tryd.f62 impl_TableOk.cuts) []
def impl_TableOk.N0 (x6z : Bool) (x6 : List T) (x7 : Int) (x8 : Int) (c1_0z : Bool) (c1_0 : List T) : St := stOf 28 28 1 [(1, .bp 1 0), (6, .val ⟨(.sl 140 x6z x6), [], false, none⟩), (7, .val (V.s (.int .i64 x7))), (8, .val (V.s (.int .i64 x8)))] [(1, .cells [⟨(.sl 140 c1_0z c1_0), [], false, none⟩])]
theorem impl_TableOk.s (k : Nat) (a0_0z : Bool) (a0_0 : List T) : answer Tryd.prog impl_TableOk.Cs 100000 impl_TableOk.cuts [] Tryd.f62 (k + 1) [.v (.agg [(.sl 140 a0_0z a0_0)])] = impl_TableOk.b (fun r => some (impl_TableOk.enc r)) (fun x6z x6 x7 x8 c1_0z c1_0 => rounds Tryd.prog impl_TableOk.Cs (finish Tryd.prog [] Tryd.f62 [.v (.agg [(.sl 140 a0_0z a0_0)])]) 100000 k impl_TableOk.K0 (impl_TableOk.N0 x6z x6 x7 x8 c1_0z c1_0)) k a0_0z a0_0 := by kernel_rfl
theorem impl_TableOk.s0 (k : Nat) (G : List Fr → St → Option Res) (a0_0z : Bool) (a0_0 : List T) (yx6z : Bool) (yx6 : List T) (yx7 : Int) (yx8 : Int) (yc1_0z : Bool) (yc1_0 : List T) : resume Tryd.prog (impl_TableOk.Cs k) G (finish Tryd.prog [] Tryd.f62 [.v (.agg [(.sl 140 a0_0z a0_0)])]) 100000 impl_TableOk.K0 (impl_TableOk.N0 yx6z yx6 yx7 yx8 yc1_0z yc1_0) = impl_TableOk.l0b (fun r => some (impl_TableOk.enc r)) (fun x6z x6 x7 x8 c1_0z c1_0 => G impl_TableOk.K0 (impl_TableOk.N0 x6z x6 x7 x8 c1_0z c1_0)) k yx6z yx6 yx7 yx8 yc1_0z yc1_0 := by kernel_rfl
theorem impl_TableOk.b_nat {R R' : Type} (e : R → R') (ret : Bool → Option R) (j0 : Bool → (List T) → Int → Int → Bool → (List T) → Option R) (k : Nat) (a0_0z : Bool) (a0_0 : List T) : impl_TableOk.b (fun r => (ret r).map e) (fun x6z x6 x7 x8 c1_0z c1_0 => (j0 x6z x6 x7 x8 c1_0z c1_0).map e) k a0_0z a0_0 = (impl_TableOk.b ret j0 k a0_0z a0_0).map e := by
  unfold impl_TableOk.b
  repeat' first | with_reducible refine nat_cond ?_ ?_ | with_reducible refine nat_bind fun _ => ?_ | rfl
theorem impl_TableOk.l0b_nat {R R' : Type} (e : R → R') (ret : Bool → Option R) (j0 : Bool → (List T) → Int → Int → Bool → (List T) → Option R) (k : Nat) (x6z : Bool) (x6 : List T) (x7 : Int) (x8 : Int) (c1_0z : Bool) (c1_0 : List T) : impl_TableOk.l0b (fun r => (ret r).map e) (fun x6z x6 x7 x8 c1_0z c1_0 => (j0 x6z x6 x7 x8 c1_0z c1_0).map e) k x6z x6 x7 x8 c1_0z c1_0 = (impl_TableOk.l0b ret j0 k x6z x6 x7 x8 c1_0z c1_0).map e := by
  unfold impl_TableOk.l0b
  repeat' first | with_reducible refine nat_cond ?_ ?_ | with_reducible refine nat_bind fun _ => ?_ | rfl
theorem impl_TableOk.rounds_eq (a0_0z : Bool) (a0_0 : List T) : ∀ k, (∀ (x6z : Bool) (x6 : List T) (x7 : Int) (x8 : Int) (c1_0z : Bool) (c1_0 : List T), rounds Tryd.prog impl_TableOk.Cs (finish Tryd.prog [] Tryd.f62 [.v (.agg [(.sl 140 a0_0z a0_0)])]) 100000 k impl_TableOk.K0 (impl_TableOk.N0 x6z x6 x7 x8 c1_0z c1_0) = (impl_TableOk.l0 k x6z x6 x7 x8 c1_0z c1_0).map impl_TableOk.enc)
  | 0 => fun _ _ _ _ _ _ => rfl
  | k + 1 => by
    have ih := impl_TableOk.rounds_eq a0_0z a0_0 k
    refine fun _ _ _ _ _ _ => ?_
    · refine (impl_TableOk.s0 k _ a0_0z a0_0 _ _ _ _ _ _).trans (Eq.trans ?_ (impl_TableOk.l0b_nat impl_TableOk.enc some (impl_TableOk.l0 k) k _ _ _ _ _ _))
      simp only [ih, Option.map_some]
theorem impl_TableOk.eq (k : Nat) (a0_0z : Bool) (a0_0 : List T) : answer Tryd.prog impl_TableOk.Cs 100000 impl_TableOk.cuts [] Tryd.f62 (k + 1) [.v (.agg [(.sl 140 a0_0z a0_0)])] = (impl_TableOk.f (k + 1) a0_0z a0_0).map impl_TableOk.enc := by
  have ih := impl_TableOk.rounds_eq a0_0z a0_0 k
  refine (impl_TableOk.s k a0_0z a0_0).trans (Eq.trans ?_ (impl_TableOk.b_nat impl_TableOk.enc some (impl_TableOk.l0 k) k a0_0z a0_0))
  simp only [ih, Option.map_some]
theorem impl_TableOk.sound (k : Nat) : SoundF Tryd.prog 62 (fun a => (impl_TableOk.ans k a).val) := by
  refine sound_plain (fun args res h => ?_) (fun t n => rfl)
  unfold impl_TableOk.ans at h
  dsimp only at h
  split at h
  · cases k with
    | zero => cases h
    | succ k =>
      unfold Ans.val at h
      rw [← impl_TableOk.eq] at h
      exact answer_sound mixed Tryd.func62 _ _ _ (k + 1) (fun j _ => tab_sound (tab_cons (impl_within.sound j) (tab_nil))) _ _ h
  · exact (Ans.no_val h).elim

/-! loop.example/g00790/impl.isNum -/
def impl_isNum.b {R : Type} (ret : Bool → Option R) (k : Nat) (a0 : Int) : Option R :=
  (impl_within.f k a0 0 1152921504606846975).bind fun t0 => ret t0
def impl_isNum.f : Nat → Int → Option Bool
  | 0, _ => none
  | k + 1, a0 => impl_isNum.b some k a0
def impl_isNum.enc (r : Bool) : Res := ⟨[.vals false [((.bool r), true)]], []⟩
def impl_isNum.ans (k : Nat) : List Arg → Ans
  | [.v (.int .i64 a0)] => ⟨impl_isNum.f k a0, impl_isNum.enc⟩
  | _ => Ans.no
def impl_isNum.Cs (k : Nat) : CallSem := tab [(105, impl_within.ans k)]
def impl_isNum.cuts : List (Nat × Keep) := []
theorem impl_isNum.s (k : Nat) (a0 : Int) : answer Tryd.prog impl_isNum.Cs 100000 impl_isNum.cuts [] Tryd.f108 (k + 1) [.v (.int .i64 a0)] = impl_isNum.b (fun r => some (impl_isNum.enc r)) k a0 := by kernel_rfl
theorem impl_isNum.b_nat {R R' : Type} (e : R → R') (ret : Bool → Option R) (k : Nat) (a0 : Int) : impl_isNum.b (fun r => (ret r).map e) k a0 = (impl_isNum.b ret k a0).map e := by
  unfold impl_isNum.b
  repeat' first | with_reducible refine nat_cond ?_ ?_ | with_reducible refine nat_bind fun _ => ?_ | rfl
theorem impl_isNum.eq (k : Nat) (a0 : Int) : answer Tryd.prog impl_isNum.Cs 100000 impl_isNum.cuts [] Tryd.f108 (k + 1) [.v (.int .i64 a0)] = (impl_isNum.f (k + 1) a0).map impl_isNum.enc := by
  refine (impl_isNum.s k a0).trans (Eq.trans ?_ (impl_isNum.b_nat impl_isNum.enc some k a0))
  simp only [Option.map_some]
theorem impl_isNum.sound (k : Nat) : SoundF Tryd.prog 108 (fun a => (impl_isNum.ans k a).val) := by
  refine sound_plain (fun args res h => ?_) (fun t n => rfl)
  unfold impl_isNum.ans at h
  dsimp only at h
  split at h
  · cases k with
    | zero => cases h
    | succ k =>
      unfold Ans.val at h
      rw [← impl_isNum.eq] at h
      exact answer_sound mixed Tryd.func108 _ _ _ (k + 1) (fun j _ => tab_sound (tab_cons (impl_within.sound j) (tab_nil))) _ _ h
  · exact (Ans.no_val h).elim

/-! strconv_Itoa -/
def strconv_Itoa.f (k : Nat) (a0 : Int) : Option ByteArray := cond (inI a0) (some (itoaB a0)) none
def strconv_Itoa.enc (r : ByteArray) : Res := ⟨[.vals false [((.str r), true)]], []⟩
def strconv_Itoa.ans (k : Nat) : List Arg → Ans
  | [.v (.int .i64 a0)] => ⟨strconv_Itoa.f k a0, strconv_Itoa.enc⟩
  | _ => Ans.no
theorem strconv_Itoa.sound (k : Nat) : SoundF Tryd.prog 109 (fun a => (strconv_Itoa.ans k a).val) := by
  refine sound_ext (fun _ _ => rfl) fun args res h => ?_
  unfold strconv_Itoa.ans at h
  split at h
  · exact ext_itoa lay_Itoa h
  · exact (Ans.no_val h).elim

/-! loop.example/g00790/impl.NumText -/
def impl_NumText.b {R : Type} (ret : ByteArray → Option R) (k : Nat) (a0 : Int) : Option R :=
  (impl_isNum.f k a0).bind fun t0 => cond (!t0) (ret (⟨#[]⟩ : ByteArray)) ((strconv_Itoa.f k a0).bind fun t1 => ret t1)
def impl_NumText.f : Nat → Int → Option ByteArray
  | 0, _ => none
  | k + 1, a0 => impl_NumText.b some k a0
def impl_NumText.enc (r : ByteArray) : Res := ⟨[.vals false [((.str r), true)]], []⟩
def impl_NumText.ans (k : Nat) : List Arg → Ans
  | [.v (.int .i64 a0)] => ⟨impl_NumText.f k a0, impl_NumText.enc⟩
  | _ => Ans.no
def impl_NumText.Cs (k : Nat) : CallSem := tab [(108, impl_isNum.ans k), (109, strconv_Itoa.ans k)]
def impl_NumText.cuts : List (Nat × Keep) := []
theorem impl_NumText.s (k : Nat) (a0 : Int) : answer Tryd.prog impl_NumText.Cs 100000 impl_NumText.cuts [] Tryd.f66 (k + 1) [.v (.int .i64 a0)] = impl_NumText.b (fun r => some (impl_NumText.enc r)) k a0 := by kernel_rfl
theorem impl_NumText.b_nat {R R' : Type} (e : R → R') (ret : ByteArray → Option R) (k : Nat) (a0 : Int) : impl_NumText.b (fun r => (ret r).map e) k a0 = (impl_NumText.b ret k a0).map e := by
  unfold impl_NumText.b
  repeat' first | with_reducible refine nat_cond ?_ ?_ | with_reducible refine nat_bind fun _ => ?_ | rfl
theorem impl_NumText.eq (k : Nat) (a0 : Int) : answer Tryd.prog impl_NumText.Cs 100000 impl_NumText.cuts [] Tryd.f66 (k + 1) [.v (.int .i64 a0)] = (impl_NumText.f (k + 1) a0).map impl_NumText.enc := by
  refine (impl_NumText.s k a0).trans (Eq.trans ?_ (impl_NumText.b_nat impl_NumText.enc some k a0))
  simp only [Option.map_some]
theorem impl_NumText.sound (k : Nat) : SoundF Tryd.prog 66 (fun a => (impl_NumText.ans k a).val) := by
  refine sound_plain (fun args res h => ?_) (fun t n => rfl)
  unfold impl_NumText.ans at h
  dsimp only at h
  split at h
  · cases k with
    | zero => cases h
    | succ k =>
      unfold Ans.val at h
      rw [← impl_NumText.eq] at h
      exact answer_sound mixed Tryd.func66 _ _ _ (k + 1) (fun j _ => tab_sound (tab_cons (impl_isNum.sound j) (tab_cons (strconv_Itoa.sound j) (tab_nil)))) _ _ h
  · exact (Ans.no_val h).elim

/-! loop.example/g00790/impl.HexText -/
def impl_HexText.b {R : Type} (ret : ByteArray → Option R) (j0 : (List Int) → Bool → (List Int) → Int → Int → Option R) (k : Nat) (a0z : Bool) (a0 : List Int) : Option R :=
  j0 ([] : List Int) a0z a0 ((a0).length : Int) 0
def impl_HexText.l0b {R : Type} (ret : ByteArray → Option R) (j0 : (List Int) → Bool → (List Int) → Int → Int → Option R) (k : Nat) (x3 : List Int) (x7z : Bool) (x7 : List Int) (x8 : Int) (x9 : Int) : Option R :=
  cond (decide (x9 < x8)) (cond (decide ((0 : Int) ≤ x9)) (cond (decide (x9 < ((x7).length : Int))) (cond (decide ((0 : Int) ≤ (shrI .u8 (rdI x7 x9) 4))) (cond (decide ((shrI .u8 (rdI x7 x9) 4) < (((⟨#[48, 49, 50, 51, 52, 53, 54, 55, 56, 57, 97, 98, 99, 100, 101, 102]⟩ : ByteArray)).size : Int))) (cond (decide ((0 : Int) ≤ (Go.bits .and .u8 (rdI x7 x9) 15))) (cond (decide ((Go.bits .and .u8 (rdI x7 x9) 15) < (((⟨#[48, 49, 50, 51, 52, 53, 54, 55, 56, 57, 97, 98, 99, 100, 101, 102]⟩ : ByteArray)).size : Int))) (cond (decide ((x3).length + 2 < 140737488355328)) (j0 (x3 ++ ([(btI (⟨#[48, 49, 50, 51, 52, 53, 54, 55, 56, 57, 97, 98, 99, 100, 101, 102]⟩ : ByteArray) (shrI .u8 (rdI x7 x9) 4)), (btI (⟨#[48, 49, 50, 51, 52, 53, 54, 55, 56, 57, 97, 98, 99, 100, 101, 102]⟩ : ByteArray) (Go.bits .and .u8 (rdI x7 x9) 15))] : List Int)) x7z x7 x8 (RowKit.wrap64 (x9 + 1))) (none)) (none)) (none)) (none)) (none)) (none)) (none)) (ret (strOf x3))
def impl_HexText.l0 : Nat → (List Int) → Bool → (List Int) → Int → Int → Option ByteArray
  | 0, _, _, _, _, _ => none
  | k + 1, x3, x7z, x7, x8, x9 => impl_HexText.l0b some (impl_HexText.l0 k) k x3 x7z x7 x8 x9
def impl_HexText.f : Nat → Bool → (List Int) → Option ByteArray
  | 0, _, _ => none
  | k + 1, a0z, a0 => impl_HexText.b some (impl_HexText.l0 k) k a0z a0
def impl_HexText.enc (r : ByteArray) : Res := ⟨[.vals false [((.str r), true)]], []⟩
def impl_HexText.ans (k : Nat) : List Arg → Ans
  | [.v (.nums 5 .u8 a0z a0)] => ⟨impl_HexText.f k a0z a0, impl_HexText.enc⟩
  | _ => Ans.no
def impl_HexText.Cs (k : Nat) : CallSem := tab []
def impl_HexText.cuts : List (Nat × Keep) := [(58, ⟨[(3, none), (7, some []), (8, some []), (9, some [])], []⟩)]
noncomputable def impl_HexText.K0 : List Fr := framesAt [true, true, false, true, false] (bodyOf Tryd.f79 impl_HexText.cuts) []
def impl_HexText.N0 (x3 : List Int) (x7z : Bool) (x7 : List Int) (x8 : Int) (x9 : Int) : St := stOf 25 25 1 [(3, .val ⟨(.nums 5 .u8 false x3), [.l 3 0], true, some (.l 3 0)⟩), (7, .val ⟨(.nums 5 .u8 x7z x7), [], false, none⟩), (8, .val (V.s (.int .i64 x8))), (9, .val (V.s (.int .i64 x9)))] []
theorem impl_HexText.s (k : Nat) (a0z : Bool) (a0 : List Int) : answer Tryd.prog impl_HexText.Cs 100000 impl_HexText.cuts [] Tryd.f79 (k + 1) [.v (.nums 5 .u8 a0z a0)] = impl_HexText.b (fun r => some (impl_HexText.enc r)) (fun x3 x7z x7 x8 x9 => rounds Tryd.prog impl_HexText.Cs (finish Tryd.prog [] Tryd.f79 [.v (.nums 5 .u8 a0z a0)]) 100000 k impl_HexText.K0 (impl_HexText.N0 x3 x7z x7 x8 x9)) k a0z a0 := by kernel_rfl
theorem impl_HexText.s0 (k : Nat) (G : List Fr → St → Option Res) (a0z : Bool) (a0 : List Int) (yx3 : List Int) (yx7z : Bool) (yx7 : List Int) (yx8 : Int) (yx9 : Int) : resume Tryd.prog (impl_HexText.Cs k) G (finish Tryd.prog [] Tryd.f79 [.v (.nums 5 .u8 a0z a0)]) 100000 impl_HexText.K0 (impl_HexText.N0 yx3 yx7z yx7 yx8 yx9) = impl_HexText.l0b (fun r => some (impl_HexText.enc r)) (fun x3 x7z x7 x8 x9 => G impl_HexText.K0 (impl_HexText.N0 x3 x7z x7 x8 x9)) k yx3 yx7z yx7 yx8 yx9 := by kernel_rfl
theorem impl_HexText.b_nat {R R' : Type} (e : R → R') (ret : ByteArray → Option R) (j0 : (List Int) → Bool → (List Int) → Int → Int → Option R) (k : Nat) (a0z : Bool) (a0 : List Int) : impl_HexText.b (fun r => (ret r).map e) (fun x3 x7z x7 x8 x9 => (j0 x3 x7z x7 x8 x9).map e) k a0z a0 = (impl_HexText.b ret j0 k a0z a0).map e := by
  unfold impl_HexText.b
  repeat' first | with_reducible refine nat_cond ?_ ?_ | with_reducible refine nat_bind fun _ => ?_ | rfl
theorem impl_HexText.l0b_nat {R R' : Type} (e : R → R') (ret : ByteArray → Option R) (j0 : (List Int) → Bool → (List Int) → Int → Int → Option R) (k : Nat) (x3 : List Int) (x7z : Bool) (x7 : List Int) (x8 : Int) (x9 : Int) : impl_HexText.l0b (fun r => (ret r).map e) (fun x3 x7z x7 x8 x9 => (j0 x3 x7z x7 x8 x9).map e) k x3 x7z x7 x8 x9 = (impl_HexText.l0b ret j0 k x3 x7z x7 x8 x9).map e := by
  unfold impl_HexText.l0b
  repeat' first | with_reducible refine nat_cond ?_ ?_ | with_reducible refine nat_bind fun _ => ?_ | rfl
theorem impl_HexText.rounds_eq (a0z : Bool) (a0 : List Int) : ∀ k, (∀ (x3 : List Int) (x7z : Bool) (x7 : List Int) (x8 : Int) (x9 : Int), rounds Tryd.prog impl_HexText.Cs (finish Tryd.prog [] Tryd.f79 [.v (.nums 5 .u8 a0z a0)]) 100000 k impl_HexText.K0 (impl_HexText.N0 x3 x7z x7 x8 x9) = (impl_HexText.l0 k x3 x7z x7 x8 x9).map impl_HexText.enc)
  | 0 => fun _ _ _ _ _ => rfl
  | k + 1 => by
    have ih := impl_HexText.rounds_eq a0z a0 k
    refine fun _ _ _ _ _ => ?_
    · refine (impl_HexText.s0 k _ a0z a0 _ _ _ _ _).trans (Eq.trans ?_ (impl_HexText.l0b_nat impl_HexText.enc some (impl_HexText.l0 k) k _ _ _ _ _))
      simp only [ih, Option.map_some]
theorem impl_HexText.eq (k : Nat) (a0z : Bool) (a0 : List Int) : answer Tryd.prog impl_HexText.Cs 100000 impl_HexText.cuts [] Tryd.f79 (k + 1) [.v (.nums 5 .u8 a0z a0)] = (impl_HexText.f (k + 1) a0z a0).map impl_HexText.enc := by
  have ih := impl_HexText.rounds_eq a0z a0 k
  refine (impl_HexText.s k a0z a0).trans (Eq.trans ?_ (impl_HexText.b_nat impl_HexText.enc some (impl_HexText.l0 k) k a0z a0))
  simp only [ih, Option.map_some]
theorem impl_HexText.sound (k : Nat) : SoundF Tryd.prog 79 (fun a => (impl_HexText.ans k a).val) := by
  refine sound_plain (fun args res h => ?_) (fun t n => rfl)
  unfold impl_HexText.ans at h
  dsimp only at h
  split at h
  · cases k with
    | zero => cases h
    | succ k =>
      unfold Ans.val at h
      rw [← impl_HexText.eq] at h
      exact answer_sound mixed Tryd.func79 _ _ _ (k + 1) (fun j _ => tab_sound (tab_nil)) _ _ h
  · exact (Ans.no_val h).elim

/-! strings_Join -/
def strings_Join.f (k : Nat) (a0z : Bool) (a0 : List T) (a1 : ByteArray) : Option ByteArray := cond (joinOk a0 a1) (some (joinB a0 a1)) none
def strings_Join.enc (r : ByteArray) : Res := ⟨[.vals false [((.str r), true)]], []⟩
def strings_Join.ans (k : Nat) : List Arg → Ans
  | [.v (.sl 9 a0z a0), .v (.str a1)] => ⟨strings_Join.f k a0z a0 a1, strings_Join.enc⟩
  | _ => Ans.no
theorem strings_Join.sound (k : Nat) : SoundF Tryd.prog 92 (fun a => (strings_Join.ans k a).val) := by
  refine sound_ext (fun _ _ => rfl) fun args res h => ?_
  unfold strings_Join.ans at h
  split at h
  · exact ext_join lay_Join (by kernel_rfl) h
  · exact (Ans.no_val h).elim

/-! loop.example/g00790/impl.TableText -/
def impl_TableText.b {R : Type} (ret : ByteArray → Option R) (j0 : (List T) → Bool → (List T) → Int → Int → Option R) (k : Nat) (a0_0z : Bool) (a0_0 : List T) : Option R :=
  (impl_TableOk.f k a0_0z a0_0).bind fun t0 => cond (!t0) (ret (⟨#[]⟩ : ByteArray)) (j0 ([] : List T) a0_0z a0_0 ((a0_0).length : Int) 0)
def impl_TableText.l0b {R : Type} (ret : ByteArray → Option R) (j0 : (List T) → Bool → (List T) → Int → Int → Option R) (k : Nat) (x3 : List T) (x11z : Bool) (x11 : List T) (x12 : Int) (x13 : Int) : Option R :=
  cond (decide (x13 < x12)) (cond (decide ((0 : Int) ≤ x13)) (cond (decide (x13 < ((x11).length : Int))) ((impl_NumText.f k (((((x11).getD (x13).toNat .bad).cells.getD 0 .bad)).toInt)).bind fun t0 => cond (decide ((t0).size + ((⟨#[58]⟩ : ByteArray)).size ≤ 140737488355328)) ((impl_HexText.f k (((((x11).getD (x13).toNat .bad).cells.getD 1 .bad)).isNil) (((((x11).getD (x13).toNat .bad).cells.getD 1 .bad)).toNums)).bind fun t1 => cond (decide (((t0 ++ (⟨#[58]⟩ : ByteArray))).size + (t1).size ≤ 140737488355328)) (cond (decide ((x3).length + 1 < 8796093022208)) (j0 (x3 ++ ([(.str ((t0 ++ (⟨#[58]⟩ : ByteArray)) ++ t1))] : List T)) x11z x11 x12 (RowKit.wrap64 (x13 + 1))) (none)) (none)) (none)) (none)) (none)) ((strings_Join.f k false x3 (⟨#[44]⟩ : ByteArray)).bind fun t0 => cond (decide (((⟨#[116, 97, 98, 108, 101, 32]⟩ : ByteArray)).size + (t0).size ≤ 140737488355328)) (ret ((⟨#[116, 97, 98, 108, 101, 32]⟩ : ByteArray) ++ t0)) (none))
def impl_TableText.l0 : Nat → (List T) → Bool → (List T) → Int → Int → Option ByteArray
  | 0, _, _, _, _, _ => none
  | k + 1, x3, x11z, x11, x12, x13 => impl_TableText.l0b some (impl_TableText.l0 k) k x3 x11z x11 x12 x13
def impl_TableText.f : Nat → Bool → (List T) → Option ByteArray
  | 0, _, _ => none
  | k + 1, a0_0z, a0_0 => impl_TableText.b some (impl_TableText.l0 k) k a0_0z a0_0
def impl_TableText.enc (r : ByteArray) : Res := ⟨[.vals false [((.str r), true)]], []⟩
def impl_TableText.ans (k : Nat) : List Arg → Ans
  | [.v (.agg [(.sl 140 a0_0z a0_0)])] => ⟨impl_TableText.f k a0_0z a0_0, impl_TableText.enc⟩
  | _ => Ans.no
def impl_TableText.Cs (k : Nat) : CallSem := tab [(62, impl_TableOk.ans k), (66, impl_NumText.ans k), (79, impl_HexText.ans k), (92, strings_Join.ans k)]
def impl_TableText.cuts : List (Nat × Keep) := [(122, ⟨[(3, none), (11, some []), (12, some []), (13, some [])], []⟩)]
noncomputable def impl_TableText.K0 : List Fr := framesAt [true, true, true, false, true, false] (bodyOf Tryd.f49 impl_TableText.cuts) []
def impl_TableText.N0 (x3 : List T) (x11z : Bool) (x11 : List T) (x12 : Int) (x13 : Int) : St := stOf 32 32 1 [(3, .val ⟨(.sl 9 false x3), [.l 3 0], true, some (.l 3 0)⟩), (11, .val ⟨(.sl 140 x11z x11), [], false, none⟩), (12, .val (V.s (.int .i64 x12))), (13, .val (V.s (.int .i64 x13)))] []
theorem impl_TableText.s (k : Nat) (a0_0z : Bool) (a0_0 : List T) : answer Tryd.prog impl_TableText.Cs 100000 impl_TableText.cuts [] Tryd.f49 (k + 1) [.v (.agg [(.sl 140 a0_0z a0_0)])] = impl_TableText.b (fun r => some (impl_TableText.enc r)) (fun x3 x11z x11 x12 x13 => rounds Tryd.prog impl_TableText.Cs (finish Tryd.prog [] Tryd.f49 [.v (.agg [(.sl 140 a0_0z a0_0)])]) 100000 k impl_TableText.K0 (impl_TableText.N0 x3 x11z x11 x12 x13)) k a0_0z a0_0 := by kernel_rfl
theorem impl_TableText.s0 (k : Nat) (G : List Fr → St → Option Res) (a0_0z : Bool) (a0_0 : List T) (yx3 : List T) (yx11z : Bool) (yx11 : List T) (yx12 : Int) (yx13 : Int) : resume Tryd.prog (impl_TableText.Cs k) G (finish Tryd.prog [] Tryd.f49 [.v (.agg [(.sl 140 a0_0z a0_0)])]) 100000 impl_TableText.K0 (impl_TableText.N0 yx3 yx11z yx11 yx12 yx13) = impl_TableText.l0b (fun r => some (impl_TableText.enc r)) (fun x3 x11z x11 x12 x13 => G impl_TableText.K0 (impl_TableText.N0 x3 x11z x11 x12 x13)) k yx3 yx11z yx11 yx12 yx13 := by kernel_rfl
theorem impl_TableText.b_nat {R R' : Type} (e : R → R') (ret : ByteArray → Option R) (j0 : (List T) → Bool → (List T) → Int → Int → Option R) (k : Nat) (a0_0z : Bool) (a0_0 : List T) : impl_TableText.b (fun r => (ret r).map e) (fun x3 x11z x11 x12 x13 => (j0 x3 x11z x11 x12 x13).map e) k a0_0z a0_0 = (impl_TableText.b ret j0 k a0_0z a0_0).map e := by
  unfold impl_TableText.b
  repeat' first | with_reducible refine nat_cond ?_ ?_ | with_reducible refine nat_bind fun _ => ?_ | rfl
theorem impl_TableText.l0b_nat {R R' : Type} (e : R → R') (ret : ByteArray → Option R) (j0 : (List T) → Bool → (List T) → Int → Int → Option R) (k : Nat) (x3 : List T) (x11z : Bool) (x11 : List T) (x12 : Int) (x13 : Int) : impl_TableText.l0b (fun r => (ret r).map e) (fun x3 x11z x11 x12 x13 => (j0 x3 x11z x11 x12 x13).map e) k x3 x11z x11 x12 x13 = (impl_TableText.l0b ret j0 k x3 x11z x11 x12 x13).map e := by
  unfold impl_TableText.l0b
  repeat' first | with_reducible refine nat_cond ?_ ?_ | with_reducible refine nat_bind fun _ => ?_ | rfl
theorem impl_TableText.rounds_eq (a0_0z : Bool) (a0_0 : List T) : ∀ k, (∀ (x3 : List T) (x11z : Bool) (x11 : List T) (x12 : Int) (x13 : Int), rounds Tryd.prog impl_TableText.Cs (finish Tryd.prog [] Tryd.f49 [.v (.agg [(.sl 140 a0_0z a0_0)])]) 100000 k impl_TableText.K0 (impl_TableText.N0 x3 x11z x11 x12 x13) = (impl_TableText.l0 k x3 x11z x11 x12 x13).map impl_TableText.enc)
  | 0 => fun _ _ _ _ _ => rfl
  | k + 1 => by
    have ih := impl_TableText.rounds_eq a0_0z a0_0 k
    refine fun _ _ _ _ _ => ?_
    · refine (impl_TableText.s0 k _ a0_0z a0_0 _ _ _ _ _).trans (Eq.trans ?_ (impl_TableText.l0b_nat impl_TableText.enc some (impl_TableText.l0 k) k _ _ _ _ _))
      simp only [ih, Option.map_some]
theorem impl_TableText.eq (k : Nat) (a0_0z : Bool) (a0_0 : List T) : answer Tryd.prog impl_TableText.Cs 100000 impl_TableText.cuts [] Tryd.f49 (k + 1) [.v (.agg [(.sl 140 a0_0z a0_0)])] = (impl_TableText.f (k + 1) a0_0z a0_0).map impl_TableText.enc := by
  have ih := impl_TableText.rounds_eq a0_0z a0_0 k
  refine (impl_TableText.s k a0_0z a0_0).trans (Eq.trans ?_ (impl_TableText.b_nat impl_TableText.enc some (impl_TableText.l0 k) k a0_0z a0_0))
  simp only [ih, Option.map_some]
theorem impl_TableText.sound (k : Nat) : SoundF Tryd.prog 49 (fun a => (impl_TableText.ans k a).val) := by
  refine sound_plain (fun args res h => ?_) (fun t n => rfl)
  unfold impl_TableText.ans at h
  dsimp only at h
  split at h
  · cases k with
    | zero => cases h
    | succ k =>
      unfold Ans.val at h
      rw [← impl_TableText.eq] at h
      exact answer_sound mixed Tryd.func49 _ _ _ (k + 1) (fun j _ => tab_sound (tab_cons (impl_TableOk.sound j) (tab_cons (impl_NumText.sound j) (tab_cons (impl_HexText.sound j) (tab_cons (strings_Join.sound j) (tab_nil)))))) _ _ h
  · exact (Ans.no_val h).elim

/-! loop.example/g00790/laws.eqByteS -/
def laws_eqByteS.b {R : Type} (ret : Bool → Option R) (j0 : Bool → (List Int) → Bool → (List Int) → Int → Option R) (k : Nat) (a0z : Bool) (a0 : List Int) (a1z : Bool) (a1 : List Int) : Option R :=
  cond (!(decide (((a0).length : Int) = ((a1).length : Int)))) (ret false) (j0 a0z a0 a1z a1 0)
def laws_eqByteS.l0b {R : Type} (ret : Bool → Option R) (j0 : Bool → (List Int) → Bool → (List Int) → Int → Option R) (k : Nat) (x0z : Bool) (x0 : List Int) (x1z : Bool) (x1 : List Int) (x5 : Int) : Option R :=
  cond (decide (x5 < ((x0).length : Int))) (cond (decide ((0 : Int) ≤ x5)) (cond (decide (x5 < ((x0).length : Int))) (cond (decide ((0 : Int) ≤ x5)) (cond (decide (x5 < ((x1).length : Int))) (cond (!(decide ((rdI x0 x5) = (rdI x1 x5)))) (ret false) (j0 x0z x0 x1z x1 (RowKit.wrap64 (x5 + 1)))) (none)) (none)) (none)) (none)) (ret true)
def laws_eqByteS.l0 : Nat → Bool → (List Int) → Bool → (List Int) → Int → Option Bool
  | 0, _, _, _, _, _ => none
  | k + 1, x0z, x0, x1z, x1, x5 => laws_eqByteS.l0b some (laws_eqByteS.l0 k) k x0z x0 x1z x1 x5
def laws_eqByteS.f : Nat → Bool → (List Int) → Bool → (List Int) → Option Bool
  | 0, _, _, _, _ => none
  | k + 1, a0z, a0, a1z, a1 => laws_eqByteS.b some (laws_eqByteS.l0 k) k a0z a0 a1z a1
def laws_eqByteS.enc (r : Bool) : Res := ⟨[.vals false [((.bool r), true)]], []⟩
def laws_eqByteS.ans (k : Nat) : List Arg → Ans
  | [.v (.nums 5 .u8 a0z a0), .v (.nums 5 .u8 a1z a1)] => ⟨laws_eqByteS.f k a0z a0 a1z a1, laws_eqByteS.enc⟩
  | _ => Ans.no
def laws_eqByteS.Cs (k : Nat) : CallSem := tab []
def laws_eqByteS.cuts : List (Nat × Keep) := [(58, ⟨[(0, some []), (1, some []), (5, some [])], []⟩)]
noncomputable def laws_eqByteS.K0 : List Fr := framesAt [true, true, false, true, false] (bodyOf Tryd.f74 laws_eqByteS.cuts) []
def laws_eqByteS.N0 (x0z : Bool) (x0 : List Int) (x1z : Bool) (x1 : List Int) (x5 : Int) : St := stOf 26 26 2 [(0, .val ⟨(.nums 5 .u8 x0z x0), [], false, none⟩), (1, .val ⟨(.nums 5 .u8 x1z x1), [], false, none⟩), (5, .val (V.s (.int .i64 x5)))] []
theorem laws_eqByteS.s (k : Nat) (a0z : Bool) (a0 : List Int) (a1z : Bool) (a1 : List Int) : answer Tryd.prog laws_eqByteS.Cs 100000 laws_eqByteS.cuts [] Tryd.f74 (k + 1) [.v (.nums 5 .u8 a0z a0), .v (.nums 5 .u8 a1z a1)] = laws_eqByteS.b (fun r => some (laws_eqByteS.enc r)) (fun x0z x0 x1z x1 x5 => rounds Tryd.prog laws_eqByteS.Cs (finish Tryd.prog [] Tryd.f74 [.v (.nums 5 .u8 a0z a0), .v (.nums 5 .u8 a1z a1)]) 100000 k laws_eqByteS.K0 (laws_eqByteS.N0 x0z x0 x1z x1 x5)) k a0z a0 a1z a1 := by kernel_rfl
theorem laws_eqByteS.s0 (k : Nat) (G : List Fr → St → Option Res) (a0z : Bool) (a0 : List Int) (a1z : Bool) (a1 : List Int) (yx0z : Bool) (yx0 : List Int) (yx1z : Bool) (yx1 : List Int) (yx5 : Int) : resume Tryd.prog (laws_eqByteS.Cs k) G (finish Tryd.prog [] Tryd.f74 [.v (.nums 5 .u8 a0z a0), .v (.nums 5 .u8 a1z a1)]) 100000 laws_eqByteS.K0 (laws_eqByteS.N0 yx0z yx0 yx1z yx1 yx5) = laws_eqByteS.l0b (fun r => some (laws_eqByteS.enc r)) (fun x0z x0 x1z x1 x5 => G laws_eqByteS.K0 (laws_eqByteS.N0 x0z x0 x1z x1 x5)) k yx0z yx0 yx1z yx1 yx5 := by kernel_rfl
theorem laws_eqByteS.b_nat {R R' : Type} (e : R → R') (ret : Bool → Option R) (j0 : Bool → (List Int) → Bool → (List Int) → Int → Option R) (k : Nat) (a0z : Bool) (a0 : List Int) (a1z : Bool) (a1 : List Int) : laws_eqByteS.b (fun r => (ret r).map e) (fun x0z x0 x1z x1 x5 => (j0 x0z x0 x1z x1 x5).map e) k a0z a0 a1z a1 = (laws_eqByteS.b ret j0 k a0z a0 a1z a1).map e := by
  unfold laws_eqByteS.b
  repeat' first | with_reducible refine nat_cond ?_ ?_ | with_reducible refine nat_bind fun _ => ?_ | rfl
theorem laws_eqByteS.l0b_nat {R R' : Type} (e : R → R') (ret : Bool → Option R) (j0 : Bool → (List Int) → Bool → (List Int) → Int → Option R) (k : Nat) (x0z : Bool) (x0 : List Int) (x1z : Bool) (x1 : List Int) (x5 : Int) : laws_eqByteS.l0b (fun r => (ret r).map e) (fun x0z x0 x1z x1 x5 => (j0 x0z x0 x1z x1 x5).map e) k x0z x0 x1z x1 x5 = (laws_eqByteS.l0b ret j0 k x0z x0 x1z x1 x5).map e := by
  unfold laws_eqByteS.l0b
  repeat' first | with_reducible refine nat_cond ?_ ?_ | with_reducible refine nat_bind fun _ => ?_ | rfl
theorem laws_eqByteS.rounds_eq (a0z : Bool) (a0 : List Int) (a1z : Bool) (a1 : List Int) : ∀ k, (∀ (x0z : Bool) (x0 : List Int) (x1z : Bool) (x1 : List Int) (x5 : Int), rounds Tryd.prog laws_eqByteS.Cs (finish Tryd.prog [] Tryd.f74 [.v (.nums 5 .u8 a0z a0), .v (.nums 5 .u8 a1z a1)]) 100000 k laws_eqByteS.K0 (laws_eqByteS.N0 x0z x0 x1z x1 x5) = (laws_eqByteS.l0 k x0z x0 x1z x1 x5).map laws_eqByteS.enc)
  | 0 => fun _ _ _ _ _ => rfl
  | k + 1 => by
    have ih := laws_eqByteS.rounds_eq a0z a0 a1z a1 k
    refine fun _ _ _ _ _ => ?_
    · refine (laws_eqByteS.s0 k _ a0z a0 a1z a1 _ _ _ _ _).trans (Eq.trans ?_ (laws_eqByteS.l0b_nat laws_eqByteS.enc some (laws_eqByteS.l0 k) k _ _ _ _ _))
      simp only [ih, Option.map_some]
theorem laws_eqByteS.eq (k : Nat) (a0z : Bool) (a0 : List Int) (a1z : Bool) (a1 : List Int) : answer Tryd.prog laws_eqByteS.Cs 100000 laws_eqByteS.cuts [] Tryd.f74 (k + 1) [.v (.nums 5 .u8 a0z a0), .v (.nums 5 .u8 a1z a1)] = (laws_eqByteS.f (k + 1) a0z a0 a1z a1).map laws_eqByteS.enc := by
  have ih := laws_eqByteS.rounds_eq a0z a0 a1z a1 k
  refine (laws_eqByteS.s k a0z a0 a1z a1).trans (Eq.trans ?_ (laws_eqByteS.b_nat laws_eqByteS.enc some (laws_eqByteS.l0 k) k a0z a0 a1z a1))
  simp only [ih, Option.map_some]
theorem laws_eqByteS.sound (k : Nat) : SoundF Tryd.prog 74 (fun a => (laws_eqByteS.ans k a).val) := by
  refine sound_plain (fun args res h => ?_) (fun t n => rfl)
  unfold laws_eqByteS.ans at h
  dsimp only at h
  split at h
  · cases k with
    | zero => cases h
    | succ k =>
      unfold Ans.val at h
      rw [← laws_eqByteS.eq] at h
      exact answer_sound mixed Tryd.func74 _ _ _ (k + 1) (fun j _ => tab_sound (tab_nil)) _ _ h
  · exact (Ans.no_val h).elim

/-! loop.example/g00790/laws.eqRow -/
def laws_eqRow.b {R : Type} (ret : Bool → Option R) (k : Nat) (a0_0 : Int) (a0_1z : Bool) (a0_1 : List Int) (a1_0 : Int) (a1_1z : Bool) (a1_1 : List Int) : Option R :=
  cond (!(decide (a0_0 = a1_0))) (ret false) ((laws_eqByteS.f k a0_1z a0_1 a1_1z a1_1).bind fun t0 => cond (!t0) (ret false) (ret true))
def laws_eqRow.f : Nat → Int → Bool → (List Int) → Int → Bool → (List Int) → Option Bool
  | 0, _, _, _, _, _, _ => none
  | k + 1, a0_0, a0_1z, a0_1, a1_0, a1_1z, a1_1 => laws_eqRow.b some k a0_0 a0_1z a0_1 a1_0 a1_1z a1_1
def laws_eqRow.enc (r : Bool) : Res := ⟨[.vals false [((.bool r), true)]], []⟩
def laws_eqRow.ans (k : Nat) : List Arg → Ans
  | [.v (.agg [(.int .i64 a0_0), (.nums 5 .u8 a0_1z a0_1)]), .v (.agg [(.int .i64 a1_0), (.nums 5 .u8 a1_1z a1_1)])] => ⟨laws_eqRow.f k a0_0 a0_1z a0_1 a1_0 a1_1z a1_1, laws_eqRow.enc⟩
  | _ => Ans.no
def laws_eqRow.Cs (k : Nat) : CallSem := tab [(74, laws_eqByteS.ans k)]
def laws_eqRow.cuts : List (Nat × Keep) := []
theorem laws_eqRow.s (k : Nat) (a0_0 : Int) (a0_1z : Bool) (a0_1 : List Int) (a1_0 : Int) (a1_1z : Bool) (a1_1 : List Int) : answer Tryd.prog laws_eqRow.Cs 100000 laws_eqRow.cuts [] Tryd.f121 (k + 1) [.v (.agg [(.int .i64 a0_0), (.nums 5 .u8 a0_1z a0_1)]), .v (.agg [(.int .i64 a1_0), (.nums 5 .u8 a1_1z a1_1)])] = laws_eqRow.b (fun r => some (laws_eqRow.enc r)) k a0_0 a0_1z a0_1 a1_0 a1_1z a1_1 := by kernel_rfl
theorem laws_eqRow.b_nat {R R' : Type} (e : R → R') (ret : Bool → Option R) (k : Nat) (a0_0 : Int) (a0_1z : Bool) (a0_1 : List Int) (a1_0 : Int) (a1_1z : Bool) (a1_1 : List Int) : laws_eqRow.b (fun r => (ret r).map e) k a0_0 a0_1z a0_1 a1_0 a1_1z a1_1 = (laws_eqRow.b ret k a0_0 a0_1z a0_1 a1_0 a1_1z a1_1).map e := by
  unfold laws_eqRow.b
  repeat' first | with_reducible refine nat_cond ?_ ?_ | with_reducible refine nat_bind fun _ => ?_ | rfl
theorem laws_eqRow.eq (k : Nat) (a0_0 : Int) (a0_1z : Bool) (a0_1 : List Int) (a1_0 : Int) (a1_1z : Bool) (a1_1 : List Int) : answer Tryd.prog laws_eqRow.Cs 100000 laws_eqRow.cuts [] Tryd.f121 (k + 1) [.v (.agg [(.int .i64 a0_0), (.nums 5 .u8 a0_1z a0_1)]), .v (.agg [(.int .i64 a1_0), (.nums 5 .u8 a1_1z a1_1)])] = (laws_eqRow.f (k + 1) a0_0 a0_1z a0_1 a1_0 a1_1z a1_1).map laws_eqRow.enc := by
  refine (laws_eqRow.s k a0_0 a0_1z a0_1 a1_0 a1_1z a1_1).trans (Eq.trans ?_ (laws_eqRow.b_nat laws_eqRow.enc some k a0_0 a0_1z a0_1 a1_0 a1_1z a1_1))
  simp only [Option.map_some]
theorem laws_eqRow.sound (k : Nat) : SoundF Tryd.prog 121 (fun a => (laws_eqRow.ans k a).val) := by
  refine sound_plain (fun args res h => ?_) (fun t n => rfl)
  unfold laws_eqRow.ans at h
  dsimp only at h
  split at h
  · cases k with
    | zero => cases h
    | succ k =>
      unfold Ans.val at h
      rw [← laws_eqRow.eq] at h
      exact answer_sound mixed Tryd.func121 _ _ _ (k + 1) (fun j _ => tab_sound (tab_cons (laws_eqByteS.sound j) (tab_nil))) _ _ h
  · exact (Ans.no_val h).elim

/-! loop.example/g00790/laws.eqRowS -/
def laws_eqRowS.b {R : Type} (ret : Bool → Option R) (j0 : Bool → (List T) → Bool → (List T) → Int → Option R) (k : Nat) (a0z : Bool) (a0 : List T) (a1z : Bool) (a1 : List T) : Option R :=
  cond (!(decide (((a0).length : Int) = ((a1).length : Int)))) (ret false) (j0 a0z a0 a1z a1 0)
def laws_eqRowS.l0b {R : Type} (ret : Bool → Option R) (j0 : Bool → (List T) → Bool → (List T) → Int → Option R) (k : Nat) (x0z : Bool) (x0 : List T) (x1z : Bool) (x1 : List T) (x5 : Int) : Option R :=
  cond (decide (x5 < ((x0).length : Int))) (cond (decide ((0 : Int) ≤ x5)) (cond (decide (x5 < ((x0).length : Int))) (cond (decide ((0 : Int) ≤ x5)) (cond (decide (x5 < ((x1).length : Int))) ((laws_eqRow.f k (((((x0).getD (x5).toNat .bad).cells.getD 0 .bad)).toInt) (((((x0).getD (x5).toNat .bad).cells.getD 1 .bad)).isNil) (((((x0).getD (x5).toNat .bad).cells.getD 1 .bad)).toNums) (((((x1).getD (x5).toNat .bad).cells.getD 0 .bad)).toInt) (((((x1).getD (x5).toNat .bad).cells.getD 1 .bad)).isNil) (((((x1).getD (x5).toNat .bad).cells.getD 1 .bad)).toNums)).bind fun t0 => cond (!t0) (ret false) (j0 x0z x0 x1z x1 (RowKit.wrap64 (x5 + 1)))) (none)) (none)) (none)) (none)) (ret true)
def laws_eqRowS.l0 : Nat → Bool → (List T) → Bool → (List T) → Int → Option Bool
  | 0, _, _, _, _, _ => none
  | k + 1, x0z, x0, x1z, x1, x5 => laws_eqRowS.l0b some (laws_eqRowS.l0 k) k x0z x0 x1z x1 x5
def laws_eqRowS.f : Nat → Bool → (List T) → Bool → (List T) → Option Bool
  | 0, _, _, _, _ => none
  | k + 1, a0z, a0, a1z, a1 => laws_eqRowS.b some (laws_eqRowS.l0 k) k a0z a0 a1z a1
def laws_eqRowS.enc (r : Bool) : Res := ⟨[.vals false [((.bool r), true)]], []⟩
def laws_eqRowS.ans (k : Nat) : List Arg → Ans
  | [.v (.sl 140 a0z a0), .v (.sl 140 a1z a1)] => ⟨laws_eqRowS.f k a0z a0 a1z a1, laws_eqRowS.enc⟩
  | _ => Ans.no
def laws_eqRowS.Cs (k : Nat) : CallSem := tab [(121, laws_eqRow.ans k)]
def laws_eqRowS.cuts : List (Nat × Keep) := [(58, ⟨[(0, some []), (1, some []), (5, some [])], []⟩)]
noncomputable def laws_eqRowS.K0 : List Fr := framesAt [true, true, false, true, false] (bodyOf Tryd.f93 laws_eqRowS.cuts) []
def laws_eqRowS.N0 (x0z : Bool) (x0 : List T) (x1z : Bool) (x1 : List T) (x5 : Int) : St := stOf 27 27 2 [(0, .val ⟨(.sl 140 x0z x0), [], false, none⟩), (1, .val ⟨(.sl 140 x1z x1), [], false, none⟩), (5, .val (V.s (.int .i64 x5)))] []
theorem laws_eqRowS.s (k : Nat) (a0z : Bool) (a0 : List T) (a1z : Bool) (a1 : List T) : answer Tryd.prog laws_eqRowS.Cs 100000 laws_eqRowS.cuts [] Tryd.f93 (k + 1) [.v (.sl 140 a0z a0), .v (.sl 140 a1z a1)] = laws_eqRowS.b (fun r => some (laws_eqRowS.enc r)) (fun x0z x0 x1z x1 x5 => rounds Tryd.prog laws_eqRowS.Cs (finish Tryd.prog [] Tryd.f93 [.v (.sl 140 a0z a0), .v (.sl 140 a1z a1)]) 100000 k laws_eqRowS.K0 (laws_eqRowS.N0 x0z x0 x1z x1 x5)) k a0z a0 a1z a1 := by kernel_rfl
theorem laws_eqRowS.s0 (k : Nat) (G : List Fr → St → Option Res) (a0z : Bool) (a0 : List T) (a1z : Bool) (a1 : List T) (yx0z : Bool) (yx0 : List T) (yx1z : Bool) (yx1 : List T) (yx5 : Int) : resume Tryd.prog (laws_eqRowS.Cs k) G (finish Tryd.prog [] Tryd.f93 [.v (.sl 140 a0z a0), .v (.sl 140 a1z a1)]) 100000 laws_eqRowS.K0 (laws_eqRowS.N0 yx0z yx0 yx1z yx1 yx5) = laws_eqRowS.l0b (fun r => some (laws_eqRowS.enc r)) (fun x0z x0 x1z x1 x5 => G laws_eqRowS.K0 (laws_eqRowS.N0 x0z x0 x1z x1 x5)) k yx0z yx0 yx1z yx1 yx5 := by kernel_rfl
theorem laws_eqRowS.b_nat {R R' : Type} (e : R → R') (ret : Bool → Option R) (j0 : Bool → (List T) → Bool → (List T) → Int → Option R) (k : Nat) (a0z : Bool) (a0 : List T) (a1z : Bool) (a1 : List T) : laws_eqRowS.b (fun r => (ret r).map e) (fun x0z x0 x1z x1 x5 => (j0 x0z x0 x1z x1 x5).map e) k a0z a0 a1z a1 = (laws_eqRowS.b ret j0 k a0z a0 a1z a1).map e := by
  unfold laws_eqRowS.b
  repeat' first | with_reducible refine nat_cond ?_ ?_ | with_reducible refine nat_bind fun _ => ?_ | rfl
theorem laws_eqRowS.l0b_nat {R R' : Type} (e : R → R') (ret : Bool → Option R) (j0 : Bool → (List T) → Bool → (List T) → Int → Option R) (k : Nat) (x0z : Bool) (x0 : List T) (x1z : Bool) (x1 : List T) (x5 : Int) : laws_eqRowS.l0b (fun r => (ret r).map e) (fun x0z x0 x1z x1 x5 => (j0 x0z x0 x1z x1 x5).map e) k x0z x0 x1z x1 x5 = (laws_eqRowS.l0b ret j0 k x0z x0 x1z x1 x5).map e := by
  unfold laws_eqRowS.l0b
  repeat' first | with_reducible refine nat_cond ?_ ?_ | with_reducible refine nat_bind fun _ => ?_ | rfl
theorem laws_eqRowS.rounds_eq (a0z : Bool) (a0 : List T) (a1z : Bool) (a1 : List T) : ∀ k, (∀ (x0z : Bool) (x0 : List T) (x1z : Bool) (x1 : List T) (x5 : Int), rounds Tryd.prog laws_eqRowS.Cs (finish Tryd.prog [] Tryd.f93 [.v (.sl 140 a0z a0), .v (.sl 140 a1z a1)]) 100000 k laws_eqRowS.K0 (laws_eqRowS.N0 x0z x0 x1z x1 x5) = (laws_eqRowS.l0 k x0z x0 x1z x1 x5).map laws_eqRowS.enc)
  | 0 => fun _ _ _ _ _ => rfl
  | k + 1 => by
    have ih := laws_eqRowS.rounds_eq a0z a0 a1z a1 k
    refine fun _ _ _ _ _ => ?_
    · refine (laws_eqRowS.s0 k _ a0z a0 a1z a1 _ _ _ _ _).trans (Eq.trans ?_ (laws_eqRowS.l0b_nat laws_eqRowS.enc some (laws_eqRowS.l0 k) k _ _ _ _ _))
      simp only [ih, Option.map_some]
theorem laws_eqRowS.eq (k : Nat) (a0z : Bool) (a0 : List T) (a1z : Bool) (a1 : List T) : answer Tryd.prog laws_eqRowS.Cs 100000 laws_eqRowS.cuts [] Tryd.f93 (k + 1) [.v (.sl 140 a0z a0), .v (.sl 140 a1z a1)] = (laws_eqRowS.f (k + 1) a0z a0 a1z a1).map laws_eqRowS.enc := by
  have ih := laws_eqRowS.rounds_eq a0z a0 a1z a1 k
  refine (laws_eqRowS.s k a0z a0 a1z a1).trans (Eq.trans ?_ (laws_eqRowS.b_nat laws_eqRowS.enc some (laws_eqRowS.l0 k) k a0z a0 a1z a1))
  simp only [ih, Option.map_some]
theorem laws_eqRowS.sound (k : Nat) : SoundF Tryd.prog 93 (fun a => (laws_eqRowS.ans k a).val) := by
  refine sound_plain (fun args res h => ?_) (fun t n => rfl)
  unfold laws_eqRowS.ans at h
  dsimp only at h
  split at h
  · cases k with
    | zero => cases h
    | succ k =>
      unfold Ans.val at h
      rw [← laws_eqRowS.eq] at h
      exact answer_sound mixed Tryd.func93 _ _ _ (k + 1) (fun j _ => tab_sound (tab_cons (laws_eqRow.sound j) (tab_nil))) _ _ h
  · exact (Ans.no_val h).elim

end Go.Proofs.YtjffolalgcmhaaaDoorG
