/- What the functions compute, printed by a program of this repo; each is shown to be what the machine of values answers. No condition. -/
import Derived.Test.YtjffolalgcmhaaaGreatDoorProg
import Derived.KernelRfl
import Derived.Test.YtjffolalgcmhaaaGreatDoorGFnExactMsgTexta
namespace Go.Proofs.YtjffolalgcmhaaaGreatDoorG
open Go Go.Proofs.YtjffolalgcmhaaaGreatDoorRv Go.Proofs
set_option linter.unusedVariables false
set_option linter.unusedSimpArgs false
/-! loop.example/g00790/laws.toTc -/
def laws_toTc.b {R : Type} (ret : Int × Bool × List T → Option R) (k : Nat) (a0_0 : Int) (a0_1z : Bool) (a0_1 : List T) : Option R :=
  (laws_toEntryS.f k a0_1z a0_1).bind fun t0 => ret (a0_0, t0.1, t0.2)
def laws_toTc.f : Nat → Int → Bool → (List T) → Option (Int × Bool × List T)
  | 0, _, _, _ => none
  | k + 1, a0_0, a0_1z, a0_1 => laws_toTc.b some k a0_0 a0_1z a0_1
def laws_toTc.enc (r : Int × Bool × List T) : Res := ⟨[.vals true [((.int .i64 r.1), true), ((.sl 102 r.2.1 r.2.2), true)]], []⟩
def laws_toTc.ans (k : Nat) : List Arg → Ans
  | [.v (.agg [(.int .i64 a0_0), (.sl 114 a0_1z a0_1)])] => ⟨laws_toTc.f k a0_0 a0_1z a0_1, laws_toTc.enc⟩
  | _ => Ans.no
def laws_toTc.Cs (k : Nat) : CallSem := tab [(56, laws_toEntryS.ans k)]
def laws_toTc.cuts : List (Nat × Keep) := []
theorem laws_toTc.s (k : Nat) (a0_0 : Int) (a0_1z : Bool) (a0_1 : List T) : answer Tryz.prog laws_toTc.Cs 100000 laws_toTc.cuts [] Tryz.f27 (k + 1) [.v (.agg [(.int .i64 a0_0), (.sl 114 a0_1z a0_1)])] = laws_toTc.b (fun r => some (laws_toTc.enc r)) k a0_0 a0_1z a0_1 := by kernel_rfl
theorem laws_toTc.b_nat {R R' : Type} (e : R → R') (ret : Int × Bool × List T → Option R) (k : Nat) (a0_0 : Int) (a0_1z : Bool) (a0_1 : List T) : laws_toTc.b (fun r => (ret r).map e) k a0_0 a0_1z a0_1 = (laws_toTc.b ret k a0_0 a0_1z a0_1).map e := by
  unfold laws_toTc.b
  repeat' first | with_reducible refine nat_cond ?_ ?_ | with_reducible refine nat_bind fun _ => ?_ | rfl
theorem laws_toTc.eq (k : Nat) (a0_0 : Int) (a0_1z : Bool) (a0_1 : List T) : answer Tryz.prog laws_toTc.Cs 100000 laws_toTc.cuts [] Tryz.f27 (k + 1) [.v (.agg [(.int .i64 a0_0), (.sl 114 a0_1z a0_1)])] = (laws_toTc.f (k + 1) a0_0 a0_1z a0_1).map laws_toTc.enc := by
  refine (laws_toTc.s k a0_0 a0_1z a0_1).trans (Eq.trans ?_ (laws_toTc.b_nat laws_toTc.enc some k a0_0 a0_1z a0_1))
  simp only [Option.map_some]
theorem laws_toTc.sound (k : Nat) : SoundF Tryz.prog 27 (fun a => (laws_toTc.ans k a).val) := by
  refine sound_plain (fun args res h => ?_) (fun t n => rfl)
  unfold laws_toTc.ans at h
  dsimp only at h
  split at h
  · cases k with
    | zero => cases h
    | succ k =>
      unfold Ans.val at h
      rw [← laws_toTc.eq] at h
      exact answer_sound mixed Tryz.func27 _ _ _ (k + 1) (fun j _ => tab_sound (tab_cons (laws_toEntryS.sound j) (tab_nil))) _ _ h
  · exact (Ans.no_val h).elim

/-! loop.example/g00790/laws.toHeadS -/
def laws_toHeadS.b {R : Type} (ret : Bool × List T → Option R) (j0 : Bool → (List T) → (List T) → Int → Option R) (k : Nat) (a0z : Bool) (a0 : List T) : Option R :=
  cond (decide (((a0).length : Int) = ((a0).length : Int))) (cond (decide ((0 : Int) ≤ ((a0).length : Int))) (cond (decide ((a0).length < 879609302220)) (j0 a0z a0 (List.replicate (a0).length (.agg [(.int .i64 0), (.int .i64 0), (.int .i64 0), (.nums 5 .u8 true ([] : List Int)), (.nums 5 .u8 true ([] : List Int)), (.int .i64 0), (.int .i64 0), (.nums 5 .u8 true ([] : List Int)), (.nums 5 .u8 true ([] : List Int)), (.sl 22 true ([] : List T))])) 0) (none)) (none)) (none)
def laws_toHeadS.l0b {R : Type} (ret : Bool × List T → Option R) (j0 : Bool → (List T) → (List T) → Int → Option R) (k : Nat) (x0z : Bool) (x0 : List T) (x3 : List T) (x4 : Int) : Option R :=
  cond (decide (x4 < ((x0).length : Int))) (cond (decide ((0 : Int) ≤ x4)) (cond (decide (x4 < ((x0).length : Int))) ((laws_toHead.f k (((((x0).getD (x4).toNat .bad).cells.getD 0 .bad)).toInt) (((((x0).getD (x4).toNat .bad).cells.getD 1 .bad)).toInt) (((((x0).getD (x4).toNat .bad).cells.getD 2 .bad)).toInt) (((((x0).getD (x4).toNat .bad).cells.getD 3 .bad)).isNil) (((((x0).getD (x4).toNat .bad).cells.getD 3 .bad)).toNums) (((((x0).getD (x4).toNat .bad).cells.getD 4 .bad)).isNil) (((((x0).getD (x4).toNat .bad).cells.getD 4 .bad)).toNums) (((((x0).getD (x4).toNat .bad).cells.getD 5 .bad)).toInt) (((((x0).getD (x4).toNat .bad).cells.getD 6 .bad)).toInt) (((((x0).getD (x4).toNat .bad).cells.getD 7 .bad)).isNil) (((((x0).getD (x4).toNat .bad).cells.getD 7 .bad)).toNums) (((((x0).getD (x4).toNat .bad).cells.getD 8 .bad)).isNil) (((((x0).getD (x4).toNat .bad).cells.getD 8 .bad)).toNums) (((((x0).getD (x4).toNat .bad).cells.getD 9 .bad)).isNil) (((((x0).getD (x4).toNat .bad).cells.getD 9 .bad)).toList)).bind fun t0 => cond (decide ((0 : Int) ≤ x4)) (cond (decide (x4 < ((x3).length : Int))) (j0 x0z x0 ((x3).set (x4).toNat (.agg [(.int .i64 t0.1), (.int .i64 t0.2.1), (.int .i64 t0.2.2.1), (.nums 5 .u8 t0.2.2.2.1 t0.2.2.2.2.1), (.nums 5 .u8 t0.2.2.2.2.2.1 t0.2.2.2.2.2.2.1), (.int .i64 t0.2.2.2.2.2.2.2.1), (.int .i64 t0.2.2.2.2.2.2.2.2.1), (.nums 5 .u8 t0.2.2.2.2.2.2.2.2.2.1 t0.2.2.2.2.2.2.2.2.2.2.1), (.nums 5 .u8 t0.2.2.2.2.2.2.2.2.2.2.2.1 t0.2.2.2.2.2.2.2.2.2.2.2.2.1), (.sl 22 t0.2.2.2.2.2.2.2.2.2.2.2.2.2.1 t0.2.2.2.2.2.2.2.2.2.2.2.2.2.2)])) (RowKit.wrap64 (x4 + 1))) (none)) (none)) (none)) (none)) (ret (false, x3))
def laws_toHeadS.l0 : Nat → Bool → (List T) → (List T) → Int → Option (Bool × List T)
  | 0, _, _, _, _ => none
  | k + 1, x0z, x0, x3, x4 => laws_toHeadS.l0b some (laws_toHeadS.l0 k) k x0z x0 x3 x4
def laws_toHeadS.f : Nat → Bool → (List T) → Option (Bool × List T)
  | 0, _, _ => none
  | k + 1, a0z, a0 => laws_toHeadS.b some (laws_toHeadS.l0 k) k a0z a0
def laws_toHeadS.enc (r : Bool × List T) : Res := ⟨[.vals false [((.sl 47 r.1 r.2), true)]], []⟩
def laws_toHeadS.ans (k : Nat) : List Arg → Ans
  | [.v (.sl 29 a0z a0)] => ⟨laws_toHeadS.f k a0z a0, laws_toHeadS.enc⟩
  | _ => Ans.no
def laws_toHeadS.Cs (k : Nat) : CallSem := tab [(25, laws_toHead.ans k)]
def laws_toHeadS.cuts : List (Nat × Keep) := [(58, ⟨[(0, some []), (3, none), (4, some [])], []⟩)]
noncomputable def laws_toHeadS.K0 : List Fr := framesAt [true, true, false, true, false] (bodyOf Tryz.f57 laws_toHeadS.cuts) []
def laws_toHeadS.N0 (x0z : Bool) (x0 : List T) (x3 : List T) (x4 : Int) : St := stOf 23 23 1 [(0, .val ⟨(.sl 29 x0z x0), [], false, none⟩), (3, .val ⟨(.sl 47 false x3), [.l 3 0], true, some (.l 3 0)⟩), (4, .val (V.s (.int .i64 x4)))] []
theorem laws_toHeadS.s (k : Nat) (a0z : Bool) (a0 : List T) : answer Tryz.prog laws_toHeadS.Cs 100000 laws_toHeadS.cuts [] Tryz.f57 (k + 1) [.v (.sl 29 a0z a0)] = laws_toHeadS.b (fun r => some (laws_toHeadS.enc r)) (fun x0z x0 x3 x4 => rounds Tryz.prog laws_toHeadS.Cs (finish Tryz.prog [] Tryz.f57 [.v (.sl 29 a0z a0)]) 100000 k laws_toHeadS.K0 (laws_toHeadS.N0 x0z x0 x3 x4)) k a0z a0 := by kernel_rfl
theorem laws_toHeadS.s0 (k : Nat) (G : List Fr → St → Option Res) (a0z : Bool) (a0 : List T) (yx0z : Bool) (yx0 : List T) (yx3 : List T) (yx4 : Int) : resume Tryz.prog (laws_toHeadS.Cs k) G (finish Tryz.prog [] Tryz.f57 [.v (.sl 29 a0z a0)]) 100000 laws_toHeadS.K0 (laws_toHeadS.N0 yx0z yx0 yx3 yx4) = laws_toHeadS.l0b (fun r => some (laws_toHeadS.enc r)) (fun x0z x0 x3 x4 => G laws_toHeadS.K0 (laws_toHeadS.N0 x0z x0 x3 x4)) k yx0z yx0 yx3 yx4 := by kernel_rfl
theorem laws_toHeadS.b_nat {R R' : Type} (e : R → R') (ret : Bool × List T → Option R) (j0 : Bool → (List T) → (List T) → Int → Option R) (k : Nat) (a0z : Bool) (a0 : List T) : laws_toHeadS.b (fun r => (ret r).map e) (fun x0z x0 x3 x4 => (j0 x0z x0 x3 x4).map e) k a0z a0 = (laws_toHeadS.b ret j0 k a0z a0).map e := by
  unfold laws_toHeadS.b
  repeat' first | with_reducible refine nat_cond ?_ ?_ | with_reducible refine nat_bind fun _ => ?_ | rfl
theorem laws_toHeadS.l0b_nat {R R' : Type} (e : R → R') (ret : Bool × List T → Option R) (j0 : Bool → (List T) → (List T) → Int → Option R) (k : Nat) (x0z : Bool) (x0 : List T) (x3 : List T) (x4 : Int) : laws_toHeadS.l0b (fun r => (ret r).map e) (fun x0z x0 x3 x4 => (j0 x0z x0 x3 x4).map e) k x0z x0 x3 x4 = (laws_toHeadS.l0b ret j0 k x0z x0 x3 x4).map e := by
  unfold laws_toHeadS.l0b
  repeat' first | with_reducible refine nat_cond ?_ ?_ | with_reducible refine nat_bind fun _ => ?_ | rfl
theorem laws_toHeadS.rounds_eq (a0z : Bool) (a0 : List T) : ∀ k, (∀ (x0z : Bool) (x0 : List T) (x3 : List T) (x4 : Int), rounds Tryz.prog laws_toHeadS.Cs (finish Tryz.prog [] Tryz.f57 [.v (.sl 29 a0z a0)]) 100000 k laws_toHeadS.K0 (laws_toHeadS.N0 x0z x0 x3 x4) = (laws_toHeadS.l0 k x0z x0 x3 x4).map laws_toHeadS.enc)
  | 0 => fun _ _ _ _ => rfl
  | k + 1 => by
    have ih := laws_toHeadS.rounds_eq a0z a0 k
    refine fun _ _ _ _ => ?_
    · refine (laws_toHeadS.s0 k _ a0z a0 _ _ _ _).trans (Eq.trans ?_ (laws_toHeadS.l0b_nat laws_toHeadS.enc some (laws_toHeadS.l0 k) k _ _ _ _))
      simp only [ih, Option.map_some]
theorem laws_toHeadS.eq (k : Nat) (a0z : Bool) (a0 : List T) : answer Tryz.prog laws_toHeadS.Cs 100000 laws_toHeadS.cuts [] Tryz.f57 (k + 1) [.v (.sl 29 a0z a0)] = (laws_toHeadS.f (k + 1) a0z a0).map laws_toHeadS.enc := by
  have ih := laws_toHeadS.rounds_eq a0z a0 k
  refine (laws_toHeadS.s k a0z a0).trans (Eq.trans ?_ (laws_toHeadS.b_nat laws_toHeadS.enc some (laws_toHeadS.l0 k) k a0z a0))
  simp only [ih, Option.map_some]
theorem laws_toHeadS.sound (k : Nat) : SoundF Tryz.prog 57 (fun a => (laws_toHeadS.ans k a).val) := by
  refine sound_plain (fun args res h => ?_) (fun t n => rfl)
  unfold laws_toHeadS.ans at h
  dsimp only at h
  split at h
  · cases k with
    | zero => cases h
    | succ k =>
      unfold Ans.val at h
      rw [← laws_toHeadS.eq] at h
      exact answer_sound mixed Tryz.func57 _ _ _ (k + 1) (fun j _ => tab_sound (tab_cons (laws_toHead.sound j) (tab_nil))) _ _ h
  · exact (Ans.no_val h).elim

/-! loop.example/g00790/laws.toProof -/
def laws_toProof.b {R : Type} (ret : Bool × (List T) × Int × Int × Bool × (List Int) × Bool × (List Int) × Bool × List T → Option R) (k : Nat) (a0_0z : Bool) (a0_0 : List T) (a0_1 : Int) (a0_2 : Int) (a0_3z : Bool) (a0_3 : List Int) (a0_4z : Bool) (a0_4 : List Int) (a0_5z : Bool) (a0_5 : List T) : Option R :=
  (laws_toHeadS.f k a0_0z a0_0).bind fun t0 => (laws_toQc.f k a0_1 a0_2 a0_3z a0_3 a0_4z a0_4 a0_5z a0_5).bind fun t1 => ret (t0.1, t0.2, t1.1, t1.2.1, t1.2.2.1, t1.2.2.2.1, t1.2.2.2.2.1, t1.2.2.2.2.2.1, t1.2.2.2.2.2.2.1, t1.2.2.2.2.2.2.2)
def laws_toProof.f : Nat → Bool → (List T) → Int → Int → Bool → (List Int) → Bool → (List Int) → Bool → (List T) → Option (Bool × (List T) × Int × Int × Bool × (List Int) × Bool × (List Int) × Bool × List T)
  | 0, _, _, _, _, _, _, _, _, _, _ => none
  | k + 1, a0_0z, a0_0, a0_1, a0_2, a0_3z, a0_3, a0_4z, a0_4, a0_5z, a0_5 => laws_toProof.b some k a0_0z a0_0 a0_1 a0_2 a0_3z a0_3 a0_4z a0_4 a0_5z a0_5
def laws_toProof.enc (r : Bool × (List T) × Int × Int × Bool × (List Int) × Bool × (List Int) × Bool × List T) : Res := ⟨[.vals true [((.sl 47 r.1 r.2.1), true), ((.int .i64 r.2.2.1), true), ((.int .i64 r.2.2.2.1), true), ((.nums 5 .u8 r.2.2.2.2.1 r.2.2.2.2.2.1), true), ((.nums 5 .u8 r.2.2.2.2.2.2.1 r.2.2.2.2.2.2.2.1), true), ((.sl 22 r.2.2.2.2.2.2.2.2.1 r.2.2.2.2.2.2.2.2.2), true)]], []⟩
def laws_toProof.ans (k : Nat) : List Arg → Ans
  | [.v (.agg [(.sl 29 a0_0z a0_0), (.int .i64 a0_1), (.int .i64 a0_2), (.nums 5 .u8 a0_3z a0_3), (.nums 5 .u8 a0_4z a0_4), (.sl 22 a0_5z a0_5)])] => ⟨laws_toProof.f k a0_0z a0_0 a0_1 a0_2 a0_3z a0_3 a0_4z a0_4 a0_5z a0_5, laws_toProof.enc⟩
  | _ => Ans.no
def laws_toProof.Cs (k : Nat) : CallSem := tab [(24, laws_toQc.ans k), (57, laws_toHeadS.ans k)]
def laws_toProof.cuts : List (Nat × Keep) := []
theorem laws_toProof.s (k : Nat) (a0_0z : Bool) (a0_0 : List T) (a0_1 : Int) (a0_2 : Int) (a0_3z : Bool) (a0_3 : List Int) (a0_4z : Bool) (a0_4 : List Int) (a0_5z : Bool) (a0_5 : List T) : answer Tryz.prog laws_toProof.Cs 100000 laws_toProof.cuts [] Tryz.f28 (k + 1) [.v (.agg [(.sl 29 a0_0z a0_0), (.int .i64 a0_1), (.int .i64 a0_2), (.nums 5 .u8 a0_3z a0_3), (.nums 5 .u8 a0_4z a0_4), (.sl 22 a0_5z a0_5)])] = laws_toProof.b (fun r => some (laws_toProof.enc r)) k a0_0z a0_0 a0_1 a0_2 a0_3z a0_3 a0_4z a0_4 a0_5z a0_5 := by kernel_rfl
theorem laws_toProof.b_nat {R R' : Type} (e : R → R') (ret : Bool × (List T) × Int × Int × Bool × (List Int) × Bool × (List Int) × Bool × List T → Option R) (k : Nat) (a0_0z : Bool) (a0_0 : List T) (a0_1 : Int) (a0_2 : Int) (a0_3z : Bool) (a0_3 : List Int) (a0_4z : Bool) (a0_4 : List Int) (a0_5z : Bool) (a0_5 : List T) : laws_toProof.b (fun r => (ret r).map e) k a0_0z a0_0 a0_1 a0_2 a0_3z a0_3 a0_4z a0_4 a0_5z a0_5 = (laws_toProof.b ret k a0_0z a0_0 a0_1 a0_2 a0_3z a0_3 a0_4z a0_4 a0_5z a0_5).map e := by
  unfold laws_toProof.b
  repeat' first | with_reducible refine nat_cond ?_ ?_ | with_reducible refine nat_bind fun _ => ?_ | rfl
theorem laws_toProof.eq (k : Nat) (a0_0z : Bool) (a0_0 : List T) (a0_1 : Int) (a0_2 : Int) (a0_3z : Bool) (a0_3 : List Int) (a0_4z : Bool) (a0_4 : List Int) (a0_5z : Bool) (a0_5 : List T) : answer Tryz.prog laws_toProof.Cs 100000 laws_toProof.cuts [] Tryz.f28 (k + 1) [.v (.agg [(.sl 29 a0_0z a0_0), (.int .i64 a0_1), (.int .i64 a0_2), (.nums 5 .u8 a0_3z a0_3), (.nums 5 .u8 a0_4z a0_4), (.sl 22 a0_5z a0_5)])] = (laws_toProof.f (k + 1) a0_0z a0_0 a0_1 a0_2 a0_3z a0_3 a0_4z a0_4 a0_5z a0_5).map laws_toProof.enc := by
  refine (laws_toProof.s k a0_0z a0_0 a0_1 a0_2 a0_3z a0_3 a0_4z a0_4 a0_5z a0_5).trans (Eq.trans ?_ (laws_toProof.b_nat laws_toProof.enc some k a0_0z a0_0 a0_1 a0_2 a0_3z a0_3 a0_4z a0_4 a0_5z a0_5))
  simp only [Option.map_some]
theorem laws_toProof.sound (k : Nat) : SoundF Tryz.prog 28 (fun a => (laws_toProof.ans k a).val) := by
  refine sound_plain (fun args res h => ?_) (fun t n => rfl)
  unfold laws_toProof.ans at h
  dsimp only at h
  split at h
  · cases k with
    | zero => cases h
    | succ k =>
      unfold Ans.val at h
      rw [← laws_toProof.eq] at h
      exact answer_sound mixed Tryz.func28 _ _ _ (k + 1) (fun j _ => tab_sound (tab_cons (laws_toQc.sound j) (tab_cons (laws_toHeadS.sound j) (tab_nil)))) _ _ h
  · exact (Ans.no_val h).elim

/-! loop.example/g00790/laws.toIncl -/
def laws_toIncl.b {R : Type} (ret : Int × Int × Int × Bool × (List Int) × Bool × List T → Option R) (k : Nat) (a0_0 : Int) (a0_1 : Int) (a0_2 : Int) (a0_3z : Bool) (a0_3 : List Int) (a0_4z : Bool) (a0_4 : List T) : Option R :=
  (laws_toByteS.f k a0_3z a0_3).bind fun t0 => (laws_toByteSS.f k a0_4z a0_4).bind fun t1 => ret (a0_0, a0_1, a0_2, t0.1, t0.2, t1.1, t1.2)
def laws_toIncl.f : Nat → Int → Int → Int → Bool → (List Int) → Bool → (List T) → Option (Int × Int × Int × Bool × (List Int) × Bool × List T)
  | 0, _, _, _, _, _, _, _ => none
  | k + 1, a0_0, a0_1, a0_2, a0_3z, a0_3, a0_4z, a0_4 => laws_toIncl.b some k a0_0 a0_1 a0_2 a0_3z a0_3 a0_4z a0_4
def laws_toIncl.enc (r : Int × Int × Int × Bool × (List Int) × Bool × List T) : Res := ⟨[.vals true [((.int .i64 r.1), true), ((.int .i64 r.2.1), true), ((.int .i64 r.2.2.1), true), ((.nums 5 .u8 r.2.2.2.1 r.2.2.2.2.1), true), ((.sl 22 r.2.2.2.2.2.1 r.2.2.2.2.2.2), true)]], []⟩
def laws_toIncl.ans (k : Nat) : List Arg → Ans
  | [.v (.agg [(.int .i64 a0_0), (.int .i64 a0_1), (.int .i64 a0_2), (.nums 5 .u8 a0_3z a0_3), (.sl 22 a0_4z a0_4)])] => ⟨laws_toIncl.f k a0_0 a0_1 a0_2 a0_3z a0_3 a0_4z a0_4, laws_toIncl.enc⟩
  | _ => Ans.no
def laws_toIncl.Cs (k : Nat) : CallSem := tab [(54, laws_toByteS.ans k), (55, laws_toByteSS.ans k)]
def laws_toIncl.cuts : List (Nat × Keep) := []
theorem laws_toIncl.s (k : Nat) (a0_0 : Int) (a0_1 : Int) (a0_2 : Int) (a0_3z : Bool) (a0_3 : List Int) (a0_4z : Bool) (a0_4 : List T) : answer Tryz.prog laws_toIncl.Cs 100000 laws_toIncl.cuts [] Tryz.f29 (k + 1) [.v (.agg [(.int .i64 a0_0), (.int .i64 a0_1), (.int .i64 a0_2), (.nums 5 .u8 a0_3z a0_3), (.sl 22 a0_4z a0_4)])] = laws_toIncl.b (fun r => some (laws_toIncl.enc r)) k a0_0 a0_1 a0_2 a0_3z a0_3 a0_4z a0_4 := by kernel_rfl
theorem laws_toIncl.b_nat {R R' : Type} (e : R → R') (ret : Int × Int × Int × Bool × (List Int) × Bool × List T → Option R) (k : Nat) (a0_0 : Int) (a0_1 : Int) (a0_2 : Int) (a0_3z : Bool) (a0_3 : List Int) (a0_4z : Bool) (a0_4 : List T) : laws_toIncl.b (fun r => (ret r).map e) k a0_0 a0_1 a0_2 a0_3z a0_3 a0_4z a0_4 = (laws_toIncl.b ret k a0_0 a0_1 a0_2 a0_3z a0_3 a0_4z a0_4).map e := by
  unfold laws_toIncl.b
  repeat' first | with_reducible refine nat_cond ?_ ?_ | with_reducible refine nat_bind fun _ => ?_ | rfl
theorem laws_toIncl.eq (k : Nat) (a0_0 : Int) (a0_1 : Int) (a0_2 : Int) (a0_3z : Bool) (a0_3 : List Int) (a0_4z : Bool) (a0_4 : List T) : answer Tryz.prog laws_toIncl.Cs 100000 laws_toIncl.cuts [] Tryz.f29 (k + 1) [.v (.agg [(.int .i64 a0_0), (.int .i64 a0_1), (.int .i64 a0_2), (.nums 5 .u8 a0_3z a0_3), (.sl 22 a0_4z a0_4)])] = (laws_toIncl.f (k + 1) a0_0 a0_1 a0_2 a0_3z a0_3 a0_4z a0_4).map laws_toIncl.enc := by
  refine (laws_toIncl.s k a0_0 a0_1 a0_2 a0_3z a0_3 a0_4z a0_4).trans (Eq.trans ?_ (laws_toIncl.b_nat laws_toIncl.enc some k a0_0 a0_1 a0_2 a0_3z a0_3 a0_4z a0_4))
  simp only [Option.map_some]
theorem laws_toIncl.sound (k : Nat) : SoundF Tryz.prog 29 (fun a => (laws_toIncl.ans k a).val) := by
  refine sound_plain (fun args res h => ?_) (fun t n => rfl)
  unfold laws_toIncl.ans at h
  dsimp only at h
  split at h
  · cases k with
    | zero => cases h
    | succ k =>
      unfold Ans.val at h
      rw [← laws_toIncl.eq] at h
      exact answer_sound mixed Tryz.func29 _ _ _ (k + 1) (fun j _ => tab_sound (tab_cons (laws_toByteS.sound j) (tab_cons (laws_toByteSS.sound j) (tab_nil)))) _ _ h
  · exact (Ans.no_val h).elim

/-! loop.example/g00790/laws.toMsg -/
def laws_toMsg.b {R : Type} (ret : Int × Int × Int × Bool × (List Int) × Int × Bool × (List Int) × Int × Int × Bool × (List Int) × Bool × (List Int) × Bool × (List T) × Int × Int × Int × Bool × (List Int) × Bool × (List Int) × Int × Int × Bool × (List Int) × Bool × (List Int) × Bool × (List T) × Int × Int × Int × Bool × (List Int) × Bool × (List Int) × Int × Int × Bool × (List Int) × Bool × (List Int) × Bool × (List T) × Bool × (List T) × Int × Bool × (List T) × Bool × (List T) × Int × Int × Bool × (List Int) × Bool × (List Int) × Bool × (List T) × Int × Int × Int × Bool × (List Int) × Bool × List T → Option R) (k : Nat) (a0_0 : Int) (a0_1 : Int) (a0_2 : Int) (a0_3z : Bool) (a0_3 : List Int) (a0_4 : Int) (a0_5z : Bool) (a0_5 : List Int) (a0_6 : Int) (a0_7 : Int) (a0_8z : Bool) (a0_8 : List Int) (a0_9z : Bool) (a0_9 : List Int) (a0_10z : Bool) (a0_10 : List T) (a0_11 : Int) (a0_12 : Int) (a0_13 : Int) (a0_14z : Bool) (a0_14 : List Int) (a0_15z : Bool) (a0_15 : List Int) (a0_16 : Int) (a0_17 : Int) (a0_18z : Bool) (a0_18 : List Int) (a0_19z : Bool) (a0_19 : List Int) (a0_20z : Bool) (a0_20 : List T) (a0_21 : Int) (a0_22 : Int) (a0_23 : Int) (a0_24z : Bool) (a0_24 : List Int) (a0_25z : Bool) (a0_25 : List Int) (a0_26 : Int) (a0_27 : Int) (a0_28z : Bool) (a0_28 : List Int) (a0_29z : Bool) (a0_29 : List Int) (a0_30z : Bool) (a0_30 : List T) (a0_31z : Bool) (a0_31 : List T) (a0_32 : Int) (a0_33z : Bool) (a0_33 : List T) (a0_34z : Bool) (a0_34 : List T) (a0_35 : Int) (a0_36 : Int) (a0_37z : Bool) (a0_37 : List Int) (a0_38z : Bool) (a0_38 : List Int) (a0_39z : Bool) (a0_39 : List T) (a0_40 : Int) (a0_41 : Int) (a0_42 : Int) (a0_43z : Bool) (a0_43 : List Int) (a0_44z : Bool) (a0_44 : List T) : Option R :=
  (laws_toVote.f k a0_1 a0_2 a0_3z a0_3 a0_4 a0_5z a0_5).bind fun t0 => (laws_toQc.f k a0_6 a0_7 a0_8z a0_8 a0_9z a0_9 a0_10z a0_10).bind fun t1 => (laws_toHead.f k a0_11 a0_12 a0_13 a0_14z a0_14 a0_15z a0_15 a0_16 a0_17 a0_18z a0_18 a0_19z a0_19 a0_20z a0_20).bind fun t2 => (laws_toBlock.f k a0_21 a0_22 a0_23 a0_24z a0_24 a0_25z a0_25 a0_26 a0_27 a0_28z a0_28 a0_29z a0_29 a0_30z a0_30 a0_31z a0_31).bind fun t3 => (laws_toTc.f k a0_32 a0_33z a0_33).bind fun t4 => (laws_toProof.f k a0_34z a0_34 a0_35 a0_36 a0_37z a0_37 a0_38z a0_38 a0_39z a0_39).bind fun t5 => (laws_toIncl.f k a0_40 a0_41 a0_42 a0_43z a0_43 a0_44z a0_44).bind fun t6 => ret (a0_0, t0.1, t0.2.1, t0.2.2.1, t0.2.2.2.1, t0.2.2.2.2.1, t0.2.2.2.2.2.1, t0.2.2.2.2.2.2, t1.1, t1.2.1, t1.2.2.1, t1.2.2.2.1, t1.2.2.2.2.1, t1.2.2.2.2.2.1, t1.2.2.2.2.2.2.1, t1.2.2.2.2.2.2.2, t2.1, t2.2.1, t2.2.2.1, t2.2.2.2.1, t2.2.2.2.2.1, t2.2.2.2.2.2.1, t2.2.2.2.2.2.2.1, t2.2.2.2.2.2.2.2.1, t2.2.2.2.2.2.2.2.2.1, t2.2.2.2.2.2.2.2.2.2.1, t2.2.2.2.2.2.2.2.2.2.2.1, t2.2.2.2.2.2.2.2.2.2.2.2.1, t2.2.2.2.2.2.2.2.2.2.2.2.2.1, t2.2.2.2.2.2.2.2.2.2.2.2.2.2.1, t2.2.2.2.2.2.2.2.2.2.2.2.2.2.2, t3.1, t3.2.1, t3.2.2.1, t3.2.2.2.1, t3.2.2.2.2.1, t3.2.2.2.2.2.1, t3.2.2.2.2.2.2.1, t3.2.2.2.2.2.2.2.1, t3.2.2.2.2.2.2.2.2.1, t3.2.2.2.2.2.2.2.2.2.1, t3.2.2.2.2.2.2.2.2.2.2.1, t3.2.2.2.2.2.2.2.2.2.2.2.1, t3.2.2.2.2.2.2.2.2.2.2.2.2.1, t3.2.2.2.2.2.2.2.2.2.2.2.2.2.1, t3.2.2.2.2.2.2.2.2.2.2.2.2.2.2.1, t3.2.2.2.2.2.2.2.2.2.2.2.2.2.2.2.1, t3.2.2.2.2.2.2.2.2.2.2.2.2.2.2.2.2, t4.1, t4.2.1, t4.2.2, t5.1, t5.2.1, t5.2.2.1, t5.2.2.2.1, t5.2.2.2.2.1, t5.2.2.2.2.2.1, t5.2.2.2.2.2.2.1, t5.2.2.2.2.2.2.2.1, t5.2.2.2.2.2.2.2.2.1, t5.2.2.2.2.2.2.2.2.2, t6.1, t6.2.1, t6.2.2.1, t6.2.2.2.1, t6.2.2.2.2.1, t6.2.2.2.2.2.1, t6.2.2.2.2.2.2)
def laws_toMsg.f : Nat → Int → Int → Int → Bool → (List Int) → Int → Bool → (List Int) → Int → Int → Bool → (List Int) → Bool → (List Int) → Bool → (List T) → Int → Int → Int → Bool → (List Int) → Bool → (List Int) → Int → Int → Bool → (List Int) → Bool → (List Int) → Bool → (List T) → Int → Int → Int → Bool → (List Int) → Bool → (List Int) → Int → Int → Bool → (List Int) → Bool → (List Int) → Bool → (List T) → Bool → (List T) → Int → Bool → (List T) → Bool → (List T) → Int → Int → Bool → (List Int) → Bool → (List Int) → Bool → (List T) → Int → Int → Int → Bool → (List Int) → Bool → (List T) → Option (Int × Int × Int × Bool × (List Int) × Int × Bool × (List Int) × Int × Int × Bool × (List Int) × Bool × (List Int) × Bool × (List T) × Int × Int × Int × Bool × (List Int) × Bool × (List Int) × Int × Int × Bool × (List Int) × Bool × (List Int) × Bool × (List T) × Int × Int × Int × Bool × (List Int) × Bool × (List Int) × Int × Int × Bool × (List Int) × Bool × (List Int) × Bool × (List T) × Bool × (List T) × Int × Bool × (List T) × Bool × (List T) × Int × Int × Bool × (List Int) × Bool × (List Int) × Bool × (List T) × Int × Int × Int × Bool × (List Int) × Bool × List T)
  | 0, _, _, _, _, _, _, _, _, _, _, _, _, _, _, _, _, _, _, _, _, _, _, _, _, _, _, _, _, _, _, _, _, _, _, _, _, _, _, _, _, _, _, _, _, _, _, _, _, _, _, _, _, _, _, _, _, _, _, _, _, _, _, _, _, _, _, _, _ => none
  | k + 1, a0_0, a0_1, a0_2, a0_3z, a0_3, a0_4, a0_5z, a0_5, a0_6, a0_7, a0_8z, a0_8, a0_9z, a0_9, a0_10z, a0_10, a0_11, a0_12, a0_13, a0_14z, a0_14, a0_15z, a0_15, a0_16, a0_17, a0_18z, a0_18, a0_19z, a0_19, a0_20z, a0_20, a0_21, a0_22, a0_23, a0_24z, a0_24, a0_25z, a0_25, a0_26, a0_27, a0_28z, a0_28, a0_29z, a0_29, a0_30z, a0_30, a0_31z, a0_31, a0_32, a0_33z, a0_33, a0_34z, a0_34, a0_35, a0_36, a0_37z, a0_37, a0_38z, a0_38, a0_39z, a0_39, a0_40, a0_41, a0_42, a0_43z, a0_43, a0_44z, a0_44 => laws_toMsg.b some k a0_0 a0_1 a0_2 a0_3z a0_3 a0_4 a0_5z a0_5 a0_6 a0_7 a0_8z a0_8 a0_9z a0_9 a0_10z a0_10 a0_11 a0_12 a0_13 a0_14z a0_14 a0_15z a0_15 a0_16 a0_17 a0_18z a0_18 a0_19z a0_19 a0_20z a0_20 a0_21 a0_22 a0_23 a0_24z a0_24 a0_25z a0_25 a0_26 a0_27 a0_28z a0_28 a0_29z a0_29 a0_30z a0_30 a0_31z a0_31 a0_32 a0_33z a0_33 a0_34z a0_34 a0_35 a0_36 a0_37z a0_37 a0_38z a0_38 a0_39z a0_39 a0_40 a0_41 a0_42 a0_43z a0_43 a0_44z a0_44
def laws_toMsg.enc (r : Int × Int × Int × Bool × (List Int) × Int × Bool × (List Int) × Int × Int × Bool × (List Int) × Bool × (List Int) × Bool × (List T) × Int × Int × Int × Bool × (List Int) × Bool × (List Int) × Int × Int × Bool × (List Int) × Bool × (List Int) × Bool × (List T) × Int × Int × Int × Bool × (List Int) × Bool × (List Int) × Int × Int × Bool × (List Int) × Bool × (List Int) × Bool × (List T) × Bool × (List T) × Int × Bool × (List T) × Bool × (List T) × Int × Int × Bool × (List Int) × Bool × (List Int) × Bool × (List T) × Int × Int × Int × Bool × (List Int) × Bool × List T) : Res := ⟨[.vals true (((.int .i64 r.1), true) :: ((.int .i64 r.2.1), true) :: ((.int .i64 r.2.2.1), true) :: ((.nums 5 .u8 r.2.2.2.1 r.2.2.2.2.1), true) :: ((.int .i64 r.2.2.2.2.2.1), true) :: ((.nums 5 .u8 r.2.2.2.2.2.2.1 r.2.2.2.2.2.2.2.1), true) :: ((.int .i64 r.2.2.2.2.2.2.2.2.1), true) :: ((.int .i64 r.2.2.2.2.2.2.2.2.2.1), true) :: ((.nums 5 .u8 r.2.2.2.2.2.2.2.2.2.2.1 r.2.2.2.2.2.2.2.2.2.2.2.1), true) :: ((.nums 5 .u8 r.2.2.2.2.2.2.2.2.2.2.2.2.1 r.2.2.2.2.2.2.2.2.2.2.2.2.2.1), true) :: ((.sl 22 r.2.2.2.2.2.2.2.2.2.2.2.2.2.2.1 r.2.2.2.2.2.2.2.2.2.2.2.2.2.2.2.1), true) :: ((.int .i64 r.2.2.2.2.2.2.2.2.2.2.2.2.2.2.2.2.1), true) :: ((.int .i64 r.2.2.2.2.2.2.2.2.2.2.2.2.2.2.2.2.2.1), true) :: ((.int .i64 r.2.2.2.2.2.2.2.2.2.2.2.2.2.2.2.2.2.2.1), true) :: ((.nums 5 .u8 r.2.2.2.2.2.2.2.2.2.2.2.2.2.2.2.2.2.2.2.1 r.2.2.2.2.2.2.2.2.2.2.2.2.2.2.2.2.2.2.2.2.1), true) :: ((.nums 5 .u8 r.2.2.2.2.2.2.2.2.2.2.2.2.2.2.2.2.2.2.2.2.2.1 r.2.2.2.2.2.2.2.2.2.2.2.2.2.2.2.2.2.2.2.2.2.2.1), true) :: ((.int .i64 r.2.2.2.2.2.2.2.2.2.2.2.2.2.2.2.2.2.2.2.2.2.2.2.1), true) :: ((.int .i64 r.2.2.2.2.2.2.2.2.2.2.2.2.2.2.2.2.2.2.2.2.2.2.2.2.1), true) :: ((.nums 5 .u8 r.2.2.2.2.2.2.2.2.2.2.2.2.2.2.2.2.2.2.2.2.2.2.2.2.2.1 r.2.2.2.2.2.2.2.2.2.2.2.2.2.2.2.2.2.2.2.2.2.2.2.2.2.2.1), true) :: ((.nums 5 .u8 r.2.2.2.2.2.2.2.2.2.2.2.2.2.2.2.2.2.2.2.2.2.2.2.2.2.2.2.1 r.2.2.2.2.2.2.2.2.2.2.2.2.2.2.2.2.2.2.2.2.2.2.2.2.2.2.2.2.1), true) :: ((.sl 22 r.2.2.2.2.2.2.2.2.2.2.2.2.2.2.2.2.2.2.2.2.2.2.2.2.2.2.2.2.2.1 r.2.2.2.2.2.2.2.2.2.2.2.2.2.2.2.2.2.2.2.2.2.2.2.2.2.2.2.2.2.2.1), true) :: ((.int .i64 r.2.2.2.2.2.2.2.2.2.2.2.2.2.2.2.2.2.2.2.2.2.2.2.2.2.2.2.2.2.2.2.1), true) :: ((.int .i64 r.2.2.2.2.2.2.2.2.2.2.2.2.2.2.2.2.2.2.2.2.2.2.2.2.2.2.2.2.2.2.2.2.1), true) :: ((.int .i64 r.2.2.2.2.2.2.2.2.2.2.2.2.2.2.2.2.2.2.2.2.2.2.2.2.2.2.2.2.2.2.2.2.2.1), true) :: ((.nums 5 .u8 r.2.2.2.2.2.2.2.2.2.2.2.2.2.2.2.2.2.2.2.2.2.2.2.2.2.2.2.2.2.2.2.2.2.2.1 r.2.2.2.2.2.2.2.2.2.2.2.2.2.2.2.2.2.2.2.2.2.2.2.2.2.2.2.2.2.2.2.2.2.2.2.1), true) :: ((.nums 5 .u8 r.2.2.2.2.2.2.2.2.2.2.2.2.2.2.2.2.2.2.2.2.2.2.2.2.2.2.2.2.2.2.2.2.2.2.2.2.1 r.2.2.2.2.2.2.2.2.2.2.2.2.2.2.2.2.2.2.2.2.2.2.2.2.2.2.2.2.2.2.2.2.2.2.2.2.2.1), true) :: ((.int .i64 r.2.2.2.2.2.2.2.2.2.2.2.2.2.2.2.2.2.2.2.2.2.2.2.2.2.2.2.2.2.2.2.2.2.2.2.2.2.2.1), true) :: ((.int .i64 r.2.2.2.2.2.2.2.2.2.2.2.2.2.2.2.2.2.2.2.2.2.2.2.2.2.2.2.2.2.2.2.2.2.2.2.2.2.2.2.1), true) :: ((.nums 5 .u8 r.2.2.2.2.2.2.2.2.2.2.2.2.2.2.2.2.2.2.2.2.2.2.2.2.2.2.2.2.2.2.2.2.2.2.2.2.2.2.2.2.1 r.2.2.2.2.2.2.2.2.2.2.2.2.2.2.2.2.2.2.2.2.2.2.2.2.2.2.2.2.2.2.2.2.2.2.2.2.2.2.2.2.2.1), true) :: ((.nums 5 .u8 r.2.2.2.2.2.2.2.2.2.2.2.2.2.2.2.2.2.2.2.2.2.2.2.2.2.2.2.2.2.2.2.2.2.2.2.2.2.2.2.2.2.2.1 r.2.2.2.2.2.2.2.2.2.2.2.2.2.2.2.2.2.2.2.2.2.2.2.2.2.2.2.2.2.2.2.2.2.2.2.2.2.2.2.2.2.2.2.1), true) :: ((.sl 22 r.2.2.2.2.2.2.2.2.2.2.2.2.2.2.2.2.2.2.2.2.2.2.2.2.2.2.2.2.2.2.2.2.2.2.2.2.2.2.2.2.2.2.2.2.1 r.2.2.2.2.2.2.2.2.2.2.2.2.2.2.2.2.2.2.2.2.2.2.2.2.2.2.2.2.2.2.2.2.2.2.2.2.2.2.2.2.2.2.2.2.2.1), true) :: ((.sl 22 r.2.2.2.2.2.2.2.2.2.2.2.2.2.2.2.2.2.2.2.2.2.2.2.2.2.2.2.2.2.2.2.2.2.2.2.2.2.2.2.2.2.2.2.2.2.2.1 r.2.2.2.2.2.2.2.2.2.2.2.2.2.2.2.2.2.2.2.2.2.2.2.2.2.2.2.2.2.2.2.2.2.2.2.2.2.2.2.2.2.2.2.2.2.2.2.1), true) :: ((.int .i64 r.2.2.2.2.2.2.2.2.2.2.2.2.2.2.2.2.2.2.2.2.2.2.2.2.2.2.2.2.2.2.2.2.2.2.2.2.2.2.2.2.2.2.2.2.2.2.2.2.1), true) :: ((.sl 102 r.2.2.2.2.2.2.2.2.2.2.2.2.2.2.2.2.2.2.2.2.2.2.2.2.2.2.2.2.2.2.2.2.2.2.2.2.2.2.2.2.2.2.2.2.2.2.2.2.2.1 r.2.2.2.2.2.2.2.2.2.2.2.2.2.2.2.2.2.2.2.2.2.2.2.2.2.2.2.2.2.2.2.2.2.2.2.2.2.2.2.2.2.2.2.2.2.2.2.2.2.2.1), true) :: ((.sl 47 r.2.2.2.2.2.2.2.2.2.2.2.2.2.2.2.2.2.2.2.2.2.2.2.2.2.2.2.2.2.2.2.2.2.2.2.2.2.2.2.2.2.2.2.2.2.2.2.2.2.2.2.1 r.2.2.2.2.2.2.2.2.2.2.2.2.2.2.2.2.2.2.2.2.2.2.2.2.2.2.2.2.2.2.2.2.2.2.2.2.2.2.2.2.2.2.2.2.2.2.2.2.2.2.2.2.1), true) :: ((.int .i64 r.2.2.2.2.2.2.2.2.2.2.2.2.2.2.2.2.2.2.2.2.2.2.2.2.2.2.2.2.2.2.2.2.2.2.2.2.2.2.2.2.2.2.2.2.2.2.2.2.2.2.2.2.2.1), true) :: ((.int .i64 r.2.2.2.2.2.2.2.2.2.2.2.2.2.2.2.2.2.2.2.2.2.2.2.2.2.2.2.2.2.2.2.2.2.2.2.2.2.2.2.2.2.2.2.2.2.2.2.2.2.2.2.2.2.2.1), true) :: ((.nums 5 .u8 r.2.2.2.2.2.2.2.2.2.2.2.2.2.2.2.2.2.2.2.2.2.2.2.2.2.2.2.2.2.2.2.2.2.2.2.2.2.2.2.2.2.2.2.2.2.2.2.2.2.2.2.2.2.2.2.1 r.2.2.2.2.2.2.2.2.2.2.2.2.2.2.2.2.2.2.2.2.2.2.2.2.2.2.2.2.2.2.2.2.2.2.2.2.2.2.2.2.2.2.2.2.2.2.2.2.2.2.2.2.2.2.2.2.1), true) :: ((.nums 5 .u8 r.2.2.2.2.2.2.2.2.2.2.2.2.2.2.2.2.2.2.2.2.2.2.2.2.2.2.2.2.2.2.2.2.2.2.2.2.2.2.2.2.2.2.2.2.2.2.2.2.2.2.2.2.2.2.2.2.2.1 r.2.2.2.2.2.2.2.2.2.2.2.2.2.2.2.2.2.2.2.2.2.2.2.2.2.2.2.2.2.2.2.2.2.2.2.2.2.2.2.2.2.2.2.2.2.2.2.2.2.2.2.2.2.2.2.2.2.2.1), true) :: ((.sl 22 r.2.2.2.2.2.2.2.2.2.2.2.2.2.2.2.2.2.2.2.2.2.2.2.2.2.2.2.2.2.2.2.2.2.2.2.2.2.2.2.2.2.2.2.2.2.2.2.2.2.2.2.2.2.2.2.2.2.2.2.1 r.2.2.2.2.2.2.2.2.2.2.2.2.2.2.2.2.2.2.2.2.2.2.2.2.2.2.2.2.2.2.2.2.2.2.2.2.2.2.2.2.2.2.2.2.2.2.2.2.2.2.2.2.2.2.2.2.2.2.2.2.1), true) :: ((.int .i64 r.2.2.2.2.2.2.2.2.2.2.2.2.2.2.2.2.2.2.2.2.2.2.2.2.2.2.2.2.2.2.2.2.2.2.2.2.2.2.2.2.2.2.2.2.2.2.2.2.2.2.2.2.2.2.2.2.2.2.2.2.2.1), true) :: ((.int .i64 r.2.2.2.2.2.2.2.2.2.2.2.2.2.2.2.2.2.2.2.2.2.2.2.2.2.2.2.2.2.2.2.2.2.2.2.2.2.2.2.2.2.2.2.2.2.2.2.2.2.2.2.2.2.2.2.2.2.2.2.2.2.2.1), true) :: ((.int .i64 r.2.2.2.2.2.2.2.2.2.2.2.2.2.2.2.2.2.2.2.2.2.2.2.2.2.2.2.2.2.2.2.2.2.2.2.2.2.2.2.2.2.2.2.2.2.2.2.2.2.2.2.2.2.2.2.2.2.2.2.2.2.2.2.1), true) :: ((.nums 5 .u8 r.2.2.2.2.2.2.2.2.2.2.2.2.2.2.2.2.2.2.2.2.2.2.2.2.2.2.2.2.2.2.2.2.2.2.2.2.2.2.2.2.2.2.2.2.2.2.2.2.2.2.2.2.2.2.2.2.2.2.2.2.2.2.2.2.1 r.2.2.2.2.2.2.2.2.2.2.2.2.2.2.2.2.2.2.2.2.2.2.2.2.2.2.2.2.2.2.2.2.2.2.2.2.2.2.2.2.2.2.2.2.2.2.2.2.2.2.2.2.2.2.2.2.2.2.2.2.2.2.2.2.2.1), true) :: ((.sl 22 r.2.2.2.2.2.2.2.2.2.2.2.2.2.2.2.2.2.2.2.2.2.2.2.2.2.2.2.2.2.2.2.2.2.2.2.2.2.2.2.2.2.2.2.2.2.2.2.2.2.2.2.2.2.2.2.2.2.2.2.2.2.2.2.2.2.2.1 r.2.2.2.2.2.2.2.2.2.2.2.2.2.2.2.2.2.2.2.2.2.2.2.2.2.2.2.2.2.2.2.2.2.2.2.2.2.2.2.2.2.2.2.2.2.2.2.2.2.2.2.2.2.2.2.2.2.2.2.2.2.2.2.2.2.2.2), true) :: [])], []⟩
def laws_toMsg.ans (k : Nat) : List Arg → Ans
  | [.v (.agg l0)] => (takeI l0 fun a0_0 l0 => (takeI l0 fun a0_1 l0 => (takeI l0 fun a0_2 l0 => (takeN 5 l0 fun a0_3z a0_3 l0 => (takeI l0 fun a0_4 l0 => (takeN 5 l0 fun a0_5z a0_5 l0 => (takeI l0 fun a0_6 l0 => (takeI l0 fun a0_7 l0 => (takeN 5 l0 fun a0_8z a0_8 l0 => (takeN 5 l0 fun a0_9z a0_9 l0 => (takeS 22 l0 fun a0_10z a0_10 l0 => (takeI l0 fun a0_11 l0 => (takeI l0 fun a0_12 l0 => (takeI l0 fun a0_13 l0 => (takeN 5 l0 fun a0_14z a0_14 l0 => (takeN 5 l0 fun a0_15z a0_15 l0 => (takeI l0 fun a0_16 l0 => (takeI l0 fun a0_17 l0 => (takeN 5 l0 fun a0_18z a0_18 l0 => (takeN 5 l0 fun a0_19z a0_19 l0 => (takeS 22 l0 fun a0_20z a0_20 l0 => (takeI l0 fun a0_21 l0 => (takeI l0 fun a0_22 l0 => (takeI l0 fun a0_23 l0 => (takeN 5 l0 fun a0_24z a0_24 l0 => (takeN 5 l0 fun a0_25z a0_25 l0 => (takeI l0 fun a0_26 l0 => (takeI l0 fun a0_27 l0 => (takeN 5 l0 fun a0_28z a0_28 l0 => (takeN 5 l0 fun a0_29z a0_29 l0 => (takeS 22 l0 fun a0_30z a0_30 l0 => (takeS 22 l0 fun a0_31z a0_31 l0 => (takeI l0 fun a0_32 l0 => (takeS 114 l0 fun a0_33z a0_33 l0 => (takeS 29 l0 fun a0_34z a0_34 l0 => (takeI l0 fun a0_35 l0 => (takeI l0 fun a0_36 l0 => (takeN 5 l0 fun a0_37z a0_37 l0 => (takeN 5 l0 fun a0_38z a0_38 l0 => (takeS 22 l0 fun a0_39z a0_39 l0 => (takeI l0 fun a0_40 l0 => (takeI l0 fun a0_41 l0 => (takeI l0 fun a0_42 l0 => (takeN 5 l0 fun a0_43z a0_43 l0 => (takeS 22 l0 fun a0_44z a0_44 l0 => (takeE l0 ⟨laws_toMsg.f k a0_0 a0_1 a0_2 a0_3z a0_3 a0_4 a0_5z a0_5 a0_6 a0_7 a0_8z a0_8 a0_9z a0_9 a0_10z a0_10 a0_11 a0_12 a0_13 a0_14z a0_14 a0_15z a0_15 a0_16 a0_17 a0_18z a0_18 a0_19z a0_19 a0_20z a0_20 a0_21 a0_22 a0_23 a0_24z a0_24 a0_25z a0_25 a0_26 a0_27 a0_28z a0_28 a0_29z a0_29 a0_30z a0_30 a0_31z a0_31 a0_32 a0_33z a0_33 a0_34z a0_34 a0_35 a0_36 a0_37z a0_37 a0_38z a0_38 a0_39z a0_39 a0_40 a0_41 a0_42 a0_43z a0_43 a0_44z a0_44, laws_toMsg.enc⟩))))))))))))))))))))))))))))))))))))))))))))))
  | _ => Ans.no
def laws_toMsg.Cs (k : Nat) : CallSem := tab [(23, laws_toVote.ans k), (24, laws_toQc.ans k), (25, laws_toHead.ans k), (26, laws_toBlock.ans k), (27, laws_toTc.ans k), (28, laws_toProof.ans k), (29, laws_toIncl.ans k)]
def laws_toMsg.cuts : List (Nat × Keep) := []
theorem laws_toMsg.s (k : Nat) (a0_0 : Int) (a0_1 : Int) (a0_2 : Int) (a0_3z : Bool) (a0_3 : List Int) (a0_4 : Int) (a0_5z : Bool) (a0_5 : List Int) (a0_6 : Int) (a0_7 : Int) (a0_8z : Bool) (a0_8 : List Int) (a0_9z : Bool) (a0_9 : List Int) (a0_10z : Bool) (a0_10 : List T) (a0_11 : Int) (a0_12 : Int) (a0_13 : Int) (a0_14z : Bool) (a0_14 : List Int) (a0_15z : Bool) (a0_15 : List Int) (a0_16 : Int) (a0_17 : Int) (a0_18z : Bool) (a0_18 : List Int) (a0_19z : Bool) (a0_19 : List Int) (a0_20z : Bool) (a0_20 : List T) (a0_21 : Int) (a0_22 : Int) (a0_23 : Int) (a0_24z : Bool) (a0_24 : List Int) (a0_25z : Bool) (a0_25 : List Int) (a0_26 : Int) (a0_27 : Int) (a0_28z : Bool) (a0_28 : List Int) (a0_29z : Bool) (a0_29 : List Int) (a0_30z : Bool) (a0_30 : List T) (a0_31z : Bool) (a0_31 : List T) (a0_32 : Int) (a0_33z : Bool) (a0_33 : List T) (a0_34z : Bool) (a0_34 : List T) (a0_35 : Int) (a0_36 : Int) (a0_37z : Bool) (a0_37 : List Int) (a0_38z : Bool) (a0_38 : List Int) (a0_39z : Bool) (a0_39 : List T) (a0_40 : Int) (a0_41 : Int) (a0_42 : Int) (a0_43z : Bool) (a0_43 : List Int) (a0_44z : Bool) (a0_44 : List T) : answer Tryz.prog laws_toMsg.Cs 100000 laws_toMsg.cuts [] Tryz.f6 (k + 1) [.v (.agg ((.int .i64 a0_0) :: (.int .i64 a0_1) :: (.int .i64 a0_2) :: (.nums 5 .u8 a0_3z a0_3) :: (.int .i64 a0_4) :: (.nums 5 .u8 a0_5z a0_5) :: (.int .i64 a0_6) :: (.int .i64 a0_7) :: (.nums 5 .u8 a0_8z a0_8) :: (.nums 5 .u8 a0_9z a0_9) :: (.sl 22 a0_10z a0_10) :: (.int .i64 a0_11) :: (.int .i64 a0_12) :: (.int .i64 a0_13) :: (.nums 5 .u8 a0_14z a0_14) :: (.nums 5 .u8 a0_15z a0_15) :: (.int .i64 a0_16) :: (.int .i64 a0_17) :: (.nums 5 .u8 a0_18z a0_18) :: (.nums 5 .u8 a0_19z a0_19) :: (.sl 22 a0_20z a0_20) :: (.int .i64 a0_21) :: (.int .i64 a0_22) :: (.int .i64 a0_23) :: (.nums 5 .u8 a0_24z a0_24) :: (.nums 5 .u8 a0_25z a0_25) :: (.int .i64 a0_26) :: (.int .i64 a0_27) :: (.nums 5 .u8 a0_28z a0_28) :: (.nums 5 .u8 a0_29z a0_29) :: (.sl 22 a0_30z a0_30) :: (.sl 22 a0_31z a0_31) :: (.int .i64 a0_32) :: (.sl 114 a0_33z a0_33) :: (.sl 29 a0_34z a0_34) :: (.int .i64 a0_35) :: (.int .i64 a0_36) :: (.nums 5 .u8 a0_37z a0_37) :: (.nums 5 .u8 a0_38z a0_38) :: (.sl 22 a0_39z a0_39) :: (.int .i64 a0_40) :: (.int .i64 a0_41) :: (.int .i64 a0_42) :: (.nums 5 .u8 a0_43z a0_43) :: (.sl 22 a0_44z a0_44) :: []))] = laws_toMsg.b (fun r => some (laws_toMsg.enc r)) k a0_0 a0_1 a0_2 a0_3z a0_3 a0_4 a0_5z a0_5 a0_6 a0_7 a0_8z a0_8 a0_9z a0_9 a0_10z a0_10 a0_11 a0_12 a0_13 a0_14z a0_14 a0_15z a0_15 a0_16 a0_17 a0_18z a0_18 a0_19z a0_19 a0_20z a0_20 a0_21 a0_22 a0_23 a0_24z a0_24 a0_25z a0_25 a0_26 a0_27 a0_28z a0_28 a0_29z a0_29 a0_30z a0_30 a0_31z a0_31 a0_32 a0_33z a0_33 a0_34z a0_34 a0_35 a0_36 a0_37z a0_37 a0_38z a0_38 a0_39z a0_39 a0_40 a0_41 a0_42 a0_43z a0_43 a0_44z a0_44 := by kernel_rfl
theorem laws_toMsg.b_nat {R R' : Type} (e : R → R') (ret : Int × Int × Int × Bool × (List Int) × Int × Bool × (List Int) × Int × Int × Bool × (List Int) × Bool × (List Int) × Bool × (List T) × Int × Int × Int × Bool × (List Int) × Bool × (List Int) × Int × Int × Bool × (List Int) × Bool × (List Int) × Bool × (List T) × Int × Int × Int × Bool × (List Int) × Bool × (List Int) × Int × Int × Bool × (List Int) × Bool × (List Int) × Bool × (List T) × Bool × (List T) × Int × Bool × (List T) × Bool × (List T) × Int × Int × Bool × (List Int) × Bool × (List Int) × Bool × (List T) × Int × Int × Int × Bool × (List Int) × Bool × List T → Option R) (k : Nat) (a0_0 : Int) (a0_1 : Int) (a0_2 : Int) (a0_3z : Bool) (a0_3 : List Int) (a0_4 : Int) (a0_5z : Bool) (a0_5 : List Int) (a0_6 : Int) (a0_7 : Int) (a0_8z : Bool) (a0_8 : List Int) (a0_9z : Bool) (a0_9 : List Int) (a0_10z : Bool) (a0_10 : List T) (a0_11 : Int) (a0_12 : Int) (a0_13 : Int) (a0_14z : Bool) (a0_14 : List Int) (a0_15z : Bool) (a0_15 : List Int) (a0_16 : Int) (a0_17 : Int) (a0_18z : Bool) (a0_18 : List Int) (a0_19z : Bool) (a0_19 : List Int) (a0_20z : Bool) (a0_20 : List T) (a0_21 : Int) (a0_22 : Int) (a0_23 : Int) (a0_24z : Bool) (a0_24 : List Int) (a0_25z : Bool) (a0_25 : List Int) (a0_26 : Int) (a0_27 : Int) (a0_28z : Bool) (a0_28 : List Int) (a0_29z : Bool) (a0_29 : List Int) (a0_30z : Bool) (a0_30 : List T) (a0_31z : Bool) (a0_31 : List T) (a0_32 : Int) (a0_33z : Bool) (a0_33 : List T) (a0_34z : Bool) (a0_34 : List T) (a0_35 : Int) (a0_36 : Int) (a0_37z : Bool) (a0_37 : List Int) (a0_38z : Bool) (a0_38 : List Int) (a0_39z : Bool) (a0_39 : List T) (a0_40 : Int) (a0_41 : Int) (a0_42 : Int) (a0_43z : Bool) (a0_43 : List Int) (a0_44z : Bool) (a0_44 : List T) : laws_toMsg.b (fun r => (ret r).map e) k a0_0 a0_1 a0_2 a0_3z a0_3 a0_4 a0_5z a0_5 a0_6 a0_7 a0_8z a0_8 a0_9z a0_9 a0_10z a0_10 a0_11 a0_12 a0_13 a0_14z a0_14 a0_15z a0_15 a0_16 a0_17 a0_18z a0_18 a0_19z a0_19 a0_20z a0_20 a0_21 a0_22 a0_23 a0_24z a0_24 a0_25z a0_25 a0_26 a0_27 a0_28z a0_28 a0_29z a0_29 a0_30z a0_30 a0_31z a0_31 a0_32 a0_33z a0_33 a0_34z a0_34 a0_35 a0_36 a0_37z a0_37 a0_38z a0_38 a0_39z a0_39 a0_40 a0_41 a0_42 a0_43z a0_43 a0_44z a0_44 = (laws_toMsg.b ret k a0_0 a0_1 a0_2 a0_3z a0_3 a0_4 a0_5z a0_5 a0_6 a0_7 a0_8z a0_8 a0_9z a0_9 a0_10z a0_10 a0_11 a0_12 a0_13 a0_14z a0_14 a0_15z a0_15 a0_16 a0_17 a0_18z a0_18 a0_19z a0_19 a0_20z a0_20 a0_21 a0_22 a0_23 a0_24z a0_24 a0_25z a0_25 a0_26 a0_27 a0_28z a0_28 a0_29z a0_29 a0_30z a0_30 a0_31z a0_31 a0_32 a0_33z a0_33 a0_34z a0_34 a0_35 a0_36 a0_37z a0_37 a0_38z a0_38 a0_39z a0_39 a0_40 a0_41 a0_42 a0_43z a0_43 a0_44z a0_44).map e := by
  unfold laws_toMsg.b
  repeat' first | with_reducible refine nat_cond ?_ ?_ | with_reducible refine nat_bind fun _ => ?_ | rfl
theorem laws_toMsg.eq (k : Nat) (a0_0 : Int) (a0_1 : Int) (a0_2 : Int) (a0_3z : Bool) (a0_3 : List Int) (a0_4 : Int) (a0_5z : Bool) (a0_5 : List Int) (a0_6 : Int) (a0_7 : Int) (a0_8z : Bool) (a0_8 : List Int) (a0_9z : Bool) (a0_9 : List Int) (a0_10z : Bool) (a0_10 : List T) (a0_11 : Int) (a0_12 : Int) (a0_13 : Int) (a0_14z : Bool) (a0_14 : List Int) (a0_15z : Bool) (a0_15 : List Int) (a0_16 : Int) (a0_17 : Int) (a0_18z : Bool) (a0_18 : List Int) (a0_19z : Bool) (a0_19 : List Int) (a0_20z : Bool) (a0_20 : List T) (a0_21 : Int) (a0_22 : Int) (a0_23 : Int) (a0_24z : Bool) (a0_24 : List Int) (a0_25z : Bool) (a0_25 : List Int) (a0_26 : Int) (a0_27 : Int) (a0_28z : Bool) (a0_28 : List Int) (a0_29z : Bool) (a0_29 : List Int) (a0_30z : Bool) (a0_30 : List T) (a0_31z : Bool) (a0_31 : List T) (a0_32 : Int) (a0_33z : Bool) (a0_33 : List T) (a0_34z : Bool) (a0_34 : List T) (a0_35 : Int) (a0_36 : Int) (a0_37z : Bool) (a0_37 : List Int) (a0_38z : Bool) (a0_38 : List Int) (a0_39z : Bool) (a0_39 : List T) (a0_40 : Int) (a0_41 : Int) (a0_42 : Int) (a0_43z : Bool) (a0_43 : List Int) (a0_44z : Bool) (a0_44 : List T) : answer Tryz.prog laws_toMsg.Cs 100000 laws_toMsg.cuts [] Tryz.f6 (k + 1) [.v (.agg ((.int .i64 a0_0) :: (.int .i64 a0_1) :: (.int .i64 a0_2) :: (.nums 5 .u8 a0_3z a0_3) :: (.int .i64 a0_4) :: (.nums 5 .u8 a0_5z a0_5) :: (.int .i64 a0_6) :: (.int .i64 a0_7) :: (.nums 5 .u8 a0_8z a0_8) :: (.nums 5 .u8 a0_9z a0_9) :: (.sl 22 a0_10z a0_10) :: (.int .i64 a0_11) :: (.int .i64 a0_12) :: (.int .i64 a0_13) :: (.nums 5 .u8 a0_14z a0_14) :: (.nums 5 .u8 a0_15z a0_15) :: (.int .i64 a0_16) :: (.int .i64 a0_17) :: (.nums 5 .u8 a0_18z a0_18) :: (.nums 5 .u8 a0_19z a0_19) :: (.sl 22 a0_20z a0_20) :: (.int .i64 a0_21) :: (.int .i64 a0_22) :: (.int .i64 a0_23) :: (.nums 5 .u8 a0_24z a0_24) :: (.nums 5 .u8 a0_25z a0_25) :: (.int .i64 a0_26) :: (.int .i64 a0_27) :: (.nums 5 .u8 a0_28z a0_28) :: (.nums 5 .u8 a0_29z a0_29) :: (.sl 22 a0_30z a0_30) :: (.sl 22 a0_31z a0_31) :: (.int .i64 a0_32) :: (.sl 114 a0_33z a0_33) :: (.sl 29 a0_34z a0_34) :: (.int .i64 a0_35) :: (.int .i64 a0_36) :: (.nums 5 .u8 a0_37z a0_37) :: (.nums 5 .u8 a0_38z a0_38) :: (.sl 22 a0_39z a0_39) :: (.int .i64 a0_40) :: (.int .i64 a0_41) :: (.int .i64 a0_42) :: (.nums 5 .u8 a0_43z a0_43) :: (.sl 22 a0_44z a0_44) :: []))] = (laws_toMsg.f (k + 1) a0_0 a0_1 a0_2 a0_3z a0_3 a0_4 a0_5z a0_5 a0_6 a0_7 a0_8z a0_8 a0_9z a0_9 a0_10z a0_10 a0_11 a0_12 a0_13 a0_14z a0_14 a0_15z a0_15 a0_16 a0_17 a0_18z a0_18 a0_19z a0_19 a0_20z a0_20 a0_21 a0_22 a0_23 a0_24z a0_24 a0_25z a0_25 a0_26 a0_27 a0_28z a0_28 a0_29z a0_29 a0_30z a0_30 a0_31z a0_31 a0_32 a0_33z a0_33 a0_34z a0_34 a0_35 a0_36 a0_37z a0_37 a0_38z a0_38 a0_39z a0_39 a0_40 a0_41 a0_42 a0_43z a0_43 a0_44z a0_44).map laws_toMsg.enc := by
  refine (laws_toMsg.s k a0_0 a0_1 a0_2 a0_3z a0_3 a0_4 a0_5z a0_5 a0_6 a0_7 a0_8z a0_8 a0_9z a0_9 a0_10z a0_10 a0_11 a0_12 a0_13 a0_14z a0_14 a0_15z a0_15 a0_16 a0_17 a0_18z a0_18 a0_19z a0_19 a0_20z a0_20 a0_21 a0_22 a0_23 a0_24z a0_24 a0_25z a0_25 a0_26 a0_27 a0_28z a0_28 a0_29z a0_29 a0_30z a0_30 a0_31z a0_31 a0_32 a0_33z a0_33 a0_34z a0_34 a0_35 a0_36 a0_37z a0_37 a0_38z a0_38 a0_39z a0_39 a0_40 a0_41 a0_42 a0_43z a0_43 a0_44z a0_44).trans (Eq.trans ?_ (laws_toMsg.b_nat laws_toMsg.enc some k a0_0 a0_1 a0_2 a0_3z a0_3 a0_4 a0_5z a0_5 a0_6 a0_7 a0_8z a0_8 a0_9z a0_9 a0_10z a0_10 a0_11 a0_12 a0_13 a0_14z a0_14 a0_15z a0_15 a0_16 a0_17 a0_18z a0_18 a0_19z a0_19 a0_20z a0_20 a0_21 a0_22 a0_23 a0_24z a0_24 a0_25z a0_25 a0_26 a0_27 a0_28z a0_28 a0_29z a0_29 a0_30z a0_30 a0_31z a0_31 a0_32 a0_33z a0_33 a0_34z a0_34 a0_35 a0_36 a0_37z a0_37 a0_38z a0_38 a0_39z a0_39 a0_40 a0_41 a0_42 a0_43z a0_43 a0_44z a0_44))
  simp only [Option.map_some]
theorem laws_toMsg.sound (k : Nat) : SoundF Tryz.prog 6 (fun a => (laws_toMsg.ans k a).val) := by
  refine sound_plain (fun args res h => ?_) (fun t n => rfl)
  unfold laws_toMsg.ans at h
  dsimp only at h
  split at h
  ·
    obtain ⟨_, _, e, g⟩ := takeI_val h; clear h; subst e; have h := g; clear g
    obtain ⟨_, _, e, g⟩ := takeI_val h; clear h; subst e; have h := g; clear g
    obtain ⟨_, _, e, g⟩ := takeI_val h; clear h; subst e; have h := g; clear g
    obtain ⟨_, _, _, e, g⟩ := takeN_val h; clear h; subst e; have h := g; clear g
    obtain ⟨_, _, e, g⟩ := takeI_val h; clear h; subst e; have h := g; clear g
    obtain ⟨_, _, _, e, g⟩ := takeN_val h; clear h; subst e; have h := g; clear g
    obtain ⟨_, _, e, g⟩ := takeI_val h; clear h; subst e; have h := g; clear g
    obtain ⟨_, _, e, g⟩ := takeI_val h; clear h; subst e; have h := g; clear g
    obtain ⟨_, _, _, e, g⟩ := takeN_val h; clear h; subst e; have h := g; clear g
    obtain ⟨_, _, _, e, g⟩ := takeN_val h; clear h; subst e; have h := g; clear g
    obtain ⟨_, _, _, e, g⟩ := takeS_val h; clear h; subst e; have h := g; clear g
    obtain ⟨_, _, e, g⟩ := takeI_val h; clear h; subst e; have h := g; clear g
    obtain ⟨_, _, e, g⟩ := takeI_val h; clear h; subst e; have h := g; clear g
    obtain ⟨_, _, e, g⟩ := takeI_val h; clear h; subst e; have h := g; clear g
    obtain ⟨_, _, _, e, g⟩ := takeN_val h; clear h; subst e; have h := g; clear g
    obtain ⟨_, _, _, e, g⟩ := takeN_val h; clear h; subst e; have h := g; clear g
    obtain ⟨_, _, e, g⟩ := takeI_val h; clear h; subst e; have h := g; clear g
    obtain ⟨_, _, e, g⟩ := takeI_val h; clear h; subst e; have h := g; clear g
    obtain ⟨_, _, _, e, g⟩ := takeN_val h; clear h; subst e; have h := g; clear g
    obtain ⟨_, _, _, e, g⟩ := takeN_val h; clear h; subst e; have h := g; clear g
    obtain ⟨_, _, _, e, g⟩ := takeS_val h; clear h; subst e; have h := g; clear g
    obtain ⟨_, _, e, g⟩ := takeI_val h; clear h; subst e; have h := g; clear g
    obtain ⟨_, _, e, g⟩ := takeI_val h; clear h; subst e; have h := g; clear g
    obtain ⟨_, _, e, g⟩ := takeI_val h; clear h; subst e; have h := g; clear g
    obtain ⟨_, _, _, e, g⟩ := takeN_val h; clear h; subst e; have h := g; clear g
    obtain ⟨_, _, _, e, g⟩ := takeN_val h; clear h; subst e; have h := g; clear g
    obtain ⟨_, _, e, g⟩ := takeI_val h; clear h; subst e; have h := g; clear g
    obtain ⟨_, _, e, g⟩ := takeI_val h; clear h; subst e; have h := g; clear g
    obtain ⟨_, _, _, e, g⟩ := takeN_val h; clear h; subst e; have h := g; clear g
    obtain ⟨_, _, _, e, g⟩ := takeN_val h; clear h; subst e; have h := g; clear g
    obtain ⟨_, _, _, e, g⟩ := takeS_val h; clear h; subst e; have h := g; clear g
    obtain ⟨_, _, _, e, g⟩ := takeS_val h; clear h; subst e; have h := g; clear g
    obtain ⟨_, _, e, g⟩ := takeI_val h; clear h; subst e; have h := g; clear g
    obtain ⟨_, _, _, e, g⟩ := takeS_val h; clear h; subst e; have h := g; clear g
    obtain ⟨_, _, _, e, g⟩ := takeS_val h; clear h; subst e; have h := g; clear g
    obtain ⟨_, _, e, g⟩ := takeI_val h; clear h; subst e; have h := g; clear g
    obtain ⟨_, _, e, g⟩ := takeI_val h; clear h; subst e; have h := g; clear g
    obtain ⟨_, _, _, e, g⟩ := takeN_val h; clear h; subst e; have h := g; clear g
    obtain ⟨_, _, _, e, g⟩ := takeN_val h; clear h; subst e; have h := g; clear g
    obtain ⟨_, _, _, e, g⟩ := takeS_val h; clear h; subst e; have h := g; clear g
    obtain ⟨_, _, e, g⟩ := takeI_val h; clear h; subst e; have h := g; clear g
    obtain ⟨_, _, e, g⟩ := takeI_val h; clear h; subst e; have h := g; clear g
    obtain ⟨_, _, e, g⟩ := takeI_val h; clear h; subst e; have h := g; clear g
    obtain ⟨_, _, _, e, g⟩ := takeN_val h; clear h; subst e; have h := g; clear g
    obtain ⟨_, _, _, e, g⟩ := takeS_val h; clear h; subst e; have h := g; clear g
    obtain ⟨e, g⟩ := takeE_val h; clear h; subst e; have h := g; clear g
    cases k with
    | zero => cases h
    | succ k =>
      unfold Ans.val at h
      rw [← laws_toMsg.eq] at h
      exact answer_sound mixed Tryz.func6 _ _ _ (k + 1) (fun j _ => tab_sound (tab_cons (laws_toVote.sound j) (tab_cons (laws_toQc.sound j) (tab_cons (laws_toHead.sound j) (tab_cons (laws_toBlock.sound j) (tab_cons (laws_toTc.sound j) (tab_cons (laws_toProof.sound j) (tab_cons (laws_toIncl.sound j) (tab_nil))))))))) _ _ h
  · exact (Ans.no_val h).elim

/-! loop.example/g00790/spec.l01In -/
def spec_l01In.b {R : Type} (ret : Bool → Option R) (k : Nat) (a0 : Int) (a1 : Int) (a2 : Int) : Option R :=
  cond (decide (a0 ≥ a1)) (ret (decide (a0 ≤ a2))) (ret false)
def spec_l01In.f : Nat → Int → Int → Int → Option Bool
  | 0, _, _, _ => none
  | k + 1, a0, a1, a2 => spec_l01In.b some k a0 a1 a2
def spec_l01In.enc (r : Bool) : Res := ⟨[.vals false [((.bool r), true)]], []⟩
def spec_l01In.ans (k : Nat) : List Arg → Ans
  | [.v (.int .i64 a0), .v (.int .i64 a1), .v (.int .i64 a2)] => ⟨spec_l01In.f k a0 a1 a2, spec_l01In.enc⟩
  | _ => Ans.no
def spec_l01In.Cs (k : Nat) : CallSem := tab []
def spec_l01In.cuts : List (Nat × Keep) := []
theorem spec_l01In.s (k : Nat) (a0 : Int) (a1 : Int) (a2 : Int) : answer Tryz.prog spec_l01In.Cs 100000 spec_l01In.cuts [] Tryz.f78 (k + 1) [.v (.int .i64 a0), .v (.int .i64 a1), .v (.int .i64 a2)] = spec_l01In.b (fun r => some (spec_l01In.enc r)) k a0 a1 a2 := by kernel_rfl
theorem spec_l01In.b_nat {R R' : Type} (e : R → R') (ret : Bool → Option R) (k : Nat) (a0 : Int) (a1 : Int) (a2 : Int) : spec_l01In.b (fun r => (ret r).map e) k a0 a1 a2 = (spec_l01In.b ret k a0 a1 a2).map e := by
  unfold spec_l01In.b
  repeat' first | with_reducible refine nat_cond ?_ ?_ | with_reducible refine nat_bind fun _ => ?_ | rfl
theorem spec_l01In.eq (k : Nat) (a0 : Int) (a1 : Int) (a2 : Int) : answer Tryz.prog spec_l01In.Cs 100000 spec_l01In.cuts [] Tryz.f78 (k + 1) [.v (.int .i64 a0), .v (.int .i64 a1), .v (.int .i64 a2)] = (spec_l01In.f (k + 1) a0 a1 a2).map spec_l01In.enc := by
  refine (spec_l01In.s k a0 a1 a2).trans (Eq.trans ?_ (spec_l01In.b_nat spec_l01In.enc some k a0 a1 a2))
  simp only [Option.map_some]
theorem spec_l01In.sound (k : Nat) : SoundF Tryz.prog 78 (fun a => (spec_l01In.ans k a).val) := by
  refine sound_plain (fun args res h => ?_) (fun t n => rfl)
  unfold spec_l01In.ans at h
  dsimp only at h
  split at h
  · cases k with
    | zero => cases h
    | succ k =>
      unfold Ans.val at h
      rw [← spec_l01In.eq] at h
      exact answer_sound mixed Tryz.func78 _ _ _ (k + 1) (fun j _ => tab_sound (tab_nil)) _ _ h
  · exact (Ans.no_val h).elim

/-! loop.example/g00790/spec.l01Num -/
def spec_l01Num.b {R : Type} (ret : Bool → Option R) (k : Nat) (a0 : Int) : Option R :=
  (spec_l01In.f k a0 0 1152921504606846975).bind fun t0 => ret t0
def spec_l01Num.f : Nat → Int → Option Bool
  | 0, _ => none
  | k + 1, a0 => spec_l01Num.b some k a0
def spec_l01Num.enc (r : Bool) : Res := ⟨[.vals false [((.bool r), true)]], []⟩
def spec_l01Num.ans (k : Nat) : List Arg → Ans
  | [.v (.int .i64 a0)] => ⟨spec_l01Num.f k a0, spec_l01Num.enc⟩
  | _ => Ans.no
def spec_l01Num.Cs (k : Nat) : CallSem := tab [(78, spec_l01In.ans k)]
def spec_l01Num.cuts : List (Nat × Keep) := []
theorem spec_l01Num.s (k : Nat) (a0 : Int) : answer Tryz.prog spec_l01Num.Cs 100000 spec_l01Num.cuts [] Tryz.f69 (k + 1) [.v (.int .i64 a0)] = spec_l01Num.b (fun r => some (spec_l01Num.enc r)) k a0 := by kernel_rfl
theorem spec_l01Num.b_nat {R R' : Type} (e : R → R') (ret : Bool → Option R) (k : Nat) (a0 : Int) : spec_l01Num.b (fun r => (ret r).map e) k a0 = (spec_l01Num.b ret k a0).map e := by
  unfold spec_l01Num.b
  repeat' first | with_reducible refine nat_cond ?_ ?_ | with_reducible refine nat_bind fun _ => ?_ | rfl
theorem spec_l01Num.eq (k : Nat) (a0 : Int) : answer Tryz.prog spec_l01Num.Cs 100000 spec_l01Num.cuts [] Tryz.f69 (k + 1) [.v (.int .i64 a0)] = (spec_l01Num.f (k + 1) a0).map spec_l01Num.enc := by
  refine (spec_l01Num.s k a0).trans (Eq.trans ?_ (spec_l01Num.b_nat spec_l01Num.enc some k a0))
  simp only [Option.map_some]
theorem spec_l01Num.sound (k : Nat) : SoundF Tryz.prog 69 (fun a => (spec_l01Num.ans k a).val) := by
  refine sound_plain (fun args res h => ?_) (fun t n => rfl)
  unfold spec_l01Num.ans at h
  dsimp only at h
  split at h
  · cases k with
    | zero => cases h
    | succ k =>
      unfold Ans.val at h
      rw [← spec_l01Num.eq] at h
      exact answer_sound mixed Tryz.func69 _ _ _ (k + 1) (fun j _ => tab_sound (tab_cons (spec_l01In.sound j) (tab_nil))) _ _ h
  · exact (Ans.no_val h).elim

/-! loop.example/g00790/spec.NumText -/
def spec_NumText.b {R : Type} (ret : ByteArray → Option R) (j0 : Int → ByteArray → Option R) (k : Nat) (a0 : Int) : Option R :=
  (spec_l01Num.f k a0).bind fun t0 => cond (!t0) (ret (⟨#[]⟩ : ByteArray)) (j0 a0 (⟨#[]⟩ : ByteArray))
def spec_NumText.l0b {R : Type} (ret : ByteArray → Option R) (j0 : Int → ByteArray → Option R) (k : Nat) (x0 : Int) (x3 : ByteArray) : Option R :=
  cond (decide (x0 > 9)) (cond (decide (((strOf ([(((RowKit.wrap64 ((48 : Int) + (Int.tmod x0 10)))) % 256)] : List Int))).size + (x3).size ≤ 140737488355328)) (j0 (RowKit.wrap64 (Int.tdiv x0 10)) ((strOf ([(((RowKit.wrap64 ((48 : Int) + (Int.tmod x0 10)))) % 256)] : List Int)) ++ x3)) (none)) (cond (decide (((strOf ([(((RowKit.wrap64 ((48 : Int) + x0))) % 256)] : List Int))).size + (x3).size ≤ 140737488355328)) (ret ((strOf ([(((RowKit.wrap64 ((48 : Int) + x0))) % 256)] : List Int)) ++ x3)) (none))
def spec_NumText.l0 : Nat → Int → ByteArray → Option ByteArray
  | 0, _, _ => none
  | k + 1, x0, x3 => spec_NumText.l0b some (spec_NumText.l0 k) k x0 x3
def spec_NumText.f : Nat → Int → Option ByteArray
  | 0, _ => none
  | k + 1, a0 => spec_NumText.b some (spec_NumText.l0 k) k a0
def spec_NumText.enc (r : ByteArray) : Res := ⟨[.vals false [((.str r), true)]], []⟩
def spec_NumText.ans (k : Nat) : List Arg → Ans
  | [.v (.int .i64 a0)] => ⟨spec_NumText.f k a0, spec_NumText.enc⟩
  | _ => Ans.no
def spec_NumText.Cs (k : Nat) : CallSem := tab [(69, spec_l01Num.ans k)]
def spec_NumText.cuts : List (Nat × Keep) := [(60, ⟨[(0, some []), (3, some [])], []⟩)]
noncomputable def spec_NumText.K0 : List Fr := framesAt [true, true, true, false, false] (bodyOf Tryz.f48 spec_NumText.cuts) []
def spec_NumText.N0 (x0 : Int) (x3 : ByteArray) : St := stOf 26 26 1 [(0, .val (V.s (.int .i64 x0))), (3, .val (V.s (.str x3)))] []
theorem spec_NumText.s (k : Nat) (a0 : Int) : answer Tryz.prog spec_NumText.Cs 100000 spec_NumText.cuts [] Tryz.f48 (k + 1) [.v (.int .i64 a0)] = spec_NumText.b (fun r => some (spec_NumText.enc r)) (fun x0 x3 => rounds Tryz.prog spec_NumText.Cs (finish Tryz.prog [] Tryz.f48 [.v (.int .i64 a0)]) 100000 k spec_NumText.K0 (spec_NumText.N0 x0 x3)) k a0 := by kernel_rfl
theorem spec_NumText.s0 (k : Nat) (G : List Fr → St → Option Res) (a0 : Int) (yx0 : Int) (yx3 : ByteArray) : resume Tryz.prog (spec_NumText.Cs k) G (finish Tryz.prog [] Tryz.f48 [.v (.int .i64 a0)]) 100000 spec_NumText.K0 (spec_NumText.N0 yx0 yx3) = spec_NumText.l0b (fun r => some (spec_NumText.enc r)) (fun x0 x3 => G spec_NumText.K0 (spec_NumText.N0 x0 x3)) k yx0 yx3 := by kernel_rfl
theorem spec_NumText.b_nat {R R' : Type} (e : R → R') (ret : ByteArray → Option R) (j0 : Int → ByteArray → Option R) (k : Nat) (a0 : Int) : spec_NumText.b (fun r => (ret r).map e) (fun x0 x3 => (j0 x0 x3).map e) k a0 = (spec_NumText.b ret j0 k a0).map e := by
  unfold spec_NumText.b
  repeat' first | with_reducible refine nat_cond ?_ ?_ | with_reducible refine nat_bind fun _ => ?_ | rfl
theorem spec_NumText.l0b_nat {R R' : Type} (e : R → R') (ret : ByteArray → Option R) (j0 : Int → ByteArray → Option R) (k : Nat) (x0 : Int) (x3 : ByteArray) : spec_NumText.l0b (fun r => (ret r).map e) (fun x0 x3 => (j0 x0 x3).map e) k x0 x3 = (spec_NumText.l0b ret j0 k x0 x3).map e := by
  unfold spec_NumText.l0b
  repeat' first | with_reducible refine nat_cond ?_ ?_ | with_reducible refine nat_bind fun _ => ?_ | rfl
theorem spec_NumText.rounds_eq (a0 : Int) : ∀ k, (∀ (x0 : Int) (x3 : ByteArray), rounds Tryz.prog spec_NumText.Cs (finish Tryz.prog [] Tryz.f48 [.v (.int .i64 a0)]) 100000 k spec_NumText.K0 (spec_NumText.N0 x0 x3) = (spec_NumText.l0 k x0 x3).map spec_NumText.enc)
  | 0 => fun _ _ => rfl
  | k + 1 => by
    have ih := spec_NumText.rounds_eq a0 k
    refine fun _ _ => ?_
    · refine (spec_NumText.s0 k _ a0 _ _).trans (Eq.trans ?_ (spec_NumText.l0b_nat spec_NumText.enc some (spec_NumText.l0 k) k _ _))
      simp only [ih, Option.map_some]
theorem spec_NumText.eq (k : Nat) (a0 : Int) : answer Tryz.prog spec_NumText.Cs 100000 spec_NumText.cuts [] Tryz.f48 (k + 1) [.v (.int .i64 a0)] = (spec_NumText.f (k + 1) a0).map spec_NumText.enc := by
  have ih := spec_NumText.rounds_eq a0 k
  refine (spec_NumText.s k a0).trans (Eq.trans ?_ (spec_NumText.b_nat spec_NumText.enc some (spec_NumText.l0 k) k a0))
  simp only [ih, Option.map_some]
theorem spec_NumText.sound (k : Nat) : SoundF Tryz.prog 48 (fun a => (spec_NumText.ans k a).val) := by
  refine sound_plain (fun args res h => ?_) (fun t n => rfl)
  unfold spec_NumText.ans at h
  dsimp only at h
  split at h
  · cases k with
    | zero => cases h
    | succ k =>
      unfold Ans.val at h
      rw [← spec_NumText.eq] at h
      exact answer_sound mixed Tryz.func48 _ _ _ (k + 1) (fun j _ => tab_sound (tab_cons (spec_l01Num.sound j) (tab_nil))) _ _ h
  · exact (Ans.no_val h).elim

/-! loop.example/g00790/spec.l01Hex -/
def spec_l01Hex.b {R : Type} (ret : Int → Option R) (k : Nat) (a0 : Int) : Option R :=
  cond (decide (a0 < 10)) (ret (((RowKit.wrap64 ((48 : Int) + a0))) % 256)) (ret (((RowKit.wrap64 ((87 : Int) + a0))) % 256))
def spec_l01Hex.f : Nat → Int → Option Int
  | 0, _ => none
  | k + 1, a0 => spec_l01Hex.b some k a0
def spec_l01Hex.enc (r : Int) : Res := ⟨[.vals false [((.int .u8 r), true)]], []⟩
def spec_l01Hex.ans (k : Nat) : List Arg → Ans
  | [.v (.int .i64 a0)] => ⟨spec_l01Hex.f k a0, spec_l01Hex.enc⟩
  | _ => Ans.no
def spec_l01Hex.Cs (k : Nat) : CallSem := tab []
def spec_l01Hex.cuts : List (Nat × Keep) := []
theorem spec_l01Hex.s (k : Nat) (a0 : Int) : answer Tryz.prog spec_l01Hex.Cs 100000 spec_l01Hex.cuts [] Tryz.f71 (k + 1) [.v (.int .i64 a0)] = spec_l01Hex.b (fun r => some (spec_l01Hex.enc r)) k a0 := by kernel_rfl
theorem spec_l01Hex.b_nat {R R' : Type} (e : R → R') (ret : Int → Option R) (k : Nat) (a0 : Int) : spec_l01Hex.b (fun r => (ret r).map e) k a0 = (spec_l01Hex.b ret k a0).map e := by
  unfold spec_l01Hex.b
  repeat' first | with_reducible refine nat_cond ?_ ?_ | with_reducible refine nat_bind fun _ => ?_ | rfl
theorem spec_l01Hex.eq (k : Nat) (a0 : Int) : answer Tryz.prog spec_l01Hex.Cs 100000 spec_l01Hex.cuts [] Tryz.f71 (k + 1) [.v (.int .i64 a0)] = (spec_l01Hex.f (k + 1) a0).map spec_l01Hex.enc := by
  refine (spec_l01Hex.s k a0).trans (Eq.trans ?_ (spec_l01Hex.b_nat spec_l01Hex.enc some k a0))
  simp only [Option.map_some]
theorem spec_l01Hex.sound (k : Nat) : SoundF Tryz.prog 71 (fun a => (spec_l01Hex.ans k a).val) := by
  refine sound_plain (fun args res h => ?_) (fun t n => rfl)
  unfold spec_l01Hex.ans at h
  dsimp only at h
  split at h
  · cases k with
    | zero => cases h
    | succ k =>
      unfold Ans.val at h
      rw [← spec_l01Hex.eq] at h
      exact answer_sound mixed Tryz.func71 _ _ _ (k + 1) (fun j _ => tab_sound (tab_nil)) _ _ h
  · exact (Ans.no_val h).elim

/-! loop.example/g00790/spec.HexText -/
def spec_HexText.b {R : Type} (ret : ByteArray → Option R) (j0 : (List Int) → Bool → (List Int) → Int → Int → Option R) (k : Nat) (a0z : Bool) (a0 : List Int) : Option R :=
  j0 ([] : List Int) a0z a0 ((a0).length : Int) 0
def spec_HexText.l0b {R : Type} (ret : ByteArray → Option R) (j0 : (List Int) → Bool → (List Int) → Int → Int → Option R) (k : Nat) (x3 : List Int) (x7z : Bool) (x7 : List Int) (x8 : Int) (x9 : Int) : Option R :=
  cond (decide (x9 < x8)) (cond (decide ((0 : Int) ≤ x9)) (cond (decide (x9 < ((x7).length : Int))) ((spec_l01Hex.f k (RowKit.wrap64 (Int.tdiv (RowKit.wrap64 ((rdI x7 x9))) 16))).bind fun t0 => (spec_l01Hex.f k (Int.tmod (RowKit.wrap64 ((rdI x7 x9))) 16)).bind fun t1 => cond (decide ((x3).length + 2 < 140737488355328)) (j0 (x3 ++ ([t0, t1] : List Int)) x7z x7 x8 (RowKit.wrap64 (x9 + 1))) (none)) (none)) (none)) (ret (strOf x3))
def spec_HexText.l0 : Nat → (List Int) → Bool → (List Int) → Int → Int → Option ByteArray
  | 0, _, _, _, _, _ => none
  | k + 1, x3, x7z, x7, x8, x9 => spec_HexText.l0b some (spec_HexText.l0 k) k x3 x7z x7 x8 x9
def spec_HexText.f : Nat → Bool → (List Int) → Option ByteArray
  | 0, _, _ => none
  | k + 1, a0z, a0 => spec_HexText.b some (spec_HexText.l0 k) k a0z a0
def spec_HexText.enc (r : ByteArray) : Res := ⟨[.vals false [((.str r), true)]], []⟩
def spec_HexText.ans (k : Nat) : List Arg → Ans
  | [.v (.nums 5 .u8 a0z a0)] => ⟨spec_HexText.f k a0z a0, spec_HexText.enc⟩
  | _ => Ans.no
def spec_HexText.Cs (k : Nat) : CallSem := tab [(71, spec_l01Hex.ans k)]
def spec_HexText.cuts : List (Nat × Keep) := [(58, ⟨[(3, none), (7, some []), (8, some []), (9, some [])], []⟩)]
noncomputable def spec_HexText.K0 : List Fr := framesAt [true, true, false, true, false] (bodyOf Tryz.f53 spec_HexText.cuts) []
def spec_HexText.N0 (x3 : List Int) (x7z : Bool) (x7 : List Int) (x8 : Int) (x9 : Int) : St := stOf 27 27 1 [(3, .val ⟨(.nums 5 .u8 false x3), [.l 3 0], true, some (.l 3 0)⟩), (7, .val ⟨(.nums 5 .u8 x7z x7), [], false, none⟩), (8, .val (V.s (.int .i64 x8))), (9, .val (V.s (.int .i64 x9)))] []
theorem spec_HexText.s (k : Nat) (a0z : Bool) (a0 : List Int) : answer Tryz.prog spec_HexText.Cs 100000 spec_HexText.cuts [] Tryz.f53 (k + 1) [.v (.nums 5 .u8 a0z a0)] = spec_HexText.b (fun r => some (spec_HexText.enc r)) (fun x3 x7z x7 x8 x9 => rounds Tryz.prog spec_HexText.Cs (finish Tryz.prog [] Tryz.f53 [.v (.nums 5 .u8 a0z a0)]) 100000 k spec_HexText.K0 (spec_HexText.N0 x3 x7z x7 x8 x9)) k a0z a0 := by kernel_rfl
theorem spec_HexText.s0 (k : Nat) (G : List Fr → St → Option Res) (a0z : Bool) (a0 : List Int) (yx3 : List Int) (yx7z : Bool) (yx7 : List Int) (yx8 : Int) (yx9 : Int) : resume Tryz.prog (spec_HexText.Cs k) G (finish Tryz.prog [] Tryz.f53 [.v (.nums 5 .u8 a0z a0)]) 100000 spec_HexText.K0 (spec_HexText.N0 yx3 yx7z yx7 yx8 yx9) = spec_HexText.l0b (fun r => some (spec_HexText.enc r)) (fun x3 x7z x7 x8 x9 => G spec_HexText.K0 (spec_HexText.N0 x3 x7z x7 x8 x9)) k yx3 yx7z yx7 yx8 yx9 := by kernel_rfl
theorem spec_HexText.b_nat {R R' : Type} (e : R → R') (ret : ByteArray → Option R) (j0 : (List Int) → Bool → (List Int) → Int → Int → Option R) (k : Nat) (a0z : Bool) (a0 : List Int) : spec_HexText.b (fun r => (ret r).map e) (fun x3 x7z x7 x8 x9 => (j0 x3 x7z x7 x8 x9).map e) k a0z a0 = (spec_HexText.b ret j0 k a0z a0).map e := by
  unfold spec_HexText.b
  repeat' first | with_reducible refine nat_cond ?_ ?_ | with_reducible refine nat_bind fun _ => ?_ | rfl
theorem spec_HexText.l0b_nat {R R' : Type} (e : R → R') (ret : ByteArray → Option R) (j0 : (List Int) → Bool → (List Int) → Int → Int → Option R) (k : Nat) (x3 : List Int) (x7z : Bool) (x7 : List Int) (x8 : Int) (x9 : Int) : spec_HexText.l0b (fun r => (ret r).map e) (fun x3 x7z x7 x8 x9 => (j0 x3 x7z x7 x8 x9).map e) k x3 x7z x7 x8 x9 = (spec_HexText.l0b ret j0 k x3 x7z x7 x8 x9).map e := by
  unfold spec_HexText.l0b
  repeat' first | with_reducible refine nat_cond ?_ ?_ | with_reducible refine nat_bind fun _ => ?_ | rfl
theorem spec_HexText.rounds_eq (a0z : Bool) (a0 : List Int) : ∀ k, (∀ (x3 : List Int) (x7z : Bool) (x7 : List Int) (x8 : Int) (x9 : Int), rounds Tryz.prog spec_HexText.Cs (finish Tryz.prog [] Tryz.f53 [.v (.nums 5 .u8 a0z a0)]) 100000 k spec_HexText.K0 (spec_HexText.N0 x3 x7z x7 x8 x9) = (spec_HexText.l0 k x3 x7z x7 x8 x9).map spec_HexText.enc)
  | 0 => fun _ _ _ _ _ => rfl
  | k + 1 => by
    have ih := spec_HexText.rounds_eq a0z a0 k
    refine fun _ _ _ _ _ => ?_
    · refine (spec_HexText.s0 k _ a0z a0 _ _ _ _ _).trans (Eq.trans ?_ (spec_HexText.l0b_nat spec_HexText.enc some (spec_HexText.l0 k) k _ _ _ _ _))
      simp only [ih, Option.map_some]
theorem spec_HexText.eq (k : Nat) (a0z : Bool) (a0 : List Int) : answer Tryz.prog spec_HexText.Cs 100000 spec_HexText.cuts [] Tryz.f53 (k + 1) [.v (.nums 5 .u8 a0z a0)] = (spec_HexText.f (k + 1) a0z a0).map spec_HexText.enc := by
  have ih := spec_HexText.rounds_eq a0z a0 k
  refine (spec_HexText.s k a0z a0).trans (Eq.trans ?_ (spec_HexText.b_nat spec_HexText.enc some (spec_HexText.l0 k) k a0z a0))
  simp only [ih, Option.map_some]
theorem spec_HexText.sound (k : Nat) : SoundF Tryz.prog 53 (fun a => (spec_HexText.ans k a).val) := by
  refine sound_plain (fun args res h => ?_) (fun t n => rfl)
  unfold spec_HexText.ans at h
  dsimp only at h
  split at h
  · cases k with
    | zero => cases h
    | succ k =>
      unfold Ans.val at h
      rw [← spec_HexText.eq] at h
      exact answer_sound mixed Tryz.func53 _ _ _ (k + 1) (fun j _ => tab_sound (tab_cons (spec_l01Hex.sound j) (tab_nil))) _ _ h
  · exact (Ans.no_val h).elim

/-! loop.example/g00790/spec.Short -/
def spec_Short.b {R : Type} (ret : ByteArray → Option R) (k : Nat) (a0z : Bool) (a0 : List Int) : Option R :=
  cond (decide (((a0).length : Int) > 4)) (cond (decide ((4 : Int) ≤ ((a0).length : Int))) ((spec_HexText.f k a0z (((a0).take 4).drop 0)).bind fun t0 => ret t0) (none)) ((spec_HexText.f k a0z a0).bind fun t0 => ret t0)
def spec_Short.f : Nat → Bool → (List Int) → Option ByteArray
  | 0, _, _ => none
  | k + 1, a0z, a0 => spec_Short.b some k a0z a0
def spec_Short.enc (r : ByteArray) : Res := ⟨[.vals false [((.str r), true)]], []⟩
def spec_Short.ans (k : Nat) : List Arg → Ans
  | [.v (.nums 5 .u8 a0z a0)] => ⟨spec_Short.f k a0z a0, spec_Short.enc⟩
  | _ => Ans.no
def spec_Short.Cs (k : Nat) : CallSem := tab [(53, spec_HexText.ans k)]
def spec_Short.cuts : List (Nat × Keep) := []
theorem spec_Short.s (k : Nat) (a0z : Bool) (a0 : List Int) : answer Tryz.prog spec_Short.Cs 100000 spec_Short.cuts [] Tryz.f49 (k + 1) [.v (.nums 5 .u8 a0z a0)] = spec_Short.b (fun r => some (spec_Short.enc r)) k a0z a0 := by kernel_rfl
theorem spec_Short.b_nat {R R' : Type} (e : R → R') (ret : ByteArray → Option R) (k : Nat) (a0z : Bool) (a0 : List Int) : spec_Short.b (fun r => (ret r).map e) k a0z a0 = (spec_Short.b ret k a0z a0).map e := by
  unfold spec_Short.b
  repeat' first | with_reducible refine nat_cond ?_ ?_ | with_reducible refine nat_bind fun _ => ?_ | rfl
theorem spec_Short.eq (k : Nat) (a0z : Bool) (a0 : List Int) : answer Tryz.prog spec_Short.Cs 100000 spec_Short.cuts [] Tryz.f49 (k + 1) [.v (.nums 5 .u8 a0z a0)] = (spec_Short.f (k + 1) a0z a0).map spec_Short.enc := by
  refine (spec_Short.s k a0z a0).trans (Eq.trans ?_ (spec_Short.b_nat spec_Short.enc some k a0z a0))
  simp only [Option.map_some]
theorem spec_Short.sound (k : Nat) : SoundF Tryz.prog 49 (fun a => (spec_Short.ans k a).val) := by
  refine sound_plain (fun args res h => ?_) (fun t n => rfl)
  unfold spec_Short.ans at h
  dsimp only at h
  split at h
  · cases k with
    | zero => cases h
    | succ k =>
      unfold Ans.val at h
      rw [← spec_Short.eq] at h
      exact answer_sound mixed Tryz.func49 _ _ _ (k + 1) (fun j _ => tab_sound (tab_cons (spec_HexText.sound j) (tab_nil))) _ _ h
  · exact (Ans.no_val h).elim

/-! loop.example/g00790/spec.VoteText -/
def spec_VoteText.b {R : Type} (ret : ByteArray → Option R) (k : Nat) (a0_0 : Int) (a0_1 : Int) (a0_2z : Bool) (a0_2 : List Int) (a0_3 : Int) (a0_4z : Bool) (a0_4 : List Int) : Option R :=
  (spec_NumText.f k a0_0).bind fun t0 => cond (decide (((⟨#[118, 111, 116, 101, 32]⟩ : ByteArray)).size + (t0).size ≤ 140737488355328)) (cond (decide ((((⟨#[118, 111, 116, 101, 32]⟩ : ByteArray) ++ t0)).size + ((⟨#[47]⟩ : ByteArray)).size ≤ 140737488355328)) ((spec_NumText.f k a0_1).bind fun t1 => cond (decide (((((⟨#[118, 111, 116, 101, 32]⟩ : ByteArray) ++ t0) ++ (⟨#[47]⟩ : ByteArray))).size + (t1).size ≤ 140737488355328)) (cond (decide ((((((⟨#[118, 111, 116, 101, 32]⟩ : ByteArray) ++ t0) ++ (⟨#[47]⟩ : ByteArray)) ++ t1)).size + ((⟨#[32]⟩ : ByteArray)).size ≤ 140737488355328)) ((spec_Short.f k a0_2z a0_2).bind fun t2 => cond (decide (((((((⟨#[118, 111, 116, 101, 32]⟩ : ByteArray) ++ t0) ++ (⟨#[47]⟩ : ByteArray)) ++ t1) ++ (⟨#[32]⟩ : ByteArray))).size + (t2).size ≤ 140737488355328)) (cond (decide ((((((((⟨#[118, 111, 116, 101, 32]⟩ : ByteArray) ++ t0) ++ (⟨#[47]⟩ : ByteArray)) ++ t1) ++ (⟨#[32]⟩ : ByteArray)) ++ t2)).size + ((⟨#[32]⟩ : ByteArray)).size ≤ 140737488355328)) ((spec_NumText.f k a0_3).bind fun t3 => cond (decide (((((((((⟨#[118, 111, 116, 101, 32]⟩ : ByteArray) ++ t0) ++ (⟨#[47]⟩ : ByteArray)) ++ t1) ++ (⟨#[32]⟩ : ByteArray)) ++ t2) ++ (⟨#[32]⟩ : ByteArray))).size + (t3).size ≤ 140737488355328)) (ret ((((((((⟨#[118, 111, 116, 101, 32]⟩ : ByteArray) ++ t0) ++ (⟨#[47]⟩ : ByteArray)) ++ t1) ++ (⟨#[32]⟩ : ByteArray)) ++ t2) ++ (⟨#[32]⟩ : ByteArray)) ++ t3)) (none)) (none)) (none)) (none)) (none)) (none)) (none)
def spec_VoteText.f : Nat → Int → Int → Bool → (List Int) → Int → Bool → (List Int) → Option ByteArray
  | 0, _, _, _, _, _, _, _ => none
  | k + 1, a0_0, a0_1, a0_2z, a0_2, a0_3, a0_4z, a0_4 => spec_VoteText.b some k a0_0 a0_1 a0_2z a0_2 a0_3 a0_4z a0_4
def spec_VoteText.enc (r : ByteArray) : Res := ⟨[.vals false [((.str r), true)]], []⟩
def spec_VoteText.ans (k : Nat) : List Arg → Ans
  | [.v (.agg [(.int .i64 a0_0), (.int .i64 a0_1), (.nums 5 .u8 a0_2z a0_2), (.int .i64 a0_3), (.nums 5 .u8 a0_4z a0_4)])] => ⟨spec_VoteText.f k a0_0 a0_1 a0_2z a0_2 a0_3 a0_4z a0_4, spec_VoteText.enc⟩
  | _ => Ans.no
def spec_VoteText.Cs (k : Nat) : CallSem := tab [(48, spec_NumText.ans k), (49, spec_Short.ans k)]
def spec_VoteText.cuts : List (Nat × Keep) := []
theorem spec_VoteText.s (k : Nat) (a0_0 : Int) (a0_1 : Int) (a0_2z : Bool) (a0_2 : List Int) (a0_3 : Int) (a0_4z : Bool) (a0_4 : List Int) : answer Tryz.prog spec_VoteText.Cs 100000 spec_VoteText.cuts [] Tryz.f16 (k + 1) [.v (.agg [(.int .i64 a0_0), (.int .i64 a0_1), (.nums 5 .u8 a0_2z a0_2), (.int .i64 a0_3), (.nums 5 .u8 a0_4z a0_4)])] = spec_VoteText.b (fun r => some (spec_VoteText.enc r)) k a0_0 a0_1 a0_2z a0_2 a0_3 a0_4z a0_4 := by kernel_rfl
theorem spec_VoteText.b_nat {R R' : Type} (e : R → R') (ret : ByteArray → Option R) (k : Nat) (a0_0 : Int) (a0_1 : Int) (a0_2z : Bool) (a0_2 : List Int) (a0_3 : Int) (a0_4z : Bool) (a0_4 : List Int) : spec_VoteText.b (fun r => (ret r).map e) k a0_0 a0_1 a0_2z a0_2 a0_3 a0_4z a0_4 = (spec_VoteText.b ret k a0_0 a0_1 a0_2z a0_2 a0_3 a0_4z a0_4).map e := by
  unfold spec_VoteText.b
  repeat' first | with_reducible refine nat_cond ?_ ?_ | with_reducible refine nat_bind fun _ => ?_ | rfl
theorem spec_VoteText.eq (k : Nat) (a0_0 : Int) (a0_1 : Int) (a0_2z : Bool) (a0_2 : List Int) (a0_3 : Int) (a0_4z : Bool) (a0_4 : List Int) : answer Tryz.prog spec_VoteText.Cs 100000 spec_VoteText.cuts [] Tryz.f16 (k + 1) [.v (.agg [(.int .i64 a0_0), (.int .i64 a0_1), (.nums 5 .u8 a0_2z a0_2), (.int .i64 a0_3), (.nums 5 .u8 a0_4z a0_4)])] = (spec_VoteText.f (k + 1) a0_0 a0_1 a0_2z a0_2 a0_3 a0_4z a0_4).map spec_VoteText.enc := by
  refine (spec_VoteText.s k a0_0 a0_1 a0_2z a0_2 a0_3 a0_4z a0_4).trans (Eq.trans ?_ (spec_VoteText.b_nat spec_VoteText.enc some k a0_0 a0_1 a0_2z a0_2 a0_3 a0_4z a0_4))
  simp only [Option.map_some]
theorem spec_VoteText.sound (k : Nat) : SoundF Tryz.prog 16 (fun a => (spec_VoteText.ans k a).val) := by
  refine sound_plain (fun args res h => ?_) (fun t n => rfl)
  unfold spec_VoteText.ans at h
  dsimp only at h
  split at h
  · cases k with
    | zero => cases h
    | succ k =>
      unfold Ans.val at h
      rw [← spec_VoteText.eq] at h
      exact answer_sound mixed Tryz.func16 _ _ _ (k + 1) (fun j _ => tab_sound (tab_cons (spec_NumText.sound j) (tab_cons (spec_Short.sound j) (tab_nil)))) _ _ h
  · exact (Ans.no_val h).elim

/-! loop.example/g00790/spec.BitsHas -/
def spec_BitsHas.b {R : Type} (ret : Bool → Option R) (k : Nat) (a0z : Bool) (a0 : List Int) (a1 : Int) : Option R :=
  cond (decide (a1 ≥ 0)) (cond (decide ((RowKit.wrap64 (Int.tdiv a1 8)) < ((a0).length : Int))) (cond (decide ((0 : Int) ≤ (RowKit.wrap64 (Int.tdiv a1 8)))) (cond (decide ((RowKit.wrap64 (Int.tdiv a1 8)) < ((a0).length : Int))) (cond (decide ((0 : Int) ≤ (Int.tmod a1 8))) (ret (decide ((Int.tmod (shrI .i64 (RowKit.wrap64 ((rdI a0 (RowKit.wrap64 (Int.tdiv a1 8))))) (Int.tmod a1 8)) 2) = 1))) (none)) (none)) (none)) (ret false)) (ret false)
def spec_BitsHas.f : Nat → Bool → (List Int) → Int → Option Bool
  | 0, _, _, _ => none
  | k + 1, a0z, a0, a1 => spec_BitsHas.b some k a0z a0 a1
def spec_BitsHas.enc (r : Bool) : Res := ⟨[.vals false [((.bool r), true)]], []⟩
def spec_BitsHas.ans (k : Nat) : List Arg → Ans
  | [.v (.nums 5 .u8 a0z a0), .v (.int .i64 a1)] => ⟨spec_BitsHas.f k a0z a0 a1, spec_BitsHas.enc⟩
  | _ => Ans.no
def spec_BitsHas.Cs (k : Nat) : CallSem := tab []
def spec_BitsHas.cuts : List (Nat × Keep) := []
theorem spec_BitsHas.s (k : Nat) (a0z : Bool) (a0 : List Int) (a1 : Int) : answer Tryz.prog spec_BitsHas.Cs 100000 spec_BitsHas.cuts [] Tryz.f70 (k + 1) [.v (.nums 5 .u8 a0z a0), .v (.int .i64 a1)] = spec_BitsHas.b (fun r => some (spec_BitsHas.enc r)) k a0z a0 a1 := by kernel_rfl
theorem spec_BitsHas.b_nat {R R' : Type} (e : R → R') (ret : Bool → Option R) (k : Nat) (a0z : Bool) (a0 : List Int) (a1 : Int) : spec_BitsHas.b (fun r => (ret r).map e) k a0z a0 a1 = (spec_BitsHas.b ret k a0z a0 a1).map e := by
  unfold spec_BitsHas.b
  repeat' first | with_reducible refine nat_cond ?_ ?_ | with_reducible refine nat_bind fun _ => ?_ | rfl
theorem spec_BitsHas.eq (k : Nat) (a0z : Bool) (a0 : List Int) (a1 : Int) : answer Tryz.prog spec_BitsHas.Cs 100000 spec_BitsHas.cuts [] Tryz.f70 (k + 1) [.v (.nums 5 .u8 a0z a0), .v (.int .i64 a1)] = (spec_BitsHas.f (k + 1) a0z a0 a1).map spec_BitsHas.enc := by
  refine (spec_BitsHas.s k a0z a0 a1).trans (Eq.trans ?_ (spec_BitsHas.b_nat spec_BitsHas.enc some k a0z a0 a1))
  simp only [Option.map_some]
theorem spec_BitsHas.sound (k : Nat) : SoundF Tryz.prog 70 (fun a => (spec_BitsHas.ans k a).val) := by
  refine sound_plain (fun args res h => ?_) (fun t n => rfl)
  unfold spec_BitsHas.ans at h
  dsimp only at h
  split at h
  · cases k with
    | zero => cases h
    | succ k =>
      unfold Ans.val at h
      rw [← spec_BitsHas.eq] at h
      exact answer_sound mixed Tryz.func70 _ _ _ (k + 1) (fun j _ => tab_sound (tab_nil)) _ _ h
  · exact (Ans.no_val h).elim

/-! loop.example/g00790/spec.BitsList -/
def spec_BitsList.b {R : Type} (ret : Bool × List Int → Option R) (j0 : Bool → (List Int) → (List Int) → Int → Option R) (k : Nat) (a0z : Bool) (a0 : List Int) : Option R :=
  j0 a0z a0 ([] : List Int) 0
def spec_BitsList.l0b {R : Type} (ret : Bool × List Int → Option R) (j0 : Bool → (List Int) → (List Int) → Int → Option R) (k : Nat) (x0z : Bool) (x0 : List Int) (x3 : List Int) (x4 : Int) : Option R :=
  cond (decide (x4 < (RowKit.wrap64 ((8 : Int) * ((x0).length : Int))))) ((spec_BitsHas.f k x0z x0 x4).bind fun t0 => cond t0 (cond (decide ((x3).length + 1 < 17592186044416)) (j0 x0z x0 (x3 ++ ([x4] : List Int)) (RowKit.wrap64 (x4 + 1))) (none)) (j0 x0z x0 x3 (RowKit.wrap64 (x4 + 1)))) (ret (false, x3))
def spec_BitsList.l0 : Nat → Bool → (List Int) → (List Int) → Int → Option (Bool × List Int)
  | 0, _, _, _, _ => none
  | k + 1, x0z, x0, x3, x4 => spec_BitsList.l0b some (spec_BitsList.l0 k) k x0z x0 x3 x4
def spec_BitsList.f : Nat → Bool → (List Int) → Option (Bool × List Int)
  | 0, _, _ => none
  | k + 1, a0z, a0 => spec_BitsList.b some (spec_BitsList.l0 k) k a0z a0
def spec_BitsList.enc (r : Bool × List Int) : Res := ⟨[.vals false [((.nums 3 .i64 r.1 r.2), true)]], []⟩
def spec_BitsList.ans (k : Nat) : List Arg → Ans
  | [.v (.nums 5 .u8 a0z a0)] => ⟨spec_BitsList.f k a0z a0, spec_BitsList.enc⟩
  | _ => Ans.no
def spec_BitsList.Cs (k : Nat) : CallSem := tab [(70, spec_BitsHas.ans k)]
def spec_BitsList.cuts : List (Nat × Keep) := [(58, ⟨[(0, some []), (3, none), (4, some [])], []⟩)]
noncomputable def spec_BitsList.K0 : List Fr := framesAt [true, true, false, true, false] (bodyOf Tryz.f50 spec_BitsList.cuts) []
def spec_BitsList.N0 (x0z : Bool) (x0 : List Int) (x3 : List Int) (x4 : Int) : St := stOf 21 21 1 [(0, .val ⟨(.nums 5 .u8 x0z x0), [], false, none⟩), (3, .val ⟨(.nums 3 .i64 false x3), [.l 3 0], true, some (.l 3 0)⟩), (4, .val (V.s (.int .i64 x4)))] []
theorem spec_BitsList.s (k : Nat) (a0z : Bool) (a0 : List Int) : answer Tryz.prog spec_BitsList.Cs 100000 spec_BitsList.cuts [] Tryz.f50 (k + 1) [.v (.nums 5 .u8 a0z a0)] = spec_BitsList.b (fun r => some (spec_BitsList.enc r)) (fun x0z x0 x3 x4 => rounds Tryz.prog spec_BitsList.Cs (finish Tryz.prog [] Tryz.f50 [.v (.nums 5 .u8 a0z a0)]) 100000 k spec_BitsList.K0 (spec_BitsList.N0 x0z x0 x3 x4)) k a0z a0 := by kernel_rfl
theorem spec_BitsList.s0 (k : Nat) (G : List Fr → St → Option Res) (a0z : Bool) (a0 : List Int) (yx0z : Bool) (yx0 : List Int) (yx3 : List Int) (yx4 : Int) : resume Tryz.prog (spec_BitsList.Cs k) G (finish Tryz.prog [] Tryz.f50 [.v (.nums 5 .u8 a0z a0)]) 100000 spec_BitsList.K0 (spec_BitsList.N0 yx0z yx0 yx3 yx4) = spec_BitsList.l0b (fun r => some (spec_BitsList.enc r)) (fun x0z x0 x3 x4 => G spec_BitsList.K0 (spec_BitsList.N0 x0z x0 x3 x4)) k yx0z yx0 yx3 yx4 := by kernel_rfl
theorem spec_BitsList.b_nat {R R' : Type} (e : R → R') (ret : Bool × List Int → Option R) (j0 : Bool → (List Int) → (List Int) → Int → Option R) (k : Nat) (a0z : Bool) (a0 : List Int) : spec_BitsList.b (fun r => (ret r).map e) (fun x0z x0 x3 x4 => (j0 x0z x0 x3 x4).map e) k a0z a0 = (spec_BitsList.b ret j0 k a0z a0).map e := by
  unfold spec_BitsList.b
  repeat' first | with_reducible refine nat_cond ?_ ?_ | with_reducible refine nat_bind fun _ => ?_ | rfl
theorem spec_BitsList.l0b_nat {R R' : Type} (e : R → R') (ret : Bool × List Int → Option R) (j0 : Bool → (List Int) → (List Int) → Int → Option R) (k : Nat) (x0z : Bool) (x0 : List Int) (x3 : List Int) (x4 : Int) : spec_BitsList.l0b (fun r => (ret r).map e) (fun x0z x0 x3 x4 => (j0 x0z x0 x3 x4).map e) k x0z x0 x3 x4 = (spec_BitsList.l0b ret j0 k x0z x0 x3 x4).map e := by
  unfold spec_BitsList.l0b
  repeat' first | with_reducible refine nat_cond ?_ ?_ | with_reducible refine nat_bind fun _ => ?_ | rfl
theorem spec_BitsList.rounds_eq (a0z : Bool) (a0 : List Int) : ∀ k, (∀ (x0z : Bool) (x0 : List Int) (x3 : List Int) (x4 : Int), rounds Tryz.prog spec_BitsList.Cs (finish Tryz.prog [] Tryz.f50 [.v (.nums 5 .u8 a0z a0)]) 100000 k spec_BitsList.K0 (spec_BitsList.N0 x0z x0 x3 x4) = (spec_BitsList.l0 k x0z x0 x3 x4).map spec_BitsList.enc)
  | 0 => fun _ _ _ _ => rfl
  | k + 1 => by
    have ih := spec_BitsList.rounds_eq a0z a0 k
    refine fun _ _ _ _ => ?_
    · refine (spec_BitsList.s0 k _ a0z a0 _ _ _ _).trans (Eq.trans ?_ (spec_BitsList.l0b_nat spec_BitsList.enc some (spec_BitsList.l0 k) k _ _ _ _))
      simp only [ih, Option.map_some]
theorem spec_BitsList.eq (k : Nat) (a0z : Bool) (a0 : List Int) : answer Tryz.prog spec_BitsList.Cs 100000 spec_BitsList.cuts [] Tryz.f50 (k + 1) [.v (.nums 5 .u8 a0z a0)] = (spec_BitsList.f (k + 1) a0z a0).map spec_BitsList.enc := by
  have ih := spec_BitsList.rounds_eq a0z a0 k
  refine (spec_BitsList.s k a0z a0).trans (Eq.trans ?_ (spec_BitsList.b_nat spec_BitsList.enc some (spec_BitsList.l0 k) k a0z a0))
  simp only [ih, Option.map_some]
theorem spec_BitsList.sound (k : Nat) : SoundF Tryz.prog 50 (fun a => (spec_BitsList.ans k a).val) := by
  refine sound_plain (fun args res h => ?_) (fun t n => rfl)
  unfold spec_BitsList.ans at h
  dsimp only at h
  split at h
  · cases k with
    | zero => cases h
    | succ k =>
      unfold Ans.val at h
      rw [← spec_BitsList.eq] at h
      exact answer_sound mixed Tryz.func50 _ _ _ (k + 1) (fun j _ => tab_sound (tab_cons (spec_BitsHas.sound j) (tab_nil))) _ _ h
  · exact (Ans.no_val h).elim

/-! loop.example/g00790/spec.l29Join -/
def spec_l29Join.b {R : Type} (ret : ByteArray → Option R) (j0 : ByteArray → ByteArray → Bool → (List T) → Int → Int → Option R) (k : Nat) (a0z : Bool) (a0 : List T) (a1 : ByteArray) : Option R :=
  j0 a1 (⟨#[]⟩ : ByteArray) a0z a0 ((a0).length : Int) 0
def spec_l29Join.l0b {R : Type} (ret : ByteArray → Option R) (j0 : ByteArray → ByteArray → Bool → (List T) → Int → Int → Option R) (k : Nat) (x1 : ByteArray) (x5 : ByteArray) (x8z : Bool) (x8 : List T) (x9 : Int) (x10 : Int) : Option R :=
  cond (decide (x10 < x9)) (cond (decide ((0 : Int) ≤ x10)) (cond (decide (x10 < ((x8).length : Int))) (cond (decide (x10 > 0)) (cond (decide ((x5).size + (x1).size ≤ 140737488355328)) (cond (decide (((x5 ++ x1)).size + (((((x8).getD (x10).toNat .bad).cells.getD 0 .bad)).toStr).size ≤ 140737488355328)) (j0 x1 ((x5 ++ x1) ++ ((((x8).getD (x10).toNat .bad).cells.getD 0 .bad)).toStr) x8z x8 x9 (RowKit.wrap64 (x10 + 1))) (none)) (none)) (cond (decide ((x5).size + (((((x8).getD (x10).toNat .bad).cells.getD 0 .bad)).toStr).size ≤ 140737488355328)) (j0 x1 (x5 ++ ((((x8).getD (x10).toNat .bad).cells.getD 0 .bad)).toStr) x8z x8 x9 (RowKit.wrap64 (x10 + 1))) (none))) (none)) (none)) (ret x5)
def spec_l29Join.l0 : Nat → ByteArray → ByteArray → Bool → (List T) → Int → Int → Option ByteArray
  | 0, _, _, _, _, _, _ => none
  | k + 1, x1, x5, x8z, x8, x9, x10 => spec_l29Join.l0b some (spec_l29Join.l0 k) k x1 x5 x8z x8 x9 x10
def spec_l29Join.f : Nat → Bool → (List T) → ByteArray → Option ByteArray
  | 0, _, _, _ => none
  | k + 1, a0z, a0, a1 => spec_l29Join.b some (spec_l29Join.l0 k) k a0z a0 a1
def spec_l29Join.enc (r : ByteArray) : Res := ⟨[.vals false [((.str r), true)]], []⟩
def spec_l29Join.ans (k : Nat) : List Arg → Ans
  | [.v (.sl 9 a0z a0), .v (.str a1)] => ⟨spec_l29Join.f k a0z a0 a1, spec_l29Join.enc⟩
  | _ => Ans.no
def spec_l29Join.Cs (k : Nat) : CallSem := tab []
def spec_l29Join.cuts : List (Nat × Keep) := [(58, ⟨[(1, some []), (5, some []), (8, some []), (9, some []), (10, some [])], []⟩)]
noncomputable def spec_l29Join.K0 : List Fr := framesAt [true, true, false, true, false] (bodyOf Tryz.f52 spec_l29Join.cuts) []
def spec_l29Join.N0 (x1 : ByteArray) (x5 : ByteArray) (x8z : Bool) (x8 : List T) (x9 : Int) (x10 : Int) : St := stOf 25 25 2 [(1, .val (V.s (.str x1))), (5, .val (V.s (.str x5))), (8, .val ⟨(.sl 9 x8z x8), [], false, none⟩), (9, .val (V.s (.int .i64 x9))), (10, .val (V.s (.int .i64 x10)))] []
theorem spec_l29Join.s (k : Nat) (a0z : Bool) (a0 : List T) (a1 : ByteArray) : answer Tryz.prog spec_l29Join.Cs 100000 spec_l29Join.cuts [] Tryz.f52 (k + 1) [.v (.sl 9 a0z a0), .v (.str a1)] = spec_l29Join.b (fun r => some (spec_l29Join.enc r)) (fun x1 x5 x8z x8 x9 x10 => rounds Tryz.prog spec_l29Join.Cs (finish Tryz.prog [] Tryz.f52 [.v (.sl 9 a0z a0), .v (.str a1)]) 100000 k spec_l29Join.K0 (spec_l29Join.N0 x1 x5 x8z x8 x9 x10)) k a0z a0 a1 := by kernel_rfl
theorem spec_l29Join.s0 (k : Nat) (G : List Fr → St → Option Res) (a0z : Bool) (a0 : List T) (a1 : ByteArray) (yx1 : ByteArray) (yx5 : ByteArray) (yx8z : Bool) (yx8 : List T) (yx9 : Int) (yx10 : Int) : resume Tryz.prog (spec_l29Join.Cs k) G (finish Tryz.prog [] Tryz.f52 [.v (.sl 9 a0z a0), .v (.str a1)]) 100000 spec_l29Join.K0 (spec_l29Join.N0 yx1 yx5 yx8z yx8 yx9 yx10) = spec_l29Join.l0b (fun r => some (spec_l29Join.enc r)) (fun x1 x5 x8z x8 x9 x10 => G spec_l29Join.K0 (spec_l29Join.N0 x1 x5 x8z x8 x9 x10)) k yx1 yx5 yx8z yx8 yx9 yx10 := by kernel_rfl
theorem spec_l29Join.b_nat {R R' : Type} (e : R → R') (ret : ByteArray → Option R) (j0 : ByteArray → ByteArray → Bool → (List T) → Int → Int → Option R) (k : Nat) (a0z : Bool) (a0 : List T) (a1 : ByteArray) : spec_l29Join.b (fun r => (ret r).map e) (fun x1 x5 x8z x8 x9 x10 => (j0 x1 x5 x8z x8 x9 x10).map e) k a0z a0 a1 = (spec_l29Join.b ret j0 k a0z a0 a1).map e := by
  unfold spec_l29Join.b
  repeat' first | with_reducible refine nat_cond ?_ ?_ | with_reducible refine nat_bind fun _ => ?_ | rfl
theorem spec_l29Join.l0b_nat {R R' : Type} (e : R → R') (ret : ByteArray → Option R) (j0 : ByteArray → ByteArray → Bool → (List T) → Int → Int → Option R) (k : Nat) (x1 : ByteArray) (x5 : ByteArray) (x8z : Bool) (x8 : List T) (x9 : Int) (x10 : Int) : spec_l29Join.l0b (fun r => (ret r).map e) (fun x1 x5 x8z x8 x9 x10 => (j0 x1 x5 x8z x8 x9 x10).map e) k x1 x5 x8z x8 x9 x10 = (spec_l29Join.l0b ret j0 k x1 x5 x8z x8 x9 x10).map e := by
  unfold spec_l29Join.l0b
  repeat' first | with_reducible refine nat_cond ?_ ?_ | with_reducible refine nat_bind fun _ => ?_ | rfl
theorem spec_l29Join.rounds_eq (a0z : Bool) (a0 : List T) (a1 : ByteArray) : ∀ k, (∀ (x1 : ByteArray) (x5 : ByteArray) (x8z : Bool) (x8 : List T) (x9 : Int) (x10 : Int), rounds Tryz.prog spec_l29Join.Cs (finish Tryz.prog [] Tryz.f52 [.v (.sl 9 a0z a0), .v (.str a1)]) 100000 k spec_l29Join.K0 (spec_l29Join.N0 x1 x5 x8z x8 x9 x10) = (spec_l29Join.l0 k x1 x5 x8z x8 x9 x10).map spec_l29Join.enc)
  | 0 => fun _ _ _ _ _ _ => rfl
  | k + 1 => by
    have ih := spec_l29Join.rounds_eq a0z a0 a1 k
    refine fun _ _ _ _ _ _ => ?_
    · refine (spec_l29Join.s0 k _ a0z a0 a1 _ _ _ _ _ _).trans (Eq.trans ?_ (spec_l29Join.l0b_nat spec_l29Join.enc some (spec_l29Join.l0 k) k _ _ _ _ _ _))
      simp only [ih, Option.map_some]
theorem spec_l29Join.eq (k : Nat) (a0z : Bool) (a0 : List T) (a1 : ByteArray) : answer Tryz.prog spec_l29Join.Cs 100000 spec_l29Join.cuts [] Tryz.f52 (k + 1) [.v (.sl 9 a0z a0), .v (.str a1)] = (spec_l29Join.f (k + 1) a0z a0 a1).map spec_l29Join.enc := by
  have ih := spec_l29Join.rounds_eq a0z a0 a1 k
  refine (spec_l29Join.s k a0z a0 a1).trans (Eq.trans ?_ (spec_l29Join.b_nat spec_l29Join.enc some (spec_l29Join.l0 k) k a0z a0 a1))
  simp only [ih, Option.map_some]
theorem spec_l29Join.sound (k : Nat) : SoundF Tryz.prog 52 (fun a => (spec_l29Join.ans k a).val) := by
  refine sound_plain (fun args res h => ?_) (fun t n => rfl)
  unfold spec_l29Join.ans at h
  dsimp only at h
  split at h
  · cases k with
    | zero => cases h
    | succ k =>
      unfold Ans.val at h
      rw [← spec_l29Join.eq] at h
      exact answer_sound mixed Tryz.func52 _ _ _ (k + 1) (fun j _ => tab_sound (tab_nil)) _ _ h
  · exact (Ans.no_val h).elim

/-! loop.example/g00790/spec.l29Or -/
def spec_l29Or.b {R : Type} (ret : ByteArray → Option R) (k : Nat) (a0 : ByteArray) : Option R :=
  cond (decide (a0 = (⟨#[]⟩ : ByteArray))) (ret (⟨#[45]⟩ : ByteArray)) (ret a0)
def spec_l29Or.f : Nat → ByteArray → Option ByteArray
  | 0, _ => none
  | k + 1, a0 => spec_l29Or.b some k a0
def spec_l29Or.enc (r : ByteArray) : Res := ⟨[.vals false [((.str r), true)]], []⟩
def spec_l29Or.ans (k : Nat) : List Arg → Ans
  | [.v (.str a0)] => ⟨spec_l29Or.f k a0, spec_l29Or.enc⟩
  | _ => Ans.no
def spec_l29Or.Cs (k : Nat) : CallSem := tab []
def spec_l29Or.cuts : List (Nat × Keep) := []
theorem spec_l29Or.s (k : Nat) (a0 : ByteArray) : answer Tryz.prog spec_l29Or.Cs 100000 spec_l29Or.cuts [] Tryz.f51 (k + 1) [.v (.str a0)] = spec_l29Or.b (fun r => some (spec_l29Or.enc r)) k a0 := by kernel_rfl
theorem spec_l29Or.b_nat {R R' : Type} (e : R → R') (ret : ByteArray → Option R) (k : Nat) (a0 : ByteArray) : spec_l29Or.b (fun r => (ret r).map e) k a0 = (spec_l29Or.b ret k a0).map e := by
  unfold spec_l29Or.b
  repeat' first | with_reducible refine nat_cond ?_ ?_ | with_reducible refine nat_bind fun _ => ?_ | rfl
theorem spec_l29Or.eq (k : Nat) (a0 : ByteArray) : answer Tryz.prog spec_l29Or.Cs 100000 spec_l29Or.cuts [] Tryz.f51 (k + 1) [.v (.str a0)] = (spec_l29Or.f (k + 1) a0).map spec_l29Or.enc := by
  refine (spec_l29Or.s k a0).trans (Eq.trans ?_ (spec_l29Or.b_nat spec_l29Or.enc some k a0))
  simp only [Option.map_some]
theorem spec_l29Or.sound (k : Nat) : SoundF Tryz.prog 51 (fun a => (spec_l29Or.ans k a).val) := by
  refine sound_plain (fun args res h => ?_) (fun t n => rfl)
  unfold spec_l29Or.ans at h
  dsimp only at h
  split at h
  · cases k with
    | zero => cases h
    | succ k =>
      unfold Ans.val at h
      rw [← spec_l29Or.eq] at h
      exact answer_sound mixed Tryz.func51 _ _ _ (k + 1) (fun j _ => tab_sound (tab_nil)) _ _ h
  · exact (Ans.no_val h).elim

/-! loop.example/g00790/spec.QcText -/
def spec_QcText.b {R : Type} (ret : ByteArray → Option R) (j0 : (List T) → Bool → (List Int) → Int → Int → Int → Int → Bool → (List Int) → Bool → (List Int) → Bool → (List T) → Option R) (k : Nat) (a0_0 : Int) (a0_1 : Int) (a0_2z : Bool) (a0_2 : List Int) (a0_3z : Bool) (a0_3 : List Int) (a0_4z : Bool) (a0_4 : List T) : Option R :=
  (spec_BitsList.f k a0_3z a0_3).bind fun t0 => j0 ([] : List T) t0.1 t0.2 ((t0.2).length : Int) 0 a0_0 a0_1 a0_2z a0_2 a0_3z a0_3 a0_4z a0_4
def spec_QcText.l0b {R : Type} (ret : ByteArray → Option R) (j0 : (List T) → Bool → (List Int) → Int → Int → Int → Int → Bool → (List Int) → Bool → (List Int) → Bool → (List T) → Option R) (k : Nat) (x3 : List T) (x9z : Bool) (x9 : List Int) (x10 : Int) (x11 : Int) (c1_0 : Int) (c1_1 : Int) (c1_2z : Bool) (c1_2 : List Int) (c1_3z : Bool) (c1_3 : List Int) (c1_4z : Bool) (c1_4 : List T) : Option R :=
  cond (decide (x11 < x10)) (cond (decide ((0 : Int) ≤ x11)) (cond (decide (x11 < ((x9).length : Int))) ((spec_NumText.f k (rdI x9 x11)).bind fun t0 => cond (decide ((x3).length + 1 < 8796093022208)) (j0 (x3 ++ ([(.str t0)] : List T)) x9z x9 x10 (RowKit.wrap64 (x11 + 1)) c1_0 c1_1 c1_2z c1_2 c1_3z c1_3 c1_4z c1_4) (none)) (none)) (none)) ((spec_NumText.f k c1_0).bind fun t0 => cond (decide (((⟨#[113, 99, 32]⟩ : ByteArray)).size + (t0).size ≤ 140737488355328)) (cond (decide ((((⟨#[113, 99, 32]⟩ : ByteArray) ++ t0)).size + ((⟨#[47]⟩ : ByteArray)).size ≤ 140737488355328)) ((spec_NumText.f k c1_1).bind fun t1 => cond (decide (((((⟨#[113, 99, 32]⟩ : ByteArray) ++ t0) ++ (⟨#[47]⟩ : ByteArray))).size + (t1).size ≤ 140737488355328)) (cond (decide ((((((⟨#[113, 99, 32]⟩ : ByteArray) ++ t0) ++ (⟨#[47]⟩ : ByteArray)) ++ t1)).size + ((⟨#[32]⟩ : ByteArray)).size ≤ 140737488355328)) ((spec_Short.f k c1_2z c1_2).bind fun t2 => cond (decide (((((((⟨#[113, 99, 32]⟩ : ByteArray) ++ t0) ++ (⟨#[47]⟩ : ByteArray)) ++ t1) ++ (⟨#[32]⟩ : ByteArray))).size + (t2).size ≤ 140737488355328)) (cond (decide ((((((((⟨#[113, 99, 32]⟩ : ByteArray) ++ t0) ++ (⟨#[47]⟩ : ByteArray)) ++ t1) ++ (⟨#[32]⟩ : ByteArray)) ++ t2)).size + ((⟨#[32]⟩ : ByteArray)).size ≤ 140737488355328)) ((spec_l29Join.f k false x3 (⟨#[44]⟩ : ByteArray)).bind fun t3 => (spec_l29Or.f k t3).bind fun t4 => cond (decide (((((((((⟨#[113, 99, 32]⟩ : ByteArray) ++ t0) ++ (⟨#[47]⟩ : ByteArray)) ++ t1) ++ (⟨#[32]⟩ : ByteArray)) ++ t2) ++ (⟨#[32]⟩ : ByteArray))).size + (t4).size ≤ 140737488355328)) (ret ((((((((⟨#[113, 99, 32]⟩ : ByteArray) ++ t0) ++ (⟨#[47]⟩ : ByteArray)) ++ t1) ++ (⟨#[32]⟩ : ByteArray)) ++ t2) ++ (⟨#[32]⟩ : ByteArray)) ++ t4)) (none)) (none)) (none)) (none)) (none)) (none)) (none))
def spec_QcText.l0 : Nat → (List T) → Bool → (List Int) → Int → Int → Int → Int → Bool → (List Int) → Bool → (List Int) → Bool → (List T) → Option ByteArray
  | 0, _, _, _, _, _, _, _, _, _, _, _, _, _ => none
  | k + 1, x3, x9z, x9, x10, x11, c1_0, c1_1, c1_2z, c1_2, c1_3z, c1_3, c1_4z, c1_4 => spec_QcText.l0b some (spec_QcText.l0 k) k x3 x9z x9 x10 x11 c1_0 c1_1 c1_2z c1_2 c1_3z c1_3 c1_4z c1_4
def spec_QcText.f : Nat → Int → Int → Bool → (List Int) → Bool → (List Int) → Bool → (List T) → Option ByteArray
  | 0, _, _, _, _, _, _, _, _ => none
  | k + 1, a0_0, a0_1, a0_2z, a0_2, a0_3z, a0_3, a0_4z, a0_4 => spec_QcText.b some (spec_QcText.l0 k) k a0_0 a0_1 a0_2z a0_2 a0_3z a0_3 a0_4z a0_4
def spec_QcText.enc (r : ByteArray) : Res := ⟨[.vals false [((.str r), true)]], []⟩
def spec_QcText.ans (k : Nat) : List Arg → Ans
  | [.v (.agg [(.int .i64 a0_0), (.int .i64 a0_1), (.nums 5 .u8 a0_2z a0_2), (.nums 5 .u8 a0_3z a0_3), (.sl 22 a0_4z a0_4)])] => ⟨spec_QcText.f k a0_0 a0_1 a0_2z a0_2 a0_3z a0_3 a0_4z a0_4, spec_QcText.enc⟩
  | _ => Ans.no
def spec_QcText.Cs (k : Nat) : CallSem := tab [(48, spec_NumText.ans k), (49, spec_Short.ans k), (50, spec_BitsList.ans k), (52, spec_l29Join.ans k), (51, spec_l29Or.ans k)]
def spec_QcText.cuts : List (Nat × Keep) := [(58, ⟨[(1, some []), (3, none), (9, none), (10, some []), (11, some [])], [(1, [some [], some [], some [], some [], some []])]⟩)]
noncomputable def spec_QcText.K0 : List Fr := framesAt [true, true, false, true, false] (bodyOf Tryz.f17 spec_QcText.cuts) []
def spec_QcText.N0 (x3 : List T) (x9z : Bool) (x9 : List Int) (x10 : Int) (x11 : Int) (c1_0 : Int) (c1_1 : Int) (c1_2z : Bool) (c1_2 : List Int) (c1_3z : Bool) (c1_3 : List Int) (c1_4z : Bool) (c1_4 : List T) : St := stOf 40 40 1 [(1, .bp 1 0), (3, .val ⟨(.sl 9 false x3), [.l 3 0], true, some (.l 3 0)⟩), (9, .val ⟨(.nums 3 .i64 x9z x9), [.l 9 0], true, some (.l 9 0)⟩), (10, .val (V.s (.int .i64 x10))), (11, .val (V.s (.int .i64 x11)))] [(1, .cells [V.s (.int .i64 c1_0), V.s (.int .i64 c1_1), ⟨(.nums 5 .u8 c1_2z c1_2), [], false, none⟩, ⟨(.nums 5 .u8 c1_3z c1_3), [], false, none⟩, ⟨(.sl 22 c1_4z c1_4), [], false, none⟩])]
theorem spec_QcText.s (k : Nat) (a0_0 : Int) (a0_1 : Int) (a0_2z : Bool) (a0_2 : List Int) (a0_3z : Bool) (a0_3 : List Int) (a0_4z : Bool) (a0_4 : List T) : answer Tryz.prog spec_QcText.Cs 100000 spec_QcText.cuts [] Tryz.f17 (k + 1) [.v (.agg [(.int .i64 a0_0), (.int .i64 a0_1), (.nums 5 .u8 a0_2z a0_2), (.nums 5 .u8 a0_3z a0_3), (.sl 22 a0_4z a0_4)])] = spec_QcText.b (fun r => some (spec_QcText.enc r)) (fun x3 x9z x9 x10 x11 c1_0 c1_1 c1_2z c1_2 c1_3z c1_3 c1_4z c1_4 => rounds Tryz.prog spec_QcText.Cs (finish Tryz.prog [] Tryz.f17 [.v (.agg [(.int .i64 a0_0), (.int .i64 a0_1), (.nums 5 .u8 a0_2z a0_2), (.nums 5 .u8 a0_3z a0_3), (.sl 22 a0_4z a0_4)])]) 100000 k spec_QcText.K0 (spec_QcText.N0 x3 x9z x9 x10 x11 c1_0 c1_1 c1_2z c1_2 c1_3z c1_3 c1_4z c1_4)) k a0_0 a0_1 a0_2z a0_2 a0_3z a0_3 a0_4z a0_4 := by kernel_rfl
theorem spec_QcText.s0 (k : Nat) (G : List Fr → St → Option Res) (a0_0 : Int) (a0_1 : Int) (a0_2z : Bool) (a0_2 : List Int) (a0_3z : Bool) (a0_3 : List Int) (a0_4z : Bool) (a0_4 : List T) (yx3 : List T) (yx9z : Bool) (yx9 : List Int) (yx10 : Int) (yx11 : Int) (yc1_0 : Int) (yc1_1 : Int) (yc1_2z : Bool) (yc1_2 : List Int) (yc1_3z : Bool) (yc1_3 : List Int) (yc1_4z : Bool) (yc1_4 : List T) : resume Tryz.prog (spec_QcText.Cs k) G (finish Tryz.prog [] Tryz.f17 [.v (.agg [(.int .i64 a0_0), (.int .i64 a0_1), (.nums 5 .u8 a0_2z a0_2), (.nums 5 .u8 a0_3z a0_3), (.sl 22 a0_4z a0_4)])]) 100000 spec_QcText.K0 (spec_QcText.N0 yx3 yx9z yx9 yx10 yx11 yc1_0 yc1_1 yc1_2z yc1_2 yc1_3z yc1_3 yc1_4z yc1_4) = spec_QcText.l0b (fun r => some (spec_QcText.enc r)) (fun x3 x9z x9 x10 x11 c1_0 c1_1 c1_2z c1_2 c1_3z c1_3 c1_4z c1_4 => G spec_QcText.K0 (spec_QcText.N0 x3 x9z x9 x10 x11 c1_0 c1_1 c1_2z c1_2 c1_3z c1_3 c1_4z c1_4)) k yx3 yx9z yx9 yx10 yx11 yc1_0 yc1_1 yc1_2z yc1_2 yc1_3z yc1_3 yc1_4z yc1_4 := by kernel_rfl
theorem spec_QcText.b_nat {R R' : Type} (e : R → R') (ret : ByteArray → Option R) (j0 : (List T) → Bool → (List Int) → Int → Int → Int → Int → Bool → (List Int) → Bool → (List Int) → Bool → (List T) → Option R) (k : Nat) (a0_0 : Int) (a0_1 : Int) (a0_2z : Bool) (a0_2 : List Int) (a0_3z : Bool) (a0_3 : List Int) (a0_4z : Bool) (a0_4 : List T) : spec_QcText.b (fun r => (ret r).map e) (fun x3 x9z x9 x10 x11 c1_0 c1_1 c1_2z c1_2 c1_3z c1_3 c1_4z c1_4 => (j0 x3 x9z x9 x10 x11 c1_0 c1_1 c1_2z c1_2 c1_3z c1_3 c1_4z c1_4).map e) k a0_0 a0_1 a0_2z a0_2 a0_3z a0_3 a0_4z a0_4 = (spec_QcText.b ret j0 k a0_0 a0_1 a0_2z a0_2 a0_3z a0_3 a0_4z a0_4).map e := by
  unfold spec_QcText.b
  repeat' first | with_reducible refine nat_cond ?_ ?_ | with_reducible refine nat_bind fun _ => ?_ | rfl
theorem spec_QcText.l0b_nat {R R' : Type} (e : R → R') (ret : ByteArray → Option R) (j0 : (List T) → Bool → (List Int) → Int → Int → Int → Int → Bool → (List Int) → Bool → (List Int) → Bool → (List T) → Option R) (k : Nat) (x3 : List T) (x9z : Bool) (x9 : List Int) (x10 : Int) (x11 : Int) (c1_0 : Int) (c1_1 : Int) (c1_2z : Bool) (c1_2 : List Int) (c1_3z : Bool) (c1_3 : List Int) (c1_4z : Bool) (c1_4 : List T) : spec_QcText.l0b (fun r => (ret r).map e) (fun x3 x9z x9 x10 x11 c1_0 c1_1 c1_2z c1_2 c1_3z c1_3 c1_4z c1_4 => (j0 x3 x9z x9 x10 x11 c1_0 c1_1 c1_2z c1_2 c1_3z c1_3 c1_4z c1_4).map e) k x3 x9z x9 x10 x11 c1_0 c1_1 c1_2z c1_2 c1_3z c1_3 c1_4z c1_4 = (spec_QcText.l0b ret j0 k x3 x9z x9 x10 x11 c1_0 c1_1 c1_2z c1_2 c1_3z c1_3 c1_4z c1_4).map e := by
  unfold spec_QcText.l0b
  repeat' first | with_reducible refine nat_cond ?_ ?_ | with_reducible refine nat_bind fun _ => ?_ | rfl
theorem spec_QcText.rounds_eq (a0_0 : Int) (a0_1 : Int) (a0_2z : Bool) (a0_2 : List Int) (a0_3z : Bool) (a0_3 : List Int) (a0_4z : Bool) (a0_4 : List T) : ∀ k, (∀ (x3 : List T) (x9z : Bool) (x9 : List Int) (x10 : Int) (x11 : Int) (c1_0 : Int) (c1_1 : Int) (c1_2z : Bool) (c1_2 : List Int) (c1_3z : Bool) (c1_3 : List Int) (c1_4z : Bool) (c1_4 : List T), rounds Tryz.prog spec_QcText.Cs (finish Tryz.prog [] Tryz.f17 [.v (.agg [(.int .i64 a0_0), (.int .i64 a0_1), (.nums 5 .u8 a0_2z a0_2), (.nums 5 .u8 a0_3z a0_3), (.sl 22 a0_4z a0_4)])]) 100000 k spec_QcText.K0 (spec_QcText.N0 x3 x9z x9 x10 x11 c1_0 c1_1 c1_2z c1_2 c1_3z c1_3 c1_4z c1_4) = (spec_QcText.l0 k x3 x9z x9 x10 x11 c1_0 c1_1 c1_2z c1_2 c1_3z c1_3 c1_4z c1_4).map spec_QcText.enc)
  | 0 => fun _ _ _ _ _ _ _ _ _ _ _ _ _ => rfl
  | k + 1 => by
    have ih := spec_QcText.rounds_eq a0_0 a0_1 a0_2z a0_2 a0_3z a0_3 a0_4z a0_4 k
    refine fun _ _ _ _ _ _ _ _ _ _ _ _ _ => ?_
    · refine (spec_QcText.s0 k _ a0_0 a0_1 a0_2z a0_2 a0_3z a0_3 a0_4z a0_4 _ _ _ _ _ _ _ _ _ _ _ _ _).trans (Eq.trans ?_ (spec_QcText.l0b_nat spec_QcText.enc some (spec_QcText.l0 k) k _ _ _ _ _ _ _ _ _ _ _ _ _))
      simp only [ih, Option.map_some]
theorem spec_QcText.eq (k : Nat) (a0_0 : Int) (a0_1 : Int) (a0_2z : Bool) (a0_2 : List Int) (a0_3z : Bool) (a0_3 : List Int) (a0_4z : Bool) (a0_4 : List T) : answer Tryz.prog spec_QcText.Cs 100000 spec_QcText.cuts [] Tryz.f17 (k + 1) [.v (.agg [(.int .i64 a0_0), (.int .i64 a0_1), (.nums 5 .u8 a0_2z a0_2), (.nums 5 .u8 a0_3z a0_3), (.sl 22 a0_4z a0_4)])] = (spec_QcText.f (k + 1) a0_0 a0_1 a0_2z a0_2 a0_3z a0_3 a0_4z a0_4).map spec_QcText.enc := by
  have ih := spec_QcText.rounds_eq a0_0 a0_1 a0_2z a0_2 a0_3z a0_3 a0_4z a0_4 k
  refine (spec_QcText.s k a0_0 a0_1 a0_2z a0_2 a0_3z a0_3 a0_4z a0_4).trans (Eq.trans ?_ (spec_QcText.b_nat spec_QcText.enc some (spec_QcText.l0 k) k a0_0 a0_1 a0_2z a0_2 a0_3z a0_3 a0_4z a0_4))
  simp only [ih, Option.map_some]
theorem spec_QcText.sound (k : Nat) : SoundF Tryz.prog 17 (fun a => (spec_QcText.ans k a).val) := by
  refine sound_plain (fun args res h => ?_) (fun t n => rfl)
  unfold spec_QcText.ans at h
  dsimp only at h
  split at h
  · cases k with
    | zero => cases h
    | succ k =>
      unfold Ans.val at h
      rw [← spec_QcText.eq] at h
      exact answer_sound mixed Tryz.func17 _ _ _ (k + 1) (fun j _ => tab_sound (tab_cons (spec_NumText.sound j) (tab_cons (spec_Short.sound j) (tab_cons (spec_BitsList.sound j) (tab_cons (spec_l29Join.sound j) (tab_cons (spec_l29Or.sound j) (tab_nil))))))) _ _ h
  · exact (Ans.no_val h).elim

/-! loop.example/g00790/spec.HeadText -/
def spec_HeadText.b {R : Type} (ret : ByteArray → Option R) (k : Nat) (a0_0 : Int) (a0_1 : Int) (a0_2 : Int) (a0_3z : Bool) (a0_3 : List Int) (a0_4z : Bool) (a0_4 : List Int) (a0_5 : Int) (a0_6 : Int) (a0_7z : Bool) (a0_7 : List Int) (a0_8z : Bool) (a0_8 : List Int) (a0_9z : Bool) (a0_9 : List T) : Option R :=
  (spec_NumText.f k a0_0).bind fun t0 => cond (decide (((⟨#[104, 101, 97, 100, 32]⟩ : ByteArray)).size + (t0).size ≤ 140737488355328)) (cond (decide ((((⟨#[104, 101, 97, 100, 32]⟩ : ByteArray) ++ t0)).size + ((⟨#[47]⟩ : ByteArray)).size ≤ 140737488355328)) ((spec_NumText.f k a0_1).bind fun t1 => cond (decide (((((⟨#[104, 101, 97, 100, 32]⟩ : ByteArray) ++ t0) ++ (⟨#[47]⟩ : ByteArray))).size + (t1).size ≤ 140737488355328)) (cond (decide ((((((⟨#[104, 101, 97, 100, 32]⟩ : ByteArray) ++ t0) ++ (⟨#[47]⟩ : ByteArray)) ++ t1)).size + ((⟨#[32, 98, 121, 32]⟩ : ByteArray)).size ≤ 140737488355328)) ((spec_NumText.f k a0_2).bind fun t2 => cond (decide (((((((⟨#[104, 101, 97, 100, 32]⟩ : ByteArray) ++ t0) ++ (⟨#[47]⟩ : ByteArray)) ++ t1) ++ (⟨#[32, 98, 121, 32]⟩ : ByteArray))).size + (t2).size ≤ 140737488355328)) (cond (decide ((((((((⟨#[104, 101, 97, 100, 32]⟩ : ByteArray) ++ t0) ++ (⟨#[47]⟩ : ByteArray)) ++ t1) ++ (⟨#[32, 98, 121, 32]⟩ : ByteArray)) ++ t2)).size + ((⟨#[32, 111, 110, 32]⟩ : ByteArray)).size ≤ 140737488355328)) ((spec_Short.f k a0_3z a0_3).bind fun t3 => cond (decide (((((((((⟨#[104, 101, 97, 100, 32]⟩ : ByteArray) ++ t0) ++ (⟨#[47]⟩ : ByteArray)) ++ t1) ++ (⟨#[32, 98, 121, 32]⟩ : ByteArray)) ++ t2) ++ (⟨#[32, 111, 110, 32]⟩ : ByteArray))).size + (t3).size ≤ 140737488355328)) (cond (decide ((((((((((⟨#[104, 101, 97, 100, 32]⟩ : ByteArray) ++ t0) ++ (⟨#[47]⟩ : ByteArray)) ++ t1) ++ (⟨#[32, 98, 121, 32]⟩ : ByteArray)) ++ t2) ++ (⟨#[32, 111, 110, 32]⟩ : ByteArray)) ++ t3)).size + ((⟨#[32, 114, 111, 111, 116, 32]⟩ : ByteArray)).size ≤ 140737488355328)) ((spec_Short.f k a0_4z a0_4).bind fun t4 => cond (decide (((((((((((⟨#[104, 101, 97, 100, 32]⟩ : ByteArray) ++ t0) ++ (⟨#[47]⟩ : ByteArray)) ++ t1) ++ (⟨#[32, 98, 121, 32]⟩ : ByteArray)) ++ t2) ++ (⟨#[32, 111, 110, 32]⟩ : ByteArray)) ++ t3) ++ (⟨#[32, 114, 111, 111, 116, 32]⟩ : ByteArray))).size + (t4).size ≤ 140737488355328)) (ret ((((((((((⟨#[104, 101, 97, 100, 32]⟩ : ByteArray) ++ t0) ++ (⟨#[47]⟩ : ByteArray)) ++ t1) ++ (⟨#[32, 98, 121, 32]⟩ : ByteArray)) ++ t2) ++ (⟨#[32, 111, 110, 32]⟩ : ByteArray)) ++ t3) ++ (⟨#[32, 114, 111, 111, 116, 32]⟩ : ByteArray)) ++ t4)) (none)) (none)) (none)) (none)) (none)) (none)) (none)) (none)) (none)
def spec_HeadText.f : Nat → Int → Int → Int → Bool → (List Int) → Bool → (List Int) → Int → Int → Bool → (List Int) → Bool → (List Int) → Bool → (List T) → Option ByteArray
  | 0, _, _, _, _, _, _, _, _, _, _, _, _, _, _, _ => none
  | k + 1, a0_0, a0_1, a0_2, a0_3z, a0_3, a0_4z, a0_4, a0_5, a0_6, a0_7z, a0_7, a0_8z, a0_8, a0_9z, a0_9 => spec_HeadText.b some k a0_0 a0_1 a0_2 a0_3z a0_3 a0_4z a0_4 a0_5 a0_6 a0_7z a0_7 a0_8z a0_8 a0_9z a0_9
def spec_HeadText.enc (r : ByteArray) : Res := ⟨[.vals false [((.str r), true)]], []⟩
def spec_HeadText.ans (k : Nat) : List Arg → Ans
  | [.v (.agg [(.int .i64 a0_0), (.int .i64 a0_1), (.int .i64 a0_2), (.nums 5 .u8 a0_3z a0_3), (.nums 5 .u8 a0_4z a0_4), (.int .i64 a0_5), (.int .i64 a0_6), (.nums 5 .u8 a0_7z a0_7), (.nums 5 .u8 a0_8z a0_8), (.sl 22 a0_9z a0_9)])] => ⟨spec_HeadText.f k a0_0 a0_1 a0_2 a0_3z a0_3 a0_4z a0_4 a0_5 a0_6 a0_7z a0_7 a0_8z a0_8 a0_9z a0_9, spec_HeadText.enc⟩
  | _ => Ans.no
def spec_HeadText.Cs (k : Nat) : CallSem := tab [(48, spec_NumText.ans k), (49, spec_Short.ans k)]
def spec_HeadText.cuts : List (Nat × Keep) := []
theorem spec_HeadText.s (k : Nat) (a0_0 : Int) (a0_1 : Int) (a0_2 : Int) (a0_3z : Bool) (a0_3 : List Int) (a0_4z : Bool) (a0_4 : List Int) (a0_5 : Int) (a0_6 : Int) (a0_7z : Bool) (a0_7 : List Int) (a0_8z : Bool) (a0_8 : List Int) (a0_9z : Bool) (a0_9 : List T) : answer Tryz.prog spec_HeadText.Cs 100000 spec_HeadText.cuts [] Tryz.f18 (k + 1) [.v (.agg [(.int .i64 a0_0), (.int .i64 a0_1), (.int .i64 a0_2), (.nums 5 .u8 a0_3z a0_3), (.nums 5 .u8 a0_4z a0_4), (.int .i64 a0_5), (.int .i64 a0_6), (.nums 5 .u8 a0_7z a0_7), (.nums 5 .u8 a0_8z a0_8), (.sl 22 a0_9z a0_9)])] = spec_HeadText.b (fun r => some (spec_HeadText.enc r)) k a0_0 a0_1 a0_2 a0_3z a0_3 a0_4z a0_4 a0_5 a0_6 a0_7z a0_7 a0_8z a0_8 a0_9z a0_9 := by kernel_rfl
theorem spec_HeadText.b_nat {R R' : Type} (e : R → R') (ret : ByteArray → Option R) (k : Nat) (a0_0 : Int) (a0_1 : Int) (a0_2 : Int) (a0_3z : Bool) (a0_3 : List Int) (a0_4z : Bool) (a0_4 : List Int) (a0_5 : Int) (a0_6 : Int) (a0_7z : Bool) (a0_7 : List Int) (a0_8z : Bool) (a0_8 : List Int) (a0_9z : Bool) (a0_9 : List T) : spec_HeadText.b (fun r => (ret r).map e) k a0_0 a0_1 a0_2 a0_3z a0_3 a0_4z a0_4 a0_5 a0_6 a0_7z a0_7 a0_8z a0_8 a0_9z a0_9 = (spec_HeadText.b ret k a0_0 a0_1 a0_2 a0_3z a0_3 a0_4z a0_4 a0_5 a0_6 a0_7z a0_7 a0_8z a0_8 a0_9z a0_9).map e := by
  unfold spec_HeadText.b
  repeat' first | with_reducible refine nat_cond ?_ ?_ | with_reducible refine nat_bind fun _ => ?_ | rfl
theorem spec_HeadText.eq (k : Nat) (a0_0 : Int) (a0_1 : Int) (a0_2 : Int) (a0_3z : Bool) (a0_3 : List Int) (a0_4z : Bool) (a0_4 : List Int) (a0_5 : Int) (a0_6 : Int) (a0_7z : Bool) (a0_7 : List Int) (a0_8z : Bool) (a0_8 : List Int) (a0_9z : Bool) (a0_9 : List T) : answer Tryz.prog spec_HeadText.Cs 100000 spec_HeadText.cuts [] Tryz.f18 (k + 1) [.v (.agg [(.int .i64 a0_0), (.int .i64 a0_1), (.int .i64 a0_2), (.nums 5 .u8 a0_3z a0_3), (.nums 5 .u8 a0_4z a0_4), (.int .i64 a0_5), (.int .i64 a0_6), (.nums 5 .u8 a0_7z a0_7), (.nums 5 .u8 a0_8z a0_8), (.sl 22 a0_9z a0_9)])] = (spec_HeadText.f (k + 1) a0_0 a0_1 a0_2 a0_3z a0_3 a0_4z a0_4 a0_5 a0_6 a0_7z a0_7 a0_8z a0_8 a0_9z a0_9).map spec_HeadText.enc := by
  refine (spec_HeadText.s k a0_0 a0_1 a0_2 a0_3z a0_3 a0_4z a0_4 a0_5 a0_6 a0_7z a0_7 a0_8z a0_8 a0_9z a0_9).trans (Eq.trans ?_ (spec_HeadText.b_nat spec_HeadText.enc some k a0_0 a0_1 a0_2 a0_3z a0_3 a0_4z a0_4 a0_5 a0_6 a0_7z a0_7 a0_8z a0_8 a0_9z a0_9))
  simp only [Option.map_some]
theorem spec_HeadText.sound (k : Nat) : SoundF Tryz.prog 18 (fun a => (spec_HeadText.ans k a).val) := by
  refine sound_plain (fun args res h => ?_) (fun t n => rfl)
  unfold spec_HeadText.ans at h
  dsimp only at h
  split at h
  · cases k with
    | zero => cases h
    | succ k =>
      unfold Ans.val at h
      rw [← spec_HeadText.eq] at h
      exact answer_sound mixed Tryz.func18 _ _ _ (k + 1) (fun j _ => tab_sound (tab_cons (spec_NumText.sound j) (tab_cons (spec_Short.sound j) (tab_nil)))) _ _ h
  · exact (Ans.no_val h).elim

end Go.Proofs.YtjffolalgcmhaaaGreatDoorG
