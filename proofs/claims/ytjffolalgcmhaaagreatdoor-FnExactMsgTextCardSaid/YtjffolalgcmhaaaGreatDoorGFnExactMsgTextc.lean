/- What the functions compute, printed by a program of this repo; each is shown to be what the machine of values answers. No condition. -/
import Derived.Test.YtjffolalgcmhaaaGreatDoorProg
import Derived.KernelRfl
import Derived.Test.YtjffolalgcmhaaaGreatDoorGFnExactMsgTextb
namespace Go.Proofs.YtjffolalgcmhaaaGreatDoorG
open Go Go.Proofs.YtjffolalgcmhaaaGreatDoorRv Go.Proofs
set_option linter.unusedVariables false
set_option linter.unusedSimpArgs false
/-! loop.example/g00790/spec.BlockText -/
def spec_BlockText.b {R : Type} (ret : ByteArray → Option R) (k : Nat) (a0_0 : Int) (a0_1 : Int) (a0_2 : Int) (a0_3z : Bool) (a0_3 : List Int) (a0_4z : Bool) (a0_4 : List Int) (a0_5 : Int) (a0_6 : Int) (a0_7z : Bool) (a0_7 : List Int) (a0_8z : Bool) (a0_8 : List Int) (a0_9z : Bool) (a0_9 : List T) (a0_10z : Bool) (a0_10 : List T) : Option R :=
  (spec_HeadText.f k a0_0 a0_1 a0_2 a0_3z a0_3 a0_4z a0_4 a0_5 a0_6 a0_7z a0_7 a0_8z a0_8 a0_9z a0_9).bind fun t0 => cond (decide (((⟨#[98, 108, 111, 99, 107, 32]⟩ : ByteArray)).size + (t0).size ≤ 140737488355328)) (cond (decide ((((⟨#[98, 108, 111, 99, 107, 32]⟩ : ByteArray) ++ t0)).size + ((⟨#[32, 116, 120, 115, 32]⟩ : ByteArray)).size ≤ 140737488355328)) ((spec_NumText.f k ((a0_10).length : Int)).bind fun t1 => cond (decide (((((⟨#[98, 108, 111, 99, 107, 32]⟩ : ByteArray) ++ t0) ++ (⟨#[32, 116, 120, 115, 32]⟩ : ByteArray))).size + (t1).size ≤ 140737488355328)) (ret ((((⟨#[98, 108, 111, 99, 107, 32]⟩ : ByteArray) ++ t0) ++ (⟨#[32, 116, 120, 115, 32]⟩ : ByteArray)) ++ t1)) (none)) (none)) (none)
def spec_BlockText.f : Nat → Int → Int → Int → Bool → (List Int) → Bool → (List Int) → Int → Int → Bool → (List Int) → Bool → (List Int) → Bool → (List T) → Bool → (List T) → Option ByteArray
  | 0, _, _, _, _, _, _, _, _, _, _, _, _, _, _, _, _, _ => none
  | k + 1, a0_0, a0_1, a0_2, a0_3z, a0_3, a0_4z, a0_4, a0_5, a0_6, a0_7z, a0_7, a0_8z, a0_8, a0_9z, a0_9, a0_10z, a0_10 => spec_BlockText.b some k a0_0 a0_1 a0_2 a0_3z a0_3 a0_4z a0_4 a0_5 a0_6 a0_7z a0_7 a0_8z a0_8 a0_9z a0_9 a0_10z a0_10
def spec_BlockText.enc (r : ByteArray) : Res := ⟨[.vals false [((.str r), true)]], []⟩
def spec_BlockText.ans (k : Nat) : List Arg → Ans
  | [.v (.agg [(.int .i64 a0_0), (.int .i64 a0_1), (.int .i64 a0_2), (.nums 5 .u8 a0_3z a0_3), (.nums 5 .u8 a0_4z a0_4), (.int .i64 a0_5), (.int .i64 a0_6), (.nums 5 .u8 a0_7z a0_7), (.nums 5 .u8 a0_8z a0_8), (.sl 22 a0_9z a0_9), (.sl 22 a0_10z a0_10)])] => ⟨spec_BlockText.f k a0_0 a0_1 a0_2 a0_3z a0_3 a0_4z a0_4 a0_5 a0_6 a0_7z a0_7 a0_8z a0_8 a0_9z a0_9 a0_10z a0_10, spec_BlockText.enc⟩
  | _ => Ans.no
def spec_BlockText.Cs (k : Nat) : CallSem := tab [(48, spec_NumText.ans k), (18, spec_HeadText.ans k)]
def spec_BlockText.cuts : List (Nat × Keep) := []
theorem spec_BlockText.s (k : Nat) (a0_0 : Int) (a0_1 : Int) (a0_2 : Int) (a0_3z : Bool) (a0_3 : List Int) (a0_4z : Bool) (a0_4 : List Int) (a0_5 : Int) (a0_6 : Int) (a0_7z : Bool) (a0_7 : List Int) (a0_8z : Bool) (a0_8 : List Int) (a0_9z : Bool) (a0_9 : List T) (a0_10z : Bool) (a0_10 : List T) : answer Tryz.prog spec_BlockText.Cs 100000 spec_BlockText.cuts [] Tryz.f19 (k + 1) [.v (.agg [(.int .i64 a0_0), (.int .i64 a0_1), (.int .i64 a0_2), (.nums 5 .u8 a0_3z a0_3), (.nums 5 .u8 a0_4z a0_4), (.int .i64 a0_5), (.int .i64 a0_6), (.nums 5 .u8 a0_7z a0_7), (.nums 5 .u8 a0_8z a0_8), (.sl 22 a0_9z a0_9), (.sl 22 a0_10z a0_10)])] = spec_BlockText.b (fun r => some (spec_BlockText.enc r)) k a0_0 a0_1 a0_2 a0_3z a0_3 a0_4z a0_4 a0_5 a0_6 a0_7z a0_7 a0_8z a0_8 a0_9z a0_9 a0_10z a0_10 := by kernel_rfl
theorem spec_BlockText.b_nat {R R' : Type} (e : R → R') (ret : ByteArray → Option R) (k : Nat) (a0_0 : Int) (a0_1 : Int) (a0_2 : Int) (a0_3z : Bool) (a0_3 : List Int) (a0_4z : Bool) (a0_4 : List Int) (a0_5 : Int) (a0_6 : Int) (a0_7z : Bool) (a0_7 : List Int) (a0_8z : Bool) (a0_8 : List Int) (a0_9z : Bool) (a0_9 : List T) (a0_10z : Bool) (a0_10 : List T) : spec_BlockText.b (fun r => (ret r).map e) k a0_0 a0_1 a0_2 a0_3z a0_3 a0_4z a0_4 a0_5 a0_6 a0_7z a0_7 a0_8z a0_8 a0_9z a0_9 a0_10z a0_10 = (spec_BlockText.b ret k a0_0 a0_1 a0_2 a0_3z a0_3 a0_4z a0_4 a0_5 a0_6 a0_7z a0_7 a0_8z a0_8 a0_9z a0_9 a0_10z a0_10).map e := by
  unfold spec_BlockText.b
  repeat' first | with_reducible refine nat_cond ?_ ?_ | with_reducible refine nat_bind fun _ => ?_ | rfl
theorem spec_BlockText.eq (k : Nat) (a0_0 : Int) (a0_1 : Int) (a0_2 : Int) (a0_3z : Bool) (a0_3 : List Int) (a0_4z : Bool) (a0_4 : List Int) (a0_5 : Int) (a0_6 : Int) (a0_7z : Bool) (a0_7 : List Int) (a0_8z : Bool) (a0_8 : List Int) (a0_9z : Bool) (a0_9 : List T) (a0_10z : Bool) (a0_10 : List T) : answer Tryz.prog spec_BlockText.Cs 100000 spec_BlockText.cuts [] Tryz.f19 (k + 1) [.v (.agg [(.int .i64 a0_0), (.int .i64 a0_1), (.int .i64 a0_2), (.nums 5 .u8 a0_3z a0_3), (.nums 5 .u8 a0_4z a0_4), (.int .i64 a0_5), (.int .i64 a0_6), (.nums 5 .u8 a0_7z a0_7), (.nums 5 .u8 a0_8z a0_8), (.sl 22 a0_9z a0_9), (.sl 22 a0_10z a0_10)])] = (spec_BlockText.f (k + 1) a0_0 a0_1 a0_2 a0_3z a0_3 a0_4z a0_4 a0_5 a0_6 a0_7z a0_7 a0_8z a0_8 a0_9z a0_9 a0_10z a0_10).map spec_BlockText.enc := by
  refine (spec_BlockText.s k a0_0 a0_1 a0_2 a0_3z a0_3 a0_4z a0_4 a0_5 a0_6 a0_7z a0_7 a0_8z a0_8 a0_9z a0_9 a0_10z a0_10).trans (Eq.trans ?_ (spec_BlockText.b_nat spec_BlockText.enc some k a0_0 a0_1 a0_2 a0_3z a0_3 a0_4z a0_4 a0_5 a0_6 a0_7z a0_7 a0_8z a0_8 a0_9z a0_9 a0_10z a0_10))
  simp only [Option.map_some]
theorem spec_BlockText.sound (k : Nat) : SoundF Tryz.prog 19 (fun a => (spec_BlockText.ans k a).val) := by
  refine sound_plain (fun args res h => ?_) (fun t n => rfl)
  unfold spec_BlockText.ans at h
  dsimp only at h
  split at h
  · cases k with
    | zero => cases h
    | succ k =>
      unfold Ans.val at h
      rw [← spec_BlockText.eq] at h
      exact answer_sound mixed Tryz.func19 _ _ _ (k + 1) (fun j _ => tab_sound (tab_cons (spec_NumText.sound j) (tab_cons (spec_HeadText.sound j) (tab_nil)))) _ _ h
  · exact (Ans.no_val h).elim

/-! loop.example/g00790/spec.TcText -/
def spec_TcText.b {R : Type} (ret : ByteArray → Option R) (j0 : (List T) → Bool → (List T) → Int → Int → Int → Bool → (List T) → Option R) (k : Nat) (a0_0 : Int) (a0_1z : Bool) (a0_1 : List T) : Option R :=
  j0 ([] : List T) a0_1z a0_1 ((a0_1).length : Int) 0 a0_0 a0_1z a0_1
def spec_TcText.l0b {R : Type} (ret : ByteArray → Option R) (j0 : (List T) → Bool → (List T) → Int → Int → Int → Bool → (List T) → Option R) (k : Nat) (x3 : List T) (x8z : Bool) (x8 : List T) (x9 : Int) (x10 : Int) (c1_0 : Int) (c1_1z : Bool) (c1_1 : List T) : Option R :=
  cond (decide (x10 < x9)) (cond (decide ((0 : Int) ≤ x10)) (cond (decide (x10 < ((x8).length : Int))) ((spec_NumText.f k (((((x8).getD (x10).toNat .bad).cells.getD 0 .bad)).toInt)).bind fun t0 => cond (decide ((t0).size + ((⟨#[58]⟩ : ByteArray)).size ≤ 140737488355328)) ((spec_NumText.f k (((((x8).getD (x10).toNat .bad).cells.getD 1 .bad)).toInt)).bind fun t1 => cond (decide (((t0 ++ (⟨#[58]⟩ : ByteArray))).size + (t1).size ≤ 140737488355328)) (cond (decide ((x3).length + 1 < 8796093022208)) (j0 (x3 ++ ([(.str ((t0 ++ (⟨#[58]⟩ : ByteArray)) ++ t1))] : List T)) x8z x8 x9 (RowKit.wrap64 (x10 + 1)) c1_0 c1_1z c1_1) (none)) (none)) (none)) (none)) (none)) (cond (decide (((x3).length : Int) = 0)) ((spec_NumText.f k c1_0).bind fun t0 => cond (decide (((⟨#[116, 99, 32]⟩ : ByteArray)).size + (t0).size ≤ 140737488355328)) (cond (decide ((((⟨#[116, 99, 32]⟩ : ByteArray) ++ t0)).size + ((⟨#[32, 45]⟩ : ByteArray)).size ≤ 140737488355328)) (ret (((⟨#[116, 99, 32]⟩ : ByteArray) ++ t0) ++ (⟨#[32, 45]⟩ : ByteArray))) (none)) (none)) ((spec_NumText.f k c1_0).bind fun t0 => cond (decide (((⟨#[116, 99, 32]⟩ : ByteArray)).size + (t0).size ≤ 140737488355328)) (cond (decide ((((⟨#[116, 99, 32]⟩ : ByteArray) ++ t0)).size + ((⟨#[32]⟩ : ByteArray)).size ≤ 140737488355328)) ((spec_l29Join.f k false x3 (⟨#[44]⟩ : ByteArray)).bind fun t1 => cond (decide (((((⟨#[116, 99, 32]⟩ : ByteArray) ++ t0) ++ (⟨#[32]⟩ : ByteArray))).size + (t1).size ≤ 140737488355328)) (ret ((((⟨#[116, 99, 32]⟩ : ByteArray) ++ t0) ++ (⟨#[32]⟩ : ByteArray)) ++ t1)) (none)) (none)) (none)))
def spec_TcText.l0 : Nat → (List T) → Bool → (List T) → Int → Int → Int → Bool → (List T) → Option ByteArray
  | 0, _, _, _, _, _, _, _, _ => none
  | k + 1, x3, x8z, x8, x9, x10, c1_0, c1_1z, c1_1 => spec_TcText.l0b some (spec_TcText.l0 k) k x3 x8z x8 x9 x10 c1_0 c1_1z c1_1
def spec_TcText.f : Nat → Int → Bool → (List T) → Option ByteArray
  | 0, _, _, _ => none
  | k + 1, a0_0, a0_1z, a0_1 => spec_TcText.b some (spec_TcText.l0 k) k a0_0 a0_1z a0_1
def spec_TcText.enc (r : ByteArray) : Res := ⟨[.vals false [((.str r), true)]], []⟩
def spec_TcText.ans (k : Nat) : List Arg → Ans
  | [.v (.agg [(.int .i64 a0_0), (.sl 102 a0_1z a0_1)])] => ⟨spec_TcText.f k a0_0 a0_1z a0_1, spec_TcText.enc⟩
  | _ => Ans.no
def spec_TcText.Cs (k : Nat) : CallSem := tab [(48, spec_NumText.ans k), (52, spec_l29Join.ans k)]
def spec_TcText.cuts : List (Nat × Keep) := [(58, ⟨[(1, some []), (3, none), (8, some []), (9, some []), (10, some [])], [(1, [some [], some []])]⟩)]
noncomputable def spec_TcText.K0 : List Fr := framesAt [true, true, false, true, false] (bodyOf Tryz.f20 spec_TcText.cuts) []
def spec_TcText.N0 (x3 : List T) (x8z : Bool) (x8 : List T) (x9 : Int) (x10 : Int) (c1_0 : Int) (c1_1z : Bool) (c1_1 : List T) : St := stOf 42 42 1 [(1, .bp 1 0), (3, .val ⟨(.sl 9 false x3), [.l 3 0], true, some (.l 3 0)⟩), (8, .val ⟨(.sl 102 x8z x8), [], false, none⟩), (9, .val (V.s (.int .i64 x9))), (10, .val (V.s (.int .i64 x10)))] [(1, .cells [V.s (.int .i64 c1_0), ⟨(.sl 102 c1_1z c1_1), [], false, none⟩])]
theorem spec_TcText.s (k : Nat) (a0_0 : Int) (a0_1z : Bool) (a0_1 : List T) : answer Tryz.prog spec_TcText.Cs 100000 spec_TcText.cuts [] Tryz.f20 (k + 1) [.v (.agg [(.int .i64 a0_0), (.sl 102 a0_1z a0_1)])] = spec_TcText.b (fun r => some (spec_TcText.enc r)) (fun x3 x8z x8 x9 x10 c1_0 c1_1z c1_1 => rounds Tryz.prog spec_TcText.Cs (finish Tryz.prog [] Tryz.f20 [.v (.agg [(.int .i64 a0_0), (.sl 102 a0_1z a0_1)])]) 100000 k spec_TcText.K0 (spec_TcText.N0 x3 x8z x8 x9 x10 c1_0 c1_1z c1_1)) k a0_0 a0_1z a0_1 := by kernel_rfl
theorem spec_TcText.s0 (k : Nat) (G : List Fr → St → Option Res) (a0_0 : Int) (a0_1z : Bool) (a0_1 : List T) (yx3 : List T) (yx8z : Bool) (yx8 : List T) (yx9 : Int) (yx10 : Int) (yc1_0 : Int) (yc1_1z : Bool) (yc1_1 : List T) : resume Tryz.prog (spec_TcText.Cs k) G (finish Tryz.prog [] Tryz.f20 [.v (.agg [(.int .i64 a0_0), (.sl 102 a0_1z a0_1)])]) 100000 spec_TcText.K0 (spec_TcText.N0 yx3 yx8z yx8 yx9 yx10 yc1_0 yc1_1z yc1_1) = spec_TcText.l0b (fun r => some (spec_TcText.enc r)) (fun x3 x8z x8 x9 x10 c1_0 c1_1z c1_1 => G spec_TcText.K0 (spec_TcText.N0 x3 x8z x8 x9 x10 c1_0 c1_1z c1_1)) k yx3 yx8z yx8 yx9 yx10 yc1_0 yc1_1z yc1_1 := by kernel_rfl
theorem spec_TcText.b_nat {R R' : Type} (e : R → R') (ret : ByteArray → Option R) (j0 : (List T) → Bool → (List T) → Int → Int → Int → Bool → (List T) → Option R) (k : Nat) (a0_0 : Int) (a0_1z : Bool) (a0_1 : List T) : spec_TcText.b (fun r => (ret r).map e) (fun x3 x8z x8 x9 x10 c1_0 c1_1z c1_1 => (j0 x3 x8z x8 x9 x10 c1_0 c1_1z c1_1).map e) k a0_0 a0_1z a0_1 = (spec_TcText.b ret j0 k a0_0 a0_1z a0_1).map e := by
  unfold spec_TcText.b
  repeat' first | with_reducible refine nat_cond ?_ ?_ | with_reducible refine nat_bind fun _ => ?_ | rfl
theorem spec_TcText.l0b_nat {R R' : Type} (e : R → R') (ret : ByteArray → Option R) (j0 : (List T) → Bool → (List T) → Int → Int → Int → Bool → (List T) → Option R) (k : Nat) (x3 : List T) (x8z : Bool) (x8 : List T) (x9 : Int) (x10 : Int) (c1_0 : Int) (c1_1z : Bool) (c1_1 : List T) : spec_TcText.l0b (fun r => (ret r).map e) (fun x3 x8z x8 x9 x10 c1_0 c1_1z c1_1 => (j0 x3 x8z x8 x9 x10 c1_0 c1_1z c1_1).map e) k x3 x8z x8 x9 x10 c1_0 c1_1z c1_1 = (spec_TcText.l0b ret j0 k x3 x8z x8 x9 x10 c1_0 c1_1z c1_1).map e := by
  unfold spec_TcText.l0b
  repeat' first | with_reducible refine nat_cond ?_ ?_ | with_reducible refine nat_bind fun _ => ?_ | rfl
theorem spec_TcText.rounds_eq (a0_0 : Int) (a0_1z : Bool) (a0_1 : List T) : ∀ k, (∀ (x3 : List T) (x8z : Bool) (x8 : List T) (x9 : Int) (x10 : Int) (c1_0 : Int) (c1_1z : Bool) (c1_1 : List T), rounds Tryz.prog spec_TcText.Cs (finish Tryz.prog [] Tryz.f20 [.v (.agg [(.int .i64 a0_0), (.sl 102 a0_1z a0_1)])]) 100000 k spec_TcText.K0 (spec_TcText.N0 x3 x8z x8 x9 x10 c1_0 c1_1z c1_1) = (spec_TcText.l0 k x3 x8z x8 x9 x10 c1_0 c1_1z c1_1).map spec_TcText.enc)
  | 0 => fun _ _ _ _ _ _ _ _ => rfl
  | k + 1 => by
    have ih := spec_TcText.rounds_eq a0_0 a0_1z a0_1 k
    refine fun _ _ _ _ _ _ _ _ => ?_
    · refine (spec_TcText.s0 k _ a0_0 a0_1z a0_1 _ _ _ _ _ _ _ _).trans (Eq.trans ?_ (spec_TcText.l0b_nat spec_TcText.enc some (spec_TcText.l0 k) k _ _ _ _ _ _ _ _))
      simp only [ih, Option.map_some]
theorem spec_TcText.eq (k : Nat) (a0_0 : Int) (a0_1z : Bool) (a0_1 : List T) : answer Tryz.prog spec_TcText.Cs 100000 spec_TcText.cuts [] Tryz.f20 (k + 1) [.v (.agg [(.int .i64 a0_0), (.sl 102 a0_1z a0_1)])] = (spec_TcText.f (k + 1) a0_0 a0_1z a0_1).map spec_TcText.enc := by
  have ih := spec_TcText.rounds_eq a0_0 a0_1z a0_1 k
  refine (spec_TcText.s k a0_0 a0_1z a0_1).trans (Eq.trans ?_ (spec_TcText.b_nat spec_TcText.enc some (spec_TcText.l0 k) k a0_0 a0_1z a0_1))
  simp only [ih, Option.map_some]
theorem spec_TcText.sound (k : Nat) : SoundF Tryz.prog 20 (fun a => (spec_TcText.ans k a).val) := by
  refine sound_plain (fun args res h => ?_) (fun t n => rfl)
  unfold spec_TcText.ans at h
  dsimp only at h
  split at h
  · cases k with
    | zero => cases h
    | succ k =>
      unfold Ans.val at h
      rw [← spec_TcText.eq] at h
      exact answer_sound mixed Tryz.func20 _ _ _ (k + 1) (fun j _ => tab_sound (tab_cons (spec_NumText.sound j) (tab_cons (spec_l29Join.sound j) (tab_nil)))) _ _ h
  · exact (Ans.no_val h).elim

/-! loop.example/g00790/spec.ProofText -/
def spec_ProofText.b {R : Type} (ret : ByteArray → Option R) (j0 : ByteArray → Bool → (List T) → Int → Int → Option R) (k : Nat) (a0_0z : Bool) (a0_0 : List T) (a0_1 : Int) (a0_2 : Int) (a0_3z : Bool) (a0_3 : List Int) (a0_4z : Bool) (a0_4 : List Int) (a0_5z : Bool) (a0_5 : List T) : Option R :=
  j0 (⟨#[112, 114, 111, 111, 102]⟩ : ByteArray) a0_0z a0_0 ((a0_0).length : Int) 0
def spec_ProofText.l0b {R : Type} (ret : ByteArray → Option R) (j0 : ByteArray → Bool → (List T) → Int → Int → Option R) (k : Nat) (x3 : ByteArray) (x7z : Bool) (x7 : List T) (x8 : Int) (x9 : Int) : Option R :=
  cond (decide (x9 < x8)) (cond (decide ((0 : Int) ≤ x9)) (cond (decide (x9 < ((x7).length : Int))) (cond (decide ((x3).size + ((⟨#[32]⟩ : ByteArray)).size ≤ 140737488355328)) ((spec_NumText.f k (((((x7).getD (x9).toNat .bad).cells.getD 0 .bad)).toInt)).bind fun t0 => cond (decide (((x3 ++ (⟨#[32]⟩ : ByteArray))).size + (t0).size ≤ 140737488355328)) (cond (decide ((((x3 ++ (⟨#[32]⟩ : ByteArray)) ++ t0)).size + ((⟨#[47]⟩ : ByteArray)).size ≤ 140737488355328)) ((spec_NumText.f k (((((x7).getD (x9).toNat .bad).cells.getD 1 .bad)).toInt)).bind fun t1 => cond (decide (((((x3 ++ (⟨#[32]⟩ : ByteArray)) ++ t0) ++ (⟨#[47]⟩ : ByteArray))).size + (t1).size ≤ 140737488355328)) (j0 ((((x3 ++ (⟨#[32]⟩ : ByteArray)) ++ t0) ++ (⟨#[47]⟩ : ByteArray)) ++ t1) x7z x7 x8 (RowKit.wrap64 (x9 + 1))) (none)) (none)) (none)) (none)) (none)) (none)) (ret x3)
def spec_ProofText.l0 : Nat → ByteArray → Bool → (List T) → Int → Int → Option ByteArray
  | 0, _, _, _, _, _ => none
  | k + 1, x3, x7z, x7, x8, x9 => spec_ProofText.l0b some (spec_ProofText.l0 k) k x3 x7z x7 x8 x9
def spec_ProofText.f : Nat → Bool → (List T) → Int → Int → Bool → (List Int) → Bool → (List Int) → Bool → (List T) → Option ByteArray
  | 0, _, _, _, _, _, _, _, _, _, _ => none
  | k + 1, a0_0z, a0_0, a0_1, a0_2, a0_3z, a0_3, a0_4z, a0_4, a0_5z, a0_5 => spec_ProofText.b some (spec_ProofText.l0 k) k a0_0z a0_0 a0_1 a0_2 a0_3z a0_3 a0_4z a0_4 a0_5z a0_5
def spec_ProofText.enc (r : ByteArray) : Res := ⟨[.vals false [((.str r), true)]], []⟩
def spec_ProofText.ans (k : Nat) : List Arg → Ans
  | [.v (.agg [(.sl 47 a0_0z a0_0), (.int .i64 a0_1), (.int .i64 a0_2), (.nums 5 .u8 a0_3z a0_3), (.nums 5 .u8 a0_4z a0_4), (.sl 22 a0_5z a0_5)])] => ⟨spec_ProofText.f k a0_0z a0_0 a0_1 a0_2 a0_3z a0_3 a0_4z a0_4 a0_5z a0_5, spec_ProofText.enc⟩
  | _ => Ans.no
def spec_ProofText.Cs (k : Nat) : CallSem := tab [(48, spec_NumText.ans k)]
def spec_ProofText.cuts : List (Nat × Keep) := [(58, ⟨[(3, some []), (7, some []), (8, some []), (9, some [])], []⟩)]
noncomputable def spec_ProofText.K0 : List Fr := framesAt [true, true, false, true, false] (bodyOf Tryz.f21 spec_ProofText.cuts) []
def spec_ProofText.N0 (x3 : ByteArray) (x7z : Bool) (x7 : List T) (x8 : Int) (x9 : Int) : St := stOf 26 26 1 [(3, .val (V.s (.str x3))), (7, .val ⟨(.sl 47 x7z x7), [], false, none⟩), (8, .val (V.s (.int .i64 x8))), (9, .val (V.s (.int .i64 x9)))] []
theorem spec_ProofText.s (k : Nat) (a0_0z : Bool) (a0_0 : List T) (a0_1 : Int) (a0_2 : Int) (a0_3z : Bool) (a0_3 : List Int) (a0_4z : Bool) (a0_4 : List Int) (a0_5z : Bool) (a0_5 : List T) : answer Tryz.prog spec_ProofText.Cs 100000 spec_ProofText.cuts [] Tryz.f21 (k + 1) [.v (.agg [(.sl 47 a0_0z a0_0), (.int .i64 a0_1), (.int .i64 a0_2), (.nums 5 .u8 a0_3z a0_3), (.nums 5 .u8 a0_4z a0_4), (.sl 22 a0_5z a0_5)])] = spec_ProofText.b (fun r => some (spec_ProofText.enc r)) (fun x3 x7z x7 x8 x9 => rounds Tryz.prog spec_ProofText.Cs (finish Tryz.prog [] Tryz.f21 [.v (.agg [(.sl 47 a0_0z a0_0), (.int .i64 a0_1), (.int .i64 a0_2), (.nums 5 .u8 a0_3z a0_3), (.nums 5 .u8 a0_4z a0_4), (.sl 22 a0_5z a0_5)])]) 100000 k spec_ProofText.K0 (spec_ProofText.N0 x3 x7z x7 x8 x9)) k a0_0z a0_0 a0_1 a0_2 a0_3z a0_3 a0_4z a0_4 a0_5z a0_5 := by kernel_rfl
theorem spec_ProofText.s0 (k : Nat) (G : List Fr → St → Option Res) (a0_0z : Bool) (a0_0 : List T) (a0_1 : Int) (a0_2 : Int) (a0_3z : Bool) (a0_3 : List Int) (a0_4z : Bool) (a0_4 : List Int) (a0_5z : Bool) (a0_5 : List T) (yx3 : ByteArray) (yx7z : Bool) (yx7 : List T) (yx8 : Int) (yx9 : Int) : resume Tryz.prog (spec_ProofText.Cs k) G (finish Tryz.prog [] Tryz.f21 [.v (.agg [(.sl 47 a0_0z a0_0), (.int .i64 a0_1), (.int .i64 a0_2), (.nums 5 .u8 a0_3z a0_3), (.nums 5 .u8 a0_4z a0_4), (.sl 22 a0_5z a0_5)])]) 100000 spec_ProofText.K0 (spec_ProofText.N0 yx3 yx7z yx7 yx8 yx9) = spec_ProofText.l0b (fun r => some (spec_ProofText.enc r)) (fun x3 x7z x7 x8 x9 => G spec_ProofText.K0 (spec_ProofText.N0 x3 x7z x7 x8 x9)) k yx3 yx7z yx7 yx8 yx9 := by kernel_rfl
theorem spec_ProofText.b_nat {R R' : Type} (e : R → R') (ret : ByteArray → Option R) (j0 : ByteArray → Bool → (List T) → Int → Int → Option R) (k : Nat) (a0_0z : Bool) (a0_0 : List T) (a0_1 : Int) (a0_2 : Int) (a0_3z : Bool) (a0_3 : List Int) (a0_4z : Bool) (a0_4 : List Int) (a0_5z : Bool) (a0_5 : List T) : spec_ProofText.b (fun r => (ret r).map e) (fun x3 x7z x7 x8 x9 => (j0 x3 x7z x7 x8 x9).map e) k a0_0z a0_0 a0_1 a0_2 a0_3z a0_3 a0_4z a0_4 a0_5z a0_5 = (spec_ProofText.b ret j0 k a0_0z a0_0 a0_1 a0_2 a0_3z a0_3 a0_4z a0_4 a0_5z a0_5).map e := by
  unfold spec_ProofText.b
  repeat' first | with_reducible refine nat_cond ?_ ?_ | with_reducible refine nat_bind fun _ => ?_ | rfl
theorem spec_ProofText.l0b_nat {R R' : Type} (e : R → R') (ret : ByteArray → Option R) (j0 : ByteArray → Bool → (List T) → Int → Int → Option R) (k : Nat) (x3 : ByteArray) (x7z : Bool) (x7 : List T) (x8 : Int) (x9 : Int) : spec_ProofText.l0b (fun r => (ret r).map e) (fun x3 x7z x7 x8 x9 => (j0 x3 x7z x7 x8 x9).map e) k x3 x7z x7 x8 x9 = (spec_ProofText.l0b ret j0 k x3 x7z x7 x8 x9).map e := by
  unfold spec_ProofText.l0b
  repeat' first | with_reducible refine nat_cond ?_ ?_ | with_reducible refine nat_bind fun _ => ?_ | rfl
theorem spec_ProofText.rounds_eq (a0_0z : Bool) (a0_0 : List T) (a0_1 : Int) (a0_2 : Int) (a0_3z : Bool) (a0_3 : List Int) (a0_4z : Bool) (a0_4 : List Int) (a0_5z : Bool) (a0_5 : List T) : ∀ k, (∀ (x3 : ByteArray) (x7z : Bool) (x7 : List T) (x8 : Int) (x9 : Int), rounds Tryz.prog spec_ProofText.Cs (finish Tryz.prog [] Tryz.f21 [.v (.agg [(.sl 47 a0_0z a0_0), (.int .i64 a0_1), (.int .i64 a0_2), (.nums 5 .u8 a0_3z a0_3), (.nums 5 .u8 a0_4z a0_4), (.sl 22 a0_5z a0_5)])]) 100000 k spec_ProofText.K0 (spec_ProofText.N0 x3 x7z x7 x8 x9) = (spec_ProofText.l0 k x3 x7z x7 x8 x9).map spec_ProofText.enc)
  | 0 => fun _ _ _ _ _ => rfl
  | k + 1 => by
    have ih := spec_ProofText.rounds_eq a0_0z a0_0 a0_1 a0_2 a0_3z a0_3 a0_4z a0_4 a0_5z a0_5 k
    refine fun _ _ _ _ _ => ?_
    · refine (spec_ProofText.s0 k _ a0_0z a0_0 a0_1 a0_2 a0_3z a0_3 a0_4z a0_4 a0_5z a0_5 _ _ _ _ _).trans (Eq.trans ?_ (spec_ProofText.l0b_nat spec_ProofText.enc some (spec_ProofText.l0 k) k _ _ _ _ _))
      simp only [ih, Option.map_some]
theorem spec_ProofText.eq (k : Nat) (a0_0z : Bool) (a0_0 : List T) (a0_1 : Int) (a0_2 : Int) (a0_3z : Bool) (a0_3 : List Int) (a0_4z : Bool) (a0_4 : List Int) (a0_5z : Bool) (a0_5 : List T) : answer Tryz.prog spec_ProofText.Cs 100000 spec_ProofText.cuts [] Tryz.f21 (k + 1) [.v (.agg [(.sl 47 a0_0z a0_0), (.int .i64 a0_1), (.int .i64 a0_2), (.nums 5 .u8 a0_3z a0_3), (.nums 5 .u8 a0_4z a0_4), (.sl 22 a0_5z a0_5)])] = (spec_ProofText.f (k + 1) a0_0z a0_0 a0_1 a0_2 a0_3z a0_3 a0_4z a0_4 a0_5z a0_5).map spec_ProofText.enc := by
  have ih := spec_ProofText.rounds_eq a0_0z a0_0 a0_1 a0_2 a0_3z a0_3 a0_4z a0_4 a0_5z a0_5 k
  refine (spec_ProofText.s k a0_0z a0_0 a0_1 a0_2 a0_3z a0_3 a0_4z a0_4 a0_5z a0_5).trans (Eq.trans ?_ (spec_ProofText.b_nat spec_ProofText.enc some (spec_ProofText.l0 k) k a0_0z a0_0 a0_1 a0_2 a0_3z a0_3 a0_4z a0_4 a0_5z a0_5))
  simp only [ih, Option.map_some]
theorem spec_ProofText.sound (k : Nat) : SoundF Tryz.prog 21 (fun a => (spec_ProofText.ans k a).val) := by
  refine sound_plain (fun args res h => ?_) (fun t n => rfl)
  unfold spec_ProofText.ans at h
  dsimp only at h
  split at h
  · cases k with
    | zero => cases h
    | succ k =>
      unfold Ans.val at h
      rw [← spec_ProofText.eq] at h
      exact answer_sound mixed Tryz.func21 _ _ _ (k + 1) (fun j _ => tab_sound (tab_cons (spec_NumText.sound j) (tab_nil))) _ _ h
  · exact (Ans.no_val h).elim

/-! loop.example/g00790/spec.InclText -/
def spec_InclText.b {R : Type} (ret : ByteArray → Option R) (k : Nat) (a0_0 : Int) (a0_1 : Int) (a0_2 : Int) (a0_3z : Bool) (a0_3 : List Int) (a0_4z : Bool) (a0_4 : List T) : Option R :=
  (spec_NumText.f k a0_0).bind fun t0 => cond (decide (((⟨#[105, 110, 99, 108, 32]⟩ : ByteArray)).size + (t0).size ≤ 140737488355328)) (cond (decide ((((⟨#[105, 110, 99, 108, 32]⟩ : ByteArray) ++ t0)).size + ((⟨#[32]⟩ : ByteArray)).size ≤ 140737488355328)) ((spec_NumText.f k a0_2).bind fun t1 => cond (decide (((((⟨#[105, 110, 99, 108, 32]⟩ : ByteArray) ++ t0) ++ (⟨#[32]⟩ : ByteArray))).size + (t1).size ≤ 140737488355328)) (cond (decide ((((((⟨#[105, 110, 99, 108, 32]⟩ : ByteArray) ++ t0) ++ (⟨#[32]⟩ : ByteArray)) ++ t1)).size + ((⟨#[47]⟩ : ByteArray)).size ≤ 140737488355328)) ((spec_NumText.f k a0_1).bind fun t2 => cond (decide (((((((⟨#[105, 110, 99, 108, 32]⟩ : ByteArray) ++ t0) ++ (⟨#[32]⟩ : ByteArray)) ++ t1) ++ (⟨#[47]⟩ : ByteArray))).size + (t2).size ≤ 140737488355328)) (cond (decide ((((((((⟨#[105, 110, 99, 108, 32]⟩ : ByteArray) ++ t0) ++ (⟨#[32]⟩ : ByteArray)) ++ t1) ++ (⟨#[47]⟩ : ByteArray)) ++ t2)).size + ((⟨#[32]⟩ : ByteArray)).size ≤ 140737488355328)) ((spec_HexText.f k a0_3z a0_3).bind fun t3 => (spec_l29Or.f k t3).bind fun t4 => cond (decide (((((((((⟨#[105, 110, 99, 108, 32]⟩ : ByteArray) ++ t0) ++ (⟨#[32]⟩ : ByteArray)) ++ t1) ++ (⟨#[47]⟩ : ByteArray)) ++ t2) ++ (⟨#[32]⟩ : ByteArray))).size + (t4).size ≤ 140737488355328)) (ret ((((((((⟨#[105, 110, 99, 108, 32]⟩ : ByteArray) ++ t0) ++ (⟨#[32]⟩ : ByteArray)) ++ t1) ++ (⟨#[47]⟩ : ByteArray)) ++ t2) ++ (⟨#[32]⟩ : ByteArray)) ++ t4)) (none)) (none)) (none)) (none)) (none)) (none)) (none)
def spec_InclText.f : Nat → Int → Int → Int → Bool → (List Int) → Bool → (List T) → Option ByteArray
  | 0, _, _, _, _, _, _, _ => none
  | k + 1, a0_0, a0_1, a0_2, a0_3z, a0_3, a0_4z, a0_4 => spec_InclText.b some k a0_0 a0_1 a0_2 a0_3z a0_3 a0_4z a0_4
def spec_InclText.enc (r : ByteArray) : Res := ⟨[.vals false [((.str r), true)]], []⟩
def spec_InclText.ans (k : Nat) : List Arg → Ans
  | [.v (.agg [(.int .i64 a0_0), (.int .i64 a0_1), (.int .i64 a0_2), (.nums 5 .u8 a0_3z a0_3), (.sl 22 a0_4z a0_4)])] => ⟨spec_InclText.f k a0_0 a0_1 a0_2 a0_3z a0_3 a0_4z a0_4, spec_InclText.enc⟩
  | _ => Ans.no
def spec_InclText.Cs (k : Nat) : CallSem := tab [(48, spec_NumText.ans k), (53, spec_HexText.ans k), (51, spec_l29Or.ans k)]
def spec_InclText.cuts : List (Nat × Keep) := []
theorem spec_InclText.s (k : Nat) (a0_0 : Int) (a0_1 : Int) (a0_2 : Int) (a0_3z : Bool) (a0_3 : List Int) (a0_4z : Bool) (a0_4 : List T) : answer Tryz.prog spec_InclText.Cs 100000 spec_InclText.cuts [] Tryz.f22 (k + 1) [.v (.agg [(.int .i64 a0_0), (.int .i64 a0_1), (.int .i64 a0_2), (.nums 5 .u8 a0_3z a0_3), (.sl 22 a0_4z a0_4)])] = spec_InclText.b (fun r => some (spec_InclText.enc r)) k a0_0 a0_1 a0_2 a0_3z a0_3 a0_4z a0_4 := by kernel_rfl
theorem spec_InclText.b_nat {R R' : Type} (e : R → R') (ret : ByteArray → Option R) (k : Nat) (a0_0 : Int) (a0_1 : Int) (a0_2 : Int) (a0_3z : Bool) (a0_3 : List Int) (a0_4z : Bool) (a0_4 : List T) : spec_InclText.b (fun r => (ret r).map e) k a0_0 a0_1 a0_2 a0_3z a0_3 a0_4z a0_4 = (spec_InclText.b ret k a0_0 a0_1 a0_2 a0_3z a0_3 a0_4z a0_4).map e := by
  unfold spec_InclText.b
  repeat' first | with_reducible refine nat_cond ?_ ?_ | with_reducible refine nat_bind fun _ => ?_ | rfl
theorem spec_InclText.eq (k : Nat) (a0_0 : Int) (a0_1 : Int) (a0_2 : Int) (a0_3z : Bool) (a0_3 : List Int) (a0_4z : Bool) (a0_4 : List T) : answer Tryz.prog spec_InclText.Cs 100000 spec_InclText.cuts [] Tryz.f22 (k + 1) [.v (.agg [(.int .i64 a0_0), (.int .i64 a0_1), (.int .i64 a0_2), (.nums 5 .u8 a0_3z a0_3), (.sl 22 a0_4z a0_4)])] = (spec_InclText.f (k + 1) a0_0 a0_1 a0_2 a0_3z a0_3 a0_4z a0_4).map spec_InclText.enc := by
  refine (spec_InclText.s k a0_0 a0_1 a0_2 a0_3z a0_3 a0_4z a0_4).trans (Eq.trans ?_ (spec_InclText.b_nat spec_InclText.enc some k a0_0 a0_1 a0_2 a0_3z a0_3 a0_4z a0_4))
  simp only [Option.map_some]
theorem spec_InclText.sound (k : Nat) : SoundF Tryz.prog 22 (fun a => (spec_InclText.ans k a).val) := by
  refine sound_plain (fun args res h => ?_) (fun t n => rfl)
  unfold spec_InclText.ans at h
  dsimp only at h
  split at h
  · cases k with
    | zero => cases h
    | succ k =>
      unfold Ans.val at h
      rw [← spec_InclText.eq] at h
      exact answer_sound mixed Tryz.func22 _ _ _ (k + 1) (fun j _ => tab_sound (tab_cons (spec_NumText.sound j) (tab_cons (spec_HexText.sound j) (tab_cons (spec_l29Or.sound j) (tab_nil))))) _ _ h
  · exact (Ans.no_val h).elim

/-! loop.example/g00790/spec.MsgText -/
def spec_MsgText.b {R : Type} (ret : ByteArray → Option R) (k : Nat) (a0_0 : Int) (a0_1 : Int) (a0_2 : Int) (a0_3z : Bool) (a0_3 : List Int) (a0_4 : Int) (a0_5z : Bool) (a0_5 : List Int) (a0_6 : Int) (a0_7 : Int) (a0_8z : Bool) (a0_8 : List Int) (a0_9z : Bool) (a0_9 : List Int) (a0_10z : Bool) (a0_10 : List T) (a0_11 : Int) (a0_12 : Int) (a0_13 : Int) (a0_14z : Bool) (a0_14 : List Int) (a0_15z : Bool) (a0_15 : List Int) (a0_16 : Int) (a0_17 : Int) (a0_18z : Bool) (a0_18 : List Int) (a0_19z : Bool) (a0_19 : List Int) (a0_20z : Bool) (a0_20 : List T) (a0_21 : Int) (a0_22 : Int) (a0_23 : Int) (a0_24z : Bool) (a0_24 : List Int) (a0_25z : Bool) (a0_25 : List Int) (a0_26 : Int) (a0_27 : Int) (a0_28z : Bool) (a0_28 : List Int) (a0_29z : Bool) (a0_29 : List Int) (a0_30z : Bool) (a0_30 : List T) (a0_31z : Bool) (a0_31 : List T) (a0_32 : Int) (a0_33z : Bool) (a0_33 : List T) (a0_34z : Bool) (a0_34 : List T) (a0_35 : Int) (a0_36 : Int) (a0_37z : Bool) (a0_37 : List Int) (a0_38z : Bool) (a0_38 : List Int) (a0_39z : Bool) (a0_39 : List T) (a0_40 : Int) (a0_41 : Int) (a0_42 : Int) (a0_43z : Bool) (a0_43 : List Int) (a0_44z : Bool) (a0_44 : List T) : Option R :=
  cond (decide (a0_0 = 1)) ((spec_VoteText.f k a0_1 a0_2 a0_3z a0_3 a0_4 a0_5z a0_5).bind fun t0 => ret t0) (cond (decide (a0_0 = 2)) ((spec_QcText.f k a0_6 a0_7 a0_8z a0_8 a0_9z a0_9 a0_10z a0_10).bind fun t0 => ret t0) (cond (decide (a0_0 = 3)) ((spec_HeadText.f k a0_11 a0_12 a0_13 a0_14z a0_14 a0_15z a0_15 a0_16 a0_17 a0_18z a0_18 a0_19z a0_19 a0_20z a0_20).bind fun t0 => ret t0) (cond (decide (a0_0 = 4)) ((spec_BlockText.f k a0_21 a0_22 a0_23 a0_24z a0_24 a0_25z a0_25 a0_26 a0_27 a0_28z a0_28 a0_29z a0_29 a0_30z a0_30 a0_31z a0_31).bind fun t0 => ret t0) (cond (decide (a0_0 = 5)) ((spec_TcText.f k a0_32 a0_33z a0_33).bind fun t0 => ret t0) (cond (decide (a0_0 = 6)) ((spec_ProofText.f k a0_34z a0_34 a0_35 a0_36 a0_37z a0_37 a0_38z a0_38 a0_39z a0_39).bind fun t0 => ret t0) (cond (decide (a0_0 = 7)) ((spec_InclText.f k a0_40 a0_41 a0_42 a0_43z a0_43 a0_44z a0_44).bind fun t0 => ret t0) (ret (⟨#[]⟩ : ByteArray))))))))
def spec_MsgText.f : Nat → Int → Int → Int → Bool → (List Int) → Int → Bool → (List Int) → Int → Int → Bool → (List Int) → Bool → (List Int) → Bool → (List T) → Int → Int → Int → Bool → (List Int) → Bool → (List Int) → Int → Int → Bool → (List Int) → Bool → (List Int) → Bool → (List T) → Int → Int → Int → Bool → (List Int) → Bool → (List Int) → Int → Int → Bool → (List Int) → Bool → (List Int) → Bool → (List T) → Bool → (List T) → Int → Bool → (List T) → Bool → (List T) → Int → Int → Bool → (List Int) → Bool → (List Int) → Bool → (List T) → Int → Int → Int → Bool → (List Int) → Bool → (List T) → Option ByteArray
  | 0, _, _, _, _, _, _, _, _, _, _, _, _, _, _, _, _, _, _, _, _, _, _, _, _, _, _, _, _, _, _, _, _, _, _, _, _, _, _, _, _, _, _, _, _, _, _, _, _, _, _, _, _, _, _, _, _, _, _, _, _, _, _, _, _, _, _, _, _ => none
  | k + 1, a0_0, a0_1, a0_2, a0_3z, a0_3, a0_4, a0_5z, a0_5, a0_6, a0_7, a0_8z, a0_8, a0_9z, a0_9, a0_10z, a0_10, a0_11, a0_12, a0_13, a0_14z, a0_14, a0_15z, a0_15, a0_16, a0_17, a0_18z, a0_18, a0_19z, a0_19, a0_20z, a0_20, a0_21, a0_22, a0_23, a0_24z, a0_24, a0_25z, a0_25, a0_26, a0_27, a0_28z, a0_28, a0_29z, a0_29, a0_30z, a0_30, a0_31z, a0_31, a0_32, a0_33z, a0_33, a0_34z, a0_34, a0_35, a0_36, a0_37z, a0_37, a0_38z, a0_38, a0_39z, a0_39, a0_40, a0_41, a0_42, a0_43z, a0_43, a0_44z, a0_44 => spec_MsgText.b some k a0_0 a0_1 a0_2 a0_3z a0_3 a0_4 a0_5z a0_5 a0_6 a0_7 a0_8z a0_8 a0_9z a0_9 a0_10z a0_10 a0_11 a0_12 a0_13 a0_14z a0_14 a0_15z a0_15 a0_16 a0_17 a0_18z a0_18 a0_19z a0_19 a0_20z a0_20 a0_21 a0_22 a0_23 a0_24z a0_24 a0_25z a0_25 a0_26 a0_27 a0_28z a0_28 a0_29z a0_29 a0_30z a0_30 a0_31z a0_31 a0_32 a0_33z a0_33 a0_34z a0_34 a0_35 a0_36 a0_37z a0_37 a0_38z a0_38 a0_39z a0_39 a0_40 a0_41 a0_42 a0_43z a0_43 a0_44z a0_44
def spec_MsgText.enc (r : ByteArray) : Res := ⟨[.vals false [((.str r), true)]], []⟩
def spec_MsgText.ans (k : Nat) : List Arg → Ans
  | [.v (.agg l0)] => (takeI l0 fun a0_0 l0 => (takeI l0 fun a0_1 l0 => (takeI l0 fun a0_2 l0 => (takeN 5 l0 fun a0_3z a0_3 l0 => (takeI l0 fun a0_4 l0 => (takeN 5 l0 fun a0_5z a0_5 l0 => (takeI l0 fun a0_6 l0 => (takeI l0 fun a0_7 l0 => (takeN 5 l0 fun a0_8z a0_8 l0 => (takeN 5 l0 fun a0_9z a0_9 l0 => (takeS 22 l0 fun a0_10z a0_10 l0 => (takeI l0 fun a0_11 l0 => (takeI l0 fun a0_12 l0 => (takeI l0 fun a0_13 l0 => (takeN 5 l0 fun a0_14z a0_14 l0 => (takeN 5 l0 fun a0_15z a0_15 l0 => (takeI l0 fun a0_16 l0 => (takeI l0 fun a0_17 l0 => (takeN 5 l0 fun a0_18z a0_18 l0 => (takeN 5 l0 fun a0_19z a0_19 l0 => (takeS 22 l0 fun a0_20z a0_20 l0 => (takeI l0 fun a0_21 l0 => (takeI l0 fun a0_22 l0 => (takeI l0 fun a0_23 l0 => (takeN 5 l0 fun a0_24z a0_24 l0 => (takeN 5 l0 fun a0_25z a0_25 l0 => (takeI l0 fun a0_26 l0 => (takeI l0 fun a0_27 l0 => (takeN 5 l0 fun a0_28z a0_28 l0 => (takeN 5 l0 fun a0_29z a0_29 l0 => (takeS 22 l0 fun a0_30z a0_30 l0 => (takeS 22 l0 fun a0_31z a0_31 l0 => (takeI l0 fun a0_32 l0 => (takeS 102 l0 fun a0_33z a0_33 l0 => (takeS 47 l0 fun a0_34z a0_34 l0 => (takeI l0 fun a0_35 l0 => (takeI l0 fun a0_36 l0 => (takeN 5 l0 fun a0_37z a0_37 l0 => (takeN 5 l0 fun a0_38z a0_38 l0 => (takeS 22 l0 fun a0_39z a0_39 l0 => (takeI l0 fun a0_40 l0 => (takeI l0 fun a0_41 l0 => (takeI l0 fun a0_42 l0 => (takeN 5 l0 fun a0_43z a0_43 l0 => (takeS 22 l0 fun a0_44z a0_44 l0 => (takeE l0 ⟨spec_MsgText.f k a0_0 a0_1 a0_2 a0_3z a0_3 a0_4 a0_5z a0_5 a0_6 a0_7 a0_8z a0_8 a0_9z a0_9 a0_10z a0_10 a0_11 a0_12 a0_13 a0_14z a0_14 a0_15z a0_15 a0_16 a0_17 a0_18z a0_18 a0_19z a0_19 a0_20z a0_20 a0_21 a0_22 a0_23 a0_24z a0_24 a0_25z a0_25 a0_26 a0_27 a0_28z a0_28 a0_29z a0_29 a0_30z a0_30 a0_31z a0_31 a0_32 a0_33z a0_33 a0_34z a0_34 a0_35 a0_36 a0_37z a0_37 a0_38z a0_38 a0_39z a0_39 a0_40 a0_41 a0_42 a0_43z a0_43 a0_44z a0_44, spec_MsgText.enc⟩))))))))))))))))))))))))))))))))))))))))))))))
  | _ => Ans.no
def spec_MsgText.Cs (k : Nat) : CallSem := tab [(16, spec_VoteText.ans k), (17, spec_QcText.ans k), (18, spec_HeadText.ans k), (19, spec_BlockText.ans k), (20, spec_TcText.ans k), (21, spec_ProofText.ans k), (22, spec_InclText.ans k)]
def spec_MsgText.cuts : List (Nat × Keep) := []
theorem spec_MsgText.s (k : Nat) (a0_0 : Int) (a0_1 : Int) (a0_2 : Int) (a0_3z : Bool) (a0_3 : List Int) (a0_4 : Int) (a0_5z : Bool) (a0_5 : List Int) (a0_6 : Int) (a0_7 : Int) (a0_8z : Bool) (a0_8 : List Int) (a0_9z : Bool) (a0_9 : List Int) (a0_10z : Bool) (a0_10 : List T) (a0_11 : Int) (a0_12 : Int) (a0_13 : Int) (a0_14z : Bool) (a0_14 : List Int) (a0_15z : Bool) (a0_15 : List Int) (a0_16 : Int) (a0_17 : Int) (a0_18z : Bool) (a0_18 : List Int) (a0_19z : Bool) (a0_19 : List Int) (a0_20z : Bool) (a0_20 : List T) (a0_21 : Int) (a0_22 : Int) (a0_23 : Int) (a0_24z : Bool) (a0_24 : List Int) (a0_25z : Bool) (a0_25 : List Int) (a0_26 : Int) (a0_27 : Int) (a0_28z : Bool) (a0_28 : List Int) (a0_29z : Bool) (a0_29 : List Int) (a0_30z : Bool) (a0_30 : List T) (a0_31z : Bool) (a0_31 : List T) (a0_32 : Int) (a0_33z : Bool) (a0_33 : List T) (a0_34z : Bool) (a0_34 : List T) (a0_35 : Int) (a0_36 : Int) (a0_37z : Bool) (a0_37 : List Int) (a0_38z : Bool) (a0_38 : List Int) (a0_39z : Bool) (a0_39 : List T) (a0_40 : Int) (a0_41 : Int) (a0_42 : Int) (a0_43z : Bool) (a0_43 : List Int) (a0_44z : Bool) (a0_44 : List T) : answer Tryz.prog spec_MsgText.Cs 100000 spec_MsgText.cuts [] Tryz.f5 (k + 1) [.v (.agg ((.int .i64 a0_0) :: (.int .i64 a0_1) :: (.int .i64 a0_2) :: (.nums 5 .u8 a0_3z a0_3) :: (.int .i64 a0_4) :: (.nums 5 .u8 a0_5z a0_5) :: (.int .i64 a0_6) :: (.int .i64 a0_7) :: (.nums 5 .u8 a0_8z a0_8) :: (.nums 5 .u8 a0_9z a0_9) :: (.sl 22 a0_10z a0_10) :: (.int .i64 a0_11) :: (.int .i64 a0_12) :: (.int .i64 a0_13) :: (.nums 5 .u8 a0_14z a0_14) :: (.nums 5 .u8 a0_15z a0_15) :: (.int .i64 a0_16) :: (.int .i64 a0_17) :: (.nums 5 .u8 a0_18z a0_18) :: (.nums 5 .u8 a0_19z a0_19) :: (.sl 22 a0_20z a0_20) :: (.int .i64 a0_21) :: (.int .i64 a0_22) :: (.int .i64 a0_23) :: (.nums 5 .u8 a0_24z a0_24) :: (.nums 5 .u8 a0_25z a0_25) :: (.int .i64 a0_26) :: (.int .i64 a0_27) :: (.nums 5 .u8 a0_28z a0_28) :: (.nums 5 .u8 a0_29z a0_29) :: (.sl 22 a0_30z a0_30) :: (.sl 22 a0_31z a0_31) :: (.int .i64 a0_32) :: (.sl 102 a0_33z a0_33) :: (.sl 47 a0_34z a0_34) :: (.int .i64 a0_35) :: (.int .i64 a0_36) :: (.nums 5 .u8 a0_37z a0_37) :: (.nums 5 .u8 a0_38z a0_38) :: (.sl 22 a0_39z a0_39) :: (.int .i64 a0_40) :: (.int .i64 a0_41) :: (.int .i64 a0_42) :: (.nums 5 .u8 a0_43z a0_43) :: (.sl 22 a0_44z a0_44) :: []))] = spec_MsgText.b (fun r => some (spec_MsgText.enc r)) k a0_0 a0_1 a0_2 a0_3z a0_3 a0_4 a0_5z a0_5 a0_6 a0_7 a0_8z a0_8 a0_9z a0_9 a0_10z a0_10 a0_11 a0_12 a0_13 a0_14z a0_14 a0_15z a0_15 a0_16 a0_17 a0_18z a0_18 a0_19z a0_19 a0_20z a0_20 a0_21 a0_22 a0_23 a0_24z a0_24 a0_25z a0_25 a0_26 a0_27 a0_28z a0_28 a0_29z a0_29 a0_30z a0_30 a0_31z a0_31 a0_32 a0_33z a0_33 a0_34z a0_34 a0_35 a0_36 a0_37z a0_37 a0_38z a0_38 a0_39z a0_39 a0_40 a0_41 a0_42 a0_43z a0_43 a0_44z a0_44 := by kernel_rfl
theorem spec_MsgText.b_nat {R R' : Type} (e : R → R') (ret : ByteArray → Option R) (k : Nat) (a0_0 : Int) (a0_1 : Int) (a0_2 : Int) (a0_3z : Bool) (a0_3 : List Int) (a0_4 : Int) (a0_5z : Bool) (a0_5 : List Int) (a0_6 : Int) (a0_7 : Int) (a0_8z : Bool) (a0_8 : List Int) (a0_9z : Bool) (a0_9 : List Int) (a0_10z : Bool) (a0_10 : List T) (a0_11 : Int) (a0_12 : Int) (a0_13 : Int) (a0_14z : Bool) (a0_14 : List Int) (a0_15z : Bool) (a0_15 : List Int) (a0_16 : Int) (a0_17 : Int) (a0_18z : Bool) (a0_18 : List Int) (a0_19z : Bool) (a0_19 : List Int) (a0_20z : Bool) (a0_20 : List T) (a0_21 : Int) (a0_22 : Int) (a0_23 : Int) (a0_24z : Bool) (a0_24 : List Int) (a0_25z : Bool) (a0_25 : List Int) (a0_26 : Int) (a0_27 : Int) (a0_28z : Bool) (a0_28 : List Int) (a0_29z : Bool) (a0_29 : List Int) (a0_30z : Bool) (a0_30 : List T) (a0_31z : Bool) (a0_31 : List T) (a0_32 : Int) (a0_33z : Bool) (a0_33 : List T) (a0_34z : Bool) (a0_34 : List T) (a0_35 : Int) (a0_36 : Int) (a0_37z : Bool) (a0_37 : List Int) (a0_38z : Bool) (a0_38 : List Int) (a0_39z : Bool) (a0_39 : List T) (a0_40 : Int) (a0_41 : Int) (a0_42 : Int) (a0_43z : Bool) (a0_43 : List Int) (a0_44z : Bool) (a0_44 : List T) : spec_MsgText.b (fun r => (ret r).map e) k a0_0 a0_1 a0_2 a0_3z a0_3 a0_4 a0_5z a0_5 a0_6 a0_7 a0_8z a0_8 a0_9z a0_9 a0_10z a0_10 a0_11 a0_12 a0_13 a0_14z a0_14 a0_15z a0_15 a0_16 a0_17 a0_18z a0_18 a0_19z a0_19 a0_20z a0_20 a0_21 a0_22 a0_23 a0_24z a0_24 a0_25z a0_25 a0_26 a0_27 a0_28z a0_28 a0_29z a0_29 a0_30z a0_30 a0_31z a0_31 a0_32 a0_33z a0_33 a0_34z a0_34 a0_35 a0_36 a0_37z a0_37 a0_38z a0_38 a0_39z a0_39 a0_40 a0_41 a0_42 a0_43z a0_43 a0_44z a0_44 = (spec_MsgText.b ret k a0_0 a0_1 a0_2 a0_3z a0_3 a0_4 a0_5z a0_5 a0_6 a0_7 a0_8z a0_8 a0_9z a0_9 a0_10z a0_10 a0_11 a0_12 a0_13 a0_14z a0_14 a0_15z a0_15 a0_16 a0_17 a0_18z a0_18 a0_19z a0_19 a0_20z a0_20 a0_21 a0_22 a0_23 a0_24z a0_24 a0_25z a0_25 a0_26 a0_27 a0_28z a0_28 a0_29z a0_29 a0_30z a0_30 a0_31z a0_31 a0_32 a0_33z a0_33 a0_34z a0_34 a0_35 a0_36 a0_37z a0_37 a0_38z a0_38 a0_39z a0_39 a0_40 a0_41 a0_42 a0_43z a0_43 a0_44z a0_44).map e := by
  unfold spec_MsgText.b
  repeat' first | with_reducible refine nat_cond ?_ ?_ | with_reducible refine nat_bind fun _ => ?_ | rfl
theorem spec_MsgText.eq (k : Nat) (a0_0 : Int) (a0_1 : Int) (a0_2 : Int) (a0_3z : Bool) (a0_3 : List Int) (a0_4 : Int) (a0_5z : Bool) (a0_5 : List Int) (a0_6 : Int) (a0_7 : Int) (a0_8z : Bool) (a0_8 : List Int) (a0_9z : Bool) (a0_9 : List Int) (a0_10z : Bool) (a0_10 : List T) (a0_11 : Int) (a0_12 : Int) (a0_13 : Int) (a0_14z : Bool) (a0_14 : List Int) (a0_15z : Bool) (a0_15 : List Int) (a0_16 : Int) (a0_17 : Int) (a0_18z : Bool) (a0_18 : List Int) (a0_19z : Bool) (a0_19 : List Int) (a0_20z : Bool) (a0_20 : List T) (a0_21 : Int) (a0_22 : Int) (a0_23 : Int) (a0_24z : Bool) (a0_24 : List Int) (a0_25z : Bool) (a0_25 : List Int) (a0_26 : Int) (a0_27 : Int) (a0_28z : Bool) (a0_28 : List Int) (a0_29z : Bool) (a0_29 : List Int) (a0_30z : Bool) (a0_30 : List T) (a0_31z : Bool) (a0_31 : List T) (a0_32 : Int) (a0_33z : Bool) (a0_33 : List T) (a0_34z : Bool) (a0_34 : List T) (a0_35 : Int) (a0_36 : Int) (a0_37z : Bool) (a0_37 : List Int) (a0_38z : Bool) (a0_38 : List Int) (a0_39z : Bool) (a0_39 : List T) (a0_40 : Int) (a0_41 : Int) (a0_42 : Int) (a0_43z : Bool) (a0_43 : List Int) (a0_44z : Bool) (a0_44 : List T) : answer Tryz.prog spec_MsgText.Cs 100000 spec_MsgText.cuts [] Tryz.f5 (k + 1) [.v (.agg ((.int .i64 a0_0) :: (.int .i64 a0_1) :: (.int .i64 a0_2) :: (.nums 5 .u8 a0_3z a0_3) :: (.int .i64 a0_4) :: (.nums 5 .u8 a0_5z a0_5) :: (.int .i64 a0_6) :: (.int .i64 a0_7) :: (.nums 5 .u8 a0_8z a0_8) :: (.nums 5 .u8 a0_9z a0_9) :: (.sl 22 a0_10z a0_10) :: (.int .i64 a0_11) :: (.int .i64 a0_12) :: (.int .i64 a0_13) :: (.nums 5 .u8 a0_14z a0_14) :: (.nums 5 .u8 a0_15z a0_15) :: (.int .i64 a0_16) :: (.int .i64 a0_17) :: (.nums 5 .u8 a0_18z a0_18) :: (.nums 5 .u8 a0_19z a0_19) :: (.sl 22 a0_20z a0_20) :: (.int .i64 a0_21) :: (.int .i64 a0_22) :: (.int .i64 a0_23) :: (.nums 5 .u8 a0_24z a0_24) :: (.nums 5 .u8 a0_25z a0_25) :: (.int .i64 a0_26) :: (.int .i64 a0_27) :: (.nums 5 .u8 a0_28z a0_28) :: (.nums 5 .u8 a0_29z a0_29) :: (.sl 22 a0_30z a0_30) :: (.sl 22 a0_31z a0_31) :: (.int .i64 a0_32) :: (.sl 102 a0_33z a0_33) :: (.sl 47 a0_34z a0_34) :: (.int .i64 a0_35) :: (.int .i64 a0_36) :: (.nums 5 .u8 a0_37z a0_37) :: (.nums 5 .u8 a0_38z a0_38) :: (.sl 22 a0_39z a0_39) :: (.int .i64 a0_40) :: (.int .i64 a0_41) :: (.int .i64 a0_42) :: (.nums 5 .u8 a0_43z a0_43) :: (.sl 22 a0_44z a0_44) :: []))] = (spec_MsgText.f (k + 1) a0_0 a0_1 a0_2 a0_3z a0_3 a0_4 a0_5z a0_5 a0_6 a0_7 a0_8z a0_8 a0_9z a0_9 a0_10z a0_10 a0_11 a0_12 a0_13 a0_14z a0_14 a0_15z a0_15 a0_16 a0_17 a0_18z a0_18 a0_19z a0_19 a0_20z a0_20 a0_21 a0_22 a0_23 a0_24z a0_24 a0_25z a0_25 a0_26 a0_27 a0_28z a0_28 a0_29z a0_29 a0_30z a0_30 a0_31z a0_31 a0_32 a0_33z a0_33 a0_34z a0_34 a0_35 a0_36 a0_37z a0_37 a0_38z a0_38 a0_39z a0_39 a0_40 a0_41 a0_42 a0_43z a0_43 a0_44z a0_44).map spec_MsgText.enc := by
  refine (spec_MsgText.s k a0_0 a0_1 a0_2 a0_3z a0_3 a0_4 a0_5z a0_5 a0_6 a0_7 a0_8z a0_8 a0_9z a0_9 a0_10z a0_10 a0_11 a0_12 a0_13 a0_14z a0_14 a0_15z a0_15 a0_16 a0_17 a0_18z a0_18 a0_19z a0_19 a0_20z a0_20 a0_21 a0_22 a0_23 a0_24z a0_24 a0_25z a0_25 a0_26 a0_27 a0_28z a0_28 a0_29z a0_29 a0_30z a0_30 a0_31z a0_31 a0_32 a0_33z a0_33 a0_34z a0_34 a0_35 a0_36 a0_37z a0_37 a0_38z a0_38 a0_39z a0_39 a0_40 a0_41 a0_42 a0_43z a0_43 a0_44z a0_44).trans (Eq.trans ?_ (spec_MsgText.b_nat spec_MsgText.enc some k a0_0 a0_1 a0_2 a0_3z a0_3 a0_4 a0_5z a0_5 a0_6 a0_7 a0_8z a0_8 a0_9z a0_9 a0_10z a0_10 a0_11 a0_12 a0_13 a0_14z a0_14 a0_15z a0_15 a0_16 a0_17 a0_18z a0_18 a0_19z a0_19 a0_20z a0_20 a0_21 a0_22 a0_23 a0_24z a0_24 a0_25z a0_25 a0_26 a0_27 a0_28z a0_28 a0_29z a0_29 a0_30z a0_30 a0_31z a0_31 a0_32 a0_33z a0_33 a0_34z a0_34 a0_35 a0_36 a0_37z a0_37 a0_38z a0_38 a0_39z a0_39 a0_40 a0_41 a0_42 a0_43z a0_43 a0_44z a0_44))
  simp only [Option.map_some]
theorem spec_MsgText.sound (k : Nat) : SoundF Tryz.prog 5 (fun a => (spec_MsgText.ans k a).val) := by
  refine sound_plain (fun args res h => ?_) (fun t n => rfl)
  unfold spec_MsgText.ans at h
  dsimp only at h
  split at h
  ·
    obtain ⟨_, _, e, g⟩ := takeI_val h; clear h; subst e; have h := g; clear g
    obtain ⟨_, _, e, g⟩ := takeI_val h; clear h; subst e; have h := g; clear g
    obtain ⟨_, _, e, g⟩ := takeI_val h; clear h; subst e; have h := g; clear g
    obtain ⟨_, _, _, e, g⟩ := takeN_val h; clear h; subst e; have h := g; clear g
    obtain ⟨_, _, e, g⟩ := takeI_val h; clear h; subst e; have h := g; clear g
    obtain ⟨_, _, _, e, g⟩ := takeN_val h; clear h; subst e; have h := g; clear g
    obtain ⟨_, _, e, g⟩ := takeI_val h; clear h; subst e; have h := g; clear g
    obtain ⟨_, _, e, g⟩ := takeI_val h; clear h; subst e; have h := g; clear g
    obtain ⟨_, _, _, e, g⟩ := takeN_val h; clear h; subst e; have h := g; clear g
    obtain ⟨_, _, _, e, g⟩ := takeN_val h; clear h; subst e; have h := g; clear g
    obtain ⟨_, _, _, e, g⟩ := takeS_val h; clear h; subst e; have h := g; clear g
    obtain ⟨_, _, e, g⟩ := takeI_val h; clear h; subst e; have h := g; clear g
    obtain ⟨_, _, e, g⟩ := takeI_val h; clear h; subst e; have h := g; clear g
    obtain ⟨_, _, e, g⟩ := takeI_val h; clear h; subst e; have h := g; clear g
    obtain ⟨_, _, _, e, g⟩ := takeN_val h; clear h; subst e; have h := g; clear g
    obtain ⟨_, _, _, e, g⟩ := takeN_val h; clear h; subst e; have h := g; clear g
    obtain ⟨_, _, e, g⟩ := takeI_val h; clear h; subst e; have h := g; clear g
    obtain ⟨_, _, e, g⟩ := takeI_val h; clear h; subst e; have h := g; clear g
    obtain ⟨_, _, _, e, g⟩ := takeN_val h; clear h; subst e; have h := g; clear g
    obtain ⟨_, _, _, e, g⟩ := takeN_val h; clear h; subst e; have h := g; clear g
    obtain ⟨_, _, _, e, g⟩ := takeS_val h; clear h; subst e; have h := g; clear g
    obtain ⟨_, _, e, g⟩ := takeI_val h; clear h; subst e; have h := g; clear g
    obtain ⟨_, _, e, g⟩ := takeI_val h; clear h; subst e; have h := g; clear g
    obtain ⟨_, _, e, g⟩ := takeI_val h; clear h; subst e; have h := g; clear g
    obtain ⟨_, _, _, e, g⟩ := takeN_val h; clear h; subst e; have h := g; clear g
    obtain ⟨_, _, _, e, g⟩ := takeN_val h; clear h; subst e; have h := g; clear g
    obtain ⟨_, _, e, g⟩ := takeI_val h; clear h; subst e; have h := g; clear g
    obtain ⟨_, _, e, g⟩ := takeI_val h; clear h; subst e; have h := g; clear g
    obtain ⟨_, _, _, e, g⟩ := takeN_val h; clear h; subst e; have h := g; clear g
    obtain ⟨_, _, _, e, g⟩ := takeN_val h; clear h; subst e; have h := g; clear g
    obtain ⟨_, _, _, e, g⟩ := takeS_val h; clear h; subst e; have h := g; clear g
    obtain ⟨_, _, _, e, g⟩ := takeS_val h; clear h; subst e; have h := g; clear g
    obtain ⟨_, _, e, g⟩ := takeI_val h; clear h; subst e; have h := g; clear g
    obtain ⟨_, _, _, e, g⟩ := takeS_val h; clear h; subst e; have h := g; clear g
    obtain ⟨_, _, _, e, g⟩ := takeS_val h; clear h; subst e; have h := g; clear g
    obtain ⟨_, _, e, g⟩ := takeI_val h; clear h; subst e; have h := g; clear g
    obtain ⟨_, _, e, g⟩ := takeI_val h; clear h; subst e; have h := g; clear g
    obtain ⟨_, _, _, e, g⟩ := takeN_val h; clear h; subst e; have h := g; clear g
    obtain ⟨_, _, _, e, g⟩ := takeN_val h; clear h; subst e; have h := g; clear g
    obtain ⟨_, _, _, e, g⟩ := takeS_val h; clear h; subst e; have h := g; clear g
    obtain ⟨_, _, e, g⟩ := takeI_val h; clear h; subst e; have h := g; clear g
    obtain ⟨_, _, e, g⟩ := takeI_val h; clear h; subst e; have h := g; clear g
    obtain ⟨_, _, e, g⟩ := takeI_val h; clear h; subst e; have h := g; clear g
    obtain ⟨_, _, _, e, g⟩ := takeN_val h; clear h; subst e; have h := g; clear g
    obtain ⟨_, _, _, e, g⟩ := takeS_val h; clear h; subst e; have h := g; clear g
    obtain ⟨e, g⟩ := takeE_val h; clear h; subst e; have h := g; clear g
    cases k with
    | zero => cases h
    | succ k =>
      unfold Ans.val at h
      rw [← spec_MsgText.eq] at h
      exact answer_sound mixed Tryz.func5 _ _ _ (k + 1) (fun j _ => tab_sound (tab_cons (spec_VoteText.sound j) (tab_cons (spec_QcText.sound j) (tab_cons (spec_HeadText.sound j) (tab_cons (spec_BlockText.sound j) (tab_cons (spec_TcText.sound j) (tab_cons (spec_ProofText.sound j) (tab_cons (spec_InclText.sound j) (tab_nil))))))))) _ _ h
  · exact (Ans.no_val h).elim

/-! loop.example/g00790/impl.within -/
def impl_within.b {R : Type} (ret : Bool → Option R) (k : Nat) (a0 : Int) (a1 : Int) (a2 : Int) : Option R :=
  cond (decide (a1 ≤ a0)) (ret (decide (a0 ≤ a2))) (ret false)
def impl_within.f : Nat → Int → Int → Int → Option Bool
  | 0, _, _, _ => none
  | k + 1, a0, a1, a2 => impl_within.b some k a0 a1 a2
def impl_within.enc (r : Bool) : Res := ⟨[.vals false [((.bool r), true)]], []⟩
def impl_within.ans (k : Nat) : List Arg → Ans
  | [.v (.int .i64 a0), .v (.int .i64 a1), .v (.int .i64 a2)] => ⟨impl_within.f k a0 a1 a2, impl_within.enc⟩
  | _ => Ans.no
def impl_within.Cs (k : Nat) : CallSem := tab []
def impl_within.cuts : List (Nat × Keep) := []
theorem impl_within.s (k : Nat) (a0 : Int) (a1 : Int) (a2 : Int) : answer Tryz.prog impl_within.Cs 100000 impl_within.cuts [] Tryz.f79 (k + 1) [.v (.int .i64 a0), .v (.int .i64 a1), .v (.int .i64 a2)] = impl_within.b (fun r => some (impl_within.enc r)) k a0 a1 a2 := by kernel_rfl
theorem impl_within.b_nat {R R' : Type} (e : R → R') (ret : Bool → Option R) (k : Nat) (a0 : Int) (a1 : Int) (a2 : Int) : impl_within.b (fun r => (ret r).map e) k a0 a1 a2 = (impl_within.b ret k a0 a1 a2).map e := by
  unfold impl_within.b
  repeat' first | with_reducible refine nat_cond ?_ ?_ | with_reducible refine nat_bind fun _ => ?_ | rfl
theorem impl_within.eq (k : Nat) (a0 : Int) (a1 : Int) (a2 : Int) : answer Tryz.prog impl_within.Cs 100000 impl_within.cuts [] Tryz.f79 (k + 1) [.v (.int .i64 a0), .v (.int .i64 a1), .v (.int .i64 a2)] = (impl_within.f (k + 1) a0 a1 a2).map impl_within.enc := by
  refine (impl_within.s k a0 a1 a2).trans (Eq.trans ?_ (impl_within.b_nat impl_within.enc some k a0 a1 a2))
  simp only [Option.map_some]
theorem impl_within.sound (k : Nat) : SoundF Tryz.prog 79 (fun a => (impl_within.ans k a).val) := by
  refine sound_plain (fun args res h => ?_) (fun t n => rfl)
  unfold impl_within.ans at h
  dsimp only at h
  split at h
  · cases k with
    | zero => cases h
    | succ k =>
      unfold Ans.val at h
      rw [← impl_within.eq] at h
      exact answer_sound mixed Tryz.func79 _ _ _ (k + 1) (fun j _ => tab_sound (tab_nil)) _ _ h
  · exact (Ans.no_val h).elim

/-! loop.example/g00790/impl.isNum -/
def impl_isNum.b {R : Type} (ret : Bool → Option R) (k : Nat) (a0 : Int) : Option R :=
  (impl_within.f k a0 0 1152921504606846975).bind fun t0 => ret t0
def impl_isNum.f : Nat → Int → Option Bool
  | 0, _ => none
  | k + 1, a0 => impl_isNum.b some k a0
def impl_isNum.enc (r : Bool) : Res := ⟨[.vals false [((.bool r), true)]], []⟩
def impl_isNum.ans (k : Nat) : List Arg → Ans
  | [.v (.int .i64 a0)] => ⟨impl_isNum.f k a0, impl_isNum.enc⟩
  | _ => Ans.no
def impl_isNum.Cs (k : Nat) : CallSem := tab [(79, impl_within.ans k)]
def impl_isNum.cuts : List (Nat × Keep) := []
theorem impl_isNum.s (k : Nat) (a0 : Int) : answer Tryz.prog impl_isNum.Cs 100000 impl_isNum.cuts [] Tryz.f73 (k + 1) [.v (.int .i64 a0)] = impl_isNum.b (fun r => some (impl_isNum.enc r)) k a0 := by kernel_rfl
theorem impl_isNum.b_nat {R R' : Type} (e : R → R') (ret : Bool → Option R) (k : Nat) (a0 : Int) : impl_isNum.b (fun r => (ret r).map e) k a0 = (impl_isNum.b ret k a0).map e := by
  unfold impl_isNum.b
  repeat' first | with_reducible refine nat_cond ?_ ?_ | with_reducible refine nat_bind fun _ => ?_ | rfl
theorem impl_isNum.eq (k : Nat) (a0 : Int) : answer Tryz.prog impl_isNum.Cs 100000 impl_isNum.cuts [] Tryz.f73 (k + 1) [.v (.int .i64 a0)] = (impl_isNum.f (k + 1) a0).map impl_isNum.enc := by
  refine (impl_isNum.s k a0).trans (Eq.trans ?_ (impl_isNum.b_nat impl_isNum.enc some k a0))
  simp only [Option.map_some]
theorem impl_isNum.sound (k : Nat) : SoundF Tryz.prog 73 (fun a => (impl_isNum.ans k a).val) := by
  refine sound_plain (fun args res h => ?_) (fun t n => rfl)
  unfold impl_isNum.ans at h
  dsimp only at h
  split at h
  · cases k with
    | zero => cases h
    | succ k =>
      unfold Ans.val at h
      rw [← impl_isNum.eq] at h
      exact answer_sound mixed Tryz.func73 _ _ _ (k + 1) (fun j _ => tab_sound (tab_cons (impl_within.sound j) (tab_nil))) _ _ h
  · exact (Ans.no_val h).elim

/-! strconv_Itoa -/
def strconv_Itoa.f (k : Nat) (a0 : Int) : Option ByteArray := cond (inI a0) (some (itoaB a0)) none
def strconv_Itoa.enc (r : ByteArray) : Res := ⟨[.vals false [((.str r), true)]], []⟩
def strconv_Itoa.ans (k : Nat) : List Arg → Ans
  | [.v (.int .i64 a0)] => ⟨strconv_Itoa.f k a0, strconv_Itoa.enc⟩
  | _ => Ans.no
theorem strconv_Itoa.sound (k : Nat) : SoundF Tryz.prog 74 (fun a => (strconv_Itoa.ans k a).val) := by
  refine sound_ext (fun _ _ => rfl) fun args res h => ?_
  unfold strconv_Itoa.ans at h
  split at h
  · exact ext_itoa lay_Itoa h
  · exact (Ans.no_val h).elim

/-! loop.example/g00790/impl.NumText -/
def impl_NumText.b {R : Type} (ret : ByteArray → Option R) (k : Nat) (a0 : Int) : Option R :=
  (impl_isNum.f k a0).bind fun t0 => cond (!t0) (ret (⟨#[]⟩ : ByteArray)) ((strconv_Itoa.f k a0).bind fun t1 => ret t1)
def impl_NumText.f : Nat → Int → Option ByteArray
  | 0, _ => none
  | k + 1, a0 => impl_NumText.b some k a0
def impl_NumText.enc (r : ByteArray) : Res := ⟨[.vals false [((.str r), true)]], []⟩
def impl_NumText.ans (k : Nat) : List Arg → Ans
  | [.v (.int .i64 a0)] => ⟨impl_NumText.f k a0, impl_NumText.enc⟩
  | _ => Ans.no
def impl_NumText.Cs (k : Nat) : CallSem := tab [(73, impl_isNum.ans k), (74, strconv_Itoa.ans k)]
def impl_NumText.cuts : List (Nat × Keep) := []
theorem impl_NumText.s (k : Nat) (a0 : Int) : answer Tryz.prog impl_NumText.Cs 100000 impl_NumText.cuts [] Tryz.f60 (k + 1) [.v (.int .i64 a0)] = impl_NumText.b (fun r => some (impl_NumText.enc r)) k a0 := by kernel_rfl
theorem impl_NumText.b_nat {R R' : Type} (e : R → R') (ret : ByteArray → Option R) (k : Nat) (a0 : Int) : impl_NumText.b (fun r => (ret r).map e) k a0 = (impl_NumText.b ret k a0).map e := by
  unfold impl_NumText.b
  repeat' first | with_reducible refine nat_cond ?_ ?_ | with_reducible refine nat_bind fun _ => ?_ | rfl
theorem impl_NumText.eq (k : Nat) (a0 : Int) : answer Tryz.prog impl_NumText.Cs 100000 impl_NumText.cuts [] Tryz.f60 (k + 1) [.v (.int .i64 a0)] = (impl_NumText.f (k + 1) a0).map impl_NumText.enc := by
  refine (impl_NumText.s k a0).trans (Eq.trans ?_ (impl_NumText.b_nat impl_NumText.enc some k a0))
  simp only [Option.map_some]
theorem impl_NumText.sound (k : Nat) : SoundF Tryz.prog 60 (fun a => (impl_NumText.ans k a).val) := by
  refine sound_plain (fun args res h => ?_) (fun t n => rfl)
  unfold impl_NumText.ans at h
  dsimp only at h
  split at h
  · cases k with
    | zero => cases h
    | succ k =>
      unfold Ans.val at h
      rw [← impl_NumText.eq] at h
      exact answer_sound mixed Tryz.func60 _ _ _ (k + 1) (fun j _ => tab_sound (tab_cons (impl_isNum.sound j) (tab_cons (strconv_Itoa.sound j) (tab_nil)))) _ _ h
  · exact (Ans.no_val h).elim

/-! loop.example/g00790/impl.place -/
def impl_place.b {R : Type} (ret : ByteArray → Option R) (k : Nat) (a0 : Int) (a1 : Int) : Option R :=
  (impl_NumText.f k a0).bind fun t0 => cond (decide ((t0).size + ((⟨#[47]⟩ : ByteArray)).size ≤ 140737488355328)) ((impl_NumText.f k a1).bind fun t1 => cond (decide (((t0 ++ (⟨#[47]⟩ : ByteArray))).size + (t1).size ≤ 140737488355328)) (ret ((t0 ++ (⟨#[47]⟩ : ByteArray)) ++ t1)) (none)) (none)
def impl_place.f : Nat → Int → Int → Option ByteArray
  | 0, _, _ => none
  | k + 1, a0, a1 => impl_place.b some k a0 a1
def impl_place.enc (r : ByteArray) : Res := ⟨[.vals false [((.str r), true)]], []⟩
def impl_place.ans (k : Nat) : List Arg → Ans
  | [.v (.int .i64 a0), .v (.int .i64 a1)] => ⟨impl_place.f k a0 a1, impl_place.enc⟩
  | _ => Ans.no
def impl_place.Cs (k : Nat) : CallSem := tab [(60, impl_NumText.ans k)]
def impl_place.cuts : List (Nat × Keep) := []
theorem impl_place.s (k : Nat) (a0 : Int) (a1 : Int) : answer Tryz.prog impl_place.Cs 100000 impl_place.cuts [] Tryz.f58 (k + 1) [.v (.int .i64 a0), .v (.int .i64 a1)] = impl_place.b (fun r => some (impl_place.enc r)) k a0 a1 := by kernel_rfl
theorem impl_place.b_nat {R R' : Type} (e : R → R') (ret : ByteArray → Option R) (k : Nat) (a0 : Int) (a1 : Int) : impl_place.b (fun r => (ret r).map e) k a0 a1 = (impl_place.b ret k a0 a1).map e := by
  unfold impl_place.b
  repeat' first | with_reducible refine nat_cond ?_ ?_ | with_reducible refine nat_bind fun _ => ?_ | rfl
theorem impl_place.eq (k : Nat) (a0 : Int) (a1 : Int) : answer Tryz.prog impl_place.Cs 100000 impl_place.cuts [] Tryz.f58 (k + 1) [.v (.int .i64 a0), .v (.int .i64 a1)] = (impl_place.f (k + 1) a0 a1).map impl_place.enc := by
  refine (impl_place.s k a0 a1).trans (Eq.trans ?_ (impl_place.b_nat impl_place.enc some k a0 a1))
  simp only [Option.map_some]
theorem impl_place.sound (k : Nat) : SoundF Tryz.prog 58 (fun a => (impl_place.ans k a).val) := by
  refine sound_plain (fun args res h => ?_) (fun t n => rfl)
  unfold impl_place.ans at h
  dsimp only at h
  split at h
  · cases k with
    | zero => cases h
    | succ k =>
      unfold Ans.val at h
      rw [← impl_place.eq] at h
      exact answer_sound mixed Tryz.func58 _ _ _ (k + 1) (fun j _ => tab_sound (tab_cons (impl_NumText.sound j) (tab_nil))) _ _ h
  · exact (Ans.no_val h).elim

/-! loop.example/g00790/impl.HexText -/
def impl_HexText.b {R : Type} (ret : ByteArray → Option R) (j0 : (List Int) → Bool → (List Int) → Int → Int → Option R) (k : Nat) (a0z : Bool) (a0 : List Int) : Option R :=
  j0 ([] : List Int) a0z a0 ((a0).length : Int) 0
def impl_HexText.l0b {R : Type} (ret : ByteArray → Option R) (j0 : (List Int) → Bool → (List Int) → Int → Int → Option R) (k : Nat) (x3 : List Int) (x7z : Bool) (x7 : List Int) (x8 : Int) (x9 : Int) : Option R :=
  cond (decide (x9 < x8)) (cond (decide ((0 : Int) ≤ x9)) (cond (decide (x9 < ((x7).length : Int))) (cond (decide ((0 : Int) ≤ (shrI .u8 (rdI x7 x9) 4))) (cond (decide ((shrI .u8 (rdI x7 x9) 4) < (((⟨#[48, 49, 50, 51, 52, 53, 54, 55, 56, 57, 97, 98, 99, 100, 101, 102]⟩ : ByteArray)).size : Int))) (cond (decide ((0 : Int) ≤ (Go.bits .and .u8 (rdI x7 x9) 15))) (cond (decide ((Go.bits .and .u8 (rdI x7 x9) 15) < (((⟨#[48, 49, 50, 51, 52, 53, 54, 55, 56, 57, 97, 98, 99, 100, 101, 102]⟩ : ByteArray)).size : Int))) (cond (decide ((x3).length + 2 < 140737488355328)) (j0 (x3 ++ ([(btI (⟨#[48, 49, 50, 51, 52, 53, 54, 55, 56, 57, 97, 98, 99, 100, 101, 102]⟩ : ByteArray) (shrI .u8 (rdI x7 x9) 4)), (btI (⟨#[48, 49, 50, 51, 52, 53, 54, 55, 56, 57, 97, 98, 99, 100, 101, 102]⟩ : ByteArray) (Go.bits .and .u8 (rdI x7 x9) 15))] : List Int)) x7z x7 x8 (RowKit.wrap64 (x9 + 1))) (none)) (none)) (none)) (none)) (none)) (none)) (none)) (ret (strOf x3))
def impl_HexText.l0 : Nat → (List Int) → Bool → (List Int) → Int → Int → Option ByteArray
  | 0, _, _, _, _, _ => none
  | k + 1, x3, x7z, x7, x8, x9 => impl_HexText.l0b some (impl_HexText.l0 k) k x3 x7z x7 x8 x9
def impl_HexText.f : Nat → Bool → (List Int) → Option ByteArray
  | 0, _, _ => none
  | k + 1, a0z, a0 => impl_HexText.b some (impl_HexText.l0 k) k a0z a0
def impl_HexText.enc (r : ByteArray) : Res := ⟨[.vals false [((.str r), true)]], []⟩
def impl_HexText.ans (k : Nat) : List Arg → Ans
  | [.v (.nums 5 .u8 a0z a0)] => ⟨impl_HexText.f k a0z a0, impl_HexText.enc⟩
  | _ => Ans.no
def impl_HexText.Cs (k : Nat) : CallSem := tab []
def impl_HexText.cuts : List (Nat × Keep) := [(58, ⟨[(3, none), (7, some []), (8, some []), (9, some [])], []⟩)]
noncomputable def impl_HexText.K0 : List Fr := framesAt [true, true, false, true, false] (bodyOf Tryz.f63 impl_HexText.cuts) []
def impl_HexText.N0 (x3 : List Int) (x7z : Bool) (x7 : List Int) (x8 : Int) (x9 : Int) : St := stOf 25 25 1 [(3, .val ⟨(.nums 5 .u8 false x3), [.l 3 0], true, some (.l 3 0)⟩), (7, .val ⟨(.nums 5 .u8 x7z x7), [], false, none⟩), (8, .val (V.s (.int .i64 x8))), (9, .val (V.s (.int .i64 x9)))] []
theorem impl_HexText.s (k : Nat) (a0z : Bool) (a0 : List Int) : answer Tryz.prog impl_HexText.Cs 100000 impl_HexText.cuts [] Tryz.f63 (k + 1) [.v (.nums 5 .u8 a0z a0)] = impl_HexText.b (fun r => some (impl_HexText.enc r)) (fun x3 x7z x7 x8 x9 => rounds Tryz.prog impl_HexText.Cs (finish Tryz.prog [] Tryz.f63 [.v (.nums 5 .u8 a0z a0)]) 100000 k impl_HexText.K0 (impl_HexText.N0 x3 x7z x7 x8 x9)) k a0z a0 := by kernel_rfl
theorem impl_HexText.s0 (k : Nat) (G : List Fr → St → Option Res) (a0z : Bool) (a0 : List Int) (yx3 : List Int) (yx7z : Bool) (yx7 : List Int) (yx8 : Int) (yx9 : Int) : resume Tryz.prog (impl_HexText.Cs k) G (finish Tryz.prog [] Tryz.f63 [.v (.nums 5 .u8 a0z a0)]) 100000 impl_HexText.K0 (impl_HexText.N0 yx3 yx7z yx7 yx8 yx9) = impl_HexText.l0b (fun r => some (impl_HexText.enc r)) (fun x3 x7z x7 x8 x9 => G impl_HexText.K0 (impl_HexText.N0 x3 x7z x7 x8 x9)) k yx3 yx7z yx7 yx8 yx9 := by kernel_rfl
theorem impl_HexText.b_nat {R R' : Type} (e : R → R') (ret : ByteArray → Option R) (j0 : (List Int) → Bool → (List Int) → Int → Int → Option R) (k : Nat) (a0z : Bool) (a0 : List Int) : impl_HexText.b (fun r => (ret r).map e) (fun x3 x7z x7 x8 x9 => (j0 x3 x7z x7 x8 x9).map e) k a0z a0 = (impl_HexText.b ret j0 k a0z a0).map e := by
  unfold impl_HexText.b
  repeat' first | with_reducible refine nat_cond ?_ ?_ | with_reducible refine nat_bind fun _ => ?_ | rfl
theorem impl_HexText.l0b_nat {R R' : Type} (e : R → R') (ret : ByteArray → Option R) (j0 : (List Int) → Bool → (List Int) → Int → Int → Option R) (k : Nat) (x3 : List Int) (x7z : Bool) (x7 : List Int) (x8 : Int) (x9 : Int) : impl_HexText.l0b (fun r => (ret r).map e) (fun x3 x7z x7 x8 x9 => (j0 x3 x7z x7 x8 x9).map e) k x3 x7z x7 x8 x9 = (impl_HexText.l0b ret j0 k x3 x7z x7 x8 x9).map e := by
  unfold impl_HexText.l0b
  repeat' first | with_reducible refine nat_cond ?_ ?_ | with_reducible refine nat_bind fun _ => ?_ | rfl
theorem impl_HexText.rounds_eq (a0z : Bool) (a0 : List Int) : ∀ k, (∀ (x3 : List Int) (x7z : Bool) (x7 : List Int) (x8 : Int) (x9 : Int), rounds Tryz.prog impl_HexText.Cs (finish Tryz.prog [] Tryz.f63 [.v (.nums 5 .u8 a0z a0)]) 100000 k impl_HexText.K0 (impl_HexText.N0 x3 x7z x7 x8 x9) = (impl_HexText.l0 k x3 x7z x7 x8 x9).map impl_HexText.enc)
  | 0 => fun _ _ _ _ _ => rfl
  | k + 1 => by
    have ih := impl_HexText.rounds_eq a0z a0 k
    refine fun _ _ _ _ _ => ?_
    · refine (impl_HexText.s0 k _ a0z a0 _ _ _ _ _).trans (Eq.trans ?_ (impl_HexText.l0b_nat impl_HexText.enc some (impl_HexText.l0 k) k _ _ _ _ _))
      simp only [ih, Option.map_some]
theorem impl_HexText.eq (k : Nat) (a0z : Bool) (a0 : List Int) : answer Tryz.prog impl_HexText.Cs 100000 impl_HexText.cuts [] Tryz.f63 (k + 1) [.v (.nums 5 .u8 a0z a0)] = (impl_HexText.f (k + 1) a0z a0).map impl_HexText.enc := by
  have ih := impl_HexText.rounds_eq a0z a0 k
  refine (impl_HexText.s k a0z a0).trans (Eq.trans ?_ (impl_HexText.b_nat impl_HexText.enc some (impl_HexText.l0 k) k a0z a0))
  simp only [ih, Option.map_some]
theorem impl_HexText.sound (k : Nat) : SoundF Tryz.prog 63 (fun a => (impl_HexText.ans k a).val) := by
  refine sound_plain (fun args res h => ?_) (fun t n => rfl)
  unfold impl_HexText.ans at h
  dsimp only at h
  split at h
  · cases k with
    | zero => cases h
    | succ k =>
      unfold Ans.val at h
      rw [← impl_HexText.eq] at h
      exact answer_sound mixed Tryz.func63 _ _ _ (k + 1) (fun j _ => tab_sound (tab_nil)) _ _ h
  · exact (Ans.no_val h).elim

/-! loop.example/g00790/impl.Short -/
def impl_Short.b {R : Type} (ret : ByteArray → Option R) (k : Nat) (a0z : Bool) (a0 : List Int) : Option R :=
  cond (decide ((0 : Int) ≤ (mnI ((a0).length : Int) 4))) (cond (decide ((mnI ((a0).length : Int) 4) ≤ ((a0).length : Int))) (cond (decide ((0 : Int) ≤ (mnI ((a0).length : Int) 4))) ((impl_HexText.f k a0z (((a0).take ((mnI ((a0).length : Int) 4)).toNat).drop 0)).bind fun t0 => ret t0) (none)) (none)) (none)
def impl_Short.f : Nat → Bool → (List Int) → Option ByteArray
  | 0, _, _ => none
  | k + 1, a0z, a0 => impl_Short.b some k a0z a0
def impl_Short.enc (r : ByteArray) : Res := ⟨[.vals false [((.str r), true)]], []⟩
def impl_Short.ans (k : Nat) : List Arg → Ans
  | [.v (.nums 5 .u8 a0z a0)] => ⟨impl_Short.f k a0z a0, impl_Short.enc⟩
  | _ => Ans.no
def impl_Short.Cs (k : Nat) : CallSem := tab [(63, impl_HexText.ans k)]
def impl_Short.cuts : List (Nat × Keep) := []
theorem impl_Short.s (k : Nat) (a0z : Bool) (a0 : List Int) : answer Tryz.prog impl_Short.Cs 100000 impl_Short.cuts [] Tryz.f59 (k + 1) [.v (.nums 5 .u8 a0z a0)] = impl_Short.b (fun r => some (impl_Short.enc r)) k a0z a0 := by kernel_rfl
theorem impl_Short.b_nat {R R' : Type} (e : R → R') (ret : ByteArray → Option R) (k : Nat) (a0z : Bool) (a0 : List Int) : impl_Short.b (fun r => (ret r).map e) k a0z a0 = (impl_Short.b ret k a0z a0).map e := by
  unfold impl_Short.b
  repeat' first | with_reducible refine nat_cond ?_ ?_ | with_reducible refine nat_bind fun _ => ?_ | rfl
theorem impl_Short.eq (k : Nat) (a0z : Bool) (a0 : List Int) : answer Tryz.prog impl_Short.Cs 100000 impl_Short.cuts [] Tryz.f59 (k + 1) [.v (.nums 5 .u8 a0z a0)] = (impl_Short.f (k + 1) a0z a0).map impl_Short.enc := by
  refine (impl_Short.s k a0z a0).trans (Eq.trans ?_ (impl_Short.b_nat impl_Short.enc some k a0z a0))
  simp only [Option.map_some]
theorem impl_Short.sound (k : Nat) : SoundF Tryz.prog 59 (fun a => (impl_Short.ans k a).val) := by
  refine sound_plain (fun args res h => ?_) (fun t n => rfl)
  unfold impl_Short.ans at h
  dsimp only at h
  split at h
  · cases k with
    | zero => cases h
    | succ k =>
      unfold Ans.val at h
      rw [← impl_Short.eq] at h
      exact answer_sound mixed Tryz.func59 _ _ _ (k + 1) (fun j _ => tab_sound (tab_cons (impl_HexText.sound j) (tab_nil))) _ _ h
  · exact (Ans.no_val h).elim

/-! loop.example/g00790/impl.VoteText -/
def impl_VoteText.b {R : Type} (ret : ByteArray → Option R) (k : Nat) (a0_0 : Int) (a0_1 : Int) (a0_2z : Bool) (a0_2 : List Int) (a0_3 : Int) (a0_4z : Bool) (a0_4 : List Int) : Option R :=
  (impl_place.f k a0_0 a0_1).bind fun t0 => cond (decide (((⟨#[118, 111, 116, 101, 32]⟩ : ByteArray)).size + (t0).size ≤ 140737488355328)) (cond (decide ((((⟨#[118, 111, 116, 101, 32]⟩ : ByteArray) ++ t0)).size + ((⟨#[32]⟩ : ByteArray)).size ≤ 140737488355328)) ((impl_Short.f k a0_2z a0_2).bind fun t1 => cond (decide (((((⟨#[118, 111, 116, 101, 32]⟩ : ByteArray) ++ t0) ++ (⟨#[32]⟩ : ByteArray))).size + (t1).size ≤ 140737488355328)) (cond (decide ((((((⟨#[118, 111, 116, 101, 32]⟩ : ByteArray) ++ t0) ++ (⟨#[32]⟩ : ByteArray)) ++ t1)).size + ((⟨#[32]⟩ : ByteArray)).size ≤ 140737488355328)) ((impl_NumText.f k a0_3).bind fun t2 => cond (decide (((((((⟨#[118, 111, 116, 101, 32]⟩ : ByteArray) ++ t0) ++ (⟨#[32]⟩ : ByteArray)) ++ t1) ++ (⟨#[32]⟩ : ByteArray))).size + (t2).size ≤ 140737488355328)) (ret ((((((⟨#[118, 111, 116, 101, 32]⟩ : ByteArray) ++ t0) ++ (⟨#[32]⟩ : ByteArray)) ++ t1) ++ (⟨#[32]⟩ : ByteArray)) ++ t2)) (none)) (none)) (none)) (none)) (none)
def impl_VoteText.f : Nat → Int → Int → Bool → (List Int) → Int → Bool → (List Int) → Option ByteArray
  | 0, _, _, _, _, _, _, _ => none
  | k + 1, a0_0, a0_1, a0_2z, a0_2, a0_3, a0_4z, a0_4 => impl_VoteText.b some k a0_0 a0_1 a0_2z a0_2 a0_3 a0_4z a0_4
def impl_VoteText.enc (r : ByteArray) : Res := ⟨[.vals false [((.str r), true)]], []⟩
def impl_VoteText.ans (k : Nat) : List Arg → Ans
  | [.v (.agg [(.int .i64 a0_0), (.int .i64 a0_1), (.nums 5 .u8 a0_2z a0_2), (.int .i64 a0_3), (.nums 5 .u8 a0_4z a0_4)])] => ⟨impl_VoteText.f k a0_0 a0_1 a0_2z a0_2 a0_3 a0_4z a0_4, impl_VoteText.enc⟩
  | _ => Ans.no
def impl_VoteText.Cs (k : Nat) : CallSem := tab [(58, impl_place.ans k), (60, impl_NumText.ans k), (59, impl_Short.ans k)]
def impl_VoteText.cuts : List (Nat × Keep) := []
theorem impl_VoteText.s (k : Nat) (a0_0 : Int) (a0_1 : Int) (a0_2z : Bool) (a0_2 : List Int) (a0_3 : Int) (a0_4z : Bool) (a0_4 : List Int) : answer Tryz.prog impl_VoteText.Cs 100000 impl_VoteText.cuts [] Tryz.f30 (k + 1) [.v (.agg [(.int .i64 a0_0), (.int .i64 a0_1), (.nums 5 .u8 a0_2z a0_2), (.int .i64 a0_3), (.nums 5 .u8 a0_4z a0_4)])] = impl_VoteText.b (fun r => some (impl_VoteText.enc r)) k a0_0 a0_1 a0_2z a0_2 a0_3 a0_4z a0_4 := by kernel_rfl
theorem impl_VoteText.b_nat {R R' : Type} (e : R → R') (ret : ByteArray → Option R) (k : Nat) (a0_0 : Int) (a0_1 : Int) (a0_2z : Bool) (a0_2 : List Int) (a0_3 : Int) (a0_4z : Bool) (a0_4 : List Int) : impl_VoteText.b (fun r => (ret r).map e) k a0_0 a0_1 a0_2z a0_2 a0_3 a0_4z a0_4 = (impl_VoteText.b ret k a0_0 a0_1 a0_2z a0_2 a0_3 a0_4z a0_4).map e := by
  unfold impl_VoteText.b
  repeat' first | with_reducible refine nat_cond ?_ ?_ | with_reducible refine nat_bind fun _ => ?_ | rfl
theorem impl_VoteText.eq (k : Nat) (a0_0 : Int) (a0_1 : Int) (a0_2z : Bool) (a0_2 : List Int) (a0_3 : Int) (a0_4z : Bool) (a0_4 : List Int) : answer Tryz.prog impl_VoteText.Cs 100000 impl_VoteText.cuts [] Tryz.f30 (k + 1) [.v (.agg [(.int .i64 a0_0), (.int .i64 a0_1), (.nums 5 .u8 a0_2z a0_2), (.int .i64 a0_3), (.nums 5 .u8 a0_4z a0_4)])] = (impl_VoteText.f (k + 1) a0_0 a0_1 a0_2z a0_2 a0_3 a0_4z a0_4).map impl_VoteText.enc := by
  refine (impl_VoteText.s k a0_0 a0_1 a0_2z a0_2 a0_3 a0_4z a0_4).trans (Eq.trans ?_ (impl_VoteText.b_nat impl_VoteText.enc some k a0_0 a0_1 a0_2z a0_2 a0_3 a0_4z a0_4))
  simp only [Option.map_some]
theorem impl_VoteText.sound (k : Nat) : SoundF Tryz.prog 30 (fun a => (impl_VoteText.ans k a).val) := by
  refine sound_plain (fun args res h => ?_) (fun t n => rfl)
  unfold impl_VoteText.ans at h
  dsimp only at h
  split at h
  · cases k with
    | zero => cases h
    | succ k =>
      unfold Ans.val at h
      rw [← impl_VoteText.eq] at h
      exact answer_sound mixed Tryz.func30 _ _ _ (k + 1) (fun j _ => tab_sound (tab_cons (impl_place.sound j) (tab_cons (impl_NumText.sound j) (tab_cons (impl_Short.sound j) (tab_nil))))) _ _ h
  · exact (Ans.no_val h).elim

/-! loop.example/g00790/impl.BitsHas -/
def impl_BitsHas.b {R : Type} (ret : Bool → Option R) (k : Nat) (a0z : Bool) (a0 : List Int) (a1 : Int) : Option R :=
  (impl_within.f k a1 0 (RowKit.wrap64 ((RowKit.wrap64 ((8 : Int) * ((a0).length : Int))) - 1))).bind fun t0 => cond t0 (cond (decide ((0 : Int) ≤ (RowKit.wrap64 (Int.tdiv a1 8)))) (cond (decide ((RowKit.wrap64 (Int.tdiv a1 8)) < ((a0).length : Int))) (cond (decide ((0 : Int) ≤ (Int.tmod a1 8))) (ret (decide ((Go.bits .and .u8 (shrI .u8 (rdI a0 (RowKit.wrap64 (Int.tdiv a1 8))) (Int.tmod a1 8)) 1) = 1))) (none)) (none)) (none)) (ret false)
def impl_BitsHas.f : Nat → Bool → (List Int) → Int → Option Bool
  | 0, _, _, _ => none
  | k + 1, a0z, a0, a1 => impl_BitsHas.b some k a0z a0 a1
def impl_BitsHas.enc (r : Bool) : Res := ⟨[.vals false [((.bool r), true)]], []⟩
def impl_BitsHas.ans (k : Nat) : List Arg → Ans
  | [.v (.nums 5 .u8 a0z a0), .v (.int .i64 a1)] => ⟨impl_BitsHas.f k a0z a0 a1, impl_BitsHas.enc⟩
  | _ => Ans.no
def impl_BitsHas.Cs (k : Nat) : CallSem := tab [(79, impl_within.ans k)]
def impl_BitsHas.cuts : List (Nat × Keep) := []
theorem impl_BitsHas.s (k : Nat) (a0z : Bool) (a0 : List Int) (a1 : Int) : answer Tryz.prog impl_BitsHas.Cs 100000 impl_BitsHas.cuts [] Tryz.f75 (k + 1) [.v (.nums 5 .u8 a0z a0), .v (.int .i64 a1)] = impl_BitsHas.b (fun r => some (impl_BitsHas.enc r)) k a0z a0 a1 := by kernel_rfl
theorem impl_BitsHas.b_nat {R R' : Type} (e : R → R') (ret : Bool → Option R) (k : Nat) (a0z : Bool) (a0 : List Int) (a1 : Int) : impl_BitsHas.b (fun r => (ret r).map e) k a0z a0 a1 = (impl_BitsHas.b ret k a0z a0 a1).map e := by
  unfold impl_BitsHas.b
  repeat' first | with_reducible refine nat_cond ?_ ?_ | with_reducible refine nat_bind fun _ => ?_ | rfl
theorem impl_BitsHas.eq (k : Nat) (a0z : Bool) (a0 : List Int) (a1 : Int) : answer Tryz.prog impl_BitsHas.Cs 100000 impl_BitsHas.cuts [] Tryz.f75 (k + 1) [.v (.nums 5 .u8 a0z a0), .v (.int .i64 a1)] = (impl_BitsHas.f (k + 1) a0z a0 a1).map impl_BitsHas.enc := by
  refine (impl_BitsHas.s k a0z a0 a1).trans (Eq.trans ?_ (impl_BitsHas.b_nat impl_BitsHas.enc some k a0z a0 a1))
  simp only [Option.map_some]
theorem impl_BitsHas.sound (k : Nat) : SoundF Tryz.prog 75 (fun a => (impl_BitsHas.ans k a).val) := by
  refine sound_plain (fun args res h => ?_) (fun t n => rfl)
  unfold impl_BitsHas.ans at h
  dsimp only at h
  split at h
  · cases k with
    | zero => cases h
    | succ k =>
      unfold Ans.val at h
      rw [← impl_BitsHas.eq] at h
      exact answer_sound mixed Tryz.func75 _ _ _ (k + 1) (fun j _ => tab_sound (tab_cons (impl_within.sound j) (tab_nil))) _ _ h
  · exact (Ans.no_val h).elim

/-! loop.example/g00790/impl.BitsList -/
def impl_BitsList.b {R : Type} (ret : Bool × List Int → Option R) (j0 : Bool → (List Int) → (List Int) → Int → Int → Option R) (k : Nat) (a0z : Bool) (a0 : List Int) : Option R :=
  j0 a0z a0 ([] : List Int) (RowKit.wrap64 ((8 : Int) * ((a0).length : Int))) 0
def impl_BitsList.l0b {R : Type} (ret : Bool × List Int → Option R) (j0 : Bool → (List Int) → (List Int) → Int → Int → Option R) (k : Nat) (x0z : Bool) (x0 : List Int) (x3 : List Int) (x8 : Int) (x9 : Int) : Option R :=
  cond (decide (x9 < x8)) ((impl_BitsHas.f k x0z x0 x9).bind fun t0 => cond t0 (cond (decide ((x3).length + 1 < 17592186044416)) (j0 x0z x0 (x3 ++ ([x9] : List Int)) x8 (RowKit.wrap64 (x9 + 1))) (none)) (j0 x0z x0 x3 x8 (RowKit.wrap64 (x9 + 1)))) (ret (false, x3))
def impl_BitsList.l0 : Nat → Bool → (List Int) → (List Int) → Int → Int → Option (Bool × List Int)
  | 0, _, _, _, _, _ => none
  | k + 1, x0z, x0, x3, x8, x9 => impl_BitsList.l0b some (impl_BitsList.l0 k) k x0z x0 x3 x8 x9
def impl_BitsList.f : Nat → Bool → (List Int) → Option (Bool × List Int)
  | 0, _, _ => none
  | k + 1, a0z, a0 => impl_BitsList.b some (impl_BitsList.l0 k) k a0z a0
def impl_BitsList.enc (r : Bool × List Int) : Res := ⟨[.vals false [((.nums 3 .i64 r.1 r.2), true)]], []⟩
def impl_BitsList.ans (k : Nat) : List Arg → Ans
  | [.v (.nums 5 .u8 a0z a0)] => ⟨impl_BitsList.f k a0z a0, impl_BitsList.enc⟩
  | _ => Ans.no
def impl_BitsList.Cs (k : Nat) : CallSem := tab [(75, impl_BitsHas.ans k)]
def impl_BitsList.cuts : List (Nat × Keep) := [(58, ⟨[(0, some []), (3, none), (8, some []), (9, some [])], []⟩)]
noncomputable def impl_BitsList.K0 : List Fr := framesAt [true, true, false, true, false] (bodyOf Tryz.f61 impl_BitsList.cuts) []
def impl_BitsList.N0 (x0z : Bool) (x0 : List Int) (x3 : List Int) (x8 : Int) (x9 : Int) : St := stOf 21 21 1 [(0, .val ⟨(.nums 5 .u8 x0z x0), [], false, none⟩), (3, .val ⟨(.nums 3 .i64 false x3), [.l 3 0], true, some (.l 3 0)⟩), (8, .val (V.s (.int .i64 x8))), (9, .val (V.s (.int .i64 x9)))] []
theorem impl_BitsList.s (k : Nat) (a0z : Bool) (a0 : List Int) : answer Tryz.prog impl_BitsList.Cs 100000 impl_BitsList.cuts [] Tryz.f61 (k + 1) [.v (.nums 5 .u8 a0z a0)] = impl_BitsList.b (fun r => some (impl_BitsList.enc r)) (fun x0z x0 x3 x8 x9 => rounds Tryz.prog impl_BitsList.Cs (finish Tryz.prog [] Tryz.f61 [.v (.nums 5 .u8 a0z a0)]) 100000 k impl_BitsList.K0 (impl_BitsList.N0 x0z x0 x3 x8 x9)) k a0z a0 := by kernel_rfl
theorem impl_BitsList.s0 (k : Nat) (G : List Fr → St → Option Res) (a0z : Bool) (a0 : List Int) (yx0z : Bool) (yx0 : List Int) (yx3 : List Int) (yx8 : Int) (yx9 : Int) : resume Tryz.prog (impl_BitsList.Cs k) G (finish Tryz.prog [] Tryz.f61 [.v (.nums 5 .u8 a0z a0)]) 100000 impl_BitsList.K0 (impl_BitsList.N0 yx0z yx0 yx3 yx8 yx9) = impl_BitsList.l0b (fun r => some (impl_BitsList.enc r)) (fun x0z x0 x3 x8 x9 => G impl_BitsList.K0 (impl_BitsList.N0 x0z x0 x3 x8 x9)) k yx0z yx0 yx3 yx8 yx9 := by kernel_rfl
theorem impl_BitsList.b_nat {R R' : Type} (e : R → R') (ret : Bool × List Int → Option R) (j0 : Bool → (List Int) → (List Int) → Int → Int → Option R) (k : Nat) (a0z : Bool) (a0 : List Int) : impl_BitsList.b (fun r => (ret r).map e) (fun x0z x0 x3 x8 x9 => (j0 x0z x0 x3 x8 x9).map e) k a0z a0 = (impl_BitsList.b ret j0 k a0z a0).map e := by
  unfold impl_BitsList.b
  repeat' first | with_reducible refine nat_cond ?_ ?_ | with_reducible refine nat_bind fun _ => ?_ | rfl
theorem impl_BitsList.l0b_nat {R R' : Type} (e : R → R') (ret : Bool × List Int → Option R) (j0 : Bool → (List Int) → (List Int) → Int → Int → Option R) (k : Nat) (x0z : Bool) (x0 : List Int) (x3 : List Int) (x8 : Int) (x9 : Int) : impl_BitsList.l0b (fun r => (ret r).map e) (fun x0z x0 x3 x8 x9 => (j0 x0z x0 x3 x8 x9).map e) k x0z x0 x3 x8 x9 = (impl_BitsList.l0b ret j0 k x0z x0 x3 x8 x9).map e := by
  unfold impl_BitsList.l0b
  repeat' first | with_reducible refine nat_cond ?_ ?_ | with_reducible refine nat_bind fun _ => ?_ | rfl
theorem impl_BitsList.rounds_eq (a0z : Bool) (a0 : List Int) : ∀ k, (∀ (x0z : Bool) (x0 : List Int) (x3 : List Int) (x8 : Int) (x9 : Int), rounds Tryz.prog impl_BitsList.Cs (finish Tryz.prog [] Tryz.f61 [.v (.nums 5 .u8 a0z a0)]) 100000 k impl_BitsList.K0 (impl_BitsList.N0 x0z x0 x3 x8 x9) = (impl_BitsList.l0 k x0z x0 x3 x8 x9).map impl_BitsList.enc)
  | 0 => fun _ _ _ _ _ => rfl
  | k + 1 => by
    have ih := impl_BitsList.rounds_eq a0z a0 k
    refine fun _ _ _ _ _ => ?_
    · refine (impl_BitsList.s0 k _ a0z a0 _ _ _ _ _).trans (Eq.trans ?_ (impl_BitsList.l0b_nat impl_BitsList.enc some (impl_BitsList.l0 k) k _ _ _ _ _))
      simp only [ih, Option.map_some]
theorem impl_BitsList.eq (k : Nat) (a0z : Bool) (a0 : List Int) : answer Tryz.prog impl_BitsList.Cs 100000 impl_BitsList.cuts [] Tryz.f61 (k + 1) [.v (.nums 5 .u8 a0z a0)] = (impl_BitsList.f (k + 1) a0z a0).map impl_BitsList.enc := by
  have ih := impl_BitsList.rounds_eq a0z a0 k
  refine (impl_BitsList.s k a0z a0).trans (Eq.trans ?_ (impl_BitsList.b_nat impl_BitsList.enc some (impl_BitsList.l0 k) k a0z a0))
  simp only [ih, Option.map_some]
theorem impl_BitsList.sound (k : Nat) : SoundF Tryz.prog 61 (fun a => (impl_BitsList.ans k a).val) := by
  refine sound_plain (fun args res h => ?_) (fun t n => rfl)
  unfold impl_BitsList.ans at h
  dsimp only at h
  split at h
  · cases k with
    | zero => cases h
    | succ k =>
      unfold Ans.val at h
      rw [← impl_BitsList.eq] at h
      exact answer_sound mixed Tryz.func61 _ _ _ (k + 1) (fun j _ => tab_sound (tab_cons (impl_BitsHas.sound j) (tab_nil))) _ _ h
  · exact (Ans.no_val h).elim

/-! strings_Join -/
def strings_Join.f (k : Nat) (a0z : Bool) (a0 : List T) (a1 : ByteArray) : Option ByteArray := cond (joinOk a0 a1) (some (joinB a0 a1)) none
def strings_Join.enc (r : ByteArray) : Res := ⟨[.vals false [((.str r), true)]], []⟩
def strings_Join.ans (k : Nat) : List Arg → Ans
  | [.v (.sl 9 a0z a0), .v (.str a1)] => ⟨strings_Join.f k a0z a0 a1, strings_Join.enc⟩
  | _ => Ans.no
theorem strings_Join.sound (k : Nat) : SoundF Tryz.prog 76 (fun a => (strings_Join.ans k a).val) := by
  refine sound_ext (fun _ _ => rfl) fun args res h => ?_
  unfold strings_Join.ans at h
  split at h
  · exact ext_join lay_Join (by kernel_rfl) h
  · exact (Ans.no_val h).elim

/-! loop.example/g00790/impl.orDash -/
def impl_orDash.b {R : Type} (ret : ByteArray → Option R) (k : Nat) (a0z : Bool) (a0 : List T) : Option R :=
  cond (decide (((a0).length : Int) = 0)) (ret (⟨#[45]⟩ : ByteArray)) ((strings_Join.f k a0z a0 (⟨#[44]⟩ : ByteArray)).bind fun t0 => ret t0)
def impl_orDash.f : Nat → Bool → (List T) → Option ByteArray
  | 0, _, _ => none
  | k + 1, a0z, a0 => impl_orDash.b some k a0z a0
def impl_orDash.enc (r : ByteArray) : Res := ⟨[.vals false [((.str r), true)]], []⟩
def impl_orDash.ans (k : Nat) : List Arg → Ans
  | [.v (.sl 9 a0z a0)] => ⟨impl_orDash.f k a0z a0, impl_orDash.enc⟩
  | _ => Ans.no
def impl_orDash.Cs (k : Nat) : CallSem := tab [(76, strings_Join.ans k)]
def impl_orDash.cuts : List (Nat × Keep) := []
theorem impl_orDash.s (k : Nat) (a0z : Bool) (a0 : List T) : answer Tryz.prog impl_orDash.Cs 100000 impl_orDash.cuts [] Tryz.f62 (k + 1) [.v (.sl 9 a0z a0)] = impl_orDash.b (fun r => some (impl_orDash.enc r)) k a0z a0 := by kernel_rfl
theorem impl_orDash.b_nat {R R' : Type} (e : R → R') (ret : ByteArray → Option R) (k : Nat) (a0z : Bool) (a0 : List T) : impl_orDash.b (fun r => (ret r).map e) k a0z a0 = (impl_orDash.b ret k a0z a0).map e := by
  unfold impl_orDash.b
  repeat' first | with_reducible refine nat_cond ?_ ?_ | with_reducible refine nat_bind fun _ => ?_ | rfl
theorem impl_orDash.eq (k : Nat) (a0z : Bool) (a0 : List T) : answer Tryz.prog impl_orDash.Cs 100000 impl_orDash.cuts [] Tryz.f62 (k + 1) [.v (.sl 9 a0z a0)] = (impl_orDash.f (k + 1) a0z a0).map impl_orDash.enc := by
  refine (impl_orDash.s k a0z a0).trans (Eq.trans ?_ (impl_orDash.b_nat impl_orDash.enc some k a0z a0))
  simp only [Option.map_some]
theorem impl_orDash.sound (k : Nat) : SoundF Tryz.prog 62 (fun a => (impl_orDash.ans k a).val) := by
  refine sound_plain (fun args res h => ?_) (fun t n => rfl)
  unfold impl_orDash.ans at h
  dsimp only at h
  split at h
  · cases k with
    | zero => cases h
    | succ k =>
      unfold Ans.val at h
      rw [← impl_orDash.eq] at h
      exact answer_sound mixed Tryz.func62 _ _ _ (k + 1) (fun j _ => tab_sound (tab_cons (strings_Join.sound j) (tab_nil))) _ _ h
  · exact (Ans.no_val h).elim

/-! loop.example/g00790/impl.QcText -/
def impl_QcText.b {R : Type} (ret : ByteArray → Option R) (j0 : (List T) → Bool → (List Int) → Int → Int → Int → Int → Bool → (List Int) → Bool → (List Int) → Bool → (List T) → Option R) (k : Nat) (a0_0 : Int) (a0_1 : Int) (a0_2z : Bool) (a0_2 : List Int) (a0_3z : Bool) (a0_3 : List Int) (a0_4z : Bool) (a0_4 : List T) : Option R :=
  (impl_BitsList.f k a0_3z a0_3).bind fun t0 => j0 ([] : List T) t0.1 t0.2 ((t0.2).length : Int) 0 a0_0 a0_1 a0_2z a0_2 a0_3z a0_3 a0_4z a0_4
def impl_QcText.l0b {R : Type} (ret : ByteArray → Option R) (j0 : (List T) → Bool → (List Int) → Int → Int → Int → Int → Bool → (List Int) → Bool → (List Int) → Bool → (List T) → Option R) (k : Nat) (x3 : List T) (x9z : Bool) (x9 : List Int) (x10 : Int) (x11 : Int) (c1_0 : Int) (c1_1 : Int) (c1_2z : Bool) (c1_2 : List Int) (c1_3z : Bool) (c1_3 : List Int) (c1_4z : Bool) (c1_4 : List T) : Option R :=
  cond (decide (x11 < x10)) (cond (decide ((0 : Int) ≤ x11)) (cond (decide (x11 < ((x9).length : Int))) ((impl_NumText.f k (rdI x9 x11)).bind fun t0 => cond (decide ((x3).length + 1 < 8796093022208)) (j0 (x3 ++ ([(.str t0)] : List T)) x9z x9 x10 (RowKit.wrap64 (x11 + 1)) c1_0 c1_1 c1_2z c1_2 c1_3z c1_3 c1_4z c1_4) (none)) (none)) (none)) ((impl_place.f k c1_0 c1_1).bind fun t0 => cond (decide (((⟨#[113, 99, 32]⟩ : ByteArray)).size + (t0).size ≤ 140737488355328)) (cond (decide ((((⟨#[113, 99, 32]⟩ : ByteArray) ++ t0)).size + ((⟨#[32]⟩ : ByteArray)).size ≤ 140737488355328)) ((impl_Short.f k c1_2z c1_2).bind fun t1 => cond (decide (((((⟨#[113, 99, 32]⟩ : ByteArray) ++ t0) ++ (⟨#[32]⟩ : ByteArray))).size + (t1).size ≤ 140737488355328)) (cond (decide ((((((⟨#[113, 99, 32]⟩ : ByteArray) ++ t0) ++ (⟨#[32]⟩ : ByteArray)) ++ t1)).size + ((⟨#[32]⟩ : ByteArray)).size ≤ 140737488355328)) ((impl_orDash.f k false x3).bind fun t2 => cond (decide (((((((⟨#[113, 99, 32]⟩ : ByteArray) ++ t0) ++ (⟨#[32]⟩ : ByteArray)) ++ t1) ++ (⟨#[32]⟩ : ByteArray))).size + (t2).size ≤ 140737488355328)) (ret ((((((⟨#[113, 99, 32]⟩ : ByteArray) ++ t0) ++ (⟨#[32]⟩ : ByteArray)) ++ t1) ++ (⟨#[32]⟩ : ByteArray)) ++ t2)) (none)) (none)) (none)) (none)) (none))
def impl_QcText.l0 : Nat → (List T) → Bool → (List Int) → Int → Int → Int → Int → Bool → (List Int) → Bool → (List Int) → Bool → (List T) → Option ByteArray
  | 0, _, _, _, _, _, _, _, _, _, _, _, _, _ => none
  | k + 1, x3, x9z, x9, x10, x11, c1_0, c1_1, c1_2z, c1_2, c1_3z, c1_3, c1_4z, c1_4 => impl_QcText.l0b some (impl_QcText.l0 k) k x3 x9z x9 x10 x11 c1_0 c1_1 c1_2z c1_2 c1_3z c1_3 c1_4z c1_4
def impl_QcText.f : Nat → Int → Int → Bool → (List Int) → Bool → (List Int) → Bool → (List T) → Option ByteArray
  | 0, _, _, _, _, _, _, _, _ => none
  | k + 1, a0_0, a0_1, a0_2z, a0_2, a0_3z, a0_3, a0_4z, a0_4 => impl_QcText.b some (impl_QcText.l0 k) k a0_0 a0_1 a0_2z a0_2 a0_3z a0_3 a0_4z a0_4
def impl_QcText.enc (r : ByteArray) : Res := ⟨[.vals false [((.str r), true)]], []⟩
def impl_QcText.ans (k : Nat) : List Arg → Ans
  | [.v (.agg [(.int .i64 a0_0), (.int .i64 a0_1), (.nums 5 .u8 a0_2z a0_2), (.nums 5 .u8 a0_3z a0_3), (.sl 22 a0_4z a0_4)])] => ⟨impl_QcText.f k a0_0 a0_1 a0_2z a0_2 a0_3z a0_3 a0_4z a0_4, impl_QcText.enc⟩
  | _ => Ans.no
def impl_QcText.Cs (k : Nat) : CallSem := tab [(58, impl_place.ans k), (60, impl_NumText.ans k), (59, impl_Short.ans k), (61, impl_BitsList.ans k), (62, impl_orDash.ans k)]
def impl_QcText.cuts : List (Nat × Keep) := [(58, ⟨[(1, some []), (3, none), (9, none), (10, some []), (11, some [])], [(1, [some [], some [], some [], some [], some []])]⟩)]
noncomputable def impl_QcText.K0 : List Fr := framesAt [true, true, false, true, false] (bodyOf Tryz.f31 impl_QcText.cuts) []
def impl_QcText.N0 (x3 : List T) (x9z : Bool) (x9 : List Int) (x10 : Int) (x11 : Int) (c1_0 : Int) (c1_1 : Int) (c1_2z : Bool) (c1_2 : List Int) (c1_3z : Bool) (c1_3 : List Int) (c1_4z : Bool) (c1_4 : List T) : St := stOf 36 36 1 [(1, .bp 1 0), (3, .val ⟨(.sl 9 false x3), [.l 3 0], true, some (.l 3 0)⟩), (9, .val ⟨(.nums 3 .i64 x9z x9), [.l 9 0], true, some (.l 9 0)⟩), (10, .val (V.s (.int .i64 x10))), (11, .val (V.s (.int .i64 x11)))] [(1, .cells [V.s (.int .i64 c1_0), V.s (.int .i64 c1_1), ⟨(.nums 5 .u8 c1_2z c1_2), [], false, none⟩, ⟨(.nums 5 .u8 c1_3z c1_3), [], false, none⟩, ⟨(.sl 22 c1_4z c1_4), [], false, none⟩])]
theorem impl_QcText.s (k : Nat) (a0_0 : Int) (a0_1 : Int) (a0_2z : Bool) (a0_2 : List Int) (a0_3z : Bool) (a0_3 : List Int) (a0_4z : Bool) (a0_4 : List T) : answer Tryz.prog impl_QcText.Cs 100000 impl_QcText.cuts [] Tryz.f31 (k + 1) [.v (.agg [(.int .i64 a0_0), (.int .i64 a0_1), (.nums 5 .u8 a0_2z a0_2), (.nums 5 .u8 a0_3z a0_3), (.sl 22 a0_4z a0_4)])] = impl_QcText.b (fun r => some (impl_QcText.enc r)) (fun x3 x9z x9 x10 x11 c1_0 c1_1 c1_2z c1_2 c1_3z c1_3 c1_4z c1_4 => rounds Tryz.prog impl_QcText.Cs (finish Tryz.prog [] Tryz.f31 [.v (.agg [(.int .i64 a0_0), (.int .i64 a0_1), (.nums 5 .u8 a0_2z a0_2), (.nums 5 .u8 a0_3z a0_3), (.sl 22 a0_4z a0_4)])]) 100000 k impl_QcText.K0 (impl_QcText.N0 x3 x9z x9 x10 x11 c1_0 c1_1 c1_2z c1_2 c1_3z c1_3 c1_4z c1_4)) k a0_0 a0_1 a0_2z a0_2 a0_3z a0_3 a0_4z a0_4 := by kernel_rfl
theorem impl_QcText.s0 (k : Nat) (G : List Fr → St → Option Res) (a0_0 : Int) (a0_1 : Int) (a0_2z : Bool) (a0_2 : List Int) (a0_3z : Bool) (a0_3 : List Int) (a0_4z : Bool) (a0_4 : List T) (yx3 : List T) (yx9z : Bool) (yx9 : List Int) (yx10 : Int) (yx11 : Int) (yc1_0 : Int) (yc1_1 : Int) (yc1_2z : Bool) (yc1_2 : List Int) (yc1_3z : Bool) (yc1_3 : List Int) (yc1_4z : Bool) (yc1_4 : List T) : resume Tryz.prog (impl_QcText.Cs k) G (finish Tryz.prog [] Tryz.f31 [.v (.agg [(.int .i64 a0_0), (.int .i64 a0_1), (.nums 5 .u8 a0_2z a0_2), (.nums 5 .u8 a0_3z a0_3), (.sl 22 a0_4z a0_4)])]) 100000 impl_QcText.K0 (impl_QcText.N0 yx3 yx9z yx9 yx10 yx11 yc1_0 yc1_1 yc1_2z yc1_2 yc1_3z yc1_3 yc1_4z yc1_4) = impl_QcText.l0b (fun r => some (impl_QcText.enc r)) (fun x3 x9z x9 x10 x11 c1_0 c1_1 c1_2z c1_2 c1_3z c1_3 c1_4z c1_4 => G impl_QcText.K0 (impl_QcText.N0 x3 x9z x9 x10 x11 c1_0 c1_1 c1_2z c1_2 c1_3z c1_3 c1_4z c1_4)) k yx3 yx9z yx9 yx10 yx11 yc1_0 yc1_1 yc1_2z yc1_2 yc1_3z yc1_3 yc1_4z yc1_4 := by kernel_rfl
theorem impl_QcText.b_nat {R R' : Type} (e : R → R') (ret : ByteArray → Option R) (j0 : (List T) → Bool → (List Int) → Int → Int → Int → Int → Bool → (List Int) → Bool → (List Int) → Bool → (List T) → Option R) (k : Nat) (a0_0 : Int) (a0_1 : Int) (a0_2z : Bool) (a0_2 : List Int) (a0_3z : Bool) (a0_3 : List Int) (a0_4z : Bool) (a0_4 : List T) : impl_QcText.b (fun r => (ret r).map e) (fun x3 x9z x9 x10 x11 c1_0 c1_1 c1_2z c1_2 c1_3z c1_3 c1_4z c1_4 => (j0 x3 x9z x9 x10 x11 c1_0 c1_1 c1_2z c1_2 c1_3z c1_3 c1_4z c1_4).map e) k a0_0 a0_1 a0_2z a0_2 a0_3z a0_3 a0_4z a0_4 = (impl_QcText.b ret j0 k a0_0 a0_1 a0_2z a0_2 a0_3z a0_3 a0_4z a0_4).map e := by
  unfold impl_QcText.b
  repeat' first | with_reducible refine nat_cond ?_ ?_ | with_reducible refine nat_bind fun _ => ?_ | rfl
theorem impl_QcText.l0b_nat {R R' : Type} (e : R → R') (ret : ByteArray → Option R) (j0 : (List T) → Bool → (List Int) → Int → Int → Int → Int → Bool → (List Int) → Bool → (List Int) → Bool → (List T) → Option R) (k : Nat) (x3 : List T) (x9z : Bool) (x9 : List Int) (x10 : Int) (x11 : Int) (c1_0 : Int) (c1_1 : Int) (c1_2z : Bool) (c1_2 : List Int) (c1_3z : Bool) (c1_3 : List Int) (c1_4z : Bool) (c1_4 : List T) : impl_QcText.l0b (fun r => (ret r).map e) (fun x3 x9z x9 x10 x11 c1_0 c1_1 c1_2z c1_2 c1_3z c1_3 c1_4z c1_4 => (j0 x3 x9z x9 x10 x11 c1_0 c1_1 c1_2z c1_2 c1_3z c1_3 c1_4z c1_4).map e) k x3 x9z x9 x10 x11 c1_0 c1_1 c1_2z c1_2 c1_3z c1_3 c1_4z c1_4 = (impl_QcText.l0b ret j0 k x3 x9z x9 x10 x11 c1_0 c1_1 c1_2z c1_2 c1_3z c1_3 c1_4z c1_4).map e := by
  unfold impl_QcText.l0b
  repeat' first | with_reducible refine nat_cond ?_ ?_ | with_reducible refine nat_bind fun _ => ?_ | rfl
theorem impl_QcText.rounds_eq (a0_0 : Int) (a0_1 : Int) (a0_2z : Bool) (a0_2 : List Int) (a0_3z : Bool) (a0_3 : List Int) (a0_4z : Bool) (a0_4 : List T) : ∀ k, (∀ (x3 : List T) (x9z : Bool) (x9 : List Int) (x10 : Int) (x11 : Int) (c1_0 : Int) (c1_1 : Int) (c1_2z : Bool) (c1_2 : List Int) (c1_3z : Bool) (c1_3 : List Int) (c1_4z : Bool) (c1_4 : List T), rounds Tryz.prog impl_QcText.Cs (finish Tryz.prog [] Tryz.f31 [.v (.agg [(.int .i64 a0_0), (.int .i64 a0_1), (.nums 5 .u8 a0_2z a0_2), (.nums 5 .u8 a0_3z a0_3), (.sl 22 a0_4z a0_4)])]) 100000 k impl_QcText.K0 (impl_QcText.N0 x3 x9z x9 x10 x11 c1_0 c1_1 c1_2z c1_2 c1_3z c1_3 c1_4z c1_4) = (impl_QcText.l0 k x3 x9z x9 x10 x11 c1_0 c1_1 c1_2z c1_2 c1_3z c1_3 c1_4z c1_4).map impl_QcText.enc)
  | 0 => fun _ _ _ _ _ _ _ _ _ _ _ _ _ => rfl
  | k + 1 => by
    have ih := impl_QcText.rounds_eq a0_0 a0_1 a0_2z a0_2 a0_3z a0_3 a0_4z a0_4 k
    refine fun _ _ _ _ _ _ _ _ _ _ _ _ _ => ?_
    · refine (impl_QcText.s0 k _ a0_0 a0_1 a0_2z a0_2 a0_3z a0_3 a0_4z a0_4 _ _ _ _ _ _ _ _ _ _ _ _ _).trans (Eq.trans ?_ (impl_QcText.l0b_nat impl_QcText.enc some (impl_QcText.l0 k) k _ _ _ _ _ _ _ _ _ _ _ _ _))
      simp only [ih, Option.map_some]
theorem impl_QcText.eq (k : Nat) (a0_0 : Int) (a0_1 : Int) (a0_2z : Bool) (a0_2 : List Int) (a0_3z : Bool) (a0_3 : List Int) (a0_4z : Bool) (a0_4 : List T) : answer Tryz.prog impl_QcText.Cs 100000 impl_QcText.cuts [] Tryz.f31 (k + 1) [.v (.agg [(.int .i64 a0_0), (.int .i64 a0_1), (.nums 5 .u8 a0_2z a0_2), (.nums 5 .u8 a0_3z a0_3), (.sl 22 a0_4z a0_4)])] = (impl_QcText.f (k + 1) a0_0 a0_1 a0_2z a0_2 a0_3z a0_3 a0_4z a0_4).map impl_QcText.enc := by
  have ih := impl_QcText.rounds_eq a0_0 a0_1 a0_2z a0_2 a0_3z a0_3 a0_4z a0_4 k
  refine (impl_QcText.s k a0_0 a0_1 a0_2z a0_2 a0_3z a0_3 a0_4z a0_4).trans (Eq.trans ?_ (impl_QcText.b_nat impl_QcText.enc some (impl_QcText.l0 k) k a0_0 a0_1 a0_2z a0_2 a0_3z a0_3 a0_4z a0_4))
  simp only [ih, Option.map_some]
theorem impl_QcText.sound (k : Nat) : SoundF Tryz.prog 31 (fun a => (impl_QcText.ans k a).val) := by
  refine sound_plain (fun args res h => ?_) (fun t n => rfl)
  unfold impl_QcText.ans at h
  dsimp only at h
  split at h
  · cases k with
    | zero => cases h
    | succ k =>
      unfold Ans.val at h
      rw [← impl_QcText.eq] at h
      exact answer_sound mixed Tryz.func31 _ _ _ (k + 1) (fun j _ => tab_sound (tab_cons (impl_place.sound j) (tab_cons (impl_NumText.sound j) (tab_cons (impl_Short.sound j) (tab_cons (impl_BitsList.sound j) (tab_cons (impl_orDash.sound j) (tab_nil))))))) _ _ h
  · exact (Ans.no_val h).elim

/-! loop.example/g00790/impl.HeadText -/
def impl_HeadText.b {R : Type} (ret : ByteArray → Option R) (k : Nat) (a0_0 : Int) (a0_1 : Int) (a0_2 : Int) (a0_3z : Bool) (a0_3 : List Int) (a0_4z : Bool) (a0_4 : List Int) (a0_5 : Int) (a0_6 : Int) (a0_7z : Bool) (a0_7 : List Int) (a0_8z : Bool) (a0_8 : List Int) (a0_9z : Bool) (a0_9 : List T) : Option R :=
  (impl_place.f k a0_0 a0_1).bind fun t0 => cond (decide (((⟨#[104, 101, 97, 100, 32]⟩ : ByteArray)).size + (t0).size ≤ 140737488355328)) (cond (decide ((((⟨#[104, 101, 97, 100, 32]⟩ : ByteArray) ++ t0)).size + ((⟨#[32, 98, 121, 32]⟩ : ByteArray)).size ≤ 140737488355328)) ((impl_NumText.f k a0_2).bind fun t1 => cond (decide (((((⟨#[104, 101, 97, 100, 32]⟩ : ByteArray) ++ t0) ++ (⟨#[32, 98, 121, 32]⟩ : ByteArray))).size + (t1).size ≤ 140737488355328)) (cond (decide ((((((⟨#[104, 101, 97, 100, 32]⟩ : ByteArray) ++ t0) ++ (⟨#[32, 98, 121, 32]⟩ : ByteArray)) ++ t1)).size + ((⟨#[32, 111, 110, 32]⟩ : ByteArray)).size ≤ 140737488355328)) ((impl_Short.f k a0_3z a0_3).bind fun t2 => cond (decide (((((((⟨#[104, 101, 97, 100, 32]⟩ : ByteArray) ++ t0) ++ (⟨#[32, 98, 121, 32]⟩ : ByteArray)) ++ t1) ++ (⟨#[32, 111, 110, 32]⟩ : ByteArray))).size + (t2).size ≤ 140737488355328)) (cond (decide ((((((((⟨#[104, 101, 97, 100, 32]⟩ : ByteArray) ++ t0) ++ (⟨#[32, 98, 121, 32]⟩ : ByteArray)) ++ t1) ++ (⟨#[32, 111, 110, 32]⟩ : ByteArray)) ++ t2)).size + ((⟨#[32, 114, 111, 111, 116, 32]⟩ : ByteArray)).size ≤ 140737488355328)) ((impl_Short.f k a0_4z a0_4).bind fun t3 => cond (decide (((((((((⟨#[104, 101, 97, 100, 32]⟩ : ByteArray) ++ t0) ++ (⟨#[32, 98, 121, 32]⟩ : ByteArray)) ++ t1) ++ (⟨#[32, 111, 110, 32]⟩ : ByteArray)) ++ t2) ++ (⟨#[32, 114, 111, 111, 116, 32]⟩ : ByteArray))).size + (t3).size ≤ 140737488355328)) (ret ((((((((⟨#[104, 101, 97, 100, 32]⟩ : ByteArray) ++ t0) ++ (⟨#[32, 98, 121, 32]⟩ : ByteArray)) ++ t1) ++ (⟨#[32, 111, 110, 32]⟩ : ByteArray)) ++ t2) ++ (⟨#[32, 114, 111, 111, 116, 32]⟩ : ByteArray)) ++ t3)) (none)) (none)) (none)) (none)) (none)) (none)) (none)
def impl_HeadText.f : Nat → Int → Int → Int → Bool → (List Int) → Bool → (List Int) → Int → Int → Bool → (List Int) → Bool → (List Int) → Bool → (List T) → Option ByteArray
  | 0, _, _, _, _, _, _, _, _, _, _, _, _, _, _, _ => none
  | k + 1, a0_0, a0_1, a0_2, a0_3z, a0_3, a0_4z, a0_4, a0_5, a0_6, a0_7z, a0_7, a0_8z, a0_8, a0_9z, a0_9 => impl_HeadText.b some k a0_0 a0_1 a0_2 a0_3z a0_3 a0_4z a0_4 a0_5 a0_6 a0_7z a0_7 a0_8z a0_8 a0_9z a0_9
def impl_HeadText.enc (r : ByteArray) : Res := ⟨[.vals false [((.str r), true)]], []⟩
def impl_HeadText.ans (k : Nat) : List Arg → Ans
  | [.v (.agg [(.int .i64 a0_0), (.int .i64 a0_1), (.int .i64 a0_2), (.nums 5 .u8 a0_3z a0_3), (.nums 5 .u8 a0_4z a0_4), (.int .i64 a0_5), (.int .i64 a0_6), (.nums 5 .u8 a0_7z a0_7), (.nums 5 .u8 a0_8z a0_8), (.sl 22 a0_9z a0_9)])] => ⟨impl_HeadText.f k a0_0 a0_1 a0_2 a0_3z a0_3 a0_4z a0_4 a0_5 a0_6 a0_7z a0_7 a0_8z a0_8 a0_9z a0_9, impl_HeadText.enc⟩
  | _ => Ans.no
def impl_HeadText.Cs (k : Nat) : CallSem := tab [(58, impl_place.ans k), (60, impl_NumText.ans k), (59, impl_Short.ans k)]
def impl_HeadText.cuts : List (Nat × Keep) := []
theorem impl_HeadText.s (k : Nat) (a0_0 : Int) (a0_1 : Int) (a0_2 : Int) (a0_3z : Bool) (a0_3 : List Int) (a0_4z : Bool) (a0_4 : List Int) (a0_5 : Int) (a0_6 : Int) (a0_7z : Bool) (a0_7 : List Int) (a0_8z : Bool) (a0_8 : List Int) (a0_9z : Bool) (a0_9 : List T) : answer Tryz.prog impl_HeadText.Cs 100000 impl_HeadText.cuts [] Tryz.f32 (k + 1) [.v (.agg [(.int .i64 a0_0), (.int .i64 a0_1), (.int .i64 a0_2), (.nums 5 .u8 a0_3z a0_3), (.nums 5 .u8 a0_4z a0_4), (.int .i64 a0_5), (.int .i64 a0_6), (.nums 5 .u8 a0_7z a0_7), (.nums 5 .u8 a0_8z a0_8), (.sl 22 a0_9z a0_9)])] = impl_HeadText.b (fun r => some (impl_HeadText.enc r)) k a0_0 a0_1 a0_2 a0_3z a0_3 a0_4z a0_4 a0_5 a0_6 a0_7z a0_7 a0_8z a0_8 a0_9z a0_9 := by kernel_rfl
theorem impl_HeadText.b_nat {R R' : Type} (e : R → R') (ret : ByteArray → Option R) (k : Nat) (a0_0 : Int) (a0_1 : Int) (a0_2 : Int) (a0_3z : Bool) (a0_3 : List Int) (a0_4z : Bool) (a0_4 : List Int) (a0_5 : Int) (a0_6 : Int) (a0_7z : Bool) (a0_7 : List Int) (a0_8z : Bool) (a0_8 : List Int) (a0_9z : Bool) (a0_9 : List T) : impl_HeadText.b (fun r => (ret r).map e) k a0_0 a0_1 a0_2 a0_3z a0_3 a0_4z a0_4 a0_5 a0_6 a0_7z a0_7 a0_8z a0_8 a0_9z a0_9 = (impl_HeadText.b ret k a0_0 a0_1 a0_2 a0_3z a0_3 a0_4z a0_4 a0_5 a0_6 a0_7z a0_7 a0_8z a0_8 a0_9z a0_9).map e := by
  unfold impl_HeadText.b
  repeat' first | with_reducible refine nat_cond ?_ ?_ | with_reducible refine nat_bind fun _ => ?_ | rfl
theorem impl_HeadText.eq (k : Nat) (a0_0 : Int) (a0_1 : Int) (a0_2 : Int) (a0_3z : Bool) (a0_3 : List Int) (a0_4z : Bool) (a0_4 : List Int) (a0_5 : Int) (a0_6 : Int) (a0_7z : Bool) (a0_7 : List Int) (a0_8z : Bool) (a0_8 : List Int) (a0_9z : Bool) (a0_9 : List T) : answer Tryz.prog impl_HeadText.Cs 100000 impl_HeadText.cuts [] Tryz.f32 (k + 1) [.v (.agg [(.int .i64 a0_0), (.int .i64 a0_1), (.int .i64 a0_2), (.nums 5 .u8 a0_3z a0_3), (.nums 5 .u8 a0_4z a0_4), (.int .i64 a0_5), (.int .i64 a0_6), (.nums 5 .u8 a0_7z a0_7), (.nums 5 .u8 a0_8z a0_8), (.sl 22 a0_9z a0_9)])] = (impl_HeadText.f (k + 1) a0_0 a0_1 a0_2 a0_3z a0_3 a0_4z a0_4 a0_5 a0_6 a0_7z a0_7 a0_8z a0_8 a0_9z a0_9).map impl_HeadText.enc := by
  refine (impl_HeadText.s k a0_0 a0_1 a0_2 a0_3z a0_3 a0_4z a0_4 a0_5 a0_6 a0_7z a0_7 a0_8z a0_8 a0_9z a0_9).trans (Eq.trans ?_ (impl_HeadText.b_nat impl_HeadText.enc some k a0_0 a0_1 a0_2 a0_3z a0_3 a0_4z a0_4 a0_5 a0_6 a0_7z a0_7 a0_8z a0_8 a0_9z a0_9))
  simp only [Option.map_some]
theorem impl_HeadText.sound (k : Nat) : SoundF Tryz.prog 32 (fun a => (impl_HeadText.ans k a).val) := by
  refine sound_plain (fun args res h => ?_) (fun t n => rfl)
  unfold impl_HeadText.ans at h
  dsimp only at h
  split at h
  · cases k with
    | zero => cases h
    | succ k =>
      unfold Ans.val at h
      rw [← impl_HeadText.eq] at h
      exact answer_sound mixed Tryz.func32 _ _ _ (k + 1) (fun j _ => tab_sound (tab_cons (impl_place.sound j) (tab_cons (impl_NumText.sound j) (tab_cons (impl_Short.sound j) (tab_nil))))) _ _ h
  · exact (Ans.no_val h).elim

/-! loop.example/g00790/impl.BlockText -/
def impl_BlockText.b {R : Type} (ret : ByteArray → Option R) (k : Nat) (a0_0 : Int) (a0_1 : Int) (a0_2 : Int) (a0_3z : Bool) (a0_3 : List Int) (a0_4z : Bool) (a0_4 : List Int) (a0_5 : Int) (a0_6 : Int) (a0_7z : Bool) (a0_7 : List Int) (a0_8z : Bool) (a0_8 : List Int) (a0_9z : Bool) (a0_9 : List T) (a0_10z : Bool) (a0_10 : List T) : Option R :=
  (impl_HeadText.f k a0_0 a0_1 a0_2 a0_3z a0_3 a0_4z a0_4 a0_5 a0_6 a0_7z a0_7 a0_8z a0_8 a0_9z a0_9).bind fun t0 => cond (decide (((⟨#[98, 108, 111, 99, 107, 32]⟩ : ByteArray)).size + (t0).size ≤ 140737488355328)) (cond (decide ((((⟨#[98, 108, 111, 99, 107, 32]⟩ : ByteArray) ++ t0)).size + ((⟨#[32, 116, 120, 115, 32]⟩ : ByteArray)).size ≤ 140737488355328)) ((impl_NumText.f k ((a0_10).length : Int)).bind fun t1 => cond (decide (((((⟨#[98, 108, 111, 99, 107, 32]⟩ : ByteArray) ++ t0) ++ (⟨#[32, 116, 120, 115, 32]⟩ : ByteArray))).size + (t1).size ≤ 140737488355328)) (ret ((((⟨#[98, 108, 111, 99, 107, 32]⟩ : ByteArray) ++ t0) ++ (⟨#[32, 116, 120, 115, 32]⟩ : ByteArray)) ++ t1)) (none)) (none)) (none)
def impl_BlockText.f : Nat → Int → Int → Int → Bool → (List Int) → Bool → (List Int) → Int → Int → Bool → (List Int) → Bool → (List Int) → Bool → (List T) → Bool → (List T) → Option ByteArray
  | 0, _, _, _, _, _, _, _, _, _, _, _, _, _, _, _, _, _ => none
  | k + 1, a0_0, a0_1, a0_2, a0_3z, a0_3, a0_4z, a0_4, a0_5, a0_6, a0_7z, a0_7, a0_8z, a0_8, a0_9z, a0_9, a0_10z, a0_10 => impl_BlockText.b some k a0_0 a0_1 a0_2 a0_3z a0_3 a0_4z a0_4 a0_5 a0_6 a0_7z a0_7 a0_8z a0_8 a0_9z a0_9 a0_10z a0_10
def impl_BlockText.enc (r : ByteArray) : Res := ⟨[.vals false [((.str r), true)]], []⟩
def impl_BlockText.ans (k : Nat) : List Arg → Ans
  | [.v (.agg [(.int .i64 a0_0), (.int .i64 a0_1), (.int .i64 a0_2), (.nums 5 .u8 a0_3z a0_3), (.nums 5 .u8 a0_4z a0_4), (.int .i64 a0_5), (.int .i64 a0_6), (.nums 5 .u8 a0_7z a0_7), (.nums 5 .u8 a0_8z a0_8), (.sl 22 a0_9z a0_9), (.sl 22 a0_10z a0_10)])] => ⟨impl_BlockText.f k a0_0 a0_1 a0_2 a0_3z a0_3 a0_4z a0_4 a0_5 a0_6 a0_7z a0_7 a0_8z a0_8 a0_9z a0_9 a0_10z a0_10, impl_BlockText.enc⟩
  | _ => Ans.no
def impl_BlockText.Cs (k : Nat) : CallSem := tab [(60, impl_NumText.ans k), (32, impl_HeadText.ans k)]
def impl_BlockText.cuts : List (Nat × Keep) := []
theorem impl_BlockText.s (k : Nat) (a0_0 : Int) (a0_1 : Int) (a0_2 : Int) (a0_3z : Bool) (a0_3 : List Int) (a0_4z : Bool) (a0_4 : List Int) (a0_5 : Int) (a0_6 : Int) (a0_7z : Bool) (a0_7 : List Int) (a0_8z : Bool) (a0_8 : List Int) (a0_9z : Bool) (a0_9 : List T) (a0_10z : Bool) (a0_10 : List T) : answer Tryz.prog impl_BlockText.Cs 100000 impl_BlockText.cuts [] Tryz.f33 (k + 1) [.v (.agg [(.int .i64 a0_0), (.int .i64 a0_1), (.int .i64 a0_2), (.nums 5 .u8 a0_3z a0_3), (.nums 5 .u8 a0_4z a0_4), (.int .i64 a0_5), (.int .i64 a0_6), (.nums 5 .u8 a0_7z a0_7), (.nums 5 .u8 a0_8z a0_8), (.sl 22 a0_9z a0_9), (.sl 22 a0_10z a0_10)])] = impl_BlockText.b (fun r => some (impl_BlockText.enc r)) k a0_0 a0_1 a0_2 a0_3z a0_3 a0_4z a0_4 a0_5 a0_6 a0_7z a0_7 a0_8z a0_8 a0_9z a0_9 a0_10z a0_10 := by kernel_rfl
theorem impl_BlockText.b_nat {R R' : Type} (e : R → R') (ret : ByteArray → Option R) (k : Nat) (a0_0 : Int) (a0_1 : Int) (a0_2 : Int) (a0_3z : Bool) (a0_3 : List Int) (a0_4z : Bool) (a0_4 : List Int) (a0_5 : Int) (a0_6 : Int) (a0_7z : Bool) (a0_7 : List Int) (a0_8z : Bool) (a0_8 : List Int) (a0_9z : Bool) (a0_9 : List T) (a0_10z : Bool) (a0_10 : List T) : impl_BlockText.b (fun r => (ret r).map e) k a0_0 a0_1 a0_2 a0_3z a0_3 a0_4z a0_4 a0_5 a0_6 a0_7z a0_7 a0_8z a0_8 a0_9z a0_9 a0_10z a0_10 = (impl_BlockText.b ret k a0_0 a0_1 a0_2 a0_3z a0_3 a0_4z a0_4 a0_5 a0_6 a0_7z a0_7 a0_8z a0_8 a0_9z a0_9 a0_10z a0_10).map e := by
  unfold impl_BlockText.b
  repeat' first | with_reducible refine nat_cond ?_ ?_ | with_reducible refine nat_bind fun _ => ?_ | rfl
theorem impl_BlockText.eq (k : Nat) (a0_0 : Int) (a0_1 : Int) (a0_2 : Int) (a0_3z : Bool) (a0_3 : List Int) (a0_4z : Bool) (a0_4 : List Int) (a0_5 : Int) (a0_6 : Int) (a0_7z : Bool) (a0_7 : List Int) (a0_8z : Bool) (a0_8 : List Int) (a0_9z : Bool) (a0_9 : List T) (a0_10z : Bool) (a0_10 : List T) : answer Tryz.prog impl_BlockText.Cs 100000 impl_BlockText.cuts [] Tryz.f33 (k + 1) [.v (.agg [(.int .i64 a0_0), (.int .i64 a0_1), (.int .i64 a0_2), (.nums 5 .u8 a0_3z a0_3), (.nums 5 .u8 a0_4z a0_4), (.int .i64 a0_5), (.int .i64 a0_6), (.nums 5 .u8 a0_7z a0_7), (.nums 5 .u8 a0_8z a0_8), (.sl 22 a0_9z a0_9), (.sl 22 a0_10z a0_10)])] = (impl_BlockText.f (k + 1) a0_0 a0_1 a0_2 a0_3z a0_3 a0_4z a0_4 a0_5 a0_6 a0_7z a0_7 a0_8z a0_8 a0_9z a0_9 a0_10z a0_10).map impl_BlockText.enc := by
  refine (impl_BlockText.s k a0_0 a0_1 a0_2 a0_3z a0_3 a0_4z a0_4 a0_5 a0_6 a0_7z a0_7 a0_8z a0_8 a0_9z a0_9 a0_10z a0_10).trans (Eq.trans ?_ (impl_BlockText.b_nat impl_BlockText.enc some k a0_0 a0_1 a0_2 a0_3z a0_3 a0_4z a0_4 a0_5 a0_6 a0_7z a0_7 a0_8z a0_8 a0_9z a0_9 a0_10z a0_10))
  simp only [Option.map_some]
theorem impl_BlockText.sound (k : Nat) : SoundF Tryz.prog 33 (fun a => (impl_BlockText.ans k a).val) := by
  refine sound_plain (fun args res h => ?_) (fun t n => rfl)
  unfold impl_BlockText.ans at h
  dsimp only at h
  split at h
  · cases k with
    | zero => cases h
    | succ k =>
      unfold Ans.val at h
      rw [← impl_BlockText.eq] at h
      exact answer_sound mixed Tryz.func33 _ _ _ (k + 1) (fun j _ => tab_sound (tab_cons (impl_NumText.sound j) (tab_cons (impl_HeadText.sound j) (tab_nil)))) _ _ h
  · exact (Ans.no_val h).elim

end Go.Proofs.YtjffolalgcmhaaaGreatDoorG
