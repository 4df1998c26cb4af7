/- What the functions compute, printed by a program of this repo; each is shown to be what the machine of values answers. No condition. -/
import Derived.Test.YtadnejogdohfkaaGreatProg
import Derived.KernelRfl
import Derived.Test.YtadnejogdohfkaaGreatGFnExactProofCodeb
namespace Go.Proofs.YtadnejogdohfkaaGreatG
open Go Go.Proofs.YtadnejogdohfkaaGreatRv Go.Proofs
set_option linter.unusedVariables false
set_option linter.unusedSimpArgs false
def spec_HeadHash.b {R : Type} (ret : Bool × List Int → Option R) (k : Nat) (a0_0 a0_1 : Int) (a0_2 a0_3 : Int) (a0_4 a1_0 : Int) (a1_1 a1_2 : Int) (a1_3z : Bool) (a1_3 : List Int) (a1_4z : Bool) (a1_4 : List Int) (a1_5 a1_6 : Int) (a1_7z : Bool) (a1_7 : List Int) (a1_8z : Bool) (a1_8 : List Int) (a1_9z : Bool) (a1_9 : List T) : Option R :=
  (spec_PutHead.f k a0_0 a0_1 a0_2 a0_3 a0_4 false ([72] : List Int) a1_0 a1_1 a1_2 a1_3z a1_3 a1_4z a1_4 a1_5 a1_6 a1_7z a1_7 a1_8z a1_8 a1_9z a1_9).bind fun t0 => cond (!t0.2.2) (ret (true, ([] : List Int))) ((spec_Sha.f k t0.1 t0.2.1).bind fun t1 => ret (t1.1, t1.2))
def spec_HeadHash.f : Nat → Int → Int → Int → Int → Int → Int → Int → Int → Bool → (List Int) → Bool → (List Int) → Int → Int → Bool → (List Int) → Bool → (List Int) → Bool → (List T) → Option (Bool × List Int)
  | 0, _, _, _, _, _, _, _, _, _, _, _, _, _, _, _, _, _, _, _, _ => none
  | k + 1, a0_0, a0_1, a0_2, a0_3, a0_4, a1_0, a1_1, a1_2, a1_3z, a1_3, a1_4z, a1_4, a1_5, a1_6, a1_7z, a1_7, a1_8z, a1_8, a1_9z, a1_9 => spec_HeadHash.b some k a0_0 a0_1 a0_2 a0_3 a0_4 a1_0 a1_1 a1_2 a1_3z a1_3 a1_4z a1_4 a1_5 a1_6 a1_7z a1_7 a1_8z a1_8 a1_9z a1_9
def spec_HeadHash.enc (r : Bool × List Int) : Res := ⟨[.vals false [((.nums 5 .u8 r.1 r.2), true)]], []⟩
def spec_HeadHash.ans (k : Nat) : List Arg → Ans
  | [.v (.agg [(.int .i64 a0_0), (.int .i64 a0_1), (.int .i64 a0_2), (.int .i64 a0_3), (.int .i64 a0_4)]), .v (.agg [(.int .i64 a1_0), (.int .i64 a1_1), (.int .i64 a1_2), (.nums 5 .u8 a1_3z a1_3), (.nums 5 .u8 a1_4z a1_4), (.int .i64 a1_5), (.int .i64 a1_6), (.nums 5 .u8 a1_7z a1_7), (.nums 5 .u8 a1_8z a1_8), (.sl 28 a1_9z a1_9)])] => ⟨spec_HeadHash.f k a0_0 a0_1 a0_2 a0_3 a0_4 a1_0 a1_1 a1_2 a1_3z a1_3 a1_4z a1_4 a1_5 a1_6 a1_7z a1_7 a1_8z a1_8 a1_9z a1_9, spec_HeadHash.enc⟩
  | _ => Ans.no
def spec_HeadHash.Cs (k : Nat) : CallSem := tab [(45, spec_PutHead.ans k), (46, spec_Sha.ans k)]
theorem spec_HeadHash.eq (k : Nat) (a0_0 a0_1 : Int) (a0_2 a0_3 : Int) (a0_4 a1_0 : Int) (a1_1 a1_2 : Int) (a1_3z : Bool) (a1_3 : List Int) (a1_4z : Bool) (a1_4 : List Int) (a1_5 a1_6 : Int) (a1_7z : Bool) (a1_7 : List Int) (a1_8z : Bool) (a1_8 : List Int) (a1_9z : Bool) (a1_9 : List T) : answer Tryz.prog spec_HeadHash.Cs 100000 [] [] Tryz.f20 (k + 1) [.v (.agg [(.int .i64 a0_0), (.int .i64 a0_1), (.int .i64 a0_2), (.int .i64 a0_3), (.int .i64 a0_4)]), .v (.agg [(.int .i64 a1_0), (.int .i64 a1_1), (.int .i64 a1_2), (.nums 5 .u8 a1_3z a1_3), (.nums 5 .u8 a1_4z a1_4), (.int .i64 a1_5), (.int .i64 a1_6), (.nums 5 .u8 a1_7z a1_7), (.nums 5 .u8 a1_8z a1_8), (.sl 28 a1_9z a1_9)])] = (spec_HeadHash.f (k + 1) a0_0 a0_1 a0_2 a0_3 a0_4 a1_0 a1_1 a1_2 a1_3z a1_3 a1_4z a1_4 a1_5 a1_6 a1_7z a1_7 a1_8z a1_8 a1_9z a1_9).map spec_HeadHash.enc := by
  refine Eq.trans (b := spec_HeadHash.b (fun r => some (spec_HeadHash.enc r)) k a0_0 a0_1 a0_2 a0_3 a0_4 a1_0 a1_1 a1_2 a1_3z a1_3 a1_4z a1_4 a1_5 a1_6 a1_7z a1_7 a1_8z a1_8 a1_9z a1_9) (by kernel_rfl) ?_
  show _ = (spec_HeadHash.b some k a0_0 a0_1 a0_2 a0_3 a0_4 a1_0 a1_1 a1_2 a1_3z a1_3 a1_4z a1_4 a1_5 a1_6 a1_7z a1_7 a1_8z a1_8 a1_9z a1_9).map spec_HeadHash.enc
  unfold spec_HeadHash.b
  repeat' first | with_reducible refine nat_cond ?_ ?_ | with_reducible refine nat_bind fun _ => ?_ | rfl
theorem spec_HeadHash.sound (k : Nat) : SoundF Tryz.prog 20 (fun a => (spec_HeadHash.ans k a).val) := by
  refine sound_plain (fun args res h => ?_) (fun t n => rfl)
  unfold spec_HeadHash.ans at h
  dsimp only at h
  split at h
  · cases k with
    | zero => cases h
    | succ k =>
      unfold Ans.val at h
      rw [← spec_HeadHash.eq] at h
      exact answer_sound mixed Tryz.func20 _ _ _ (k + 1) (fun j _ => tab_sound (tab_cons (spec_PutHead.sound j) (tab_cons (spec_Sha.sound j) (tab_nil)))) _ _ h
  · exact (Ans.no_val h).elim

def spec_Links.b {R : Type} (ret : Bool → Option R) (k : Nat) (a0_0 a0_1 : Int) (a0_2 a0_3 : Int) (a0_4 a1_0 : Int) (a1_1 a1_2 : Int) (a1_3z : Bool) (a1_3 : List Int) (a1_4z : Bool) (a1_4 : List Int) (a1_5 a1_6 : Int) (a1_7z : Bool) (a1_7 : List Int) (a1_8z : Bool) (a1_8 : List Int) (a1_9z : Bool) (a1_9 : List T) (a2_0 a2_1 a2_2 : Int) (a2_3z : Bool) (a2_3 : List Int) (a2_4z : Bool) (a2_4 : List Int) (a2_5 a2_6 : Int) (a2_7z : Bool) (a2_7 : List Int) (a2_8z : Bool) (a2_8 : List Int) (a2_9z : Bool) (a2_9 : List T) : Option R :=
  (spec_HeadOk.f k a0_0 a0_1 a0_2 a0_3 a0_4 a1_0 a1_1 a1_2 a1_3z a1_3 a1_4z a1_4 a1_5 a1_6 a1_7z a1_7 a1_8z a1_8 a1_9z a1_9).bind fun t0 => cond t0 ((spec_HeadOk.f k a0_0 a0_1 a0_2 a0_3 a0_4 a2_0 a2_1 a2_2 a2_3z a2_3 a2_4z a2_4 a2_5 a2_6 a2_7z a2_7 a2_8z a2_8 a2_9z a2_9).bind fun t1 => cond t1 ((spec_HeadHash.f k a0_0 a0_1 a0_2 a0_3 a0_4 a1_0 a1_1 a1_2 a1_3z a1_3 a1_4z a1_4 a1_5 a1_6 a1_7z a1_7 a1_8z a1_8 a1_9z a1_9).bind fun t2 => (spec_SameBytes.f k a2_3z a2_3 t2.1 t2.2).bind fun t3 => cond t3 (cond (decide (a2_5 = a1_0)) (ret (decide (a2_6 = a1_1))) (ret false)) (ret false)) (ret false)) (ret false)
def spec_Links.f : Nat → Int → Int → Int → Int → Int → Int → Int → Int → Bool → (List Int) → Bool → (List Int) → Int → Int → Bool → (List Int) → Bool → (List Int) → Bool → (List T) → Int → Int → Int → Bool → (List Int) → Bool → (List Int) → Int → Int → Bool → (List Int) → Bool → (List Int) → Bool → (List T) → Option Bool
  | 0, _, _, _, _, _, _, _, _, _, _, _, _, _, _, _, _, _, _, _, _, _, _, _, _, _, _, _, _, _, _, _, _, _, _, _ => none
  | k + 1, a0_0, a0_1, a0_2, a0_3, a0_4, a1_0, a1_1, a1_2, a1_3z, a1_3, a1_4z, a1_4, a1_5, a1_6, a1_7z, a1_7, a1_8z, a1_8, a1_9z, a1_9, a2_0, a2_1, a2_2, a2_3z, a2_3, a2_4z, a2_4, a2_5, a2_6, a2_7z, a2_7, a2_8z, a2_8, a2_9z, a2_9 => spec_Links.b some k a0_0 a0_1 a0_2 a0_3 a0_4 a1_0 a1_1 a1_2 a1_3z a1_3 a1_4z a1_4 a1_5 a1_6 a1_7z a1_7 a1_8z a1_8 a1_9z a1_9 a2_0 a2_1 a2_2 a2_3z a2_3 a2_4z a2_4 a2_5 a2_6 a2_7z a2_7 a2_8z a2_8 a2_9z a2_9
def spec_Links.enc (r : Bool) : Res := ⟨[.vals false [((.bool r), true)]], []⟩
def spec_Links.ans (k : Nat) : List Arg → Ans
  | [.v (.agg [(.int .i64 a0_0), (.int .i64 a0_1), (.int .i64 a0_2), (.int .i64 a0_3), (.int .i64 a0_4)]), .v (.agg [(.int .i64 a1_0), (.int .i64 a1_1), (.int .i64 a1_2), (.nums 5 .u8 a1_3z a1_3), (.nums 5 .u8 a1_4z a1_4), (.int .i64 a1_5), (.int .i64 a1_6), (.nums 5 .u8 a1_7z a1_7), (.nums 5 .u8 a1_8z a1_8), (.sl 28 a1_9z a1_9)]), .v (.agg [(.int .i64 a2_0), (.int .i64 a2_1), (.int .i64 a2_2), (.nums 5 .u8 a2_3z a2_3), (.nums 5 .u8 a2_4z a2_4), (.int .i64 a2_5), (.int .i64 a2_6), (.nums 5 .u8 a2_7z a2_7), (.nums 5 .u8 a2_8z a2_8), (.sl 28 a2_9z a2_9)])] => ⟨spec_Links.f k a0_0 a0_1 a0_2 a0_3 a0_4 a1_0 a1_1 a1_2 a1_3z a1_3 a1_4z a1_4 a1_5 a1_6 a1_7z a1_7 a1_8z a1_8 a1_9z a1_9 a2_0 a2_1 a2_2 a2_3z a2_3 a2_4z a2_4 a2_5 a2_6 a2_7z a2_7 a2_8z a2_8 a2_9z a2_9, spec_Links.enc⟩
  | _ => Ans.no
def spec_Links.Cs (k : Nat) : CallSem := tab [(41, spec_HeadOk.ans k), (19, spec_SameBytes.ans k), (20, spec_HeadHash.ans k)]
theorem spec_Links.eq (k : Nat) (a0_0 a0_1 : Int) (a0_2 a0_3 : Int) (a0_4 a1_0 : Int) (a1_1 a1_2 : Int) (a1_3z : Bool) (a1_3 : List Int) (a1_4z : Bool) (a1_4 : List Int) (a1_5 a1_6 : Int) (a1_7z : Bool) (a1_7 : List Int) (a1_8z : Bool) (a1_8 : List Int) (a1_9z : Bool) (a1_9 : List T) (a2_0 a2_1 a2_2 : Int) (a2_3z : Bool) (a2_3 : List Int) (a2_4z : Bool) (a2_4 : List Int) (a2_5 a2_6 : Int) (a2_7z : Bool) (a2_7 : List Int) (a2_8z : Bool) (a2_8 : List Int) (a2_9z : Bool) (a2_9 : List T) : answer Tryz.prog spec_Links.Cs 100000 [] [] Tryz.f44 (k + 1) [.v (.agg [(.int .i64 a0_0), (.int .i64 a0_1), (.int .i64 a0_2), (.int .i64 a0_3), (.int .i64 a0_4)]), .v (.agg [(.int .i64 a1_0), (.int .i64 a1_1), (.int .i64 a1_2), (.nums 5 .u8 a1_3z a1_3), (.nums 5 .u8 a1_4z a1_4), (.int .i64 a1_5), (.int .i64 a1_6), (.nums 5 .u8 a1_7z a1_7), (.nums 5 .u8 a1_8z a1_8), (.sl 28 a1_9z a1_9)]), .v (.agg [(.int .i64 a2_0), (.int .i64 a2_1), (.int .i64 a2_2), (.nums 5 .u8 a2_3z a2_3), (.nums 5 .u8 a2_4z a2_4), (.int .i64 a2_5), (.int .i64 a2_6), (.nums 5 .u8 a2_7z a2_7), (.nums 5 .u8 a2_8z a2_8), (.sl 28 a2_9z a2_9)])] = (spec_Links.f (k + 1) a0_0 a0_1 a0_2 a0_3 a0_4 a1_0 a1_1 a1_2 a1_3z a1_3 a1_4z a1_4 a1_5 a1_6 a1_7z a1_7 a1_8z a1_8 a1_9z a1_9 a2_0 a2_1 a2_2 a2_3z a2_3 a2_4z a2_4 a2_5 a2_6 a2_7z a2_7 a2_8z a2_8 a2_9z a2_9).map spec_Links.enc := by
  refine Eq.trans (b := spec_Links.b (fun r => some (spec_Links.enc r)) k a0_0 a0_1 a0_2 a0_3 a0_4 a1_0 a1_1 a1_2 a1_3z a1_3 a1_4z a1_4 a1_5 a1_6 a1_7z a1_7 a1_8z a1_8 a1_9z a1_9 a2_0 a2_1 a2_2 a2_3z a2_3 a2_4z a2_4 a2_5 a2_6 a2_7z a2_7 a2_8z a2_8 a2_9z a2_9) (by kernel_rfl) ?_
  show _ = (spec_Links.b some k a0_0 a0_1 a0_2 a0_3 a0_4 a1_0 a1_1 a1_2 a1_3z a1_3 a1_4z a1_4 a1_5 a1_6 a1_7z a1_7 a1_8z a1_8 a1_9z a1_9 a2_0 a2_1 a2_2 a2_3z a2_3 a2_4z a2_4 a2_5 a2_6 a2_7z a2_7 a2_8z a2_8 a2_9z a2_9).map spec_Links.enc
  unfold spec_Links.b
  repeat' first | with_reducible refine nat_cond ?_ ?_ | with_reducible refine nat_bind fun _ => ?_ | rfl
theorem spec_Links.sound (k : Nat) : SoundF Tryz.prog 44 (fun a => (spec_Links.ans k a).val) := by
  refine sound_plain (fun args res h => ?_) (fun t n => rfl)
  unfold spec_Links.ans at h
  dsimp only at h
  split at h
  · cases k with
    | zero => cases h
    | succ k =>
      unfold Ans.val at h
      rw [← spec_Links.eq] at h
      exact answer_sound mixed Tryz.func44 _ _ _ (k + 1) (fun j _ => tab_sound (tab_cons (spec_HeadOk.sound j) (tab_cons (spec_SameBytes.sound j) (tab_cons (spec_HeadHash.sound j) (tab_nil))))) _ _ h
  · exact (Ans.no_val h).elim

def spec_ChainCode.b {R : Type} (ret : Int → Option R) (j0 : Bool → (List T) → Bool → (List T) → Int → Int → Int → Int → Int → Int → Int → Option R) (j1 : Bool → (List T) → Int → Int → Int → Int → Int → Int → Option R) (k : Nat) (a0_0 a0_1 : Int) (a0_2 a0_3 a0_4 : Int) (a1z : Bool) (a1 : List T) : Option R :=
  j0 a1z a1 a1z a1 ((a1).length : Int) 0 a0_0 a0_1 a0_2 a0_3 a0_4
def spec_ChainCode.l0b {R : Type} (ret : Int → Option R) (j0 : Bool → (List T) → Bool → (List T) → Int → Int → Int → Int → Int → Int → Int → Option R) (j1 : Bool → (List T) → Int → Int → Int → Int → Int → Int → Option R) (k : Nat) (x1z : Bool) (x1 : List T) (x8z : Bool) (x8 : List T) (x9 x10 : Int) (c2_0 c2_1 : Int) (c2_2 c2_3 c2_4 : Int) : Option R :=
  cond (decide (x10 < x9)) (cond (decide ((0 : Int) ≤ x10)) (cond (decide (x10 < ((x8).length : Int))) ((spec_HeadOk.f k c2_0 c2_1 c2_2 c2_3 c2_4 (((((x8).getD (x10).toNat .bad).cells.getD 0 .bad)).toInt) (((((x8).getD (x10).toNat .bad).cells.getD 1 .bad)).toInt) (((((x8).getD (x10).toNat .bad).cells.getD 2 .bad)).toInt) (((((x8).getD (x10).toNat .bad).cells.getD 3 .bad)).isNil) (((((x8).getD (x10).toNat .bad).cells.getD 3 .bad)).toNums) (((((x8).getD (x10).toNat .bad).cells.getD 4 .bad)).isNil) (((((x8).getD (x10).toNat .bad).cells.getD 4 .bad)).toNums) (((((x8).getD (x10).toNat .bad).cells.getD 5 .bad)).toInt) (((((x8).getD (x10).toNat .bad).cells.getD 6 .bad)).toInt) (((((x8).getD (x10).toNat .bad).cells.getD 7 .bad)).isNil) (((((x8).getD (x10).toNat .bad).cells.getD 7 .bad)).toNums) (((((x8).getD (x10).toNat .bad).cells.getD 8 .bad)).isNil) (((((x8).getD (x10).toNat .bad).cells.getD 8 .bad)).toNums) (((((x8).getD (x10).toNat .bad).cells.getD 9 .bad)).isNil) (((((x8).getD (x10).toNat .bad).cells.getD 9 .bad)).toList)).bind fun t0 => cond (!t0) (ret 1) (j0 x1z x1 x8z x8 x9 (RowKit.wrap64 (x10 + 1)) c2_0 c2_1 c2_2 c2_3 c2_4)) (none)) (none)) (cond (decide (((x1).length : Int) = 0)) (ret 1) (j1 x1z x1 1 c2_0 c2_1 c2_2 c2_3 c2_4))
def spec_ChainCode.l1b {R : Type} (ret : Int → Option R) (j0 : Bool → (List T) → Bool → (List T) → Int → Int → Int → Int → Int → Int → Int → Option R) (j1 : Bool → (List T) → Int → Int → Int → Int → Int → Int → Option R) (k : Nat) (x1z : Bool) (x1 : List T) (x7 c2_0 : Int) (c2_1 c2_2 : Int) (c2_3 c2_4 : Int) : Option R :=
  cond (decide (x7 < ((x1).length : Int))) (cond (decide ((0 : Int) ≤ (RowKit.wrap64 (x7 - 1)))) (cond (decide ((RowKit.wrap64 (x7 - 1)) < ((x1).length : Int))) (cond (decide ((0 : Int) ≤ x7)) (cond (decide (x7 < ((x1).length : Int))) ((spec_Links.f k c2_0 c2_1 c2_2 c2_3 c2_4 (((((x1).getD ((RowKit.wrap64 (x7 - 1))).toNat .bad).cells.getD 0 .bad)).toInt) (((((x1).getD ((RowKit.wrap64 (x7 - 1))).toNat .bad).cells.getD 1 .bad)).toInt) (((((x1).getD ((RowKit.wrap64 (x7 - 1))).toNat .bad).cells.getD 2 .bad)).toInt) (((((x1).getD ((RowKit.wrap64 (x7 - 1))).toNat .bad).cells.getD 3 .bad)).isNil) (((((x1).getD ((RowKit.wrap64 (x7 - 1))).toNat .bad).cells.getD 3 .bad)).toNums) (((((x1).getD ((RowKit.wrap64 (x7 - 1))).toNat .bad).cells.getD 4 .bad)).isNil) (((((x1).getD ((RowKit.wrap64 (x7 - 1))).toNat .bad).cells.getD 4 .bad)).toNums) (((((x1).getD ((RowKit.wrap64 (x7 - 1))).toNat .bad).cells.getD 5 .bad)).toInt) (((((x1).getD ((RowKit.wrap64 (x7 - 1))).toNat .bad).cells.getD 6 .bad)).toInt) (((((x1).getD ((RowKit.wrap64 (x7 - 1))).toNat .bad).cells.getD 7 .bad)).isNil) (((((x1).getD ((RowKit.wrap64 (x7 - 1))).toNat .bad).cells.getD 7 .bad)).toNums) (((((x1).getD ((RowKit.wrap64 (x7 - 1))).toNat .bad).cells.getD 8 .bad)).isNil) (((((x1).getD ((RowKit.wrap64 (x7 - 1))).toNat .bad).cells.getD 8 .bad)).toNums) (((((x1).getD ((RowKit.wrap64 (x7 - 1))).toNat .bad).cells.getD 9 .bad)).isNil) (((((x1).getD ((RowKit.wrap64 (x7 - 1))).toNat .bad).cells.getD 9 .bad)).toList) (((((x1).getD (x7).toNat .bad).cells.getD 0 .bad)).toInt) (((((x1).getD (x7).toNat .bad).cells.getD 1 .bad)).toInt) (((((x1).getD (x7).toNat .bad).cells.getD 2 .bad)).toInt) (((((x1).getD (x7).toNat .bad).cells.getD 3 .bad)).isNil) (((((x1).getD (x7).toNat .bad).cells.getD 3 .bad)).toNums) (((((x1).getD (x7).toNat .bad).cells.getD 4 .bad)).isNil) (((((x1).getD (x7).toNat .bad).cells.getD 4 .bad)).toNums) (((((x1).getD (x7).toNat .bad).cells.getD 5 .bad)).toInt) (((((x1).getD (x7).toNat .bad).cells.getD 6 .bad)).toInt) (((((x1).getD (x7).toNat .bad).cells.getD 7 .bad)).isNil) (((((x1).getD (x7).toNat .bad).cells.getD 7 .bad)).toNums) (((((x1).getD (x7).toNat .bad).cells.getD 8 .bad)).isNil) (((((x1).getD (x7).toNat .bad).cells.getD 8 .bad)).toNums) (((((x1).getD (x7).toNat .bad).cells.getD 9 .bad)).isNil) (((((x1).getD (x7).toNat .bad).cells.getD 9 .bad)).toList)).bind fun t0 => cond (!t0) (ret 4) (j1 x1z x1 (RowKit.wrap64 (x7 + 1)) c2_0 c2_1 c2_2 c2_3 c2_4)) (none)) (none)) (none)) (none)) (ret 0)
mutual
def spec_ChainCode.l0 : Nat → Bool → (List T) → Bool → (List T) → Int → Int → Int → Int → Int → Int → Int → Option Int
  | 0, _, _, _, _, _, _, _, _, _, _, _ => none
  | k + 1, x1z, x1, x8z, x8, x9, x10, c2_0, c2_1, c2_2, c2_3, c2_4 => spec_ChainCode.l0b some (spec_ChainCode.l0 k) (spec_ChainCode.l1 k) k x1z x1 x8z x8 x9 x10 c2_0 c2_1 c2_2 c2_3 c2_4
def spec_ChainCode.l1 : Nat → Bool → (List T) → Int → Int → Int → Int → Int → Int → Option Int
  | 0, _, _, _, _, _, _, _, _ => none
  | k + 1, x1z, x1, x7, c2_0, c2_1, c2_2, c2_3, c2_4 => spec_ChainCode.l1b some (spec_ChainCode.l0 k) (spec_ChainCode.l1 k) k x1z x1 x7 c2_0 c2_1 c2_2 c2_3 c2_4
end
def spec_ChainCode.f : Nat → Int → Int → Int → Int → Int → Bool → (List T) → Option Int
  | 0, _, _, _, _, _, _, _ => none
  | k + 1, a0_0, a0_1, a0_2, a0_3, a0_4, a1z, a1 => spec_ChainCode.b some (spec_ChainCode.l0 k) (spec_ChainCode.l1 k) k a0_0 a0_1 a0_2 a0_3 a0_4 a1z a1
def spec_ChainCode.enc (r : Int) : Res := ⟨[.vals false [((.int .i64 r), true)]], []⟩
def spec_ChainCode.ans (k : Nat) : List Arg → Ans
  | [.v (.agg [(.int .i64 a0_0), (.int .i64 a0_1), (.int .i64 a0_2), (.int .i64 a0_3), (.int .i64 a0_4)]), .v (.sl 60 a1z a1)] => ⟨spec_ChainCode.f k a0_0 a0_1 a0_2 a0_3 a0_4 a1z a1, spec_ChainCode.enc⟩
  | _ => Ans.no
def spec_ChainCode.Cs (k : Nat) : CallSem := tab [(41, spec_HeadOk.ans k), (44, spec_Links.ans k)]
def spec_ChainCode.cuts : List (Nat × Keep) := [(26, ⟨[(1, some []), (2, some []), (8, some []), (9, some []), (10, some [])], [(2, [some [], some [], some [], some [], some []])]⟩), (122, ⟨[(1, some []), (2, some []), (7, some [])], [(2, [some [], some [], some [], some [], some []])]⟩)]
noncomputable def spec_ChainCode.K0 : List Fr := framesAt [true, false, true, false] (bodyOf Tryz.f18 spec_ChainCode.cuts) []
def spec_ChainCode.N0 (x1z : Bool) (x1 : List T) (x8z : Bool) (x8 : List T) (x9 x10 : Int) (c2_0 c2_1 : Int) (c2_2 c2_3 c2_4 : Int) : St := stOf 40 40 2 [(1, .val ⟨(.sl 60 x1z x1), [], false, none⟩), (2, .bp 2 0), (8, .val ⟨(.sl 60 x8z x8), [], false, none⟩), (9, .val (V.s (.int .i64 x9))), (10, .val (V.s (.int .i64 x10)))] [(2, .cells [V.s (.int .i64 c2_0), V.s (.int .i64 c2_1), V.s (.int .i64 c2_2), V.s (.int .i64 c2_3), V.s (.int .i64 c2_4)])]
noncomputable def spec_ChainCode.K1 : List Fr := framesAt [true, true, true, false, true, false] (bodyOf Tryz.f18 spec_ChainCode.cuts) []
def spec_ChainCode.N1 (x1z : Bool) (x1 : List T) (x7 c2_0 : Int) (c2_1 c2_2 : Int) (c2_3 c2_4 : Int) : St := stOf 40 40 2 [(1, .val ⟨(.sl 60 x1z x1), [], false, none⟩), (2, .bp 2 0), (7, .val (V.s (.int .i64 x7)))] [(2, .cells [V.s (.int .i64 c2_0), V.s (.int .i64 c2_1), V.s (.int .i64 c2_2), V.s (.int .i64 c2_3), V.s (.int .i64 c2_4)])]
theorem spec_ChainCode.s0 (k : Nat) (G : List Fr → St → Option Res) (a0_0 a0_1 : Int) (a0_2 a0_3 a0_4 : Int) (a1z : Bool) (a1 : List T) (yx1z : Bool) (yx1 : List T) (yx8z : Bool) (yx8 : List T) (yx9 yx10 : Int) (yc2_0 yc2_1 : Int) (yc2_2 yc2_3 yc2_4 : Int) : resume Tryz.prog (spec_ChainCode.Cs k) G (finish Tryz.prog [] Tryz.f18 [.v (.agg [(.int .i64 a0_0), (.int .i64 a0_1), (.int .i64 a0_2), (.int .i64 a0_3), (.int .i64 a0_4)]), .v (.sl 60 a1z a1)]) 100000 spec_ChainCode.K0 (spec_ChainCode.N0 yx1z yx1 yx8z yx8 yx9 yx10 yc2_0 yc2_1 yc2_2 yc2_3 yc2_4) = spec_ChainCode.l0b (fun r => some (spec_ChainCode.enc r)) (fun x1z x1 x8z x8 x9 x10 c2_0 c2_1 c2_2 c2_3 c2_4 => G spec_ChainCode.K0 (spec_ChainCode.N0 x1z x1 x8z x8 x9 x10 c2_0 c2_1 c2_2 c2_3 c2_4)) (fun x1z x1 x7 c2_0 c2_1 c2_2 c2_3 c2_4 => G spec_ChainCode.K1 (spec_ChainCode.N1 x1z x1 x7 c2_0 c2_1 c2_2 c2_3 c2_4)) k yx1z yx1 yx8z yx8 yx9 yx10 yc2_0 yc2_1 yc2_2 yc2_3 yc2_4 := by kernel_rfl
theorem spec_ChainCode.s1 (k : Nat) (G : List Fr → St → Option Res) (a0_0 a0_1 : Int) (a0_2 a0_3 a0_4 : Int) (a1z : Bool) (a1 : List T) (yx1z : Bool) (yx1 : List T) (yx7 yc2_0 : Int) (yc2_1 yc2_2 : Int) (yc2_3 yc2_4 : Int) : resume Tryz.prog (spec_ChainCode.Cs k) G (finish Tryz.prog [] Tryz.f18 [.v (.agg [(.int .i64 a0_0), (.int .i64 a0_1), (.int .i64 a0_2), (.int .i64 a0_3), (.int .i64 a0_4)]), .v (.sl 60 a1z a1)]) 100000 spec_ChainCode.K1 (spec_ChainCode.N1 yx1z yx1 yx7 yc2_0 yc2_1 yc2_2 yc2_3 yc2_4) = spec_ChainCode.l1b (fun r => some (spec_ChainCode.enc r)) (fun x1z x1 x8z x8 x9 x10 c2_0 c2_1 c2_2 c2_3 c2_4 => G spec_ChainCode.K0 (spec_ChainCode.N0 x1z x1 x8z x8 x9 x10 c2_0 c2_1 c2_2 c2_3 c2_4)) (fun x1z x1 x7 c2_0 c2_1 c2_2 c2_3 c2_4 => G spec_ChainCode.K1 (spec_ChainCode.N1 x1z x1 x7 c2_0 c2_1 c2_2 c2_3 c2_4)) k yx1z yx1 yx7 yc2_0 yc2_1 yc2_2 yc2_3 yc2_4 := by kernel_rfl
theorem spec_ChainCode.bn {R R' : Type} (e : R → R') (ret : Int → Option R) (j0 : Bool → (List T) → Bool → (List T) → Int → Int → Int → Int → Int → Int → Int → Option R) (j1 : Bool → (List T) → Int → Int → Int → Int → Int → Int → Option R) (k : Nat) (a0_0 a0_1 : Int) (a0_2 a0_3 a0_4 : Int) (a1z : Bool) (a1 : List T) : spec_ChainCode.b (fun r => (ret r).map e) (fun x1z x1 x8z x8 x9 x10 c2_0 c2_1 c2_2 c2_3 c2_4 => (j0 x1z x1 x8z x8 x9 x10 c2_0 c2_1 c2_2 c2_3 c2_4).map e) (fun x1z x1 x7 c2_0 c2_1 c2_2 c2_3 c2_4 => (j1 x1z x1 x7 c2_0 c2_1 c2_2 c2_3 c2_4).map e) k a0_0 a0_1 a0_2 a0_3 a0_4 a1z a1 = (spec_ChainCode.b ret j0 j1 k a0_0 a0_1 a0_2 a0_3 a0_4 a1z a1).map e := by
  unfold spec_ChainCode.b
  repeat' first | with_reducible refine nat_cond ?_ ?_ | with_reducible refine nat_bind fun _ => ?_ | rfl
theorem spec_ChainCode.l0n {R R' : Type} (e : R → R') (ret : Int → Option R) (j0 : Bool → (List T) → Bool → (List T) → Int → Int → Int → Int → Int → Int → Int → Option R) (j1 : Bool → (List T) → Int → Int → Int → Int → Int → Int → Option R) (k : Nat) (x1z : Bool) (x1 : List T) (x8z : Bool) (x8 : List T) (x9 x10 : Int) (c2_0 c2_1 : Int) (c2_2 c2_3 c2_4 : Int) : spec_ChainCode.l0b (fun r => (ret r).map e) (fun x1z x1 x8z x8 x9 x10 c2_0 c2_1 c2_2 c2_3 c2_4 => (j0 x1z x1 x8z x8 x9 x10 c2_0 c2_1 c2_2 c2_3 c2_4).map e) (fun x1z x1 x7 c2_0 c2_1 c2_2 c2_3 c2_4 => (j1 x1z x1 x7 c2_0 c2_1 c2_2 c2_3 c2_4).map e) k x1z x1 x8z x8 x9 x10 c2_0 c2_1 c2_2 c2_3 c2_4 = (spec_ChainCode.l0b ret j0 j1 k x1z x1 x8z x8 x9 x10 c2_0 c2_1 c2_2 c2_3 c2_4).map e := by
  unfold spec_ChainCode.l0b
  repeat' first | with_reducible refine nat_cond ?_ ?_ | with_reducible refine nat_bind fun _ => ?_ | rfl
theorem spec_ChainCode.l1n {R R' : Type} (e : R → R') (ret : Int → Option R) (j0 : Bool → (List T) → Bool → (List T) → Int → Int → Int → Int → Int → Int → Int → Option R) (j1 : Bool → (List T) → Int → Int → Int → Int → Int → Int → Option R) (k : Nat) (x1z : Bool) (x1 : List T) (x7 c2_0 : Int) (c2_1 c2_2 : Int) (c2_3 c2_4 : Int) : spec_ChainCode.l1b (fun r => (ret r).map e) (fun x1z x1 x8z x8 x9 x10 c2_0 c2_1 c2_2 c2_3 c2_4 => (j0 x1z x1 x8z x8 x9 x10 c2_0 c2_1 c2_2 c2_3 c2_4).map e) (fun x1z x1 x7 c2_0 c2_1 c2_2 c2_3 c2_4 => (j1 x1z x1 x7 c2_0 c2_1 c2_2 c2_3 c2_4).map e) k x1z x1 x7 c2_0 c2_1 c2_2 c2_3 c2_4 = (spec_ChainCode.l1b ret j0 j1 k x1z x1 x7 c2_0 c2_1 c2_2 c2_3 c2_4).map e := by
  unfold spec_ChainCode.l1b
  repeat' first | with_reducible refine nat_cond ?_ ?_ | with_reducible refine nat_bind fun _ => ?_ | rfl
theorem spec_ChainCode.rq (a0_0 a0_1 : Int) (a0_2 a0_3 a0_4 : Int) (a1z : Bool) (a1 : List T) : ∀ k, (∀ (x1z : Bool) (x1 : List T) (x8z : Bool) (x8 : List T) (x9 x10 : Int) (c2_0 c2_1 : Int) (c2_2 c2_3 c2_4 : Int), rounds Tryz.prog spec_ChainCode.Cs (finish Tryz.prog [] Tryz.f18 [.v (.agg [(.int .i64 a0_0), (.int .i64 a0_1), (.int .i64 a0_2), (.int .i64 a0_3), (.int .i64 a0_4)]), .v (.sl 60 a1z a1)]) 100000 k spec_ChainCode.K0 (spec_ChainCode.N0 x1z x1 x8z x8 x9 x10 c2_0 c2_1 c2_2 c2_3 c2_4) = (spec_ChainCode.l0 k x1z x1 x8z x8 x9 x10 c2_0 c2_1 c2_2 c2_3 c2_4).map spec_ChainCode.enc) ∧ (∀ (x1z : Bool) (x1 : List T) (x7 c2_0 : Int) (c2_1 c2_2 : Int) (c2_3 c2_4 : Int), rounds Tryz.prog spec_ChainCode.Cs (finish Tryz.prog [] Tryz.f18 [.v (.agg [(.int .i64 a0_0), (.int .i64 a0_1), (.int .i64 a0_2), (.int .i64 a0_3), (.int .i64 a0_4)]), .v (.sl 60 a1z a1)]) 100000 k spec_ChainCode.K1 (spec_ChainCode.N1 x1z x1 x7 c2_0 c2_1 c2_2 c2_3 c2_4) = (spec_ChainCode.l1 k x1z x1 x7 c2_0 c2_1 c2_2 c2_3 c2_4).map spec_ChainCode.enc)
  | 0 => ⟨fun _ _ _ _ _ _ _ _ _ _ _ => rfl, fun _ _ _ _ _ _ _ _ => rfl⟩
  | k + 1 => by
    have ih := spec_ChainCode.rq a0_0 a0_1 a0_2 a0_3 a0_4 a1z a1 k
    refine ⟨fun _ _ _ _ _ _ _ _ _ _ _ => ?_, fun _ _ _ _ _ _ _ _ => ?_⟩
    · refine (spec_ChainCode.s0 k _ a0_0 a0_1 a0_2 a0_3 a0_4 a1z a1 _ _ _ _ _ _ _ _ _ _ _).trans (Eq.trans ?_ (spec_ChainCode.l0n spec_ChainCode.enc some (spec_ChainCode.l0 k) (spec_ChainCode.l1 k) k _ _ _ _ _ _ _ _ _ _ _))
      simp only [ih.1, ih.2, Option.map_some]
    · refine (spec_ChainCode.s1 k _ a0_0 a0_1 a0_2 a0_3 a0_4 a1z a1 _ _ _ _ _ _ _ _).trans (Eq.trans ?_ (spec_ChainCode.l1n spec_ChainCode.enc some (spec_ChainCode.l0 k) (spec_ChainCode.l1 k) k _ _ _ _ _ _ _ _))
      simp only [ih.1, ih.2, Option.map_some]
theorem spec_ChainCode.eq (k : Nat) (a0_0 a0_1 : Int) (a0_2 a0_3 a0_4 : Int) (a1z : Bool) (a1 : List T) : answer Tryz.prog spec_ChainCode.Cs 100000 spec_ChainCode.cuts [] Tryz.f18 (k + 1) [.v (.agg [(.int .i64 a0_0), (.int .i64 a0_1), (.int .i64 a0_2), (.int .i64 a0_3), (.int .i64 a0_4)]), .v (.sl 60 a1z a1)] = (spec_ChainCode.f (k + 1) a0_0 a0_1 a0_2 a0_3 a0_4 a1z a1).map spec_ChainCode.enc := by
  have ih := spec_ChainCode.rq a0_0 a0_1 a0_2 a0_3 a0_4 a1z a1 k
  refine Eq.trans (b := spec_ChainCode.b (fun r => some (spec_ChainCode.enc r)) (fun x1z x1 x8z x8 x9 x10 c2_0 c2_1 c2_2 c2_3 c2_4 => rounds Tryz.prog spec_ChainCode.Cs (finish Tryz.prog [] Tryz.f18 [.v (.agg [(.int .i64 a0_0), (.int .i64 a0_1), (.int .i64 a0_2), (.int .i64 a0_3), (.int .i64 a0_4)]), .v (.sl 60 a1z a1)]) 100000 k spec_ChainCode.K0 (spec_ChainCode.N0 x1z x1 x8z x8 x9 x10 c2_0 c2_1 c2_2 c2_3 c2_4)) (fun x1z x1 x7 c2_0 c2_1 c2_2 c2_3 c2_4 => rounds Tryz.prog spec_ChainCode.Cs (finish Tryz.prog [] Tryz.f18 [.v (.agg [(.int .i64 a0_0), (.int .i64 a0_1), (.int .i64 a0_2), (.int .i64 a0_3), (.int .i64 a0_4)]), .v (.sl 60 a1z a1)]) 100000 k spec_ChainCode.K1 (spec_ChainCode.N1 x1z x1 x7 c2_0 c2_1 c2_2 c2_3 c2_4)) k a0_0 a0_1 a0_2 a0_3 a0_4 a1z a1) (by kernel_rfl) (Eq.trans ?_ (spec_ChainCode.bn spec_ChainCode.enc some (spec_ChainCode.l0 k) (spec_ChainCode.l1 k) k a0_0 a0_1 a0_2 a0_3 a0_4 a1z a1))
  simp only [ih.1, ih.2, Option.map_some]
theorem spec_ChainCode.sound (k : Nat) : SoundF Tryz.prog 18 (fun a => (spec_ChainCode.ans k a).val) := by
  refine sound_plain (fun args res h => ?_) (fun t n => rfl)
  unfold spec_ChainCode.ans at h
  dsimp only at h
  split at h
  · cases k with
    | zero => cases h
    | succ k =>
      unfold Ans.val at h
      rw [← spec_ChainCode.eq] at h
      exact answer_sound mixed Tryz.func18 _ _ _ (k + 1) (fun j _ => tab_sound (tab_cons (spec_HeadOk.sound j) (tab_cons (spec_Links.sound j) (tab_nil)))) _ _ h
  · exact (Ans.no_val h).elim

def spec_QcVotes.b {R : Type} (ret : Bool × List T → Option R) (j0 : (List T) → Bool → (List Int) → Int → Int → Int → Int → Bool → (List Int) → Bool → (List Int) → Bool → (List T) → Option R) (k : Nat) (a0_0 a0_1 : Int) (a0_2z : Bool) (a0_2 : List Int) (a0_3z : Bool) (a0_3 : List Int) (a0_4z : Bool) (a0_4 : List T) : Option R :=
  (spec_BitsList.f k a0_3z a0_3).bind fun t0 => cond (!(decide (((t0.2).length : Int) = ((a0_4).length : Int)))) (ret (false, ([] : List T))) (j0 ([] : List T) t0.1 t0.2 ((t0.2).length : Int) 0 a0_0 a0_1 a0_2z a0_2 a0_3z a0_3 a0_4z a0_4)
def spec_QcVotes.l0b {R : Type} (ret : Bool × List T → Option R) (j0 : (List T) → Bool → (List Int) → Int → Int → Int → Int → Bool → (List Int) → Bool → (List Int) → Bool → (List T) → Option R) (k : Nat) (x3 : List T) (x18z : Bool) (x18 : List Int) (x19 x20 : Int) (c1_0 c1_1 : Int) (c1_2z : Bool) (c1_2 : List Int) (c1_3z : Bool) (c1_3 : List Int) (c1_4z : Bool) (c1_4 : List T) : Option R :=
  cond (decide (x20 < x19)) (cond (decide ((0 : Int) ≤ x20)) (cond (decide (x20 < ((x18).length : Int))) ((spec_l01Copy.f k c1_2z c1_2).bind fun t0 => cond (decide ((0 : Int) ≤ x20)) (cond (decide (x20 < ((c1_4).length : Int))) ((spec_l01Copy.f k (((((c1_4).getD (x20).toNat .bad).cells.getD 0 .bad)).isNil) (((((c1_4).getD (x20).toNat .bad).cells.getD 0 .bad)).toNums)).bind fun t1 => cond (decide ((x3).length + 1 < 1954687338268)) (j0 (x3 ++ ([(.agg [(.int .i64 c1_0), (.int .i64 c1_1), (.nums 5 .u8 t0.1 t0.2), (.int .i64 (rdI x18 x20)), (.nums 5 .u8 t1.1 t1.2)])] : List T)) x18z x18 x19 (RowKit.wrap64 (x20 + 1)) c1_0 c1_1 c1_2z c1_2 c1_3z c1_3 c1_4z c1_4) (none)) (none)) (none)) (none)) (none)) (ret (false, x3))
def spec_QcVotes.l0 : Nat → (List T) → Bool → (List Int) → Int → Int → Int → Int → Bool → (List Int) → Bool → (List Int) → Bool → (List T) → Option (Bool × List T)
  | 0, _, _, _, _, _, _, _, _, _, _, _, _, _ => none
  | k + 1, x3, x18z, x18, x19, x20, c1_0, c1_1, c1_2z, c1_2, c1_3z, c1_3, c1_4z, c1_4 => spec_QcVotes.l0b some (spec_QcVotes.l0 k) k x3 x18z x18 x19 x20 c1_0 c1_1 c1_2z c1_2 c1_3z c1_3 c1_4z c1_4
def spec_QcVotes.f : Nat → Int → Int → Bool → (List Int) → Bool → (List Int) → Bool → (List T) → Option (Bool × List T)
  | 0, _, _, _, _, _, _, _, _ => none
  | k + 1, a0_0, a0_1, a0_2z, a0_2, a0_3z, a0_3, a0_4z, a0_4 => spec_QcVotes.b some (spec_QcVotes.l0 k) k a0_0 a0_1 a0_2z a0_2 a0_3z a0_3 a0_4z a0_4
def spec_QcVotes.enc (r : Bool × List T) : Res := ⟨[.vals false [((.sl 89 r.1 r.2), true)]], []⟩
def spec_QcVotes.ans (k : Nat) : List Arg → Ans
  | [.v (.agg [(.int .i64 a0_0), (.int .i64 a0_1), (.nums 5 .u8 a0_2z a0_2), (.nums 5 .u8 a0_3z a0_3), (.sl 28 a0_4z a0_4)])] => ⟨spec_QcVotes.f k a0_0 a0_1 a0_2z a0_2 a0_3z a0_3 a0_4z a0_4, spec_QcVotes.enc⟩
  | _ => Ans.no
def spec_QcVotes.Cs (k : Nat) : CallSem := tab [(82, spec_BitsList.ans k), (83, spec_l01Copy.ans k)]
def spec_QcVotes.cuts : List (Nat × Keep) := [(250, ⟨[(1, some []), (3, none), (18, none), (19, some []), (20, some [])], [(1, [some [], some [], some [], some [], some []])]⟩)]
noncomputable def spec_QcVotes.K0 : List Fr := framesAt [true, true, true, true, false, true, false] (bodyOf Tryz.f47 spec_QcVotes.cuts) []
def spec_QcVotes.N0 (x3 : List T) (x18z : Bool) (x18 : List Int) (x19 x20 : Int) (c1_0 c1_1 : Int) (c1_2z : Bool) (c1_2 : List Int) (c1_3z : Bool) (c1_3 : List Int) (c1_4z : Bool) (c1_4 : List T) : St := stOf 45 45 1 [(1, .bp 1 0), (3, .val ⟨(.sl 89 false x3), [.l 3 0], true, some (.l 3 0)⟩), (18, .val ⟨(.nums 3 .i64 x18z x18), [.l 18 0], true, some (.l 18 0)⟩), (19, .val (V.s (.int .i64 x19))), (20, .val (V.s (.int .i64 x20)))] [(1, .cells [V.s (.int .i64 c1_0), V.s (.int .i64 c1_1), ⟨(.nums 5 .u8 c1_2z c1_2), [], false, none⟩, ⟨(.nums 5 .u8 c1_3z c1_3), [], false, none⟩, ⟨(.sl 28 c1_4z c1_4), [], false, none⟩])]
theorem spec_QcVotes.s0 (k : Nat) (G : List Fr → St → Option Res) (a0_0 a0_1 : Int) (a0_2z : Bool) (a0_2 : List Int) (a0_3z : Bool) (a0_3 : List Int) (a0_4z : Bool) (a0_4 yx3 : List T) (yx18z : Bool) (yx18 : List Int) (yx19 yx20 : Int) (yc1_0 yc1_1 : Int) (yc1_2z : Bool) (yc1_2 : List Int) (yc1_3z : Bool) (yc1_3 : List Int) (yc1_4z : Bool) (yc1_4 : List T) : resume Tryz.prog (spec_QcVotes.Cs k) G (finish Tryz.prog [] Tryz.f47 [.v (.agg [(.int .i64 a0_0), (.int .i64 a0_1), (.nums 5 .u8 a0_2z a0_2), (.nums 5 .u8 a0_3z a0_3), (.sl 28 a0_4z a0_4)])]) 100000 spec_QcVotes.K0 (spec_QcVotes.N0 yx3 yx18z yx18 yx19 yx20 yc1_0 yc1_1 yc1_2z yc1_2 yc1_3z yc1_3 yc1_4z yc1_4) = spec_QcVotes.l0b (fun r => some (spec_QcVotes.enc r)) (fun x3 x18z x18 x19 x20 c1_0 c1_1 c1_2z c1_2 c1_3z c1_3 c1_4z c1_4 => G spec_QcVotes.K0 (spec_QcVotes.N0 x3 x18z x18 x19 x20 c1_0 c1_1 c1_2z c1_2 c1_3z c1_3 c1_4z c1_4)) k yx3 yx18z yx18 yx19 yx20 yc1_0 yc1_1 yc1_2z yc1_2 yc1_3z yc1_3 yc1_4z yc1_4 := by kernel_rfl
theorem spec_QcVotes.bn {R R' : Type} (e : R → R') (ret : Bool × List T → Option R) (j0 : (List T) → Bool → (List Int) → Int → Int → Int → Int → Bool → (List Int) → Bool → (List Int) → Bool → (List T) → Option R) (k : Nat) (a0_0 a0_1 : Int) (a0_2z : Bool) (a0_2 : List Int) (a0_3z : Bool) (a0_3 : List Int) (a0_4z : Bool) (a0_4 : List T) : spec_QcVotes.b (fun r => (ret r).map e) (fun x3 x18z x18 x19 x20 c1_0 c1_1 c1_2z c1_2 c1_3z c1_3 c1_4z c1_4 => (j0 x3 x18z x18 x19 x20 c1_0 c1_1 c1_2z c1_2 c1_3z c1_3 c1_4z c1_4).map e) k a0_0 a0_1 a0_2z a0_2 a0_3z a0_3 a0_4z a0_4 = (spec_QcVotes.b ret j0 k a0_0 a0_1 a0_2z a0_2 a0_3z a0_3 a0_4z a0_4).map e := by
  unfold spec_QcVotes.b
  repeat' first | with_reducible refine nat_cond ?_ ?_ | with_reducible refine nat_bind fun _ => ?_ | rfl
theorem spec_QcVotes.l0n {R R' : Type} (e : R → R') (ret : Bool × List T → Option R) (j0 : (List T) → Bool → (List Int) → Int → Int → Int → Int → Bool → (List Int) → Bool → (List Int) → Bool → (List T) → Option R) (k : Nat) (x3 : List T) (x18z : Bool) (x18 : List Int) (x19 x20 : Int) (c1_0 c1_1 : Int) (c1_2z : Bool) (c1_2 : List Int) (c1_3z : Bool) (c1_3 : List Int) (c1_4z : Bool) (c1_4 : List T) : spec_QcVotes.l0b (fun r => (ret r).map e) (fun x3 x18z x18 x19 x20 c1_0 c1_1 c1_2z c1_2 c1_3z c1_3 c1_4z c1_4 => (j0 x3 x18z x18 x19 x20 c1_0 c1_1 c1_2z c1_2 c1_3z c1_3 c1_4z c1_4).map e) k x3 x18z x18 x19 x20 c1_0 c1_1 c1_2z c1_2 c1_3z c1_3 c1_4z c1_4 = (spec_QcVotes.l0b ret j0 k x3 x18z x18 x19 x20 c1_0 c1_1 c1_2z c1_2 c1_3z c1_3 c1_4z c1_4).map e := by
  unfold spec_QcVotes.l0b
  repeat' first | with_reducible refine nat_cond ?_ ?_ | with_reducible refine nat_bind fun _ => ?_ | rfl
theorem spec_QcVotes.rq (a0_0 a0_1 : Int) (a0_2z : Bool) (a0_2 : List Int) (a0_3z : Bool) (a0_3 : List Int) (a0_4z : Bool) (a0_4 : List T) : ∀ k, (∀ (x3 : List T) (x18z : Bool) (x18 : List Int) (x19 x20 : Int) (c1_0 c1_1 : Int) (c1_2z : Bool) (c1_2 : List Int) (c1_3z : Bool) (c1_3 : List Int) (c1_4z : Bool) (c1_4 : List T), rounds Tryz.prog spec_QcVotes.Cs (finish Tryz.prog [] Tryz.f47 [.v (.agg [(.int .i64 a0_0), (.int .i64 a0_1), (.nums 5 .u8 a0_2z a0_2), (.nums 5 .u8 a0_3z a0_3), (.sl 28 a0_4z a0_4)])]) 100000 k spec_QcVotes.K0 (spec_QcVotes.N0 x3 x18z x18 x19 x20 c1_0 c1_1 c1_2z c1_2 c1_3z c1_3 c1_4z c1_4) = (spec_QcVotes.l0 k x3 x18z x18 x19 x20 c1_0 c1_1 c1_2z c1_2 c1_3z c1_3 c1_4z c1_4).map spec_QcVotes.enc)
  | 0 => fun _ _ _ _ _ _ _ _ _ _ _ _ _ => rfl
  | k + 1 => by
    have ih := spec_QcVotes.rq a0_0 a0_1 a0_2z a0_2 a0_3z a0_3 a0_4z a0_4 k
    refine fun _ _ _ _ _ _ _ _ _ _ _ _ _ => ?_
    · refine (spec_QcVotes.s0 k _ a0_0 a0_1 a0_2z a0_2 a0_3z a0_3 a0_4z a0_4 _ _ _ _ _ _ _ _ _ _ _ _ _).trans (Eq.trans ?_ (spec_QcVotes.l0n spec_QcVotes.enc some (spec_QcVotes.l0 k) k _ _ _ _ _ _ _ _ _ _ _ _ _))
      simp only [ih, Option.map_some]
theorem spec_QcVotes.eq (k : Nat) (a0_0 a0_1 : Int) (a0_2z : Bool) (a0_2 : List Int) (a0_3z : Bool) (a0_3 : List Int) (a0_4z : Bool) (a0_4 : List T) : answer Tryz.prog spec_QcVotes.Cs 100000 spec_QcVotes.cuts [] Tryz.f47 (k + 1) [.v (.agg [(.int .i64 a0_0), (.int .i64 a0_1), (.nums 5 .u8 a0_2z a0_2), (.nums 5 .u8 a0_3z a0_3), (.sl 28 a0_4z a0_4)])] = (spec_QcVotes.f (k + 1) a0_0 a0_1 a0_2z a0_2 a0_3z a0_3 a0_4z a0_4).map spec_QcVotes.enc := by
  have ih := spec_QcVotes.rq a0_0 a0_1 a0_2z a0_2 a0_3z a0_3 a0_4z a0_4 k
  refine Eq.trans (b := spec_QcVotes.b (fun r => some (spec_QcVotes.enc r)) (fun x3 x18z x18 x19 x20 c1_0 c1_1 c1_2z c1_2 c1_3z c1_3 c1_4z c1_4 => rounds Tryz.prog spec_QcVotes.Cs (finish Tryz.prog [] Tryz.f47 [.v (.agg [(.int .i64 a0_0), (.int .i64 a0_1), (.nums 5 .u8 a0_2z a0_2), (.nums 5 .u8 a0_3z a0_3), (.sl 28 a0_4z a0_4)])]) 100000 k spec_QcVotes.K0 (spec_QcVotes.N0 x3 x18z x18 x19 x20 c1_0 c1_1 c1_2z c1_2 c1_3z c1_3 c1_4z c1_4)) k a0_0 a0_1 a0_2z a0_2 a0_3z a0_3 a0_4z a0_4) (by kernel_rfl) (Eq.trans ?_ (spec_QcVotes.bn spec_QcVotes.enc some (spec_QcVotes.l0 k) k a0_0 a0_1 a0_2z a0_2 a0_3z a0_3 a0_4z a0_4))
  simp only [ih, Option.map_some]
theorem spec_QcVotes.sound (k : Nat) : SoundF Tryz.prog 47 (fun a => (spec_QcVotes.ans k a).val) := by
  refine sound_plain (fun args res h => ?_) (fun t n => rfl)
  unfold spec_QcVotes.ans at h
  dsimp only at h
  split at h
  · cases k with
    | zero => cases h
    | succ k =>
      unfold Ans.val at h
      rw [← spec_QcVotes.eq] at h
      exact answer_sound mixed Tryz.func47 _ _ _ (k + 1) (fun j _ => tab_sound (tab_cons (spec_BitsList.sound j) (tab_cons (spec_l01Copy.sound j) (tab_nil)))) _ _ h
  · exact (Ans.no_val h).elim

def spec_VoteBytes.b {R : Type} (ret : Bool × List Int → Option R) (k : Nat) (a0 a1 : Int) (a2z : Bool) (a2 : List Int) : Option R :=
  (spec_l01Num.f k a0).bind fun t0 => cond (!t0) (ret (true, ([] : List Int))) ((spec_l01Num.f k a1).bind fun t1 => cond (!t1) (ret (true, ([] : List Int))) ((spec_l07Hash.f k a2z a2).bind fun t2 => cond (!t2) (ret (true, ([] : List Int))) ((spec_l11Num.f k false ([86] : List Int) a0).bind fun t3 => (spec_l11Num.f k t3.1 t3.2 a1).bind fun t4 => cond (decide ((t4.2).length + (a2).length < 140737488355328)) (ret (((a2).isEmpty && t4.1), (t4.2 ++ a2))) (none))))
def spec_VoteBytes.f : Nat → Int → Int → Bool → (List Int) → Option (Bool × List Int)
  | 0, _, _, _, _ => none
  | k + 1, a0, a1, a2z, a2 => spec_VoteBytes.b some k a0 a1 a2z a2
def spec_VoteBytes.enc (r : Bool × List Int) : Res := ⟨[.vals false [((.nums 5 .u8 r.1 r.2), true)]], []⟩
def spec_VoteBytes.ans (k : Nat) : List Arg → Ans
  | [.v (.int .i64 a0), .v (.int .i64 a1), .v (.nums 5 .u8 a2z a2)] => ⟨spec_VoteBytes.f k a0 a1 a2z a2, spec_VoteBytes.enc⟩
  | _ => Ans.no
def spec_VoteBytes.Cs (k : Nat) : CallSem := tab [(71, spec_l01Num.ans k), (72, spec_l07Hash.ans k), (77, spec_l11Num.ans k)]
theorem spec_VoteBytes.eq (k : Nat) (a0 a1 : Int) (a2z : Bool) (a2 : List Int) : answer Tryz.prog spec_VoteBytes.Cs 100000 [] [] Tryz.f109 (k + 1) [.v (.int .i64 a0), .v (.int .i64 a1), .v (.nums 5 .u8 a2z a2)] = (spec_VoteBytes.f (k + 1) a0 a1 a2z a2).map spec_VoteBytes.enc := by
  refine Eq.trans (b := spec_VoteBytes.b (fun r => some (spec_VoteBytes.enc r)) k a0 a1 a2z a2) (by kernel_rfl) ?_
  show _ = (spec_VoteBytes.b some k a0 a1 a2z a2).map spec_VoteBytes.enc
  unfold spec_VoteBytes.b
  repeat' first | with_reducible refine nat_cond ?_ ?_ | with_reducible refine nat_bind fun _ => ?_ | rfl
theorem spec_VoteBytes.sound (k : Nat) : SoundF Tryz.prog 109 (fun a => (spec_VoteBytes.ans k a).val) := by
  refine sound_plain (fun args res h => ?_) (fun t n => rfl)
  unfold spec_VoteBytes.ans at h
  dsimp only at h
  split at h
  · cases k with
    | zero => cases h
    | succ k =>
      unfold Ans.val at h
      rw [← spec_VoteBytes.eq] at h
      exact answer_sound mixed Tryz.func109 _ _ _ (k + 1) (fun j _ => tab_sound (tab_cons (spec_l01Num.sound j) (tab_cons (spec_l07Hash.sound j) (tab_cons (spec_l11Num.sound j) (tab_nil))))) _ _ h
  · exact (Ans.no_val h).elim

def spec_MacKey.b {R : Type} (ret : Bool × List Int → Option R) (j0 : Bool → (List Int) → Option R) (k : Nat) (a0z : Bool) (a0 : List Int) : Option R :=
  (spec_l01Copy.f k a0z a0).bind fun t0 => cond (decide (((t0.2).length : Int) > 64)) ((spec_Sha.f k t0.1 t0.2).bind fun t1 => j0 t1.1 t1.2) (j0 t0.1 t0.2)
def spec_MacKey.l0b {R : Type} (ret : Bool × List Int → Option R) (j0 : Bool → (List Int) → Option R) (k : Nat) (x3z : Bool) (x3 : List Int) : Option R :=
  cond (decide (((x3).length : Int) < 64)) (cond (decide ((x3).length + 1 < 140737488355328)) (j0 false (x3 ++ ([0] : List Int))) (none)) (ret (x3z, x3))
def spec_MacKey.l0 : Nat → Bool → (List Int) → Option (Bool × List Int)
  | 0, _, _ => none
  | k + 1, x3z, x3 => spec_MacKey.l0b some (spec_MacKey.l0 k) k x3z x3
def spec_MacKey.f : Nat → Bool → (List Int) → Option (Bool × List Int)
  | 0, _, _ => none
  | k + 1, a0z, a0 => spec_MacKey.b some (spec_MacKey.l0 k) k a0z a0
def spec_MacKey.enc (r : Bool × List Int) : Res := ⟨[.vals false [((.nums 5 .u8 r.1 r.2), true)]], []⟩
def spec_MacKey.ans (k : Nat) : List Arg → Ans
  | [.v (.nums 5 .u8 a0z a0)] => ⟨spec_MacKey.f k a0z a0, spec_MacKey.enc⟩
  | _ => Ans.no
def spec_MacKey.Cs (k : Nat) : CallSem := tab [(83, spec_l01Copy.ans k), (46, spec_Sha.ans k)]
def spec_MacKey.cuts : List (Nat × Keep) := [(60, ⟨[(3, none)], []⟩)]
noncomputable def spec_MacKey.K0 : List Fr := framesAt [true, true, true, false, false] (bodyOf Tryz.f123 spec_MacKey.cuts) []
def spec_MacKey.N0 (x3z : Bool) (x3 : List Int) : St := stOf 18 18 1 [(3, .val ⟨(.nums 5 .u8 x3z x3), [.l 3 0], true, some (.l 3 0)⟩)] []
theorem spec_MacKey.s0 (k : Nat) (G : List Fr → St → Option Res) (a0z : Bool) (a0 : List Int) (yx3z : Bool) (yx3 : List Int) : resume Tryz.prog (spec_MacKey.Cs k) G (finish Tryz.prog [] Tryz.f123 [.v (.nums 5 .u8 a0z a0)]) 100000 spec_MacKey.K0 (spec_MacKey.N0 yx3z yx3) = spec_MacKey.l0b (fun r => some (spec_MacKey.enc r)) (fun x3z x3 => G spec_MacKey.K0 (spec_MacKey.N0 x3z x3)) k yx3z yx3 := by kernel_rfl
theorem spec_MacKey.bn {R R' : Type} (e : R → R') (ret : Bool × List Int → Option R) (j0 : Bool → (List Int) → Option R) (k : Nat) (a0z : Bool) (a0 : List Int) : spec_MacKey.b (fun r => (ret r).map e) (fun x3z x3 => (j0 x3z x3).map e) k a0z a0 = (spec_MacKey.b ret j0 k a0z a0).map e := by
  unfold spec_MacKey.b
  repeat' first | with_reducible refine nat_cond ?_ ?_ | with_reducible refine nat_bind fun _ => ?_ | rfl
theorem spec_MacKey.l0n {R R' : Type} (e : R → R') (ret : Bool × List Int → Option R) (j0 : Bool → (List Int) → Option R) (k : Nat) (x3z : Bool) (x3 : List Int) : spec_MacKey.l0b (fun r => (ret r).map e) (fun x3z x3 => (j0 x3z x3).map e) k x3z x3 = (spec_MacKey.l0b ret j0 k x3z x3).map e := by
  unfold spec_MacKey.l0b
  repeat' first | with_reducible refine nat_cond ?_ ?_ | with_reducible refine nat_bind fun _ => ?_ | rfl
theorem spec_MacKey.rq (a0z : Bool) (a0 : List Int) : ∀ k, (∀ (x3z : Bool) (x3 : List Int), rounds Tryz.prog spec_MacKey.Cs (finish Tryz.prog [] Tryz.f123 [.v (.nums 5 .u8 a0z a0)]) 100000 k spec_MacKey.K0 (spec_MacKey.N0 x3z x3) = (spec_MacKey.l0 k x3z x3).map spec_MacKey.enc)
  | 0 => fun _ _ => rfl
  | k + 1 => by
    have ih := spec_MacKey.rq a0z a0 k
    refine fun _ _ => ?_
    · refine (spec_MacKey.s0 k _ a0z a0 _ _).trans (Eq.trans ?_ (spec_MacKey.l0n spec_MacKey.enc some (spec_MacKey.l0 k) k _ _))
      simp only [ih, Option.map_some]
theorem spec_MacKey.eq (k : Nat) (a0z : Bool) (a0 : List Int) : answer Tryz.prog spec_MacKey.Cs 100000 spec_MacKey.cuts [] Tryz.f123 (k + 1) [.v (.nums 5 .u8 a0z a0)] = (spec_MacKey.f (k + 1) a0z a0).map spec_MacKey.enc := by
  have ih := spec_MacKey.rq a0z a0 k
  refine Eq.trans (b := spec_MacKey.b (fun r => some (spec_MacKey.enc r)) (fun x3z x3 => rounds Tryz.prog spec_MacKey.Cs (finish Tryz.prog [] Tryz.f123 [.v (.nums 5 .u8 a0z a0)]) 100000 k spec_MacKey.K0 (spec_MacKey.N0 x3z x3)) k a0z a0) (by kernel_rfl) (Eq.trans ?_ (spec_MacKey.bn spec_MacKey.enc some (spec_MacKey.l0 k) k a0z a0))
  simp only [ih, Option.map_some]
theorem spec_MacKey.sound (k : Nat) : SoundF Tryz.prog 123 (fun a => (spec_MacKey.ans k a).val) := by
  refine sound_plain (fun args res h => ?_) (fun t n => rfl)
  unfold spec_MacKey.ans at h
  dsimp only at h
  split at h
  · cases k with
    | zero => cases h
    | succ k =>
      unfold Ans.val at h
      rw [← spec_MacKey.eq] at h
      exact answer_sound mixed Tryz.func123 _ _ _ (k + 1) (fun j _ => tab_sound (tab_cons (spec_l01Copy.sound j) (tab_cons (spec_Sha.sound j) (tab_nil)))) _ _ h
  · exact (Ans.no_val h).elim

def spec_Mac.b {R : Type} (ret : Bool × List Int → Option R) (j0 : Bool → (List Int) → (List Int) → (List Int) → Bool → (List Int) → Int → Int → Option R) (k : Nat) (a0z : Bool) (a0 : List Int) (a1z : Bool) (a1 : List Int) : Option R :=
  (spec_MacKey.f k a0z a0).bind fun t0 => j0 a1z a1 ([] : List Int) ([] : List Int) t0.1 t0.2 ((t0.2).length : Int) 0
def spec_Mac.l0b {R : Type} (ret : Bool × List Int → Option R) (j0 : Bool → (List Int) → (List Int) → (List Int) → Bool → (List Int) → Int → Int → Option R) (k : Nat) (x1z : Bool) (x1 x5 x6 : List Int) (x12z : Bool) (x12 : List Int) (x13 x14 : Int) : Option R :=
  cond (decide (x14 < x13)) (cond (decide ((0 : Int) ≤ x14)) (cond (decide (x14 < ((x12).length : Int))) (cond (decide ((x5).length + 1 < 140737488355328)) (cond (decide ((x6).length + 1 < 140737488355328)) (j0 x1z x1 (x5 ++ ([(Go.bits .xor .u8 (rdI x12 x14) 54)] : List Int)) (x6 ++ ([(Go.bits .xor .u8 (rdI x12 x14) 92)] : List Int)) x12z x12 x13 (RowKit.wrap64 (x14 + 1))) (none)) (none)) (none)) (none)) (cond (decide ((x5).length + (x1).length < 140737488355328)) ((spec_Sha.f k ((x1).isEmpty && false) (x5 ++ x1)).bind fun t0 => cond (decide ((x6).length + (t0.2).length < 140737488355328)) ((spec_Sha.f k ((t0.2).isEmpty && false) (x6 ++ t0.2)).bind fun t1 => ret (t1.1, t1.2)) (none)) (none))
def spec_Mac.l0 : Nat → Bool → (List Int) → (List Int) → (List Int) → Bool → (List Int) → Int → Int → Option (Bool × List Int)
  | 0, _, _, _, _, _, _, _, _ => none
  | k + 1, x1z, x1, x5, x6, x12z, x12, x13, x14 => spec_Mac.l0b some (spec_Mac.l0 k) k x1z x1 x5 x6 x12z x12 x13 x14
def spec_Mac.f : Nat → Bool → (List Int) → Bool → (List Int) → Option (Bool × List Int)
  | 0, _, _, _, _ => none
  | k + 1, a0z, a0, a1z, a1 => spec_Mac.b some (spec_Mac.l0 k) k a0z a0 a1z a1
def spec_Mac.enc (r : Bool × List Int) : Res := ⟨[.vals false [((.nums 5 .u8 r.1 r.2), true)]], []⟩
def spec_Mac.ans (k : Nat) : List Arg → Ans
  | [.v (.nums 5 .u8 a0z a0), .v (.nums 5 .u8 a1z a1)] => ⟨spec_Mac.f k a0z a0 a1z a1, spec_Mac.enc⟩
  | _ => Ans.no
def spec_Mac.Cs (k : Nat) : CallSem := tab [(46, spec_Sha.ans k), (123, spec_MacKey.ans k)]
def spec_Mac.cuts : List (Nat × Keep) := [(122, ⟨[(1, some []), (5, none), (6, none), (12, none), (13, some []), (14, some [])], []⟩)]
noncomputable def spec_Mac.K0 : List Fr := framesAt [true, true, true, false, true, false] (bodyOf Tryz.f110 spec_Mac.cuts) []
def spec_Mac.N0 (x1z : Bool) (x1 x5 x6 : List Int) (x12z : Bool) (x12 : List Int) (x13 x14 : Int) : St := stOf 36 36 2 [(1, .val ⟨(.nums 5 .u8 x1z x1), [], false, none⟩), (5, .val ⟨(.nums 5 .u8 false x5), [.l 5 0], true, some (.l 5 0)⟩), (6, .val ⟨(.nums 5 .u8 false x6), [.l 6 0], true, some (.l 6 0)⟩), (12, .val ⟨(.nums 5 .u8 x12z x12), [.l 12 0], true, some (.l 12 0)⟩), (13, .val (V.s (.int .i64 x13))), (14, .val (V.s (.int .i64 x14)))] []
theorem spec_Mac.s0 (k : Nat) (G : List Fr → St → Option Res) (a0z : Bool) (a0 : List Int) (a1z : Bool) (a1 : List Int) (yx1z : Bool) (yx1 yx5 yx6 : List Int) (yx12z : Bool) (yx12 : List Int) (yx13 yx14 : Int) : resume Tryz.prog (spec_Mac.Cs k) G (finish Tryz.prog [] Tryz.f110 [.v (.nums 5 .u8 a0z a0), .v (.nums 5 .u8 a1z a1)]) 100000 spec_Mac.K0 (spec_Mac.N0 yx1z yx1 yx5 yx6 yx12z yx12 yx13 yx14) = spec_Mac.l0b (fun r => some (spec_Mac.enc r)) (fun x1z x1 x5 x6 x12z x12 x13 x14 => G spec_Mac.K0 (spec_Mac.N0 x1z x1 x5 x6 x12z x12 x13 x14)) k yx1z yx1 yx5 yx6 yx12z yx12 yx13 yx14 := by kernel_rfl
theorem spec_Mac.bn {R R' : Type} (e : R → R') (ret : Bool × List Int → Option R) (j0 : Bool → (List Int) → (List Int) → (List Int) → Bool → (List Int) → Int → Int → Option R) (k : Nat) (a0z : Bool) (a0 : List Int) (a1z : Bool) (a1 : List Int) : spec_Mac.b (fun r => (ret r).map e) (fun x1z x1 x5 x6 x12z x12 x13 x14 => (j0 x1z x1 x5 x6 x12z x12 x13 x14).map e) k a0z a0 a1z a1 = (spec_Mac.b ret j0 k a0z a0 a1z a1).map e := by
  unfold spec_Mac.b
  repeat' first | with_reducible refine nat_cond ?_ ?_ | with_reducible refine nat_bind fun _ => ?_ | rfl
theorem spec_Mac.l0n {R R' : Type} (e : R → R') (ret : Bool × List Int → Option R) (j0 : Bool → (List Int) → (List Int) → (List Int) → Bool → (List Int) → Int → Int → Option R) (k : Nat) (x1z : Bool) (x1 x5 x6 : List Int) (x12z : Bool) (x12 : List Int) (x13 x14 : Int) : spec_Mac.l0b (fun r => (ret r).map e) (fun x1z x1 x5 x6 x12z x12 x13 x14 => (j0 x1z x1 x5 x6 x12z x12 x13 x14).map e) k x1z x1 x5 x6 x12z x12 x13 x14 = (spec_Mac.l0b ret j0 k x1z x1 x5 x6 x12z x12 x13 x14).map e := by
  unfold spec_Mac.l0b
  repeat' first | with_reducible refine nat_cond ?_ ?_ | with_reducible refine nat_bind fun _ => ?_ | rfl
theorem spec_Mac.rq (a0z : Bool) (a0 : List Int) (a1z : Bool) (a1 : List Int) : ∀ k, (∀ (x1z : Bool) (x1 x5 x6 : List Int) (x12z : Bool) (x12 : List Int) (x13 x14 : Int), rounds Tryz.prog spec_Mac.Cs (finish Tryz.prog [] Tryz.f110 [.v (.nums 5 .u8 a0z a0), .v (.nums 5 .u8 a1z a1)]) 100000 k spec_Mac.K0 (spec_Mac.N0 x1z x1 x5 x6 x12z x12 x13 x14) = (spec_Mac.l0 k x1z x1 x5 x6 x12z x12 x13 x14).map spec_Mac.enc)
  | 0 => fun _ _ _ _ _ _ _ _ => rfl
  | k + 1 => by
    have ih := spec_Mac.rq a0z a0 a1z a1 k
    refine fun _ _ _ _ _ _ _ _ => ?_
    · refine (spec_Mac.s0 k _ a0z a0 a1z a1 _ _ _ _ _ _ _ _).trans (Eq.trans ?_ (spec_Mac.l0n spec_Mac.enc some (spec_Mac.l0 k) k _ _ _ _ _ _ _ _))
      simp only [ih, Option.map_some]
theorem spec_Mac.eq (k : Nat) (a0z : Bool) (a0 : List Int) (a1z : Bool) (a1 : List Int) : answer Tryz.prog spec_Mac.Cs 100000 spec_Mac.cuts [] Tryz.f110 (k + 1) [.v (.nums 5 .u8 a0z a0), .v (.nums 5 .u8 a1z a1)] = (spec_Mac.f (k + 1) a0z a0 a1z a1).map spec_Mac.enc := by
  have ih := spec_Mac.rq a0z a0 a1z a1 k
  refine Eq.trans (b := spec_Mac.b (fun r => some (spec_Mac.enc r)) (fun x1z x1 x5 x6 x12z x12 x13 x14 => rounds Tryz.prog spec_Mac.Cs (finish Tryz.prog [] Tryz.f110 [.v (.nums 5 .u8 a0z a0), .v (.nums 5 .u8 a1z a1)]) 100000 k spec_Mac.K0 (spec_Mac.N0 x1z x1 x5 x6 x12z x12 x13 x14)) k a0z a0 a1z a1) (by kernel_rfl) (Eq.trans ?_ (spec_Mac.bn spec_Mac.enc some (spec_Mac.l0 k) k a0z a0 a1z a1))
  simp only [ih, Option.map_some]
theorem spec_Mac.sound (k : Nat) : SoundF Tryz.prog 110 (fun a => (spec_Mac.ans k a).val) := by
  refine sound_plain (fun args res h => ?_) (fun t n => rfl)
  unfold spec_Mac.ans at h
  dsimp only at h
  split at h
  · cases k with
    | zero => cases h
    | succ k =>
      unfold Ans.val at h
      rw [← spec_Mac.eq] at h
      exact answer_sound mixed Tryz.func110 _ _ _ (k + 1) (fun j _ => tab_sound (tab_cons (spec_Sha.sound j) (tab_cons (spec_MacKey.sound j) (tab_nil)))) _ _ h
  · exact (Ans.no_val h).elim

def spec_SignVote.b {R : Type} (ret : Int × Int × Bool × (List Int) × Int × Bool × (List Int) × Bool → Option R) (k : Nat) (a0_0z : Bool) (a0_0 : List T) (a1 a2 : Int) (a3z : Bool) (a3 : List Int) (a4 : Int) : Option R :=
  (spec_VoteBytes.f k a1 a2 a3z a3).bind fun t0 => (spec_TableOk.f k a0_0z a0_0).bind fun t1 => cond (!t1) (ret (0, 0, true, ([] : List Int), 0, true, ([] : List Int), false)) (cond (decide (((t0.2).length : Int) = 0)) (ret (0, 0, true, ([] : List Int), 0, true, ([] : List Int), false)) ((spec_l01In.f k a4 0 (RowKit.wrap64 (((a0_0).length : Int) - 1))).bind fun t2 => cond (!t2) (ret (0, 0, true, ([] : List Int), 0, true, ([] : List Int), false)) ((spec_l01Copy.f k a3z a3).bind fun t3 => cond (decide ((0 : Int) ≤ a4)) (cond (decide (a4 < ((a0_0).length : Int))) ((spec_Mac.f k (((((a0_0).getD (a4).toNat .bad).cells.getD 1 .bad)).isNil) (((((a0_0).getD (a4).toNat .bad).cells.getD 1 .bad)).toNums) t0.1 t0.2).bind fun t4 => ret (a1, a2, t3.1, t3.2, a4, t4.1, t4.2, true)) (none)) (none))))
def spec_SignVote.f : Nat → Bool → (List T) → Int → Int → Bool → (List Int) → Int → Option (Int × Int × Bool × (List Int) × Int × Bool × (List Int) × Bool)
  | 0, _, _, _, _, _, _, _ => none
  | k + 1, a0_0z, a0_0, a1, a2, a3z, a3, a4 => spec_SignVote.b some k a0_0z a0_0 a1 a2 a3z a3 a4
def spec_SignVote.enc (r : Int × Int × Bool × (List Int) × Int × Bool × (List Int) × Bool) : Res := ⟨[.vals true [((.int .i64 r.1), true), ((.int .i64 r.2.1), true), ((.nums 5 .u8 r.2.2.1 r.2.2.2.1), true), ((.int .i64 r.2.2.2.2.1), true), ((.nums 5 .u8 r.2.2.2.2.2.1 r.2.2.2.2.2.2.1), true)], .vals false [((.bool r.2.2.2.2.2.2.2), true)]], []⟩
def spec_SignVote.ans (k : Nat) : List Arg → Ans
  | [.v (.agg [(.sl 92 a0_0z a0_0)]), .v (.int .i64 a1), .v (.int .i64 a2), .v (.nums 5 .u8 a3z a3), .v (.int .i64 a4)] => ⟨spec_SignVote.f k a0_0z a0_0 a1 a2 a3z a3 a4, spec_SignVote.enc⟩
  | _ => Ans.no
def spec_SignVote.Cs (k : Nat) : CallSem := tab [(40, spec_l01In.ans k), (39, spec_TableOk.ans k), (83, spec_l01Copy.ans k), (109, spec_VoteBytes.ans k), (110, spec_Mac.ans k)]
theorem spec_SignVote.eq (k : Nat) (a0_0z : Bool) (a0_0 : List T) (a1 a2 : Int) (a3z : Bool) (a3 : List Int) (a4 : Int) : answer Tryz.prog spec_SignVote.Cs 100000 [] [] Tryz.f84 (k + 1) [.v (.agg [(.sl 92 a0_0z a0_0)]), .v (.int .i64 a1), .v (.int .i64 a2), .v (.nums 5 .u8 a3z a3), .v (.int .i64 a4)] = (spec_SignVote.f (k + 1) a0_0z a0_0 a1 a2 a3z a3 a4).map spec_SignVote.enc := by
  refine Eq.trans (b := spec_SignVote.b (fun r => some (spec_SignVote.enc r)) k a0_0z a0_0 a1 a2 a3z a3 a4) (by kernel_rfl) ?_
  show _ = (spec_SignVote.b some k a0_0z a0_0 a1 a2 a3z a3 a4).map spec_SignVote.enc
  unfold spec_SignVote.b
  repeat' first | with_reducible refine nat_cond ?_ ?_ | with_reducible refine nat_bind fun _ => ?_ | rfl
theorem spec_SignVote.sound (k : Nat) : SoundF Tryz.prog 84 (fun a => (spec_SignVote.ans k a).val) := by
  refine sound_plain (fun args res h => ?_) (fun t n => rfl)
  unfold spec_SignVote.ans at h
  dsimp only at h
  split at h
  · cases k with
    | zero => cases h
    | succ k =>
      unfold Ans.val at h
      rw [← spec_SignVote.eq] at h
      exact answer_sound mixed Tryz.func84 _ _ _ (k + 1) (fun j _ => tab_sound (tab_cons (spec_l01In.sound j) (tab_cons (spec_TableOk.sound j) (tab_cons (spec_l01Copy.sound j) (tab_cons (spec_VoteBytes.sound j) (tab_cons (spec_Mac.sound j) (tab_nil))))))) _ _ h
  · exact (Ans.no_val h).elim

def spec_VoteSame.b {R : Type} (ret : Bool → Option R) (k : Nat) (a0_0 a0_1 : Int) (a0_2z : Bool) (a0_2 : List Int) (a0_3 : Int) (a0_4z : Bool) (a0_4 : List Int) (a1_0 a1_1 : Int) (a1_2z : Bool) (a1_2 : List Int) (a1_3 : Int) (a1_4z : Bool) (a1_4 : List Int) : Option R :=
  cond (decide (a0_0 = a1_0)) (cond (decide (a0_1 = a1_1)) ((spec_SameBytes.f k a0_2z a0_2 a1_2z a1_2).bind fun t0 => cond t0 (cond (decide (a0_3 = a1_3)) ((spec_SameBytes.f k a0_4z a0_4 a1_4z a1_4).bind fun t1 => ret t1) (ret false)) (ret false)) (ret false)) (ret false)
def spec_VoteSame.f : Nat → Int → Int → Bool → (List Int) → Int → Bool → (List Int) → Int → Int → Bool → (List Int) → Int → Bool → (List Int) → Option Bool
  | 0, _, _, _, _, _, _, _, _, _, _, _, _, _, _ => none
  | k + 1, a0_0, a0_1, a0_2z, a0_2, a0_3, a0_4z, a0_4, a1_0, a1_1, a1_2z, a1_2, a1_3, a1_4z, a1_4 => spec_VoteSame.b some k a0_0 a0_1 a0_2z a0_2 a0_3 a0_4z a0_4 a1_0 a1_1 a1_2z a1_2 a1_3 a1_4z a1_4
def spec_VoteSame.enc (r : Bool) : Res := ⟨[.vals false [((.bool r), true)]], []⟩
def spec_VoteSame.ans (k : Nat) : List Arg → Ans
  | [.v (.agg [(.int .i64 a0_0), (.int .i64 a0_1), (.nums 5 .u8 a0_2z a0_2), (.int .i64 a0_3), (.nums 5 .u8 a0_4z a0_4)]), .v (.agg [(.int .i64 a1_0), (.int .i64 a1_1), (.nums 5 .u8 a1_2z a1_2), (.int .i64 a1_3), (.nums 5 .u8 a1_4z a1_4)])] => ⟨spec_VoteSame.f k a0_0 a0_1 a0_2z a0_2 a0_3 a0_4z a0_4 a1_0 a1_1 a1_2z a1_2 a1_3 a1_4z a1_4, spec_VoteSame.enc⟩
  | _ => Ans.no
def spec_VoteSame.Cs (k : Nat) : CallSem := tab [(19, spec_SameBytes.ans k)]
theorem spec_VoteSame.eq (k : Nat) (a0_0 a0_1 : Int) (a0_2z : Bool) (a0_2 : List Int) (a0_3 : Int) (a0_4z : Bool) (a0_4 : List Int) (a1_0 a1_1 : Int) (a1_2z : Bool) (a1_2 : List Int) (a1_3 : Int) (a1_4z : Bool) (a1_4 : List Int) : answer Tryz.prog spec_VoteSame.Cs 100000 [] [] Tryz.f85 (k + 1) [.v (.agg [(.int .i64 a0_0), (.int .i64 a0_1), (.nums 5 .u8 a0_2z a0_2), (.int .i64 a0_3), (.nums 5 .u8 a0_4z a0_4)]), .v (.agg [(.int .i64 a1_0), (.int .i64 a1_1), (.nums 5 .u8 a1_2z a1_2), (.int .i64 a1_3), (.nums 5 .u8 a1_4z a1_4)])] = (spec_VoteSame.f (k + 1) a0_0 a0_1 a0_2z a0_2 a0_3 a0_4z a0_4 a1_0 a1_1 a1_2z a1_2 a1_3 a1_4z a1_4).map spec_VoteSame.enc := by
  refine Eq.trans (b := spec_VoteSame.b (fun r => some (spec_VoteSame.enc r)) k a0_0 a0_1 a0_2z a0_2 a0_3 a0_4z a0_4 a1_0 a1_1 a1_2z a1_2 a1_3 a1_4z a1_4) (by kernel_rfl) ?_
  show _ = (spec_VoteSame.b some k a0_0 a0_1 a0_2z a0_2 a0_3 a0_4z a0_4 a1_0 a1_1 a1_2z a1_2 a1_3 a1_4z a1_4).map spec_VoteSame.enc
  unfold spec_VoteSame.b
  repeat' first | with_reducible refine nat_cond ?_ ?_ | with_reducible refine nat_bind fun _ => ?_ | rfl
theorem spec_VoteSame.sound (k : Nat) : SoundF Tryz.prog 85 (fun a => (spec_VoteSame.ans k a).val) := by
  refine sound_plain (fun args res h => ?_) (fun t n => rfl)
  unfold spec_VoteSame.ans at h
  dsimp only at h
  split at h
  · cases k with
    | zero => cases h
    | succ k =>
      unfold Ans.val at h
      rw [← spec_VoteSame.eq] at h
      exact answer_sound mixed Tryz.func85 _ _ _ (k + 1) (fun j _ => tab_sound (tab_cons (spec_SameBytes.sound j) (tab_nil))) _ _ h
  · exact (Ans.no_val h).elim

def spec_VoteGood.b {R : Type} (ret : Bool → Option R) (k : Nat) (a0_0z : Bool) (a0_0 : List T) (a1_0 a1_1 : Int) (a1_2z : Bool) (a1_2 : List Int) (a1_3 : Int) (a1_4z : Bool) (a1_4 : List Int) : Option R :=
  (spec_SignVote.f k a0_0z a0_0 a1_0 a1_1 a1_2z a1_2 a1_3).bind fun t0 => cond t0.2.2.2.2.2.2.2 ((spec_VoteSame.f k a1_0 a1_1 a1_2z a1_2 a1_3 a1_4z a1_4 t0.1 t0.2.1 t0.2.2.1 t0.2.2.2.1 t0.2.2.2.2.1 t0.2.2.2.2.2.1 t0.2.2.2.2.2.2.1).bind fun t1 => ret t1) (ret false)
def spec_VoteGood.f : Nat → Bool → (List T) → Int → Int → Bool → (List Int) → Int → Bool → (List Int) → Option Bool
  | 0, _, _, _, _, _, _, _, _, _ => none
  | k + 1, a0_0z, a0_0, a1_0, a1_1, a1_2z, a1_2, a1_3, a1_4z, a1_4 => spec_VoteGood.b some k a0_0z a0_0 a1_0 a1_1 a1_2z a1_2 a1_3 a1_4z a1_4
def spec_VoteGood.enc (r : Bool) : Res := ⟨[.vals false [((.bool r), true)]], []⟩
def spec_VoteGood.ans (k : Nat) : List Arg → Ans
  | [.v (.agg [(.sl 92 a0_0z a0_0)]), .v (.agg [(.int .i64 a1_0), (.int .i64 a1_1), (.nums 5 .u8 a1_2z a1_2), (.int .i64 a1_3), (.nums 5 .u8 a1_4z a1_4)])] => ⟨spec_VoteGood.f k a0_0z a0_0 a1_0 a1_1 a1_2z a1_2 a1_3 a1_4z a1_4, spec_VoteGood.enc⟩
  | _ => Ans.no
def spec_VoteGood.Cs (k : Nat) : CallSem := tab [(84, spec_SignVote.ans k), (85, spec_VoteSame.ans k)]
theorem spec_VoteGood.eq (k : Nat) (a0_0z : Bool) (a0_0 : List T) (a1_0 a1_1 : Int) (a1_2z : Bool) (a1_2 : List Int) (a1_3 : Int) (a1_4z : Bool) (a1_4 : List Int) : answer Tryz.prog spec_VoteGood.Cs 100000 [] [] Tryz.f48 (k + 1) [.v (.agg [(.sl 92 a0_0z a0_0)]), .v (.agg [(.int .i64 a1_0), (.int .i64 a1_1), (.nums 5 .u8 a1_2z a1_2), (.int .i64 a1_3), (.nums 5 .u8 a1_4z a1_4)])] = (spec_VoteGood.f (k + 1) a0_0z a0_0 a1_0 a1_1 a1_2z a1_2 a1_3 a1_4z a1_4).map spec_VoteGood.enc := by
  refine Eq.trans (b := spec_VoteGood.b (fun r => some (spec_VoteGood.enc r)) k a0_0z a0_0 a1_0 a1_1 a1_2z a1_2 a1_3 a1_4z a1_4) (by kernel_rfl) ?_
  show _ = (spec_VoteGood.b some k a0_0z a0_0 a1_0 a1_1 a1_2z a1_2 a1_3 a1_4z a1_4).map spec_VoteGood.enc
  unfold spec_VoteGood.b
  repeat' first | with_reducible refine nat_cond ?_ ?_ | with_reducible refine nat_bind fun _ => ?_ | rfl
theorem spec_VoteGood.sound (k : Nat) : SoundF Tryz.prog 48 (fun a => (spec_VoteGood.ans k a).val) := by
  refine sound_plain (fun args res h => ?_) (fun t n => rfl)
  unfold spec_VoteGood.ans at h
  dsimp only at h
  split at h
  · cases k with
    | zero => cases h
    | succ k =>
      unfold Ans.val at h
      rw [← spec_VoteGood.eq] at h
      exact answer_sound mixed Tryz.func48 _ _ _ (k + 1) (fun j _ => tab_sound (tab_cons (spec_SignVote.sound j) (tab_cons (spec_VoteSame.sound j) (tab_nil)))) _ _ h
  · exact (Ans.no_val h).elim

def spec_WeightOf.b {R : Type} (ret : Int → Option R) (j0 : Bool → (List Int) → Int → Bool → (List T) → Int → Int → Option R) (k : Nat) (a0_0z : Bool) (a0_0 : List T) (a1z : Bool) (a1 : List Int) : Option R :=
  (spec_TableOk.f k a0_0z a0_0).bind fun t0 => cond (!t0) (ret 0) ((spec_BitsOk.f k a1z a1 ((a0_0).length : Int)).bind fun t1 => cond (!t1) (ret 0) (j0 a1z a1 0 a0_0z a0_0 ((a0_0).length : Int) 0))
def spec_WeightOf.l0b {R : Type} (ret : Int → Option R) (j0 : Bool → (List Int) → Int → Bool → (List T) → Int → Int → Option R) (k : Nat) (x1z : Bool) (x1 : List Int) (x5 : Int) (x20z : Bool) (x20 : List T) (x21 x22 : Int) : Option R :=
  cond (decide (x22 < x21)) (cond (decide ((0 : Int) ≤ x22)) (cond (decide (x22 < ((x20).length : Int))) ((spec_BitsHas.f k x1z x1 x22).bind fun t0 => cond t0 (j0 x1z x1 (RowKit.wrap64 (x5 + ((((x20).getD (x22).toNat .bad).cells.getD 0 .bad)).toInt)) x20z x20 x21 (RowKit.wrap64 (x22 + 1))) (j0 x1z x1 x5 x20z x20 x21 (RowKit.wrap64 (x22 + 1)))) (none)) (none)) (ret x5)
def spec_WeightOf.l0 : Nat → Bool → (List Int) → Int → Bool → (List T) → Int → Int → Option Int
  | 0, _, _, _, _, _, _, _ => none
  | k + 1, x1z, x1, x5, x20z, x20, x21, x22 => spec_WeightOf.l0b some (spec_WeightOf.l0 k) k x1z x1 x5 x20z x20 x21 x22
def spec_WeightOf.f : Nat → Bool → (List T) → Bool → (List Int) → Option Int
  | 0, _, _, _, _ => none
  | k + 1, a0_0z, a0_0, a1z, a1 => spec_WeightOf.b some (spec_WeightOf.l0 k) k a0_0z a0_0 a1z a1
def spec_WeightOf.enc (r : Int) : Res := ⟨[.vals false [((.int .i64 r), true)]], []⟩
def spec_WeightOf.ans (k : Nat) : List Arg → Ans
  | [.v (.agg [(.sl 92 a0_0z a0_0)]), .v (.nums 5 .u8 a1z a1)] => ⟨spec_WeightOf.f k a0_0z a0_0 a1z a1, spec_WeightOf.enc⟩
  | _ => Ans.no
def spec_WeightOf.Cs (k : Nat) : CallSem := tab [(39, spec_TableOk.ans k), (74, spec_BitsOk.ans k), (108, spec_BitsHas.ans k)]
def spec_WeightOf.cuts : List (Nat × Keep) := [(122, ⟨[(1, some []), (5, some []), (20, some []), (21, some []), (22, some [])], []⟩)]
noncomputable def spec_WeightOf.K0 : List Fr := framesAt [true, true, true, false, true, false] (bodyOf Tryz.f86 spec_WeightOf.cuts) []
def spec_WeightOf.N0 (x1z : Bool) (x1 : List Int) (x5 : Int) (x20z : Bool) (x20 : List T) (x21 x22 : Int) : St := stOf 36 36 2 [(1, .val ⟨(.nums 5 .u8 x1z x1), [], false, none⟩), (5, .val (V.s (.int .i64 x5))), (20, .val ⟨(.sl 92 x20z x20), [], false, none⟩), (21, .val (V.s (.int .i64 x21))), (22, .val (V.s (.int .i64 x22)))] []
theorem spec_WeightOf.s0 (k : Nat) (G : List Fr → St → Option Res) (a0_0z : Bool) (a0_0 : List T) (a1z : Bool) (a1 : List Int) (yx1z : Bool) (yx1 : List Int) (yx5 : Int) (yx20z : Bool) (yx20 : List T) (yx21 yx22 : Int) : resume Tryz.prog (spec_WeightOf.Cs k) G (finish Tryz.prog [] Tryz.f86 [.v (.agg [(.sl 92 a0_0z a0_0)]), .v (.nums 5 .u8 a1z a1)]) 100000 spec_WeightOf.K0 (spec_WeightOf.N0 yx1z yx1 yx5 yx20z yx20 yx21 yx22) = spec_WeightOf.l0b (fun r => some (spec_WeightOf.enc r)) (fun x1z x1 x5 x20z x20 x21 x22 => G spec_WeightOf.K0 (spec_WeightOf.N0 x1z x1 x5 x20z x20 x21 x22)) k yx1z yx1 yx5 yx20z yx20 yx21 yx22 := by kernel_rfl
theorem spec_WeightOf.bn {R R' : Type} (e : R → R') (ret : Int → Option R) (j0 : Bool → (List Int) → Int → Bool → (List T) → Int → Int → Option R) (k : Nat) (a0_0z : Bool) (a0_0 : List T) (a1z : Bool) (a1 : List Int) : spec_WeightOf.b (fun r => (ret r).map e) (fun x1z x1 x5 x20z x20 x21 x22 => (j0 x1z x1 x5 x20z x20 x21 x22).map e) k a0_0z a0_0 a1z a1 = (spec_WeightOf.b ret j0 k a0_0z a0_0 a1z a1).map e := by
  unfold spec_WeightOf.b
  repeat' first | with_reducible refine nat_cond ?_ ?_ | with_reducible refine nat_bind fun _ => ?_ | rfl
theorem spec_WeightOf.l0n {R R' : Type} (e : R → R') (ret : Int → Option R) (j0 : Bool → (List Int) → Int → Bool → (List T) → Int → Int → Option R) (k : Nat) (x1z : Bool) (x1 : List Int) (x5 : Int) (x20z : Bool) (x20 : List T) (x21 x22 : Int) : spec_WeightOf.l0b (fun r => (ret r).map e) (fun x1z x1 x5 x20z x20 x21 x22 => (j0 x1z x1 x5 x20z x20 x21 x22).map e) k x1z x1 x5 x20z x20 x21 x22 = (spec_WeightOf.l0b ret j0 k x1z x1 x5 x20z x20 x21 x22).map e := by
  unfold spec_WeightOf.l0b
  repeat' first | with_reducible refine nat_cond ?_ ?_ | with_reducible refine nat_bind fun _ => ?_ | rfl
theorem spec_WeightOf.rq (a0_0z : Bool) (a0_0 : List T) (a1z : Bool) (a1 : List Int) : ∀ k, (∀ (x1z : Bool) (x1 : List Int) (x5 : Int) (x20z : Bool) (x20 : List T) (x21 x22 : Int), rounds Tryz.prog spec_WeightOf.Cs (finish Tryz.prog [] Tryz.f86 [.v (.agg [(.sl 92 a0_0z a0_0)]), .v (.nums 5 .u8 a1z a1)]) 100000 k spec_WeightOf.K0 (spec_WeightOf.N0 x1z x1 x5 x20z x20 x21 x22) = (spec_WeightOf.l0 k x1z x1 x5 x20z x20 x21 x22).map spec_WeightOf.enc)
  | 0 => fun _ _ _ _ _ _ _ => rfl
  | k + 1 => by
    have ih := spec_WeightOf.rq a0_0z a0_0 a1z a1 k
    refine fun _ _ _ _ _ _ _ => ?_
    · refine (spec_WeightOf.s0 k _ a0_0z a0_0 a1z a1 _ _ _ _ _ _ _).trans (Eq.trans ?_ (spec_WeightOf.l0n spec_WeightOf.enc some (spec_WeightOf.l0 k) k _ _ _ _ _ _ _))
      simp only [ih, Option.map_some]
theorem spec_WeightOf.eq (k : Nat) (a0_0z : Bool) (a0_0 : List T) (a1z : Bool) (a1 : List Int) : answer Tryz.prog spec_WeightOf.Cs 100000 spec_WeightOf.cuts [] Tryz.f86 (k + 1) [.v (.agg [(.sl 92 a0_0z a0_0)]), .v (.nums 5 .u8 a1z a1)] = (spec_WeightOf.f (k + 1) a0_0z a0_0 a1z a1).map spec_WeightOf.enc := by
  have ih := spec_WeightOf.rq a0_0z a0_0 a1z a1 k
  refine Eq.trans (b := spec_WeightOf.b (fun r => some (spec_WeightOf.enc r)) (fun x1z x1 x5 x20z x20 x21 x22 => rounds Tryz.prog spec_WeightOf.Cs (finish Tryz.prog [] Tryz.f86 [.v (.agg [(.sl 92 a0_0z a0_0)]), .v (.nums 5 .u8 a1z a1)]) 100000 k spec_WeightOf.K0 (spec_WeightOf.N0 x1z x1 x5 x20z x20 x21 x22)) k a0_0z a0_0 a1z a1) (by kernel_rfl) (Eq.trans ?_ (spec_WeightOf.bn spec_WeightOf.enc some (spec_WeightOf.l0 k) k a0_0z a0_0 a1z a1))
  simp only [ih, Option.map_some]
theorem spec_WeightOf.sound (k : Nat) : SoundF Tryz.prog 86 (fun a => (spec_WeightOf.ans k a).val) := by
  refine sound_plain (fun args res h => ?_) (fun t n => rfl)
  unfold spec_WeightOf.ans at h
  dsimp only at h
  split at h
  · cases k with
    | zero => cases h
    | succ k =>
      unfold Ans.val at h
      rw [← spec_WeightOf.eq] at h
      exact answer_sound mixed Tryz.func86 _ _ _ (k + 1) (fun j _ => tab_sound (tab_cons (spec_TableOk.sound j) (tab_cons (spec_BitsOk.sound j) (tab_cons (spec_BitsHas.sound j) (tab_nil))))) _ _ h
  · exact (Ans.no_val h).elim

def spec_TotalOf.b {R : Type} (ret : Int → Option R) (j0 : Int → Bool → (List T) → Int → Int → Option R) (k : Nat) (a0_0z : Bool) (a0_0 : List T) : Option R :=
  (spec_TableOk.f k a0_0z a0_0).bind fun t0 => cond (!t0) (ret 0) (j0 0 a0_0z a0_0 ((a0_0).length : Int) 0)
def spec_TotalOf.l0b {R : Type} (ret : Int → Option R) (j0 : Int → Bool → (List T) → Int → Int → Option R) (k : Nat) (x3 : Int) (x10z : Bool) (x10 : List T) (x11 x12 : Int) : Option R :=
  cond (decide (x12 < x11)) (cond (decide ((0 : Int) ≤ x12)) (cond (decide (x12 < ((x10).length : Int))) (j0 (RowKit.wrap64 (x3 + ((((x10).getD (x12).toNat .bad).cells.getD 0 .bad)).toInt)) x10z x10 x11 (RowKit.wrap64 (x12 + 1))) (none)) (none)) (ret x3)
def spec_TotalOf.l0 : Nat → Int → Bool → (List T) → Int → Int → Option Int
  | 0, _, _, _, _, _ => none
  | k + 1, x3, x10z, x10, x11, x12 => spec_TotalOf.l0b some (spec_TotalOf.l0 k) k x3 x10z x10 x11 x12
def spec_TotalOf.f : Nat → Bool → (List T) → Option Int
  | 0, _, _ => none
  | k + 1, a0_0z, a0_0 => spec_TotalOf.b some (spec_TotalOf.l0 k) k a0_0z a0_0
def spec_TotalOf.enc (r : Int) : Res := ⟨[.vals false [((.int .i64 r), true)]], []⟩
def spec_TotalOf.ans (k : Nat) : List Arg → Ans
  | [.v (.agg [(.sl 92 a0_0z a0_0)])] => ⟨spec_TotalOf.f k a0_0z a0_0, spec_TotalOf.enc⟩
  | _ => Ans.no
def spec_TotalOf.Cs (k : Nat) : CallSem := tab [(39, spec_TableOk.ans k)]
def spec_TotalOf.cuts : List (Nat × Keep) := [(122, ⟨[(3, some []), (10, some []), (11, some []), (12, some [])], []⟩)]
noncomputable def spec_TotalOf.K0 : List Fr := framesAt [true, true, true, false, true, false] (bodyOf Tryz.f87 spec_TotalOf.cuts) []
def spec_TotalOf.N0 (x3 : Int) (x10z : Bool) (x10 : List T) (x11 x12 : Int) : St := stOf 22 22 1 [(3, .val (V.s (.int .i64 x3))), (10, .val ⟨(.sl 92 x10z x10), [], false, none⟩), (11, .val (V.s (.int .i64 x11))), (12, .val (V.s (.int .i64 x12)))] []
theorem spec_TotalOf.s0 (k : Nat) (G : List Fr → St → Option Res) (a0_0z : Bool) (a0_0 : List T) (yx3 : Int) (yx10z : Bool) (yx10 : List T) (yx11 yx12 : Int) : resume Tryz.prog (spec_TotalOf.Cs k) G (finish Tryz.prog [] Tryz.f87 [.v (.agg [(.sl 92 a0_0z a0_0)])]) 100000 spec_TotalOf.K0 (spec_TotalOf.N0 yx3 yx10z yx10 yx11 yx12) = spec_TotalOf.l0b (fun r => some (spec_TotalOf.enc r)) (fun x3 x10z x10 x11 x12 => G spec_TotalOf.K0 (spec_TotalOf.N0 x3 x10z x10 x11 x12)) k yx3 yx10z yx10 yx11 yx12 := by kernel_rfl
theorem spec_TotalOf.bn {R R' : Type} (e : R → R') (ret : Int → Option R) (j0 : Int → Bool → (List T) → Int → Int → Option R) (k : Nat) (a0_0z : Bool) (a0_0 : List T) : spec_TotalOf.b (fun r => (ret r).map e) (fun x3 x10z x10 x11 x12 => (j0 x3 x10z x10 x11 x12).map e) k a0_0z a0_0 = (spec_TotalOf.b ret j0 k a0_0z a0_0).map e := by
  unfold spec_TotalOf.b
  repeat' first | with_reducible refine nat_cond ?_ ?_ | with_reducible refine nat_bind fun _ => ?_ | rfl
theorem spec_TotalOf.l0n {R R' : Type} (e : R → R') (ret : Int → Option R) (j0 : Int → Bool → (List T) → Int → Int → Option R) (k : Nat) (x3 : Int) (x10z : Bool) (x10 : List T) (x11 x12 : Int) : spec_TotalOf.l0b (fun r => (ret r).map e) (fun x3 x10z x10 x11 x12 => (j0 x3 x10z x10 x11 x12).map e) k x3 x10z x10 x11 x12 = (spec_TotalOf.l0b ret j0 k x3 x10z x10 x11 x12).map e := by
  unfold spec_TotalOf.l0b
  repeat' first | with_reducible refine nat_cond ?_ ?_ | with_reducible refine nat_bind fun _ => ?_ | rfl
theorem spec_TotalOf.rq (a0_0z : Bool) (a0_0 : List T) : ∀ k, (∀ (x3 : Int) (x10z : Bool) (x10 : List T) (x11 x12 : Int), rounds Tryz.prog spec_TotalOf.Cs (finish Tryz.prog [] Tryz.f87 [.v (.agg [(.sl 92 a0_0z a0_0)])]) 100000 k spec_TotalOf.K0 (spec_TotalOf.N0 x3 x10z x10 x11 x12) = (spec_TotalOf.l0 k x3 x10z x10 x11 x12).map spec_TotalOf.enc)
  | 0 => fun _ _ _ _ _ => rfl
  | k + 1 => by
    have ih := spec_TotalOf.rq a0_0z a0_0 k
    refine fun _ _ _ _ _ => ?_
    · refine (spec_TotalOf.s0 k _ a0_0z a0_0 _ _ _ _ _).trans (Eq.trans ?_ (spec_TotalOf.l0n spec_TotalOf.enc some (spec_TotalOf.l0 k) k _ _ _ _ _))
      simp only [ih, Option.map_some]
theorem spec_TotalOf.eq (k : Nat) (a0_0z : Bool) (a0_0 : List T) : answer Tryz.prog spec_TotalOf.Cs 100000 spec_TotalOf.cuts [] Tryz.f87 (k + 1) [.v (.agg [(.sl 92 a0_0z a0_0)])] = (spec_TotalOf.f (k + 1) a0_0z a0_0).map spec_TotalOf.enc := by
  have ih := spec_TotalOf.rq a0_0z a0_0 k
  refine Eq.trans (b := spec_TotalOf.b (fun r => some (spec_TotalOf.enc r)) (fun x3 x10z x10 x11 x12 => rounds Tryz.prog spec_TotalOf.Cs (finish Tryz.prog [] Tryz.f87 [.v (.agg [(.sl 92 a0_0z a0_0)])]) 100000 k spec_TotalOf.K0 (spec_TotalOf.N0 x3 x10z x10 x11 x12)) k a0_0z a0_0) (by kernel_rfl) (Eq.trans ?_ (spec_TotalOf.bn spec_TotalOf.enc some (spec_TotalOf.l0 k) k a0_0z a0_0))
  simp only [ih, Option.map_some]
theorem spec_TotalOf.sound (k : Nat) : SoundF Tryz.prog 87 (fun a => (spec_TotalOf.ans k a).val) := by
  refine sound_plain (fun args res h => ?_) (fun t n => rfl)
  unfold spec_TotalOf.ans at h
  dsimp only at h
  split at h
  · cases k with
    | zero => cases h
    | succ k =>
      unfold Ans.val at h
      rw [← spec_TotalOf.eq] at h
      exact answer_sound mixed Tryz.func87 _ _ _ (k + 1) (fun j _ => tab_sound (tab_cons (spec_TableOk.sound j) (tab_nil))) _ _ h
  · exact (Ans.no_val h).elim

def spec_IsQuorum.b {R : Type} (ret : Bool → Option R) (k : Nat) (a0_0z : Bool) (a0_0 : List T) (a1z : Bool) (a1 : List Int) : Option R :=
  (spec_TableOk.f k a0_0z a0_0).bind fun t0 => cond t0 ((spec_WeightOf.f k a0_0z a0_0 a1z a1).bind fun t1 => (spec_TotalOf.f k a0_0z a0_0).bind fun t2 => ret (decide ((RowKit.wrap64 ((3 : Int) * t1)) > (RowKit.wrap64 ((2 : Int) * t2))))) (ret false)
def spec_IsQuorum.f : Nat → Bool → (List T) → Bool → (List Int) → Option Bool
  | 0, _, _, _, _ => none
  | k + 1, a0_0z, a0_0, a1z, a1 => spec_IsQuorum.b some k a0_0z a0_0 a1z a1
def spec_IsQuorum.enc (r : Bool) : Res := ⟨[.vals false [((.bool r), true)]], []⟩
def spec_IsQuorum.ans (k : Nat) : List Arg → Ans
  | [.v (.agg [(.sl 92 a0_0z a0_0)]), .v (.nums 5 .u8 a1z a1)] => ⟨spec_IsQuorum.f k a0_0z a0_0 a1z a1, spec_IsQuorum.enc⟩
  | _ => Ans.no
def spec_IsQuorum.Cs (k : Nat) : CallSem := tab [(39, spec_TableOk.ans k), (86, spec_WeightOf.ans k), (87, spec_TotalOf.ans k)]
theorem spec_IsQuorum.eq (k : Nat) (a0_0z : Bool) (a0_0 : List T) (a1z : Bool) (a1 : List Int) : answer Tryz.prog spec_IsQuorum.Cs 100000 [] [] Tryz.f49 (k + 1) [.v (.agg [(.sl 92 a0_0z a0_0)]), .v (.nums 5 .u8 a1z a1)] = (spec_IsQuorum.f (k + 1) a0_0z a0_0 a1z a1).map spec_IsQuorum.enc := by
  refine Eq.trans (b := spec_IsQuorum.b (fun r => some (spec_IsQuorum.enc r)) k a0_0z a0_0 a1z a1) (by kernel_rfl) ?_
  show _ = (spec_IsQuorum.b some k a0_0z a0_0 a1z a1).map spec_IsQuorum.enc
  unfold spec_IsQuorum.b
  repeat' first | with_reducible refine nat_cond ?_ ?_ | with_reducible refine nat_bind fun _ => ?_ | rfl
theorem spec_IsQuorum.sound (k : Nat) : SoundF Tryz.prog 49 (fun a => (spec_IsQuorum.ans k a).val) := by
  refine sound_plain (fun args res h => ?_) (fun t n => rfl)
  unfold spec_IsQuorum.ans at h
  dsimp only at h
  split at h
  · cases k with
    | zero => cases h
    | succ k =>
      unfold Ans.val at h
      rw [← spec_IsQuorum.eq] at h
      exact answer_sound mixed Tryz.func49 _ _ _ (k + 1) (fun j _ => tab_sound (tab_cons (spec_TableOk.sound j) (tab_cons (spec_WeightOf.sound j) (tab_cons (spec_TotalOf.sound j) (tab_nil))))) _ _ h
  · exact (Ans.no_val h).elim

def spec_QcCode.b {R : Type} (ret : Int → Option R) (j0 : Bool → (List T) → Int → Int → Bool → (List T) → Int → Int → Bool → (List Int) → Bool → (List Int) → Bool → (List T) → Option R) (k : Nat) (a0_0 a0_1 : Int) (a0_2 a0_3 a0_4 : Int) (a1_0z : Bool) (a1_0 : List T) (a2_0 a2_1 : Int) (a2_2z : Bool) (a2_2 : List Int) (a2_3z : Bool) (a2_3 : List Int) (a2_4z : Bool) (a2_4 : List T) : Option R :=
  (spec_l23Goes.f k a0_0 a0_1 a0_2 a0_3 a0_4 a1_0z a1_0).bind fun t0 => cond (!t0) (ret 1) ((spec_QcOk.f k a0_0 a0_1 a0_2 a0_3 a0_4 a2_0 a2_1 a2_2z a2_2 a2_3z a2_3 a2_4z a2_4).bind fun t1 => cond (!t1) (ret 1) ((spec_QcVotes.f k a2_0 a2_1 a2_2z a2_2 a2_3z a2_3 a2_4z a2_4).bind fun t2 => j0 t2.1 t2.2 ((t2.2).length : Int) 0 a1_0z a1_0 a2_0 a2_1 a2_2z a2_2 a2_3z a2_3 a2_4z a2_4))
def spec_QcCode.l0b {R : Type} (ret : Int → Option R) (j0 : Bool → (List T) → Int → Int → Bool → (List T) → Int → Int → Bool → (List Int) → Bool → (List Int) → Bool → (List T) → Option R) (k : Nat) (x20z : Bool) (x20 : List T) (x21 x22 : Int) (c4_0z : Bool) (c4_0 : List T) (c5_0 c5_1 : Int) (c5_2z : Bool) (c5_2 : List Int) (c5_3z : Bool) (c5_3 : List Int) (c5_4z : Bool) (c5_4 : List T) : Option R :=
  cond (decide (x22 < x21)) (cond (decide ((0 : Int) ≤ x22)) (cond (decide (x22 < ((x20).length : Int))) ((spec_VoteGood.f k c4_0z c4_0 (((((x20).getD (x22).toNat .bad).cells.getD 0 .bad)).toInt) (((((x20).getD (x22).toNat .bad).cells.getD 1 .bad)).toInt) (((((x20).getD (x22).toNat .bad).cells.getD 2 .bad)).isNil) (((((x20).getD (x22).toNat .bad).cells.getD 2 .bad)).toNums) (((((x20).getD (x22).toNat .bad).cells.getD 3 .bad)).toInt) (((((x20).getD (x22).toNat .bad).cells.getD 4 .bad)).isNil) (((((x20).getD (x22).toNat .bad).cells.getD 4 .bad)).toNums)).bind fun t0 => cond (!t0) (ret 2) (j0 x20z x20 x21 (RowKit.wrap64 (x22 + 1)) c4_0z c4_0 c5_0 c5_1 c5_2z c5_2 c5_3z c5_3 c5_4z c5_4)) (none)) (none)) ((spec_IsQuorum.f k c4_0z c4_0 c5_3z c5_3).bind fun t0 => cond (!t0) (ret 3) (ret 0))
def spec_QcCode.l0 : Nat → Bool → (List T) → Int → Int → Bool → (List T) → Int → Int → Bool → (List Int) → Bool → (List Int) → Bool → (List T) → Option Int
  | 0, _, _, _, _, _, _, _, _, _, _, _, _, _, _ => none
  | k + 1, x20z, x20, x21, x22, c4_0z, c4_0, c5_0, c5_1, c5_2z, c5_2, c5_3z, c5_3, c5_4z, c5_4 => spec_QcCode.l0b some (spec_QcCode.l0 k) k x20z x20 x21 x22 c4_0z c4_0 c5_0 c5_1 c5_2z c5_2 c5_3z c5_3 c5_4z c5_4
def spec_QcCode.f : Nat → Int → Int → Int → Int → Int → Bool → (List T) → Int → Int → Bool → (List Int) → Bool → (List Int) → Bool → (List T) → Option Int
  | 0, _, _, _, _, _, _, _, _, _, _, _, _, _, _, _ => none
  | k + 1, a0_0, a0_1, a0_2, a0_3, a0_4, a1_0z, a1_0, a2_0, a2_1, a2_2z, a2_2, a2_3z, a2_3, a2_4z, a2_4 => spec_QcCode.b some (spec_QcCode.l0 k) k a0_0 a0_1 a0_2 a0_3 a0_4 a1_0z a1_0 a2_0 a2_1 a2_2z a2_2 a2_3z a2_3 a2_4z a2_4
def spec_QcCode.enc (r : Int) : Res := ⟨[.vals false [((.int .i64 r), true)]], []⟩
def spec_QcCode.ans (k : Nat) : List Arg → Ans
  | [.v (.agg [(.int .i64 a0_0), (.int .i64 a0_1), (.int .i64 a0_2), (.int .i64 a0_3), (.int .i64 a0_4)]), .v (.agg [(.sl 92 a1_0z a1_0)]), .v (.agg [(.int .i64 a2_0), (.int .i64 a2_1), (.nums 5 .u8 a2_2z a2_2), (.nums 5 .u8 a2_3z a2_3), (.sl 28 a2_4z a2_4)])] => ⟨spec_QcCode.f k a0_0 a0_1 a0_2 a0_3 a0_4 a1_0z a1_0 a2_0 a2_1 a2_2z a2_2 a2_3z a2_3 a2_4z a2_4, spec_QcCode.enc⟩
  | _ => Ans.no
def spec_QcCode.Cs (k : Nat) : CallSem := tab [(16, spec_l23Goes.ans k), (42, spec_QcOk.ans k), (47, spec_QcVotes.ans k), (48, spec_VoteGood.ans k), (49, spec_IsQuorum.ans k)]
def spec_QcCode.cuts : List (Nat × Keep) := [(58, ⟨[(4, some []), (5, some []), (20, none), (21, some []), (22, some [])], [(4, [some []]), (5, [some [], some [], some [], some [], some []])]⟩)]
noncomputable def spec_QcCode.K0 : List Fr := framesAt [true, true, false, true, false] (bodyOf Tryz.f21 spec_QcCode.cuts) []
def spec_QcCode.N0 (x20z : Bool) (x20 : List T) (x21 x22 : Int) (c4_0z : Bool) (c4_0 : List T) (c5_0 c5_1 : Int) (c5_2z : Bool) (c5_2 : List Int) (c5_3z : Bool) (c5_3 : List Int) (c5_4z : Bool) (c5_4 : List T) : St := stOf 36 36 3 [(4, .bp 4 0), (5, .bp 5 0), (20, .val ⟨(.sl 89 x20z x20), [.l 20 0], true, some (.l 20 0)⟩), (21, .val (V.s (.int .i64 x21))), (22, .val (V.s (.int .i64 x22)))] [(4, .cells [⟨(.sl 92 c4_0z c4_0), [], false, none⟩]), (5, .cells [V.s (.int .i64 c5_0), V.s (.int .i64 c5_1), ⟨(.nums 5 .u8 c5_2z c5_2), [], false, none⟩, ⟨(.nums 5 .u8 c5_3z c5_3), [], false, none⟩, ⟨(.sl 28 c5_4z c5_4), [], false, none⟩])]
theorem spec_QcCode.s0 (k : Nat) (G : List Fr → St → Option Res) (a0_0 a0_1 : Int) (a0_2 a0_3 a0_4 : Int) (a1_0z : Bool) (a1_0 : List T) (a2_0 a2_1 : Int) (a2_2z : Bool) (a2_2 : List Int) (a2_3z : Bool) (a2_3 : List Int) (a2_4z : Bool) (a2_4 : List T) (yx20z : Bool) (yx20 : List T) (yx21 yx22 : Int) (yc4_0z : Bool) (yc4_0 : List T) (yc5_0 yc5_1 : Int) (yc5_2z : Bool) (yc5_2 : List Int) (yc5_3z : Bool) (yc5_3 : List Int) (yc5_4z : Bool) (yc5_4 : List T) : resume Tryz.prog (spec_QcCode.Cs k) G (finish Tryz.prog [] Tryz.f21 [.v (.agg [(.int .i64 a0_0), (.int .i64 a0_1), (.int .i64 a0_2), (.int .i64 a0_3), (.int .i64 a0_4)]), .v (.agg [(.sl 92 a1_0z a1_0)]), .v (.agg [(.int .i64 a2_0), (.int .i64 a2_1), (.nums 5 .u8 a2_2z a2_2), (.nums 5 .u8 a2_3z a2_3), (.sl 28 a2_4z a2_4)])]) 100000 spec_QcCode.K0 (spec_QcCode.N0 yx20z yx20 yx21 yx22 yc4_0z yc4_0 yc5_0 yc5_1 yc5_2z yc5_2 yc5_3z yc5_3 yc5_4z yc5_4) = spec_QcCode.l0b (fun r => some (spec_QcCode.enc r)) (fun x20z x20 x21 x22 c4_0z c4_0 c5_0 c5_1 c5_2z c5_2 c5_3z c5_3 c5_4z c5_4 => G spec_QcCode.K0 (spec_QcCode.N0 x20z x20 x21 x22 c4_0z c4_0 c5_0 c5_1 c5_2z c5_2 c5_3z c5_3 c5_4z c5_4)) k yx20z yx20 yx21 yx22 yc4_0z yc4_0 yc5_0 yc5_1 yc5_2z yc5_2 yc5_3z yc5_3 yc5_4z yc5_4 := by kernel_rfl
theorem spec_QcCode.bn {R R' : Type} (e : R → R') (ret : Int → Option R) (j0 : Bool → (List T) → Int → Int → Bool → (List T) → Int → Int → Bool → (List Int) → Bool → (List Int) → Bool → (List T) → Option R) (k : Nat) (a0_0 a0_1 : Int) (a0_2 a0_3 a0_4 : Int) (a1_0z : Bool) (a1_0 : List T) (a2_0 a2_1 : Int) (a2_2z : Bool) (a2_2 : List Int) (a2_3z : Bool) (a2_3 : List Int) (a2_4z : Bool) (a2_4 : List T) : spec_QcCode.b (fun r => (ret r).map e) (fun x20z x20 x21 x22 c4_0z c4_0 c5_0 c5_1 c5_2z c5_2 c5_3z c5_3 c5_4z c5_4 => (j0 x20z x20 x21 x22 c4_0z c4_0 c5_0 c5_1 c5_2z c5_2 c5_3z c5_3 c5_4z c5_4).map e) k a0_0 a0_1 a0_2 a0_3 a0_4 a1_0z a1_0 a2_0 a2_1 a2_2z a2_2 a2_3z a2_3 a2_4z a2_4 = (spec_QcCode.b ret j0 k a0_0 a0_1 a0_2 a0_3 a0_4 a1_0z a1_0 a2_0 a2_1 a2_2z a2_2 a2_3z a2_3 a2_4z a2_4).map e := by
  unfold spec_QcCode.b
  repeat' first | with_reducible refine nat_cond ?_ ?_ | with_reducible refine nat_bind fun _ => ?_ | rfl
theorem spec_QcCode.l0n {R R' : Type} (e : R → R') (ret : Int → Option R) (j0 : Bool → (List T) → Int → Int → Bool → (List T) → Int → Int → Bool → (List Int) → Bool → (List Int) → Bool → (List T) → Option R) (k : Nat) (x20z : Bool) (x20 : List T) (x21 x22 : Int) (c4_0z : Bool) (c4_0 : List T) (c5_0 c5_1 : Int) (c5_2z : Bool) (c5_2 : List Int) (c5_3z : Bool) (c5_3 : List Int) (c5_4z : Bool) (c5_4 : List T) : spec_QcCode.l0b (fun r => (ret r).map e) (fun x20z x20 x21 x22 c4_0z c4_0 c5_0 c5_1 c5_2z c5_2 c5_3z c5_3 c5_4z c5_4 => (j0 x20z x20 x21 x22 c4_0z c4_0 c5_0 c5_1 c5_2z c5_2 c5_3z c5_3 c5_4z c5_4).map e) k x20z x20 x21 x22 c4_0z c4_0 c5_0 c5_1 c5_2z c5_2 c5_3z c5_3 c5_4z c5_4 = (spec_QcCode.l0b ret j0 k x20z x20 x21 x22 c4_0z c4_0 c5_0 c5_1 c5_2z c5_2 c5_3z c5_3 c5_4z c5_4).map e := by
  unfold spec_QcCode.l0b
  repeat' first | with_reducible refine nat_cond ?_ ?_ | with_reducible refine nat_bind fun _ => ?_ | rfl
theorem spec_QcCode.rq (a0_0 a0_1 : Int) (a0_2 a0_3 a0_4 : Int) (a1_0z : Bool) (a1_0 : List T) (a2_0 a2_1 : Int) (a2_2z : Bool) (a2_2 : List Int) (a2_3z : Bool) (a2_3 : List Int) (a2_4z : Bool) (a2_4 : List T) : ∀ k, (∀ (x20z : Bool) (x20 : List T) (x21 x22 : Int) (c4_0z : Bool) (c4_0 : List T) (c5_0 c5_1 : Int) (c5_2z : Bool) (c5_2 : List Int) (c5_3z : Bool) (c5_3 : List Int) (c5_4z : Bool) (c5_4 : List T), rounds Tryz.prog spec_QcCode.Cs (finish Tryz.prog [] Tryz.f21 [.v (.agg [(.int .i64 a0_0), (.int .i64 a0_1), (.int .i64 a0_2), (.int .i64 a0_3), (.int .i64 a0_4)]), .v (.agg [(.sl 92 a1_0z a1_0)]), .v (.agg [(.int .i64 a2_0), (.int .i64 a2_1), (.nums 5 .u8 a2_2z a2_2), (.nums 5 .u8 a2_3z a2_3), (.sl 28 a2_4z a2_4)])]) 100000 k spec_QcCode.K0 (spec_QcCode.N0 x20z x20 x21 x22 c4_0z c4_0 c5_0 c5_1 c5_2z c5_2 c5_3z c5_3 c5_4z c5_4) = (spec_QcCode.l0 k x20z x20 x21 x22 c4_0z c4_0 c5_0 c5_1 c5_2z c5_2 c5_3z c5_3 c5_4z c5_4).map spec_QcCode.enc)
  | 0 => fun _ _ _ _ _ _ _ _ _ _ _ _ _ _ => rfl
  | k + 1 => by
    have ih := spec_QcCode.rq a0_0 a0_1 a0_2 a0_3 a0_4 a1_0z a1_0 a2_0 a2_1 a2_2z a2_2 a2_3z a2_3 a2_4z a2_4 k
    refine fun _ _ _ _ _ _ _ _ _ _ _ _ _ _ => ?_
    · refine (spec_QcCode.s0 k _ a0_0 a0_1 a0_2 a0_3 a0_4 a1_0z a1_0 a2_0 a2_1 a2_2z a2_2 a2_3z a2_3 a2_4z a2_4 _ _ _ _ _ _ _ _ _ _ _ _ _ _).trans (Eq.trans ?_ (spec_QcCode.l0n spec_QcCode.enc some (spec_QcCode.l0 k) k _ _ _ _ _ _ _ _ _ _ _ _ _ _))
      simp only [ih, Option.map_some]
theorem spec_QcCode.eq (k : Nat) (a0_0 a0_1 : Int) (a0_2 a0_3 a0_4 : Int) (a1_0z : Bool) (a1_0 : List T) (a2_0 a2_1 : Int) (a2_2z : Bool) (a2_2 : List Int) (a2_3z : Bool) (a2_3 : List Int) (a2_4z : Bool) (a2_4 : List T) : answer Tryz.prog spec_QcCode.Cs 100000 spec_QcCode.cuts [] Tryz.f21 (k + 1) [.v (.agg [(.int .i64 a0_0), (.int .i64 a0_1), (.int .i64 a0_2), (.int .i64 a0_3), (.int .i64 a0_4)]), .v (.agg [(.sl 92 a1_0z a1_0)]), .v (.agg [(.int .i64 a2_0), (.int .i64 a2_1), (.nums 5 .u8 a2_2z a2_2), (.nums 5 .u8 a2_3z a2_3), (.sl 28 a2_4z a2_4)])] = (spec_QcCode.f (k + 1) a0_0 a0_1 a0_2 a0_3 a0_4 a1_0z a1_0 a2_0 a2_1 a2_2z a2_2 a2_3z a2_3 a2_4z a2_4).map spec_QcCode.enc := by
  have ih := spec_QcCode.rq a0_0 a0_1 a0_2 a0_3 a0_4 a1_0z a1_0 a2_0 a2_1 a2_2z a2_2 a2_3z a2_3 a2_4z a2_4 k
  refine Eq.trans (b := spec_QcCode.b (fun r => some (spec_QcCode.enc r)) (fun x20z x20 x21 x22 c4_0z c4_0 c5_0 c5_1 c5_2z c5_2 c5_3z c5_3 c5_4z c5_4 => rounds Tryz.prog spec_QcCode.Cs (finish Tryz.prog [] Tryz.f21 [.v (.agg [(.int .i64 a0_0), (.int .i64 a0_1), (.int .i64 a0_2), (.int .i64 a0_3), (.int .i64 a0_4)]), .v (.agg [(.sl 92 a1_0z a1_0)]), .v (.agg [(.int .i64 a2_0), (.int .i64 a2_1), (.nums 5 .u8 a2_2z a2_2), (.nums 5 .u8 a2_3z a2_3), (.sl 28 a2_4z a2_4)])]) 100000 k spec_QcCode.K0 (spec_QcCode.N0 x20z x20 x21 x22 c4_0z c4_0 c5_0 c5_1 c5_2z c5_2 c5_3z c5_3 c5_4z c5_4)) k a0_0 a0_1 a0_2 a0_3 a0_4 a1_0z a1_0 a2_0 a2_1 a2_2z a2_2 a2_3z a2_3 a2_4z a2_4) (by kernel_rfl) (Eq.trans ?_ (spec_QcCode.bn spec_QcCode.enc some (spec_QcCode.l0 k) k a0_0 a0_1 a0_2 a0_3 a0_4 a1_0z a1_0 a2_0 a2_1 a2_2z a2_2 a2_3z a2_3 a2_4z a2_4))
  simp only [ih, Option.map_some]
theorem spec_QcCode.sound (k : Nat) : SoundF Tryz.prog 21 (fun a => (spec_QcCode.ans k a).val) := by
  refine sound_plain (fun args res h => ?_) (fun t n => rfl)
  unfold spec_QcCode.ans at h
  dsimp only at h
  split at h
  · cases k with
    | zero => cases h
    | succ k =>
      unfold Ans.val at h
      rw [← spec_QcCode.eq] at h
      exact answer_sound mixed Tryz.func21 _ _ _ (k + 1) (fun j _ => tab_sound (tab_cons (spec_l23Goes.sound j) (tab_cons (spec_QcOk.sound j) (tab_cons (spec_QcVotes.sound j) (tab_cons (spec_VoteGood.sound j) (tab_cons (spec_IsQuorum.sound j) (tab_nil))))))) _ _ h
  · exact (Ans.no_val h).elim

end Go.Proofs.YtadnejogdohfkaaGreatG
