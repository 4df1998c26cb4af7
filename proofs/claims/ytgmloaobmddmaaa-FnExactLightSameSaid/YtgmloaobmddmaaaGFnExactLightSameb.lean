/- What the functions compute, printed by a program of this repo; each is shown to be what the machine of values answers. No condition. -/
import Derived.Test.YtgmloaobmddmaaaProg
import Derived.KernelRfl
import Derived.Test.YtgmloaobmddmaaaGFnExactLightSamea
namespace Go.Proofs.YtgmloaobmddmaaaG
open Go Go.Proofs.YtgmloaobmddmaaaRv Go.Proofs
set_option linter.unusedVariables false
set_option linter.unusedSimpArgs false
/-! loop.example/g00790/spec.HeadSame -/
def spec_HeadSame.b {R : Type} (ret : Bool → Option R) (k : Nat) (a0_0 : Int) (a0_1 : Int) (a0_2 : Int) (a0_3z : Bool) (a0_3 : List Int) (a0_4z : Bool) (a0_4 : List Int) (a0_5 : Int) (a0_6 : Int) (a0_7z : Bool) (a0_7 : List Int) (a0_8z : Bool) (a0_8 : List Int) (a0_9z : Bool) (a0_9 : List T) (a1_0 : Int) (a1_1 : Int) (a1_2 : Int) (a1_3z : Bool) (a1_3 : List Int) (a1_4z : Bool) (a1_4 : List Int) (a1_5 : Int) (a1_6 : Int) (a1_7z : Bool) (a1_7 : List Int) (a1_8z : Bool) (a1_8 : List Int) (a1_9z : Bool) (a1_9 : List T) : Option R :=
  cond (decide (a0_0 = a1_0)) (cond (decide (a0_1 = a1_1)) (cond (decide (a0_2 = a1_2)) ((spec_SameBytes.f k a0_3z a0_3 a1_3z a1_3).bind fun t0 => cond t0 ((spec_SameBytes.f k a0_4z a0_4 a1_4z a1_4).bind fun t1 => cond t1 ((spec_QcSame.f k a0_5 a0_6 a0_7z a0_7 a0_8z a0_8 a0_9z a0_9 a1_5 a1_6 a1_7z a1_7 a1_8z a1_8 a1_9z a1_9).bind fun t2 => ret t2) (ret false)) (ret false)) (ret false)) (ret false)) (ret false)
def spec_HeadSame.f : Nat → Int → Int → Int → Bool → (List Int) → Bool → (List Int) → Int → Int → Bool → (List Int) → Bool → (List Int) → Bool → (List T) → Int → Int → Int → Bool → (List Int) → Bool → (List Int) → Int → Int → Bool → (List Int) → Bool → (List Int) → Bool → (List T) → Option Bool
  | 0, _, _, _, _, _, _, _, _, _, _, _, _, _, _, _, _, _, _, _, _, _, _, _, _, _, _, _, _, _, _ => none
  | k + 1, a0_0, a0_1, a0_2, a0_3z, a0_3, a0_4z, a0_4, a0_5, a0_6, a0_7z, a0_7, a0_8z, a0_8, a0_9z, a0_9, a1_0, a1_1, a1_2, a1_3z, a1_3, a1_4z, a1_4, a1_5, a1_6, a1_7z, a1_7, a1_8z, a1_8, a1_9z, a1_9 => spec_HeadSame.b some k a0_0 a0_1 a0_2 a0_3z a0_3 a0_4z a0_4 a0_5 a0_6 a0_7z a0_7 a0_8z a0_8 a0_9z a0_9 a1_0 a1_1 a1_2 a1_3z a1_3 a1_4z a1_4 a1_5 a1_6 a1_7z a1_7 a1_8z a1_8 a1_9z a1_9
def spec_HeadSame.enc (r : Bool) : Res := ⟨[.vals false [((.bool r), true)]], []⟩
def spec_HeadSame.ans (k : Nat) : List Arg → Ans
  | [.v (.agg [(.int .i64 a0_0), (.int .i64 a0_1), (.int .i64 a0_2), (.nums 5 .u8 a0_3z a0_3), (.nums 5 .u8 a0_4z a0_4), (.int .i64 a0_5), (.int .i64 a0_6), (.nums 5 .u8 a0_7z a0_7), (.nums 5 .u8 a0_8z a0_8), (.sl 25 a0_9z a0_9)]), .v (.agg [(.int .i64 a1_0), (.int .i64 a1_1), (.int .i64 a1_2), (.nums 5 .u8 a1_3z a1_3), (.nums 5 .u8 a1_4z a1_4), (.int .i64 a1_5), (.int .i64 a1_6), (.nums 5 .u8 a1_7z a1_7), (.nums 5 .u8 a1_8z a1_8), (.sl 25 a1_9z a1_9)])] => ⟨spec_HeadSame.f k a0_0 a0_1 a0_2 a0_3z a0_3 a0_4z a0_4 a0_5 a0_6 a0_7z a0_7 a0_8z a0_8 a0_9z a0_9 a1_0 a1_1 a1_2 a1_3z a1_3 a1_4z a1_4 a1_5 a1_6 a1_7z a1_7 a1_8z a1_8 a1_9z a1_9, spec_HeadSame.enc⟩
  | _ => Ans.no
def spec_HeadSame.Cs (k : Nat) : CallSem := tab [(69, spec_SameBytes.ans k), (156, spec_QcSame.ans k)]
def spec_HeadSame.cuts : List (Nat × Keep) := []
theorem spec_HeadSame.s (k : Nat) (a0_0 : Int) (a0_1 : Int) (a0_2 : Int) (a0_3z : Bool) (a0_3 : List Int) (a0_4z : Bool) (a0_4 : List Int) (a0_5 : Int) (a0_6 : Int) (a0_7z : Bool) (a0_7 : List Int) (a0_8z : Bool) (a0_8 : List Int) (a0_9z : Bool) (a0_9 : List T) (a1_0 : Int) (a1_1 : Int) (a1_2 : Int) (a1_3z : Bool) (a1_3 : List Int) (a1_4z : Bool) (a1_4 : List Int) (a1_5 : Int) (a1_6 : Int) (a1_7z : Bool) (a1_7 : List Int) (a1_8z : Bool) (a1_8 : List Int) (a1_9z : Bool) (a1_9 : List T) : answer Try.prog spec_HeadSame.Cs 100000 spec_HeadSame.cuts [] Try.f97 (k + 1) [.v (.agg [(.int .i64 a0_0), (.int .i64 a0_1), (.int .i64 a0_2), (.nums 5 .u8 a0_3z a0_3), (.nums 5 .u8 a0_4z a0_4), (.int .i64 a0_5), (.int .i64 a0_6), (.nums 5 .u8 a0_7z a0_7), (.nums 5 .u8 a0_8z a0_8), (.sl 25 a0_9z a0_9)]), .v (.agg [(.int .i64 a1_0), (.int .i64 a1_1), (.int .i64 a1_2), (.nums 5 .u8 a1_3z a1_3), (.nums 5 .u8 a1_4z a1_4), (.int .i64 a1_5), (.int .i64 a1_6), (.nums 5 .u8 a1_7z a1_7), (.nums 5 .u8 a1_8z a1_8), (.sl 25 a1_9z a1_9)])] = spec_HeadSame.b (fun r => some (spec_HeadSame.enc r)) k a0_0 a0_1 a0_2 a0_3z a0_3 a0_4z a0_4 a0_5 a0_6 a0_7z a0_7 a0_8z a0_8 a0_9z a0_9 a1_0 a1_1 a1_2 a1_3z a1_3 a1_4z a1_4 a1_5 a1_6 a1_7z a1_7 a1_8z a1_8 a1_9z a1_9 := by kernel_rfl
theorem spec_HeadSame.b_nat {R R' : Type} (e : R → R') (ret : Bool → Option R) (k : Nat) (a0_0 : Int) (a0_1 : Int) (a0_2 : Int) (a0_3z : Bool) (a0_3 : List Int) (a0_4z : Bool) (a0_4 : List Int) (a0_5 : Int) (a0_6 : Int) (a0_7z : Bool) (a0_7 : List Int) (a0_8z : Bool) (a0_8 : List Int) (a0_9z : Bool) (a0_9 : List T) (a1_0 : Int) (a1_1 : Int) (a1_2 : Int) (a1_3z : Bool) (a1_3 : List Int) (a1_4z : Bool) (a1_4 : List Int) (a1_5 : Int) (a1_6 : Int) (a1_7z : Bool) (a1_7 : List Int) (a1_8z : Bool) (a1_8 : List Int) (a1_9z : Bool) (a1_9 : List T) : spec_HeadSame.b (fun r => (ret r).map e) k a0_0 a0_1 a0_2 a0_3z a0_3 a0_4z a0_4 a0_5 a0_6 a0_7z a0_7 a0_8z a0_8 a0_9z a0_9 a1_0 a1_1 a1_2 a1_3z a1_3 a1_4z a1_4 a1_5 a1_6 a1_7z a1_7 a1_8z a1_8 a1_9z a1_9 = (spec_HeadSame.b ret k a0_0 a0_1 a0_2 a0_3z a0_3 a0_4z a0_4 a0_5 a0_6 a0_7z a0_7 a0_8z a0_8 a0_9z a0_9 a1_0 a1_1 a1_2 a1_3z a1_3 a1_4z a1_4 a1_5 a1_6 a1_7z a1_7 a1_8z a1_8 a1_9z a1_9).map e := by
  unfold spec_HeadSame.b
  repeat' first | with_reducible refine nat_cond ?_ ?_ | with_reducible refine nat_bind fun _ => ?_ | rfl
theorem spec_HeadSame.eq (k : Nat) (a0_0 : Int) (a0_1 : Int) (a0_2 : Int) (a0_3z : Bool) (a0_3 : List Int) (a0_4z : Bool) (a0_4 : List Int) (a0_5 : Int) (a0_6 : Int) (a0_7z : Bool) (a0_7 : List Int) (a0_8z : Bool) (a0_8 : List Int) (a0_9z : Bool) (a0_9 : List T) (a1_0 : Int) (a1_1 : Int) (a1_2 : Int) (a1_3z : Bool) (a1_3 : List Int) (a1_4z : Bool) (a1_4 : List Int) (a1_5 : Int) (a1_6 : Int) (a1_7z : Bool) (a1_7 : List Int) (a1_8z : Bool) (a1_8 : List Int) (a1_9z : Bool) (a1_9 : List T) : answer Try.prog spec_HeadSame.Cs 100000 spec_HeadSame.cuts [] Try.f97 (k + 1) [.v (.agg [(.int .i64 a0_0), (.int .i64 a0_1), (.int .i64 a0_2), (.nums 5 .u8 a0_3z a0_3), (.nums 5 .u8 a0_4z a0_4), (.int .i64 a0_5), (.int .i64 a0_6), (.nums 5 .u8 a0_7z a0_7), (.nums 5 .u8 a0_8z a0_8), (.sl 25 a0_9z a0_9)]), .v (.agg [(.int .i64 a1_0), (.int .i64 a1_1), (.int .i64 a1_2), (.nums 5 .u8 a1_3z a1_3), (.nums 5 .u8 a1_4z a1_4), (.int .i64 a1_5), (.int .i64 a1_6), (.nums 5 .u8 a1_7z a1_7), (.nums 5 .u8 a1_8z a1_8), (.sl 25 a1_9z a1_9)])] = (spec_HeadSame.f (k + 1) a0_0 a0_1 a0_2 a0_3z a0_3 a0_4z a0_4 a0_5 a0_6 a0_7z a0_7 a0_8z a0_8 a0_9z a0_9 a1_0 a1_1 a1_2 a1_3z a1_3 a1_4z a1_4 a1_5 a1_6 a1_7z a1_7 a1_8z a1_8 a1_9z a1_9).map spec_HeadSame.enc := by
  refine (spec_HeadSame.s k a0_0 a0_1 a0_2 a0_3z a0_3 a0_4z a0_4 a0_5 a0_6 a0_7z a0_7 a0_8z a0_8 a0_9z a0_9 a1_0 a1_1 a1_2 a1_3z a1_3 a1_4z a1_4 a1_5 a1_6 a1_7z a1_7 a1_8z a1_8 a1_9z a1_9).trans (Eq.trans ?_ (spec_HeadSame.b_nat spec_HeadSame.enc some k a0_0 a0_1 a0_2 a0_3z a0_3 a0_4z a0_4 a0_5 a0_6 a0_7z a0_7 a0_8z a0_8 a0_9z a0_9 a1_0 a1_1 a1_2 a1_3z a1_3 a1_4z a1_4 a1_5 a1_6 a1_7z a1_7 a1_8z a1_8 a1_9z a1_9))
  simp only [Option.map_some]
theorem spec_HeadSame.sound (k : Nat) : SoundF Try.prog 97 (fun a => (spec_HeadSame.ans k a).val) := by
  intro args res h
  unfold spec_HeadSame.ans at h
  dsimp only at h
  split at h
  · cases k with
    | zero => cases h
    | succ k =>
      unfold Ans.val at h
      rw [← spec_HeadSame.eq] at h
      exact answer_sound mixed Try.func97 _ _ _ (k + 1) (fun j _ => tab_sound (tab_cons (spec_SameBytes.sound j) (tab_cons (spec_QcSame.sound j) (tab_nil)))) _ _ h
  · exact (Ans.no_val h).elim

/-! loop.example/g00790/spec.LightSame -/
def spec_LightSame.b {R : Type} (ret : Bool → Option R) (j0 : Int → Int → Int → Int → Int → Int → Int → Bool → (List T) → Int → Bool → (List Int) → Bool → (List T) → Int → Int → Int → Int → Int → Bool → (List T) → Int → Bool → (List Int) → Bool → (List T) → Option R) (k : Nat) (a0_0 : Int) (a0_1 : Int) (a0_2 : Int) (a0_3 : Int) (a0_4 : Int) (a0_5z : Bool) (a0_5 : List T) (a0_6 : Int) (a0_7z : Bool) (a0_7 : List Int) (a0_8z : Bool) (a0_8 : List T) (a1_0 : Int) (a1_1 : Int) (a1_2 : Int) (a1_3 : Int) (a1_4 : Int) (a1_5z : Bool) (a1_5 : List T) (a1_6 : Int) (a1_7z : Bool) (a1_7 : List Int) (a1_8z : Bool) (a1_8 : List T) : Option R :=
  cond (!((decide (a0_0 = a1_0) && (decide (a0_1 = a1_1) && (decide (a0_2 = a1_2) && (decide (a0_3 = a1_3) && (decide (a0_4 = a1_4) && true))))))) (ret false) ((spec_TableSame.f k a0_5z a0_5 a1_5z a1_5).bind fun t0 => cond (!t0) (ret false) (cond (!(decide (a0_6 = a1_6))) (ret false) ((spec_SameBytes.f k a0_7z a0_7 a1_7z a1_7).bind fun t1 => cond (!t1) (ret false) (cond (!(decide (((a0_8).length : Int) = ((a1_8).length : Int)))) (ret false) (j0 ((a0_8).length : Int) 0 a0_0 a0_1 a0_2 a0_3 a0_4 a0_5z a0_5 a0_6 a0_7z a0_7 a0_8z a0_8 a1_0 a1_1 a1_2 a1_3 a1_4 a1_5z a1_5 a1_6 a1_7z a1_7 a1_8z a1_8)))))
def spec_LightSame.l0b {R : Type} (ret : Bool → Option R) (j0 : Int → Int → Int → Int → Int → Int → Int → Bool → (List T) → Int → Bool → (List Int) → Bool → (List T) → Int → Int → Int → Int → Int → Bool → (List T) → Int → Bool → (List Int) → Bool → (List T) → Option R) (k : Nat) (x49 : Int) (x50 : Int) (c2_0 : Int) (c2_1 : Int) (c2_2 : Int) (c2_3 : Int) (c2_4 : Int) (c2_5z : Bool) (c2_5 : List T) (c2_6 : Int) (c2_7z : Bool) (c2_7 : List Int) (c2_8z : Bool) (c2_8 : List T) (c3_0 : Int) (c3_1 : Int) (c3_2 : Int) (c3_3 : Int) (c3_4 : Int) (c3_5z : Bool) (c3_5 : List T) (c3_6 : Int) (c3_7z : Bool) (c3_7 : List Int) (c3_8z : Bool) (c3_8 : List T) : Option R :=
  cond (decide (x50 < x49)) (cond (decide ((0 : Int) ≤ x50)) (cond (decide (x50 < ((c2_8).length : Int))) (cond (decide ((0 : Int) ≤ x50)) (cond (decide (x50 < ((c3_8).length : Int))) ((spec_HeadSame.f k (((((c2_8).getD (x50).toNat .bad).cells.getD 0 .bad)).toInt) (((((c2_8).getD (x50).toNat .bad).cells.getD 1 .bad)).toInt) (((((c2_8).getD (x50).toNat .bad).cells.getD 2 .bad)).toInt) (((((c2_8).getD (x50).toNat .bad).cells.getD 3 .bad)).isNil) (((((c2_8).getD (x50).toNat .bad).cells.getD 3 .bad)).toNums) (((((c2_8).getD (x50).toNat .bad).cells.getD 4 .bad)).isNil) (((((c2_8).getD (x50).toNat .bad).cells.getD 4 .bad)).toNums) (((((c2_8).getD (x50).toNat .bad).cells.getD 5 .bad)).toInt) (((((c2_8).getD (x50).toNat .bad).cells.getD 6 .bad)).toInt) (((((c2_8).getD (x50).toNat .bad).cells.getD 7 .bad)).isNil) (((((c2_8).getD (x50).toNat .bad).cells.getD 7 .bad)).toNums) (((((c2_8).getD (x50).toNat .bad).cells.getD 8 .bad)).isNil) (((((c2_8).getD (x50).toNat .bad).cells.getD 8 .bad)).toNums) (((((c2_8).getD (x50).toNat .bad).cells.getD 9 .bad)).isNil) (((((c2_8).getD (x50).toNat .bad).cells.getD 9 .bad)).toList) (((((c3_8).getD (x50).toNat .bad).cells.getD 0 .bad)).toInt) (((((c3_8).getD (x50).toNat .bad).cells.getD 1 .bad)).toInt) (((((c3_8).getD (x50).toNat .bad).cells.getD 2 .bad)).toInt) (((((c3_8).getD (x50).toNat .bad).cells.getD 3 .bad)).isNil) (((((c3_8).getD (x50).toNat .bad).cells.getD 3 .bad)).toNums) (((((c3_8).getD (x50).toNat .bad).cells.getD 4 .bad)).isNil) (((((c3_8).getD (x50).toNat .bad).cells.getD 4 .bad)).toNums) (((((c3_8).getD (x50).toNat .bad).cells.getD 5 .bad)).toInt) (((((c3_8).getD (x50).toNat .bad).cells.getD 6 .bad)).toInt) (((((c3_8).getD (x50).toNat .bad).cells.getD 7 .bad)).isNil) (((((c3_8).getD (x50).toNat .bad).cells.getD 7 .bad)).toNums) (((((c3_8).getD (x50).toNat .bad).cells.getD 8 .bad)).isNil) (((((c3_8).getD (x50).toNat .bad).cells.getD 8 .bad)).toNums) (((((c3_8).getD (x50).toNat .bad).cells.getD 9 .bad)).isNil) (((((c3_8).getD (x50).toNat .bad).cells.getD 9 .bad)).toList)).bind fun t0 => cond (!t0) (ret false) (j0 x49 (RowKit.wrap64 (x50 + 1)) c2_0 c2_1 c2_2 c2_3 c2_4 c2_5z c2_5 c2_6 c2_7z c2_7 c2_8z c2_8 c3_0 c3_1 c3_2 c3_3 c3_4 c3_5z c3_5 c3_6 c3_7z c3_7 c3_8z c3_8)) (none)) (none)) (none)) (none)) (ret true)
def spec_LightSame.l0 : Nat → Int → Int → Int → Int → Int → Int → Int → Bool → (List T) → Int → Bool → (List Int) → Bool → (List T) → Int → Int → Int → Int → Int → Bool → (List T) → Int → Bool → (List Int) → Bool → (List T) → Option Bool
  | 0, _, _, _, _, _, _, _, _, _, _, _, _, _, _, _, _, _, _, _, _, _, _, _, _, _, _ => none
  | k + 1, x49, x50, c2_0, c2_1, c2_2, c2_3, c2_4, c2_5z, c2_5, c2_6, c2_7z, c2_7, c2_8z, c2_8, c3_0, c3_1, c3_2, c3_3, c3_4, c3_5z, c3_5, c3_6, c3_7z, c3_7, c3_8z, c3_8 => spec_LightSame.l0b some (spec_LightSame.l0 k) k x49 x50 c2_0 c2_1 c2_2 c2_3 c2_4 c2_5z c2_5 c2_6 c2_7z c2_7 c2_8z c2_8 c3_0 c3_1 c3_2 c3_3 c3_4 c3_5z c3_5 c3_6 c3_7z c3_7 c3_8z c3_8
def spec_LightSame.f : Nat → Int → Int → Int → Int → Int → Bool → (List T) → Int → Bool → (List Int) → Bool → (List T) → Int → Int → Int → Int → Int → Bool → (List T) → Int → Bool → (List Int) → Bool → (List T) → Option Bool
  | 0, _, _, _, _, _, _, _, _, _, _, _, _, _, _, _, _, _, _, _, _, _, _, _, _ => none
  | k + 1, a0_0, a0_1, a0_2, a0_3, a0_4, a0_5z, a0_5, a0_6, a0_7z, a0_7, a0_8z, a0_8, a1_0, a1_1, a1_2, a1_3, a1_4, a1_5z, a1_5, a1_6, a1_7z, a1_7, a1_8z, a1_8 => spec_LightSame.b some (spec_LightSame.l0 k) k a0_0 a0_1 a0_2 a0_3 a0_4 a0_5z a0_5 a0_6 a0_7z a0_7 a0_8z a0_8 a1_0 a1_1 a1_2 a1_3 a1_4 a1_5z a1_5 a1_6 a1_7z a1_7 a1_8z a1_8
def spec_LightSame.enc (r : Bool) : Res := ⟨[.vals false [((.bool r), true)]], []⟩
def spec_LightSame.ans (k : Nat) : List Arg → Ans
  | [.v (.agg [(.int .i64 a0_0), (.int .i64 a0_1), (.int .i64 a0_2), (.int .i64 a0_3), (.int .i64 a0_4), (.sl 127 a0_5z a0_5), (.int .i64 a0_6), (.nums 5 .u8 a0_7z a0_7), (.sl 46 a0_8z a0_8)]), .v (.agg [(.int .i64 a1_0), (.int .i64 a1_1), (.int .i64 a1_2), (.int .i64 a1_3), (.int .i64 a1_4), (.sl 127 a1_5z a1_5), (.int .i64 a1_6), (.nums 5 .u8 a1_7z a1_7), (.sl 46 a1_8z a1_8)])] => ⟨spec_LightSame.f k a0_0 a0_1 a0_2 a0_3 a0_4 a0_5z a0_5 a0_6 a0_7z a0_7 a0_8z a0_8 a1_0 a1_1 a1_2 a1_3 a1_4 a1_5z a1_5 a1_6 a1_7z a1_7 a1_8z a1_8, spec_LightSame.enc⟩
  | _ => Ans.no
def spec_LightSame.Cs (k : Nat) : CallSem := tab [(96, spec_TableSame.ans k), (69, spec_SameBytes.ans k), (97, spec_HeadSame.ans k)]
def spec_LightSame.cuts : List (Nat × Keep) := [(58, ⟨[(2, some []), (3, some []), (49, some []), (50, some [])], [(2, [some [], some [], some [], some [], some [], some [], some [], some [], some []]), (3, [some [], some [], some [], some [], some [], some [], some [], some [], some []])]⟩)]
noncomputable def spec_LightSame.K0 : List Fr := framesAt [true, true, false, true, false] (bodyOf Try.f34 spec_LightSame.cuts) []
def spec_LightSame.N0 (x49 : Int) (x50 : Int) (c2_0 : Int) (c2_1 : Int) (c2_2 : Int) (c2_3 : Int) (c2_4 : Int) (c2_5z : Bool) (c2_5 : List T) (c2_6 : Int) (c2_7z : Bool) (c2_7 : List Int) (c2_8z : Bool) (c2_8 : List T) (c3_0 : Int) (c3_1 : Int) (c3_2 : Int) (c3_3 : Int) (c3_4 : Int) (c3_5z : Bool) (c3_5 : List T) (c3_6 : Int) (c3_7z : Bool) (c3_7 : List Int) (c3_8z : Bool) (c3_8 : List T) : St := stOf 66 66 2 [(2, .bp 2 0), (3, .bp 3 0), (49, .val (V.s (.int .i64 x49))), (50, .val (V.s (.int .i64 x50)))] [(2, .cells [V.s (.int .i64 c2_0), V.s (.int .i64 c2_1), V.s (.int .i64 c2_2), V.s (.int .i64 c2_3), V.s (.int .i64 c2_4), ⟨(.sl 127 c2_5z c2_5), [], false, none⟩, V.s (.int .i64 c2_6), ⟨(.nums 5 .u8 c2_7z c2_7), [], false, none⟩, ⟨(.sl 46 c2_8z c2_8), [], false, none⟩]), (3, .cells [V.s (.int .i64 c3_0), V.s (.int .i64 c3_1), V.s (.int .i64 c3_2), V.s (.int .i64 c3_3), V.s (.int .i64 c3_4), ⟨(.sl 127 c3_5z c3_5), [], false, none⟩, V.s (.int .i64 c3_6), ⟨(.nums 5 .u8 c3_7z c3_7), [], false, none⟩, ⟨(.sl 46 c3_8z c3_8), [], false, none⟩])]
theorem spec_LightSame.s (k : Nat) (a0_0 : Int) (a0_1 : Int) (a0_2 : Int) (a0_3 : Int) (a0_4 : Int) (a0_5z : Bool) (a0_5 : List T) (a0_6 : Int) (a0_7z : Bool) (a0_7 : List Int) (a0_8z : Bool) (a0_8 : List T) (a1_0 : Int) (a1_1 : Int) (a1_2 : Int) (a1_3 : Int) (a1_4 : Int) (a1_5z : Bool) (a1_5 : List T) (a1_6 : Int) (a1_7z : Bool) (a1_7 : List Int) (a1_8z : Bool) (a1_8 : List T) : answer Try.prog spec_LightSame.Cs 100000 spec_LightSame.cuts [] Try.f34 (k + 1) [.v (.agg [(.int .i64 a0_0), (.int .i64 a0_1), (.int .i64 a0_2), (.int .i64 a0_3), (.int .i64 a0_4), (.sl 127 a0_5z a0_5), (.int .i64 a0_6), (.nums 5 .u8 a0_7z a0_7), (.sl 46 a0_8z a0_8)]), .v (.agg [(.int .i64 a1_0), (.int .i64 a1_1), (.int .i64 a1_2), (.int .i64 a1_3), (.int .i64 a1_4), (.sl 127 a1_5z a1_5), (.int .i64 a1_6), (.nums 5 .u8 a1_7z a1_7), (.sl 46 a1_8z a1_8)])] = spec_LightSame.b (fun r => some (spec_LightSame.enc r)) (fun x49 x50 c2_0 c2_1 c2_2 c2_3 c2_4 c2_5z c2_5 c2_6 c2_7z c2_7 c2_8z c2_8 c3_0 c3_1 c3_2 c3_3 c3_4 c3_5z c3_5 c3_6 c3_7z c3_7 c3_8z c3_8 => rounds Try.prog spec_LightSame.Cs (finish Try.prog [] Try.f34 [.v (.agg [(.int .i64 a0_0), (.int .i64 a0_1), (.int .i64 a0_2), (.int .i64 a0_3), (.int .i64 a0_4), (.sl 127 a0_5z a0_5), (.int .i64 a0_6), (.nums 5 .u8 a0_7z a0_7), (.sl 46 a0_8z a0_8)]), .v (.agg [(.int .i64 a1_0), (.int .i64 a1_1), (.int .i64 a1_2), (.int .i64 a1_3), (.int .i64 a1_4), (.sl 127 a1_5z a1_5), (.int .i64 a1_6), (.nums 5 .u8 a1_7z a1_7), (.sl 46 a1_8z a1_8)])]) 100000 k spec_LightSame.K0 (spec_LightSame.N0 x49 x50 c2_0 c2_1 c2_2 c2_3 c2_4 c2_5z c2_5 c2_6 c2_7z c2_7 c2_8z c2_8 c3_0 c3_1 c3_2 c3_3 c3_4 c3_5z c3_5 c3_6 c3_7z c3_7 c3_8z c3_8)) k a0_0 a0_1 a0_2 a0_3 a0_4 a0_5z a0_5 a0_6 a0_7z a0_7 a0_8z a0_8 a1_0 a1_1 a1_2 a1_3 a1_4 a1_5z a1_5 a1_6 a1_7z a1_7 a1_8z a1_8 := by kernel_rfl
theorem spec_LightSame.s0 (k : Nat) (G : List Fr → St → Option Res) (a0_0 : Int) (a0_1 : Int) (a0_2 : Int) (a0_3 : Int) (a0_4 : Int) (a0_5z : Bool) (a0_5 : List T) (a0_6 : Int) (a0_7z : Bool) (a0_7 : List Int) (a0_8z : Bool) (a0_8 : List T) (a1_0 : Int) (a1_1 : Int) (a1_2 : Int) (a1_3 : Int) (a1_4 : Int) (a1_5z : Bool) (a1_5 : List T) (a1_6 : Int) (a1_7z : Bool) (a1_7 : List Int) (a1_8z : Bool) (a1_8 : List T) (yx49 : Int) (yx50 : Int) (yc2_0 : Int) (yc2_1 : Int) (yc2_2 : Int) (yc2_3 : Int) (yc2_4 : Int) (yc2_5z : Bool) (yc2_5 : List T) (yc2_6 : Int) (yc2_7z : Bool) (yc2_7 : List Int) (yc2_8z : Bool) (yc2_8 : List T) (yc3_0 : Int) (yc3_1 : Int) (yc3_2 : Int) (yc3_3 : Int) (yc3_4 : Int) (yc3_5z : Bool) (yc3_5 : List T) (yc3_6 : Int) (yc3_7z : Bool) (yc3_7 : List Int) (yc3_8z : Bool) (yc3_8 : List T) : resume Try.prog (spec_LightSame.Cs k) G (finish Try.prog [] Try.f34 [.v (.agg [(.int .i64 a0_0), (.int .i64 a0_1), (.int .i64 a0_2), (.int .i64 a0_3), (.int .i64 a0_4), (.sl 127 a0_5z a0_5), (.int .i64 a0_6), (.nums 5 .u8 a0_7z a0_7), (.sl 46 a0_8z a0_8)]), .v (.agg [(.int .i64 a1_0), (.int .i64 a1_1), (.int .i64 a1_2), (.int .i64 a1_3), (.int .i64 a1_4), (.sl 127 a1_5z a1_5), (.int .i64 a1_6), (.nums 5 .u8 a1_7z a1_7), (.sl 46 a1_8z a1_8)])]) 100000 spec_LightSame.K0 (spec_LightSame.N0 yx49 yx50 yc2_0 yc2_1 yc2_2 yc2_3 yc2_4 yc2_5z yc2_5 yc2_6 yc2_7z yc2_7 yc2_8z yc2_8 yc3_0 yc3_1 yc3_2 yc3_3 yc3_4 yc3_5z yc3_5 yc3_6 yc3_7z yc3_7 yc3_8z yc3_8) = spec_LightSame.l0b (fun r => some (spec_LightSame.enc r)) (fun x49 x50 c2_0 c2_1 c2_2 c2_3 c2_4 c2_5z c2_5 c2_6 c2_7z c2_7 c2_8z c2_8 c3_0 c3_1 c3_2 c3_3 c3_4 c3_5z c3_5 c3_6 c3_7z c3_7 c3_8z c3_8 => G spec_LightSame.K0 (spec_LightSame.N0 x49 x50 c2_0 c2_1 c2_2 c2_3 c2_4 c2_5z c2_5 c2_6 c2_7z c2_7 c2_8z c2_8 c3_0 c3_1 c3_2 c3_3 c3_4 c3_5z c3_5 c3_6 c3_7z c3_7 c3_8z c3_8)) k yx49 yx50 yc2_0 yc2_1 yc2_2 yc2_3 yc2_4 yc2_5z yc2_5 yc2_6 yc2_7z yc2_7 yc2_8z yc2_8 yc3_0 yc3_1 yc3_2 yc3_3 yc3_4 yc3_5z yc3_5 yc3_6 yc3_7z yc3_7 yc3_8z yc3_8 := by kernel_rfl
theorem spec_LightSame.b_nat {R R' : Type} (e : R → R') (ret : Bool → Option R) (j0 : Int → Int → Int → Int → Int → Int → Int → Bool → (List T) → Int → Bool → (List Int) → Bool → (List T) → Int → Int → Int → Int → Int → Bool → (List T) → Int → Bool → (List Int) → Bool → (List T) → Option R) (k : Nat) (a0_0 : Int) (a0_1 : Int) (a0_2 : Int) (a0_3 : Int) (a0_4 : Int) (a0_5z : Bool) (a0_5 : List T) (a0_6 : Int) (a0_7z : Bool) (a0_7 : List Int) (a0_8z : Bool) (a0_8 : List T) (a1_0 : Int) (a1_1 : Int) (a1_2 : Int) (a1_3 : Int) (a1_4 : Int) (a1_5z : Bool) (a1_5 : List T) (a1_6 : Int) (a1_7z : Bool) (a1_7 : List Int) (a1_8z : Bool) (a1_8 : List T) : spec_LightSame.b (fun r => (ret r).map e) (fun x49 x50 c2_0 c2_1 c2_2 c2_3 c2_4 c2_5z c2_5 c2_6 c2_7z c2_7 c2_8z c2_8 c3_0 c3_1 c3_2 c3_3 c3_4 c3_5z c3_5 c3_6 c3_7z c3_7 c3_8z c3_8 => (j0 x49 x50 c2_0 c2_1 c2_2 c2_3 c2_4 c2_5z c2_5 c2_6 c2_7z c2_7 c2_8z c2_8 c3_0 c3_1 c3_2 c3_3 c3_4 c3_5z c3_5 c3_6 c3_7z c3_7 c3_8z c3_8).map e) k a0_0 a0_1 a0_2 a0_3 a0_4 a0_5z a0_5 a0_6 a0_7z a0_7 a0_8z a0_8 a1_0 a1_1 a1_2 a1_3 a1_4 a1_5z a1_5 a1_6 a1_7z a1_7 a1_8z a1_8 = (spec_LightSame.b ret j0 k a0_0 a0_1 a0_2 a0_3 a0_4 a0_5z a0_5 a0_6 a0_7z a0_7 a0_8z a0_8 a1_0 a1_1 a1_2 a1_3 a1_4 a1_5z a1_5 a1_6 a1_7z a1_7 a1_8z a1_8).map e := by
  unfold spec_LightSame.b
  repeat' first | with_reducible refine nat_cond ?_ ?_ | with_reducible refine nat_bind fun _ => ?_ | rfl
theorem spec_LightSame.l0b_nat {R R' : Type} (e : R → R') (ret : Bool → Option R) (j0 : Int → Int → Int → Int → Int → Int → Int → Bool → (List T) → Int → Bool → (List Int) → Bool → (List T) → Int → Int → Int → Int → Int → Bool → (List T) → Int → Bool → (List Int) → Bool → (List T) → Option R) (k : Nat) (x49 : Int) (x50 : Int) (c2_0 : Int) (c2_1 : Int) (c2_2 : Int) (c2_3 : Int) (c2_4 : Int) (c2_5z : Bool) (c2_5 : List T) (c2_6 : Int) (c2_7z : Bool) (c2_7 : List Int) (c2_8z : Bool) (c2_8 : List T) (c3_0 : Int) (c3_1 : Int) (c3_2 : Int) (c3_3 : Int) (c3_4 : Int) (c3_5z : Bool) (c3_5 : List T) (c3_6 : Int) (c3_7z : Bool) (c3_7 : List Int) (c3_8z : Bool) (c3_8 : List T) : spec_LightSame.l0b (fun r => (ret r).map e) (fun x49 x50 c2_0 c2_1 c2_2 c2_3 c2_4 c2_5z c2_5 c2_6 c2_7z c2_7 c2_8z c2_8 c3_0 c3_1 c3_2 c3_3 c3_4 c3_5z c3_5 c3_6 c3_7z c3_7 c3_8z c3_8 => (j0 x49 x50 c2_0 c2_1 c2_2 c2_3 c2_4 c2_5z c2_5 c2_6 c2_7z c2_7 c2_8z c2_8 c3_0 c3_1 c3_2 c3_3 c3_4 c3_5z c3_5 c3_6 c3_7z c3_7 c3_8z c3_8).map e) k x49 x50 c2_0 c2_1 c2_2 c2_3 c2_4 c2_5z c2_5 c2_6 c2_7z c2_7 c2_8z c2_8 c3_0 c3_1 c3_2 c3_3 c3_4 c3_5z c3_5 c3_6 c3_7z c3_7 c3_8z c3_8 = (spec_LightSame.l0b ret j0 k x49 x50 c2_0 c2_1 c2_2 c2_3 c2_4 c2_5z c2_5 c2_6 c2_7z c2_7 c2_8z c2_8 c3_0 c3_1 c3_2 c3_3 c3_4 c3_5z c3_5 c3_6 c3_7z c3_7 c3_8z c3_8).map e := by
  unfold spec_LightSame.l0b
  repeat' first | with_reducible refine nat_cond ?_ ?_ | with_reducible refine nat_bind fun _ => ?_ | rfl
theorem spec_LightSame.rounds_eq (a0_0 : Int) (a0_1 : Int) (a0_2 : Int) (a0_3 : Int) (a0_4 : Int) (a0_5z : Bool) (a0_5 : List T) (a0_6 : Int) (a0_7z : Bool) (a0_7 : List Int) (a0_8z : Bool) (a0_8 : List T) (a1_0 : Int) (a1_1 : Int) (a1_2 : Int) (a1_3 : Int) (a1_4 : Int) (a1_5z : Bool) (a1_5 : List T) (a1_6 : Int) (a1_7z : Bool) (a1_7 : List Int) (a1_8z : Bool) (a1_8 : List T) : ∀ k, (∀ (x49 : Int) (x50 : Int) (c2_0 : Int) (c2_1 : Int) (c2_2 : Int) (c2_3 : Int) (c2_4 : Int) (c2_5z : Bool) (c2_5 : List T) (c2_6 : Int) (c2_7z : Bool) (c2_7 : List Int) (c2_8z : Bool) (c2_8 : List T) (c3_0 : Int) (c3_1 : Int) (c3_2 : Int) (c3_3 : Int) (c3_4 : Int) (c3_5z : Bool) (c3_5 : List T) (c3_6 : Int) (c3_7z : Bool) (c3_7 : List Int) (c3_8z : Bool) (c3_8 : List T), rounds Try.prog spec_LightSame.Cs (finish Try.prog [] Try.f34 [.v (.agg [(.int .i64 a0_0), (.int .i64 a0_1), (.int .i64 a0_2), (.int .i64 a0_3), (.int .i64 a0_4), (.sl 127 a0_5z a0_5), (.int .i64 a0_6), (.nums 5 .u8 a0_7z a0_7), (.sl 46 a0_8z a0_8)]), .v (.agg [(.int .i64 a1_0), (.int .i64 a1_1), (.int .i64 a1_2), (.int .i64 a1_3), (.int .i64 a1_4), (.sl 127 a1_5z a1_5), (.int .i64 a1_6), (.nums 5 .u8 a1_7z a1_7), (.sl 46 a1_8z a1_8)])]) 100000 k spec_LightSame.K0 (spec_LightSame.N0 x49 x50 c2_0 c2_1 c2_2 c2_3 c2_4 c2_5z c2_5 c2_6 c2_7z c2_7 c2_8z c2_8 c3_0 c3_1 c3_2 c3_3 c3_4 c3_5z c3_5 c3_6 c3_7z c3_7 c3_8z c3_8) = (spec_LightSame.l0 k x49 x50 c2_0 c2_1 c2_2 c2_3 c2_4 c2_5z c2_5 c2_6 c2_7z c2_7 c2_8z c2_8 c3_0 c3_1 c3_2 c3_3 c3_4 c3_5z c3_5 c3_6 c3_7z c3_7 c3_8z c3_8).map spec_LightSame.enc)
  | 0 => fun _ _ _ _ _ _ _ _ _ _ _ _ _ _ _ _ _ _ _ _ _ _ _ _ _ _ => rfl
  | k + 1 => by
    have ih := spec_LightSame.rounds_eq a0_0 a0_1 a0_2 a0_3 a0_4 a0_5z a0_5 a0_6 a0_7z a0_7 a0_8z a0_8 a1_0 a1_1 a1_2 a1_3 a1_4 a1_5z a1_5 a1_6 a1_7z a1_7 a1_8z a1_8 k
    refine fun _ _ _ _ _ _ _ _ _ _ _ _ _ _ _ _ _ _ _ _ _ _ _ _ _ _ => ?_
    · refine (spec_LightSame.s0 k _ a0_0 a0_1 a0_2 a0_3 a0_4 a0_5z a0_5 a0_6 a0_7z a0_7 a0_8z a0_8 a1_0 a1_1 a1_2 a1_3 a1_4 a1_5z a1_5 a1_6 a1_7z a1_7 a1_8z a1_8 _ _ _ _ _ _ _ _ _ _ _ _ _ _ _ _ _ _ _ _ _ _ _ _ _ _).trans (Eq.trans ?_ (spec_LightSame.l0b_nat spec_LightSame.enc some (spec_LightSame.l0 k) k _ _ _ _ _ _ _ _ _ _ _ _ _ _ _ _ _ _ _ _ _ _ _ _ _ _))
      simp only [ih, Option.map_some]
theorem spec_LightSame.eq (k : Nat) (a0_0 : Int) (a0_1 : Int) (a0_2 : Int) (a0_3 : Int) (a0_4 : Int) (a0_5z : Bool) (a0_5 : List T) (a0_6 : Int) (a0_7z : Bool) (a0_7 : List Int) (a0_8z : Bool) (a0_8 : List T) (a1_0 : Int) (a1_1 : Int) (a1_2 : Int) (a1_3 : Int) (a1_4 : Int) (a1_5z : Bool) (a1_5 : List T) (a1_6 : Int) (a1_7z : Bool) (a1_7 : List Int) (a1_8z : Bool) (a1_8 : List T) : answer Try.prog spec_LightSame.Cs 100000 spec_LightSame.cuts [] Try.f34 (k + 1) [.v (.agg [(.int .i64 a0_0), (.int .i64 a0_1), (.int .i64 a0_2), (.int .i64 a0_3), (.int .i64 a0_4), (.sl 127 a0_5z a0_5), (.int .i64 a0_6), (.nums 5 .u8 a0_7z a0_7), (.sl 46 a0_8z a0_8)]), .v (.agg [(.int .i64 a1_0), (.int .i64 a1_1), (.int .i64 a1_2), (.int .i64 a1_3), (.int .i64 a1_4), (.sl 127 a1_5z a1_5), (.int .i64 a1_6), (.nums 5 .u8 a1_7z a1_7), (.sl 46 a1_8z a1_8)])] = (spec_LightSame.f (k + 1) a0_0 a0_1 a0_2 a0_3 a0_4 a0_5z a0_5 a0_6 a0_7z a0_7 a0_8z a0_8 a1_0 a1_1 a1_2 a1_3 a1_4 a1_5z a1_5 a1_6 a1_7z a1_7 a1_8z a1_8).map spec_LightSame.enc := by
  have ih := spec_LightSame.rounds_eq a0_0 a0_1 a0_2 a0_3 a0_4 a0_5z a0_5 a0_6 a0_7z a0_7 a0_8z a0_8 a1_0 a1_1 a1_2 a1_3 a1_4 a1_5z a1_5 a1_6 a1_7z a1_7 a1_8z a1_8 k
  refine (spec_LightSame.s k a0_0 a0_1 a0_2 a0_3 a0_4 a0_5z a0_5 a0_6 a0_7z a0_7 a0_8z a0_8 a1_0 a1_1 a1_2 a1_3 a1_4 a1_5z a1_5 a1_6 a1_7z a1_7 a1_8z a1_8).trans (Eq.trans ?_ (spec_LightSame.b_nat spec_LightSame.enc some (spec_LightSame.l0 k) k a0_0 a0_1 a0_2 a0_3 a0_4 a0_5z a0_5 a0_6 a0_7z a0_7 a0_8z a0_8 a1_0 a1_1 a1_2 a1_3 a1_4 a1_5z a1_5 a1_6 a1_7z a1_7 a1_8z a1_8))
  simp only [ih, Option.map_some]
theorem spec_LightSame.sound (k : Nat) : SoundF Try.prog 34 (fun a => (spec_LightSame.ans k a).val) := by
  intro args res h
  unfold spec_LightSame.ans at h
  dsimp only at h
  split at h
  · cases k with
    | zero => cases h
    | succ k =>
      unfold Ans.val at h
      rw [← spec_LightSame.eq] at h
      exact answer_sound mixed Try.func34 _ _ _ (k + 1) (fun j _ => tab_sound (tab_cons (spec_TableSame.sound j) (tab_cons (spec_SameBytes.sound j) (tab_cons (spec_HeadSame.sound j) (tab_nil))))) _ _ h
  · exact (Ans.no_val h).elim

/-! loop.example/g00790/impl.SameBytes -/
def impl_SameBytes.b {R : Type} (ret : Bool → Option R) (k : Nat) (a0z : Bool) (a0 : List Int) (a1z : Bool) (a1 : List Int) : Option R :=
  ret (decide ((strOf a0) = (strOf a1)))
def impl_SameBytes.f : Nat → Bool → (List Int) → Bool → (List Int) → Option Bool
  | 0, _, _, _, _ => none
  | k + 1, a0z, a0, a1z, a1 => impl_SameBytes.b some k a0z a0 a1z a1
def impl_SameBytes.enc (r : Bool) : Res := ⟨[.vals false [((.bool r), true)]], []⟩
def impl_SameBytes.ans (k : Nat) : List Arg → Ans
  | [.v (.nums 5 .u8 a0z a0), .v (.nums 5 .u8 a1z a1)] => ⟨impl_SameBytes.f k a0z a0 a1z a1, impl_SameBytes.enc⟩
  | _ => Ans.no
def impl_SameBytes.Cs (k : Nat) : CallSem := tab []
def impl_SameBytes.cuts : List (Nat × Keep) := []
theorem impl_SameBytes.s (k : Nat) (a0z : Bool) (a0 : List Int) (a1z : Bool) (a1 : List Int) : answer Try.prog impl_SameBytes.Cs 100000 impl_SameBytes.cuts [] Try.f45 (k + 1) [.v (.nums 5 .u8 a0z a0), .v (.nums 5 .u8 a1z a1)] = impl_SameBytes.b (fun r => some (impl_SameBytes.enc r)) k a0z a0 a1z a1 := by kernel_rfl
theorem impl_SameBytes.b_nat {R R' : Type} (e : R → R') (ret : Bool → Option R) (k : Nat) (a0z : Bool) (a0 : List Int) (a1z : Bool) (a1 : List Int) : impl_SameBytes.b (fun r => (ret r).map e) k a0z a0 a1z a1 = (impl_SameBytes.b ret k a0z a0 a1z a1).map e := by
  unfold impl_SameBytes.b
  repeat' first | with_reducible refine nat_cond ?_ ?_ | with_reducible refine nat_bind fun _ => ?_ | rfl
theorem impl_SameBytes.eq (k : Nat) (a0z : Bool) (a0 : List Int) (a1z : Bool) (a1 : List Int) : answer Try.prog impl_SameBytes.Cs 100000 impl_SameBytes.cuts [] Try.f45 (k + 1) [.v (.nums 5 .u8 a0z a0), .v (.nums 5 .u8 a1z a1)] = (impl_SameBytes.f (k + 1) a0z a0 a1z a1).map impl_SameBytes.enc := by
  refine (impl_SameBytes.s k a0z a0 a1z a1).trans (Eq.trans ?_ (impl_SameBytes.b_nat impl_SameBytes.enc some k a0z a0 a1z a1))
  simp only [Option.map_some]
theorem impl_SameBytes.sound (k : Nat) : SoundF Try.prog 45 (fun a => (impl_SameBytes.ans k a).val) := by
  intro args res h
  unfold impl_SameBytes.ans at h
  dsimp only at h
  split at h
  · cases k with
    | zero => cases h
    | succ k =>
      unfold Ans.val at h
      rw [← impl_SameBytes.eq] at h
      exact answer_sound mixed Try.func45 _ _ _ (k + 1) (fun j _ => tab_sound (tab_nil)) _ _ h
  · exact (Ans.no_val h).elim

/-! loop.example/g00790/impl.TableSame -/
def impl_TableSame.b {R : Type} (ret : Bool → Option R) (j0 : Int → Int → Bool → (List T) → Bool → (List T) → Option R) (k : Nat) (a0_0z : Bool) (a0_0 : List T) (a1_0z : Bool) (a1_0 : List T) : Option R :=
  cond (!(decide (((a0_0).length : Int) = ((a1_0).length : Int)))) (ret false) (j0 ((a0_0).length : Int) 0 a0_0z a0_0 a1_0z a1_0)
def impl_TableSame.l0b {R : Type} (ret : Bool → Option R) (j0 : Int → Int → Bool → (List T) → Bool → (List T) → Option R) (k : Nat) (x15 : Int) (x16 : Int) (c2_0z : Bool) (c2_0 : List T) (c3_0z : Bool) (c3_0 : List T) : Option R :=
  cond (decide (x16 < x15)) (cond (decide ((0 : Int) ≤ x16)) (cond (decide (x16 < ((c2_0).length : Int))) (cond (decide ((0 : Int) ≤ x16)) (cond (decide (x16 < ((c3_0).length : Int))) (cond (!(decide (((((c2_0).getD (x16).toNat .bad).cells.getD 0 .bad)).toInt = ((((c3_0).getD (x16).toNat .bad).cells.getD 0 .bad)).toInt))) (ret false) (cond (decide ((0 : Int) ≤ x16)) (cond (decide (x16 < ((c2_0).length : Int))) (cond (decide ((0 : Int) ≤ x16)) (cond (decide (x16 < ((c3_0).length : Int))) ((impl_SameBytes.f k (((((c2_0).getD (x16).toNat .bad).cells.getD 1 .bad)).isNil) (((((c2_0).getD (x16).toNat .bad).cells.getD 1 .bad)).toNums) (((((c3_0).getD (x16).toNat .bad).cells.getD 1 .bad)).isNil) (((((c3_0).getD (x16).toNat .bad).cells.getD 1 .bad)).toNums)).bind fun t0 => cond (!t0) (ret false) (j0 x15 (RowKit.wrap64 (x16 + 1)) c2_0z c2_0 c3_0z c3_0)) (none)) (none)) (none)) (none))) (none)) (none)) (none)) (none)) (ret true)
def impl_TableSame.l0 : Nat → Int → Int → Bool → (List T) → Bool → (List T) → Option Bool
  | 0, _, _, _, _, _, _ => none
  | k + 1, x15, x16, c2_0z, c2_0, c3_0z, c3_0 => impl_TableSame.l0b some (impl_TableSame.l0 k) k x15 x16 c2_0z c2_0 c3_0z c3_0
def impl_TableSame.f : Nat → Bool → (List T) → Bool → (List T) → Option Bool
  | 0, _, _, _, _ => none
  | k + 1, a0_0z, a0_0, a1_0z, a1_0 => impl_TableSame.b some (impl_TableSame.l0 k) k a0_0z a0_0 a1_0z a1_0
def impl_TableSame.enc (r : Bool) : Res := ⟨[.vals false [((.bool r), true)]], []⟩
def impl_TableSame.ans (k : Nat) : List Arg → Ans
  | [.v (.agg [(.sl 127 a0_0z a0_0)]), .v (.agg [(.sl 127 a1_0z a1_0)])] => ⟨impl_TableSame.f k a0_0z a0_0 a1_0z a1_0, impl_TableSame.enc⟩
  | _ => Ans.no
def impl_TableSame.Cs (k : Nat) : CallSem := tab [(45, impl_SameBytes.ans k)]
def impl_TableSame.cuts : List (Nat × Keep) := [(58, ⟨[(2, some []), (3, some []), (15, some []), (16, some [])], [(2, [some []]), (3, [some []])]⟩)]
noncomputable def impl_TableSame.K0 : List Fr := framesAt [true, true, false, true, false] (bodyOf Try.f100 impl_TableSame.cuts) []
def impl_TableSame.N0 (x15 : Int) (x16 : Int) (c2_0z : Bool) (c2_0 : List T) (c3_0z : Bool) (c3_0 : List T) : St := stOf 49 49 2 [(2, .bp 2 0), (3, .bp 3 0), (15, .val (V.s (.int .i64 x15))), (16, .val (V.s (.int .i64 x16)))] [(2, .cells [⟨(.sl 127 c2_0z c2_0), [], false, none⟩]), (3, .cells [⟨(.sl 127 c3_0z c3_0), [], false, none⟩])]
theorem impl_TableSame.s (k : Nat) (a0_0z : Bool) (a0_0 : List T) (a1_0z : Bool) (a1_0 : List T) : answer Try.prog impl_TableSame.Cs 100000 impl_TableSame.cuts [] Try.f100 (k + 1) [.v (.agg [(.sl 127 a0_0z a0_0)]), .v (.agg [(.sl 127 a1_0z a1_0)])] = impl_TableSame.b (fun r => some (impl_TableSame.enc r)) (fun x15 x16 c2_0z c2_0 c3_0z c3_0 => rounds Try.prog impl_TableSame.Cs (finish Try.prog [] Try.f100 [.v (.agg [(.sl 127 a0_0z a0_0)]), .v (.agg [(.sl 127 a1_0z a1_0)])]) 100000 k impl_TableSame.K0 (impl_TableSame.N0 x15 x16 c2_0z c2_0 c3_0z c3_0)) k a0_0z a0_0 a1_0z a1_0 := by kernel_rfl
theorem impl_TableSame.s0 (k : Nat) (G : List Fr → St → Option Res) (a0_0z : Bool) (a0_0 : List T) (a1_0z : Bool) (a1_0 : List T) (yx15 : Int) (yx16 : Int) (yc2_0z : Bool) (yc2_0 : List T) (yc3_0z : Bool) (yc3_0 : List T) : resume Try.prog (impl_TableSame.Cs k) G (finish Try.prog [] Try.f100 [.v (.agg [(.sl 127 a0_0z a0_0)]), .v (.agg [(.sl 127 a1_0z a1_0)])]) 100000 impl_TableSame.K0 (impl_TableSame.N0 yx15 yx16 yc2_0z yc2_0 yc3_0z yc3_0) = impl_TableSame.l0b (fun r => some (impl_TableSame.enc r)) (fun x15 x16 c2_0z c2_0 c3_0z c3_0 => G impl_TableSame.K0 (impl_TableSame.N0 x15 x16 c2_0z c2_0 c3_0z c3_0)) k yx15 yx16 yc2_0z yc2_0 yc3_0z yc3_0 := by kernel_rfl
theorem impl_TableSame.b_nat {R R' : Type} (e : R → R') (ret : Bool → Option R) (j0 : Int → Int → Bool → (List T) → Bool → (List T) → Option R) (k : Nat) (a0_0z : Bool) (a0_0 : List T) (a1_0z : Bool) (a1_0 : List T) : impl_TableSame.b (fun r => (ret r).map e) (fun x15 x16 c2_0z c2_0 c3_0z c3_0 => (j0 x15 x16 c2_0z c2_0 c3_0z c3_0).map e) k a0_0z a0_0 a1_0z a1_0 = (impl_TableSame.b ret j0 k a0_0z a0_0 a1_0z a1_0).map e := by
  unfold impl_TableSame.b
  repeat' first | with_reducible refine nat_cond ?_ ?_ | with_reducible refine nat_bind fun _ => ?_ | rfl
theorem impl_TableSame.l0b_nat {R R' : Type} (e : R → R') (ret : Bool → Option R) (j0 : Int → Int → Bool → (List T) → Bool → (List T) → Option R) (k : Nat) (x15 : Int) (x16 : Int) (c2_0z : Bool) (c2_0 : List T) (c3_0z : Bool) (c3_0 : List T) : impl_TableSame.l0b (fun r => (ret r).map e) (fun x15 x16 c2_0z c2_0 c3_0z c3_0 => (j0 x15 x16 c2_0z c2_0 c3_0z c3_0).map e) k x15 x16 c2_0z c2_0 c3_0z c3_0 = (impl_TableSame.l0b ret j0 k x15 x16 c2_0z c2_0 c3_0z c3_0).map e := by
  unfold impl_TableSame.l0b
  repeat' first | with_reducible refine nat_cond ?_ ?_ | with_reducible refine nat_bind fun _ => ?_ | rfl
theorem impl_TableSame.rounds_eq (a0_0z : Bool) (a0_0 : List T) (a1_0z : Bool) (a1_0 : List T) : ∀ k, (∀ (x15 : Int) (x16 : Int) (c2_0z : Bool) (c2_0 : List T) (c3_0z : Bool) (c3_0 : List T), rounds Try.prog impl_TableSame.Cs (finish Try.prog [] Try.f100 [.v (.agg [(.sl 127 a0_0z a0_0)]), .v (.agg [(.sl 127 a1_0z a1_0)])]) 100000 k impl_TableSame.K0 (impl_TableSame.N0 x15 x16 c2_0z c2_0 c3_0z c3_0) = (impl_TableSame.l0 k x15 x16 c2_0z c2_0 c3_0z c3_0).map impl_TableSame.enc)
  | 0 => fun _ _ _ _ _ _ => rfl
  | k + 1 => by
    have ih := impl_TableSame.rounds_eq a0_0z a0_0 a1_0z a1_0 k
    refine fun _ _ _ _ _ _ => ?_
    · refine (impl_TableSame.s0 k _ a0_0z a0_0 a1_0z a1_0 _ _ _ _ _ _).trans (Eq.trans ?_ (impl_TableSame.l0b_nat impl_TableSame.enc some (impl_TableSame.l0 k) k _ _ _ _ _ _))
      simp only [ih, Option.map_some]
theorem impl_TableSame.eq (k : Nat) (a0_0z : Bool) (a0_0 : List T) (a1_0z : Bool) (a1_0 : List T) : answer Try.prog impl_TableSame.Cs 100000 impl_TableSame.cuts [] Try.f100 (k + 1) [.v (.agg [(.sl 127 a0_0z a0_0)]), .v (.agg [(.sl 127 a1_0z a1_0)])] = (impl_TableSame.f (k + 1) a0_0z a0_0 a1_0z a1_0).map impl_TableSame.enc := by
  have ih := impl_TableSame.rounds_eq a0_0z a0_0 a1_0z a1_0 k
  refine (impl_TableSame.s k a0_0z a0_0 a1_0z a1_0).trans (Eq.trans ?_ (impl_TableSame.b_nat impl_TableSame.enc some (impl_TableSame.l0 k) k a0_0z a0_0 a1_0z a1_0))
  simp only [ih, Option.map_some]
theorem impl_TableSame.sound (k : Nat) : SoundF Try.prog 100 (fun a => (impl_TableSame.ans k a).val) := by
  intro args res h
  unfold impl_TableSame.ans at h
  dsimp only at h
  split at h
  · cases k with
    | zero => cases h
    | succ k =>
      unfold Ans.val at h
      rw [← impl_TableSame.eq] at h
      exact answer_sound mixed Try.func100 _ _ _ (k + 1) (fun j _ => tab_sound (tab_cons (impl_SameBytes.sound j) (tab_nil))) _ _ h
  · exact (Ans.no_val h).elim

/-! loop.example/g00790/impl.TreeSame -/
def impl_TreeSame.b {R : Type} (ret : Bool → Option R) (j0 : Bool → (List T) → Bool → (List T) → Int → Int → Option R) (k : Nat) (a0z : Bool) (a0 : List T) (a1z : Bool) (a1 : List T) : Option R :=
  cond (!(decide (((a0).length : Int) = ((a1).length : Int)))) (ret false) (j0 a0z a0 a1z a1 ((a0).length : Int) 0)
def impl_TreeSame.l0b {R : Type} (ret : Bool → Option R) (j0 : Bool → (List T) → Bool → (List T) → Int → Int → Option R) (k : Nat) (x0z : Bool) (x0 : List T) (x1z : Bool) (x1 : List T) (x12 : Int) (x13 : Int) : Option R :=
  cond (decide (x13 < x12)) (cond (decide ((0 : Int) ≤ x13)) (cond (decide (x13 < ((x0).length : Int))) (cond (decide ((0 : Int) ≤ x13)) (cond (decide (x13 < ((x1).length : Int))) ((impl_SameBytes.f k (((((x0).getD (x13).toNat .bad).cells.getD 0 .bad)).isNil) (((((x0).getD (x13).toNat .bad).cells.getD 0 .bad)).toNums) (((((x1).getD (x13).toNat .bad).cells.getD 0 .bad)).isNil) (((((x1).getD (x13).toNat .bad).cells.getD 0 .bad)).toNums)).bind fun t0 => cond (!t0) (ret false) (j0 x0z x0 x1z x1 x12 (RowKit.wrap64 (x13 + 1)))) (none)) (none)) (none)) (none)) (ret true)
def impl_TreeSame.l0 : Nat → Bool → (List T) → Bool → (List T) → Int → Int → Option Bool
  | 0, _, _, _, _, _, _ => none
  | k + 1, x0z, x0, x1z, x1, x12, x13 => impl_TreeSame.l0b some (impl_TreeSame.l0 k) k x0z x0 x1z x1 x12 x13
def impl_TreeSame.f : Nat → Bool → (List T) → Bool → (List T) → Option Bool
  | 0, _, _, _, _ => none
  | k + 1, a0z, a0, a1z, a1 => impl_TreeSame.b some (impl_TreeSame.l0 k) k a0z a0 a1z a1
def impl_TreeSame.enc (r : Bool) : Res := ⟨[.vals false [((.bool r), true)]], []⟩
def impl_TreeSame.ans (k : Nat) : List Arg → Ans
  | [.v (.sl 25 a0z a0), .v (.sl 25 a1z a1)] => ⟨impl_TreeSame.f k a0z a0 a1z a1, impl_TreeSame.enc⟩
  | _ => Ans.no
def impl_TreeSame.Cs (k : Nat) : CallSem := tab [(45, impl_SameBytes.ans k)]
def impl_TreeSame.cuts : List (Nat × Keep) := [(58, ⟨[(0, some []), (1, some []), (12, some []), (13, some [])], []⟩)]
noncomputable def impl_TreeSame.K0 : List Fr := framesAt [true, true, false, true, false] (bodyOf Try.f192 impl_TreeSame.cuts) []
def impl_TreeSame.N0 (x0z : Bool) (x0 : List T) (x1z : Bool) (x1 : List T) (x12 : Int) (x13 : Int) : St := stOf 27 27 2 [(0, .val ⟨(.sl 25 x0z x0), [], false, none⟩), (1, .val ⟨(.sl 25 x1z x1), [], false, none⟩), (12, .val (V.s (.int .i64 x12))), (13, .val (V.s (.int .i64 x13)))] []
theorem impl_TreeSame.s (k : Nat) (a0z : Bool) (a0 : List T) (a1z : Bool) (a1 : List T) : answer Try.prog impl_TreeSame.Cs 100000 impl_TreeSame.cuts [] Try.f192 (k + 1) [.v (.sl 25 a0z a0), .v (.sl 25 a1z a1)] = impl_TreeSame.b (fun r => some (impl_TreeSame.enc r)) (fun x0z x0 x1z x1 x12 x13 => rounds Try.prog impl_TreeSame.Cs (finish Try.prog [] Try.f192 [.v (.sl 25 a0z a0), .v (.sl 25 a1z a1)]) 100000 k impl_TreeSame.K0 (impl_TreeSame.N0 x0z x0 x1z x1 x12 x13)) k a0z a0 a1z a1 := by kernel_rfl
theorem impl_TreeSame.s0 (k : Nat) (G : List Fr → St → Option Res) (a0z : Bool) (a0 : List T) (a1z : Bool) (a1 : List T) (yx0z : Bool) (yx0 : List T) (yx1z : Bool) (yx1 : List T) (yx12 : Int) (yx13 : Int) : resume Try.prog (impl_TreeSame.Cs k) G (finish Try.prog [] Try.f192 [.v (.sl 25 a0z a0), .v (.sl 25 a1z a1)]) 100000 impl_TreeSame.K0 (impl_TreeSame.N0 yx0z yx0 yx1z yx1 yx12 yx13) = impl_TreeSame.l0b (fun r => some (impl_TreeSame.enc r)) (fun x0z x0 x1z x1 x12 x13 => G impl_TreeSame.K0 (impl_TreeSame.N0 x0z x0 x1z x1 x12 x13)) k yx0z yx0 yx1z yx1 yx12 yx13 := by kernel_rfl
theorem impl_TreeSame.b_nat {R R' : Type} (e : R → R') (ret : Bool → Option R) (j0 : Bool → (List T) → Bool → (List T) → Int → Int → Option R) (k : Nat) (a0z : Bool) (a0 : List T) (a1z : Bool) (a1 : List T) : impl_TreeSame.b (fun r => (ret r).map e) (fun x0z x0 x1z x1 x12 x13 => (j0 x0z x0 x1z x1 x12 x13).map e) k a0z a0 a1z a1 = (impl_TreeSame.b ret j0 k a0z a0 a1z a1).map e := by
  unfold impl_TreeSame.b
  repeat' first | with_reducible refine nat_cond ?_ ?_ | with_reducible refine nat_bind fun _ => ?_ | rfl
theorem impl_TreeSame.l0b_nat {R R' : Type} (e : R → R') (ret : Bool → Option R) (j0 : Bool → (List T) → Bool → (List T) → Int → Int → Option R) (k : Nat) (x0z : Bool) (x0 : List T) (x1z : Bool) (x1 : List T) (x12 : Int) (x13 : Int) : impl_TreeSame.l0b (fun r => (ret r).map e) (fun x0z x0 x1z x1 x12 x13 => (j0 x0z x0 x1z x1 x12 x13).map e) k x0z x0 x1z x1 x12 x13 = (impl_TreeSame.l0b ret j0 k x0z x0 x1z x1 x12 x13).map e := by
  unfold impl_TreeSame.l0b
  repeat' first | with_reducible refine nat_cond ?_ ?_ | with_reducible refine nat_bind fun _ => ?_ | rfl
theorem impl_TreeSame.rounds_eq (a0z : Bool) (a0 : List T) (a1z : Bool) (a1 : List T) : ∀ k, (∀ (x0z : Bool) (x0 : List T) (x1z : Bool) (x1 : List T) (x12 : Int) (x13 : Int), rounds Try.prog impl_TreeSame.Cs (finish Try.prog [] Try.f192 [.v (.sl 25 a0z a0), .v (.sl 25 a1z a1)]) 100000 k impl_TreeSame.K0 (impl_TreeSame.N0 x0z x0 x1z x1 x12 x13) = (impl_TreeSame.l0 k x0z x0 x1z x1 x12 x13).map impl_TreeSame.enc)
  | 0 => fun _ _ _ _ _ _ => rfl
  | k + 1 => by
    have ih := impl_TreeSame.rounds_eq a0z a0 a1z a1 k
    refine fun _ _ _ _ _ _ => ?_
    · refine (impl_TreeSame.s0 k _ a0z a0 a1z a1 _ _ _ _ _ _).trans (Eq.trans ?_ (impl_TreeSame.l0b_nat impl_TreeSame.enc some (impl_TreeSame.l0 k) k _ _ _ _ _ _))
      simp only [ih, Option.map_some]
theorem impl_TreeSame.eq (k : Nat) (a0z : Bool) (a0 : List T) (a1z : Bool) (a1 : List T) : answer Try.prog impl_TreeSame.Cs 100000 impl_TreeSame.cuts [] Try.f192 (k + 1) [.v (.sl 25 a0z a0), .v (.sl 25 a1z a1)] = (impl_TreeSame.f (k + 1) a0z a0 a1z a1).map impl_TreeSame.enc := by
  have ih := impl_TreeSame.rounds_eq a0z a0 a1z a1 k
  refine (impl_TreeSame.s k a0z a0 a1z a1).trans (Eq.trans ?_ (impl_TreeSame.b_nat impl_TreeSame.enc some (impl_TreeSame.l0 k) k a0z a0 a1z a1))
  simp only [ih, Option.map_some]
theorem impl_TreeSame.sound (k : Nat) : SoundF Try.prog 192 (fun a => (impl_TreeSame.ans k a).val) := by
  intro args res h
  unfold impl_TreeSame.ans at h
  dsimp only at h
  split at h
  · cases k with
    | zero => cases h
    | succ k =>
      unfold Ans.val at h
      rw [← impl_TreeSame.eq] at h
      exact answer_sound mixed Try.func192 _ _ _ (k + 1) (fun j _ => tab_sound (tab_cons (impl_SameBytes.sound j) (tab_nil))) _ _ h
  · exact (Ans.no_val h).elim

/-! loop.example/g00790/impl.QcSame -/
def impl_QcSame.b {R : Type} (ret : Bool → Option R) (k : Nat) (a0_0 : Int) (a0_1 : Int) (a0_2z : Bool) (a0_2 : List Int) (a0_3z : Bool) (a0_3 : List Int) (a0_4z : Bool) (a0_4 : List T) (a1_0 : Int) (a1_1 : Int) (a1_2z : Bool) (a1_2 : List Int) (a1_3z : Bool) (a1_3 : List Int) (a1_4z : Bool) (a1_4 : List T) : Option R :=
  cond (decide (a0_0 = a1_0)) (cond (decide (a0_1 = a1_1)) ((impl_SameBytes.f k a0_2z a0_2 a1_2z a1_2).bind fun t0 => cond t0 ((impl_SameBytes.f k a0_3z a0_3 a1_3z a1_3).bind fun t1 => cond t1 ((impl_TreeSame.f k a0_4z a0_4 a1_4z a1_4).bind fun t2 => ret t2) (ret false)) (ret false)) (ret false)) (ret false)
def impl_QcSame.f : Nat → Int → Int → Bool → (List Int) → Bool → (List Int) → Bool → (List T) → Int → Int → Bool → (List Int) → Bool → (List Int) → Bool → (List T) → Option Bool
  | 0, _, _, _, _, _, _, _, _, _, _, _, _, _, _, _, _ => none
  | k + 1, a0_0, a0_1, a0_2z, a0_2, a0_3z, a0_3, a0_4z, a0_4, a1_0, a1_1, a1_2z, a1_2, a1_3z, a1_3, a1_4z, a1_4 => impl_QcSame.b some k a0_0 a0_1 a0_2z a0_2 a0_3z a0_3 a0_4z a0_4 a1_0 a1_1 a1_2z a1_2 a1_3z a1_3 a1_4z a1_4
def impl_QcSame.enc (r : Bool) : Res := ⟨[.vals false [((.bool r), true)]], []⟩
def impl_QcSame.ans (k : Nat) : List Arg → Ans
  | [.v (.agg [(.int .i64 a0_0), (.int .i64 a0_1), (.nums 5 .u8 a0_2z a0_2), (.nums 5 .u8 a0_3z a0_3), (.sl 25 a0_4z a0_4)]), .v (.agg [(.int .i64 a1_0), (.int .i64 a1_1), (.nums 5 .u8 a1_2z a1_2), (.nums 5 .u8 a1_3z a1_3), (.sl 25 a1_4z a1_4)])] => ⟨impl_QcSame.f k a0_0 a0_1 a0_2z a0_2 a0_3z a0_3 a0_4z a0_4 a1_0 a1_1 a1_2z a1_2 a1_3z a1_3 a1_4z a1_4, impl_QcSame.enc⟩
  | _ => Ans.no
def impl_QcSame.Cs (k : Nat) : CallSem := tab [(45, impl_SameBytes.ans k), (192, impl_TreeSame.ans k)]
def impl_QcSame.cuts : List (Nat × Keep) := []
theorem impl_QcSame.s (k : Nat) (a0_0 : Int) (a0_1 : Int) (a0_2z : Bool) (a0_2 : List Int) (a0_3z : Bool) (a0_3 : List Int) (a0_4z : Bool) (a0_4 : List T) (a1_0 : Int) (a1_1 : Int) (a1_2z : Bool) (a1_2 : List Int) (a1_3z : Bool) (a1_3 : List Int) (a1_4z : Bool) (a1_4 : List T) : answer Try.prog impl_QcSame.Cs 100000 impl_QcSame.cuts [] Try.f180 (k + 1) [.v (.agg [(.int .i64 a0_0), (.int .i64 a0_1), (.nums 5 .u8 a0_2z a0_2), (.nums 5 .u8 a0_3z a0_3), (.sl 25 a0_4z a0_4)]), .v (.agg [(.int .i64 a1_0), (.int .i64 a1_1), (.nums 5 .u8 a1_2z a1_2), (.nums 5 .u8 a1_3z a1_3), (.sl 25 a1_4z a1_4)])] = impl_QcSame.b (fun r => some (impl_QcSame.enc r)) k a0_0 a0_1 a0_2z a0_2 a0_3z a0_3 a0_4z a0_4 a1_0 a1_1 a1_2z a1_2 a1_3z a1_3 a1_4z a1_4 := by kernel_rfl
theorem impl_QcSame.b_nat {R R' : Type} (e : R → R') (ret : Bool → Option R) (k : Nat) (a0_0 : Int) (a0_1 : Int) (a0_2z : Bool) (a0_2 : List Int) (a0_3z : Bool) (a0_3 : List Int) (a0_4z : Bool) (a0_4 : List T) (a1_0 : Int) (a1_1 : Int) (a1_2z : Bool) (a1_2 : List Int) (a1_3z : Bool) (a1_3 : List Int) (a1_4z : Bool) (a1_4 : List T) : impl_QcSame.b (fun r => (ret r).map e) k a0_0 a0_1 a0_2z a0_2 a0_3z a0_3 a0_4z a0_4 a1_0 a1_1 a1_2z a1_2 a1_3z a1_3 a1_4z a1_4 = (impl_QcSame.b ret k a0_0 a0_1 a0_2z a0_2 a0_3z a0_3 a0_4z a0_4 a1_0 a1_1 a1_2z a1_2 a1_3z a1_3 a1_4z a1_4).map e := by
  unfold impl_QcSame.b
  repeat' first | with_reducible refine nat_cond ?_ ?_ | with_reducible refine nat_bind fun _ => ?_ | rfl
theorem impl_QcSame.eq (k : Nat) (a0_0 : Int) (a0_1 : Int) (a0_2z : Bool) (a0_2 : List Int) (a0_3z : Bool) (a0_3 : List Int) (a0_4z : Bool) (a0_4 : List T) (a1_0 : Int) (a1_1 : Int) (a1_2z : Bool) (a1_2 : List Int) (a1_3z : Bool) (a1_3 : List Int) (a1_4z : Bool) (a1_4 : List T) : answer Try.prog impl_QcSame.Cs 100000 impl_QcSame.cuts [] Try.f180 (k + 1) [.v (.agg [(.int .i64 a0_0), (.int .i64 a0_1), (.nums 5 .u8 a0_2z a0_2), (.nums 5 .u8 a0_3z a0_3), (.sl 25 a0_4z a0_4)]), .v (.agg [(.int .i64 a1_0), (.int .i64 a1_1), (.nums 5 .u8 a1_2z a1_2), (.nums 5 .u8 a1_3z a1_3), (.sl 25 a1_4z a1_4)])] = (impl_QcSame.f (k + 1) a0_0 a0_1 a0_2z a0_2 a0_3z a0_3 a0_4z a0_4 a1_0 a1_1 a1_2z a1_2 a1_3z a1_3 a1_4z a1_4).map impl_QcSame.enc := by
  refine (impl_QcSame.s k a0_0 a0_1 a0_2z a0_2 a0_3z a0_3 a0_4z a0_4 a1_0 a1_1 a1_2z a1_2 a1_3z a1_3 a1_4z a1_4).trans (Eq.trans ?_ (impl_QcSame.b_nat impl_QcSame.enc some k a0_0 a0_1 a0_2z a0_2 a0_3z a0_3 a0_4z a0_4 a1_0 a1_1 a1_2z a1_2 a1_3z a1_3 a1_4z a1_4))
  simp only [Option.map_some]
theorem impl_QcSame.sound (k : Nat) : SoundF Try.prog 180 (fun a => (impl_QcSame.ans k a).val) := by
  intro args res h
  unfold impl_QcSame.ans at h
  dsimp only at h
  split at h
  · cases k with
    | zero => cases h
    | succ k =>
      unfold Ans.val at h
      rw [← impl_QcSame.eq] at h
      exact answer_sound mixed Try.func180 _ _ _ (k + 1) (fun j _ => tab_sound (tab_cons (impl_SameBytes.sound j) (tab_cons (impl_TreeSame.sound j) (tab_nil)))) _ _ h
  · exact (Ans.no_val h).elim

/-! loop.example/g00790/impl.HeadSame -/
def impl_HeadSame.b {R : Type} (ret : Bool → Option R) (k : Nat) (a0_0 : Int) (a0_1 : Int) (a0_2 : Int) (a0_3z : Bool) (a0_3 : List Int) (a0_4z : Bool) (a0_4 : List Int) (a0_5 : Int) (a0_6 : Int) (a0_7z : Bool) (a0_7 : List Int) (a0_8z : Bool) (a0_8 : List Int) (a0_9z : Bool) (a0_9 : List T) (a1_0 : Int) (a1_1 : Int) (a1_2 : Int) (a1_3z : Bool) (a1_3 : List Int) (a1_4z : Bool) (a1_4 : List Int) (a1_5 : Int) (a1_6 : Int) (a1_7z : Bool) (a1_7 : List Int) (a1_8z : Bool) (a1_8 : List Int) (a1_9z : Bool) (a1_9 : List T) : Option R :=
  cond (decide (a0_0 = a1_0)) (cond (decide (a0_1 = a1_1)) (cond (decide (a0_2 = a1_2)) ((impl_SameBytes.f k a0_3z a0_3 a1_3z a1_3).bind fun t0 => cond t0 ((impl_SameBytes.f k a0_4z a0_4 a1_4z a1_4).bind fun t1 => cond t1 ((impl_QcSame.f k a0_5 a0_6 a0_7z a0_7 a0_8z a0_8 a0_9z a0_9 a1_5 a1_6 a1_7z a1_7 a1_8z a1_8 a1_9z a1_9).bind fun t2 => ret t2) (ret false)) (ret false)) (ret false)) (ret false)) (ret false)
def impl_HeadSame.f : Nat → Int → Int → Int → Bool → (List Int) → Bool → (List Int) → Int → Int → Bool → (List Int) → Bool → (List Int) → Bool → (List T) → Int → Int → Int → Bool → (List Int) → Bool → (List Int) → Int → Int → Bool → (List Int) → Bool → (List Int) → Bool → (List T) → Option Bool
  | 0, _, _, _, _, _, _, _, _, _, _, _, _, _, _, _, _, _, _, _, _, _, _, _, _, _, _, _, _, _, _ => none
  | k + 1, a0_0, a0_1, a0_2, a0_3z, a0_3, a0_4z, a0_4, a0_5, a0_6, a0_7z, a0_7, a0_8z, a0_8, a0_9z, a0_9, a1_0, a1_1, a1_2, a1_3z, a1_3, a1_4z, a1_4, a1_5, a1_6, a1_7z, a1_7, a1_8z, a1_8, a1_9z, a1_9 => impl_HeadSame.b some k a0_0 a0_1 a0_2 a0_3z a0_3 a0_4z a0_4 a0_5 a0_6 a0_7z a0_7 a0_8z a0_8 a0_9z a0_9 a1_0 a1_1 a1_2 a1_3z a1_3 a1_4z a1_4 a1_5 a1_6 a1_7z a1_7 a1_8z a1_8 a1_9z a1_9
def impl_HeadSame.enc (r : Bool) : Res := ⟨[.vals false [((.bool r), true)]], []⟩
def impl_HeadSame.ans (k : Nat) : List Arg → Ans
  | [.v (.agg [(.int .i64 a0_0), (.int .i64 a0_1), (.int .i64 a0_2), (.nums 5 .u8 a0_3z a0_3), (.nums 5 .u8 a0_4z a0_4), (.int .i64 a0_5), (.int .i64 a0_6), (.nums 5 .u8 a0_7z a0_7), (.nums 5 .u8 a0_8z a0_8), (.sl 25 a0_9z a0_9)]), .v (.agg [(.int .i64 a1_0), (.int .i64 a1_1), (.int .i64 a1_2), (.nums 5 .u8 a1_3z a1_3), (.nums 5 .u8 a1_4z a1_4), (.int .i64 a1_5), (.int .i64 a1_6), (.nums 5 .u8 a1_7z a1_7), (.nums 5 .u8 a1_8z a1_8), (.sl 25 a1_9z a1_9)])] => ⟨impl_HeadSame.f k a0_0 a0_1 a0_2 a0_3z a0_3 a0_4z a0_4 a0_5 a0_6 a0_7z a0_7 a0_8z a0_8 a0_9z a0_9 a1_0 a1_1 a1_2 a1_3z a1_3 a1_4z a1_4 a1_5 a1_6 a1_7z a1_7 a1_8z a1_8 a1_9z a1_9, impl_HeadSame.enc⟩
  | _ => Ans.no
def impl_HeadSame.Cs (k : Nat) : CallSem := tab [(45, impl_SameBytes.ans k), (180, impl_QcSame.ans k)]
def impl_HeadSame.cuts : List (Nat × Keep) := []
theorem impl_HeadSame.s (k : Nat) (a0_0 : Int) (a0_1 : Int) (a0_2 : Int) (a0_3z : Bool) (a0_3 : List Int) (a0_4z : Bool) (a0_4 : List Int) (a0_5 : Int) (a0_6 : Int) (a0_7z : Bool) (a0_7 : List Int) (a0_8z : Bool) (a0_8 : List Int) (a0_9z : Bool) (a0_9 : List T) (a1_0 : Int) (a1_1 : Int) (a1_2 : Int) (a1_3z : Bool) (a1_3 : List Int) (a1_4z : Bool) (a1_4 : List Int) (a1_5 : Int) (a1_6 : Int) (a1_7z : Bool) (a1_7 : List Int) (a1_8z : Bool) (a1_8 : List Int) (a1_9z : Bool) (a1_9 : List T) : answer Try.prog impl_HeadSame.Cs 100000 impl_HeadSame.cuts [] Try.f158 (k + 1) [.v (.agg [(.int .i64 a0_0), (.int .i64 a0_1), (.int .i64 a0_2), (.nums 5 .u8 a0_3z a0_3), (.nums 5 .u8 a0_4z a0_4), (.int .i64 a0_5), (.int .i64 a0_6), (.nums 5 .u8 a0_7z a0_7), (.nums 5 .u8 a0_8z a0_8), (.sl 25 a0_9z a0_9)]), .v (.agg [(.int .i64 a1_0), (.int .i64 a1_1), (.int .i64 a1_2), (.nums 5 .u8 a1_3z a1_3), (.nums 5 .u8 a1_4z a1_4), (.int .i64 a1_5), (.int .i64 a1_6), (.nums 5 .u8 a1_7z a1_7), (.nums 5 .u8 a1_8z a1_8), (.sl 25 a1_9z a1_9)])] = impl_HeadSame.b (fun r => some (impl_HeadSame.enc r)) k a0_0 a0_1 a0_2 a0_3z a0_3 a0_4z a0_4 a0_5 a0_6 a0_7z a0_7 a0_8z a0_8 a0_9z a0_9 a1_0 a1_1 a1_2 a1_3z a1_3 a1_4z a1_4 a1_5 a1_6 a1_7z a1_7 a1_8z a1_8 a1_9z a1_9 := by kernel_rfl
theorem impl_HeadSame.b_nat {R R' : Type} (e : R → R') (ret : Bool → Option R) (k : Nat) (a0_0 : Int) (a0_1 : Int) (a0_2 : Int) (a0_3z : Bool) (a0_3 : List Int) (a0_4z : Bool) (a0_4 : List Int) (a0_5 : Int) (a0_6 : Int) (a0_7z : Bool) (a0_7 : List Int) (a0_8z : Bool) (a0_8 : List Int) (a0_9z : Bool) (a0_9 : List T) (a1_0 : Int) (a1_1 : Int) (a1_2 : Int) (a1_3z : Bool) (a1_3 : List Int) (a1_4z : Bool) (a1_4 : List Int) (a1_5 : Int) (a1_6 : Int) (a1_7z : Bool) (a1_7 : List Int) (a1_8z : Bool) (a1_8 : List Int) (a1_9z : Bool) (a1_9 : List T) : impl_HeadSame.b (fun r => (ret r).map e) k a0_0 a0_1 a0_2 a0_3z a0_3 a0_4z a0_4 a0_5 a0_6 a0_7z a0_7 a0_8z a0_8 a0_9z a0_9 a1_0 a1_1 a1_2 a1_3z a1_3 a1_4z a1_4 a1_5 a1_6 a1_7z a1_7 a1_8z a1_8 a1_9z a1_9 = (impl_HeadSame.b ret k a0_0 a0_1 a0_2 a0_3z a0_3 a0_4z a0_4 a0_5 a0_6 a0_7z a0_7 a0_8z a0_8 a0_9z a0_9 a1_0 a1_1 a1_2 a1_3z a1_3 a1_4z a1_4 a1_5 a1_6 a1_7z a1_7 a1_8z a1_8 a1_9z a1_9).map e := by
  unfold impl_HeadSame.b
  repeat' first | with_reducible refine nat_cond ?_ ?_ | with_reducible refine nat_bind fun _ => ?_ | rfl
theorem impl_HeadSame.eq (k : Nat) (a0_0 : Int) (a0_1 : Int) (a0_2 : Int) (a0_3z : Bool) (a0_3 : List Int) (a0_4z : Bool) (a0_4 : List Int) (a0_5 : Int) (a0_6 : Int) (a0_7z : Bool) (a0_7 : List Int) (a0_8z : Bool) (a0_8 : List Int) (a0_9z : Bool) (a0_9 : List T) (a1_0 : Int) (a1_1 : Int) (a1_2 : Int) (a1_3z : Bool) (a1_3 : List Int) (a1_4z : Bool) (a1_4 : List Int) (a1_5 : Int) (a1_6 : Int) (a1_7z : Bool) (a1_7 : List Int) (a1_8z : Bool) (a1_8 : List Int) (a1_9z : Bool) (a1_9 : List T) : answer Try.prog impl_HeadSame.Cs 100000 impl_HeadSame.cuts [] Try.f158 (k + 1) [.v (.agg [(.int .i64 a0_0), (.int .i64 a0_1), (.int .i64 a0_2), (.nums 5 .u8 a0_3z a0_3), (.nums 5 .u8 a0_4z a0_4), (.int .i64 a0_5), (.int .i64 a0_6), (.nums 5 .u8 a0_7z a0_7), (.nums 5 .u8 a0_8z a0_8), (.sl 25 a0_9z a0_9)]), .v (.agg [(.int .i64 a1_0), (.int .i64 a1_1), (.int .i64 a1_2), (.nums 5 .u8 a1_3z a1_3), (.nums 5 .u8 a1_4z a1_4), (.int .i64 a1_5), (.int .i64 a1_6), (.nums 5 .u8 a1_7z a1_7), (.nums 5 .u8 a1_8z a1_8), (.sl 25 a1_9z a1_9)])] = (impl_HeadSame.f (k + 1) a0_0 a0_1 a0_2 a0_3z a0_3 a0_4z a0_4 a0_5 a0_6 a0_7z a0_7 a0_8z a0_8 a0_9z a0_9 a1_0 a1_1 a1_2 a1_3z a1_3 a1_4z a1_4 a1_5 a1_6 a1_7z a1_7 a1_8z a1_8 a1_9z a1_9).map impl_HeadSame.enc := by
  refine (impl_HeadSame.s k a0_0 a0_1 a0_2 a0_3z a0_3 a0_4z a0_4 a0_5 a0_6 a0_7z a0_7 a0_8z a0_8 a0_9z a0_9 a1_0 a1_1 a1_2 a1_3z a1_3 a1_4z a1_4 a1_5 a1_6 a1_7z a1_7 a1_8z a1_8 a1_9z a1_9).trans (Eq.trans ?_ (impl_HeadSame.b_nat impl_HeadSame.enc some k a0_0 a0_1 a0_2 a0_3z a0_3 a0_4z a0_4 a0_5 a0_6 a0_7z a0_7 a0_8z a0_8 a0_9z a0_9 a1_0 a1_1 a1_2 a1_3z a1_3 a1_4z a1_4 a1_5 a1_6 a1_7z a1_7 a1_8z a1_8 a1_9z a1_9))
  simp only [Option.map_some]
theorem impl_HeadSame.sound (k : Nat) : SoundF Try.prog 158 (fun a => (impl_HeadSame.ans k a).val) := by
  intro args res h
  unfold impl_HeadSame.ans at h
  dsimp only at h
  split at h
  · cases k with
    | zero => cases h
    | succ k =>
      unfold Ans.val at h
      rw [← impl_HeadSame.eq] at h
      exact answer_sound mixed Try.func158 _ _ _ (k + 1) (fun j _ => tab_sound (tab_cons (impl_SameBytes.sound j) (tab_cons (impl_QcSame.sound j) (tab_nil)))) _ _ h
  · exact (Ans.no_val h).elim

/-! loop.example/g00790/impl.headsSame -/
def impl_headsSame.b {R : Type} (ret : Bool → Option R) (j0 : Bool → (List T) → Bool → (List T) → Int → Int → Option R) (k : Nat) (a0z : Bool) (a0 : List T) (a1z : Bool) (a1 : List T) : Option R :=
  cond (!(decide (((a0).length : Int) = ((a1).length : Int)))) (ret false) (j0 a0z a0 a1z a1 ((a0).length : Int) 0)
def impl_headsSame.l0b {R : Type} (ret : Bool → Option R) (j0 : Bool → (List T) → Bool → (List T) → Int → Int → Option R) (k : Nat) (x0z : Bool) (x0 : List T) (x1z : Bool) (x1 : List T) (x12 : Int) (x13 : Int) : Option R :=
  cond (decide (x13 < x12)) (cond (decide ((0 : Int) ≤ x13)) (cond (decide (x13 < ((x0).length : Int))) (cond (decide ((0 : Int) ≤ x13)) (cond (decide (x13 < ((x1).length : Int))) ((impl_HeadSame.f k (((((x0).getD (x13).toNat .bad).cells.getD 0 .bad)).toInt) (((((x0).getD (x13).toNat .bad).cells.getD 1 .bad)).toInt) (((((x0).getD (x13).toNat .bad).cells.getD 2 .bad)).toInt) (((((x0).getD (x13).toNat .bad).cells.getD 3 .bad)).isNil) (((((x0).getD (x13).toNat .bad).cells.getD 3 .bad)).toNums) (((((x0).getD (x13).toNat .bad).cells.getD 4 .bad)).isNil) (((((x0).getD (x13).toNat .bad).cells.getD 4 .bad)).toNums) (((((x0).getD (x13).toNat .bad).cells.getD 5 .bad)).toInt) (((((x0).getD (x13).toNat .bad).cells.getD 6 .bad)).toInt) (((((x0).getD (x13).toNat .bad).cells.getD 7 .bad)).isNil) (((((x0).getD (x13).toNat .bad).cells.getD 7 .bad)).toNums) (((((x0).getD (x13).toNat .bad).cells.getD 8 .bad)).isNil) (((((x0).getD (x13).toNat .bad).cells.getD 8 .bad)).toNums) (((((x0).getD (x13).toNat .bad).cells.getD 9 .bad)).isNil) (((((x0).getD (x13).toNat .bad).cells.getD 9 .bad)).toList) (((((x1).getD (x13).toNat .bad).cells.getD 0 .bad)).toInt) (((((x1).getD (x13).toNat .bad).cells.getD 1 .bad)).toInt) (((((x1).getD (x13).toNat .bad).cells.getD 2 .bad)).toInt) (((((x1).getD (x13).toNat .bad).cells.getD 3 .bad)).isNil) (((((x1).getD (x13).toNat .bad).cells.getD 3 .bad)).toNums) (((((x1).getD (x13).toNat .bad).cells.getD 4 .bad)).isNil) (((((x1).getD (x13).toNat .bad).cells.getD 4 .bad)).toNums) (((((x1).getD (x13).toNat .bad).cells.getD 5 .bad)).toInt) (((((x1).getD (x13).toNat .bad).cells.getD 6 .bad)).toInt) (((((x1).getD (x13).toNat .bad).cells.getD 7 .bad)).isNil) (((((x1).getD (x13).toNat .bad).cells.getD 7 .bad)).toNums) (((((x1).getD (x13).toNat .bad).cells.getD 8 .bad)).isNil) (((((x1).getD (x13).toNat .bad).cells.getD 8 .bad)).toNums) (((((x1).getD (x13).toNat .bad).cells.getD 9 .bad)).isNil) (((((x1).getD (x13).toNat .bad).cells.getD 9 .bad)).toList)).bind fun t0 => cond (!t0) (ret false) (j0 x0z x0 x1z x1 x12 (RowKit.wrap64 (x13 + 1)))) (none)) (none)) (none)) (none)) (ret true)
def impl_headsSame.l0 : Nat → Bool → (List T) → Bool → (List T) → Int → Int → Option Bool
  | 0, _, _, _, _, _, _ => none
  | k + 1, x0z, x0, x1z, x1, x12, x13 => impl_headsSame.l0b some (impl_headsSame.l0 k) k x0z x0 x1z x1 x12 x13
def impl_headsSame.f : Nat → Bool → (List T) → Bool → (List T) → Option Bool
  | 0, _, _, _, _ => none
  | k + 1, a0z, a0, a1z, a1 => impl_headsSame.b some (impl_headsSame.l0 k) k a0z a0 a1z a1
def impl_headsSame.enc (r : Bool) : Res := ⟨[.vals false [((.bool r), true)]], []⟩
def impl_headsSame.ans (k : Nat) : List Arg → Ans
  | [.v (.sl 46 a0z a0), .v (.sl 46 a1z a1)] => ⟨impl_headsSame.f k a0z a0 a1z a1, impl_headsSame.enc⟩
  | _ => Ans.no
def impl_headsSame.Cs (k : Nat) : CallSem := tab [(158, impl_HeadSame.ans k)]
def impl_headsSame.cuts : List (Nat × Keep) := [(58, ⟨[(0, some []), (1, some []), (12, some []), (13, some [])], []⟩)]
noncomputable def impl_headsSame.K0 : List Fr := framesAt [true, true, false, true, false] (bodyOf Try.f101 impl_headsSame.cuts) []
def impl_headsSame.N0 (x0z : Bool) (x0 : List T) (x1z : Bool) (x1 : List T) (x12 : Int) (x13 : Int) : St := stOf 27 27 2 [(0, .val ⟨(.sl 46 x0z x0), [], false, none⟩), (1, .val ⟨(.sl 46 x1z x1), [], false, none⟩), (12, .val (V.s (.int .i64 x12))), (13, .val (V.s (.int .i64 x13)))] []
theorem impl_headsSame.s (k : Nat) (a0z : Bool) (a0 : List T) (a1z : Bool) (a1 : List T) : answer Try.prog impl_headsSame.Cs 100000 impl_headsSame.cuts [] Try.f101 (k + 1) [.v (.sl 46 a0z a0), .v (.sl 46 a1z a1)] = impl_headsSame.b (fun r => some (impl_headsSame.enc r)) (fun x0z x0 x1z x1 x12 x13 => rounds Try.prog impl_headsSame.Cs (finish Try.prog [] Try.f101 [.v (.sl 46 a0z a0), .v (.sl 46 a1z a1)]) 100000 k impl_headsSame.K0 (impl_headsSame.N0 x0z x0 x1z x1 x12 x13)) k a0z a0 a1z a1 := by kernel_rfl
theorem impl_headsSame.s0 (k : Nat) (G : List Fr → St → Option Res) (a0z : Bool) (a0 : List T) (a1z : Bool) (a1 : List T) (yx0z : Bool) (yx0 : List T) (yx1z : Bool) (yx1 : List T) (yx12 : Int) (yx13 : Int) : resume Try.prog (impl_headsSame.Cs k) G (finish Try.prog [] Try.f101 [.v (.sl 46 a0z a0), .v (.sl 46 a1z a1)]) 100000 impl_headsSame.K0 (impl_headsSame.N0 yx0z yx0 yx1z yx1 yx12 yx13) = impl_headsSame.l0b (fun r => some (impl_headsSame.enc r)) (fun x0z x0 x1z x1 x12 x13 => G impl_headsSame.K0 (impl_headsSame.N0 x0z x0 x1z x1 x12 x13)) k yx0z yx0 yx1z yx1 yx12 yx13 := by kernel_rfl
theorem impl_headsSame.b_nat {R R' : Type} (e : R → R') (ret : Bool → Option R) (j0 : Bool → (List T) → Bool → (List T) → Int → Int → Option R) (k : Nat) (a0z : Bool) (a0 : List T) (a1z : Bool) (a1 : List T) : impl_headsSame.b (fun r => (ret r).map e) (fun x0z x0 x1z x1 x12 x13 => (j0 x0z x0 x1z x1 x12 x13).map e) k a0z a0 a1z a1 = (impl_headsSame.b ret j0 k a0z a0 a1z a1).map e := by
  unfold impl_headsSame.b
  repeat' first | with_reducible refine nat_cond ?_ ?_ | with_reducible refine nat_bind fun _ => ?_ | rfl
theorem impl_headsSame.l0b_nat {R R' : Type} (e : R → R') (ret : Bool → Option R) (j0 : Bool → (List T) → Bool → (List T) → Int → Int → Option R) (k : Nat) (x0z : Bool) (x0 : List T) (x1z : Bool) (x1 : List T) (x12 : Int) (x13 : Int) : impl_headsSame.l0b (fun r => (ret r).map e) (fun x0z x0 x1z x1 x12 x13 => (j0 x0z x0 x1z x1 x12 x13).map e) k x0z x0 x1z x1 x12 x13 = (impl_headsSame.l0b ret j0 k x0z x0 x1z x1 x12 x13).map e := by
  unfold impl_headsSame.l0b
  repeat' first | with_reducible refine nat_cond ?_ ?_ | with_reducible refine nat_bind fun _ => ?_ | rfl
theorem impl_headsSame.rounds_eq (a0z : Bool) (a0 : List T) (a1z : Bool) (a1 : List T) : ∀ k, (∀ (x0z : Bool) (x0 : List T) (x1z : Bool) (x1 : List T) (x12 : Int) (x13 : Int), rounds Try.prog impl_headsSame.Cs (finish Try.prog [] Try.f101 [.v (.sl 46 a0z a0), .v (.sl 46 a1z a1)]) 100000 k impl_headsSame.K0 (impl_headsSame.N0 x0z x0 x1z x1 x12 x13) = (impl_headsSame.l0 k x0z x0 x1z x1 x12 x13).map impl_headsSame.enc)
  | 0 => fun _ _ _ _ _ _ => rfl
  | k + 1 => by
    have ih := impl_headsSame.rounds_eq a0z a0 a1z a1 k
    refine fun _ _ _ _ _ _ => ?_
    · refine (impl_headsSame.s0 k _ a0z a0 a1z a1 _ _ _ _ _ _).trans (Eq.trans ?_ (impl_headsSame.l0b_nat impl_headsSame.enc some (impl_headsSame.l0 k) k _ _ _ _ _ _))
      simp only [ih, Option.map_some]
theorem impl_headsSame.eq (k : Nat) (a0z : Bool) (a0 : List T) (a1z : Bool) (a1 : List T) : answer Try.prog impl_headsSame.Cs 100000 impl_headsSame.cuts [] Try.f101 (k + 1) [.v (.sl 46 a0z a0), .v (.sl 46 a1z a1)] = (impl_headsSame.f (k + 1) a0z a0 a1z a1).map impl_headsSame.enc := by
  have ih := impl_headsSame.rounds_eq a0z a0 a1z a1 k
  refine (impl_headsSame.s k a0z a0 a1z a1).trans (Eq.trans ?_ (impl_headsSame.b_nat impl_headsSame.enc some (impl_headsSame.l0 k) k a0z a0 a1z a1))
  simp only [ih, Option.map_some]
theorem impl_headsSame.sound (k : Nat) : SoundF Try.prog 101 (fun a => (impl_headsSame.ans k a).val) := by
  intro args res h
  unfold impl_headsSame.ans at h
  dsimp only at h
  split at h
  · cases k with
    | zero => cases h
    | succ k =>
      unfold Ans.val at h
      rw [← impl_headsSame.eq] at h
      exact answer_sound mixed Try.func101 _ _ _ (k + 1) (fun j _ => tab_sound (tab_cons (impl_HeadSame.sound j) (tab_nil))) _ _ h
  · exact (Ans.no_val h).elim

/-! loop.example/g00790/impl.LightSame -/
def impl_LightSame.b {R : Type} (ret : Bool → Option R) (k : Nat) (a0_0 : Int) (a0_1 : Int) (a0_2 : Int) (a0_3 : Int) (a0_4 : Int) (a0_5z : Bool) (a0_5 : List T) (a0_6 : Int) (a0_7z : Bool) (a0_7 : List Int) (a0_8z : Bool) (a0_8 : List T) (a1_0 : Int) (a1_1 : Int) (a1_2 : Int) (a1_3 : Int) (a1_4 : Int) (a1_5z : Bool) (a1_5 : List T) (a1_6 : Int) (a1_7z : Bool) (a1_7 : List Int) (a1_8z : Bool) (a1_8 : List T) : Option R :=
  cond (decide (a0_0 = a1_0) && (decide (a0_1 = a1_1) && (decide (a0_2 = a1_2) && (decide (a0_3 = a1_3) && (decide (a0_4 = a1_4) && true))))) ((impl_TableSame.f k a0_5z a0_5 a1_5z a1_5).bind fun t0 => cond t0 (cond (decide (a0_6 = a1_6)) ((impl_SameBytes.f k a0_7z a0_7 a1_7z a1_7).bind fun t1 => cond t1 ((impl_headsSame.f k a0_8z a0_8 a1_8z a1_8).bind fun t2 => ret t2) (ret false)) (ret false)) (ret false)) (ret false)
def impl_LightSame.f : Nat → Int → Int → Int → Int → Int → Bool → (List T) → Int → Bool → (List Int) → Bool → (List T) → Int → Int → Int → Int → Int → Bool → (List T) → Int → Bool → (List Int) → Bool → (List T) → Option Bool
  | 0, _, _, _, _, _, _, _, _, _, _, _, _, _, _, _, _, _, _, _, _, _, _, _, _ => none
  | k + 1, a0_0, a0_1, a0_2, a0_3, a0_4, a0_5z, a0_5, a0_6, a0_7z, a0_7, a0_8z, a0_8, a1_0, a1_1, a1_2, a1_3, a1_4, a1_5z, a1_5, a1_6, a1_7z, a1_7, a1_8z, a1_8 => impl_LightSame.b some k a0_0 a0_1 a0_2 a0_3 a0_4 a0_5z a0_5 a0_6 a0_7z a0_7 a0_8z a0_8 a1_0 a1_1 a1_2 a1_3 a1_4 a1_5z a1_5 a1_6 a1_7z a1_7 a1_8z a1_8
def impl_LightSame.enc (r : Bool) : Res := ⟨[.vals false [((.bool r), true)]], []⟩
def impl_LightSame.ans (k : Nat) : List Arg → Ans
  | [.v (.agg [(.int .i64 a0_0), (.int .i64 a0_1), (.int .i64 a0_2), (.int .i64 a0_3), (.int .i64 a0_4), (.sl 127 a0_5z a0_5), (.int .i64 a0_6), (.nums 5 .u8 a0_7z a0_7), (.sl 46 a0_8z a0_8)]), .v (.agg [(.int .i64 a1_0), (.int .i64 a1_1), (.int .i64 a1_2), (.int .i64 a1_3), (.int .i64 a1_4), (.sl 127 a1_5z a1_5), (.int .i64 a1_6), (.nums 5 .u8 a1_7z a1_7), (.sl 46 a1_8z a1_8)])] => ⟨impl_LightSame.f k a0_0 a0_1 a0_2 a0_3 a0_4 a0_5z a0_5 a0_6 a0_7z a0_7 a0_8z a0_8 a1_0 a1_1 a1_2 a1_3 a1_4 a1_5z a1_5 a1_6 a1_7z a1_7 a1_8z a1_8, impl_LightSame.enc⟩
  | _ => Ans.no
def impl_LightSame.Cs (k : Nat) : CallSem := tab [(100, impl_TableSame.ans k), (45, impl_SameBytes.ans k), (101, impl_headsSame.ans k)]
def impl_LightSame.cuts : List (Nat × Keep) := []
theorem impl_LightSame.s (k : Nat) (a0_0 : Int) (a0_1 : Int) (a0_2 : Int) (a0_3 : Int) (a0_4 : Int) (a0_5z : Bool) (a0_5 : List T) (a0_6 : Int) (a0_7z : Bool) (a0_7 : List Int) (a0_8z : Bool) (a0_8 : List T) (a1_0 : Int) (a1_1 : Int) (a1_2 : Int) (a1_3 : Int) (a1_4 : Int) (a1_5z : Bool) (a1_5 : List T) (a1_6 : Int) (a1_7z : Bool) (a1_7 : List Int) (a1_8z : Bool) (a1_8 : List T) : answer Try.prog impl_LightSame.Cs 100000 impl_LightSame.cuts [] Try.f36 (k + 1) [.v (.agg [(.int .i64 a0_0), (.int .i64 a0_1), (.int .i64 a0_2), (.int .i64 a0_3), (.int .i64 a0_4), (.sl 127 a0_5z a0_5), (.int .i64 a0_6), (.nums 5 .u8 a0_7z a0_7), (.sl 46 a0_8z a0_8)]), .v (.agg [(.int .i64 a1_0), (.int .i64 a1_1), (.int .i64 a1_2), (.int .i64 a1_3), (.int .i64 a1_4), (.sl 127 a1_5z a1_5), (.int .i64 a1_6), (.nums 5 .u8 a1_7z a1_7), (.sl 46 a1_8z a1_8)])] = impl_LightSame.b (fun r => some (impl_LightSame.enc r)) k a0_0 a0_1 a0_2 a0_3 a0_4 a0_5z a0_5 a0_6 a0_7z a0_7 a0_8z a0_8 a1_0 a1_1 a1_2 a1_3 a1_4 a1_5z a1_5 a1_6 a1_7z a1_7 a1_8z a1_8 := by kernel_rfl
theorem impl_LightSame.b_nat {R R' : Type} (e : R → R') (ret : Bool → Option R) (k : Nat) (a0_0 : Int) (a0_1 : Int) (a0_2 : Int) (a0_3 : Int) (a0_4 : Int) (a0_5z : Bool) (a0_5 : List T) (a0_6 : Int) (a0_7z : Bool) (a0_7 : List Int) (a0_8z : Bool) (a0_8 : List T) (a1_0 : Int) (a1_1 : Int) (a1_2 : Int) (a1_3 : Int) (a1_4 : Int) (a1_5z : Bool) (a1_5 : List T) (a1_6 : Int) (a1_7z : Bool) (a1_7 : List Int) (a1_8z : Bool) (a1_8 : List T) : impl_LightSame.b (fun r => (ret r).map e) k a0_0 a0_1 a0_2 a0_3 a0_4 a0_5z a0_5 a0_6 a0_7z a0_7 a0_8z a0_8 a1_0 a1_1 a1_2 a1_3 a1_4 a1_5z a1_5 a1_6 a1_7z a1_7 a1_8z a1_8 = (impl_LightSame.b ret k a0_0 a0_1 a0_2 a0_3 a0_4 a0_5z a0_5 a0_6 a0_7z a0_7 a0_8z a0_8 a1_0 a1_1 a1_2 a1_3 a1_4 a1_5z a1_5 a1_6 a1_7z a1_7 a1_8z a1_8).map e := by
  unfold impl_LightSame.b
  repeat' first | with_reducible refine nat_cond ?_ ?_ | with_reducible refine nat_bind fun _ => ?_ | rfl
theorem impl_LightSame.eq (k : Nat) (a0_0 : Int) (a0_1 : Int) (a0_2 : Int) (a0_3 : Int) (a0_4 : Int) (a0_5z : Bool) (a0_5 : List T) (a0_6 : Int) (a0_7z : Bool) (a0_7 : List Int) (a0_8z : Bool) (a0_8 : List T) (a1_0 : Int) (a1_1 : Int) (a1_2 : Int) (a1_3 : Int) (a1_4 : Int) (a1_5z : Bool) (a1_5 : List T) (a1_6 : Int) (a1_7z : Bool) (a1_7 : List Int) (a1_8z : Bool) (a1_8 : List T) : answer Try.prog impl_LightSame.Cs 100000 impl_LightSame.cuts [] Try.f36 (k + 1) [.v (.agg [(.int .i64 a0_0), (.int .i64 a0_1), (.int .i64 a0_2), (.int .i64 a0_3), (.int .i64 a0_4), (.sl 127 a0_5z a0_5), (.int .i64 a0_6), (.nums 5 .u8 a0_7z a0_7), (.sl 46 a0_8z a0_8)]), .v (.agg [(.int .i64 a1_0), (.int .i64 a1_1), (.int .i64 a1_2), (.int .i64 a1_3), (.int .i64 a1_4), (.sl 127 a1_5z a1_5), (.int .i64 a1_6), (.nums 5 .u8 a1_7z a1_7), (.sl 46 a1_8z a1_8)])] = (impl_LightSame.f (k + 1) a0_0 a0_1 a0_2 a0_3 a0_4 a0_5z a0_5 a0_6 a0_7z a0_7 a0_8z a0_8 a1_0 a1_1 a1_2 a1_3 a1_4 a1_5z a1_5 a1_6 a1_7z a1_7 a1_8z a1_8).map impl_LightSame.enc := by
  refine (impl_LightSame.s k a0_0 a0_1 a0_2 a0_3 a0_4 a0_5z a0_5 a0_6 a0_7z a0_7 a0_8z a0_8 a1_0 a1_1 a1_2 a1_3 a1_4 a1_5z a1_5 a1_6 a1_7z a1_7 a1_8z a1_8).trans (Eq.trans ?_ (impl_LightSame.b_nat impl_LightSame.enc some k a0_0 a0_1 a0_2 a0_3 a0_4 a0_5z a0_5 a0_6 a0_7z a0_7 a0_8z a0_8 a1_0 a1_1 a1_2 a1_3 a1_4 a1_5z a1_5 a1_6 a1_7z a1_7 a1_8z a1_8))
  simp only [Option.map_some]
theorem impl_LightSame.sound (k : Nat) : SoundF Try.prog 36 (fun a => (impl_LightSame.ans k a).val) := by
  intro args res h
  unfold impl_LightSame.ans at h
  dsimp only at h
  split at h
  · cases k with
    | zero => cases h
    | succ k =>
      unfold Ans.val at h
      rw [← impl_LightSame.eq] at h
      exact answer_sound mixed Try.func36 _ _ _ (k + 1) (fun j _ => tab_sound (tab_cons (impl_TableSame.sound j) (tab_cons (impl_SameBytes.sound j) (tab_cons (impl_headsSame.sound j) (tab_nil))))) _ _ h
  · exact (Ans.no_val h).elim

/-! loop.example/g00790/laws.eqLimits -/
def laws_eqLimits.b {R : Type} (ret : Bool → Option R) (k : Nat) (a0_0 : Int) (a0_1 : Int) (a0_2 : Int) (a0_3 : Int) (a0_4 : Int) (a1_0 : Int) (a1_1 : Int) (a1_2 : Int) (a1_3 : Int) (a1_4 : Int) : Option R :=
  cond (!(decide (a0_0 = a1_0))) (ret false) (cond (!(decide (a0_1 = a1_1))) (ret false) (cond (!(decide (a0_2 = a1_2))) (ret false) (cond (!(decide (a0_3 = a1_3))) (ret false) (cond (!(decide (a0_4 = a1_4))) (ret false) (ret true)))))
def laws_eqLimits.f : Nat → Int → Int → Int → Int → Int → Int → Int → Int → Int → Int → Option Bool
  | 0, _, _, _, _, _, _, _, _, _, _ => none
  | k + 1, a0_0, a0_1, a0_2, a0_3, a0_4, a1_0, a1_1, a1_2, a1_3, a1_4 => laws_eqLimits.b some k a0_0 a0_1 a0_2 a0_3 a0_4 a1_0 a1_1 a1_2 a1_3 a1_4
def laws_eqLimits.enc (r : Bool) : Res := ⟨[.vals false [((.bool r), true)]], []⟩
def laws_eqLimits.ans (k : Nat) : List Arg → Ans
  | [.v (.agg [(.int .i64 a0_0), (.int .i64 a0_1), (.int .i64 a0_2), (.int .i64 a0_3), (.int .i64 a0_4)]), .v (.agg [(.int .i64 a1_0), (.int .i64 a1_1), (.int .i64 a1_2), (.int .i64 a1_3), (.int .i64 a1_4)])] => ⟨laws_eqLimits.f k a0_0 a0_1 a0_2 a0_3 a0_4 a1_0 a1_1 a1_2 a1_3 a1_4, laws_eqLimits.enc⟩
  | _ => Ans.no
def laws_eqLimits.Cs (k : Nat) : CallSem := tab []
def laws_eqLimits.cuts : List (Nat × Keep) := []
theorem laws_eqLimits.s (k : Nat) (a0_0 : Int) (a0_1 : Int) (a0_2 : Int) (a0_3 : Int) (a0_4 : Int) (a1_0 : Int) (a1_1 : Int) (a1_2 : Int) (a1_3 : Int) (a1_4 : Int) : answer Try.prog laws_eqLimits.Cs 100000 laws_eqLimits.cuts [] Try.f102 (k + 1) [.v (.agg [(.int .i64 a0_0), (.int .i64 a0_1), (.int .i64 a0_2), (.int .i64 a0_3), (.int .i64 a0_4)]), .v (.agg [(.int .i64 a1_0), (.int .i64 a1_1), (.int .i64 a1_2), (.int .i64 a1_3), (.int .i64 a1_4)])] = laws_eqLimits.b (fun r => some (laws_eqLimits.enc r)) k a0_0 a0_1 a0_2 a0_3 a0_4 a1_0 a1_1 a1_2 a1_3 a1_4 := by kernel_rfl
theorem laws_eqLimits.b_nat {R R' : Type} (e : R → R') (ret : Bool → Option R) (k : Nat) (a0_0 : Int) (a0_1 : Int) (a0_2 : Int) (a0_3 : Int) (a0_4 : Int) (a1_0 : Int) (a1_1 : Int) (a1_2 : Int) (a1_3 : Int) (a1_4 : Int) : laws_eqLimits.b (fun r => (ret r).map e) k a0_0 a0_1 a0_2 a0_3 a0_4 a1_0 a1_1 a1_2 a1_3 a1_4 = (laws_eqLimits.b ret k a0_0 a0_1 a0_2 a0_3 a0_4 a1_0 a1_1 a1_2 a1_3 a1_4).map e := by
  unfold laws_eqLimits.b
  repeat' first | with_reducible refine nat_cond ?_ ?_ | with_reducible refine nat_bind fun _ => ?_ | rfl
theorem laws_eqLimits.eq (k : Nat) (a0_0 : Int) (a0_1 : Int) (a0_2 : Int) (a0_3 : Int) (a0_4 : Int) (a1_0 : Int) (a1_1 : Int) (a1_2 : Int) (a1_3 : Int) (a1_4 : Int) : answer Try.prog laws_eqLimits.Cs 100000 laws_eqLimits.cuts [] Try.f102 (k + 1) [.v (.agg [(.int .i64 a0_0), (.int .i64 a0_1), (.int .i64 a0_2), (.int .i64 a0_3), (.int .i64 a0_4)]), .v (.agg [(.int .i64 a1_0), (.int .i64 a1_1), (.int .i64 a1_2), (.int .i64 a1_3), (.int .i64 a1_4)])] = (laws_eqLimits.f (k + 1) a0_0 a0_1 a0_2 a0_3 a0_4 a1_0 a1_1 a1_2 a1_3 a1_4).map laws_eqLimits.enc := by
  refine (laws_eqLimits.s k a0_0 a0_1 a0_2 a0_3 a0_4 a1_0 a1_1 a1_2 a1_3 a1_4).trans (Eq.trans ?_ (laws_eqLimits.b_nat laws_eqLimits.enc some k a0_0 a0_1 a0_2 a0_3 a0_4 a1_0 a1_1 a1_2 a1_3 a1_4))
  simp only [Option.map_some]
theorem laws_eqLimits.sound (k : Nat) : SoundF Try.prog 102 (fun a => (laws_eqLimits.ans k a).val) := by
  intro args res h
  unfold laws_eqLimits.ans at h
  dsimp only at h
  split at h
  · cases k with
    | zero => cases h
    | succ k =>
      unfold Ans.val at h
      rw [← laws_eqLimits.eq] at h
      exact answer_sound mixed Try.func102 _ _ _ (k + 1) (fun j _ => tab_sound (tab_nil)) _ _ h
  · exact (Ans.no_val h).elim

/-! loop.example/g00790/laws.eqByteS -/
def laws_eqByteS.b {R : Type} (ret : Bool → Option R) (j0 : Bool → (List Int) → Bool → (List Int) → Int → Option R) (k : Nat) (a0z : Bool) (a0 : List Int) (a1z : Bool) (a1 : List Int) : Option R :=
  cond (!(decide (((a0).length : Int) = ((a1).length : Int)))) (ret false) (j0 a0z a0 a1z a1 0)
def laws_eqByteS.l0b {R : Type} (ret : Bool → Option R) (j0 : Bool → (List Int) → Bool → (List Int) → Int → Option R) (k : Nat) (x0z : Bool) (x0 : List Int) (x1z : Bool) (x1 : List Int) (x5 : Int) : Option R :=
  cond (decide (x5 < ((x0).length : Int))) (cond (decide ((0 : Int) ≤ x5)) (cond (decide (x5 < ((x0).length : Int))) (cond (decide ((0 : Int) ≤ x5)) (cond (decide (x5 < ((x1).length : Int))) (cond (!(decide ((rdI x0 x5) = (rdI x1 x5)))) (ret false) (j0 x0z x0 x1z x1 (RowKit.wrap64 (x5 + 1)))) (none)) (none)) (none)) (none)) (ret true)
def laws_eqByteS.l0 : Nat → Bool → (List Int) → Bool → (List Int) → Int → Option Bool
  | 0, _, _, _, _, _ => none
  | k + 1, x0z, x0, x1z, x1, x5 => laws_eqByteS.l0b some (laws_eqByteS.l0 k) k x0z x0 x1z x1 x5
def laws_eqByteS.f : Nat → Bool → (List Int) → Bool → (List Int) → Option Bool
  | 0, _, _, _, _ => none
  | k + 1, a0z, a0, a1z, a1 => laws_eqByteS.b some (laws_eqByteS.l0 k) k a0z a0 a1z a1
def laws_eqByteS.enc (r : Bool) : Res := ⟨[.vals false [((.bool r), true)]], []⟩
def laws_eqByteS.ans (k : Nat) : List Arg → Ans
  | [.v (.nums 5 .u8 a0z a0), .v (.nums 5 .u8 a1z a1)] => ⟨laws_eqByteS.f k a0z a0 a1z a1, laws_eqByteS.enc⟩
  | _ => Ans.no
def laws_eqByteS.Cs (k : Nat) : CallSem := tab []
def laws_eqByteS.cuts : List (Nat × Keep) := [(58, ⟨[(0, some []), (1, some []), (5, some [])], []⟩)]
noncomputable def laws_eqByteS.K0 : List Fr := framesAt [true, true, false, true, false] (bodyOf Try.f24 laws_eqByteS.cuts) []
def laws_eqByteS.N0 (x0z : Bool) (x0 : List Int) (x1z : Bool) (x1 : List Int) (x5 : Int) : St := stOf 26 26 2 [(0, .val ⟨(.nums 5 .u8 x0z x0), [], false, none⟩), (1, .val ⟨(.nums 5 .u8 x1z x1), [], false, none⟩), (5, .val (V.s (.int .i64 x5)))] []
theorem laws_eqByteS.s (k : Nat) (a0z : Bool) (a0 : List Int) (a1z : Bool) (a1 : List Int) : answer Try.prog laws_eqByteS.Cs 100000 laws_eqByteS.cuts [] Try.f24 (k + 1) [.v (.nums 5 .u8 a0z a0), .v (.nums 5 .u8 a1z a1)] = laws_eqByteS.b (fun r => some (laws_eqByteS.enc r)) (fun x0z x0 x1z x1 x5 => rounds Try.prog laws_eqByteS.Cs (finish Try.prog [] Try.f24 [.v (.nums 5 .u8 a0z a0), .v (.nums 5 .u8 a1z a1)]) 100000 k laws_eqByteS.K0 (laws_eqByteS.N0 x0z x0 x1z x1 x5)) k a0z a0 a1z a1 := by kernel_rfl
theorem laws_eqByteS.s0 (k : Nat) (G : List Fr → St → Option Res) (a0z : Bool) (a0 : List Int) (a1z : Bool) (a1 : List Int) (yx0z : Bool) (yx0 : List Int) (yx1z : Bool) (yx1 : List Int) (yx5 : Int) : resume Try.prog (laws_eqByteS.Cs k) G (finish Try.prog [] Try.f24 [.v (.nums 5 .u8 a0z a0), .v (.nums 5 .u8 a1z a1)]) 100000 laws_eqByteS.K0 (laws_eqByteS.N0 yx0z yx0 yx1z yx1 yx5) = laws_eqByteS.l0b (fun r => some (laws_eqByteS.enc r)) (fun x0z x0 x1z x1 x5 => G laws_eqByteS.K0 (laws_eqByteS.N0 x0z x0 x1z x1 x5)) k yx0z yx0 yx1z yx1 yx5 := by kernel_rfl
theorem laws_eqByteS.b_nat {R R' : Type} (e : R → R') (ret : Bool → Option R) (j0 : Bool → (List Int) → Bool → (List Int) → Int → Option R) (k : Nat) (a0z : Bool) (a0 : List Int) (a1z : Bool) (a1 : List Int) : laws_eqByteS.b (fun r => (ret r).map e) (fun x0z x0 x1z x1 x5 => (j0 x0z x0 x1z x1 x5).map e) k a0z a0 a1z a1 = (laws_eqByteS.b ret j0 k a0z a0 a1z a1).map e := by
  unfold laws_eqByteS.b
  repeat' first | with_reducible refine nat_cond ?_ ?_ | with_reducible refine nat_bind fun _ => ?_ | rfl
theorem laws_eqByteS.l0b_nat {R R' : Type} (e : R → R') (ret : Bool → Option R) (j0 : Bool → (List Int) → Bool → (List Int) → Int → Option R) (k : Nat) (x0z : Bool) (x0 : List Int) (x1z : Bool) (x1 : List Int) (x5 : Int) : laws_eqByteS.l0b (fun r => (ret r).map e) (fun x0z x0 x1z x1 x5 => (j0 x0z x0 x1z x1 x5).map e) k x0z x0 x1z x1 x5 = (laws_eqByteS.l0b ret j0 k x0z x0 x1z x1 x5).map e := by
  unfold laws_eqByteS.l0b
  repeat' first | with_reducible refine nat_cond ?_ ?_ | with_reducible refine nat_bind fun _ => ?_ | rfl
theorem laws_eqByteS.rounds_eq (a0z : Bool) (a0 : List Int) (a1z : Bool) (a1 : List Int) : ∀ k, (∀ (x0z : Bool) (x0 : List Int) (x1z : Bool) (x1 : List Int) (x5 : Int), rounds Try.prog laws_eqByteS.Cs (finish Try.prog [] Try.f24 [.v (.nums 5 .u8 a0z a0), .v (.nums 5 .u8 a1z a1)]) 100000 k laws_eqByteS.K0 (laws_eqByteS.N0 x0z x0 x1z x1 x5) = (laws_eqByteS.l0 k x0z x0 x1z x1 x5).map laws_eqByteS.enc)
  | 0 => fun _ _ _ _ _ => rfl
  | k + 1 => by
    have ih := laws_eqByteS.rounds_eq a0z a0 a1z a1 k
    refine fun _ _ _ _ _ => ?_
    · refine (laws_eqByteS.s0 k _ a0z a0 a1z a1 _ _ _ _ _).trans (Eq.trans ?_ (laws_eqByteS.l0b_nat laws_eqByteS.enc some (laws_eqByteS.l0 k) k _ _ _ _ _))
      simp only [ih, Option.map_some]
theorem laws_eqByteS.eq (k : Nat) (a0z : Bool) (a0 : List Int) (a1z : Bool) (a1 : List Int) : answer Try.prog laws_eqByteS.Cs 100000 laws_eqByteS.cuts [] Try.f24 (k + 1) [.v (.nums 5 .u8 a0z a0), .v (.nums 5 .u8 a1z a1)] = (laws_eqByteS.f (k + 1) a0z a0 a1z a1).map laws_eqByteS.enc := by
  have ih := laws_eqByteS.rounds_eq a0z a0 a1z a1 k
  refine (laws_eqByteS.s k a0z a0 a1z a1).trans (Eq.trans ?_ (laws_eqByteS.b_nat laws_eqByteS.enc some (laws_eqByteS.l0 k) k a0z a0 a1z a1))
  simp only [ih, Option.map_some]
theorem laws_eqByteS.sound (k : Nat) : SoundF Try.prog 24 (fun a => (laws_eqByteS.ans k a).val) := by
  intro args res h
  unfold laws_eqByteS.ans at h
  dsimp only at h
  split at h
  · cases k with
    | zero => cases h
    | succ k =>
      unfold Ans.val at h
      rw [← laws_eqByteS.eq] at h
      exact answer_sound mixed Try.func24 _ _ _ (k + 1) (fun j _ => tab_sound (tab_nil)) _ _ h
  · exact (Ans.no_val h).elim

/-! loop.example/g00790/laws.eqRow -/
def laws_eqRow.b {R : Type} (ret : Bool → Option R) (k : Nat) (a0_0 : Int) (a0_1z : Bool) (a0_1 : List Int) (a1_0 : Int) (a1_1z : Bool) (a1_1 : List Int) : Option R :=
  cond (!(decide (a0_0 = a1_0))) (ret false) ((laws_eqByteS.f k a0_1z a0_1 a1_1z a1_1).bind fun t0 => cond (!t0) (ret false) (ret true))
def laws_eqRow.f : Nat → Int → Bool → (List Int) → Int → Bool → (List Int) → Option Bool
  | 0, _, _, _, _, _, _ => none
  | k + 1, a0_0, a0_1z, a0_1, a1_0, a1_1z, a1_1 => laws_eqRow.b some k a0_0 a0_1z a0_1 a1_0 a1_1z a1_1
def laws_eqRow.enc (r : Bool) : Res := ⟨[.vals false [((.bool r), true)]], []⟩
def laws_eqRow.ans (k : Nat) : List Arg → Ans
  | [.v (.agg [(.int .i64 a0_0), (.nums 5 .u8 a0_1z a0_1)]), .v (.agg [(.int .i64 a1_0), (.nums 5 .u8 a1_1z a1_1)])] => ⟨laws_eqRow.f k a0_0 a0_1z a0_1 a1_0 a1_1z a1_1, laws_eqRow.enc⟩
  | _ => Ans.no
def laws_eqRow.Cs (k : Nat) : CallSem := tab [(24, laws_eqByteS.ans k)]
def laws_eqRow.cuts : List (Nat × Keep) := []
theorem laws_eqRow.s (k : Nat) (a0_0 : Int) (a0_1z : Bool) (a0_1 : List Int) (a1_0 : Int) (a1_1z : Bool) (a1_1 : List Int) : answer Try.prog laws_eqRow.Cs 100000 laws_eqRow.cuts [] Try.f132 (k + 1) [.v (.agg [(.int .i64 a0_0), (.nums 5 .u8 a0_1z a0_1)]), .v (.agg [(.int .i64 a1_0), (.nums 5 .u8 a1_1z a1_1)])] = laws_eqRow.b (fun r => some (laws_eqRow.enc r)) k a0_0 a0_1z a0_1 a1_0 a1_1z a1_1 := by kernel_rfl
theorem laws_eqRow.b_nat {R R' : Type} (e : R → R') (ret : Bool → Option R) (k : Nat) (a0_0 : Int) (a0_1z : Bool) (a0_1 : List Int) (a1_0 : Int) (a1_1z : Bool) (a1_1 : List Int) : laws_eqRow.b (fun r => (ret r).map e) k a0_0 a0_1z a0_1 a1_0 a1_1z a1_1 = (laws_eqRow.b ret k a0_0 a0_1z a0_1 a1_0 a1_1z a1_1).map e := by
  unfold laws_eqRow.b
  repeat' first | with_reducible refine nat_cond ?_ ?_ | with_reducible refine nat_bind fun _ => ?_ | rfl
theorem laws_eqRow.eq (k : Nat) (a0_0 : Int) (a0_1z : Bool) (a0_1 : List Int) (a1_0 : Int) (a1_1z : Bool) (a1_1 : List Int) : answer Try.prog laws_eqRow.Cs 100000 laws_eqRow.cuts [] Try.f132 (k + 1) [.v (.agg [(.int .i64 a0_0), (.nums 5 .u8 a0_1z a0_1)]), .v (.agg [(.int .i64 a1_0), (.nums 5 .u8 a1_1z a1_1)])] = (laws_eqRow.f (k + 1) a0_0 a0_1z a0_1 a1_0 a1_1z a1_1).map laws_eqRow.enc := by
  refine (laws_eqRow.s k a0_0 a0_1z a0_1 a1_0 a1_1z a1_1).trans (Eq.trans ?_ (laws_eqRow.b_nat laws_eqRow.enc some k a0_0 a0_1z a0_1 a1_0 a1_1z a1_1))
  simp only [Option.map_some]
theorem laws_eqRow.sound (k : Nat) : SoundF Try.prog 132 (fun a => (laws_eqRow.ans k a).val) := by
  intro args res h
  unfold laws_eqRow.ans at h
  dsimp only at h
  split at h
  · cases k with
    | zero => cases h
    | succ k =>
      unfold Ans.val at h
      rw [← laws_eqRow.eq] at h
      exact answer_sound mixed Try.func132 _ _ _ (k + 1) (fun j _ => tab_sound (tab_cons (laws_eqByteS.sound j) (tab_nil))) _ _ h
  · exact (Ans.no_val h).elim

/-! loop.example/g00790/laws.eqRowS -/
def laws_eqRowS.b {R : Type} (ret : Bool → Option R) (j0 : Bool → (List T) → Bool → (List T) → Int → Option R) (k : Nat) (a0z : Bool) (a0 : List T) (a1z : Bool) (a1 : List T) : Option R :=
  cond (!(decide (((a0).length : Int) = ((a1).length : Int)))) (ret false) (j0 a0z a0 a1z a1 0)
def laws_eqRowS.l0b {R : Type} (ret : Bool → Option R) (j0 : Bool → (List T) → Bool → (List T) → Int → Option R) (k : Nat) (x0z : Bool) (x0 : List T) (x1z : Bool) (x1 : List T) (x5 : Int) : Option R :=
  cond (decide (x5 < ((x0).length : Int))) (cond (decide ((0 : Int) ≤ x5)) (cond (decide (x5 < ((x0).length : Int))) (cond (decide ((0 : Int) ≤ x5)) (cond (decide (x5 < ((x1).length : Int))) ((laws_eqRow.f k (((((x0).getD (x5).toNat .bad).cells.getD 0 .bad)).toInt) (((((x0).getD (x5).toNat .bad).cells.getD 1 .bad)).isNil) (((((x0).getD (x5).toNat .bad).cells.getD 1 .bad)).toNums) (((((x1).getD (x5).toNat .bad).cells.getD 0 .bad)).toInt) (((((x1).getD (x5).toNat .bad).cells.getD 1 .bad)).isNil) (((((x1).getD (x5).toNat .bad).cells.getD 1 .bad)).toNums)).bind fun t0 => cond (!t0) (ret false) (j0 x0z x0 x1z x1 (RowKit.wrap64 (x5 + 1)))) (none)) (none)) (none)) (none)) (ret true)
def laws_eqRowS.l0 : Nat → Bool → (List T) → Bool → (List T) → Int → Option Bool
  | 0, _, _, _, _, _ => none
  | k + 1, x0z, x0, x1z, x1, x5 => laws_eqRowS.l0b some (laws_eqRowS.l0 k) k x0z x0 x1z x1 x5
def laws_eqRowS.f : Nat → Bool → (List T) → Bool → (List T) → Option Bool
  | 0, _, _, _, _ => none
  | k + 1, a0z, a0, a1z, a1 => laws_eqRowS.b some (laws_eqRowS.l0 k) k a0z a0 a1z a1
def laws_eqRowS.enc (r : Bool) : Res := ⟨[.vals false [((.bool r), true)]], []⟩
def laws_eqRowS.ans (k : Nat) : List Arg → Ans
  | [.v (.sl 127 a0z a0), .v (.sl 127 a1z a1)] => ⟨laws_eqRowS.f k a0z a0 a1z a1, laws_eqRowS.enc⟩
  | _ => Ans.no
def laws_eqRowS.Cs (k : Nat) : CallSem := tab [(132, laws_eqRow.ans k)]
def laws_eqRowS.cuts : List (Nat × Keep) := [(58, ⟨[(0, some []), (1, some []), (5, some [])], []⟩)]
noncomputable def laws_eqRowS.K0 : List Fr := framesAt [true, true, false, true, false] (bodyOf Try.f72 laws_eqRowS.cuts) []
def laws_eqRowS.N0 (x0z : Bool) (x0 : List T) (x1z : Bool) (x1 : List T) (x5 : Int) : St := stOf 27 27 2 [(0, .val ⟨(.sl 127 x0z x0), [], false, none⟩), (1, .val ⟨(.sl 127 x1z x1), [], false, none⟩), (5, .val (V.s (.int .i64 x5)))] []
theorem laws_eqRowS.s (k : Nat) (a0z : Bool) (a0 : List T) (a1z : Bool) (a1 : List T) : answer Try.prog laws_eqRowS.Cs 100000 laws_eqRowS.cuts [] Try.f72 (k + 1) [.v (.sl 127 a0z a0), .v (.sl 127 a1z a1)] = laws_eqRowS.b (fun r => some (laws_eqRowS.enc r)) (fun x0z x0 x1z x1 x5 => rounds Try.prog laws_eqRowS.Cs (finish Try.prog [] Try.f72 [.v (.sl 127 a0z a0), .v (.sl 127 a1z a1)]) 100000 k laws_eqRowS.K0 (laws_eqRowS.N0 x0z x0 x1z x1 x5)) k a0z a0 a1z a1 := by kernel_rfl
theorem laws_eqRowS.s0 (k : Nat) (G : List Fr → St → Option Res) (a0z : Bool) (a0 : List T) (a1z : Bool) (a1 : List T) (yx0z : Bool) (yx0 : List T) (yx1z : Bool) (yx1 : List T) (yx5 : Int) : resume Try.prog (laws_eqRowS.Cs k) G (finish Try.prog [] Try.f72 [.v (.sl 127 a0z a0), .v (.sl 127 a1z a1)]) 100000 laws_eqRowS.K0 (laws_eqRowS.N0 yx0z yx0 yx1z yx1 yx5) = laws_eqRowS.l0b (fun r => some (laws_eqRowS.enc r)) (fun x0z x0 x1z x1 x5 => G laws_eqRowS.K0 (laws_eqRowS.N0 x0z x0 x1z x1 x5)) k yx0z yx0 yx1z yx1 yx5 := by kernel_rfl
theorem laws_eqRowS.b_nat {R R' : Type} (e : R → R') (ret : Bool → Option R) (j0 : Bool → (List T) → Bool → (List T) → Int → Option R) (k : Nat) (a0z : Bool) (a0 : List T) (a1z : Bool) (a1 : List T) : laws_eqRowS.b (fun r => (ret r).map e) (fun x0z x0 x1z x1 x5 => (j0 x0z x0 x1z x1 x5).map e) k a0z a0 a1z a1 = (laws_eqRowS.b ret j0 k a0z a0 a1z a1).map e := by
  unfold laws_eqRowS.b
  repeat' first | with_reducible refine nat_cond ?_ ?_ | with_reducible refine nat_bind fun _ => ?_ | rfl
theorem laws_eqRowS.l0b_nat {R R' : Type} (e : R → R') (ret : Bool → Option R) (j0 : Bool → (List T) → Bool → (List T) → Int → Option R) (k : Nat) (x0z : Bool) (x0 : List T) (x1z : Bool) (x1 : List T) (x5 : Int) : laws_eqRowS.l0b (fun r => (ret r).map e) (fun x0z x0 x1z x1 x5 => (j0 x0z x0 x1z x1 x5).map e) k x0z x0 x1z x1 x5 = (laws_eqRowS.l0b ret j0 k x0z x0 x1z x1 x5).map e := by
  unfold laws_eqRowS.l0b
  repeat' first | with_reducible refine nat_cond ?_ ?_ | with_reducible refine nat_bind fun _ => ?_ | rfl
theorem laws_eqRowS.rounds_eq (a0z : Bool) (a0 : List T) (a1z : Bool) (a1 : List T) : ∀ k, (∀ (x0z : Bool) (x0 : List T) (x1z : Bool) (x1 : List T) (x5 : Int), rounds Try.prog laws_eqRowS.Cs (finish Try.prog [] Try.f72 [.v (.sl 127 a0z a0), .v (.sl 127 a1z a1)]) 100000 k laws_eqRowS.K0 (laws_eqRowS.N0 x0z x0 x1z x1 x5) = (laws_eqRowS.l0 k x0z x0 x1z x1 x5).map laws_eqRowS.enc)
  | 0 => fun _ _ _ _ _ => rfl
  | k + 1 => by
    have ih := laws_eqRowS.rounds_eq a0z a0 a1z a1 k
    refine fun _ _ _ _ _ => ?_
    · refine (laws_eqRowS.s0 k _ a0z a0 a1z a1 _ _ _ _ _).trans (Eq.trans ?_ (laws_eqRowS.l0b_nat laws_eqRowS.enc some (laws_eqRowS.l0 k) k _ _ _ _ _))
      simp only [ih, Option.map_some]
theorem laws_eqRowS.eq (k : Nat) (a0z : Bool) (a0 : List T) (a1z : Bool) (a1 : List T) : answer Try.prog laws_eqRowS.Cs 100000 laws_eqRowS.cuts [] Try.f72 (k + 1) [.v (.sl 127 a0z a0), .v (.sl 127 a1z a1)] = (laws_eqRowS.f (k + 1) a0z a0 a1z a1).map laws_eqRowS.enc := by
  have ih := laws_eqRowS.rounds_eq a0z a0 a1z a1 k
  refine (laws_eqRowS.s k a0z a0 a1z a1).trans (Eq.trans ?_ (laws_eqRowS.b_nat laws_eqRowS.enc some (laws_eqRowS.l0 k) k a0z a0 a1z a1))
  simp only [ih, Option.map_some]
theorem laws_eqRowS.sound (k : Nat) : SoundF Try.prog 72 (fun a => (laws_eqRowS.ans k a).val) := by
  intro args res h
  unfold laws_eqRowS.ans at h
  dsimp only at h
  split at h
  · cases k with
    | zero => cases h
    | succ k =>
      unfold Ans.val at h
      rw [← laws_eqRowS.eq] at h
      exact answer_sound mixed Try.func72 _ _ _ (k + 1) (fun j _ => tab_sound (tab_cons (laws_eqRow.sound j) (tab_nil))) _ _ h
  · exact (Ans.no_val h).elim

/-! loop.example/g00790/laws.eqTable -/
def laws_eqTable.b {R : Type} (ret : Bool → Option R) (k : Nat) (a0_0z : Bool) (a0_0 : List T) (a1_0z : Bool) (a1_0 : List T) : Option R :=
  (laws_eqRowS.f k a0_0z a0_0 a1_0z a1_0).bind fun t0 => cond (!t0) (ret false) (ret true)
def laws_eqTable.f : Nat → Bool → (List T) → Bool → (List T) → Option Bool
  | 0, _, _, _, _ => none
  | k + 1, a0_0z, a0_0, a1_0z, a1_0 => laws_eqTable.b some k a0_0z a0_0 a1_0z a1_0
def laws_eqTable.enc (r : Bool) : Res := ⟨[.vals false [((.bool r), true)]], []⟩
def laws_eqTable.ans (k : Nat) : List Arg → Ans
  | [.v (.agg [(.sl 127 a0_0z a0_0)]), .v (.agg [(.sl 127 a1_0z a1_0)])] => ⟨laws_eqTable.f k a0_0z a0_0 a1_0z a1_0, laws_eqTable.enc⟩
  | _ => Ans.no
def laws_eqTable.Cs (k : Nat) : CallSem := tab [(72, laws_eqRowS.ans k)]
def laws_eqTable.cuts : List (Nat × Keep) := []
theorem laws_eqTable.s (k : Nat) (a0_0z : Bool) (a0_0 : List T) (a1_0z : Bool) (a1_0 : List T) : answer Try.prog laws_eqTable.Cs 100000 laws_eqTable.cuts [] Try.f17 (k + 1) [.v (.agg [(.sl 127 a0_0z a0_0)]), .v (.agg [(.sl 127 a1_0z a1_0)])] = laws_eqTable.b (fun r => some (laws_eqTable.enc r)) k a0_0z a0_0 a1_0z a1_0 := by kernel_rfl
theorem laws_eqTable.b_nat {R R' : Type} (e : R → R') (ret : Bool → Option R) (k : Nat) (a0_0z : Bool) (a0_0 : List T) (a1_0z : Bool) (a1_0 : List T) : laws_eqTable.b (fun r => (ret r).map e) k a0_0z a0_0 a1_0z a1_0 = (laws_eqTable.b ret k a0_0z a0_0 a1_0z a1_0).map e := by
  unfold laws_eqTable.b
  repeat' first | with_reducible refine nat_cond ?_ ?_ | with_reducible refine nat_bind fun _ => ?_ | rfl
theorem laws_eqTable.eq (k : Nat) (a0_0z : Bool) (a0_0 : List T) (a1_0z : Bool) (a1_0 : List T) : answer Try.prog laws_eqTable.Cs 100000 laws_eqTable.cuts [] Try.f17 (k + 1) [.v (.agg [(.sl 127 a0_0z a0_0)]), .v (.agg [(.sl 127 a1_0z a1_0)])] = (laws_eqTable.f (k + 1) a0_0z a0_0 a1_0z a1_0).map laws_eqTable.enc := by
  refine (laws_eqTable.s k a0_0z a0_0 a1_0z a1_0).trans (Eq.trans ?_ (laws_eqTable.b_nat laws_eqTable.enc some k a0_0z a0_0 a1_0z a1_0))
  simp only [Option.map_some]
theorem laws_eqTable.sound (k : Nat) : SoundF Try.prog 17 (fun a => (laws_eqTable.ans k a).val) := by
  intro args res h
  unfold laws_eqTable.ans at h
  dsimp only at h
  split at h
  · cases k with
    | zero => cases h
    | succ k =>
      unfold Ans.val at h
      rw [← laws_eqTable.eq] at h
      exact answer_sound mixed Try.func17 _ _ _ (k + 1) (fun j _ => tab_sound (tab_cons (laws_eqRowS.sound j) (tab_nil))) _ _ h
  · exact (Ans.no_val h).elim

/-! loop.example/g00790/laws.eqPush -/
def laws_eqPush.b {R : Type} (ret : Bool → Option R) (k : Nat) (a0_0 : Int) (a0_1z : Bool) (a0_1 : List Int) (a1_0 : Int) (a1_1z : Bool) (a1_1 : List Int) : Option R :=
  cond (!(decide (a0_0 = a1_0))) (ret false) ((laws_eqByteS.f k a0_1z a0_1 a1_1z a1_1).bind fun t0 => cond (!t0) (ret false) (ret true))
def laws_eqPush.f : Nat → Int → Bool → (List Int) → Int → Bool → (List Int) → Option Bool
  | 0, _, _, _, _, _, _ => none
  | k + 1, a0_0, a0_1z, a0_1, a1_0, a1_1z, a1_1 => laws_eqPush.b some k a0_0 a0_1z a0_1 a1_0 a1_1z a1_1
def laws_eqPush.enc (r : Bool) : Res := ⟨[.vals false [((.bool r), true)]], []⟩
def laws_eqPush.ans (k : Nat) : List Arg → Ans
  | [.v (.agg [(.int .i64 a0_0), (.nums 5 .u8 a0_1z a0_1)]), .v (.agg [(.int .i64 a1_0), (.nums 5 .u8 a1_1z a1_1)])] => ⟨laws_eqPush.f k a0_0 a0_1z a0_1 a1_0 a1_1z a1_1, laws_eqPush.enc⟩
  | _ => Ans.no
def laws_eqPush.Cs (k : Nat) : CallSem := tab [(24, laws_eqByteS.ans k)]
def laws_eqPush.cuts : List (Nat × Keep) := []
theorem laws_eqPush.s (k : Nat) (a0_0 : Int) (a0_1z : Bool) (a0_1 : List Int) (a1_0 : Int) (a1_1z : Bool) (a1_1 : List Int) : answer Try.prog laws_eqPush.Cs 100000 laws_eqPush.cuts [] Try.f103 (k + 1) [.v (.agg [(.int .i64 a0_0), (.nums 5 .u8 a0_1z a0_1)]), .v (.agg [(.int .i64 a1_0), (.nums 5 .u8 a1_1z a1_1)])] = laws_eqPush.b (fun r => some (laws_eqPush.enc r)) k a0_0 a0_1z a0_1 a1_0 a1_1z a1_1 := by kernel_rfl
theorem laws_eqPush.b_nat {R R' : Type} (e : R → R') (ret : Bool → Option R) (k : Nat) (a0_0 : Int) (a0_1z : Bool) (a0_1 : List Int) (a1_0 : Int) (a1_1z : Bool) (a1_1 : List Int) : laws_eqPush.b (fun r => (ret r).map e) k a0_0 a0_1z a0_1 a1_0 a1_1z a1_1 = (laws_eqPush.b ret k a0_0 a0_1z a0_1 a1_0 a1_1z a1_1).map e := by
  unfold laws_eqPush.b
  repeat' first | with_reducible refine nat_cond ?_ ?_ | with_reducible refine nat_bind fun _ => ?_ | rfl
theorem laws_eqPush.eq (k : Nat) (a0_0 : Int) (a0_1z : Bool) (a0_1 : List Int) (a1_0 : Int) (a1_1z : Bool) (a1_1 : List Int) : answer Try.prog laws_eqPush.Cs 100000 laws_eqPush.cuts [] Try.f103 (k + 1) [.v (.agg [(.int .i64 a0_0), (.nums 5 .u8 a0_1z a0_1)]), .v (.agg [(.int .i64 a1_0), (.nums 5 .u8 a1_1z a1_1)])] = (laws_eqPush.f (k + 1) a0_0 a0_1z a0_1 a1_0 a1_1z a1_1).map laws_eqPush.enc := by
  refine (laws_eqPush.s k a0_0 a0_1z a0_1 a1_0 a1_1z a1_1).trans (Eq.trans ?_ (laws_eqPush.b_nat laws_eqPush.enc some k a0_0 a0_1z a0_1 a1_0 a1_1z a1_1))
  simp only [Option.map_some]
theorem laws_eqPush.sound (k : Nat) : SoundF Try.prog 103 (fun a => (laws_eqPush.ans k a).val) := by
  intro args res h
  unfold laws_eqPush.ans at h
  dsimp only at h
  split at h
  · cases k with
    | zero => cases h
    | succ k =>
      unfold Ans.val at h
      rw [← laws_eqPush.eq] at h
      exact answer_sound mixed Try.func103 _ _ _ (k + 1) (fun j _ => tab_sound (tab_cons (laws_eqByteS.sound j) (tab_nil))) _ _ h
  · exact (Ans.no_val h).elim

/-! loop.example/g00790/laws.eqByteSS -/
def laws_eqByteSS.b {R : Type} (ret : Bool → Option R) (j0 : Bool → (List T) → Bool → (List T) → Int → Option R) (k : Nat) (a0z : Bool) (a0 : List T) (a1z : Bool) (a1 : List T) : Option R :=
  cond (!(decide (((a0).length : Int) = ((a1).length : Int)))) (ret false) (j0 a0z a0 a1z a1 0)
def laws_eqByteSS.l0b {R : Type} (ret : Bool → Option R) (j0 : Bool → (List T) → Bool → (List T) → Int → Option R) (k : Nat) (x0z : Bool) (x0 : List T) (x1z : Bool) (x1 : List T) (x5 : Int) : Option R :=
  cond (decide (x5 < ((x0).length : Int))) (cond (decide ((0 : Int) ≤ x5)) (cond (decide (x5 < ((x0).length : Int))) (cond (decide ((0 : Int) ≤ x5)) (cond (decide (x5 < ((x1).length : Int))) ((laws_eqByteS.f k (((((x0).getD (x5).toNat .bad).cells.getD 0 .bad)).isNil) (((((x0).getD (x5).toNat .bad).cells.getD 0 .bad)).toNums) (((((x1).getD (x5).toNat .bad).cells.getD 0 .bad)).isNil) (((((x1).getD (x5).toNat .bad).cells.getD 0 .bad)).toNums)).bind fun t0 => cond (!t0) (ret false) (j0 x0z x0 x1z x1 (RowKit.wrap64 (x5 + 1)))) (none)) (none)) (none)) (none)) (ret true)
def laws_eqByteSS.l0 : Nat → Bool → (List T) → Bool → (List T) → Int → Option Bool
  | 0, _, _, _, _, _ => none
  | k + 1, x0z, x0, x1z, x1, x5 => laws_eqByteSS.l0b some (laws_eqByteSS.l0 k) k x0z x0 x1z x1 x5
def laws_eqByteSS.f : Nat → Bool → (List T) → Bool → (List T) → Option Bool
  | 0, _, _, _, _ => none
  | k + 1, a0z, a0, a1z, a1 => laws_eqByteSS.b some (laws_eqByteSS.l0 k) k a0z a0 a1z a1
def laws_eqByteSS.enc (r : Bool) : Res := ⟨[.vals false [((.bool r), true)]], []⟩
def laws_eqByteSS.ans (k : Nat) : List Arg → Ans
  | [.v (.sl 25 a0z a0), .v (.sl 25 a1z a1)] => ⟨laws_eqByteSS.f k a0z a0 a1z a1, laws_eqByteSS.enc⟩
  | _ => Ans.no
def laws_eqByteSS.Cs (k : Nat) : CallSem := tab [(24, laws_eqByteS.ans k)]
def laws_eqByteSS.cuts : List (Nat × Keep) := [(58, ⟨[(0, some []), (1, some []), (5, some [])], []⟩)]
noncomputable def laws_eqByteSS.K0 : List Fr := framesAt [true, true, false, true, false] (bodyOf Try.f145 laws_eqByteSS.cuts) []
def laws_eqByteSS.N0 (x0z : Bool) (x0 : List T) (x1z : Bool) (x1 : List T) (x5 : Int) : St := stOf 27 27 2 [(0, .val ⟨(.sl 25 x0z x0), [], false, none⟩), (1, .val ⟨(.sl 25 x1z x1), [], false, none⟩), (5, .val (V.s (.int .i64 x5)))] []
theorem laws_eqByteSS.s (k : Nat) (a0z : Bool) (a0 : List T) (a1z : Bool) (a1 : List T) : answer Try.prog laws_eqByteSS.Cs 100000 laws_eqByteSS.cuts [] Try.f145 (k + 1) [.v (.sl 25 a0z a0), .v (.sl 25 a1z a1)] = laws_eqByteSS.b (fun r => some (laws_eqByteSS.enc r)) (fun x0z x0 x1z x1 x5 => rounds Try.prog laws_eqByteSS.Cs (finish Try.prog [] Try.f145 [.v (.sl 25 a0z a0), .v (.sl 25 a1z a1)]) 100000 k laws_eqByteSS.K0 (laws_eqByteSS.N0 x0z x0 x1z x1 x5)) k a0z a0 a1z a1 := by kernel_rfl
theorem laws_eqByteSS.s0 (k : Nat) (G : List Fr → St → Option Res) (a0z : Bool) (a0 : List T) (a1z : Bool) (a1 : List T) (yx0z : Bool) (yx0 : List T) (yx1z : Bool) (yx1 : List T) (yx5 : Int) : resume Try.prog (laws_eqByteSS.Cs k) G (finish Try.prog [] Try.f145 [.v (.sl 25 a0z a0), .v (.sl 25 a1z a1)]) 100000 laws_eqByteSS.K0 (laws_eqByteSS.N0 yx0z yx0 yx1z yx1 yx5) = laws_eqByteSS.l0b (fun r => some (laws_eqByteSS.enc r)) (fun x0z x0 x1z x1 x5 => G laws_eqByteSS.K0 (laws_eqByteSS.N0 x0z x0 x1z x1 x5)) k yx0z yx0 yx1z yx1 yx5 := by kernel_rfl
theorem laws_eqByteSS.b_nat {R R' : Type} (e : R → R') (ret : Bool → Option R) (j0 : Bool → (List T) → Bool → (List T) → Int → Option R) (k : Nat) (a0z : Bool) (a0 : List T) (a1z : Bool) (a1 : List T) : laws_eqByteSS.b (fun r => (ret r).map e) (fun x0z x0 x1z x1 x5 => (j0 x0z x0 x1z x1 x5).map e) k a0z a0 a1z a1 = (laws_eqByteSS.b ret j0 k a0z a0 a1z a1).map e := by
  unfold laws_eqByteSS.b
  repeat' first | with_reducible refine nat_cond ?_ ?_ | with_reducible refine nat_bind fun _ => ?_ | rfl
theorem laws_eqByteSS.l0b_nat {R R' : Type} (e : R → R') (ret : Bool → Option R) (j0 : Bool → (List T) → Bool → (List T) → Int → Option R) (k : Nat) (x0z : Bool) (x0 : List T) (x1z : Bool) (x1 : List T) (x5 : Int) : laws_eqByteSS.l0b (fun r => (ret r).map e) (fun x0z x0 x1z x1 x5 => (j0 x0z x0 x1z x1 x5).map e) k x0z x0 x1z x1 x5 = (laws_eqByteSS.l0b ret j0 k x0z x0 x1z x1 x5).map e := by
  unfold laws_eqByteSS.l0b
  repeat' first | with_reducible refine nat_cond ?_ ?_ | with_reducible refine nat_bind fun _ => ?_ | rfl
theorem laws_eqByteSS.rounds_eq (a0z : Bool) (a0 : List T) (a1z : Bool) (a1 : List T) : ∀ k, (∀ (x0z : Bool) (x0 : List T) (x1z : Bool) (x1 : List T) (x5 : Int), rounds Try.prog laws_eqByteSS.Cs (finish Try.prog [] Try.f145 [.v (.sl 25 a0z a0), .v (.sl 25 a1z a1)]) 100000 k laws_eqByteSS.K0 (laws_eqByteSS.N0 x0z x0 x1z x1 x5) = (laws_eqByteSS.l0 k x0z x0 x1z x1 x5).map laws_eqByteSS.enc)
  | 0 => fun _ _ _ _ _ => rfl
  | k + 1 => by
    have ih := laws_eqByteSS.rounds_eq a0z a0 a1z a1 k
    refine fun _ _ _ _ _ => ?_
    · refine (laws_eqByteSS.s0 k _ a0z a0 a1z a1 _ _ _ _ _).trans (Eq.trans ?_ (laws_eqByteSS.l0b_nat laws_eqByteSS.enc some (laws_eqByteSS.l0 k) k _ _ _ _ _))
      simp only [ih, Option.map_some]
theorem laws_eqByteSS.eq (k : Nat) (a0z : Bool) (a0 : List T) (a1z : Bool) (a1 : List T) : answer Try.prog laws_eqByteSS.Cs 100000 laws_eqByteSS.cuts [] Try.f145 (k + 1) [.v (.sl 25 a0z a0), .v (.sl 25 a1z a1)] = (laws_eqByteSS.f (k + 1) a0z a0 a1z a1).map laws_eqByteSS.enc := by
  have ih := laws_eqByteSS.rounds_eq a0z a0 a1z a1 k
  refine (laws_eqByteSS.s k a0z a0 a1z a1).trans (Eq.trans ?_ (laws_eqByteSS.b_nat laws_eqByteSS.enc some (laws_eqByteSS.l0 k) k a0z a0 a1z a1))
  simp only [ih, Option.map_some]
theorem laws_eqByteSS.sound (k : Nat) : SoundF Try.prog 145 (fun a => (laws_eqByteSS.ans k a).val) := by
  intro args res h
  unfold laws_eqByteSS.ans at h
  dsimp only at h
  split at h
  · cases k with
    | zero => cases h
    | succ k =>
      unfold Ans.val at h
      rw [← laws_eqByteSS.eq] at h
      exact answer_sound mixed Try.func145 _ _ _ (k + 1) (fun j _ => tab_sound (tab_cons (laws_eqByteS.sound j) (tab_nil))) _ _ h
  · exact (Ans.no_val h).elim

/-! loop.example/g00790/laws.eqQc -/
def laws_eqQc.b {R : Type} (ret : Bool → Option R) (k : Nat) (a0_0 : Int) (a0_1 : Int) (a0_2z : Bool) (a0_2 : List Int) (a0_3z : Bool) (a0_3 : List Int) (a0_4z : Bool) (a0_4 : List T) (a1_0 : Int) (a1_1 : Int) (a1_2z : Bool) (a1_2 : List Int) (a1_3z : Bool) (a1_3 : List Int) (a1_4z : Bool) (a1_4 : List T) : Option R :=
  cond (!(decide (a0_0 = a1_0))) (ret false) (cond (!(decide (a0_1 = a1_1))) (ret false) ((laws_eqByteS.f k a0_2z a0_2 a1_2z a1_2).bind fun t0 => cond (!t0) (ret false) ((laws_eqByteS.f k a0_3z a0_3 a1_3z a1_3).bind fun t1 => cond (!t1) (ret false) ((laws_eqByteSS.f k a0_4z a0_4 a1_4z a1_4).bind fun t2 => cond (!t2) (ret false) (ret true)))))
def laws_eqQc.f : Nat → Int → Int → Bool → (List Int) → Bool → (List Int) → Bool → (List T) → Int → Int → Bool → (List Int) → Bool → (List Int) → Bool → (List T) → Option Bool
  | 0, _, _, _, _, _, _, _, _, _, _, _, _, _, _, _, _ => none
  | k + 1, a0_0, a0_1, a0_2z, a0_2, a0_3z, a0_3, a0_4z, a0_4, a1_0, a1_1, a1_2z, a1_2, a1_3z, a1_3, a1_4z, a1_4 => laws_eqQc.b some k a0_0 a0_1 a0_2z a0_2 a0_3z a0_3 a0_4z a0_4 a1_0 a1_1 a1_2z a1_2 a1_3z a1_3 a1_4z a1_4
def laws_eqQc.enc (r : Bool) : Res := ⟨[.vals false [((.bool r), true)]], []⟩
def laws_eqQc.ans (k : Nat) : List Arg → Ans
  | [.v (.agg [(.int .i64 a0_0), (.int .i64 a0_1), (.nums 5 .u8 a0_2z a0_2), (.nums 5 .u8 a0_3z a0_3), (.sl 25 a0_4z a0_4)]), .v (.agg [(.int .i64 a1_0), (.int .i64 a1_1), (.nums 5 .u8 a1_2z a1_2), (.nums 5 .u8 a1_3z a1_3), (.sl 25 a1_4z a1_4)])] => ⟨laws_eqQc.f k a0_0 a0_1 a0_2z a0_2 a0_3z a0_3 a0_4z a0_4 a1_0 a1_1 a1_2z a1_2 a1_3z a1_3 a1_4z a1_4, laws_eqQc.enc⟩
  | _ => Ans.no
def laws_eqQc.Cs (k : Nat) : CallSem := tab [(24, laws_eqByteS.ans k), (145, laws_eqByteSS.ans k)]
def laws_eqQc.cuts : List (Nat × Keep) := []
theorem laws_eqQc.s (k : Nat) (a0_0 : Int) (a0_1 : Int) (a0_2z : Bool) (a0_2 : List Int) (a0_3z : Bool) (a0_3 : List Int) (a0_4z : Bool) (a0_4 : List T) (a1_0 : Int) (a1_1 : Int) (a1_2z : Bool) (a1_2 : List Int) (a1_3z : Bool) (a1_3 : List Int) (a1_4z : Bool) (a1_4 : List T) : answer Try.prog laws_eqQc.Cs 100000 laws_eqQc.cuts [] Try.f81 (k + 1) [.v (.agg [(.int .i64 a0_0), (.int .i64 a0_1), (.nums 5 .u8 a0_2z a0_2), (.nums 5 .u8 a0_3z a0_3), (.sl 25 a0_4z a0_4)]), .v (.agg [(.int .i64 a1_0), (.int .i64 a1_1), (.nums 5 .u8 a1_2z a1_2), (.nums 5 .u8 a1_3z a1_3), (.sl 25 a1_4z a1_4)])] = laws_eqQc.b (fun r => some (laws_eqQc.enc r)) k a0_0 a0_1 a0_2z a0_2 a0_3z a0_3 a0_4z a0_4 a1_0 a1_1 a1_2z a1_2 a1_3z a1_3 a1_4z a1_4 := by kernel_rfl
theorem laws_eqQc.b_nat {R R' : Type} (e : R → R') (ret : Bool → Option R) (k : Nat) (a0_0 : Int) (a0_1 : Int) (a0_2z : Bool) (a0_2 : List Int) (a0_3z : Bool) (a0_3 : List Int) (a0_4z : Bool) (a0_4 : List T) (a1_0 : Int) (a1_1 : Int) (a1_2z : Bool) (a1_2 : List Int) (a1_3z : Bool) (a1_3 : List Int) (a1_4z : Bool) (a1_4 : List T) : laws_eqQc.b (fun r => (ret r).map e) k a0_0 a0_1 a0_2z a0_2 a0_3z a0_3 a0_4z a0_4 a1_0 a1_1 a1_2z a1_2 a1_3z a1_3 a1_4z a1_4 = (laws_eqQc.b ret k a0_0 a0_1 a0_2z a0_2 a0_3z a0_3 a0_4z a0_4 a1_0 a1_1 a1_2z a1_2 a1_3z a1_3 a1_4z a1_4).map e := by
  unfold laws_eqQc.b
  repeat' first | with_reducible refine nat_cond ?_ ?_ | with_reducible refine nat_bind fun _ => ?_ | rfl
theorem laws_eqQc.eq (k : Nat) (a0_0 : Int) (a0_1 : Int) (a0_2z : Bool) (a0_2 : List Int) (a0_3z : Bool) (a0_3 : List Int) (a0_4z : Bool) (a0_4 : List T) (a1_0 : Int) (a1_1 : Int) (a1_2z : Bool) (a1_2 : List Int) (a1_3z : Bool) (a1_3 : List Int) (a1_4z : Bool) (a1_4 : List T) : answer Try.prog laws_eqQc.Cs 100000 laws_eqQc.cuts [] Try.f81 (k + 1) [.v (.agg [(.int .i64 a0_0), (.int .i64 a0_1), (.nums 5 .u8 a0_2z a0_2), (.nums 5 .u8 a0_3z a0_3), (.sl 25 a0_4z a0_4)]), .v (.agg [(.int .i64 a1_0), (.int .i64 a1_1), (.nums 5 .u8 a1_2z a1_2), (.nums 5 .u8 a1_3z a1_3), (.sl 25 a1_4z a1_4)])] = (laws_eqQc.f (k + 1) a0_0 a0_1 a0_2z a0_2 a0_3z a0_3 a0_4z a0_4 a1_0 a1_1 a1_2z a1_2 a1_3z a1_3 a1_4z a1_4).map laws_eqQc.enc := by
  refine (laws_eqQc.s k a0_0 a0_1 a0_2z a0_2 a0_3z a0_3 a0_4z a0_4 a1_0 a1_1 a1_2z a1_2 a1_3z a1_3 a1_4z a1_4).trans (Eq.trans ?_ (laws_eqQc.b_nat laws_eqQc.enc some k a0_0 a0_1 a0_2z a0_2 a0_3z a0_3 a0_4z a0_4 a1_0 a1_1 a1_2z a1_2 a1_3z a1_3 a1_4z a1_4))
  simp only [Option.map_some]
theorem laws_eqQc.sound (k : Nat) : SoundF Try.prog 81 (fun a => (laws_eqQc.ans k a).val) := by
  intro args res h
  unfold laws_eqQc.ans at h
  dsimp only at h
  split at h
  · cases k with
    | zero => cases h
    | succ k =>
      unfold Ans.val at h
      rw [← laws_eqQc.eq] at h
      exact answer_sound mixed Try.func81 _ _ _ (k + 1) (fun j _ => tab_sound (tab_cons (laws_eqByteS.sound j) (tab_cons (laws_eqByteSS.sound j) (tab_nil)))) _ _ h
  · exact (Ans.no_val h).elim

end Go.Proofs.YtgmloaobmddmaaaG
