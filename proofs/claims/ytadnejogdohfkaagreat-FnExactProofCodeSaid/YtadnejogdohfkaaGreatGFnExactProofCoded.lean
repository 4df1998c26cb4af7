/- What the functions compute, printed by a program of this repo; each is shown to be what the machine of values answers. No condition. -/
import Derived.Test.YtadnejogdohfkaaGreatProg
import Derived.KernelRfl
import Derived.Test.YtadnejogdohfkaaGreatGFnExactProofCodec
namespace Go.Proofs.YtadnejogdohfkaaGreatG
open Go Go.Proofs.YtadnejogdohfkaaGreatRv Go.Proofs
set_option linter.unusedVariables false
set_option linter.unusedSimpArgs false
def spec_ProofCode.b {R : Type} (ret : Int → Option R) (j0 : Int → Int → Int → Int → Int → Int → Int → Bool → (List T) → Bool → (List T) → Int → Int → Bool → (List Int) → Bool → (List Int) → Bool → (List T) → Option R) (j1 : Int → Int → Int → Int → Int → Int → Int → Bool → (List T) → Bool → (List T) → Int → Int → Bool → (List Int) → Bool → (List Int) → Bool → (List T) → Option R) (k : Nat) (a0_0 a0_1 : Int) (a0_2 a0_3 a0_4 : Int) (a1_0z : Bool) (a1_0 : List T) (a2_0z : Bool) (a2_0 : List T) (a2_1 a2_2 : Int) (a2_3z : Bool) (a2_3 : List Int) (a2_4z : Bool) (a2_4 : List Int) (a2_5z : Bool) (a2_5 : List T) : Option R :=
  (spec_l23Goes.f k a0_0 a0_1 a0_2 a0_3 a0_4 a1_0z a1_0).bind fun t0 => cond (!t0) (ret 1) ((spec_ProofOk.f k a0_0 a0_1 a0_2 a0_3 a0_4 a2_0z a2_0 a2_1 a2_2 a2_3z a2_3 a2_4z a2_4 a2_5z a2_5).bind fun t1 => cond (!t1) (ret 1) ((spec_ChainCode.f k a0_0 a0_1 a0_2 a0_3 a0_4 a2_0z a2_0).bind fun t2 => cond (!(decide (t2 = 0))) (ret 4) (cond (decide ((0 : Int) ≤ (RowKit.wrap64 (((a2_0).length : Int) - 1)))) (cond (decide ((RowKit.wrap64 (((a2_0).length : Int) - 1)) < ((a2_0).length : Int))) ((spec_HeadHash.f k a0_0 a0_1 a0_2 a0_3 a0_4 (((((a2_0).getD ((RowKit.wrap64 (((a2_0).length : Int) - 1))).toNat .bad).cells.getD 0 .bad)).toInt) (((((a2_0).getD ((RowKit.wrap64 (((a2_0).length : Int) - 1))).toNat .bad).cells.getD 1 .bad)).toInt) (((((a2_0).getD ((RowKit.wrap64 (((a2_0).length : Int) - 1))).toNat .bad).cells.getD 2 .bad)).toInt) (((((a2_0).getD ((RowKit.wrap64 (((a2_0).length : Int) - 1))).toNat .bad).cells.getD 3 .bad)).isNil) (((((a2_0).getD ((RowKit.wrap64 (((a2_0).length : Int) - 1))).toNat .bad).cells.getD 3 .bad)).toNums) (((((a2_0).getD ((RowKit.wrap64 (((a2_0).length : Int) - 1))).toNat .bad).cells.getD 4 .bad)).isNil) (((((a2_0).getD ((RowKit.wrap64 (((a2_0).length : Int) - 1))).toNat .bad).cells.getD 4 .bad)).toNums) (((((a2_0).getD ((RowKit.wrap64 (((a2_0).length : Int) - 1))).toNat .bad).cells.getD 5 .bad)).toInt) (((((a2_0).getD ((RowKit.wrap64 (((a2_0).length : Int) - 1))).toNat .bad).cells.getD 6 .bad)).toInt) (((((a2_0).getD ((RowKit.wrap64 (((a2_0).length : Int) - 1))).toNat .bad).cells.getD 7 .bad)).isNil) (((((a2_0).getD ((RowKit.wrap64 (((a2_0).length : Int) - 1))).toNat .bad).cells.getD 7 .bad)).toNums) (((((a2_0).getD ((RowKit.wrap64 (((a2_0).length : Int) - 1))).toNat .bad).cells.getD 8 .bad)).isNil) (((((a2_0).getD ((RowKit.wrap64 (((a2_0).length : Int) - 1))).toNat .bad).cells.getD 8 .bad)).toNums) (((((a2_0).getD ((RowKit.wrap64 (((a2_0).length : Int) - 1))).toNat .bad).cells.getD 9 .bad)).isNil) (((((a2_0).getD ((RowKit.wrap64 (((a2_0).length : Int) - 1))).toNat .bad).cells.getD 9 .bad)).toList)).bind fun t3 => (spec_SameBytes.f k a2_3z a2_3 t3.1 t3.2).bind fun t4 => cond (!t4) (ret 4) (j0 ((a2_0).length : Int) (RowKit.wrap64 (((a2_0).length : Int) - 2)) a0_0 a0_1 a0_2 a0_3 a0_4 a1_0z a1_0 a2_0z a2_0 a2_1 a2_2 a2_3z a2_3 a2_4z a2_4 a2_5z a2_5)) (none)) (none))))
def spec_ProofCode.l0b {R : Type} (ret : Int → Option R) (j0 : Int → Int → Int → Int → Int → Int → Int → Bool → (List T) → Bool → (List T) → Int → Int → Bool → (List Int) → Bool → (List Int) → Bool → (List T) → Option R) (j1 : Int → Int → Int → Int → Int → Int → Int → Bool → (List T) → Bool → (List T) → Int → Int → Bool → (List Int) → Bool → (List Int) → Bool → (List T) → Option R) (k : Nat) (x7 x8 : Int) (c3_0 c3_1 : Int) (c3_2 c3_3 c3_4 : Int) (c4_0z : Bool) (c4_0 : List T) (c5_0z : Bool) (c5_0 : List T) (c5_1 c5_2 : Int) (c5_3z : Bool) (c5_3 : List Int) (c5_4z : Bool) (c5_4 : List Int) (c5_5z : Bool) (c5_5 : List T) : Option R :=
  cond (decide (x8 < x7)) (cond (decide ((0 : Int) ≤ x8)) (cond (decide (x8 < ((c5_0).length : Int))) (cond (decide ((0 : Int) ≤ (RowKit.wrap64 (x8 - 1)))) (cond (decide ((RowKit.wrap64 (x8 - 1)) < ((c5_0).length : Int))) (cond (!(decide (((((c5_0).getD (x8).toNat .bad).cells.getD 0 .bad)).toInt = (RowKit.wrap64 (((((c5_0).getD ((RowKit.wrap64 (x8 - 1))).toNat .bad).cells.getD 0 .bad)).toInt + 1))))) (ret 5) (j0 x7 (RowKit.wrap64 (x8 + 1)) c3_0 c3_1 c3_2 c3_3 c3_4 c4_0z c4_0 c5_0z c5_0 c5_1 c5_2 c5_3z c5_3 c5_4z c5_4 c5_5z c5_5)) (none)) (none)) (none)) (none)) (j1 x7 1 c3_0 c3_1 c3_2 c3_3 c3_4 c4_0z c4_0 c5_0z c5_0 c5_1 c5_2 c5_3z c5_3 c5_4z c5_4 c5_5z c5_5)
def spec_ProofCode.l1b {R : Type} (ret : Int → Option R) (j0 : Int → Int → Int → Int → Int → Int → Int → Bool → (List T) → Bool → (List T) → Int → Int → Bool → (List Int) → Bool → (List Int) → Bool → (List T) → Option R) (j1 : Int → Int → Int → Int → Int → Int → Int → Bool → (List T) → Bool → (List T) → Int → Int → Bool → (List Int) → Bool → (List Int) → Bool → (List T) → Option R) (k : Nat) (x7 x9 : Int) (c3_0 c3_1 : Int) (c3_2 c3_3 c3_4 : Int) (c4_0z : Bool) (c4_0 : List T) (c5_0z : Bool) (c5_0 : List T) (c5_1 c5_2 : Int) (c5_3z : Bool) (c5_3 : List Int) (c5_4z : Bool) (c5_4 : List Int) (c5_5z : Bool) (c5_5 : List T) : Option R :=
  cond (decide (x9 < x7)) (cond (decide ((0 : Int) ≤ x9)) (cond (decide (x9 < ((c5_0).length : Int))) ((spec_QcCode.f k c3_0 c3_1 c3_2 c3_3 c3_4 c4_0z c4_0 (((((c5_0).getD (x9).toNat .bad).cells.getD 5 .bad)).toInt) (((((c5_0).getD (x9).toNat .bad).cells.getD 6 .bad)).toInt) (((((c5_0).getD (x9).toNat .bad).cells.getD 7 .bad)).isNil) (((((c5_0).getD (x9).toNat .bad).cells.getD 7 .bad)).toNums) (((((c5_0).getD (x9).toNat .bad).cells.getD 8 .bad)).isNil) (((((c5_0).getD (x9).toNat .bad).cells.getD 8 .bad)).toNums) (((((c5_0).getD (x9).toNat .bad).cells.getD 9 .bad)).isNil) (((((c5_0).getD (x9).toNat .bad).cells.getD 9 .bad)).toList)).bind fun t0 => cond (!(decide (t0 = 0))) (ret t0) (j1 x7 (RowKit.wrap64 (x9 + 1)) c3_0 c3_1 c3_2 c3_3 c3_4 c4_0z c4_0 c5_0z c5_0 c5_1 c5_2 c5_3z c5_3 c5_4z c5_4 c5_5z c5_5)) (none)) (none)) ((spec_QcCode.f k c3_0 c3_1 c3_2 c3_3 c3_4 c4_0z c4_0 c5_1 c5_2 c5_3z c5_3 c5_4z c5_4 c5_5z c5_5).bind fun t0 => ret t0)
mutual
def spec_ProofCode.l0 : Nat → Int → Int → Int → Int → Int → Int → Int → Bool → (List T) → Bool → (List T) → Int → Int → Bool → (List Int) → Bool → (List Int) → Bool → (List T) → Option Int
  | 0, _, _, _, _, _, _, _, _, _, _, _, _, _, _, _, _, _, _, _ => none
  | k + 1, x7, x8, c3_0, c3_1, c3_2, c3_3, c3_4, c4_0z, c4_0, c5_0z, c5_0, c5_1, c5_2, c5_3z, c5_3, c5_4z, c5_4, c5_5z, c5_5 => spec_ProofCode.l0b some (spec_ProofCode.l0 k) (spec_ProofCode.l1 k) k x7 x8 c3_0 c3_1 c3_2 c3_3 c3_4 c4_0z c4_0 c5_0z c5_0 c5_1 c5_2 c5_3z c5_3 c5_4z c5_4 c5_5z c5_5
def spec_ProofCode.l1 : Nat → Int → Int → Int → Int → Int → Int → Int → Bool → (List T) → Bool → (List T) → Int → Int → Bool → (List Int) → Bool → (List Int) → Bool → (List T) → Option Int
  | 0, _, _, _, _, _, _, _, _, _, _, _, _, _, _, _, _, _, _, _ => none
  | k + 1, x7, x9, c3_0, c3_1, c3_2, c3_3, c3_4, c4_0z, c4_0, c5_0z, c5_0, c5_1, c5_2, c5_3z, c5_3, c5_4z, c5_4, c5_5z, c5_5 => spec_ProofCode.l1b some (spec_ProofCode.l0 k) (spec_ProofCode.l1 k) k x7 x9 c3_0 c3_1 c3_2 c3_3 c3_4 c4_0z c4_0 c5_0z c5_0 c5_1 c5_2 c5_3z c5_3 c5_4z c5_4 c5_5z c5_5
end
def spec_ProofCode.f : Nat → Int → Int → Int → Int → Int → Bool → (List T) → Bool → (List T) → Int → Int → Bool → (List Int) → Bool → (List Int) → Bool → (List T) → Option Int
  | 0, _, _, _, _, _, _, _, _, _, _, _, _, _, _, _, _, _ => none
  | k + 1, a0_0, a0_1, a0_2, a0_3, a0_4, a1_0z, a1_0, a2_0z, a2_0, a2_1, a2_2, a2_3z, a2_3, a2_4z, a2_4, a2_5z, a2_5 => spec_ProofCode.b some (spec_ProofCode.l0 k) (spec_ProofCode.l1 k) k a0_0 a0_1 a0_2 a0_3 a0_4 a1_0z a1_0 a2_0z a2_0 a2_1 a2_2 a2_3z a2_3 a2_4z a2_4 a2_5z a2_5
def spec_ProofCode.enc (r : Int) : Res := ⟨[.vals false [((.int .i64 r), true)]], []⟩
def spec_ProofCode.ans (k : Nat) : List Arg → Ans
  | [.v (.agg [(.int .i64 a0_0), (.int .i64 a0_1), (.int .i64 a0_2), (.int .i64 a0_3), (.int .i64 a0_4)]), .v (.agg [(.sl 92 a1_0z a1_0)]), .v (.agg [(.sl 60 a2_0z a2_0), (.int .i64 a2_1), (.int .i64 a2_2), (.nums 5 .u8 a2_3z a2_3), (.nums 5 .u8 a2_4z a2_4), (.sl 28 a2_5z a2_5)])] => ⟨spec_ProofCode.f k a0_0 a0_1 a0_2 a0_3 a0_4 a1_0z a1_0 a2_0z a2_0 a2_1 a2_2 a2_3z a2_3 a2_4z a2_4 a2_5z a2_5, spec_ProofCode.enc⟩
  | _ => Ans.no
def spec_ProofCode.Cs (k : Nat) : CallSem := tab [(16, spec_l23Goes.ans k), (17, spec_ProofOk.ans k), (19, spec_SameBytes.ans k), (18, spec_ChainCode.ans k), (20, spec_HeadHash.ans k), (21, spec_QcCode.ans k)]
def spec_ProofCode.cuts : List (Nat × Keep) := [(250, ⟨[(3, some []), (4, some []), (5, some []), (7, some []), (8, some [])], [(3, [some [], some [], some [], some [], some []]), (4, [some []]), (5, [some [], some [], some [], some [], some [], some []])]⟩), (506, ⟨[(3, some []), (4, some []), (5, some []), (7, some []), (9, some [])], [(3, [some [], some [], some [], some [], some []]), (4, [some []]), (5, [some [], some [], some [], some [], some [], some []])]⟩)]
noncomputable def spec_ProofCode.K0 : List Fr := framesAt [true, true, true, true, false, true, false] (bodyOf Tryz.f6 spec_ProofCode.cuts) []
def spec_ProofCode.N0 (x7 x8 : Int) (c3_0 c3_1 : Int) (c3_2 c3_3 c3_4 : Int) (c4_0z : Bool) (c4_0 : List T) (c5_0z : Bool) (c5_0 : List T) (c5_1 c5_2 : Int) (c5_3z : Bool) (c5_3 : List Int) (c5_4z : Bool) (c5_4 : List Int) (c5_5z : Bool) (c5_5 : List T) : St := stOf 88 88 3 [(3, .bp 3 0), (4, .bp 4 0), (5, .bp 5 0), (7, .val (V.s (.int .i64 x7))), (8, .val (V.s (.int .i64 x8)))] [(3, .cells [V.s (.int .i64 c3_0), V.s (.int .i64 c3_1), V.s (.int .i64 c3_2), V.s (.int .i64 c3_3), V.s (.int .i64 c3_4)]), (4, .cells [⟨(.sl 92 c4_0z c4_0), [], false, none⟩]), (5, .cells [⟨(.sl 60 c5_0z c5_0), [], false, none⟩, V.s (.int .i64 c5_1), V.s (.int .i64 c5_2), ⟨(.nums 5 .u8 c5_3z c5_3), [], false, none⟩, ⟨(.nums 5 .u8 c5_4z c5_4), [], false, none⟩, ⟨(.sl 28 c5_5z c5_5), [], false, none⟩])]
noncomputable def spec_ProofCode.K1 : List Fr := framesAt [true, true, true, true, true, false, true, false] (bodyOf Tryz.f6 spec_ProofCode.cuts) []
def spec_ProofCode.N1 (x7 x9 : Int) (c3_0 c3_1 : Int) (c3_2 c3_3 c3_4 : Int) (c4_0z : Bool) (c4_0 : List T) (c5_0z : Bool) (c5_0 : List T) (c5_1 c5_2 : Int) (c5_3z : Bool) (c5_3 : List Int) (c5_4z : Bool) (c5_4 : List Int) (c5_5z : Bool) (c5_5 : List T) : St := stOf 88 88 3 [(3, .bp 3 0), (4, .bp 4 0), (5, .bp 5 0), (7, .val (V.s (.int .i64 x7))), (9, .val (V.s (.int .i64 x9)))] [(3, .cells [V.s (.int .i64 c3_0), V.s (.int .i64 c3_1), V.s (.int .i64 c3_2), V.s (.int .i64 c3_3), V.s (.int .i64 c3_4)]), (4, .cells [⟨(.sl 92 c4_0z c4_0), [], false, none⟩]), (5, .cells [⟨(.sl 60 c5_0z c5_0), [], false, none⟩, V.s (.int .i64 c5_1), V.s (.int .i64 c5_2), ⟨(.nums 5 .u8 c5_3z c5_3), [], false, none⟩, ⟨(.nums 5 .u8 c5_4z c5_4), [], false, none⟩, ⟨(.sl 28 c5_5z c5_5), [], false, none⟩])]
theorem spec_ProofCode.s0 (k : Nat) (G : List Fr → St → Option Res) (a0_0 a0_1 : Int) (a0_2 a0_3 a0_4 : Int) (a1_0z : Bool) (a1_0 : List T) (a2_0z : Bool) (a2_0 : List T) (a2_1 a2_2 : Int) (a2_3z : Bool) (a2_3 : List Int) (a2_4z : Bool) (a2_4 : List Int) (a2_5z : Bool) (a2_5 : List T) (yx7 yx8 : Int) (yc3_0 yc3_1 : Int) (yc3_2 yc3_3 yc3_4 : Int) (yc4_0z : Bool) (yc4_0 : List T) (yc5_0z : Bool) (yc5_0 : List T) (yc5_1 yc5_2 : Int) (yc5_3z : Bool) (yc5_3 : List Int) (yc5_4z : Bool) (yc5_4 : List Int) (yc5_5z : Bool) (yc5_5 : List T) : resume Tryz.prog (spec_ProofCode.Cs k) G (finish Tryz.prog [] Tryz.f6 [.v (.agg [(.int .i64 a0_0), (.int .i64 a0_1), (.int .i64 a0_2), (.int .i64 a0_3), (.int .i64 a0_4)]), .v (.agg [(.sl 92 a1_0z a1_0)]), .v (.agg [(.sl 60 a2_0z a2_0), (.int .i64 a2_1), (.int .i64 a2_2), (.nums 5 .u8 a2_3z a2_3), (.nums 5 .u8 a2_4z a2_4), (.sl 28 a2_5z a2_5)])]) 100000 spec_ProofCode.K0 (spec_ProofCode.N0 yx7 yx8 yc3_0 yc3_1 yc3_2 yc3_3 yc3_4 yc4_0z yc4_0 yc5_0z yc5_0 yc5_1 yc5_2 yc5_3z yc5_3 yc5_4z yc5_4 yc5_5z yc5_5) = spec_ProofCode.l0b (fun r => some (spec_ProofCode.enc r)) (fun x7 x8 c3_0 c3_1 c3_2 c3_3 c3_4 c4_0z c4_0 c5_0z c5_0 c5_1 c5_2 c5_3z c5_3 c5_4z c5_4 c5_5z c5_5 => G spec_ProofCode.K0 (spec_ProofCode.N0 x7 x8 c3_0 c3_1 c3_2 c3_3 c3_4 c4_0z c4_0 c5_0z c5_0 c5_1 c5_2 c5_3z c5_3 c5_4z c5_4 c5_5z c5_5)) (fun x7 x9 c3_0 c3_1 c3_2 c3_3 c3_4 c4_0z c4_0 c5_0z c5_0 c5_1 c5_2 c5_3z c5_3 c5_4z c5_4 c5_5z c5_5 => G spec_ProofCode.K1 (spec_ProofCode.N1 x7 x9 c3_0 c3_1 c3_2 c3_3 c3_4 c4_0z c4_0 c5_0z c5_0 c5_1 c5_2 c5_3z c5_3 c5_4z c5_4 c5_5z c5_5)) k yx7 yx8 yc3_0 yc3_1 yc3_2 yc3_3 yc3_4 yc4_0z yc4_0 yc5_0z yc5_0 yc5_1 yc5_2 yc5_3z yc5_3 yc5_4z yc5_4 yc5_5z yc5_5 := by kernel_rfl
theorem spec_ProofCode.s1 (k : Nat) (G : List Fr → St → Option Res) (a0_0 a0_1 : Int) (a0_2 a0_3 a0_4 : Int) (a1_0z : Bool) (a1_0 : List T) (a2_0z : Bool) (a2_0 : List T) (a2_1 a2_2 : Int) (a2_3z : Bool) (a2_3 : List Int) (a2_4z : Bool) (a2_4 : List Int) (a2_5z : Bool) (a2_5 : List T) (yx7 yx9 : Int) (yc3_0 yc3_1 : Int) (yc3_2 yc3_3 yc3_4 : Int) (yc4_0z : Bool) (yc4_0 : List T) (yc5_0z : Bool) (yc5_0 : List T) (yc5_1 yc5_2 : Int) (yc5_3z : Bool) (yc5_3 : List Int) (yc5_4z : Bool) (yc5_4 : List Int) (yc5_5z : Bool) (yc5_5 : List T) : resume Tryz.prog (spec_ProofCode.Cs k) G (finish Tryz.prog [] Tryz.f6 [.v (.agg [(.int .i64 a0_0), (.int .i64 a0_1), (.int .i64 a0_2), (.int .i64 a0_3), (.int .i64 a0_4)]), .v (.agg [(.sl 92 a1_0z a1_0)]), .v (.agg [(.sl 60 a2_0z a2_0), (.int .i64 a2_1), (.int .i64 a2_2), (.nums 5 .u8 a2_3z a2_3), (.nums 5 .u8 a2_4z a2_4), (.sl 28 a2_5z a2_5)])]) 100000 spec_ProofCode.K1 (spec_ProofCode.N1 yx7 yx9 yc3_0 yc3_1 yc3_2 yc3_3 yc3_4 yc4_0z yc4_0 yc5_0z yc5_0 yc5_1 yc5_2 yc5_3z yc5_3 yc5_4z yc5_4 yc5_5z yc5_5) = spec_ProofCode.l1b (fun r => some (spec_ProofCode.enc r)) (fun x7 x8 c3_0 c3_1 c3_2 c3_3 c3_4 c4_0z c4_0 c5_0z c5_0 c5_1 c5_2 c5_3z c5_3 c5_4z c5_4 c5_5z c5_5 => G spec_ProofCode.K0 (spec_ProofCode.N0 x7 x8 c3_0 c3_1 c3_2 c3_3 c3_4 c4_0z c4_0 c5_0z c5_0 c5_1 c5_2 c5_3z c5_3 c5_4z c5_4 c5_5z c5_5)) (fun x7 x9 c3_0 c3_1 c3_2 c3_3 c3_4 c4_0z c4_0 c5_0z c5_0 c5_1 c5_2 c5_3z c5_3 c5_4z c5_4 c5_5z c5_5 => G spec_ProofCode.K1 (spec_ProofCode.N1 x7 x9 c3_0 c3_1 c3_2 c3_3 c3_4 c4_0z c4_0 c5_0z c5_0 c5_1 c5_2 c5_3z c5_3 c5_4z c5_4 c5_5z c5_5)) k yx7 yx9 yc3_0 yc3_1 yc3_2 yc3_3 yc3_4 yc4_0z yc4_0 yc5_0z yc5_0 yc5_1 yc5_2 yc5_3z yc5_3 yc5_4z yc5_4 yc5_5z yc5_5 := by kernel_rfl
theorem spec_ProofCode.bn {R R' : Type} (e : R → R') (ret : Int → Option R) (j0 : Int → Int → Int → Int → Int → Int → Int → Bool → (List T) → Bool → (List T) → Int → Int → Bool → (List Int) → Bool → (List Int) → Bool → (List T) → Option R) (j1 : Int → Int → Int → Int → Int → Int → Int → Bool → (List T) → Bool → (List T) → Int → Int → Bool → (List Int) → Bool → (List Int) → Bool → (List T) → Option R) (k : Nat) (a0_0 a0_1 : Int) (a0_2 a0_3 a0_4 : Int) (a1_0z : Bool) (a1_0 : List T) (a2_0z : Bool) (a2_0 : List T) (a2_1 a2_2 : Int) (a2_3z : Bool) (a2_3 : List Int) (a2_4z : Bool) (a2_4 : List Int) (a2_5z : Bool) (a2_5 : List T) : spec_ProofCode.b (fun r => (ret r).map e) (fun x7 x8 c3_0 c3_1 c3_2 c3_3 c3_4 c4_0z c4_0 c5_0z c5_0 c5_1 c5_2 c5_3z c5_3 c5_4z c5_4 c5_5z c5_5 => (j0 x7 x8 c3_0 c3_1 c3_2 c3_3 c3_4 c4_0z c4_0 c5_0z c5_0 c5_1 c5_2 c5_3z c5_3 c5_4z c5_4 c5_5z c5_5).map e) (fun x7 x9 c3_0 c3_1 c3_2 c3_3 c3_4 c4_0z c4_0 c5_0z c5_0 c5_1 c5_2 c5_3z c5_3 c5_4z c5_4 c5_5z c5_5 => (j1 x7 x9 c3_0 c3_1 c3_2 c3_3 c3_4 c4_0z c4_0 c5_0z c5_0 c5_1 c5_2 c5_3z c5_3 c5_4z c5_4 c5_5z c5_5).map e) k a0_0 a0_1 a0_2 a0_3 a0_4 a1_0z a1_0 a2_0z a2_0 a2_1 a2_2 a2_3z a2_3 a2_4z a2_4 a2_5z a2_5 = (spec_ProofCode.b ret j0 j1 k a0_0 a0_1 a0_2 a0_3 a0_4 a1_0z a1_0 a2_0z a2_0 a2_1 a2_2 a2_3z a2_3 a2_4z a2_4 a2_5z a2_5).map e := by
  unfold spec_ProofCode.b
  repeat' first | with_reducible refine nat_cond ?_ ?_ | with_reducible refine nat_bind fun _ => ?_ | rfl
theorem spec_ProofCode.l0n {R R' : Type} (e : R → R') (ret : Int → Option R) (j0 : Int → Int → Int → Int → Int → Int → Int → Bool → (List T) → Bool → (List T) → Int → Int → Bool → (List Int) → Bool → (List Int) → Bool → (List T) → Option R) (j1 : Int → Int → Int → Int → Int → Int → Int → Bool → (List T) → Bool → (List T) → Int → Int → Bool → (List Int) → Bool → (List Int) → Bool → (List T) → Option R) (k : Nat) (x7 x8 : Int) (c3_0 c3_1 : Int) (c3_2 c3_3 c3_4 : Int) (c4_0z : Bool) (c4_0 : List T) (c5_0z : Bool) (c5_0 : List T) (c5_1 c5_2 : Int) (c5_3z : Bool) (c5_3 : List Int) (c5_4z : Bool) (c5_4 : List Int) (c5_5z : Bool) (c5_5 : List T) : spec_ProofCode.l0b (fun r => (ret r).map e) (fun x7 x8 c3_0 c3_1 c3_2 c3_3 c3_4 c4_0z c4_0 c5_0z c5_0 c5_1 c5_2 c5_3z c5_3 c5_4z c5_4 c5_5z c5_5 => (j0 x7 x8 c3_0 c3_1 c3_2 c3_3 c3_4 c4_0z c4_0 c5_0z c5_0 c5_1 c5_2 c5_3z c5_3 c5_4z c5_4 c5_5z c5_5).map e) (fun x7 x9 c3_0 c3_1 c3_2 c3_3 c3_4 c4_0z c4_0 c5_0z c5_0 c5_1 c5_2 c5_3z c5_3 c5_4z c5_4 c5_5z c5_5 => (j1 x7 x9 c3_0 c3_1 c3_2 c3_3 c3_4 c4_0z c4_0 c5_0z c5_0 c5_1 c5_2 c5_3z c5_3 c5_4z c5_4 c5_5z c5_5).map e) k x7 x8 c3_0 c3_1 c3_2 c3_3 c3_4 c4_0z c4_0 c5_0z c5_0 c5_1 c5_2 c5_3z c5_3 c5_4z c5_4 c5_5z c5_5 = (spec_ProofCode.l0b ret j0 j1 k x7 x8 c3_0 c3_1 c3_2 c3_3 c3_4 c4_0z c4_0 c5_0z c5_0 c5_1 c5_2 c5_3z c5_3 c5_4z c5_4 c5_5z c5_5).map e := by
  unfold spec_ProofCode.l0b
  repeat' first | with_reducible refine nat_cond ?_ ?_ | with_reducible refine nat_bind fun _ => ?_ | rfl
theorem spec_ProofCode.l1n {R R' : Type} (e : R → R') (ret : Int → Option R) (j0 : Int → Int → Int → Int → Int → Int → Int → Bool → (List T) → Bool → (List T) → Int → Int → Bool → (List Int) → Bool → (List Int) → Bool → (List T) → Option R) (j1 : Int → Int → Int → Int → Int → Int → Int → Bool → (List T) → Bool → (List T) → Int → Int → Bool → (List Int) → Bool → (List Int) → Bool → (List T) → Option R) (k : Nat) (x7 x9 : Int) (c3_0 c3_1 : Int) (c3_2 c3_3 c3_4 : Int) (c4_0z : Bool) (c4_0 : List T) (c5_0z : Bool) (c5_0 : List T) (c5_1 c5_2 : Int) (c5_3z : Bool) (c5_3 : List Int) (c5_4z : Bool) (c5_4 : List Int) (c5_5z : Bool) (c5_5 : List T) : spec_ProofCode.l1b (fun r => (ret r).map e) (fun x7 x8 c3_0 c3_1 c3_2 c3_3 c3_4 c4_0z c4_0 c5_0z c5_0 c5_1 c5_2 c5_3z c5_3 c5_4z c5_4 c5_5z c5_5 => (j0 x7 x8 c3_0 c3_1 c3_2 c3_3 c3_4 c4_0z c4_0 c5_0z c5_0 c5_1 c5_2 c5_3z c5_3 c5_4z c5_4 c5_5z c5_5).map e) (fun x7 x9 c3_0 c3_1 c3_2 c3_3 c3_4 c4_0z c4_0 c5_0z c5_0 c5_1 c5_2 c5_3z c5_3 c5_4z c5_4 c5_5z c5_5 => (j1 x7 x9 c3_0 c3_1 c3_2 c3_3 c3_4 c4_0z c4_0 c5_0z c5_0 c5_1 c5_2 c5_3z c5_3 c5_4z c5_4 c5_5z c5_5).map e) k x7 x9 c3_0 c3_1 c3_2 c3_3 c3_4 c4_0z c4_0 c5_0z c5_0 c5_1 c5_2 c5_3z c5_3 c5_4z c5_4 c5_5z c5_5 = (spec_ProofCode.l1b ret j0 j1 k x7 x9 c3_0 c3_1 c3_2 c3_3 c3_4 c4_0z c4_0 c5_0z c5_0 c5_1 c5_2 c5_3z c5_3 c5_4z c5_4 c5_5z c5_5).map e := by
  unfold spec_ProofCode.l1b
  repeat' first | with_reducible refine nat_cond ?_ ?_ | with_reducible refine nat_bind fun _ => ?_ | rfl
theorem spec_ProofCode.rq (a0_0 a0_1 : Int) (a0_2 a0_3 a0_4 : Int) (a1_0z : Bool) (a1_0 : List T) (a2_0z : Bool) (a2_0 : List T) (a2_1 a2_2 : Int) (a2_3z : Bool) (a2_3 : List Int) (a2_4z : Bool) (a2_4 : List Int) (a2_5z : Bool) (a2_5 : List T) : ∀ k, (∀ (x7 x8 : Int) (c3_0 c3_1 : Int) (c3_2 c3_3 c3_4 : Int) (c4_0z : Bool) (c4_0 : List T) (c5_0z : Bool) (c5_0 : List T) (c5_1 c5_2 : Int) (c5_3z : Bool) (c5_3 : List Int) (c5_4z : Bool) (c5_4 : List Int) (c5_5z : Bool) (c5_5 : List T), rounds Tryz.prog spec_ProofCode.Cs (finish Tryz.prog [] Tryz.f6 [.v (.agg [(.int .i64 a0_0), (.int .i64 a0_1), (.int .i64 a0_2), (.int .i64 a0_3), (.int .i64 a0_4)]), .v (.agg [(.sl 92 a1_0z a1_0)]), .v (.agg [(.sl 60 a2_0z a2_0), (.int .i64 a2_1), (.int .i64 a2_2), (.nums 5 .u8 a2_3z a2_3), (.nums 5 .u8 a2_4z a2_4), (.sl 28 a2_5z a2_5)])]) 100000 k spec_ProofCode.K0 (spec_ProofCode.N0 x7 x8 c3_0 c3_1 c3_2 c3_3 c3_4 c4_0z c4_0 c5_0z c5_0 c5_1 c5_2 c5_3z c5_3 c5_4z c5_4 c5_5z c5_5) = (spec_ProofCode.l0 k x7 x8 c3_0 c3_1 c3_2 c3_3 c3_4 c4_0z c4_0 c5_0z c5_0 c5_1 c5_2 c5_3z c5_3 c5_4z c5_4 c5_5z c5_5).map spec_ProofCode.enc) ∧ (∀ (x7 x9 : Int) (c3_0 c3_1 : Int) (c3_2 c3_3 c3_4 : Int) (c4_0z : Bool) (c4_0 : List T) (c5_0z : Bool) (c5_0 : List T) (c5_1 c5_2 : Int) (c5_3z : Bool) (c5_3 : List Int) (c5_4z : Bool) (c5_4 : List Int) (c5_5z : Bool) (c5_5 : List T), rounds Tryz.prog spec_ProofCode.Cs (finish Tryz.prog [] Tryz.f6 [.v (.agg [(.int .i64 a0_0), (.int .i64 a0_1), (.int .i64 a0_2), (.int .i64 a0_3), (.int .i64 a0_4)]), .v (.agg [(.sl 92 a1_0z a1_0)]), .v (.agg [(.sl 60 a2_0z a2_0), (.int .i64 a2_1), (.int .i64 a2_2), (.nums 5 .u8 a2_3z a2_3), (.nums 5 .u8 a2_4z a2_4), (.sl 28 a2_5z a2_5)])]) 100000 k spec_ProofCode.K1 (spec_ProofCode.N1 x7 x9 c3_0 c3_1 c3_2 c3_3 c3_4 c4_0z c4_0 c5_0z c5_0 c5_1 c5_2 c5_3z c5_3 c5_4z c5_4 c5_5z c5_5) = (spec_ProofCode.l1 k x7 x9 c3_0 c3_1 c3_2 c3_3 c3_4 c4_0z c4_0 c5_0z c5_0 c5_1 c5_2 c5_3z c5_3 c5_4z c5_4 c5_5z c5_5).map spec_ProofCode.enc)
  | 0 => ⟨fun _ _ _ _ _ _ _ _ _ _ _ _ _ _ _ _ _ _ _ => rfl, fun _ _ _ _ _ _ _ _ _ _ _ _ _ _ _ _ _ _ _ => rfl⟩
  | k + 1 => by
    have ih := spec_ProofCode.rq a0_0 a0_1 a0_2 a0_3 a0_4 a1_0z a1_0 a2_0z a2_0 a2_1 a2_2 a2_3z a2_3 a2_4z a2_4 a2_5z a2_5 k
    refine ⟨fun _ _ _ _ _ _ _ _ _ _ _ _ _ _ _ _ _ _ _ => ?_, fun _ _ _ _ _ _ _ _ _ _ _ _ _ _ _ _ _ _ _ => ?_⟩
    · refine (spec_ProofCode.s0 k _ a0_0 a0_1 a0_2 a0_3 a0_4 a1_0z a1_0 a2_0z a2_0 a2_1 a2_2 a2_3z a2_3 a2_4z a2_4 a2_5z a2_5 _ _ _ _ _ _ _ _ _ _ _ _ _ _ _ _ _ _ _).trans (Eq.trans ?_ (spec_ProofCode.l0n spec_ProofCode.enc some (spec_ProofCode.l0 k) (spec_ProofCode.l1 k) k _ _ _ _ _ _ _ _ _ _ _ _ _ _ _ _ _ _ _))
      simp only [ih.1, ih.2, Option.map_some]
    · refine (spec_ProofCode.s1 k _ a0_0 a0_1 a0_2 a0_3 a0_4 a1_0z a1_0 a2_0z a2_0 a2_1 a2_2 a2_3z a2_3 a2_4z a2_4 a2_5z a2_5 _ _ _ _ _ _ _ _ _ _ _ _ _ _ _ _ _ _ _).trans (Eq.trans ?_ (spec_ProofCode.l1n spec_ProofCode.enc some (spec_ProofCode.l0 k) (spec_ProofCode.l1 k) k _ _ _ _ _ _ _ _ _ _ _ _ _ _ _ _ _ _ _))
      simp only [ih.1, ih.2, Option.map_some]
theorem spec_ProofCode.eq (k : Nat) (a0_0 a0_1 : Int) (a0_2 a0_3 a0_4 : Int) (a1_0z : Bool) (a1_0 : List T) (a2_0z : Bool) (a2_0 : List T) (a2_1 a2_2 : Int) (a2_3z : Bool) (a2_3 : List Int) (a2_4z : Bool) (a2_4 : List Int) (a2_5z : Bool) (a2_5 : List T) : answer Tryz.prog spec_ProofCode.Cs 100000 spec_ProofCode.cuts [] Tryz.f6 (k + 1) [.v (.agg [(.int .i64 a0_0), (.int .i64 a0_1), (.int .i64 a0_2), (.int .i64 a0_3), (.int .i64 a0_4)]), .v (.agg [(.sl 92 a1_0z a1_0)]), .v (.agg [(.sl 60 a2_0z a2_0), (.int .i64 a2_1), (.int .i64 a2_2), (.nums 5 .u8 a2_3z a2_3), (.nums 5 .u8 a2_4z a2_4), (.sl 28 a2_5z a2_5)])] = (spec_ProofCode.f (k + 1) a0_0 a0_1 a0_2 a0_3 a0_4 a1_0z a1_0 a2_0z a2_0 a2_1 a2_2 a2_3z a2_3 a2_4z a2_4 a2_5z a2_5).map spec_ProofCode.enc := by
  have ih := spec_ProofCode.rq a0_0 a0_1 a0_2 a0_3 a0_4 a1_0z a1_0 a2_0z a2_0 a2_1 a2_2 a2_3z a2_3 a2_4z a2_4 a2_5z a2_5 k
  refine Eq.trans (b := spec_ProofCode.b (fun r => some (spec_ProofCode.enc r)) (fun x7 x8 c3_0 c3_1 c3_2 c3_3 c3_4 c4_0z c4_0 c5_0z c5_0 c5_1 c5_2 c5_3z c5_3 c5_4z c5_4 c5_5z c5_5 => rounds Tryz.prog spec_ProofCode.Cs (finish Tryz.prog [] Tryz.f6 [.v (.agg [(.int .i64 a0_0), (.int .i64 a0_1), (.int .i64 a0_2), (.int .i64 a0_3), (.int .i64 a0_4)]), .v (.agg [(.sl 92 a1_0z a1_0)]), .v (.agg [(.sl 60 a2_0z a2_0), (.int .i64 a2_1), (.int .i64 a2_2), (.nums 5 .u8 a2_3z a2_3), (.nums 5 .u8 a2_4z a2_4), (.sl 28 a2_5z a2_5)])]) 100000 k spec_ProofCode.K0 (spec_ProofCode.N0 x7 x8 c3_0 c3_1 c3_2 c3_3 c3_4 c4_0z c4_0 c5_0z c5_0 c5_1 c5_2 c5_3z c5_3 c5_4z c5_4 c5_5z c5_5)) (fun x7 x9 c3_0 c3_1 c3_2 c3_3 c3_4 c4_0z c4_0 c5_0z c5_0 c5_1 c5_2 c5_3z c5_3 c5_4z c5_4 c5_5z c5_5 => rounds Tryz.prog spec_ProofCode.Cs (finish Tryz.prog [] Tryz.f6 [.v (.agg [(.int .i64 a0_0), (.int .i64 a0_1), (.int .i64 a0_2), (.int .i64 a0_3), (.int .i64 a0_4)]), .v (.agg [(.sl 92 a1_0z a1_0)]), .v (.agg [(.sl 60 a2_0z a2_0), (.int .i64 a2_1), (.int .i64 a2_2), (.nums 5 .u8 a2_3z a2_3), (.nums 5 .u8 a2_4z a2_4), (.sl 28 a2_5z a2_5)])]) 100000 k spec_ProofCode.K1 (spec_ProofCode.N1 x7 x9 c3_0 c3_1 c3_2 c3_3 c3_4 c4_0z c4_0 c5_0z c5_0 c5_1 c5_2 c5_3z c5_3 c5_4z c5_4 c5_5z c5_5)) k a0_0 a0_1 a0_2 a0_3 a0_4 a1_0z a1_0 a2_0z a2_0 a2_1 a2_2 a2_3z a2_3 a2_4z a2_4 a2_5z a2_5) (by kernel_rfl) (Eq.trans ?_ (spec_ProofCode.bn spec_ProofCode.enc some (spec_ProofCode.l0 k) (spec_ProofCode.l1 k) k a0_0 a0_1 a0_2 a0_3 a0_4 a1_0z a1_0 a2_0z a2_0 a2_1 a2_2 a2_3z a2_3 a2_4z a2_4 a2_5z a2_5))
  simp only [ih.1, ih.2, Option.map_some]
theorem spec_ProofCode.sound (k : Nat) : SoundF Tryz.prog 6 (fun a => (spec_ProofCode.ans k a).val) := by
  refine sound_plain (fun args res h => ?_) (fun t n => rfl)
  unfold spec_ProofCode.ans at h
  dsimp only at h
  split at h
  · cases k with
    | zero => cases h
    | succ k =>
      unfold Ans.val at h
      rw [← spec_ProofCode.eq] at h
      exact answer_sound mixed Tryz.func6 _ _ _ (k + 1) (fun j _ => tab_sound (tab_cons (spec_l23Goes.sound j) (tab_cons (spec_ProofOk.sound j) (tab_cons (spec_SameBytes.sound j) (tab_cons (spec_ChainCode.sound j) (tab_cons (spec_HeadHash.sound j) (tab_cons (spec_QcCode.sound j) (tab_nil)))))))) _ _ h
  · exact (Ans.no_val h).elim

def impl_within.b {R : Type} (ret : Bool → Option R) (k : Nat) (a0 a1 a2 : Int) : Option R :=
  cond (decide (a1 ≤ a0)) (ret (decide (a0 ≤ a2))) (ret false)
def impl_within.f : Nat → Int → Int → Int → Option Bool
  | 0, _, _, _ => none
  | k + 1, a0, a1, a2 => impl_within.b some k a0 a1 a2
def impl_within.enc (r : Bool) : Res := ⟨[.vals false [((.bool r), true)]], []⟩
def impl_within.ans (k : Nat) : List Arg → Ans
  | [.v (.int .i64 a0), .v (.int .i64 a1), .v (.int .i64 a2)] => ⟨impl_within.f k a0 a1 a2, impl_within.enc⟩
  | _ => Ans.no
def impl_within.Cs (k : Nat) : CallSem := tab []
theorem impl_within.eq (k : Nat) (a0 a1 a2 : Int) : answer Tryz.prog impl_within.Cs 100000 [] [] Tryz.f56 (k + 1) [.v (.int .i64 a0), .v (.int .i64 a1), .v (.int .i64 a2)] = (impl_within.f (k + 1) a0 a1 a2).map impl_within.enc := by
  refine Eq.trans (b := impl_within.b (fun r => some (impl_within.enc r)) k a0 a1 a2) (by kernel_rfl) ?_
  show _ = (impl_within.b some k a0 a1 a2).map impl_within.enc
  unfold impl_within.b
  repeat' first | with_reducible refine nat_cond ?_ ?_ | with_reducible refine nat_bind fun _ => ?_ | rfl
theorem impl_within.sound (k : Nat) : SoundF Tryz.prog 56 (fun a => (impl_within.ans k a).val) := by
  refine sound_plain (fun args res h => ?_) (fun t n => rfl)
  unfold impl_within.ans at h
  dsimp only at h
  split at h
  · cases k with
    | zero => cases h
    | succ k =>
      unfold Ans.val at h
      rw [← impl_within.eq] at h
      exact answer_sound mixed Tryz.func56 _ _ _ (k + 1) (fun j _ => tab_sound (tab_nil)) _ _ h
  · exact (Ans.no_val h).elim

def impl_LimitsOk.b {R : Type} (ret : Bool → Option R) (k : Nat) (a0_0 a0_1 : Int) (a0_2 a0_3 a0_4 : Int) : Option R :=
  (impl_within.f k a0_0 1 10).bind fun t0 => cond t0 ((impl_within.f k a0_1 0 40).bind fun t1 => cond t1 ((impl_within.f k a0_2 0 8).bind fun t2 => cond t2 ((impl_within.f k a0_3 1 4000).bind fun t3 => cond t3 ((impl_within.f k a0_4 3 5).bind fun t4 => ret t4) (ret false)) (ret false)) (ret false)) (ret false)
def impl_LimitsOk.f : Nat → Int → Int → Int → Int → Int → Option Bool
  | 0, _, _, _, _, _ => none
  | k + 1, a0_0, a0_1, a0_2, a0_3, a0_4 => impl_LimitsOk.b some k a0_0 a0_1 a0_2 a0_3 a0_4
def impl_LimitsOk.enc (r : Bool) : Res := ⟨[.vals false [((.bool r), true)]], []⟩
def impl_LimitsOk.ans (k : Nat) : List Arg → Ans
  | [.v (.agg [(.int .i64 a0_0), (.int .i64 a0_1), (.int .i64 a0_2), (.int .i64 a0_3), (.int .i64 a0_4)])] => ⟨impl_LimitsOk.f k a0_0 a0_1 a0_2 a0_3 a0_4, impl_LimitsOk.enc⟩
  | _ => Ans.no
def impl_LimitsOk.Cs (k : Nat) : CallSem := tab [(56, impl_within.ans k)]
theorem impl_LimitsOk.eq (k : Nat) (a0_0 a0_1 : Int) (a0_2 a0_3 a0_4 : Int) : answer Tryz.prog impl_LimitsOk.Cs 100000 [] [] Tryz.f54 (k + 1) [.v (.agg [(.int .i64 a0_0), (.int .i64 a0_1), (.int .i64 a0_2), (.int .i64 a0_3), (.int .i64 a0_4)])] = (impl_LimitsOk.f (k + 1) a0_0 a0_1 a0_2 a0_3 a0_4).map impl_LimitsOk.enc := by
  refine Eq.trans (b := impl_LimitsOk.b (fun r => some (impl_LimitsOk.enc r)) k a0_0 a0_1 a0_2 a0_3 a0_4) (by kernel_rfl) ?_
  show _ = (impl_LimitsOk.b some k a0_0 a0_1 a0_2 a0_3 a0_4).map impl_LimitsOk.enc
  unfold impl_LimitsOk.b
  repeat' first | with_reducible refine nat_cond ?_ ?_ | with_reducible refine nat_bind fun _ => ?_ | rfl
theorem impl_LimitsOk.sound (k : Nat) : SoundF Tryz.prog 54 (fun a => (impl_LimitsOk.ans k a).val) := by
  refine sound_plain (fun args res h => ?_) (fun t n => rfl)
  unfold impl_LimitsOk.ans at h
  dsimp only at h
  split at h
  · cases k with
    | zero => cases h
    | succ k =>
      unfold Ans.val at h
      rw [← impl_LimitsOk.eq] at h
      exact answer_sound mixed Tryz.func54 _ _ _ (k + 1) (fun j _ => tab_sound (tab_cons (impl_within.sound j) (tab_nil))) _ _ h
  · exact (Ans.no_val h).elim

def impl_TableOk.b {R : Type} (ret : Bool → Option R) (j0 : Bool → (List T) → Int → Int → Bool → (List T) → Option R) (k : Nat) (a0_0z : Bool) (a0_0 : List T) : Option R :=
  j0 a0_0z a0_0 ((a0_0).length : Int) 0 a0_0z a0_0
def impl_TableOk.l0b {R : Type} (ret : Bool → Option R) (j0 : Bool → (List T) → Int → Int → Bool → (List T) → Option R) (k : Nat) (x6z : Bool) (x6 : List T) (x7 x8 : Int) (c1_0z : Bool) (c1_0 : List T) : Option R :=
  cond (decide (x8 < x7)) (cond (decide ((0 : Int) ≤ x8)) (cond (decide (x8 < ((x6).length : Int))) ((impl_within.f k (((((x6).getD (x8).toNat .bad).cells.getD 0 .bad)).toInt) 1 1099511627776).bind fun t0 => cond (!t0) (ret false) ((impl_within.f k ((((((x6).getD (x8).toNat .bad).cells.getD 1 .bad)).toNums).length : Int) 1 64).bind fun t1 => cond (!t1) (ret false) (j0 x6z x6 x7 (RowKit.wrap64 (x8 + 1)) c1_0z c1_0))) (none)) (none)) ((impl_within.f k ((c1_0).length : Int) 1 10).bind fun t0 => ret t0)
def impl_TableOk.l0 : Nat → Bool → (List T) → Int → Int → Bool → (List T) → Option Bool
  | 0, _, _, _, _, _, _ => none
  | k + 1, x6z, x6, x7, x8, c1_0z, c1_0 => impl_TableOk.l0b some (impl_TableOk.l0 k) k x6z x6 x7 x8 c1_0z c1_0
def impl_TableOk.f : Nat → Bool → (List T) → Option Bool
  | 0, _, _ => none
  | k + 1, a0_0z, a0_0 => impl_TableOk.b some (impl_TableOk.l0 k) k a0_0z a0_0
def impl_TableOk.enc (r : Bool) : Res := ⟨[.vals false [((.bool r), true)]], []⟩
def impl_TableOk.ans (k : Nat) : List Arg → Ans
  | [.v (.agg [(.sl 92 a0_0z a0_0)])] => ⟨impl_TableOk.f k a0_0z a0_0, impl_TableOk.enc⟩
  | _ => Ans.no
def impl_TableOk.Cs (k : Nat) : CallSem := tab [(56, impl_within.ans k)]
def impl_TableOk.cuts : List (Nat × Keep) := [(26, ⟨[(1, some []), (6, some []), (7, some []), (8, some [])], [(1, [some []])]⟩)]
noncomputable def impl_TableOk.K0 : List Fr := framesAt [true, false, true, false] (bodyOf Tryz.f55 impl_TableOk.cuts) []
def impl_TableOk.N0 (x6z : Bool) (x6 : List T) (x7 x8 : Int) (c1_0z : Bool) (c1_0 : List T) : St := stOf 28 28 1 [(1, .bp 1 0), (6, .val ⟨(.sl 92 x6z x6), [], false, none⟩), (7, .val (V.s (.int .i64 x7))), (8, .val (V.s (.int .i64 x8)))] [(1, .cells [⟨(.sl 92 c1_0z c1_0), [], false, none⟩])]
theorem impl_TableOk.s0 (k : Nat) (G : List Fr → St → Option Res) (a0_0z : Bool) (a0_0 : List T) (yx6z : Bool) (yx6 : List T) (yx7 yx8 : Int) (yc1_0z : Bool) (yc1_0 : List T) : resume Tryz.prog (impl_TableOk.Cs k) G (finish Tryz.prog [] Tryz.f55 [.v (.agg [(.sl 92 a0_0z a0_0)])]) 100000 impl_TableOk.K0 (impl_TableOk.N0 yx6z yx6 yx7 yx8 yc1_0z yc1_0) = impl_TableOk.l0b (fun r => some (impl_TableOk.enc r)) (fun x6z x6 x7 x8 c1_0z c1_0 => G impl_TableOk.K0 (impl_TableOk.N0 x6z x6 x7 x8 c1_0z c1_0)) k yx6z yx6 yx7 yx8 yc1_0z yc1_0 := by kernel_rfl
theorem impl_TableOk.bn {R R' : Type} (e : R → R') (ret : Bool → Option R) (j0 : Bool → (List T) → Int → Int → Bool → (List T) → Option R) (k : Nat) (a0_0z : Bool) (a0_0 : List T) : impl_TableOk.b (fun r => (ret r).map e) (fun x6z x6 x7 x8 c1_0z c1_0 => (j0 x6z x6 x7 x8 c1_0z c1_0).map e) k a0_0z a0_0 = (impl_TableOk.b ret j0 k a0_0z a0_0).map e := by
  unfold impl_TableOk.b
  repeat' first | with_reducible refine nat_cond ?_ ?_ | with_reducible refine nat_bind fun _ => ?_ | rfl
theorem impl_TableOk.l0n {R R' : Type} (e : R → R') (ret : Bool → Option R) (j0 : Bool → (List T) → Int → Int → Bool → (List T) → Option R) (k : Nat) (x6z : Bool) (x6 : List T) (x7 x8 : Int) (c1_0z : Bool) (c1_0 : List T) : impl_TableOk.l0b (fun r => (ret r).map e) (fun x6z x6 x7 x8 c1_0z c1_0 => (j0 x6z x6 x7 x8 c1_0z c1_0).map e) k x6z x6 x7 x8 c1_0z c1_0 = (impl_TableOk.l0b ret j0 k x6z x6 x7 x8 c1_0z c1_0).map e := by
  unfold impl_TableOk.l0b
  repeat' first | with_reducible refine nat_cond ?_ ?_ | with_reducible refine nat_bind fun _ => ?_ | rfl
theorem impl_TableOk.rq (a0_0z : Bool) (a0_0 : List T) : ∀ k, (∀ (x6z : Bool) (x6 : List T) (x7 x8 : Int) (c1_0z : Bool) (c1_0 : List T), rounds Tryz.prog impl_TableOk.Cs (finish Tryz.prog [] Tryz.f55 [.v (.agg [(.sl 92 a0_0z a0_0)])]) 100000 k impl_TableOk.K0 (impl_TableOk.N0 x6z x6 x7 x8 c1_0z c1_0) = (impl_TableOk.l0 k x6z x6 x7 x8 c1_0z c1_0).map impl_TableOk.enc)
  | 0 => fun _ _ _ _ _ _ => rfl
  | k + 1 => by
    have ih := impl_TableOk.rq a0_0z a0_0 k
    refine fun _ _ _ _ _ _ => ?_
    · refine (impl_TableOk.s0 k _ a0_0z a0_0 _ _ _ _ _ _).trans (Eq.trans ?_ (impl_TableOk.l0n impl_TableOk.enc some (impl_TableOk.l0 k) k _ _ _ _ _ _))
      simp only [ih, Option.map_some]
theorem impl_TableOk.eq (k : Nat) (a0_0z : Bool) (a0_0 : List T) : answer Tryz.prog impl_TableOk.Cs 100000 impl_TableOk.cuts [] Tryz.f55 (k + 1) [.v (.agg [(.sl 92 a0_0z a0_0)])] = (impl_TableOk.f (k + 1) a0_0z a0_0).map impl_TableOk.enc := by
  have ih := impl_TableOk.rq a0_0z a0_0 k
  refine Eq.trans (b := impl_TableOk.b (fun r => some (impl_TableOk.enc r)) (fun x6z x6 x7 x8 c1_0z c1_0 => rounds Tryz.prog impl_TableOk.Cs (finish Tryz.prog [] Tryz.f55 [.v (.agg [(.sl 92 a0_0z a0_0)])]) 100000 k impl_TableOk.K0 (impl_TableOk.N0 x6z x6 x7 x8 c1_0z c1_0)) k a0_0z a0_0) (by kernel_rfl) (Eq.trans ?_ (impl_TableOk.bn impl_TableOk.enc some (impl_TableOk.l0 k) k a0_0z a0_0))
  simp only [ih, Option.map_some]
theorem impl_TableOk.sound (k : Nat) : SoundF Tryz.prog 55 (fun a => (impl_TableOk.ans k a).val) := by
  refine sound_plain (fun args res h => ?_) (fun t n => rfl)
  unfold impl_TableOk.ans at h
  dsimp only at h
  split at h
  · cases k with
    | zero => cases h
    | succ k =>
      unfold Ans.val at h
      rw [← impl_TableOk.eq] at h
      exact answer_sound mixed Tryz.func55 _ _ _ (k + 1) (fun j _ => tab_sound (tab_cons (impl_within.sound j) (tab_nil))) _ _ h
  · exact (Ans.no_val h).elim

def impl_belongs.b {R : Type} (ret : Bool → Option R) (k : Nat) (a0_0 a0_1 : Int) (a0_2 a0_3 a0_4 : Int) (a1_0z : Bool) (a1_0 : List T) : Option R :=
  (impl_LimitsOk.f k a0_0 a0_1 a0_2 a0_3 a0_4).bind fun t0 => cond t0 ((impl_TableOk.f k a1_0z a1_0).bind fun t1 => cond t1 (ret (decide (((a1_0).length : Int) = a0_0))) (ret false)) (ret false)
def impl_belongs.f : Nat → Int → Int → Int → Int → Int → Bool → (List T) → Option Bool
  | 0, _, _, _, _, _, _, _ => none
  | k + 1, a0_0, a0_1, a0_2, a0_3, a0_4, a1_0z, a1_0 => impl_belongs.b some k a0_0 a0_1 a0_2 a0_3 a0_4 a1_0z a1_0
def impl_belongs.enc (r : Bool) : Res := ⟨[.vals false [((.bool r), true)]], []⟩
def impl_belongs.ans (k : Nat) : List Arg → Ans
  | [.v (.agg [(.int .i64 a0_0), (.int .i64 a0_1), (.int .i64 a0_2), (.int .i64 a0_3), (.int .i64 a0_4)]), .v (.agg [(.sl 92 a1_0z a1_0)])] => ⟨impl_belongs.f k a0_0 a0_1 a0_2 a0_3 a0_4 a1_0z a1_0, impl_belongs.enc⟩
  | _ => Ans.no
def impl_belongs.Cs (k : Nat) : CallSem := tab [(54, impl_LimitsOk.ans k), (55, impl_TableOk.ans k)]
theorem impl_belongs.eq (k : Nat) (a0_0 a0_1 : Int) (a0_2 a0_3 a0_4 : Int) (a1_0z : Bool) (a1_0 : List T) : answer Tryz.prog impl_belongs.Cs 100000 [] [] Tryz.f25 (k + 1) [.v (.agg [(.int .i64 a0_0), (.int .i64 a0_1), (.int .i64 a0_2), (.int .i64 a0_3), (.int .i64 a0_4)]), .v (.agg [(.sl 92 a1_0z a1_0)])] = (impl_belongs.f (k + 1) a0_0 a0_1 a0_2 a0_3 a0_4 a1_0z a1_0).map impl_belongs.enc := by
  refine Eq.trans (b := impl_belongs.b (fun r => some (impl_belongs.enc r)) k a0_0 a0_1 a0_2 a0_3 a0_4 a1_0z a1_0) (by kernel_rfl) ?_
  show _ = (impl_belongs.b some k a0_0 a0_1 a0_2 a0_3 a0_4 a1_0z a1_0).map impl_belongs.enc
  unfold impl_belongs.b
  repeat' first | with_reducible refine nat_cond ?_ ?_ | with_reducible refine nat_bind fun _ => ?_ | rfl
theorem impl_belongs.sound (k : Nat) : SoundF Tryz.prog 25 (fun a => (impl_belongs.ans k a).val) := by
  refine sound_plain (fun args res h => ?_) (fun t n => rfl)
  unfold impl_belongs.ans at h
  dsimp only at h
  split at h
  · cases k with
    | zero => cases h
    | succ k =>
      unfold Ans.val at h
      rw [← impl_belongs.eq] at h
      exact answer_sound mixed Tryz.func25 _ _ _ (k + 1) (fun j _ => tab_sound (tab_cons (impl_LimitsOk.sound j) (tab_cons (impl_TableOk.sound j) (tab_nil)))) _ _ h
  · exact (Ans.no_val h).elim

def impl_isNum.b {R : Type} (ret : Bool → Option R) (k : Nat) (a0 : Int) : Option R :=
  (impl_within.f k a0 0 1152921504606846975).bind fun t0 => ret t0
def impl_isNum.f : Nat → Int → Option Bool
  | 0, _ => none
  | k + 1, a0 => impl_isNum.b some k a0
def impl_isNum.enc (r : Bool) : Res := ⟨[.vals false [((.bool r), true)]], []⟩
def impl_isNum.ans (k : Nat) : List Arg → Ans
  | [.v (.int .i64 a0)] => ⟨impl_isNum.f k a0, impl_isNum.enc⟩
  | _ => Ans.no
def impl_isNum.Cs (k : Nat) : CallSem := tab [(56, impl_within.ans k)]
theorem impl_isNum.eq (k : Nat) (a0 : Int) : answer Tryz.prog impl_isNum.Cs 100000 [] [] Tryz.f89 (k + 1) [.v (.int .i64 a0)] = (impl_isNum.f (k + 1) a0).map impl_isNum.enc := by
  refine Eq.trans (b := impl_isNum.b (fun r => some (impl_isNum.enc r)) k a0) (by kernel_rfl) ?_
  show _ = (impl_isNum.b some k a0).map impl_isNum.enc
  unfold impl_isNum.b
  repeat' first | with_reducible refine nat_cond ?_ ?_ | with_reducible refine nat_bind fun _ => ?_ | rfl
theorem impl_isNum.sound (k : Nat) : SoundF Tryz.prog 89 (fun a => (impl_isNum.ans k a).val) := by
  refine sound_plain (fun args res h => ?_) (fun t n => rfl)
  unfold impl_isNum.ans at h
  dsimp only at h
  split at h
  · cases k with
    | zero => cases h
    | succ k =>
      unfold Ans.val at h
      rw [← impl_isNum.eq] at h
      exact answer_sound mixed Tryz.func89 _ _ _ (k + 1) (fun j _ => tab_sound (tab_cons (impl_within.sound j) (tab_nil))) _ _ h
  · exact (Ans.no_val h).elim

def impl_areHashes.b {R : Type} (ret : Bool → Option R) (j0 : Bool → (List T) → Int → Int → Option R) (k : Nat) (a0z : Bool) (a0 : List T) : Option R :=
  j0 a0z a0 ((a0).length : Int) 0
def impl_areHashes.l0b {R : Type} (ret : Bool → Option R) (j0 : Bool → (List T) → Int → Int → Option R) (k : Nat) (x5z : Bool) (x5 : List T) (x6 x7 : Int) : Option R :=
  cond (decide (x7 < x6)) (cond (decide ((0 : Int) ≤ x7)) (cond (decide (x7 < ((x5).length : Int))) (cond (!(decide (((((((x5).getD (x7).toNat .bad).cells.getD 0 .bad)).toNums).length : Int) = 32))) (ret false) (j0 x5z x5 x6 (RowKit.wrap64 (x7 + 1)))) (none)) (none)) (ret true)
def impl_areHashes.l0 : Nat → Bool → (List T) → Int → Int → Option Bool
  | 0, _, _, _, _ => none
  | k + 1, x5z, x5, x6, x7 => impl_areHashes.l0b some (impl_areHashes.l0 k) k x5z x5 x6 x7
def impl_areHashes.f : Nat → Bool → (List T) → Option Bool
  | 0, _, _ => none
  | k + 1, a0z, a0 => impl_areHashes.b some (impl_areHashes.l0 k) k a0z a0
def impl_areHashes.enc (r : Bool) : Res := ⟨[.vals false [((.bool r), true)]], []⟩
def impl_areHashes.ans (k : Nat) : List Arg → Ans
  | [.v (.sl 28 a0z a0)] => ⟨impl_areHashes.f k a0z a0, impl_areHashes.enc⟩
  | _ => Ans.no
def impl_areHashes.Cs (k : Nat) : CallSem := tab []
def impl_areHashes.cuts : List (Nat × Keep) := [(26, ⟨[(5, some []), (6, some []), (7, some [])], []⟩)]
noncomputable def impl_areHashes.K0 : List Fr := framesAt [true, false, true, false] (bodyOf Tryz.f90 impl_areHashes.cuts) []
def impl_areHashes.N0 (x5z : Bool) (x5 : List T) (x6 x7 : Int) : St := stOf 15 15 1 [(5, .val ⟨(.sl 28 x5z x5), [], false, none⟩), (6, .val (V.s (.int .i64 x6))), (7, .val (V.s (.int .i64 x7)))] []
theorem impl_areHashes.s0 (k : Nat) (G : List Fr → St → Option Res) (a0z : Bool) (a0 : List T) (yx5z : Bool) (yx5 : List T) (yx6 yx7 : Int) : resume Tryz.prog (impl_areHashes.Cs k) G (finish Tryz.prog [] Tryz.f90 [.v (.sl 28 a0z a0)]) 100000 impl_areHashes.K0 (impl_areHashes.N0 yx5z yx5 yx6 yx7) = impl_areHashes.l0b (fun r => some (impl_areHashes.enc r)) (fun x5z x5 x6 x7 => G impl_areHashes.K0 (impl_areHashes.N0 x5z x5 x6 x7)) k yx5z yx5 yx6 yx7 := by kernel_rfl
theorem impl_areHashes.bn {R R' : Type} (e : R → R') (ret : Bool → Option R) (j0 : Bool → (List T) → Int → Int → Option R) (k : Nat) (a0z : Bool) (a0 : List T) : impl_areHashes.b (fun r => (ret r).map e) (fun x5z x5 x6 x7 => (j0 x5z x5 x6 x7).map e) k a0z a0 = (impl_areHashes.b ret j0 k a0z a0).map e := by
  unfold impl_areHashes.b
  repeat' first | with_reducible refine nat_cond ?_ ?_ | with_reducible refine nat_bind fun _ => ?_ | rfl
theorem impl_areHashes.l0n {R R' : Type} (e : R → R') (ret : Bool → Option R) (j0 : Bool → (List T) → Int → Int → Option R) (k : Nat) (x5z : Bool) (x5 : List T) (x6 x7 : Int) : impl_areHashes.l0b (fun r => (ret r).map e) (fun x5z x5 x6 x7 => (j0 x5z x5 x6 x7).map e) k x5z x5 x6 x7 = (impl_areHashes.l0b ret j0 k x5z x5 x6 x7).map e := by
  unfold impl_areHashes.l0b
  repeat' first | with_reducible refine nat_cond ?_ ?_ | with_reducible refine nat_bind fun _ => ?_ | rfl
theorem impl_areHashes.rq (a0z : Bool) (a0 : List T) : ∀ k, (∀ (x5z : Bool) (x5 : List T) (x6 x7 : Int), rounds Tryz.prog impl_areHashes.Cs (finish Tryz.prog [] Tryz.f90 [.v (.sl 28 a0z a0)]) 100000 k impl_areHashes.K0 (impl_areHashes.N0 x5z x5 x6 x7) = (impl_areHashes.l0 k x5z x5 x6 x7).map impl_areHashes.enc)
  | 0 => fun _ _ _ _ => rfl
  | k + 1 => by
    have ih := impl_areHashes.rq a0z a0 k
    refine fun _ _ _ _ => ?_
    · refine (impl_areHashes.s0 k _ a0z a0 _ _ _ _).trans (Eq.trans ?_ (impl_areHashes.l0n impl_areHashes.enc some (impl_areHashes.l0 k) k _ _ _ _))
      simp only [ih, Option.map_some]
theorem impl_areHashes.eq (k : Nat) (a0z : Bool) (a0 : List T) : answer Tryz.prog impl_areHashes.Cs 100000 impl_areHashes.cuts [] Tryz.f90 (k + 1) [.v (.sl 28 a0z a0)] = (impl_areHashes.f (k + 1) a0z a0).map impl_areHashes.enc := by
  have ih := impl_areHashes.rq a0z a0 k
  refine Eq.trans (b := impl_areHashes.b (fun r => some (impl_areHashes.enc r)) (fun x5z x5 x6 x7 => rounds Tryz.prog impl_areHashes.Cs (finish Tryz.prog [] Tryz.f90 [.v (.sl 28 a0z a0)]) 100000 k impl_areHashes.K0 (impl_areHashes.N0 x5z x5 x6 x7)) k a0z a0) (by kernel_rfl) (Eq.trans ?_ (impl_areHashes.bn impl_areHashes.enc some (impl_areHashes.l0 k) k a0z a0))
  simp only [ih, Option.map_some]
theorem impl_areHashes.sound (k : Nat) : SoundF Tryz.prog 90 (fun a => (impl_areHashes.ans k a).val) := by
  refine sound_plain (fun args res h => ?_) (fun t n => rfl)
  unfold impl_areHashes.ans at h
  dsimp only at h
  split at h
  · cases k with
    | zero => cases h
    | succ k =>
      unfold Ans.val at h
      rw [← impl_areHashes.eq] at h
      exact answer_sound mixed Tryz.func90 _ _ _ (k + 1) (fun j _ => tab_sound (tab_nil)) _ _ h
  · exact (Ans.no_val h).elim

def impl_BitsSize.b {R : Type} (ret : Int → Option R) (k : Nat) (a0 : Int) : Option R :=
  cond (decide (a0 < 1)) (ret 0) (ret (RowKit.wrap64 ((RowKit.wrap64 (Int.tdiv (RowKit.wrap64 (a0 - 1)) 8)) + 1)))
def impl_BitsSize.f : Nat → Int → Option Int
  | 0, _ => none
  | k + 1, a0 => impl_BitsSize.b some k a0
def impl_BitsSize.enc (r : Int) : Res := ⟨[.vals false [((.int .i64 r), true)]], []⟩
def impl_BitsSize.ans (k : Nat) : List Arg → Ans
  | [.v (.int .i64 a0)] => ⟨impl_BitsSize.f k a0, impl_BitsSize.enc⟩
  | _ => Ans.no
def impl_BitsSize.Cs (k : Nat) : CallSem := tab []
theorem impl_BitsSize.eq (k : Nat) (a0 : Int) : answer Tryz.prog impl_BitsSize.Cs 100000 [] [] Tryz.f112 (k + 1) [.v (.int .i64 a0)] = (impl_BitsSize.f (k + 1) a0).map impl_BitsSize.enc := by
  refine Eq.trans (b := impl_BitsSize.b (fun r => some (impl_BitsSize.enc r)) k a0) (by kernel_rfl) ?_
  show _ = (impl_BitsSize.b some k a0).map impl_BitsSize.enc
  unfold impl_BitsSize.b
  repeat' first | with_reducible refine nat_cond ?_ ?_ | with_reducible refine nat_bind fun _ => ?_ | rfl
theorem impl_BitsSize.sound (k : Nat) : SoundF Tryz.prog 112 (fun a => (impl_BitsSize.ans k a).val) := by
  refine sound_plain (fun args res h => ?_) (fun t n => rfl)
  unfold impl_BitsSize.ans at h
  dsimp only at h
  split at h
  · cases k with
    | zero => cases h
    | succ k =>
      unfold Ans.val at h
      rw [← impl_BitsSize.eq] at h
      exact answer_sound mixed Tryz.func112 _ _ _ (k + 1) (fun j _ => tab_sound (tab_nil)) _ _ h
  · exact (Ans.no_val h).elim

def impl_BitsHas.b {R : Type} (ret : Bool → Option R) (k : Nat) (a0z : Bool) (a0 : List Int) (a1 : Int) : Option R :=
  (impl_within.f k a1 0 (RowKit.wrap64 ((RowKit.wrap64 ((8 : Int) * ((a0).length : Int))) - 1))).bind fun t0 => cond t0 (cond (decide ((0 : Int) ≤ (RowKit.wrap64 (Int.tdiv a1 8)))) (cond (decide ((RowKit.wrap64 (Int.tdiv a1 8)) < ((a0).length : Int))) (cond (decide ((0 : Int) ≤ (Int.tmod a1 8))) (ret (decide ((Go.bits .and .u8 (shrI .u8 (rdI a0 (RowKit.wrap64 (Int.tdiv a1 8))) (Int.tmod a1 8)) 1) = 1))) (none)) (none)) (none)) (ret false)
def impl_BitsHas.f : Nat → Bool → (List Int) → Int → Option Bool
  | 0, _, _, _ => none
  | k + 1, a0z, a0, a1 => impl_BitsHas.b some k a0z a0 a1
def impl_BitsHas.enc (r : Bool) : Res := ⟨[.vals false [((.bool r), true)]], []⟩
def impl_BitsHas.ans (k : Nat) : List Arg → Ans
  | [.v (.nums 5 .u8 a0z a0), .v (.int .i64 a1)] => ⟨impl_BitsHas.f k a0z a0 a1, impl_BitsHas.enc⟩
  | _ => Ans.no
def impl_BitsHas.Cs (k : Nat) : CallSem := tab [(56, impl_within.ans k)]
theorem impl_BitsHas.eq (k : Nat) (a0z : Bool) (a0 : List Int) (a1 : Int) : answer Tryz.prog impl_BitsHas.Cs 100000 [] [] Tryz.f120 (k + 1) [.v (.nums 5 .u8 a0z a0), .v (.int .i64 a1)] = (impl_BitsHas.f (k + 1) a0z a0 a1).map impl_BitsHas.enc := by
  refine Eq.trans (b := impl_BitsHas.b (fun r => some (impl_BitsHas.enc r)) k a0z a0 a1) (by kernel_rfl) ?_
  show _ = (impl_BitsHas.b some k a0z a0 a1).map impl_BitsHas.enc
  unfold impl_BitsHas.b
  repeat' first | with_reducible refine nat_cond ?_ ?_ | with_reducible refine nat_bind fun _ => ?_ | rfl
theorem impl_BitsHas.sound (k : Nat) : SoundF Tryz.prog 120 (fun a => (impl_BitsHas.ans k a).val) := by
  refine sound_plain (fun args res h => ?_) (fun t n => rfl)
  unfold impl_BitsHas.ans at h
  dsimp only at h
  split at h
  · cases k with
    | zero => cases h
    | succ k =>
      unfold Ans.val at h
      rw [← impl_BitsHas.eq] at h
      exact answer_sound mixed Tryz.func120 _ _ _ (k + 1) (fun j _ => tab_sound (tab_cons (impl_within.sound j) (tab_nil))) _ _ h
  · exact (Ans.no_val h).elim

def impl_BitsList.b {R : Type} (ret : Bool × List Int → Option R) (j0 : Bool → (List Int) → (List Int) → Int → Int → Option R) (k : Nat) (a0z : Bool) (a0 : List Int) : Option R :=
  j0 a0z a0 ([] : List Int) (RowKit.wrap64 ((8 : Int) * ((a0).length : Int))) 0
def impl_BitsList.l0b {R : Type} (ret : Bool × List Int → Option R) (j0 : Bool → (List Int) → (List Int) → Int → Int → Option R) (k : Nat) (x0z : Bool) (x0 x3 : List Int) (x8 x9 : Int) : Option R :=
  cond (decide (x9 < x8)) ((impl_BitsHas.f k x0z x0 x9).bind fun t0 => cond t0 (cond (decide ((x3).length + 1 < 17592186044416)) (j0 x0z x0 (x3 ++ ([x9] : List Int)) x8 (RowKit.wrap64 (x9 + 1))) (none)) (j0 x0z x0 x3 x8 (RowKit.wrap64 (x9 + 1)))) (ret (false, x3))
def impl_BitsList.l0 : Nat → Bool → (List Int) → (List Int) → Int → Int → Option (Bool × List Int)
  | 0, _, _, _, _, _ => none
  | k + 1, x0z, x0, x3, x8, x9 => impl_BitsList.l0b some (impl_BitsList.l0 k) k x0z x0 x3 x8 x9
def impl_BitsList.f : Nat → Bool → (List Int) → Option (Bool × List Int)
  | 0, _, _ => none
  | k + 1, a0z, a0 => impl_BitsList.b some (impl_BitsList.l0 k) k a0z a0
def impl_BitsList.enc (r : Bool × List Int) : Res := ⟨[.vals false [((.nums 3 .i64 r.1 r.2), true)]], []⟩
def impl_BitsList.ans (k : Nat) : List Arg → Ans
  | [.v (.nums 5 .u8 a0z a0)] => ⟨impl_BitsList.f k a0z a0, impl_BitsList.enc⟩
  | _ => Ans.no
def impl_BitsList.Cs (k : Nat) : CallSem := tab [(120, impl_BitsHas.ans k)]
def impl_BitsList.cuts : List (Nat × Keep) := [(58, ⟨[(0, some []), (3, none), (8, some []), (9, some [])], []⟩)]
noncomputable def impl_BitsList.K0 : List Fr := framesAt [true, true, false, true, false] (bodyOf Tryz.f98 impl_BitsList.cuts) []
def impl_BitsList.N0 (x0z : Bool) (x0 x3 : List Int) (x8 x9 : Int) : St := stOf 21 21 1 [(0, .val ⟨(.nums 5 .u8 x0z x0), [], false, none⟩), (3, .val ⟨(.nums 3 .i64 false x3), [.l 3 0], true, some (.l 3 0)⟩), (8, .val (V.s (.int .i64 x8))), (9, .val (V.s (.int .i64 x9)))] []
theorem impl_BitsList.s0 (k : Nat) (G : List Fr → St → Option Res) (a0z : Bool) (a0 : List Int) (yx0z : Bool) (yx0 yx3 : List Int) (yx8 yx9 : Int) : resume Tryz.prog (impl_BitsList.Cs k) G (finish Tryz.prog [] Tryz.f98 [.v (.nums 5 .u8 a0z a0)]) 100000 impl_BitsList.K0 (impl_BitsList.N0 yx0z yx0 yx3 yx8 yx9) = impl_BitsList.l0b (fun r => some (impl_BitsList.enc r)) (fun x0z x0 x3 x8 x9 => G impl_BitsList.K0 (impl_BitsList.N0 x0z x0 x3 x8 x9)) k yx0z yx0 yx3 yx8 yx9 := by kernel_rfl
theorem impl_BitsList.bn {R R' : Type} (e : R → R') (ret : Bool × List Int → Option R) (j0 : Bool → (List Int) → (List Int) → Int → Int → Option R) (k : Nat) (a0z : Bool) (a0 : List Int) : impl_BitsList.b (fun r => (ret r).map e) (fun x0z x0 x3 x8 x9 => (j0 x0z x0 x3 x8 x9).map e) k a0z a0 = (impl_BitsList.b ret j0 k a0z a0).map e := by
  unfold impl_BitsList.b
  repeat' first | with_reducible refine nat_cond ?_ ?_ | with_reducible refine nat_bind fun _ => ?_ | rfl
theorem impl_BitsList.l0n {R R' : Type} (e : R → R') (ret : Bool × List Int → Option R) (j0 : Bool → (List Int) → (List Int) → Int → Int → Option R) (k : Nat) (x0z : Bool) (x0 x3 : List Int) (x8 x9 : Int) : impl_BitsList.l0b (fun r => (ret r).map e) (fun x0z x0 x3 x8 x9 => (j0 x0z x0 x3 x8 x9).map e) k x0z x0 x3 x8 x9 = (impl_BitsList.l0b ret j0 k x0z x0 x3 x8 x9).map e := by
  unfold impl_BitsList.l0b
  repeat' first | with_reducible refine nat_cond ?_ ?_ | with_reducible refine nat_bind fun _ => ?_ | rfl
theorem impl_BitsList.rq (a0z : Bool) (a0 : List Int) : ∀ k, (∀ (x0z : Bool) (x0 x3 : List Int) (x8 x9 : Int), rounds Tryz.prog impl_BitsList.Cs (finish Tryz.prog [] Tryz.f98 [.v (.nums 5 .u8 a0z a0)]) 100000 k impl_BitsList.K0 (impl_BitsList.N0 x0z x0 x3 x8 x9) = (impl_BitsList.l0 k x0z x0 x3 x8 x9).map impl_BitsList.enc)
  | 0 => fun _ _ _ _ _ => rfl
  | k + 1 => by
    have ih := impl_BitsList.rq a0z a0 k
    refine fun _ _ _ _ _ => ?_
    · refine (impl_BitsList.s0 k _ a0z a0 _ _ _ _ _).trans (Eq.trans ?_ (impl_BitsList.l0n impl_BitsList.enc some (impl_BitsList.l0 k) k _ _ _ _ _))
      simp only [ih, Option.map_some]
theorem impl_BitsList.eq (k : Nat) (a0z : Bool) (a0 : List Int) : answer Tryz.prog impl_BitsList.Cs 100000 impl_BitsList.cuts [] Tryz.f98 (k + 1) [.v (.nums 5 .u8 a0z a0)] = (impl_BitsList.f (k + 1) a0z a0).map impl_BitsList.enc := by
  have ih := impl_BitsList.rq a0z a0 k
  refine Eq.trans (b := impl_BitsList.b (fun r => some (impl_BitsList.enc r)) (fun x0z x0 x3 x8 x9 => rounds Tryz.prog impl_BitsList.Cs (finish Tryz.prog [] Tryz.f98 [.v (.nums 5 .u8 a0z a0)]) 100000 k impl_BitsList.K0 (impl_BitsList.N0 x0z x0 x3 x8 x9)) k a0z a0) (by kernel_rfl) (Eq.trans ?_ (impl_BitsList.bn impl_BitsList.enc some (impl_BitsList.l0 k) k a0z a0))
  simp only [ih, Option.map_some]
theorem impl_BitsList.sound (k : Nat) : SoundF Tryz.prog 98 (fun a => (impl_BitsList.ans k a).val) := by
  refine sound_plain (fun args res h => ?_) (fun t n => rfl)
  unfold impl_BitsList.ans at h
  dsimp only at h
  split at h
  · cases k with
    | zero => cases h
    | succ k =>
      unfold Ans.val at h
      rw [← impl_BitsList.eq] at h
      exact answer_sound mixed Tryz.func98 _ _ _ (k + 1) (fun j _ => tab_sound (tab_cons (impl_BitsHas.sound j) (tab_nil))) _ _ h
  · exact (Ans.no_val h).elim

def impl_BitsOk.b {R : Type} (ret : Bool → Option R) (j0 : Int → Bool → (List Int) → Int → Int → Option R) (k : Nat) (a0z : Bool) (a0 : List Int) (a1 : Int) : Option R :=
  (impl_within.f k a1 1 10).bind fun t0 => cond (!t0) (ret false) ((impl_BitsSize.f k a1).bind fun t1 => cond (!(decide (((a0).length : Int) = t1))) (ret false) ((impl_BitsList.f k a0z a0).bind fun t2 => j0 a1 t2.1 t2.2 ((t2.2).length : Int) 0))
def impl_BitsOk.l0b {R : Type} (ret : Bool → Option R) (j0 : Int → Bool → (List Int) → Int → Int → Option R) (k : Nat) (x1 : Int) (x18z : Bool) (x18 : List Int) (x19 x20 : Int) : Option R :=
  cond (decide (x20 < x19)) (cond (decide ((0 : Int) ≤ x20)) (cond (decide (x20 < ((x18).length : Int))) (cond (decide ((rdI x18 x20) ≥ x1)) (ret false) (j0 x1 x18z x18 x19 (RowKit.wrap64 (x20 + 1)))) (none)) (none)) (ret true)
def impl_BitsOk.l0 : Nat → Int → Bool → (List Int) → Int → Int → Option Bool
  | 0, _, _, _, _, _ => none
  | k + 1, x1, x18z, x18, x19, x20 => impl_BitsOk.l0b some (impl_BitsOk.l0 k) k x1 x18z x18 x19 x20
def impl_BitsOk.f : Nat → Bool → (List Int) → Int → Option Bool
  | 0, _, _, _ => none
  | k + 1, a0z, a0, a1 => impl_BitsOk.b some (impl_BitsOk.l0 k) k a0z a0 a1
def impl_BitsOk.enc (r : Bool) : Res := ⟨[.vals false [((.bool r), true)]], []⟩
def impl_BitsOk.ans (k : Nat) : List Arg → Ans
  | [.v (.nums 5 .u8 a0z a0), .v (.int .i64 a1)] => ⟨impl_BitsOk.f k a0z a0 a1, impl_BitsOk.enc⟩
  | _ => Ans.no
def impl_BitsOk.Cs (k : Nat) : CallSem := tab [(56, impl_within.ans k), (112, impl_BitsSize.ans k), (98, impl_BitsList.ans k)]
def impl_BitsOk.cuts : List (Nat × Keep) := [(58, ⟨[(1, some []), (18, none), (19, some []), (20, some [])], []⟩)]
noncomputable def impl_BitsOk.K0 : List Fr := framesAt [true, true, false, true, false] (bodyOf Tryz.f91 impl_BitsOk.cuts) []
def impl_BitsOk.N0 (x1 : Int) (x18z : Bool) (x18 : List Int) (x19 x20 : Int) : St := stOf 28 28 2 [(1, .val (V.s (.int .i64 x1))), (18, .val ⟨(.nums 3 .i64 x18z x18), [.l 18 0], true, some (.l 18 0)⟩), (19, .val (V.s (.int .i64 x19))), (20, .val (V.s (.int .i64 x20)))] []
theorem impl_BitsOk.s0 (k : Nat) (G : List Fr → St → Option Res) (a0z : Bool) (a0 : List Int) (a1 yx1 : Int) (yx18z : Bool) (yx18 : List Int) (yx19 yx20 : Int) : resume Tryz.prog (impl_BitsOk.Cs k) G (finish Tryz.prog [] Tryz.f91 [.v (.nums 5 .u8 a0z a0), .v (.int .i64 a1)]) 100000 impl_BitsOk.K0 (impl_BitsOk.N0 yx1 yx18z yx18 yx19 yx20) = impl_BitsOk.l0b (fun r => some (impl_BitsOk.enc r)) (fun x1 x18z x18 x19 x20 => G impl_BitsOk.K0 (impl_BitsOk.N0 x1 x18z x18 x19 x20)) k yx1 yx18z yx18 yx19 yx20 := by kernel_rfl
theorem impl_BitsOk.bn {R R' : Type} (e : R → R') (ret : Bool → Option R) (j0 : Int → Bool → (List Int) → Int → Int → Option R) (k : Nat) (a0z : Bool) (a0 : List Int) (a1 : Int) : impl_BitsOk.b (fun r => (ret r).map e) (fun x1 x18z x18 x19 x20 => (j0 x1 x18z x18 x19 x20).map e) k a0z a0 a1 = (impl_BitsOk.b ret j0 k a0z a0 a1).map e := by
  unfold impl_BitsOk.b
  repeat' first | with_reducible refine nat_cond ?_ ?_ | with_reducible refine nat_bind fun _ => ?_ | rfl
theorem impl_BitsOk.l0n {R R' : Type} (e : R → R') (ret : Bool → Option R) (j0 : Int → Bool → (List Int) → Int → Int → Option R) (k : Nat) (x1 : Int) (x18z : Bool) (x18 : List Int) (x19 x20 : Int) : impl_BitsOk.l0b (fun r => (ret r).map e) (fun x1 x18z x18 x19 x20 => (j0 x1 x18z x18 x19 x20).map e) k x1 x18z x18 x19 x20 = (impl_BitsOk.l0b ret j0 k x1 x18z x18 x19 x20).map e := by
  unfold impl_BitsOk.l0b
  repeat' first | with_reducible refine nat_cond ?_ ?_ | with_reducible refine nat_bind fun _ => ?_ | rfl
theorem impl_BitsOk.rq (a0z : Bool) (a0 : List Int) (a1 : Int) : ∀ k, (∀ (x1 : Int) (x18z : Bool) (x18 : List Int) (x19 x20 : Int), rounds Tryz.prog impl_BitsOk.Cs (finish Tryz.prog [] Tryz.f91 [.v (.nums 5 .u8 a0z a0), .v (.int .i64 a1)]) 100000 k impl_BitsOk.K0 (impl_BitsOk.N0 x1 x18z x18 x19 x20) = (impl_BitsOk.l0 k x1 x18z x18 x19 x20).map impl_BitsOk.enc)
  | 0 => fun _ _ _ _ _ => rfl
  | k + 1 => by
    have ih := impl_BitsOk.rq a0z a0 a1 k
    refine fun _ _ _ _ _ => ?_
    · refine (impl_BitsOk.s0 k _ a0z a0 a1 _ _ _ _ _).trans (Eq.trans ?_ (impl_BitsOk.l0n impl_BitsOk.enc some (impl_BitsOk.l0 k) k _ _ _ _ _))
      simp only [ih, Option.map_some]
theorem impl_BitsOk.eq (k : Nat) (a0z : Bool) (a0 : List Int) (a1 : Int) : answer Tryz.prog impl_BitsOk.Cs 100000 impl_BitsOk.cuts [] Tryz.f91 (k + 1) [.v (.nums 5 .u8 a0z a0), .v (.int .i64 a1)] = (impl_BitsOk.f (k + 1) a0z a0 a1).map impl_BitsOk.enc := by
  have ih := impl_BitsOk.rq a0z a0 a1 k
  refine Eq.trans (b := impl_BitsOk.b (fun r => some (impl_BitsOk.enc r)) (fun x1 x18z x18 x19 x20 => rounds Tryz.prog impl_BitsOk.Cs (finish Tryz.prog [] Tryz.f91 [.v (.nums 5 .u8 a0z a0), .v (.int .i64 a1)]) 100000 k impl_BitsOk.K0 (impl_BitsOk.N0 x1 x18z x18 x19 x20)) k a0z a0 a1) (by kernel_rfl) (Eq.trans ?_ (impl_BitsOk.bn impl_BitsOk.enc some (impl_BitsOk.l0 k) k a0z a0 a1))
  simp only [ih, Option.map_some]
theorem impl_BitsOk.sound (k : Nat) : SoundF Tryz.prog 91 (fun a => (impl_BitsOk.ans k a).val) := by
  refine sound_plain (fun args res h => ?_) (fun t n => rfl)
  unfold impl_BitsOk.ans at h
  dsimp only at h
  split at h
  · cases k with
    | zero => cases h
    | succ k =>
      unfold Ans.val at h
      rw [← impl_BitsOk.eq] at h
      exact answer_sound mixed Tryz.func91 _ _ _ (k + 1) (fun j _ => tab_sound (tab_cons (impl_within.sound j) (tab_cons (impl_BitsSize.sound j) (tab_cons (impl_BitsList.sound j) (tab_nil))))) _ _ h
  · exact (Ans.no_val h).elim

def bits_OnesCount8.b {R : Type} (ret : Int → Option R) (k : Nat) (a0 : Int) : Option R :=
  cond (decide ((0 : Int) ≤ a0)) (cond (decide (a0 < (((⟨#[0, 1, 1, 2, 1, 2, 2, 3, 1, 2, 2, 3, 2, 3, 3, 4, 1, 2, 2, 3, 2, 3, 3, 4, 2, 3, 3, 4, 3, 4, 4, 5, 1, 2, 2, 3, 2, 3, 3, 4, 2, 3, 3, 4, 3, 4, 4, 5, 2, 3, 3, 4, 3, 4, 4, 5, 3, 4, 4, 5, 4, 5, 5, 6, 1, 2, 2, 3, 2, 3, 3, 4, 2, 3, 3, 4, 3, 4, 4, 5, 2, 3, 3, 4, 3, 4, 4, 5, 3, 4, 4, 5, 4, 5, 5, 6, 2, 3, 3, 4, 3, 4, 4, 5, 3, 4, 4, 5, 4, 5, 5, 6, 3, 4, 4, 5, 4, 5, 5, 6, 4, 5, 5, 6, 5, 6, 6, 7, 1, 2, 2, 3, 2, 3, 3, 4, 2, 3, 3, 4, 3, 4, 4, 5, 2, 3, 3, 4, 3, 4, 4, 5, 3, 4, 4, 5, 4, 5, 5, 6, 2, 3, 3, 4, 3, 4, 4, 5, 3, 4, 4, 5, 4, 5, 5, 6, 3, 4, 4, 5, 4, 5, 5, 6, 4, 5, 5, 6, 5, 6, 6, 7, 2, 3, 3, 4, 3, 4, 4, 5, 3, 4, 4, 5, 4, 5, 5, 6, 3, 4, 4, 5, 4, 5, 5, 6, 4, 5, 5, 6, 5, 6, 6, 7, 3, 4, 4, 5, 4, 5, 5, 6, 4, 5, 5, 6, 5, 6, 6, 7, 4, 5, 5, 6, 5, 6, 6, 7, 5, 6, 6, 7, 6, 7, 7, 8]⟩ : ByteArray)).size : Int))) (ret (RowKit.wrap64 ((btI (⟨#[0, 1, 1, 2, 1, 2, 2, 3, 1, 2, 2, 3, 2, 3, 3, 4, 1, 2, 2, 3, 2, 3, 3, 4, 2, 3, 3, 4, 3, 4, 4, 5, 1, 2, 2, 3, 2, 3, 3, 4, 2, 3, 3, 4, 3, 4, 4, 5, 2, 3, 3, 4, 3, 4, 4, 5, 3, 4, 4, 5, 4, 5, 5, 6, 1, 2, 2, 3, 2, 3, 3, 4, 2, 3, 3, 4, 3, 4, 4, 5, 2, 3, 3, 4, 3, 4, 4, 5, 3, 4, 4, 5, 4, 5, 5, 6, 2, 3, 3, 4, 3, 4, 4, 5, 3, 4, 4, 5, 4, 5, 5, 6, 3, 4, 4, 5, 4, 5, 5, 6, 4, 5, 5, 6, 5, 6, 6, 7, 1, 2, 2, 3, 2, 3, 3, 4, 2, 3, 3, 4, 3, 4, 4, 5, 2, 3, 3, 4, 3, 4, 4, 5, 3, 4, 4, 5, 4, 5, 5, 6, 2, 3, 3, 4, 3, 4, 4, 5, 3, 4, 4, 5, 4, 5, 5, 6, 3, 4, 4, 5, 4, 5, 5, 6, 4, 5, 5, 6, 5, 6, 6, 7, 2, 3, 3, 4, 3, 4, 4, 5, 3, 4, 4, 5, 4, 5, 5, 6, 3, 4, 4, 5, 4, 5, 5, 6, 4, 5, 5, 6, 5, 6, 6, 7, 3, 4, 4, 5, 4, 5, 5, 6, 4, 5, 5, 6, 5, 6, 6, 7, 4, 5, 5, 6, 5, 6, 6, 7, 5, 6, 6, 7, 6, 7, 7, 8]⟩ : ByteArray) a0)))) (none)) (none)
def bits_OnesCount8.f : Nat → Int → Option Int
  | 0, _ => none
  | k + 1, a0 => bits_OnesCount8.b some k a0
def bits_OnesCount8.enc (r : Int) : Res := ⟨[.vals false [((.int .i64 r), true)]], []⟩
def bits_OnesCount8.ans (k : Nat) : List Arg → Ans
  | [.v (.int .u8 a0)] => ⟨bits_OnesCount8.f k a0, bits_OnesCount8.enc⟩
  | _ => Ans.no
def bits_OnesCount8.Cs (k : Nat) : CallSem := tab []
theorem bits_OnesCount8.eq (k : Nat) (a0 : Int) : answer Tryz.prog bits_OnesCount8.Cs 100000 [] [] Tryz.f113 (k + 1) [.v (.int .u8 a0)] = (bits_OnesCount8.f (k + 1) a0).map bits_OnesCount8.enc := by
  refine Eq.trans (b := bits_OnesCount8.b (fun r => some (bits_OnesCount8.enc r)) k a0) (by kernel_rfl) ?_
  show _ = (bits_OnesCount8.b some k a0).map bits_OnesCount8.enc
  unfold bits_OnesCount8.b
  repeat' first | with_reducible refine nat_cond ?_ ?_ | with_reducible refine nat_bind fun _ => ?_ | rfl
theorem bits_OnesCount8.sound (k : Nat) : SoundF Tryz.prog 113 (fun a => (bits_OnesCount8.ans k a).val) := by
  refine sound_plain (fun args res h => ?_) (fun t n => rfl)
  unfold bits_OnesCount8.ans at h
  dsimp only at h
  split at h
  · cases k with
    | zero => cases h
    | succ k =>
      unfold Ans.val at h
      rw [← bits_OnesCount8.eq] at h
      exact answer_sound mixed Tryz.func113 _ _ _ (k + 1) (fun j _ => tab_sound (tab_nil)) _ _ h
  · exact (Ans.no_val h).elim

def impl_BitsCount.b {R : Type} (ret : Int → Option R) (j0 : Int → Bool → (List Int) → Int → Int → Option R) (k : Nat) (a0z : Bool) (a0 : List Int) : Option R :=
  j0 0 a0z a0 ((a0).length : Int) 0
def impl_BitsCount.l0b {R : Type} (ret : Int → Option R) (j0 : Int → Bool → (List Int) → Int → Int → Option R) (k : Nat) (x3 : Int) (x6z : Bool) (x6 : List Int) (x7 x8 : Int) : Option R :=
  cond (decide (x8 < x7)) (cond (decide ((0 : Int) ≤ x8)) (cond (decide (x8 < ((x6).length : Int))) ((bits_OnesCount8.f k (rdI x6 x8)).bind fun t0 => j0 (RowKit.wrap64 (x3 + t0)) x6z x6 x7 (RowKit.wrap64 (x8 + 1))) (none)) (none)) (ret x3)
def impl_BitsCount.l0 : Nat → Int → Bool → (List Int) → Int → Int → Option Int
  | 0, _, _, _, _, _ => none
  | k + 1, x3, x6z, x6, x7, x8 => impl_BitsCount.l0b some (impl_BitsCount.l0 k) k x3 x6z x6 x7 x8
def impl_BitsCount.f : Nat → Bool → (List Int) → Option Int
  | 0, _, _ => none
  | k + 1, a0z, a0 => impl_BitsCount.b some (impl_BitsCount.l0 k) k a0z a0
def impl_BitsCount.enc (r : Int) : Res := ⟨[.vals false [((.int .i64 r), true)]], []⟩
def impl_BitsCount.ans (k : Nat) : List Arg → Ans
  | [.v (.nums 5 .u8 a0z a0)] => ⟨impl_BitsCount.f k a0z a0, impl_BitsCount.enc⟩
  | _ => Ans.no
def impl_BitsCount.Cs (k : Nat) : CallSem := tab [(113, bits_OnesCount8.ans k)]
def impl_BitsCount.cuts : List (Nat × Keep) := [(58, ⟨[(3, some []), (6, some []), (7, some []), (8, some [])], []⟩)]
noncomputable def impl_BitsCount.K0 : List Fr := framesAt [true, true, false, true, false] (bodyOf Tryz.f92 impl_BitsCount.cuts) []
def impl_BitsCount.N0 (x3 : Int) (x6z : Bool) (x6 : List Int) (x7 x8 : Int) : St := stOf 18 18 1 [(3, .val (V.s (.int .i64 x3))), (6, .val ⟨(.nums 5 .u8 x6z x6), [], false, none⟩), (7, .val (V.s (.int .i64 x7))), (8, .val (V.s (.int .i64 x8)))] []
theorem impl_BitsCount.s0 (k : Nat) (G : List Fr → St → Option Res) (a0z : Bool) (a0 : List Int) (yx3 : Int) (yx6z : Bool) (yx6 : List Int) (yx7 yx8 : Int) : resume Tryz.prog (impl_BitsCount.Cs k) G (finish Tryz.prog [] Tryz.f92 [.v (.nums 5 .u8 a0z a0)]) 100000 impl_BitsCount.K0 (impl_BitsCount.N0 yx3 yx6z yx6 yx7 yx8) = impl_BitsCount.l0b (fun r => some (impl_BitsCount.enc r)) (fun x3 x6z x6 x7 x8 => G impl_BitsCount.K0 (impl_BitsCount.N0 x3 x6z x6 x7 x8)) k yx3 yx6z yx6 yx7 yx8 := by kernel_rfl
theorem impl_BitsCount.bn {R R' : Type} (e : R → R') (ret : Int → Option R) (j0 : Int → Bool → (List Int) → Int → Int → Option R) (k : Nat) (a0z : Bool) (a0 : List Int) : impl_BitsCount.b (fun r => (ret r).map e) (fun x3 x6z x6 x7 x8 => (j0 x3 x6z x6 x7 x8).map e) k a0z a0 = (impl_BitsCount.b ret j0 k a0z a0).map e := by
  unfold impl_BitsCount.b
  repeat' first | with_reducible refine nat_cond ?_ ?_ | with_reducible refine nat_bind fun _ => ?_ | rfl
theorem impl_BitsCount.l0n {R R' : Type} (e : R → R') (ret : Int → Option R) (j0 : Int → Bool → (List Int) → Int → Int → Option R) (k : Nat) (x3 : Int) (x6z : Bool) (x6 : List Int) (x7 x8 : Int) : impl_BitsCount.l0b (fun r => (ret r).map e) (fun x3 x6z x6 x7 x8 => (j0 x3 x6z x6 x7 x8).map e) k x3 x6z x6 x7 x8 = (impl_BitsCount.l0b ret j0 k x3 x6z x6 x7 x8).map e := by
  unfold impl_BitsCount.l0b
  repeat' first | with_reducible refine nat_cond ?_ ?_ | with_reducible refine nat_bind fun _ => ?_ | rfl
theorem impl_BitsCount.rq (a0z : Bool) (a0 : List Int) : ∀ k, (∀ (x3 : Int) (x6z : Bool) (x6 : List Int) (x7 x8 : Int), rounds Tryz.prog impl_BitsCount.Cs (finish Tryz.prog [] Tryz.f92 [.v (.nums 5 .u8 a0z a0)]) 100000 k impl_BitsCount.K0 (impl_BitsCount.N0 x3 x6z x6 x7 x8) = (impl_BitsCount.l0 k x3 x6z x6 x7 x8).map impl_BitsCount.enc)
  | 0 => fun _ _ _ _ _ => rfl
  | k + 1 => by
    have ih := impl_BitsCount.rq a0z a0 k
    refine fun _ _ _ _ _ => ?_
    · refine (impl_BitsCount.s0 k _ a0z a0 _ _ _ _ _).trans (Eq.trans ?_ (impl_BitsCount.l0n impl_BitsCount.enc some (impl_BitsCount.l0 k) k _ _ _ _ _))
      simp only [ih, Option.map_some]
theorem impl_BitsCount.eq (k : Nat) (a0z : Bool) (a0 : List Int) : answer Tryz.prog impl_BitsCount.Cs 100000 impl_BitsCount.cuts [] Tryz.f92 (k + 1) [.v (.nums 5 .u8 a0z a0)] = (impl_BitsCount.f (k + 1) a0z a0).map impl_BitsCount.enc := by
  have ih := impl_BitsCount.rq a0z a0 k
  refine Eq.trans (b := impl_BitsCount.b (fun r => some (impl_BitsCount.enc r)) (fun x3 x6z x6 x7 x8 => rounds Tryz.prog impl_BitsCount.Cs (finish Tryz.prog [] Tryz.f92 [.v (.nums 5 .u8 a0z a0)]) 100000 k impl_BitsCount.K0 (impl_BitsCount.N0 x3 x6z x6 x7 x8)) k a0z a0) (by kernel_rfl) (Eq.trans ?_ (impl_BitsCount.bn impl_BitsCount.enc some (impl_BitsCount.l0 k) k a0z a0))
  simp only [ih, Option.map_some]
theorem impl_BitsCount.sound (k : Nat) : SoundF Tryz.prog 92 (fun a => (impl_BitsCount.ans k a).val) := by
  refine sound_plain (fun args res h => ?_) (fun t n => rfl)
  unfold impl_BitsCount.ans at h
  dsimp only at h
  split at h
  · cases k with
    | zero => cases h
    | succ k =>
      unfold Ans.val at h
      rw [← impl_BitsCount.eq] at h
      exact answer_sound mixed Tryz.func92 _ _ _ (k + 1) (fun j _ => tab_sound (tab_cons (bits_OnesCount8.sound j) (tab_nil))) _ _ h
  · exact (Ans.no_val h).elim

def impl_QcOk.b {R : Type} (ret : Bool → Option R) (k : Nat) (a0_0 a0_1 : Int) (a0_2 a0_3 : Int) (a0_4 a1_0 a1_1 : Int) (a1_2z : Bool) (a1_2 : List Int) (a1_3z : Bool) (a1_3 : List Int) (a1_4z : Bool) (a1_4 : List T) : Option R :=
  (impl_LimitsOk.f k a0_0 a0_1 a0_2 a0_3 a0_4).bind fun t0 => cond t0 ((impl_isNum.f k a1_0).bind fun t1 => cond t1 ((impl_isNum.f k a1_1).bind fun t2 => cond t2 ((impl_areHashes.f k false ([(.nums 5 .u8 a1_2z a1_2)] : List T)).bind fun t3 => cond t3 ((impl_BitsOk.f k a1_3z a1_3 a0_0).bind fun t4 => cond t4 ((impl_BitsCount.f k a1_3z a1_3).bind fun t5 => cond (decide (((a1_4).length : Int) = t5)) ((impl_areHashes.f k a1_4z a1_4).bind fun t6 => ret t6) (ret false)) (ret false)) (ret false)) (ret false)) (ret false)) (ret false)
def impl_QcOk.f : Nat → Int → Int → Int → Int → Int → Int → Int → Bool → (List Int) → Bool → (List Int) → Bool → (List T) → Option Bool
  | 0, _, _, _, _, _, _, _, _, _, _, _, _, _ => none
  | k + 1, a0_0, a0_1, a0_2, a0_3, a0_4, a1_0, a1_1, a1_2z, a1_2, a1_3z, a1_3, a1_4z, a1_4 => impl_QcOk.b some k a0_0 a0_1 a0_2 a0_3 a0_4 a1_0 a1_1 a1_2z a1_2 a1_3z a1_3 a1_4z a1_4
def impl_QcOk.enc (r : Bool) : Res := ⟨[.vals false [((.bool r), true)]], []⟩
def impl_QcOk.ans (k : Nat) : List Arg → Ans
  | [.v (.agg [(.int .i64 a0_0), (.int .i64 a0_1), (.int .i64 a0_2), (.int .i64 a0_3), (.int .i64 a0_4)]), .v (.agg [(.int .i64 a1_0), (.int .i64 a1_1), (.nums 5 .u8 a1_2z a1_2), (.nums 5 .u8 a1_3z a1_3), (.sl 28 a1_4z a1_4)])] => ⟨impl_QcOk.f k a0_0 a0_1 a0_2 a0_3 a0_4 a1_0 a1_1 a1_2z a1_2 a1_3z a1_3 a1_4z a1_4, impl_QcOk.enc⟩
  | _ => Ans.no
def impl_QcOk.Cs (k : Nat) : CallSem := tab [(54, impl_LimitsOk.ans k), (89, impl_isNum.ans k), (90, impl_areHashes.ans k), (91, impl_BitsOk.ans k), (92, impl_BitsCount.ans k)]
theorem impl_QcOk.eq (k : Nat) (a0_0 a0_1 : Int) (a0_2 a0_3 : Int) (a0_4 a1_0 a1_1 : Int) (a1_2z : Bool) (a1_2 : List Int) (a1_3z : Bool) (a1_3 : List Int) (a1_4z : Bool) (a1_4 : List T) : answer Tryz.prog impl_QcOk.Cs 100000 [] [] Tryz.f58 (k + 1) [.v (.agg [(.int .i64 a0_0), (.int .i64 a0_1), (.int .i64 a0_2), (.int .i64 a0_3), (.int .i64 a0_4)]), .v (.agg [(.int .i64 a1_0), (.int .i64 a1_1), (.nums 5 .u8 a1_2z a1_2), (.nums 5 .u8 a1_3z a1_3), (.sl 28 a1_4z a1_4)])] = (impl_QcOk.f (k + 1) a0_0 a0_1 a0_2 a0_3 a0_4 a1_0 a1_1 a1_2z a1_2 a1_3z a1_3 a1_4z a1_4).map impl_QcOk.enc := by
  refine Eq.trans (b := impl_QcOk.b (fun r => some (impl_QcOk.enc r)) k a0_0 a0_1 a0_2 a0_3 a0_4 a1_0 a1_1 a1_2z a1_2 a1_3z a1_3 a1_4z a1_4) (by kernel_rfl) ?_
  show _ = (impl_QcOk.b some k a0_0 a0_1 a0_2 a0_3 a0_4 a1_0 a1_1 a1_2z a1_2 a1_3z a1_3 a1_4z a1_4).map impl_QcOk.enc
  unfold impl_QcOk.b
  repeat' first | with_reducible refine nat_cond ?_ ?_ | with_reducible refine nat_bind fun _ => ?_ | rfl
theorem impl_QcOk.sound (k : Nat) : SoundF Tryz.prog 58 (fun a => (impl_QcOk.ans k a).val) := by
  refine sound_plain (fun args res h => ?_) (fun t n => rfl)
  unfold impl_QcOk.ans at h
  dsimp only at h
  split at h
  · cases k with
    | zero => cases h
    | succ k =>
      unfold Ans.val at h
      rw [← impl_QcOk.eq] at h
      exact answer_sound mixed Tryz.func58 _ _ _ (k + 1) (fun j _ => tab_sound (tab_cons (impl_LimitsOk.sound j) (tab_cons (impl_isNum.sound j) (tab_cons (impl_areHashes.sound j) (tab_cons (impl_BitsOk.sound j) (tab_cons (impl_BitsCount.sound j) (tab_nil))))))) _ _ h
  · exact (Ans.no_val h).elim

def impl_SameBytes.b {R : Type} (ret : Bool → Option R) (k : Nat) (a0z : Bool) (a0 : List Int) (a1z : Bool) (a1 : List Int) : Option R :=
  ret (decide ((strOf a0) = (strOf a1)))
def impl_SameBytes.f : Nat → Bool → (List Int) → Bool → (List Int) → Option Bool
  | 0, _, _, _, _ => none
  | k + 1, a0z, a0, a1z, a1 => impl_SameBytes.b some k a0z a0 a1z a1
def impl_SameBytes.enc (r : Bool) : Res := ⟨[.vals false [((.bool r), true)]], []⟩
def impl_SameBytes.ans (k : Nat) : List Arg → Ans
  | [.v (.nums 5 .u8 a0z a0), .v (.nums 5 .u8 a1z a1)] => ⟨impl_SameBytes.f k a0z a0 a1z a1, impl_SameBytes.enc⟩
  | _ => Ans.no
def impl_SameBytes.Cs (k : Nat) : CallSem := tab []
theorem impl_SameBytes.eq (k : Nat) (a0z : Bool) (a0 : List Int) (a1z : Bool) (a1 : List Int) : answer Tryz.prog impl_SameBytes.Cs 100000 [] [] Tryz.f28 (k + 1) [.v (.nums 5 .u8 a0z a0), .v (.nums 5 .u8 a1z a1)] = (impl_SameBytes.f (k + 1) a0z a0 a1z a1).map impl_SameBytes.enc := by
  refine Eq.trans (b := impl_SameBytes.b (fun r => some (impl_SameBytes.enc r)) k a0z a0 a1z a1) (by kernel_rfl) ?_
  show _ = (impl_SameBytes.b some k a0z a0 a1z a1).map impl_SameBytes.enc
  unfold impl_SameBytes.b
  repeat' first | with_reducible refine nat_cond ?_ ?_ | with_reducible refine nat_bind fun _ => ?_ | rfl
theorem impl_SameBytes.sound (k : Nat) : SoundF Tryz.prog 28 (fun a => (impl_SameBytes.ans k a).val) := by
  refine sound_plain (fun args res h => ?_) (fun t n => rfl)
  unfold impl_SameBytes.ans at h
  dsimp only at h
  split at h
  · cases k with
    | zero => cases h
    | succ k =>
      unfold Ans.val at h
      rw [← impl_SameBytes.eq] at h
      exact answer_sound mixed Tryz.func28 _ _ _ (k + 1) (fun j _ => tab_sound (tab_nil)) _ _ h
  · exact (Ans.no_val h).elim

def impl_Head_matches.b {R : Type} (ret : Bool → Option R) (k : Nat) (a0_0 a0_1 a0_2 : Int) (a0_3z : Bool) (a0_3 : List Int) (a0_4z : Bool) (a0_4 : List Int) (a0_5 a0_6 : Int) (a0_7z : Bool) (a0_7 : List Int) (a0_8z : Bool) (a0_8 : List Int) (a0_9z : Bool) (a0_9 : List T) : Option R :=
  cond (decide (a0_5 < a0_0)) (cond (decide (a0_6 = (RowKit.wrap64 (a0_1 - 1)))) ((impl_SameBytes.f k a0_7z a0_7 a0_3z a0_3).bind fun t0 => ret t0) (ret false)) (ret false)
def impl_Head_matches.f : Nat → Int → Int → Int → Bool → (List Int) → Bool → (List Int) → Int → Int → Bool → (List Int) → Bool → (List Int) → Bool → (List T) → Option Bool
  | 0, _, _, _, _, _, _, _, _, _, _, _, _, _, _, _ => none
  | k + 1, a0_0, a0_1, a0_2, a0_3z, a0_3, a0_4z, a0_4, a0_5, a0_6, a0_7z, a0_7, a0_8z, a0_8, a0_9z, a0_9 => impl_Head_matches.b some k a0_0 a0_1 a0_2 a0_3z a0_3 a0_4z a0_4 a0_5 a0_6 a0_7z a0_7 a0_8z a0_8 a0_9z a0_9
def impl_Head_matches.enc (r : Bool) : Res := ⟨[.vals false [((.bool r), true)]], []⟩
def impl_Head_matches.ans (k : Nat) : List Arg → Ans
  | [.v (.agg [(.int .i64 a0_0), (.int .i64 a0_1), (.int .i64 a0_2), (.nums 5 .u8 a0_3z a0_3), (.nums 5 .u8 a0_4z a0_4), (.int .i64 a0_5), (.int .i64 a0_6), (.nums 5 .u8 a0_7z a0_7), (.nums 5 .u8 a0_8z a0_8), (.sl 28 a0_9z a0_9)])] => ⟨impl_Head_matches.f k a0_0 a0_1 a0_2 a0_3z a0_3 a0_4z a0_4 a0_5 a0_6 a0_7z a0_7 a0_8z a0_8 a0_9z a0_9, impl_Head_matches.enc⟩
  | _ => Ans.no
def impl_Head_matches.Cs (k : Nat) : CallSem := tab [(28, impl_SameBytes.ans k)]
theorem impl_Head_matches.eq (k : Nat) (a0_0 a0_1 a0_2 : Int) (a0_3z : Bool) (a0_3 : List Int) (a0_4z : Bool) (a0_4 : List Int) (a0_5 a0_6 : Int) (a0_7z : Bool) (a0_7 : List Int) (a0_8z : Bool) (a0_8 : List Int) (a0_9z : Bool) (a0_9 : List T) : answer Tryz.prog impl_Head_matches.Cs 100000 [] [] Tryz.f111 (k + 1) [.v (.agg [(.int .i64 a0_0), (.int .i64 a0_1), (.int .i64 a0_2), (.nums 5 .u8 a0_3z a0_3), (.nums 5 .u8 a0_4z a0_4), (.int .i64 a0_5), (.int .i64 a0_6), (.nums 5 .u8 a0_7z a0_7), (.nums 5 .u8 a0_8z a0_8), (.sl 28 a0_9z a0_9)])] = (impl_Head_matches.f (k + 1) a0_0 a0_1 a0_2 a0_3z a0_3 a0_4z a0_4 a0_5 a0_6 a0_7z a0_7 a0_8z a0_8 a0_9z a0_9).map impl_Head_matches.enc := by
  refine Eq.trans (b := impl_Head_matches.b (fun r => some (impl_Head_matches.enc r)) k a0_0 a0_1 a0_2 a0_3z a0_3 a0_4z a0_4 a0_5 a0_6 a0_7z a0_7 a0_8z a0_8 a0_9z a0_9) (by kernel_rfl) ?_
  show _ = (impl_Head_matches.b some k a0_0 a0_1 a0_2 a0_3z a0_3 a0_4z a0_4 a0_5 a0_6 a0_7z a0_7 a0_8z a0_8 a0_9z a0_9).map impl_Head_matches.enc
  unfold impl_Head_matches.b
  repeat' first | with_reducible refine nat_cond ?_ ?_ | with_reducible refine nat_bind fun _ => ?_ | rfl
theorem impl_Head_matches.sound (k : Nat) : SoundF Tryz.prog 111 (fun a => (impl_Head_matches.ans k a).val) := by
  refine sound_plain (fun args res h => ?_) (fun t n => rfl)
  unfold impl_Head_matches.ans at h
  dsimp only at h
  split at h
  · cases k with
    | zero => cases h
    | succ k =>
      unfold Ans.val at h
      rw [← impl_Head_matches.eq] at h
      exact answer_sound mixed Tryz.func111 _ _ _ (k + 1) (fun j _ => tab_sound (tab_cons (impl_SameBytes.sound j) (tab_nil))) _ _ h
  · exact (Ans.no_val h).elim

def impl_HeadOk.b {R : Type} (ret : Bool → Option R) (k : Nat) (a0_0 a0_1 : Int) (a0_2 a0_3 : Int) (a0_4 a1_0 : Int) (a1_1 a1_2 : Int) (a1_3z : Bool) (a1_3 : List Int) (a1_4z : Bool) (a1_4 : List Int) (a1_5 a1_6 : Int) (a1_7z : Bool) (a1_7 : List Int) (a1_8z : Bool) (a1_8 : List Int) (a1_9z : Bool) (a1_9 : List T) : Option R :=
  (impl_QcOk.f k a0_0 a0_1 a0_2 a0_3 a0_4 a1_5 a1_6 a1_7z a1_7 a1_8z a1_8 a1_9z a1_9).bind fun t0 => cond t0 ((impl_isNum.f k a1_0).bind fun t1 => cond t1 ((impl_within.f k a1_1 1 1152921504606846975).bind fun t2 => cond t2 ((impl_within.f k a1_2 0 (RowKit.wrap64 (a0_0 - 1))).bind fun t3 => cond t3 ((impl_areHashes.f k false ([(.nums 5 .u8 a1_3z a1_3), (.nums 5 .u8 a1_4z a1_4)] : List T)).bind fun t4 => cond t4 ((impl_Head_matches.f k a1_0 a1_1 a1_2 a1_3z a1_3 a1_4z a1_4 a1_5 a1_6 a1_7z a1_7 a1_8z a1_8 a1_9z a1_9).bind fun t5 => ret t5) (ret false)) (ret false)) (ret false)) (ret false)) (ret false)
def impl_HeadOk.f : Nat → Int → Int → Int → Int → Int → Int → Int → Int → Bool → (List Int) → Bool → (List Int) → Int → Int → Bool → (List Int) → Bool → (List Int) → Bool → (List T) → Option Bool
  | 0, _, _, _, _, _, _, _, _, _, _, _, _, _, _, _, _, _, _, _, _ => none
  | k + 1, a0_0, a0_1, a0_2, a0_3, a0_4, a1_0, a1_1, a1_2, a1_3z, a1_3, a1_4z, a1_4, a1_5, a1_6, a1_7z, a1_7, a1_8z, a1_8, a1_9z, a1_9 => impl_HeadOk.b some k a0_0 a0_1 a0_2 a0_3 a0_4 a1_0 a1_1 a1_2 a1_3z a1_3 a1_4z a1_4 a1_5 a1_6 a1_7z a1_7 a1_8z a1_8 a1_9z a1_9
def impl_HeadOk.enc (r : Bool) : Res := ⟨[.vals false [((.bool r), true)]], []⟩
def impl_HeadOk.ans (k : Nat) : List Arg → Ans
  | [.v (.agg [(.int .i64 a0_0), (.int .i64 a0_1), (.int .i64 a0_2), (.int .i64 a0_3), (.int .i64 a0_4)]), .v (.agg [(.int .i64 a1_0), (.int .i64 a1_1), (.int .i64 a1_2), (.nums 5 .u8 a1_3z a1_3), (.nums 5 .u8 a1_4z a1_4), (.int .i64 a1_5), (.int .i64 a1_6), (.nums 5 .u8 a1_7z a1_7), (.nums 5 .u8 a1_8z a1_8), (.sl 28 a1_9z a1_9)])] => ⟨impl_HeadOk.f k a0_0 a0_1 a0_2 a0_3 a0_4 a1_0 a1_1 a1_2 a1_3z a1_3 a1_4z a1_4 a1_5 a1_6 a1_7z a1_7 a1_8z a1_8 a1_9z a1_9, impl_HeadOk.enc⟩
  | _ => Ans.no
def impl_HeadOk.Cs (k : Nat) : CallSem := tab [(56, impl_within.ans k), (58, impl_QcOk.ans k), (89, impl_isNum.ans k), (90, impl_areHashes.ans k), (111, impl_Head_matches.ans k)]
theorem impl_HeadOk.eq (k : Nat) (a0_0 a0_1 : Int) (a0_2 a0_3 : Int) (a0_4 a1_0 : Int) (a1_1 a1_2 : Int) (a1_3z : Bool) (a1_3 : List Int) (a1_4z : Bool) (a1_4 : List Int) (a1_5 a1_6 : Int) (a1_7z : Bool) (a1_7 : List Int) (a1_8z : Bool) (a1_8 : List Int) (a1_9z : Bool) (a1_9 : List T) : answer Tryz.prog impl_HeadOk.Cs 100000 [] [] Tryz.f88 (k + 1) [.v (.agg [(.int .i64 a0_0), (.int .i64 a0_1), (.int .i64 a0_2), (.int .i64 a0_3), (.int .i64 a0_4)]), .v (.agg [(.int .i64 a1_0), (.int .i64 a1_1), (.int .i64 a1_2), (.nums 5 .u8 a1_3z a1_3), (.nums 5 .u8 a1_4z a1_4), (.int .i64 a1_5), (.int .i64 a1_6), (.nums 5 .u8 a1_7z a1_7), (.nums 5 .u8 a1_8z a1_8), (.sl 28 a1_9z a1_9)])] = (impl_HeadOk.f (k + 1) a0_0 a0_1 a0_2 a0_3 a0_4 a1_0 a1_1 a1_2 a1_3z a1_3 a1_4z a1_4 a1_5 a1_6 a1_7z a1_7 a1_8z a1_8 a1_9z a1_9).map impl_HeadOk.enc := by
  refine Eq.trans (b := impl_HeadOk.b (fun r => some (impl_HeadOk.enc r)) k a0_0 a0_1 a0_2 a0_3 a0_4 a1_0 a1_1 a1_2 a1_3z a1_3 a1_4z a1_4 a1_5 a1_6 a1_7z a1_7 a1_8z a1_8 a1_9z a1_9) (by kernel_rfl) ?_
  show _ = (impl_HeadOk.b some k a0_0 a0_1 a0_2 a0_3 a0_4 a1_0 a1_1 a1_2 a1_3z a1_3 a1_4z a1_4 a1_5 a1_6 a1_7z a1_7 a1_8z a1_8 a1_9z a1_9).map impl_HeadOk.enc
  unfold impl_HeadOk.b
  repeat' first | with_reducible refine nat_cond ?_ ?_ | with_reducible refine nat_bind fun _ => ?_ | rfl
theorem impl_HeadOk.sound (k : Nat) : SoundF Tryz.prog 88 (fun a => (impl_HeadOk.ans k a).val) := by
  refine sound_plain (fun args res h => ?_) (fun t n => rfl)
  unfold impl_HeadOk.ans at h
  dsimp only at h
  split at h
  · cases k with
    | zero => cases h
    | succ k =>
      unfold Ans.val at h
      rw [← impl_HeadOk.eq] at h
      exact answer_sound mixed Tryz.func88 _ _ _ (k + 1) (fun j _ => tab_sound (tab_cons (impl_within.sound j) (tab_cons (impl_QcOk.sound j) (tab_cons (impl_isNum.sound j) (tab_cons (impl_areHashes.sound j) (tab_cons (impl_Head_matches.sound j) (tab_nil))))))) _ _ h
  · exact (Ans.no_val h).elim

def impl_areHeads.b {R : Type} (ret : Bool → Option R) (j0 : Bool → (List T) → Int → Int → Int → Int → Int → Int → Int → Option R) (k : Nat) (a0_0 a0_1 : Int) (a0_2 a0_3 a0_4 : Int) (a1z : Bool) (a1 : List T) : Option R :=
  j0 a1z a1 ((a1).length : Int) 0 a0_0 a0_1 a0_2 a0_3 a0_4
def impl_areHeads.l0b {R : Type} (ret : Bool → Option R) (j0 : Bool → (List T) → Int → Int → Int → Int → Int → Int → Int → Option R) (k : Nat) (x7z : Bool) (x7 : List T) (x8 x9 : Int) (c2_0 c2_1 : Int) (c2_2 c2_3 c2_4 : Int) : Option R :=
  cond (decide (x9 < x8)) (cond (decide ((0 : Int) ≤ x9)) (cond (decide (x9 < ((x7).length : Int))) ((impl_HeadOk.f k c2_0 c2_1 c2_2 c2_3 c2_4 (((((x7).getD (x9).toNat .bad).cells.getD 0 .bad)).toInt) (((((x7).getD (x9).toNat .bad).cells.getD 1 .bad)).toInt) (((((x7).getD (x9).toNat .bad).cells.getD 2 .bad)).toInt) (((((x7).getD (x9).toNat .bad).cells.getD 3 .bad)).isNil) (((((x7).getD (x9).toNat .bad).cells.getD 3 .bad)).toNums) (((((x7).getD (x9).toNat .bad).cells.getD 4 .bad)).isNil) (((((x7).getD (x9).toNat .bad).cells.getD 4 .bad)).toNums) (((((x7).getD (x9).toNat .bad).cells.getD 5 .bad)).toInt) (((((x7).getD (x9).toNat .bad).cells.getD 6 .bad)).toInt) (((((x7).getD (x9).toNat .bad).cells.getD 7 .bad)).isNil) (((((x7).getD (x9).toNat .bad).cells.getD 7 .bad)).toNums) (((((x7).getD (x9).toNat .bad).cells.getD 8 .bad)).isNil) (((((x7).getD (x9).toNat .bad).cells.getD 8 .bad)).toNums) (((((x7).getD (x9).toNat .bad).cells.getD 9 .bad)).isNil) (((((x7).getD (x9).toNat .bad).cells.getD 9 .bad)).toList)).bind fun t0 => cond (!t0) (ret false) (j0 x7z x7 x8 (RowKit.wrap64 (x9 + 1)) c2_0 c2_1 c2_2 c2_3 c2_4)) (none)) (none)) (ret true)
def impl_areHeads.l0 : Nat → Bool → (List T) → Int → Int → Int → Int → Int → Int → Int → Option Bool
  | 0, _, _, _, _, _, _, _, _, _ => none
  | k + 1, x7z, x7, x8, x9, c2_0, c2_1, c2_2, c2_3, c2_4 => impl_areHeads.l0b some (impl_areHeads.l0 k) k x7z x7 x8 x9 c2_0 c2_1 c2_2 c2_3 c2_4
def impl_areHeads.f : Nat → Int → Int → Int → Int → Int → Bool → (List T) → Option Bool
  | 0, _, _, _, _, _, _, _ => none
  | k + 1, a0_0, a0_1, a0_2, a0_3, a0_4, a1z, a1 => impl_areHeads.b some (impl_areHeads.l0 k) k a0_0 a0_1 a0_2 a0_3 a0_4 a1z a1
def impl_areHeads.enc (r : Bool) : Res := ⟨[.vals false [((.bool r), true)]], []⟩
def impl_areHeads.ans (k : Nat) : List Arg → Ans
  | [.v (.agg [(.int .i64 a0_0), (.int .i64 a0_1), (.int .i64 a0_2), (.int .i64 a0_3), (.int .i64 a0_4)]), .v (.sl 60 a1z a1)] => ⟨impl_areHeads.f k a0_0 a0_1 a0_2 a0_3 a0_4 a1z a1, impl_areHeads.enc⟩
  | _ => Ans.no
def impl_areHeads.Cs (k : Nat) : CallSem := tab [(88, impl_HeadOk.ans k)]
def impl_areHeads.cuts : List (Nat × Keep) := [(26, ⟨[(2, some []), (7, some []), (8, some []), (9, some [])], [(2, [some [], some [], some [], some [], some []])]⟩)]
noncomputable def impl_areHeads.K0 : List Fr := framesAt [true, false, true, false] (bodyOf Tryz.f57 impl_areHeads.cuts) []
def impl_areHeads.N0 (x7z : Bool) (x7 : List T) (x8 x9 : Int) (c2_0 c2_1 : Int) (c2_2 c2_3 c2_4 : Int) : St := stOf 18 18 2 [(2, .bp 2 0), (7, .val ⟨(.sl 60 x7z x7), [], false, none⟩), (8, .val (V.s (.int .i64 x8))), (9, .val (V.s (.int .i64 x9)))] [(2, .cells [V.s (.int .i64 c2_0), V.s (.int .i64 c2_1), V.s (.int .i64 c2_2), V.s (.int .i64 c2_3), V.s (.int .i64 c2_4)])]
theorem impl_areHeads.s0 (k : Nat) (G : List Fr → St → Option Res) (a0_0 a0_1 : Int) (a0_2 a0_3 a0_4 : Int) (a1z : Bool) (a1 : List T) (yx7z : Bool) (yx7 : List T) (yx8 yx9 : Int) (yc2_0 yc2_1 : Int) (yc2_2 yc2_3 yc2_4 : Int) : resume Tryz.prog (impl_areHeads.Cs k) G (finish Tryz.prog [] Tryz.f57 [.v (.agg [(.int .i64 a0_0), (.int .i64 a0_1), (.int .i64 a0_2), (.int .i64 a0_3), (.int .i64 a0_4)]), .v (.sl 60 a1z a1)]) 100000 impl_areHeads.K0 (impl_areHeads.N0 yx7z yx7 yx8 yx9 yc2_0 yc2_1 yc2_2 yc2_3 yc2_4) = impl_areHeads.l0b (fun r => some (impl_areHeads.enc r)) (fun x7z x7 x8 x9 c2_0 c2_1 c2_2 c2_3 c2_4 => G impl_areHeads.K0 (impl_areHeads.N0 x7z x7 x8 x9 c2_0 c2_1 c2_2 c2_3 c2_4)) k yx7z yx7 yx8 yx9 yc2_0 yc2_1 yc2_2 yc2_3 yc2_4 := by kernel_rfl
theorem impl_areHeads.bn {R R' : Type} (e : R → R') (ret : Bool → Option R) (j0 : Bool → (List T) → Int → Int → Int → Int → Int → Int → Int → Option R) (k : Nat) (a0_0 a0_1 : Int) (a0_2 a0_3 a0_4 : Int) (a1z : Bool) (a1 : List T) : impl_areHeads.b (fun r => (ret r).map e) (fun x7z x7 x8 x9 c2_0 c2_1 c2_2 c2_3 c2_4 => (j0 x7z x7 x8 x9 c2_0 c2_1 c2_2 c2_3 c2_4).map e) k a0_0 a0_1 a0_2 a0_3 a0_4 a1z a1 = (impl_areHeads.b ret j0 k a0_0 a0_1 a0_2 a0_3 a0_4 a1z a1).map e := by
  unfold impl_areHeads.b
  repeat' first | with_reducible refine nat_cond ?_ ?_ | with_reducible refine nat_bind fun _ => ?_ | rfl
theorem impl_areHeads.l0n {R R' : Type} (e : R → R') (ret : Bool → Option R) (j0 : Bool → (List T) → Int → Int → Int → Int → Int → Int → Int → Option R) (k : Nat) (x7z : Bool) (x7 : List T) (x8 x9 : Int) (c2_0 c2_1 : Int) (c2_2 c2_3 c2_4 : Int) : impl_areHeads.l0b (fun r => (ret r).map e) (fun x7z x7 x8 x9 c2_0 c2_1 c2_2 c2_3 c2_4 => (j0 x7z x7 x8 x9 c2_0 c2_1 c2_2 c2_3 c2_4).map e) k x7z x7 x8 x9 c2_0 c2_1 c2_2 c2_3 c2_4 = (impl_areHeads.l0b ret j0 k x7z x7 x8 x9 c2_0 c2_1 c2_2 c2_3 c2_4).map e := by
  unfold impl_areHeads.l0b
  repeat' first | with_reducible refine nat_cond ?_ ?_ | with_reducible refine nat_bind fun _ => ?_ | rfl
theorem impl_areHeads.rq (a0_0 a0_1 : Int) (a0_2 a0_3 a0_4 : Int) (a1z : Bool) (a1 : List T) : ∀ k, (∀ (x7z : Bool) (x7 : List T) (x8 x9 : Int) (c2_0 c2_1 : Int) (c2_2 c2_3 c2_4 : Int), rounds Tryz.prog impl_areHeads.Cs (finish Tryz.prog [] Tryz.f57 [.v (.agg [(.int .i64 a0_0), (.int .i64 a0_1), (.int .i64 a0_2), (.int .i64 a0_3), (.int .i64 a0_4)]), .v (.sl 60 a1z a1)]) 100000 k impl_areHeads.K0 (impl_areHeads.N0 x7z x7 x8 x9 c2_0 c2_1 c2_2 c2_3 c2_4) = (impl_areHeads.l0 k x7z x7 x8 x9 c2_0 c2_1 c2_2 c2_3 c2_4).map impl_areHeads.enc)
  | 0 => fun _ _ _ _ _ _ _ _ _ => rfl
  | k + 1 => by
    have ih := impl_areHeads.rq a0_0 a0_1 a0_2 a0_3 a0_4 a1z a1 k
    refine fun _ _ _ _ _ _ _ _ _ => ?_
    · refine (impl_areHeads.s0 k _ a0_0 a0_1 a0_2 a0_3 a0_4 a1z a1 _ _ _ _ _ _ _ _ _).trans (Eq.trans ?_ (impl_areHeads.l0n impl_areHeads.enc some (impl_areHeads.l0 k) k _ _ _ _ _ _ _ _ _))
      simp only [ih, Option.map_some]
theorem impl_areHeads.eq (k : Nat) (a0_0 a0_1 : Int) (a0_2 a0_3 a0_4 : Int) (a1z : Bool) (a1 : List T) : answer Tryz.prog impl_areHeads.Cs 100000 impl_areHeads.cuts [] Tryz.f57 (k + 1) [.v (.agg [(.int .i64 a0_0), (.int .i64 a0_1), (.int .i64 a0_2), (.int .i64 a0_3), (.int .i64 a0_4)]), .v (.sl 60 a1z a1)] = (impl_areHeads.f (k + 1) a0_0 a0_1 a0_2 a0_3 a0_4 a1z a1).map impl_areHeads.enc := by
  have ih := impl_areHeads.rq a0_0 a0_1 a0_2 a0_3 a0_4 a1z a1 k
  refine Eq.trans (b := impl_areHeads.b (fun r => some (impl_areHeads.enc r)) (fun x7z x7 x8 x9 c2_0 c2_1 c2_2 c2_3 c2_4 => rounds Tryz.prog impl_areHeads.Cs (finish Tryz.prog [] Tryz.f57 [.v (.agg [(.int .i64 a0_0), (.int .i64 a0_1), (.int .i64 a0_2), (.int .i64 a0_3), (.int .i64 a0_4)]), .v (.sl 60 a1z a1)]) 100000 k impl_areHeads.K0 (impl_areHeads.N0 x7z x7 x8 x9 c2_0 c2_1 c2_2 c2_3 c2_4)) k a0_0 a0_1 a0_2 a0_3 a0_4 a1z a1) (by kernel_rfl) (Eq.trans ?_ (impl_areHeads.bn impl_areHeads.enc some (impl_areHeads.l0 k) k a0_0 a0_1 a0_2 a0_3 a0_4 a1z a1))
  simp only [ih, Option.map_some]
theorem impl_areHeads.sound (k : Nat) : SoundF Tryz.prog 57 (fun a => (impl_areHeads.ans k a).val) := by
  refine sound_plain (fun args res h => ?_) (fun t n => rfl)
  unfold impl_areHeads.ans at h
  dsimp only at h
  split at h
  · cases k with
    | zero => cases h
    | succ k =>
      unfold Ans.val at h
      rw [← impl_areHeads.eq] at h
      exact answer_sound mixed Tryz.func57 _ _ _ (k + 1) (fun j _ => tab_sound (tab_cons (impl_HeadOk.sound j) (tab_nil))) _ _ h
  · exact (Ans.no_val h).elim

def impl_Proof_closes.b {R : Type} (ret : Bool → Option R) (k : Nat) (a0_0z : Bool) (a0_0 : List T) (a0_1 a0_2 : Int) (a0_3z : Bool) (a0_3 : List Int) (a0_4z : Bool) (a0_4 : List Int) (a0_5z : Bool) (a0_5 : List T) : Option R :=
  cond (decide ((0 : Int) ≤ (RowKit.wrap64 (((a0_0).length : Int) - 1)))) (cond (decide ((RowKit.wrap64 (((a0_0).length : Int) - 1)) < ((a0_0).length : Int))) (cond (decide (a0_1 = ((((a0_0).getD ((RowKit.wrap64 (((a0_0).length : Int) - 1))).toNat .bad).cells.getD 0 .bad)).toInt)) (ret (decide (a0_2 = ((((a0_0).getD ((RowKit.wrap64 (((a0_0).length : Int) - 1))).toNat .bad).cells.getD 1 .bad)).toInt))) (ret false)) (none)) (none)
def impl_Proof_closes.f : Nat → Bool → (List T) → Int → Int → Bool → (List Int) → Bool → (List Int) → Bool → (List T) → Option Bool
  | 0, _, _, _, _, _, _, _, _, _, _ => none
  | k + 1, a0_0z, a0_0, a0_1, a0_2, a0_3z, a0_3, a0_4z, a0_4, a0_5z, a0_5 => impl_Proof_closes.b some k a0_0z a0_0 a0_1 a0_2 a0_3z a0_3 a0_4z a0_4 a0_5z a0_5
def impl_Proof_closes.enc (r : Bool) : Res := ⟨[.vals false [((.bool r), true)]], []⟩
def impl_Proof_closes.ans (k : Nat) : List Arg → Ans
  | [.v (.agg [(.sl 60 a0_0z a0_0), (.int .i64 a0_1), (.int .i64 a0_2), (.nums 5 .u8 a0_3z a0_3), (.nums 5 .u8 a0_4z a0_4), (.sl 28 a0_5z a0_5)])] => ⟨impl_Proof_closes.f k a0_0z a0_0 a0_1 a0_2 a0_3z a0_3 a0_4z a0_4 a0_5z a0_5, impl_Proof_closes.enc⟩
  | _ => Ans.no
def impl_Proof_closes.Cs (k : Nat) : CallSem := tab []
theorem impl_Proof_closes.eq (k : Nat) (a0_0z : Bool) (a0_0 : List T) (a0_1 a0_2 : Int) (a0_3z : Bool) (a0_3 : List Int) (a0_4z : Bool) (a0_4 : List Int) (a0_5z : Bool) (a0_5 : List T) : answer Tryz.prog impl_Proof_closes.Cs 100000 [] [] Tryz.f59 (k + 1) [.v (.agg [(.sl 60 a0_0z a0_0), (.int .i64 a0_1), (.int .i64 a0_2), (.nums 5 .u8 a0_3z a0_3), (.nums 5 .u8 a0_4z a0_4), (.sl 28 a0_5z a0_5)])] = (impl_Proof_closes.f (k + 1) a0_0z a0_0 a0_1 a0_2 a0_3z a0_3 a0_4z a0_4 a0_5z a0_5).map impl_Proof_closes.enc := by
  refine Eq.trans (b := impl_Proof_closes.b (fun r => some (impl_Proof_closes.enc r)) k a0_0z a0_0 a0_1 a0_2 a0_3z a0_3 a0_4z a0_4 a0_5z a0_5) (by kernel_rfl) ?_
  show _ = (impl_Proof_closes.b some k a0_0z a0_0 a0_1 a0_2 a0_3z a0_3 a0_4z a0_4 a0_5z a0_5).map impl_Proof_closes.enc
  unfold impl_Proof_closes.b
  repeat' first | with_reducible refine nat_cond ?_ ?_ | with_reducible refine nat_bind fun _ => ?_ | rfl
theorem impl_Proof_closes.sound (k : Nat) : SoundF Tryz.prog 59 (fun a => (impl_Proof_closes.ans k a).val) := by
  refine sound_plain (fun args res h => ?_) (fun t n => rfl)
  unfold impl_Proof_closes.ans at h
  dsimp only at h
  split at h
  · cases k with
    | zero => cases h
    | succ k =>
      unfold Ans.val at h
      rw [← impl_Proof_closes.eq] at h
      exact answer_sound mixed Tryz.func59 _ _ _ (k + 1) (fun j _ => tab_sound (tab_nil)) _ _ h
  · exact (Ans.no_val h).elim

def impl_ProofOk.b {R : Type} (ret : Bool → Option R) (k : Nat) (a0_0 a0_1 : Int) (a0_2 a0_3 a0_4 : Int) (a1_0z : Bool) (a1_0 : List T) (a1_1 a1_2 : Int) (a1_3z : Bool) (a1_3 : List Int) (a1_4z : Bool) (a1_4 : List Int) (a1_5z : Bool) (a1_5 : List T) : Option R :=
  (impl_within.f k ((a1_0).length : Int) 3 a0_4).bind fun t0 => cond t0 ((impl_areHeads.f k a0_0 a0_1 a0_2 a0_3 a0_4 a1_0z a1_0).bind fun t1 => cond t1 ((impl_QcOk.f k a0_0 a0_1 a0_2 a0_3 a0_4 a1_1 a1_2 a1_3z a1_3 a1_4z a1_4 a1_5z a1_5).bind fun t2 => cond t2 ((impl_Proof_closes.f k a1_0z a1_0 a1_1 a1_2 a1_3z a1_3 a1_4z a1_4 a1_5z a1_5).bind fun t3 => ret t3) (ret false)) (ret false)) (ret false)
def impl_ProofOk.f : Nat → Int → Int → Int → Int → Int → Bool → (List T) → Int → Int → Bool → (List Int) → Bool → (List Int) → Bool → (List T) → Option Bool
  | 0, _, _, _, _, _, _, _, _, _, _, _, _, _, _, _ => none
  | k + 1, a0_0, a0_1, a0_2, a0_3, a0_4, a1_0z, a1_0, a1_1, a1_2, a1_3z, a1_3, a1_4z, a1_4, a1_5z, a1_5 => impl_ProofOk.b some k a0_0 a0_1 a0_2 a0_3 a0_4 a1_0z a1_0 a1_1 a1_2 a1_3z a1_3 a1_4z a1_4 a1_5z a1_5
def impl_ProofOk.enc (r : Bool) : Res := ⟨[.vals false [((.bool r), true)]], []⟩
def impl_ProofOk.ans (k : Nat) : List Arg → Ans
  | [.v (.agg [(.int .i64 a0_0), (.int .i64 a0_1), (.int .i64 a0_2), (.int .i64 a0_3), (.int .i64 a0_4)]), .v (.agg [(.sl 60 a1_0z a1_0), (.int .i64 a1_1), (.int .i64 a1_2), (.nums 5 .u8 a1_3z a1_3), (.nums 5 .u8 a1_4z a1_4), (.sl 28 a1_5z a1_5)])] => ⟨impl_ProofOk.f k a0_0 a0_1 a0_2 a0_3 a0_4 a1_0z a1_0 a1_1 a1_2 a1_3z a1_3 a1_4z a1_4 a1_5z a1_5, impl_ProofOk.enc⟩
  | _ => Ans.no
def impl_ProofOk.Cs (k : Nat) : CallSem := tab [(56, impl_within.ans k), (57, impl_areHeads.ans k), (58, impl_QcOk.ans k), (59, impl_Proof_closes.ans k)]
theorem impl_ProofOk.eq (k : Nat) (a0_0 a0_1 : Int) (a0_2 a0_3 a0_4 : Int) (a1_0z : Bool) (a1_0 : List T) (a1_1 a1_2 : Int) (a1_3z : Bool) (a1_3 : List Int) (a1_4z : Bool) (a1_4 : List Int) (a1_5z : Bool) (a1_5 : List T) : answer Tryz.prog impl_ProofOk.Cs 100000 [] [] Tryz.f26 (k + 1) [.v (.agg [(.int .i64 a0_0), (.int .i64 a0_1), (.int .i64 a0_2), (.int .i64 a0_3), (.int .i64 a0_4)]), .v (.agg [(.sl 60 a1_0z a1_0), (.int .i64 a1_1), (.int .i64 a1_2), (.nums 5 .u8 a1_3z a1_3), (.nums 5 .u8 a1_4z a1_4), (.sl 28 a1_5z a1_5)])] = (impl_ProofOk.f (k + 1) a0_0 a0_1 a0_2 a0_3 a0_4 a1_0z a1_0 a1_1 a1_2 a1_3z a1_3 a1_4z a1_4 a1_5z a1_5).map impl_ProofOk.enc := by
  refine Eq.trans (b := impl_ProofOk.b (fun r => some (impl_ProofOk.enc r)) k a0_0 a0_1 a0_2 a0_3 a0_4 a1_0z a1_0 a1_1 a1_2 a1_3z a1_3 a1_4z a1_4 a1_5z a1_5) (by kernel_rfl) ?_
  show _ = (impl_ProofOk.b some k a0_0 a0_1 a0_2 a0_3 a0_4 a1_0z a1_0 a1_1 a1_2 a1_3z a1_3 a1_4z a1_4 a1_5z a1_5).map impl_ProofOk.enc
  unfold impl_ProofOk.b
  repeat' first | with_reducible refine nat_cond ?_ ?_ | with_reducible refine nat_bind fun _ => ?_ | rfl
theorem impl_ProofOk.sound (k : Nat) : SoundF Tryz.prog 26 (fun a => (impl_ProofOk.ans k a).val) := by
  refine sound_plain (fun args res h => ?_) (fun t n => rfl)
  unfold impl_ProofOk.ans at h
  dsimp only at h
  split at h
  · cases k with
    | zero => cases h
    | succ k =>
      unfold Ans.val at h
      rw [← impl_ProofOk.eq] at h
      exact answer_sound mixed Tryz.func26 _ _ _ (k + 1) (fun j _ => tab_sound (tab_cons (impl_within.sound j) (tab_cons (impl_areHeads.sound j) (tab_cons (impl_QcOk.sound j) (tab_cons (impl_Proof_closes.sound j) (tab_nil)))))) _ _ h
  · exact (Ans.no_val h).elim

def impl_copyBytes.b {R : Type} (ret : Bool × List Int → Option R) (k : Nat) (a0z : Bool) (a0 : List Int) : Option R :=
  cond (decide (0 + (a0).length < 140737488355328)) (ret (((a0).isEmpty && false), a0)) (none)
def impl_copyBytes.f : Nat → Bool → (List Int) → Option (Bool × List Int)
  | 0, _, _ => none
  | k + 1, a0z, a0 => impl_copyBytes.b some k a0z a0
def impl_copyBytes.enc (r : Bool × List Int) : Res := ⟨[.vals false [((.nums 5 .u8 r.1 r.2), true)]], []⟩
def impl_copyBytes.ans (k : Nat) : List Arg → Ans
  | [.v (.nums 5 .u8 a0z a0)] => ⟨impl_copyBytes.f k a0z a0, impl_copyBytes.enc⟩
  | _ => Ans.no
def impl_copyBytes.Cs (k : Nat) : CallSem := tab []
theorem impl_copyBytes.eq (k : Nat) (a0z : Bool) (a0 : List Int) : answer Tryz.prog impl_copyBytes.Cs 100000 [] [] Tryz.f93 (k + 1) [.v (.nums 5 .u8 a0z a0)] = (impl_copyBytes.f (k + 1) a0z a0).map impl_copyBytes.enc := by
  refine Eq.trans (b := impl_copyBytes.b (fun r => some (impl_copyBytes.enc r)) k a0z a0) (by kernel_rfl) ?_
  show _ = (impl_copyBytes.b some k a0z a0).map impl_copyBytes.enc
  unfold impl_copyBytes.b
  repeat' first | with_reducible refine nat_cond ?_ ?_ | with_reducible refine nat_bind fun _ => ?_ | rfl
theorem impl_copyBytes.sound (k : Nat) : SoundF Tryz.prog 93 (fun a => (impl_copyBytes.ans k a).val) := by
  refine sound_plain (fun args res h => ?_) (fun t n => rfl)
  unfold impl_copyBytes.ans at h
  dsimp only at h
  split at h
  · cases k with
    | zero => cases h
    | succ k =>
      unfold Ans.val at h
      rw [← impl_copyBytes.eq] at h
      exact answer_sound mixed Tryz.func93 _ _ _ (k + 1) (fun j _ => tab_sound (tab_nil)) _ _ h
  · exact (Ans.no_val h).elim

def impl_PutVar.b {R : Type} (ret : Bool × (List Int) × Bool → Option R) (j0 : Int → Bool → (List Int) → Option R) (k : Nat) (a0z : Bool) (a0 : List Int) (a1 : Int) : Option R :=
  (impl_isNum.f k a1).bind fun t0 => cond (!t0) (ret (true, ([] : List Int), false)) ((impl_copyBytes.f k a0z a0).bind fun t1 => j0 a1 t1.1 t1.2)
def impl_PutVar.l0b {R : Type} (ret : Bool × (List Int) × Bool → Option R) (j0 : Int → Bool → (List Int) → Option R) (k : Nat) (x1 : Int) (x6z : Bool) (x6 : List Int) : Option R :=
  cond (decide (x1 ≥ 128)) (cond (decide ((x6).length + 1 < 140737488355328)) (j0 (RowKit.wrap64 (Int.tdiv x1 128)) false (x6 ++ ([(((RowKit.wrap64 ((Int.tmod x1 128) + 128))) % 256)] : List Int))) (none)) (cond (decide ((x6).length + 1 < 140737488355328)) (ret (false, (x6 ++ ([((x1) % 256)] : List Int)), true)) (none))
def impl_PutVar.l0 : Nat → Int → Bool → (List Int) → Option (Bool × (List Int) × Bool)
  | 0, _, _, _ => none
  | k + 1, x1, x6z, x6 => impl_PutVar.l0b some (impl_PutVar.l0 k) k x1 x6z x6
def impl_PutVar.f : Nat → Bool → (List Int) → Int → Option (Bool × (List Int) × Bool)
  | 0, _, _, _ => none
  | k + 1, a0z, a0, a1 => impl_PutVar.b some (impl_PutVar.l0 k) k a0z a0 a1
def impl_PutVar.enc (r : Bool × (List Int) × Bool) : Res := ⟨[.vals false [((.nums 5 .u8 r.1 r.2.1), true)], .vals false [((.bool r.2.2), true)]], []⟩
def impl_PutVar.ans (k : Nat) : List Arg → Ans
  | [.v (.nums 5 .u8 a0z a0), .v (.int .i64 a1)] => ⟨impl_PutVar.f k a0z a0 a1, impl_PutVar.enc⟩
  | _ => Ans.no
def impl_PutVar.Cs (k : Nat) : CallSem := tab [(89, impl_isNum.ans k), (93, impl_copyBytes.ans k)]
def impl_PutVar.cuts : List (Nat × Keep) := [(60, ⟨[(1, some []), (6, none)], []⟩)]
noncomputable def impl_PutVar.K0 : List Fr := framesAt [true, true, true, false, false] (bodyOf Tryz.f124 impl_PutVar.cuts) []
def impl_PutVar.N0 (x1 : Int) (x6z : Bool) (x6 : List Int) : St := stOf 28 28 2 [(1, .val (V.s (.int .i64 x1))), (6, .val ⟨(.nums 5 .u8 x6z x6), [.l 6 0], true, some (.l 6 0)⟩)] []
theorem impl_PutVar.s0 (k : Nat) (G : List Fr → St → Option Res) (a0z : Bool) (a0 : List Int) (a1 yx1 : Int) (yx6z : Bool) (yx6 : List Int) : resume Tryz.prog (impl_PutVar.Cs k) G (finish Tryz.prog [] Tryz.f124 [.v (.nums 5 .u8 a0z a0), .v (.int .i64 a1)]) 100000 impl_PutVar.K0 (impl_PutVar.N0 yx1 yx6z yx6) = impl_PutVar.l0b (fun r => some (impl_PutVar.enc r)) (fun x1 x6z x6 => G impl_PutVar.K0 (impl_PutVar.N0 x1 x6z x6)) k yx1 yx6z yx6 := by kernel_rfl
theorem impl_PutVar.bn {R R' : Type} (e : R → R') (ret : Bool × (List Int) × Bool → Option R) (j0 : Int → Bool → (List Int) → Option R) (k : Nat) (a0z : Bool) (a0 : List Int) (a1 : Int) : impl_PutVar.b (fun r => (ret r).map e) (fun x1 x6z x6 => (j0 x1 x6z x6).map e) k a0z a0 a1 = (impl_PutVar.b ret j0 k a0z a0 a1).map e := by
  unfold impl_PutVar.b
  repeat' first | with_reducible refine nat_cond ?_ ?_ | with_reducible refine nat_bind fun _ => ?_ | rfl
theorem impl_PutVar.l0n {R R' : Type} (e : R → R') (ret : Bool × (List Int) × Bool → Option R) (j0 : Int → Bool → (List Int) → Option R) (k : Nat) (x1 : Int) (x6z : Bool) (x6 : List Int) : impl_PutVar.l0b (fun r => (ret r).map e) (fun x1 x6z x6 => (j0 x1 x6z x6).map e) k x1 x6z x6 = (impl_PutVar.l0b ret j0 k x1 x6z x6).map e := by
  unfold impl_PutVar.l0b
  repeat' first | with_reducible refine nat_cond ?_ ?_ | with_reducible refine nat_bind fun _ => ?_ | rfl
theorem impl_PutVar.rq (a0z : Bool) (a0 : List Int) (a1 : Int) : ∀ k, (∀ (x1 : Int) (x6z : Bool) (x6 : List Int), rounds Tryz.prog impl_PutVar.Cs (finish Tryz.prog [] Tryz.f124 [.v (.nums 5 .u8 a0z a0), .v (.int .i64 a1)]) 100000 k impl_PutVar.K0 (impl_PutVar.N0 x1 x6z x6) = (impl_PutVar.l0 k x1 x6z x6).map impl_PutVar.enc)
  | 0 => fun _ _ _ => rfl
  | k + 1 => by
    have ih := impl_PutVar.rq a0z a0 a1 k
    refine fun _ _ _ => ?_
    · refine (impl_PutVar.s0 k _ a0z a0 a1 _ _ _).trans (Eq.trans ?_ (impl_PutVar.l0n impl_PutVar.enc some (impl_PutVar.l0 k) k _ _ _))
      simp only [ih, Option.map_some]
theorem impl_PutVar.eq (k : Nat) (a0z : Bool) (a0 : List Int) (a1 : Int) : answer Tryz.prog impl_PutVar.Cs 100000 impl_PutVar.cuts [] Tryz.f124 (k + 1) [.v (.nums 5 .u8 a0z a0), .v (.int .i64 a1)] = (impl_PutVar.f (k + 1) a0z a0 a1).map impl_PutVar.enc := by
  have ih := impl_PutVar.rq a0z a0 a1 k
  refine Eq.trans (b := impl_PutVar.b (fun r => some (impl_PutVar.enc r)) (fun x1 x6z x6 => rounds Tryz.prog impl_PutVar.Cs (finish Tryz.prog [] Tryz.f124 [.v (.nums 5 .u8 a0z a0), .v (.int .i64 a1)]) 100000 k impl_PutVar.K0 (impl_PutVar.N0 x1 x6z x6)) k a0z a0 a1) (by kernel_rfl) (Eq.trans ?_ (impl_PutVar.bn impl_PutVar.enc some (impl_PutVar.l0 k) k a0z a0 a1))
  simp only [ih, Option.map_some]
theorem impl_PutVar.sound (k : Nat) : SoundF Tryz.prog 124 (fun a => (impl_PutVar.ans k a).val) := by
  refine sound_plain (fun args res h => ?_) (fun t n => rfl)
  unfold impl_PutVar.ans at h
  dsimp only at h
  split at h
  · cases k with
    | zero => cases h
    | succ k =>
      unfold Ans.val at h
      rw [← impl_PutVar.eq] at h
      exact answer_sound mixed Tryz.func124 _ _ _ (k + 1) (fun j _ => tab_sound (tab_cons (impl_isNum.sound j) (tab_cons (impl_copyBytes.sound j) (tab_nil)))) _ _ h
  · exact (Ans.no_val h).elim

def impl_writer_num.b {R : Type} (ret : Bool × List Int → Option R) (k : Nat) (a0_0z : Bool) (a0_0 : List Int) (a1 : Int) : Option R :=
  (impl_PutVar.f k a0_0z a0_0 a1).bind fun t0 => ret (t0.1, t0.2.1)
def impl_writer_num.f : Nat → Bool → (List Int) → Int → Option (Bool × List Int)
  | 0, _, _, _ => none
  | k + 1, a0_0z, a0_0, a1 => impl_writer_num.b some k a0_0z a0_0 a1
def impl_writer_num.enc (r : Bool × List Int) : Res := ⟨[], [[((.nums 5 .u8 r.1 r.2), true)]]⟩
def impl_writer_num.ans (k : Nat) : List Arg → Ans
  | [.box [((.nums 5 .u8 a0_0z a0_0), true)], .v (.int .i64 a1)] => ⟨impl_writer_num.f k a0_0z a0_0 a1, impl_writer_num.enc⟩
  | _ => Ans.no
def impl_writer_num.Cs (k : Nat) : CallSem := tab [(124, impl_PutVar.ans k)]
theorem impl_writer_num.eq (k : Nat) (a0_0z : Bool) (a0_0 : List Int) (a1 : Int) : answer Tryz.prog impl_writer_num.Cs 100000 [] [] Tryz.f114 (k + 1) [.box [((.nums 5 .u8 a0_0z a0_0), true)], .v (.int .i64 a1)] = (impl_writer_num.f (k + 1) a0_0z a0_0 a1).map impl_writer_num.enc := by
  refine Eq.trans (b := impl_writer_num.b (fun r => some (impl_writer_num.enc r)) k a0_0z a0_0 a1) (by kernel_rfl) ?_
  show _ = (impl_writer_num.b some k a0_0z a0_0 a1).map impl_writer_num.enc
  unfold impl_writer_num.b
  repeat' first | with_reducible refine nat_cond ?_ ?_ | with_reducible refine nat_bind fun _ => ?_ | rfl
theorem impl_writer_num.sound (k : Nat) : SoundF Tryz.prog 114 (fun a => (impl_writer_num.ans k a).val) := by
  refine sound_plain (fun args res h => ?_) (fun t n => rfl)
  unfold impl_writer_num.ans at h
  dsimp only at h
  split at h
  · cases k with
    | zero => cases h
    | succ k =>
      unfold Ans.val at h
      rw [← impl_writer_num.eq] at h
      exact answer_sound mixed Tryz.func114 _ _ _ (k + 1) (fun j _ => tab_sound (tab_cons (impl_PutVar.sound j) (tab_nil))) _ _ h
  · exact (Ans.no_val h).elim

def impl_writer_raw.b {R : Type} (ret : Bool × List Int → Option R) (k : Nat) (a0_0z : Bool) (a0_0 : List Int) (a1z : Bool) (a1 : List Int) : Option R :=
  cond (decide ((a0_0).length + (a1).length < 140737488355328)) (ret (((a1).isEmpty && a0_0z), (a0_0 ++ a1))) (none)
def impl_writer_raw.f : Nat → Bool → (List Int) → Bool → (List Int) → Option (Bool × List Int)
  | 0, _, _, _, _ => none
  | k + 1, a0_0z, a0_0, a1z, a1 => impl_writer_raw.b some k a0_0z a0_0 a1z a1
def impl_writer_raw.enc (r : Bool × List Int) : Res := ⟨[], [[((.nums 5 .u8 r.1 r.2), true)]]⟩
def impl_writer_raw.ans (k : Nat) : List Arg → Ans
  | [.box [((.nums 5 .u8 a0_0z a0_0), true)], .v (.nums 5 .u8 a1z a1)] => ⟨impl_writer_raw.f k a0_0z a0_0 a1z a1, impl_writer_raw.enc⟩
  | _ => Ans.no
def impl_writer_raw.Cs (k : Nat) : CallSem := tab []
theorem impl_writer_raw.eq (k : Nat) (a0_0z : Bool) (a0_0 : List Int) (a1z : Bool) (a1 : List Int) : answer Tryz.prog impl_writer_raw.Cs 100000 [] [] Tryz.f115 (k + 1) [.box [((.nums 5 .u8 a0_0z a0_0), true)], .v (.nums 5 .u8 a1z a1)] = (impl_writer_raw.f (k + 1) a0_0z a0_0 a1z a1).map impl_writer_raw.enc := by
  refine Eq.trans (b := impl_writer_raw.b (fun r => some (impl_writer_raw.enc r)) k a0_0z a0_0 a1z a1) (by kernel_rfl) ?_
  show _ = (impl_writer_raw.b some k a0_0z a0_0 a1z a1).map impl_writer_raw.enc
  unfold impl_writer_raw.b
  repeat' first | with_reducible refine nat_cond ?_ ?_ | with_reducible refine nat_bind fun _ => ?_ | rfl
theorem impl_writer_raw.sound (k : Nat) : SoundF Tryz.prog 115 (fun a => (impl_writer_raw.ans k a).val) := by
  refine sound_plain (fun args res h => ?_) (fun t n => rfl)
  unfold impl_writer_raw.ans at h
  dsimp only at h
  split at h
  · cases k with
    | zero => cases h
    | succ k =>
      unfold Ans.val at h
      rw [← impl_writer_raw.eq] at h
      exact answer_sound mixed Tryz.func115 _ _ _ (k + 1) (fun j _ => tab_sound (tab_nil)) _ _ h
  · exact (Ans.no_val h).elim

end Go.Proofs.YtadnejogdohfkaaGreatG
