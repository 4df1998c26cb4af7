/- What the functions compute, printed by a program of this repo; each is shown to be what the machine of values answers. No condition. -/
import Derived.Test.YtbpcnodmgphinaaProg
import Derived.KernelRfl
import Derived.Test.YtbpcnodmgphinaaGFnExactTipsb
namespace Go.Proofs.YtbpcnodmgphinaaG
open Go Go.Proofs.YtbpcnodmgphinaaRv Go.Proofs
set_option linter.unusedVariables false
set_option linter.unusedSimpArgs false
def spec_Tips.b {R : Type} (ret : Bool × List T → Option R) (j0 : (List T) → Bool → (List T) → Int → Int → Int → Int → Int → Int → Int → Bool → (List T) → Option R) (j1 : (List T) → Bool → Bool → (List T) → Int → Int → Bool → (List T) → Int → Int → Int → Int → Int → Int → Int → Bool → (List T) → Int → Int → Int → Bool → (List Int) → Bool → (List Int) → Int → Int → Bool → (List Int) → Bool → (List Int) → Bool → (List T) → Option R) (k : Nat) (a0_0 a0_1 : Int) (a0_2 a0_3 a0_4 : Int) (a0_5z : Bool) (a0_5 : List T) : Option R :=
  (spec_ForestOk.f k a0_0 a0_1 a0_2 a0_3 a0_4 a0_5z a0_5).bind fun t0 => cond (!t0) (ret (false, ([] : List T))) (j0 ([] : List T) a0_5z a0_5 ((a0_5).length : Int) 0 a0_0 a0_1 a0_2 a0_3 a0_4 a0_5z a0_5)
def spec_Tips.l0b {R : Type} (ret : Bool × List T → Option R) (j0 : (List T) → Bool → (List T) → Int → Int → Int → Int → Int → Int → Int → Bool → (List T) → Option R) (j1 : (List T) → Bool → Bool → (List T) → Int → Int → Bool → (List T) → Int → Int → Int → Int → Int → Int → Int → Bool → (List T) → Int → Int → Int → Bool → (List Int) → Bool → (List Int) → Int → Int → Bool → (List Int) → Bool → (List Int) → Bool → (List T) → Option R) (k : Nat) (x3 : List T) (x15z : Bool) (x15 : List T) (x16 x17 : Int) (c1_0 c1_1 : Int) (c1_2 c1_3 c1_4 : Int) (c1_5z : Bool) (c1_5 : List T) : Option R :=
  cond (decide (x17 < x16)) (cond (decide ((0 : Int) ≤ x17)) (cond (decide (x17 < ((x15).length : Int))) (j1 x3 true x15z x15 x16 x17 c1_5z c1_5 ((c1_5).length : Int) 0 c1_0 c1_1 c1_2 c1_3 c1_4 c1_5z c1_5 (((((x15).getD (x17).toNat .bad).cells.getD 0 .bad)).toInt) (((((x15).getD (x17).toNat .bad).cells.getD 1 .bad)).toInt) (((((x15).getD (x17).toNat .bad).cells.getD 2 .bad)).toInt) (((((x15).getD (x17).toNat .bad).cells.getD 3 .bad)).isNil) (((((x15).getD (x17).toNat .bad).cells.getD 3 .bad)).toNums) (((((x15).getD (x17).toNat .bad).cells.getD 4 .bad)).isNil) (((((x15).getD (x17).toNat .bad).cells.getD 4 .bad)).toNums) (((((x15).getD (x17).toNat .bad).cells.getD 5 .bad)).toInt) (((((x15).getD (x17).toNat .bad).cells.getD 6 .bad)).toInt) (((((x15).getD (x17).toNat .bad).cells.getD 7 .bad)).isNil) (((((x15).getD (x17).toNat .bad).cells.getD 7 .bad)).toNums) (((((x15).getD (x17).toNat .bad).cells.getD 8 .bad)).isNil) (((((x15).getD (x17).toNat .bad).cells.getD 8 .bad)).toNums) (((((x15).getD (x17).toNat .bad).cells.getD 9 .bad)).isNil) (((((x15).getD (x17).toNat .bad).cells.getD 9 .bad)).toList)) (none)) (none)) (ret (false, x3))
def spec_Tips.l1b {R : Type} (ret : Bool × List T → Option R) (j0 : (List T) → Bool → (List T) → Int → Int → Int → Int → Int → Int → Int → Bool → (List T) → Option R) (j1 : (List T) → Bool → Bool → (List T) → Int → Int → Bool → (List T) → Int → Int → Int → Int → Int → Int → Int → Bool → (List T) → Int → Int → Int → Bool → (List Int) → Bool → (List Int) → Int → Int → Bool → (List Int) → Bool → (List Int) → Bool → (List T) → Option R) (k : Nat) (x3 : List T) (x6 x15z : Bool) (x15 : List T) (x16 x17 : Int) (x22z : Bool) (x22 : List T) (x23 x24 : Int) (c1_0 c1_1 : Int) (c1_2 c1_3 c1_4 : Int) (c1_5z : Bool) (c1_5 : List T) (c5_0 c5_1 c5_2 : Int) (c5_3z : Bool) (c5_3 : List Int) (c5_4z : Bool) (c5_4 : List Int) (c5_5 c5_6 : Int) (c5_7z : Bool) (c5_7 : List Int) (c5_8z : Bool) (c5_8 : List Int) (c5_9z : Bool) (c5_9 : List T) : Option R :=
  cond (decide (x24 < x23)) (cond (decide ((0 : Int) ≤ x24)) (cond (decide (x24 < ((x22).length : Int))) (cond x6 ((spec_Links.f k c1_0 c1_1 c1_2 c1_3 c1_4 c5_0 c5_1 c5_2 c5_3z c5_3 c5_4z c5_4 c5_5 c5_6 c5_7z c5_7 c5_8z c5_8 c5_9z c5_9 (((((x22).getD (x24).toNat .bad).cells.getD 0 .bad)).toInt) (((((x22).getD (x24).toNat .bad).cells.getD 1 .bad)).toInt) (((((x22).getD (x24).toNat .bad).cells.getD 2 .bad)).toInt) (((((x22).getD (x24).toNat .bad).cells.getD 3 .bad)).isNil) (((((x22).getD (x24).toNat .bad).cells.getD 3 .bad)).toNums) (((((x22).getD (x24).toNat .bad).cells.getD 4 .bad)).isNil) (((((x22).getD (x24).toNat .bad).cells.getD 4 .bad)).toNums) (((((x22).getD (x24).toNat .bad).cells.getD 5 .bad)).toInt) (((((x22).getD (x24).toNat .bad).cells.getD 6 .bad)).toInt) (((((x22).getD (x24).toNat .bad).cells.getD 7 .bad)).isNil) (((((x22).getD (x24).toNat .bad).cells.getD 7 .bad)).toNums) (((((x22).getD (x24).toNat .bad).cells.getD 8 .bad)).isNil) (((((x22).getD (x24).toNat .bad).cells.getD 8 .bad)).toNums) (((((x22).getD (x24).toNat .bad).cells.getD 9 .bad)).isNil) (((((x22).getD (x24).toNat .bad).cells.getD 9 .bad)).toList)).bind fun t0 => j1 x3 (!t0) x15z x15 x16 x17 x22z x22 x23 (RowKit.wrap64 (x24 + 1)) c1_0 c1_1 c1_2 c1_3 c1_4 c1_5z c1_5 c5_0 c5_1 c5_2 c5_3z c5_3 c5_4z c5_4 c5_5 c5_6 c5_7z c5_7 c5_8z c5_8 c5_9z c5_9) (j1 x3 false x15z x15 x16 x17 x22z x22 x23 (RowKit.wrap64 (x24 + 1)) c1_0 c1_1 c1_2 c1_3 c1_4 c1_5z c1_5 c5_0 c5_1 c5_2 c5_3z c5_3 c5_4z c5_4 c5_5 c5_6 c5_7z c5_7 c5_8z c5_8 c5_9z c5_9)) (none)) (none)) (cond x6 ((spec_HeadHash.f k c1_0 c1_1 c1_2 c1_3 c1_4 c5_0 c5_1 c5_2 c5_3z c5_3 c5_4z c5_4 c5_5 c5_6 c5_7z c5_7 c5_8z c5_8 c5_9z c5_9).bind fun t0 => cond (decide ((x3).length + 1 < 5864062014805)) (j0 (x3 ++ ([(.nums 5 .u8 t0.1 t0.2)] : List T)) x15z x15 x16 (RowKit.wrap64 (x17 + 1)) c1_0 c1_1 c1_2 c1_3 c1_4 c1_5z c1_5) (none)) (j0 x3 x15z x15 x16 (RowKit.wrap64 (x17 + 1)) c1_0 c1_1 c1_2 c1_3 c1_4 c1_5z c1_5))
mutual
def spec_Tips.l0 : Nat → (List T) → Bool → (List T) → Int → Int → Int → Int → Int → Int → Int → Bool → (List T) → Option (Bool × List T)
  | 0, _, _, _, _, _, _, _, _, _, _, _, _ => none
  | k + 1, x3, x15z, x15, x16, x17, c1_0, c1_1, c1_2, c1_3, c1_4, c1_5z, c1_5 => spec_Tips.l0b some (spec_Tips.l0 k) (spec_Tips.l1 k) k x3 x15z x15 x16 x17 c1_0 c1_1 c1_2 c1_3 c1_4 c1_5z c1_5
def spec_Tips.l1 : Nat → (List T) → Bool → Bool → (List T) → Int → Int → Bool → (List T) → Int → Int → Int → Int → Int → Int → Int → Bool → (List T) → Int → Int → Int → Bool → (List Int) → Bool → (List Int) → Int → Int → Bool → (List Int) → Bool → (List Int) → Bool → (List T) → Option (Bool × List T)
  | 0, _, _, _, _, _, _, _, _, _, _, _, _, _, _, _, _, _, _, _, _, _, _, _, _, _, _, _, _, _, _, _, _ => none
  | k + 1, x3, x6, x15z, x15, x16, x17, x22z, x22, x23, x24, c1_0, c1_1, c1_2, c1_3, c1_4, c1_5z, c1_5, c5_0, c5_1, c5_2, c5_3z, c5_3, c5_4z, c5_4, c5_5, c5_6, c5_7z, c5_7, c5_8z, c5_8, c5_9z, c5_9 => spec_Tips.l1b some (spec_Tips.l0 k) (spec_Tips.l1 k) k x3 x6 x15z x15 x16 x17 x22z x22 x23 x24 c1_0 c1_1 c1_2 c1_3 c1_4 c1_5z c1_5 c5_0 c5_1 c5_2 c5_3z c5_3 c5_4z c5_4 c5_5 c5_6 c5_7z c5_7 c5_8z c5_8 c5_9z c5_9
end
def spec_Tips.f : Nat → Int → Int → Int → Int → Int → Bool → (List T) → Option (Bool × List T)
  | 0, _, _, _, _, _, _, _ => none
  | k + 1, a0_0, a0_1, a0_2, a0_3, a0_4, a0_5z, a0_5 => spec_Tips.b some (spec_Tips.l0 k) (spec_Tips.l1 k) k a0_0 a0_1 a0_2 a0_3 a0_4 a0_5z a0_5
def spec_Tips.enc (r : Bool × List T) : Res := ⟨[.vals false [((.sl 22 r.1 r.2), true)]], []⟩
def spec_Tips.ans (k : Nat) : List Arg → Ans
  | [.v (.agg [(.int .i64 a0_0), (.int .i64 a0_1), (.int .i64 a0_2), (.int .i64 a0_3), (.int .i64 a0_4), (.sl 79 a0_5z a0_5)])] => ⟨spec_Tips.f k a0_0 a0_1 a0_2 a0_3 a0_4 a0_5z a0_5, spec_Tips.enc⟩
  | _ => Ans.no
def spec_Tips.Cs (k : Nat) : CallSem := tab [(128, spec_ForestOk.ans k), (130, spec_HeadHash.ans k), (129, spec_Links.ans k)]
def spec_Tips.cuts : List (Nat × Keep) := [(122, ⟨[(1, some []), (3, none), (15, some []), (16, some []), (17, some [])], [(1, [some [], some [], some [], some [], some [], some []])]⟩), (125338, ⟨[(1, some []), (3, none), (5, some []), (6, some []), (15, some []), (16, some []), (17, some []), (22, some []), (23, some []), (24, some [])], [(1, [some [], some [], some [], some [], some [], some []]), (5, [some [], some [], some [], some [], some [], some [], some [], some [], some [], some []])]⟩)]
noncomputable def spec_Tips.K0 : List Fr := framesAt [true, true, true, false, true, false] (bodyOf Try.f54 spec_Tips.cuts) []
def spec_Tips.N0 (x3 : List T) (x15z : Bool) (x15 : List T) (x16 x17 : Int) (c1_0 c1_1 : Int) (c1_2 c1_3 c1_4 : Int) (c1_5z : Bool) (c1_5 : List T) : St := stOf 48 48 1 [(1, .bp 1 0), (3, .val ⟨(.sl 22 false x3), [.l 3 0], true, some (.l 3 0)⟩), (15, .val ⟨(.sl 79 x15z x15), [], false, none⟩), (16, .val (V.s (.int .i64 x16))), (17, .val (V.s (.int .i64 x17)))] [(1, .cells [V.s (.int .i64 c1_0), V.s (.int .i64 c1_1), V.s (.int .i64 c1_2), V.s (.int .i64 c1_3), V.s (.int .i64 c1_4), ⟨(.sl 79 c1_5z c1_5), [], false, none⟩])]
noncomputable def spec_Tips.K1 : List Fr := framesAt [true, true, true, false, true, false, false, true, true, false, false, true, true, false, true, false] (bodyOf Try.f54 spec_Tips.cuts) []
def spec_Tips.N1 (x3 : List T) (x6 x15z : Bool) (x15 : List T) (x16 x17 : Int) (x22z : Bool) (x22 : List T) (x23 x24 : Int) (c1_0 c1_1 : Int) (c1_2 c1_3 c1_4 : Int) (c1_5z : Bool) (c1_5 : List T) (c5_0 c5_1 c5_2 : Int) (c5_3z : Bool) (c5_3 : List Int) (c5_4z : Bool) (c5_4 : List Int) (c5_5 c5_6 : Int) (c5_7z : Bool) (c5_7 : List Int) (c5_8z : Bool) (c5_8 : List Int) (c5_9z : Bool) (c5_9 : List T) : St := stOf 48 48 1 [(1, .bp 1 0), (3, .val ⟨(.sl 22 false x3), [.l 3 0], true, some (.l 3 0)⟩), (5, .bp 5 0), (6, .val (V.s (.bool x6))), (15, .val ⟨(.sl 79 x15z x15), [], false, none⟩), (16, .val (V.s (.int .i64 x16))), (17, .val (V.s (.int .i64 x17))), (22, .val ⟨(.sl 79 x22z x22), [], false, none⟩), (23, .val (V.s (.int .i64 x23))), (24, .val (V.s (.int .i64 x24)))] [(1, .cells [V.s (.int .i64 c1_0), V.s (.int .i64 c1_1), V.s (.int .i64 c1_2), V.s (.int .i64 c1_3), V.s (.int .i64 c1_4), ⟨(.sl 79 c1_5z c1_5), [], false, none⟩]), (5, .cells [V.s (.int .i64 c5_0), V.s (.int .i64 c5_1), V.s (.int .i64 c5_2), ⟨(.nums 5 .u8 c5_3z c5_3), [], false, none⟩, ⟨(.nums 5 .u8 c5_4z c5_4), [], false, none⟩, V.s (.int .i64 c5_5), V.s (.int .i64 c5_6), ⟨(.nums 5 .u8 c5_7z c5_7), [], false, none⟩, ⟨(.nums 5 .u8 c5_8z c5_8), [], false, none⟩, ⟨(.sl 22 c5_9z c5_9), [], false, none⟩])]
theorem spec_Tips.s0 (k : Nat) (G : List Fr → St → Option Res) (a0_0 a0_1 : Int) (a0_2 a0_3 a0_4 : Int) (a0_5z : Bool) (a0_5 yx3 : List T) (yx15z : Bool) (yx15 : List T) (yx16 yx17 : Int) (yc1_0 yc1_1 : Int) (yc1_2 yc1_3 yc1_4 : Int) (yc1_5z : Bool) (yc1_5 : List T) : resume Try.prog (spec_Tips.Cs k) G (finish Try.prog [] Try.f54 [.v (.agg [(.int .i64 a0_0), (.int .i64 a0_1), (.int .i64 a0_2), (.int .i64 a0_3), (.int .i64 a0_4), (.sl 79 a0_5z a0_5)])]) 100000 spec_Tips.K0 (spec_Tips.N0 yx3 yx15z yx15 yx16 yx17 yc1_0 yc1_1 yc1_2 yc1_3 yc1_4 yc1_5z yc1_5) = spec_Tips.l0b (fun r => some (spec_Tips.enc r)) (fun x3 x15z x15 x16 x17 c1_0 c1_1 c1_2 c1_3 c1_4 c1_5z c1_5 => G spec_Tips.K0 (spec_Tips.N0 x3 x15z x15 x16 x17 c1_0 c1_1 c1_2 c1_3 c1_4 c1_5z c1_5)) (fun x3 x6 x15z x15 x16 x17 x22z x22 x23 x24 c1_0 c1_1 c1_2 c1_3 c1_4 c1_5z c1_5 c5_0 c5_1 c5_2 c5_3z c5_3 c5_4z c5_4 c5_5 c5_6 c5_7z c5_7 c5_8z c5_8 c5_9z c5_9 => G spec_Tips.K1 (spec_Tips.N1 x3 x6 x15z x15 x16 x17 x22z x22 x23 x24 c1_0 c1_1 c1_2 c1_3 c1_4 c1_5z c1_5 c5_0 c5_1 c5_2 c5_3z c5_3 c5_4z c5_4 c5_5 c5_6 c5_7z c5_7 c5_8z c5_8 c5_9z c5_9)) k yx3 yx15z yx15 yx16 yx17 yc1_0 yc1_1 yc1_2 yc1_3 yc1_4 yc1_5z yc1_5 := by kernel_rfl
theorem spec_Tips.s1 (k : Nat) (G : List Fr → St → Option Res) (a0_0 a0_1 : Int) (a0_2 a0_3 a0_4 : Int) (a0_5z : Bool) (a0_5 yx3 : List T) (yx6 yx15z : Bool) (yx15 : List T) (yx16 yx17 : Int) (yx22z : Bool) (yx22 : List T) (yx23 yx24 : Int) (yc1_0 yc1_1 : Int) (yc1_2 yc1_3 yc1_4 : Int) (yc1_5z : Bool) (yc1_5 : List T) (yc5_0 yc5_1 yc5_2 : Int) (yc5_3z : Bool) (yc5_3 : List Int) (yc5_4z : Bool) (yc5_4 : List Int) (yc5_5 yc5_6 : Int) (yc5_7z : Bool) (yc5_7 : List Int) (yc5_8z : Bool) (yc5_8 : List Int) (yc5_9z : Bool) (yc5_9 : List T) : resume Try.prog (spec_Tips.Cs k) G (finish Try.prog [] Try.f54 [.v (.agg [(.int .i64 a0_0), (.int .i64 a0_1), (.int .i64 a0_2), (.int .i64 a0_3), (.int .i64 a0_4), (.sl 79 a0_5z a0_5)])]) 100000 spec_Tips.K1 (spec_Tips.N1 yx3 yx6 yx15z yx15 yx16 yx17 yx22z yx22 yx23 yx24 yc1_0 yc1_1 yc1_2 yc1_3 yc1_4 yc1_5z yc1_5 yc5_0 yc5_1 yc5_2 yc5_3z yc5_3 yc5_4z yc5_4 yc5_5 yc5_6 yc5_7z yc5_7 yc5_8z yc5_8 yc5_9z yc5_9) = spec_Tips.l1b (fun r => some (spec_Tips.enc r)) (fun x3 x15z x15 x16 x17 c1_0 c1_1 c1_2 c1_3 c1_4 c1_5z c1_5 => G spec_Tips.K0 (spec_Tips.N0 x3 x15z x15 x16 x17 c1_0 c1_1 c1_2 c1_3 c1_4 c1_5z c1_5)) (fun x3 x6 x15z x15 x16 x17 x22z x22 x23 x24 c1_0 c1_1 c1_2 c1_3 c1_4 c1_5z c1_5 c5_0 c5_1 c5_2 c5_3z c5_3 c5_4z c5_4 c5_5 c5_6 c5_7z c5_7 c5_8z c5_8 c5_9z c5_9 => G spec_Tips.K1 (spec_Tips.N1 x3 x6 x15z x15 x16 x17 x22z x22 x23 x24 c1_0 c1_1 c1_2 c1_3 c1_4 c1_5z c1_5 c5_0 c5_1 c5_2 c5_3z c5_3 c5_4z c5_4 c5_5 c5_6 c5_7z c5_7 c5_8z c5_8 c5_9z c5_9)) k yx3 yx6 yx15z yx15 yx16 yx17 yx22z yx22 yx23 yx24 yc1_0 yc1_1 yc1_2 yc1_3 yc1_4 yc1_5z yc1_5 yc5_0 yc5_1 yc5_2 yc5_3z yc5_3 yc5_4z yc5_4 yc5_5 yc5_6 yc5_7z yc5_7 yc5_8z yc5_8 yc5_9z yc5_9 := by kernel_rfl
theorem spec_Tips.bn {R R' : Type} (e : R → R') (ret : Bool × List T → Option R) (j0 : (List T) → Bool → (List T) → Int → Int → Int → Int → Int → Int → Int → Bool → (List T) → Option R) (j1 : (List T) → Bool → Bool → (List T) → Int → Int → Bool → (List T) → Int → Int → Int → Int → Int → Int → Int → Bool → (List T) → Int → Int → Int → Bool → (List Int) → Bool → (List Int) → Int → Int → Bool → (List Int) → Bool → (List Int) → Bool → (List T) → Option R) (k : Nat) (a0_0 a0_1 : Int) (a0_2 a0_3 a0_4 : Int) (a0_5z : Bool) (a0_5 : List T) : spec_Tips.b (fun r => (ret r).map e) (fun x3 x15z x15 x16 x17 c1_0 c1_1 c1_2 c1_3 c1_4 c1_5z c1_5 => (j0 x3 x15z x15 x16 x17 c1_0 c1_1 c1_2 c1_3 c1_4 c1_5z c1_5).map e) (fun x3 x6 x15z x15 x16 x17 x22z x22 x23 x24 c1_0 c1_1 c1_2 c1_3 c1_4 c1_5z c1_5 c5_0 c5_1 c5_2 c5_3z c5_3 c5_4z c5_4 c5_5 c5_6 c5_7z c5_7 c5_8z c5_8 c5_9z c5_9 => (j1 x3 x6 x15z x15 x16 x17 x22z x22 x23 x24 c1_0 c1_1 c1_2 c1_3 c1_4 c1_5z c1_5 c5_0 c5_1 c5_2 c5_3z c5_3 c5_4z c5_4 c5_5 c5_6 c5_7z c5_7 c5_8z c5_8 c5_9z c5_9).map e) k a0_0 a0_1 a0_2 a0_3 a0_4 a0_5z a0_5 = (spec_Tips.b ret j0 j1 k a0_0 a0_1 a0_2 a0_3 a0_4 a0_5z a0_5).map e := by
  unfold spec_Tips.b
  repeat' first | with_reducible refine nat_cond ?_ ?_ | with_reducible refine nat_bind fun _ => ?_ | rfl
theorem spec_Tips.l0n {R R' : Type} (e : R → R') (ret : Bool × List T → Option R) (j0 : (List T) → Bool → (List T) → Int → Int → Int → Int → Int → Int → Int → Bool → (List T) → Option R) (j1 : (List T) → Bool → Bool → (List T) → Int → Int → Bool → (List T) → Int → Int → Int → Int → Int → Int → Int → Bool → (List T) → Int → Int → Int → Bool → (List Int) → Bool → (List Int) → Int → Int → Bool → (List Int) → Bool → (List Int) → Bool → (List T) → Option R) (k : Nat) (x3 : List T) (x15z : Bool) (x15 : List T) (x16 x17 : Int) (c1_0 c1_1 : Int) (c1_2 c1_3 c1_4 : Int) (c1_5z : Bool) (c1_5 : List T) : spec_Tips.l0b (fun r => (ret r).map e) (fun x3 x15z x15 x16 x17 c1_0 c1_1 c1_2 c1_3 c1_4 c1_5z c1_5 => (j0 x3 x15z x15 x16 x17 c1_0 c1_1 c1_2 c1_3 c1_4 c1_5z c1_5).map e) (fun x3 x6 x15z x15 x16 x17 x22z x22 x23 x24 c1_0 c1_1 c1_2 c1_3 c1_4 c1_5z c1_5 c5_0 c5_1 c5_2 c5_3z c5_3 c5_4z c5_4 c5_5 c5_6 c5_7z c5_7 c5_8z c5_8 c5_9z c5_9 => (j1 x3 x6 x15z x15 x16 x17 x22z x22 x23 x24 c1_0 c1_1 c1_2 c1_3 c1_4 c1_5z c1_5 c5_0 c5_1 c5_2 c5_3z c5_3 c5_4z c5_4 c5_5 c5_6 c5_7z c5_7 c5_8z c5_8 c5_9z c5_9).map e) k x3 x15z x15 x16 x17 c1_0 c1_1 c1_2 c1_3 c1_4 c1_5z c1_5 = (spec_Tips.l0b ret j0 j1 k x3 x15z x15 x16 x17 c1_0 c1_1 c1_2 c1_3 c1_4 c1_5z c1_5).map e := by
  unfold spec_Tips.l0b
  repeat' first | with_reducible refine nat_cond ?_ ?_ | with_reducible refine nat_bind fun _ => ?_ | rfl
theorem spec_Tips.l1n {R R' : Type} (e : R → R') (ret : Bool × List T → Option R) (j0 : (List T) → Bool → (List T) → Int → Int → Int → Int → Int → Int → Int → Bool → (List T) → Option R) (j1 : (List T) → Bool → Bool → (List T) → Int → Int → Bool → (List T) → Int → Int → Int → Int → Int → Int → Int → Bool → (List T) → Int → Int → Int → Bool → (List Int) → Bool → (List Int) → Int → Int → Bool → (List Int) → Bool → (List Int) → Bool → (List T) → Option R) (k : Nat) (x3 : List T) (x6 x15z : Bool) (x15 : List T) (x16 x17 : Int) (x22z : Bool) (x22 : List T) (x23 x24 : Int) (c1_0 c1_1 : Int) (c1_2 c1_3 c1_4 : Int) (c1_5z : Bool) (c1_5 : List T) (c5_0 c5_1 c5_2 : Int) (c5_3z : Bool) (c5_3 : List Int) (c5_4z : Bool) (c5_4 : List Int) (c5_5 c5_6 : Int) (c5_7z : Bool) (c5_7 : List Int) (c5_8z : Bool) (c5_8 : List Int) (c5_9z : Bool) (c5_9 : List T) : spec_Tips.l1b (fun r => (ret r).map e) (fun x3 x15z x15 x16 x17 c1_0 c1_1 c1_2 c1_3 c1_4 c1_5z c1_5 => (j0 x3 x15z x15 x16 x17 c1_0 c1_1 c1_2 c1_3 c1_4 c1_5z c1_5).map e) (fun x3 x6 x15z x15 x16 x17 x22z x22 x23 x24 c1_0 c1_1 c1_2 c1_3 c1_4 c1_5z c1_5 c5_0 c5_1 c5_2 c5_3z c5_3 c5_4z c5_4 c5_5 c5_6 c5_7z c5_7 c5_8z c5_8 c5_9z c5_9 => (j1 x3 x6 x15z x15 x16 x17 x22z x22 x23 x24 c1_0 c1_1 c1_2 c1_3 c1_4 c1_5z c1_5 c5_0 c5_1 c5_2 c5_3z c5_3 c5_4z c5_4 c5_5 c5_6 c5_7z c5_7 c5_8z c5_8 c5_9z c5_9).map e) k x3 x6 x15z x15 x16 x17 x22z x22 x23 x24 c1_0 c1_1 c1_2 c1_3 c1_4 c1_5z c1_5 c5_0 c5_1 c5_2 c5_3z c5_3 c5_4z c5_4 c5_5 c5_6 c5_7z c5_7 c5_8z c5_8 c5_9z c5_9 = (spec_Tips.l1b ret j0 j1 k x3 x6 x15z x15 x16 x17 x22z x22 x23 x24 c1_0 c1_1 c1_2 c1_3 c1_4 c1_5z c1_5 c5_0 c5_1 c5_2 c5_3z c5_3 c5_4z c5_4 c5_5 c5_6 c5_7z c5_7 c5_8z c5_8 c5_9z c5_9).map e := by
  unfold spec_Tips.l1b
  repeat' first | with_reducible refine nat_cond ?_ ?_ | with_reducible refine nat_bind fun _ => ?_ | rfl
theorem spec_Tips.rq (a0_0 a0_1 : Int) (a0_2 a0_3 a0_4 : Int) (a0_5z : Bool) (a0_5 : List T) : ∀ k, (∀ (x3 : List T) (x15z : Bool) (x15 : List T) (x16 x17 : Int) (c1_0 c1_1 : Int) (c1_2 c1_3 c1_4 : Int) (c1_5z : Bool) (c1_5 : List T), rounds Try.prog spec_Tips.Cs (finish Try.prog [] Try.f54 [.v (.agg [(.int .i64 a0_0), (.int .i64 a0_1), (.int .i64 a0_2), (.int .i64 a0_3), (.int .i64 a0_4), (.sl 79 a0_5z a0_5)])]) 100000 k spec_Tips.K0 (spec_Tips.N0 x3 x15z x15 x16 x17 c1_0 c1_1 c1_2 c1_3 c1_4 c1_5z c1_5) = (spec_Tips.l0 k x3 x15z x15 x16 x17 c1_0 c1_1 c1_2 c1_3 c1_4 c1_5z c1_5).map spec_Tips.enc) ∧ (∀ (x3 : List T) (x6 x15z : Bool) (x15 : List T) (x16 x17 : Int) (x22z : Bool) (x22 : List T) (x23 x24 : Int) (c1_0 c1_1 : Int) (c1_2 c1_3 c1_4 : Int) (c1_5z : Bool) (c1_5 : List T) (c5_0 c5_1 c5_2 : Int) (c5_3z : Bool) (c5_3 : List Int) (c5_4z : Bool) (c5_4 : List Int) (c5_5 c5_6 : Int) (c5_7z : Bool) (c5_7 : List Int) (c5_8z : Bool) (c5_8 : List Int) (c5_9z : Bool) (c5_9 : List T), rounds Try.prog spec_Tips.Cs (finish Try.prog [] Try.f54 [.v (.agg [(.int .i64 a0_0), (.int .i64 a0_1), (.int .i64 a0_2), (.int .i64 a0_3), (.int .i64 a0_4), (.sl 79 a0_5z a0_5)])]) 100000 k spec_Tips.K1 (spec_Tips.N1 x3 x6 x15z x15 x16 x17 x22z x22 x23 x24 c1_0 c1_1 c1_2 c1_3 c1_4 c1_5z c1_5 c5_0 c5_1 c5_2 c5_3z c5_3 c5_4z c5_4 c5_5 c5_6 c5_7z c5_7 c5_8z c5_8 c5_9z c5_9) = (spec_Tips.l1 k x3 x6 x15z x15 x16 x17 x22z x22 x23 x24 c1_0 c1_1 c1_2 c1_3 c1_4 c1_5z c1_5 c5_0 c5_1 c5_2 c5_3z c5_3 c5_4z c5_4 c5_5 c5_6 c5_7z c5_7 c5_8z c5_8 c5_9z c5_9).map spec_Tips.enc)
  | 0 => ⟨fun _ _ _ _ _ _ _ _ _ _ _ _ => rfl, fun _ _ _ _ _ _ _ _ _ _ _ _ _ _ _ _ _ _ _ _ _ _ _ _ _ _ _ _ _ _ _ _ => rfl⟩
  | k + 1 => by
    have ih := spec_Tips.rq a0_0 a0_1 a0_2 a0_3 a0_4 a0_5z a0_5 k
    refine ⟨fun _ _ _ _ _ _ _ _ _ _ _ _ => ?_, fun _ _ _ _ _ _ _ _ _ _ _ _ _ _ _ _ _ _ _ _ _ _ _ _ _ _ _ _ _ _ _ _ => ?_⟩
    · refine (spec_Tips.s0 k _ a0_0 a0_1 a0_2 a0_3 a0_4 a0_5z a0_5 _ _ _ _ _ _ _ _ _ _ _ _).trans (Eq.trans ?_ (spec_Tips.l0n spec_Tips.enc some (spec_Tips.l0 k) (spec_Tips.l1 k) k _ _ _ _ _ _ _ _ _ _ _ _))
      simp only [ih.1, ih.2, Option.map_some]
    · refine (spec_Tips.s1 k _ a0_0 a0_1 a0_2 a0_3 a0_4 a0_5z a0_5 _ _ _ _ _ _ _ _ _ _ _ _ _ _ _ _ _ _ _ _ _ _ _ _ _ _ _ _ _ _ _ _).trans (Eq.trans ?_ (spec_Tips.l1n spec_Tips.enc some (spec_Tips.l0 k) (spec_Tips.l1 k) k _ _ _ _ _ _ _ _ _ _ _ _ _ _ _ _ _ _ _ _ _ _ _ _ _ _ _ _ _ _ _ _))
      simp only [ih.1, ih.2, Option.map_some]
theorem spec_Tips.eq (k : Nat) (a0_0 a0_1 : Int) (a0_2 a0_3 a0_4 : Int) (a0_5z : Bool) (a0_5 : List T) : answer Try.prog spec_Tips.Cs 100000 spec_Tips.cuts [] Try.f54 (k + 1) [.v (.agg [(.int .i64 a0_0), (.int .i64 a0_1), (.int .i64 a0_2), (.int .i64 a0_3), (.int .i64 a0_4), (.sl 79 a0_5z a0_5)])] = (spec_Tips.f (k + 1) a0_0 a0_1 a0_2 a0_3 a0_4 a0_5z a0_5).map spec_Tips.enc := by
  have ih := spec_Tips.rq a0_0 a0_1 a0_2 a0_3 a0_4 a0_5z a0_5 k
  refine Eq.trans (b := spec_Tips.b (fun r => some (spec_Tips.enc r)) (fun x3 x15z x15 x16 x17 c1_0 c1_1 c1_2 c1_3 c1_4 c1_5z c1_5 => rounds Try.prog spec_Tips.Cs (finish Try.prog [] Try.f54 [.v (.agg [(.int .i64 a0_0), (.int .i64 a0_1), (.int .i64 a0_2), (.int .i64 a0_3), (.int .i64 a0_4), (.sl 79 a0_5z a0_5)])]) 100000 k spec_Tips.K0 (spec_Tips.N0 x3 x15z x15 x16 x17 c1_0 c1_1 c1_2 c1_3 c1_4 c1_5z c1_5)) (fun x3 x6 x15z x15 x16 x17 x22z x22 x23 x24 c1_0 c1_1 c1_2 c1_3 c1_4 c1_5z c1_5 c5_0 c5_1 c5_2 c5_3z c5_3 c5_4z c5_4 c5_5 c5_6 c5_7z c5_7 c5_8z c5_8 c5_9z c5_9 => rounds Try.prog spec_Tips.Cs (finish Try.prog [] Try.f54 [.v (.agg [(.int .i64 a0_0), (.int .i64 a0_1), (.int .i64 a0_2), (.int .i64 a0_3), (.int .i64 a0_4), (.sl 79 a0_5z a0_5)])]) 100000 k spec_Tips.K1 (spec_Tips.N1 x3 x6 x15z x15 x16 x17 x22z x22 x23 x24 c1_0 c1_1 c1_2 c1_3 c1_4 c1_5z c1_5 c5_0 c5_1 c5_2 c5_3z c5_3 c5_4z c5_4 c5_5 c5_6 c5_7z c5_7 c5_8z c5_8 c5_9z c5_9)) k a0_0 a0_1 a0_2 a0_3 a0_4 a0_5z a0_5) (by kernel_rfl) (Eq.trans ?_ (spec_Tips.bn spec_Tips.enc some (spec_Tips.l0 k) (spec_Tips.l1 k) k a0_0 a0_1 a0_2 a0_3 a0_4 a0_5z a0_5))
  simp only [ih.1, ih.2, Option.map_some]
theorem spec_Tips.sound (k : Nat) : SoundF Try.prog 54 (fun a => (spec_Tips.ans k a).val) := by
  refine sound_plain (fun args res h => ?_) (fun t n => rfl)
  unfold spec_Tips.ans at h
  dsimp only at h
  split at h
  · cases k with
    | zero => cases h
    | succ k =>
      unfold Ans.val at h
      rw [← spec_Tips.eq] at h
      exact answer_sound mixed Try.func54 _ _ _ (k + 1) (fun j _ => tab_sound (tab_cons (spec_ForestOk.sound j) (tab_cons (spec_HeadHash.sound j) (tab_cons (spec_Links.sound j) (tab_nil))))) _ _ h
  · exact (Ans.no_val h).elim

def impl_within.b {R : Type} (ret : Bool → Option R) (k : Nat) (a0 a1 a2 : Int) : Option R :=
  cond (decide (a1 ≤ a0)) (ret (decide (a0 ≤ a2))) (ret false)
def impl_within.f : Nat → Int → Int → Int → Option Bool
  | 0, _, _, _ => none
  | k + 1, a0, a1, a2 => impl_within.b some k a0 a1 a2
def impl_within.enc (r : Bool) : Res := ⟨[.vals false [((.bool r), true)]], []⟩
def impl_within.ans (k : Nat) : List Arg → Ans
  | [.v (.int .i64 a0), .v (.int .i64 a1), .v (.int .i64 a2)] => ⟨impl_within.f k a0 a1 a2, impl_within.enc⟩
  | _ => Ans.no
def impl_within.Cs (k : Nat) : CallSem := tab []
theorem impl_within.eq (k : Nat) (a0 a1 a2 : Int) : answer Try.prog impl_within.Cs 100000 [] [] Try.f79 (k + 1) [.v (.int .i64 a0), .v (.int .i64 a1), .v (.int .i64 a2)] = (impl_within.f (k + 1) a0 a1 a2).map impl_within.enc := by
  refine Eq.trans (b := impl_within.b (fun r => some (impl_within.enc r)) k a0 a1 a2) (by kernel_rfl) ?_
  show _ = (impl_within.b some k a0 a1 a2).map impl_within.enc
  unfold impl_within.b
  repeat' first | with_reducible refine nat_cond ?_ ?_ | with_reducible refine nat_bind fun _ => ?_ | rfl
theorem impl_within.sound (k : Nat) : SoundF Try.prog 79 (fun a => (impl_within.ans k a).val) := by
  refine sound_plain (fun args res h => ?_) (fun t n => rfl)
  unfold impl_within.ans at h
  dsimp only at h
  split at h
  · cases k with
    | zero => cases h
    | succ k =>
      unfold Ans.val at h
      rw [← impl_within.eq] at h
      exact answer_sound mixed Try.func79 _ _ _ (k + 1) (fun j _ => tab_sound (tab_nil)) _ _ h
  · exact (Ans.no_val h).elim

def impl_LimitsOk.b {R : Type} (ret : Bool → Option R) (k : Nat) (a0_0 a0_1 : Int) (a0_2 a0_3 a0_4 : Int) : Option R :=
  (impl_within.f k a0_0 1 10).bind fun t0 => cond t0 ((impl_within.f k a0_1 0 40).bind fun t1 => cond t1 ((impl_within.f k a0_2 0 8).bind fun t2 => cond t2 ((impl_within.f k a0_3 1 4000).bind fun t3 => cond t3 ((impl_within.f k a0_4 3 5).bind fun t4 => ret t4) (ret false)) (ret false)) (ret false)) (ret false)
def impl_LimitsOk.f : Nat → Int → Int → Int → Int → Int → Option Bool
  | 0, _, _, _, _, _ => none
  | k + 1, a0_0, a0_1, a0_2, a0_3, a0_4 => impl_LimitsOk.b some k a0_0 a0_1 a0_2 a0_3 a0_4
def impl_LimitsOk.enc (r : Bool) : Res := ⟨[.vals false [((.bool r), true)]], []⟩
def impl_LimitsOk.ans (k : Nat) : List Arg → Ans
  | [.v (.agg [(.int .i64 a0_0), (.int .i64 a0_1), (.int .i64 a0_2), (.int .i64 a0_3), (.int .i64 a0_4)])] => ⟨impl_LimitsOk.f k a0_0 a0_1 a0_2 a0_3 a0_4, impl_LimitsOk.enc⟩
  | _ => Ans.no
def impl_LimitsOk.Cs (k : Nat) : CallSem := tab [(79, impl_within.ans k)]
theorem impl_LimitsOk.eq (k : Nat) (a0_0 a0_1 : Int) (a0_2 a0_3 a0_4 : Int) : answer Try.prog impl_LimitsOk.Cs 100000 [] [] Try.f92 (k + 1) [.v (.agg [(.int .i64 a0_0), (.int .i64 a0_1), (.int .i64 a0_2), (.int .i64 a0_3), (.int .i64 a0_4)])] = (impl_LimitsOk.f (k + 1) a0_0 a0_1 a0_2 a0_3 a0_4).map impl_LimitsOk.enc := by
  refine Eq.trans (b := impl_LimitsOk.b (fun r => some (impl_LimitsOk.enc r)) k a0_0 a0_1 a0_2 a0_3 a0_4) (by kernel_rfl) ?_
  show _ = (impl_LimitsOk.b some k a0_0 a0_1 a0_2 a0_3 a0_4).map impl_LimitsOk.enc
  unfold impl_LimitsOk.b
  repeat' first | with_reducible refine nat_cond ?_ ?_ | with_reducible refine nat_bind fun _ => ?_ | rfl
theorem impl_LimitsOk.sound (k : Nat) : SoundF Try.prog 92 (fun a => (impl_LimitsOk.ans k a).val) := by
  refine sound_plain (fun args res h => ?_) (fun t n => rfl)
  unfold impl_LimitsOk.ans at h
  dsimp only at h
  split at h
  · cases k with
    | zero => cases h
    | succ k =>
      unfold Ans.val at h
      rw [← impl_LimitsOk.eq] at h
      exact answer_sound mixed Try.func92 _ _ _ (k + 1) (fun j _ => tab_sound (tab_cons (impl_within.sound j) (tab_nil))) _ _ h
  · exact (Ans.no_val h).elim

def impl_isNum.b {R : Type} (ret : Bool → Option R) (k : Nat) (a0 : Int) : Option R :=
  (impl_within.f k a0 0 1152921504606846975).bind fun t0 => ret t0
def impl_isNum.f : Nat → Int → Option Bool
  | 0, _ => none
  | k + 1, a0 => impl_isNum.b some k a0
def impl_isNum.enc (r : Bool) : Res := ⟨[.vals false [((.bool r), true)]], []⟩
def impl_isNum.ans (k : Nat) : List Arg → Ans
  | [.v (.int .i64 a0)] => ⟨impl_isNum.f k a0, impl_isNum.enc⟩
  | _ => Ans.no
def impl_isNum.Cs (k : Nat) : CallSem := tab [(79, impl_within.ans k)]
theorem impl_isNum.eq (k : Nat) (a0 : Int) : answer Try.prog impl_isNum.Cs 100000 [] [] Try.f93 (k + 1) [.v (.int .i64 a0)] = (impl_isNum.f (k + 1) a0).map impl_isNum.enc := by
  refine Eq.trans (b := impl_isNum.b (fun r => some (impl_isNum.enc r)) k a0) (by kernel_rfl) ?_
  show _ = (impl_isNum.b some k a0).map impl_isNum.enc
  unfold impl_isNum.b
  repeat' first | with_reducible refine nat_cond ?_ ?_ | with_reducible refine nat_bind fun _ => ?_ | rfl
theorem impl_isNum.sound (k : Nat) : SoundF Try.prog 93 (fun a => (impl_isNum.ans k a).val) := by
  refine sound_plain (fun args res h => ?_) (fun t n => rfl)
  unfold impl_isNum.ans at h
  dsimp only at h
  split at h
  · cases k with
    | zero => cases h
    | succ k =>
      unfold Ans.val at h
      rw [← impl_isNum.eq] at h
      exact answer_sound mixed Try.func93 _ _ _ (k + 1) (fun j _ => tab_sound (tab_cons (impl_within.sound j) (tab_nil))) _ _ h
  · exact (Ans.no_val h).elim

def impl_areHashes.b {R : Type} (ret : Bool → Option R) (j0 : Bool → (List T) → Int → Int → Option R) (k : Nat) (a0z : Bool) (a0 : List T) : Option R :=
  j0 a0z a0 ((a0).length : Int) 0
def impl_areHashes.l0b {R : Type} (ret : Bool → Option R) (j0 : Bool → (List T) → Int → Int → Option R) (k : Nat) (x5z : Bool) (x5 : List T) (x6 x7 : Int) : Option R :=
  cond (decide (x7 < x6)) (cond (decide ((0 : Int) ≤ x7)) (cond (decide (x7 < ((x5).length : Int))) (cond (!(decide (((((((x5).getD (x7).toNat .bad).cells.getD 0 .bad)).toNums).length : Int) = 32))) (ret false) (j0 x5z x5 x6 (RowKit.wrap64 (x7 + 1)))) (none)) (none)) (ret true)
def impl_areHashes.l0 : Nat → Bool → (List T) → Int → Int → Option Bool
  | 0, _, _, _, _ => none
  | k + 1, x5z, x5, x6, x7 => impl_areHashes.l0b some (impl_areHashes.l0 k) k x5z x5 x6 x7
def impl_areHashes.f : Nat → Bool → (List T) → Option Bool
  | 0, _, _ => none
  | k + 1, a0z, a0 => impl_areHashes.b some (impl_areHashes.l0 k) k a0z a0
def impl_areHashes.enc (r : Bool) : Res := ⟨[.vals false [((.bool r), true)]], []⟩
def impl_areHashes.ans (k : Nat) : List Arg → Ans
  | [.v (.sl 22 a0z a0)] => ⟨impl_areHashes.f k a0z a0, impl_areHashes.enc⟩
  | _ => Ans.no
def impl_areHashes.Cs (k : Nat) : CallSem := tab []
def impl_areHashes.cuts : List (Nat × Keep) := [(26, ⟨[(5, some []), (6, some []), (7, some [])], []⟩)]
noncomputable def impl_areHashes.K0 : List Fr := framesAt [true, false, true, false] (bodyOf Try.f85 impl_areHashes.cuts) []
def impl_areHashes.N0 (x5z : Bool) (x5 : List T) (x6 x7 : Int) : St := stOf 15 15 1 [(5, .val ⟨(.sl 22 x5z x5), [], false, none⟩), (6, .val (V.s (.int .i64 x6))), (7, .val (V.s (.int .i64 x7)))] []
theorem impl_areHashes.s0 (k : Nat) (G : List Fr → St → Option Res) (a0z : Bool) (a0 : List T) (yx5z : Bool) (yx5 : List T) (yx6 yx7 : Int) : resume Try.prog (impl_areHashes.Cs k) G (finish Try.prog [] Try.f85 [.v (.sl 22 a0z a0)]) 100000 impl_areHashes.K0 (impl_areHashes.N0 yx5z yx5 yx6 yx7) = impl_areHashes.l0b (fun r => some (impl_areHashes.enc r)) (fun x5z x5 x6 x7 => G impl_areHashes.K0 (impl_areHashes.N0 x5z x5 x6 x7)) k yx5z yx5 yx6 yx7 := by kernel_rfl
theorem impl_areHashes.bn {R R' : Type} (e : R → R') (ret : Bool → Option R) (j0 : Bool → (List T) → Int → Int → Option R) (k : Nat) (a0z : Bool) (a0 : List T) : impl_areHashes.b (fun r => (ret r).map e) (fun x5z x5 x6 x7 => (j0 x5z x5 x6 x7).map e) k a0z a0 = (impl_areHashes.b ret j0 k a0z a0).map e := by
  unfold impl_areHashes.b
  repeat' first | with_reducible refine nat_cond ?_ ?_ | with_reducible refine nat_bind fun _ => ?_ | rfl
theorem impl_areHashes.l0n {R R' : Type} (e : R → R') (ret : Bool → Option R) (j0 : Bool → (List T) → Int → Int → Option R) (k : Nat) (x5z : Bool) (x5 : List T) (x6 x7 : Int) : impl_areHashes.l0b (fun r => (ret r).map e) (fun x5z x5 x6 x7 => (j0 x5z x5 x6 x7).map e) k x5z x5 x6 x7 = (impl_areHashes.l0b ret j0 k x5z x5 x6 x7).map e := by
  unfold impl_areHashes.l0b
  repeat' first | with_reducible refine nat_cond ?_ ?_ | with_reducible refine nat_bind fun _ => ?_ | rfl
theorem impl_areHashes.rq (a0z : Bool) (a0 : List T) : ∀ k, (∀ (x5z : Bool) (x5 : List T) (x6 x7 : Int), rounds Try.prog impl_areHashes.Cs (finish Try.prog [] Try.f85 [.v (.sl 22 a0z a0)]) 100000 k impl_areHashes.K0 (impl_areHashes.N0 x5z x5 x6 x7) = (impl_areHashes.l0 k x5z x5 x6 x7).map impl_areHashes.enc)
  | 0 => fun _ _ _ _ => rfl
  | k + 1 => by
    have ih := impl_areHashes.rq a0z a0 k
    refine fun _ _ _ _ => ?_
    · refine (impl_areHashes.s0 k _ a0z a0 _ _ _ _).trans (Eq.trans ?_ (impl_areHashes.l0n impl_areHashes.enc some (impl_areHashes.l0 k) k _ _ _ _))
      simp only [ih, Option.map_some]
theorem impl_areHashes.eq (k : Nat) (a0z : Bool) (a0 : List T) : answer Try.prog impl_areHashes.Cs 100000 impl_areHashes.cuts [] Try.f85 (k + 1) [.v (.sl 22 a0z a0)] = (impl_areHashes.f (k + 1) a0z a0).map impl_areHashes.enc := by
  have ih := impl_areHashes.rq a0z a0 k
  refine Eq.trans (b := impl_areHashes.b (fun r => some (impl_areHashes.enc r)) (fun x5z x5 x6 x7 => rounds Try.prog impl_areHashes.Cs (finish Try.prog [] Try.f85 [.v (.sl 22 a0z a0)]) 100000 k impl_areHashes.K0 (impl_areHashes.N0 x5z x5 x6 x7)) k a0z a0) (by kernel_rfl) (Eq.trans ?_ (impl_areHashes.bn impl_areHashes.enc some (impl_areHashes.l0 k) k a0z a0))
  simp only [ih, Option.map_some]
theorem impl_areHashes.sound (k : Nat) : SoundF Try.prog 85 (fun a => (impl_areHashes.ans k a).val) := by
  refine sound_plain (fun args res h => ?_) (fun t n => rfl)
  unfold impl_areHashes.ans at h
  dsimp only at h
  split at h
  · cases k with
    | zero => cases h
    | succ k =>
      unfold Ans.val at h
      rw [← impl_areHashes.eq] at h
      exact answer_sound mixed Try.func85 _ _ _ (k + 1) (fun j _ => tab_sound (tab_nil)) _ _ h
  · exact (Ans.no_val h).elim

def impl_BitsSize.b {R : Type} (ret : Int → Option R) (k : Nat) (a0 : Int) : Option R :=
  cond (decide (a0 < 1)) (ret 0) (ret (RowKit.wrap64 ((RowKit.wrap64 (Int.tdiv (RowKit.wrap64 (a0 - 1)) 8)) + 1)))
def impl_BitsSize.f : Nat → Int → Option Int
  | 0, _ => none
  | k + 1, a0 => impl_BitsSize.b some k a0
def impl_BitsSize.enc (r : Int) : Res := ⟨[.vals false [((.int .i64 r), true)]], []⟩
def impl_BitsSize.ans (k : Nat) : List Arg → Ans
  | [.v (.int .i64 a0)] => ⟨impl_BitsSize.f k a0, impl_BitsSize.enc⟩
  | _ => Ans.no
def impl_BitsSize.Cs (k : Nat) : CallSem := tab []
theorem impl_BitsSize.eq (k : Nat) (a0 : Int) : answer Try.prog impl_BitsSize.Cs 100000 [] [] Try.f153 (k + 1) [.v (.int .i64 a0)] = (impl_BitsSize.f (k + 1) a0).map impl_BitsSize.enc := by
  refine Eq.trans (b := impl_BitsSize.b (fun r => some (impl_BitsSize.enc r)) k a0) (by kernel_rfl) ?_
  show _ = (impl_BitsSize.b some k a0).map impl_BitsSize.enc
  unfold impl_BitsSize.b
  repeat' first | with_reducible refine nat_cond ?_ ?_ | with_reducible refine nat_bind fun _ => ?_ | rfl
theorem impl_BitsSize.sound (k : Nat) : SoundF Try.prog 153 (fun a => (impl_BitsSize.ans k a).val) := by
  refine sound_plain (fun args res h => ?_) (fun t n => rfl)
  unfold impl_BitsSize.ans at h
  dsimp only at h
  split at h
  · cases k with
    | zero => cases h
    | succ k =>
      unfold Ans.val at h
      rw [← impl_BitsSize.eq] at h
      exact answer_sound mixed Try.func153 _ _ _ (k + 1) (fun j _ => tab_sound (tab_nil)) _ _ h
  · exact (Ans.no_val h).elim

def impl_BitsHas.b {R : Type} (ret : Bool → Option R) (k : Nat) (a0z : Bool) (a0 : List Int) (a1 : Int) : Option R :=
  (impl_within.f k a1 0 (RowKit.wrap64 ((RowKit.wrap64 ((8 : Int) * ((a0).length : Int))) - 1))).bind fun t0 => cond t0 (cond (decide ((0 : Int) ≤ (RowKit.wrap64 (Int.tdiv a1 8)))) (cond (decide ((RowKit.wrap64 (Int.tdiv a1 8)) < ((a0).length : Int))) (cond (decide ((0 : Int) ≤ (Int.tmod a1 8))) (ret (decide ((Go.bits .and .u8 (shrI .u8 (rdI a0 (RowKit.wrap64 (Int.tdiv a1 8))) (Int.tmod a1 8)) 1) = 1))) (none)) (none)) (none)) (ret false)
def impl_BitsHas.f : Nat → Bool → (List Int) → Int → Option Bool
  | 0, _, _, _ => none
  | k + 1, a0z, a0, a1 => impl_BitsHas.b some k a0z a0 a1
def impl_BitsHas.enc (r : Bool) : Res := ⟨[.vals false [((.bool r), true)]], []⟩
def impl_BitsHas.ans (k : Nat) : List Arg → Ans
  | [.v (.nums 5 .u8 a0z a0), .v (.int .i64 a1)] => ⟨impl_BitsHas.f k a0z a0 a1, impl_BitsHas.enc⟩
  | _ => Ans.no
def impl_BitsHas.Cs (k : Nat) : CallSem := tab [(79, impl_within.ans k)]
theorem impl_BitsHas.eq (k : Nat) (a0z : Bool) (a0 : List Int) (a1 : Int) : answer Try.prog impl_BitsHas.Cs 100000 [] [] Try.f51 (k + 1) [.v (.nums 5 .u8 a0z a0), .v (.int .i64 a1)] = (impl_BitsHas.f (k + 1) a0z a0 a1).map impl_BitsHas.enc := by
  refine Eq.trans (b := impl_BitsHas.b (fun r => some (impl_BitsHas.enc r)) k a0z a0 a1) (by kernel_rfl) ?_
  show _ = (impl_BitsHas.b some k a0z a0 a1).map impl_BitsHas.enc
  unfold impl_BitsHas.b
  repeat' first | with_reducible refine nat_cond ?_ ?_ | with_reducible refine nat_bind fun _ => ?_ | rfl
theorem impl_BitsHas.sound (k : Nat) : SoundF Try.prog 51 (fun a => (impl_BitsHas.ans k a).val) := by
  refine sound_plain (fun args res h => ?_) (fun t n => rfl)
  unfold impl_BitsHas.ans at h
  dsimp only at h
  split at h
  · cases k with
    | zero => cases h
    | succ k =>
      unfold Ans.val at h
      rw [← impl_BitsHas.eq] at h
      exact answer_sound mixed Try.func51 _ _ _ (k + 1) (fun j _ => tab_sound (tab_cons (impl_within.sound j) (tab_nil))) _ _ h
  · exact (Ans.no_val h).elim

def impl_BitsList.b {R : Type} (ret : Bool × List Int → Option R) (j0 : Bool → (List Int) → (List Int) → Int → Int → Option R) (k : Nat) (a0z : Bool) (a0 : List Int) : Option R :=
  j0 a0z a0 ([] : List Int) (RowKit.wrap64 ((8 : Int) * ((a0).length : Int))) 0
def impl_BitsList.l0b {R : Type} (ret : Bool × List Int → Option R) (j0 : Bool → (List Int) → (List Int) → Int → Int → Option R) (k : Nat) (x0z : Bool) (x0 x3 : List Int) (x8 x9 : Int) : Option R :=
  cond (decide (x9 < x8)) ((impl_BitsHas.f k x0z x0 x9).bind fun t0 => cond t0 (cond (decide ((x3).length + 1 < 17592186044416)) (j0 x0z x0 (x3 ++ ([x9] : List Int)) x8 (RowKit.wrap64 (x9 + 1))) (none)) (j0 x0z x0 x3 x8 (RowKit.wrap64 (x9 + 1)))) (ret (false, x3))
def impl_BitsList.l0 : Nat → Bool → (List Int) → (List Int) → Int → Int → Option (Bool × List Int)
  | 0, _, _, _, _, _ => none
  | k + 1, x0z, x0, x3, x8, x9 => impl_BitsList.l0b some (impl_BitsList.l0 k) k x0z x0 x3 x8 x9
def impl_BitsList.f : Nat → Bool → (List Int) → Option (Bool × List Int)
  | 0, _, _ => none
  | k + 1, a0z, a0 => impl_BitsList.b some (impl_BitsList.l0 k) k a0z a0
def impl_BitsList.enc (r : Bool × List Int) : Res := ⟨[.vals false [((.nums 3 .i64 r.1 r.2), true)]], []⟩
def impl_BitsList.ans (k : Nat) : List Arg → Ans
  | [.v (.nums 5 .u8 a0z a0)] => ⟨impl_BitsList.f k a0z a0, impl_BitsList.enc⟩
  | _ => Ans.no
def impl_BitsList.Cs (k : Nat) : CallSem := tab [(51, impl_BitsHas.ans k)]
def impl_BitsList.cuts : List (Nat × Keep) := [(58, ⟨[(0, some []), (3, none), (8, some []), (9, some [])], []⟩)]
noncomputable def impl_BitsList.K0 : List Fr := framesAt [true, true, false, true, false] (bodyOf Try.f89 impl_BitsList.cuts) []
def impl_BitsList.N0 (x0z : Bool) (x0 x3 : List Int) (x8 x9 : Int) : St := stOf 21 21 1 [(0, .val ⟨(.nums 5 .u8 x0z x0), [], false, none⟩), (3, .val ⟨(.nums 3 .i64 false x3), [.l 3 0], true, some (.l 3 0)⟩), (8, .val (V.s (.int .i64 x8))), (9, .val (V.s (.int .i64 x9)))] []
theorem impl_BitsList.s0 (k : Nat) (G : List Fr → St → Option Res) (a0z : Bool) (a0 : List Int) (yx0z : Bool) (yx0 yx3 : List Int) (yx8 yx9 : Int) : resume Try.prog (impl_BitsList.Cs k) G (finish Try.prog [] Try.f89 [.v (.nums 5 .u8 a0z a0)]) 100000 impl_BitsList.K0 (impl_BitsList.N0 yx0z yx0 yx3 yx8 yx9) = impl_BitsList.l0b (fun r => some (impl_BitsList.enc r)) (fun x0z x0 x3 x8 x9 => G impl_BitsList.K0 (impl_BitsList.N0 x0z x0 x3 x8 x9)) k yx0z yx0 yx3 yx8 yx9 := by kernel_rfl
theorem impl_BitsList.bn {R R' : Type} (e : R → R') (ret : Bool × List Int → Option R) (j0 : Bool → (List Int) → (List Int) → Int → Int → Option R) (k : Nat) (a0z : Bool) (a0 : List Int) : impl_BitsList.b (fun r => (ret r).map e) (fun x0z x0 x3 x8 x9 => (j0 x0z x0 x3 x8 x9).map e) k a0z a0 = (impl_BitsList.b ret j0 k a0z a0).map e := by
  unfold impl_BitsList.b
  repeat' first | with_reducible refine nat_cond ?_ ?_ | with_reducible refine nat_bind fun _ => ?_ | rfl
theorem impl_BitsList.l0n {R R' : Type} (e : R → R') (ret : Bool × List Int → Option R) (j0 : Bool → (List Int) → (List Int) → Int → Int → Option R) (k : Nat) (x0z : Bool) (x0 x3 : List Int) (x8 x9 : Int) : impl_BitsList.l0b (fun r => (ret r).map e) (fun x0z x0 x3 x8 x9 => (j0 x0z x0 x3 x8 x9).map e) k x0z x0 x3 x8 x9 = (impl_BitsList.l0b ret j0 k x0z x0 x3 x8 x9).map e := by
  unfold impl_BitsList.l0b
  repeat' first | with_reducible refine nat_cond ?_ ?_ | with_reducible refine nat_bind fun _ => ?_ | rfl
theorem impl_BitsList.rq (a0z : Bool) (a0 : List Int) : ∀ k, (∀ (x0z : Bool) (x0 x3 : List Int) (x8 x9 : Int), rounds Try.prog impl_BitsList.Cs (finish Try.prog [] Try.f89 [.v (.nums 5 .u8 a0z a0)]) 100000 k impl_BitsList.K0 (impl_BitsList.N0 x0z x0 x3 x8 x9) = (impl_BitsList.l0 k x0z x0 x3 x8 x9).map impl_BitsList.enc)
  | 0 => fun _ _ _ _ _ => rfl
  | k + 1 => by
    have ih := impl_BitsList.rq a0z a0 k
    refine fun _ _ _ _ _ => ?_
    · refine (impl_BitsList.s0 k _ a0z a0 _ _ _ _ _).trans (Eq.trans ?_ (impl_BitsList.l0n impl_BitsList.enc some (impl_BitsList.l0 k) k _ _ _ _ _))
      simp only [ih, Option.map_some]
theorem impl_BitsList.eq (k : Nat) (a0z : Bool) (a0 : List Int) : answer Try.prog impl_BitsList.Cs 100000 impl_BitsList.cuts [] Try.f89 (k + 1) [.v (.nums 5 .u8 a0z a0)] = (impl_BitsList.f (k + 1) a0z a0).map impl_BitsList.enc := by
  have ih := impl_BitsList.rq a0z a0 k
  refine Eq.trans (b := impl_BitsList.b (fun r => some (impl_BitsList.enc r)) (fun x0z x0 x3 x8 x9 => rounds Try.prog impl_BitsList.Cs (finish Try.prog [] Try.f89 [.v (.nums 5 .u8 a0z a0)]) 100000 k impl_BitsList.K0 (impl_BitsList.N0 x0z x0 x3 x8 x9)) k a0z a0) (by kernel_rfl) (Eq.trans ?_ (impl_BitsList.bn impl_BitsList.enc some (impl_BitsList.l0 k) k a0z a0))
  simp only [ih, Option.map_some]
theorem impl_BitsList.sound (k : Nat) : SoundF Try.prog 89 (fun a => (impl_BitsList.ans k a).val) := by
  refine sound_plain (fun args res h => ?_) (fun t n => rfl)
  unfold impl_BitsList.ans at h
  dsimp only at h
  split at h
  · cases k with
    | zero => cases h
    | succ k =>
      unfold Ans.val at h
      rw [← impl_BitsList.eq] at h
      exact answer_sound mixed Try.func89 _ _ _ (k + 1) (fun j _ => tab_sound (tab_cons (impl_BitsHas.sound j) (tab_nil))) _ _ h
  · exact (Ans.no_val h).elim

def impl_BitsOk.b {R : Type} (ret : Bool → Option R) (j0 : Int → Bool → (List Int) → Int → Int → Option R) (k : Nat) (a0z : Bool) (a0 : List Int) (a1 : Int) : Option R :=
  (impl_within.f k a1 1 10).bind fun t0 => cond (!t0) (ret false) ((impl_BitsSize.f k a1).bind fun t1 => cond (!(decide (((a0).length : Int) = t1))) (ret false) ((impl_BitsList.f k a0z a0).bind fun t2 => j0 a1 t2.1 t2.2 ((t2.2).length : Int) 0))
def impl_BitsOk.l0b {R : Type} (ret : Bool → Option R) (j0 : Int → Bool → (List Int) → Int → Int → Option R) (k : Nat) (x1 : Int) (x18z : Bool) (x18 : List Int) (x19 x20 : Int) : Option R :=
  cond (decide (x20 < x19)) (cond (decide ((0 : Int) ≤ x20)) (cond (decide (x20 < ((x18).length : Int))) (cond (decide ((rdI x18 x20) ≥ x1)) (ret false) (j0 x1 x18z x18 x19 (RowKit.wrap64 (x20 + 1)))) (none)) (none)) (ret true)
def impl_BitsOk.l0 : Nat → Int → Bool → (List Int) → Int → Int → Option Bool
  | 0, _, _, _, _, _ => none
  | k + 1, x1, x18z, x18, x19, x20 => impl_BitsOk.l0b some (impl_BitsOk.l0 k) k x1 x18z x18 x19 x20
def impl_BitsOk.f : Nat → Bool → (List Int) → Int → Option Bool
  | 0, _, _, _ => none
  | k + 1, a0z, a0, a1 => impl_BitsOk.b some (impl_BitsOk.l0 k) k a0z a0 a1
def impl_BitsOk.enc (r : Bool) : Res := ⟨[.vals false [((.bool r), true)]], []⟩
def impl_BitsOk.ans (k : Nat) : List Arg → Ans
  | [.v (.nums 5 .u8 a0z a0), .v (.int .i64 a1)] => ⟨impl_BitsOk.f k a0z a0 a1, impl_BitsOk.enc⟩
  | _ => Ans.no
def impl_BitsOk.Cs (k : Nat) : CallSem := tab [(79, impl_within.ans k), (153, impl_BitsSize.ans k), (89, impl_BitsList.ans k)]
def impl_BitsOk.cuts : List (Nat × Keep) := [(58, ⟨[(1, some []), (18, none), (19, some []), (20, some [])], []⟩)]
noncomputable def impl_BitsOk.K0 : List Fr := framesAt [true, true, false, true, false] (bodyOf Try.f88 impl_BitsOk.cuts) []
def impl_BitsOk.N0 (x1 : Int) (x18z : Bool) (x18 : List Int) (x19 x20 : Int) : St := stOf 28 28 2 [(1, .val (V.s (.int .i64 x1))), (18, .val ⟨(.nums 3 .i64 x18z x18), [.l 18 0], true, some (.l 18 0)⟩), (19, .val (V.s (.int .i64 x19))), (20, .val (V.s (.int .i64 x20)))] []
theorem impl_BitsOk.s0 (k : Nat) (G : List Fr → St → Option Res) (a0z : Bool) (a0 : List Int) (a1 yx1 : Int) (yx18z : Bool) (yx18 : List Int) (yx19 yx20 : Int) : resume Try.prog (impl_BitsOk.Cs k) G (finish Try.prog [] Try.f88 [.v (.nums 5 .u8 a0z a0), .v (.int .i64 a1)]) 100000 impl_BitsOk.K0 (impl_BitsOk.N0 yx1 yx18z yx18 yx19 yx20) = impl_BitsOk.l0b (fun r => some (impl_BitsOk.enc r)) (fun x1 x18z x18 x19 x20 => G impl_BitsOk.K0 (impl_BitsOk.N0 x1 x18z x18 x19 x20)) k yx1 yx18z yx18 yx19 yx20 := by kernel_rfl
theorem impl_BitsOk.bn {R R' : Type} (e : R → R') (ret : Bool → Option R) (j0 : Int → Bool → (List Int) → Int → Int → Option R) (k : Nat) (a0z : Bool) (a0 : List Int) (a1 : Int) : impl_BitsOk.b (fun r => (ret r).map e) (fun x1 x18z x18 x19 x20 => (j0 x1 x18z x18 x19 x20).map e) k a0z a0 a1 = (impl_BitsOk.b ret j0 k a0z a0 a1).map e := by
  unfold impl_BitsOk.b
  repeat' first | with_reducible refine nat_cond ?_ ?_ | with_reducible refine nat_bind fun _ => ?_ | rfl
theorem impl_BitsOk.l0n {R R' : Type} (e : R → R') (ret : Bool → Option R) (j0 : Int → Bool → (List Int) → Int → Int → Option R) (k : Nat) (x1 : Int) (x18z : Bool) (x18 : List Int) (x19 x20 : Int) : impl_BitsOk.l0b (fun r => (ret r).map e) (fun x1 x18z x18 x19 x20 => (j0 x1 x18z x18 x19 x20).map e) k x1 x18z x18 x19 x20 = (impl_BitsOk.l0b ret j0 k x1 x18z x18 x19 x20).map e := by
  unfold impl_BitsOk.l0b
  repeat' first | with_reducible refine nat_cond ?_ ?_ | with_reducible refine nat_bind fun _ => ?_ | rfl
theorem impl_BitsOk.rq (a0z : Bool) (a0 : List Int) (a1 : Int) : ∀ k, (∀ (x1 : Int) (x18z : Bool) (x18 : List Int) (x19 x20 : Int), rounds Try.prog impl_BitsOk.Cs (finish Try.prog [] Try.f88 [.v (.nums 5 .u8 a0z a0), .v (.int .i64 a1)]) 100000 k impl_BitsOk.K0 (impl_BitsOk.N0 x1 x18z x18 x19 x20) = (impl_BitsOk.l0 k x1 x18z x18 x19 x20).map impl_BitsOk.enc)
  | 0 => fun _ _ _ _ _ => rfl
  | k + 1 => by
    have ih := impl_BitsOk.rq a0z a0 a1 k
    refine fun _ _ _ _ _ => ?_
    · refine (impl_BitsOk.s0 k _ a0z a0 a1 _ _ _ _ _).trans (Eq.trans ?_ (impl_BitsOk.l0n impl_BitsOk.enc some (impl_BitsOk.l0 k) k _ _ _ _ _))
      simp only [ih, Option.map_some]
theorem impl_BitsOk.eq (k : Nat) (a0z : Bool) (a0 : List Int) (a1 : Int) : answer Try.prog impl_BitsOk.Cs 100000 impl_BitsOk.cuts [] Try.f88 (k + 1) [.v (.nums 5 .u8 a0z a0), .v (.int .i64 a1)] = (impl_BitsOk.f (k + 1) a0z a0 a1).map impl_BitsOk.enc := by
  have ih := impl_BitsOk.rq a0z a0 a1 k
  refine Eq.trans (b := impl_BitsOk.b (fun r => some (impl_BitsOk.enc r)) (fun x1 x18z x18 x19 x20 => rounds Try.prog impl_BitsOk.Cs (finish Try.prog [] Try.f88 [.v (.nums 5 .u8 a0z a0), .v (.int .i64 a1)]) 100000 k impl_BitsOk.K0 (impl_BitsOk.N0 x1 x18z x18 x19 x20)) k a0z a0 a1) (by kernel_rfl) (Eq.trans ?_ (impl_BitsOk.bn impl_BitsOk.enc some (impl_BitsOk.l0 k) k a0z a0 a1))
  simp only [ih, Option.map_some]
theorem impl_BitsOk.sound (k : Nat) : SoundF Try.prog 88 (fun a => (impl_BitsOk.ans k a).val) := by
  refine sound_plain (fun args res h => ?_) (fun t n => rfl)
  unfold impl_BitsOk.ans at h
  dsimp only at h
  split at h
  · cases k with
    | zero => cases h
    | succ k =>
      unfold Ans.val at h
      rw [← impl_BitsOk.eq] at h
      exact answer_sound mixed Try.func88 _ _ _ (k + 1) (fun j _ => tab_sound (tab_cons (impl_within.sound j) (tab_cons (impl_BitsSize.sound j) (tab_cons (impl_BitsList.sound j) (tab_nil))))) _ _ h
  · exact (Ans.no_val h).elim

def bits_OnesCount8.b {R : Type} (ret : Int → Option R) (k : Nat) (a0 : Int) : Option R :=
  cond (decide ((0 : Int) ≤ a0)) (cond (decide (a0 < (((⟨#[0, 1, 1, 2, 1, 2, 2, 3, 1, 2, 2, 3, 2, 3, 3, 4, 1, 2, 2, 3, 2, 3, 3, 4, 2, 3, 3, 4, 3, 4, 4, 5, 1, 2, 2, 3, 2, 3, 3, 4, 2, 3, 3, 4, 3, 4, 4, 5, 2, 3, 3, 4, 3, 4, 4, 5, 3, 4, 4, 5, 4, 5, 5, 6, 1, 2, 2, 3, 2, 3, 3, 4, 2, 3, 3, 4, 3, 4, 4, 5, 2, 3, 3, 4, 3, 4, 4, 5, 3, 4, 4, 5, 4, 5, 5, 6, 2, 3, 3, 4, 3, 4, 4, 5, 3, 4, 4, 5, 4, 5, 5, 6, 3, 4, 4, 5, 4, 5, 5, 6, 4, 5, 5, 6, 5, 6, 6, 7, 1, 2, 2, 3, 2, 3, 3, 4, 2, 3, 3, 4, 3, 4, 4, 5, 2, 3, 3, 4, 3, 4, 4, 5, 3, 4, 4, 5, 4, 5, 5, 6, 2, 3, 3, 4, 3, 4, 4, 5, 3, 4, 4, 5, 4, 5, 5, 6, 3, 4, 4, 5, 4, 5, 5, 6, 4, 5, 5, 6, 5, 6, 6, 7, 2, 3, 3, 4, 3, 4, 4, 5, 3, 4, 4, 5, 4, 5, 5, 6, 3, 4, 4, 5, 4, 5, 5, 6, 4, 5, 5, 6, 5, 6, 6, 7, 3, 4, 4, 5, 4, 5, 5, 6, 4, 5, 5, 6, 5, 6, 6, 7, 4, 5, 5, 6, 5, 6, 6, 7, 5, 6, 6, 7, 6, 7, 7, 8]⟩ : ByteArray)).size : Int))) (ret (RowKit.wrap64 ((btI (⟨#[0, 1, 1, 2, 1, 2, 2, 3, 1, 2, 2, 3, 2, 3, 3, 4, 1, 2, 2, 3, 2, 3, 3, 4, 2, 3, 3, 4, 3, 4, 4, 5, 1, 2, 2, 3, 2, 3, 3, 4, 2, 3, 3, 4, 3, 4, 4, 5, 2, 3, 3, 4, 3, 4, 4, 5, 3, 4, 4, 5, 4, 5, 5, 6, 1, 2, 2, 3, 2, 3, 3, 4, 2, 3, 3, 4, 3, 4, 4, 5, 2, 3, 3, 4, 3, 4, 4, 5, 3, 4, 4, 5, 4, 5, 5, 6, 2, 3, 3, 4, 3, 4, 4, 5, 3, 4, 4, 5, 4, 5, 5, 6, 3, 4, 4, 5, 4, 5, 5, 6, 4, 5, 5, 6, 5, 6, 6, 7, 1, 2, 2, 3, 2, 3, 3, 4, 2, 3, 3, 4, 3, 4, 4, 5, 2, 3, 3, 4, 3, 4, 4, 5, 3, 4, 4, 5, 4, 5, 5, 6, 2, 3, 3, 4, 3, 4, 4, 5, 3, 4, 4, 5, 4, 5, 5, 6, 3, 4, 4, 5, 4, 5, 5, 6, 4, 5, 5, 6, 5, 6, 6, 7, 2, 3, 3, 4, 3, 4, 4, 5, 3, 4, 4, 5, 4, 5, 5, 6, 3, 4, 4, 5, 4, 5, 5, 6, 4, 5, 5, 6, 5, 6, 6, 7, 3, 4, 4, 5, 4, 5, 5, 6, 4, 5, 5, 6, 5, 6, 6, 7, 4, 5, 5, 6, 5, 6, 6, 7, 5, 6, 6, 7, 6, 7, 7, 8]⟩ : ByteArray) a0)))) (none)) (none)
def bits_OnesCount8.f : Nat → Int → Option Int
  | 0, _ => none
  | k + 1, a0 => bits_OnesCount8.b some k a0
def bits_OnesCount8.enc (r : Int) : Res := ⟨[.vals false [((.int .i64 r), true)]], []⟩
def bits_OnesCount8.ans (k : Nat) : List Arg → Ans
  | [.v (.int .u8 a0)] => ⟨bits_OnesCount8.f k a0, bits_OnesCount8.enc⟩
  | _ => Ans.no
def bits_OnesCount8.Cs (k : Nat) : CallSem := tab []
theorem bits_OnesCount8.eq (k : Nat) (a0 : Int) : answer Try.prog bits_OnesCount8.Cs 100000 [] [] Try.f91 (k + 1) [.v (.int .u8 a0)] = (bits_OnesCount8.f (k + 1) a0).map bits_OnesCount8.enc := by
  refine Eq.trans (b := bits_OnesCount8.b (fun r => some (bits_OnesCount8.enc r)) k a0) (by kernel_rfl) ?_
  show _ = (bits_OnesCount8.b some k a0).map bits_OnesCount8.enc
  unfold bits_OnesCount8.b
  repeat' first | with_reducible refine nat_cond ?_ ?_ | with_reducible refine nat_bind fun _ => ?_ | rfl
theorem bits_OnesCount8.sound (k : Nat) : SoundF Try.prog 91 (fun a => (bits_OnesCount8.ans k a).val) := by
  refine sound_plain (fun args res h => ?_) (fun t n => rfl)
  unfold bits_OnesCount8.ans at h
  dsimp only at h
  split at h
  · cases k with
    | zero => cases h
    | succ k =>
      unfold Ans.val at h
      rw [← bits_OnesCount8.eq] at h
      exact answer_sound mixed Try.func91 _ _ _ (k + 1) (fun j _ => tab_sound (tab_nil)) _ _ h
  · exact (Ans.no_val h).elim

def impl_BitsCount.b {R : Type} (ret : Int → Option R) (j0 : Int → Bool → (List Int) → Int → Int → Option R) (k : Nat) (a0z : Bool) (a0 : List Int) : Option R :=
  j0 0 a0z a0 ((a0).length : Int) 0
def impl_BitsCount.l0b {R : Type} (ret : Int → Option R) (j0 : Int → Bool → (List Int) → Int → Int → Option R) (k : Nat) (x3 : Int) (x6z : Bool) (x6 : List Int) (x7 x8 : Int) : Option R :=
  cond (decide (x8 < x7)) (cond (decide ((0 : Int) ≤ x8)) (cond (decide (x8 < ((x6).length : Int))) ((bits_OnesCount8.f k (rdI x6 x8)).bind fun t0 => j0 (RowKit.wrap64 (x3 + t0)) x6z x6 x7 (RowKit.wrap64 (x8 + 1))) (none)) (none)) (ret x3)
def impl_BitsCount.l0 : Nat → Int → Bool → (List Int) → Int → Int → Option Int
  | 0, _, _, _, _, _ => none
  | k + 1, x3, x6z, x6, x7, x8 => impl_BitsCount.l0b some (impl_BitsCount.l0 k) k x3 x6z x6 x7 x8
def impl_BitsCount.f : Nat → Bool → (List Int) → Option Int
  | 0, _, _ => none
  | k + 1, a0z, a0 => impl_BitsCount.b some (impl_BitsCount.l0 k) k a0z a0
def impl_BitsCount.enc (r : Int) : Res := ⟨[.vals false [((.int .i64 r), true)]], []⟩
def impl_BitsCount.ans (k : Nat) : List Arg → Ans
  | [.v (.nums 5 .u8 a0z a0)] => ⟨impl_BitsCount.f k a0z a0, impl_BitsCount.enc⟩
  | _ => Ans.no
def impl_BitsCount.Cs (k : Nat) : CallSem := tab [(91, bits_OnesCount8.ans k)]
def impl_BitsCount.cuts : List (Nat × Keep) := [(58, ⟨[(3, some []), (6, some []), (7, some []), (8, some [])], []⟩)]
noncomputable def impl_BitsCount.K0 : List Fr := framesAt [true, true, false, true, false] (bodyOf Try.f25 impl_BitsCount.cuts) []
def impl_BitsCount.N0 (x3 : Int) (x6z : Bool) (x6 : List Int) (x7 x8 : Int) : St := stOf 18 18 1 [(3, .val (V.s (.int .i64 x3))), (6, .val ⟨(.nums 5 .u8 x6z x6), [], false, none⟩), (7, .val (V.s (.int .i64 x7))), (8, .val (V.s (.int .i64 x8)))] []
theorem impl_BitsCount.s0 (k : Nat) (G : List Fr → St → Option Res) (a0z : Bool) (a0 : List Int) (yx3 : Int) (yx6z : Bool) (yx6 : List Int) (yx7 yx8 : Int) : resume Try.prog (impl_BitsCount.Cs k) G (finish Try.prog [] Try.f25 [.v (.nums 5 .u8 a0z a0)]) 100000 impl_BitsCount.K0 (impl_BitsCount.N0 yx3 yx6z yx6 yx7 yx8) = impl_BitsCount.l0b (fun r => some (impl_BitsCount.enc r)) (fun x3 x6z x6 x7 x8 => G impl_BitsCount.K0 (impl_BitsCount.N0 x3 x6z x6 x7 x8)) k yx3 yx6z yx6 yx7 yx8 := by kernel_rfl
theorem impl_BitsCount.bn {R R' : Type} (e : R → R') (ret : Int → Option R) (j0 : Int → Bool → (List Int) → Int → Int → Option R) (k : Nat) (a0z : Bool) (a0 : List Int) : impl_BitsCount.b (fun r => (ret r).map e) (fun x3 x6z x6 x7 x8 => (j0 x3 x6z x6 x7 x8).map e) k a0z a0 = (impl_BitsCount.b ret j0 k a0z a0).map e := by
  unfold impl_BitsCount.b
  repeat' first | with_reducible refine nat_cond ?_ ?_ | with_reducible refine nat_bind fun _ => ?_ | rfl
theorem impl_BitsCount.l0n {R R' : Type} (e : R → R') (ret : Int → Option R) (j0 : Int → Bool → (List Int) → Int → Int → Option R) (k : Nat) (x3 : Int) (x6z : Bool) (x6 : List Int) (x7 x8 : Int) : impl_BitsCount.l0b (fun r => (ret r).map e) (fun x3 x6z x6 x7 x8 => (j0 x3 x6z x6 x7 x8).map e) k x3 x6z x6 x7 x8 = (impl_BitsCount.l0b ret j0 k x3 x6z x6 x7 x8).map e := by
  unfold impl_BitsCount.l0b
  repeat' first | with_reducible refine nat_cond ?_ ?_ | with_reducible refine nat_bind fun _ => ?_ | rfl
theorem impl_BitsCount.rq (a0z : Bool) (a0 : List Int) : ∀ k, (∀ (x3 : Int) (x6z : Bool) (x6 : List Int) (x7 x8 : Int), rounds Try.prog impl_BitsCount.Cs (finish Try.prog [] Try.f25 [.v (.nums 5 .u8 a0z a0)]) 100000 k impl_BitsCount.K0 (impl_BitsCount.N0 x3 x6z x6 x7 x8) = (impl_BitsCount.l0 k x3 x6z x6 x7 x8).map impl_BitsCount.enc)
  | 0 => fun _ _ _ _ _ => rfl
  | k + 1 => by
    have ih := impl_BitsCount.rq a0z a0 k
    refine fun _ _ _ _ _ => ?_
    · refine (impl_BitsCount.s0 k _ a0z a0 _ _ _ _ _).trans (Eq.trans ?_ (impl_BitsCount.l0n impl_BitsCount.enc some (impl_BitsCount.l0 k) k _ _ _ _ _))
      simp only [ih, Option.map_some]
theorem impl_BitsCount.eq (k : Nat) (a0z : Bool) (a0 : List Int) : answer Try.prog impl_BitsCount.Cs 100000 impl_BitsCount.cuts [] Try.f25 (k + 1) [.v (.nums 5 .u8 a0z a0)] = (impl_BitsCount.f (k + 1) a0z a0).map impl_BitsCount.enc := by
  have ih := impl_BitsCount.rq a0z a0 k
  refine Eq.trans (b := impl_BitsCount.b (fun r => some (impl_BitsCount.enc r)) (fun x3 x6z x6 x7 x8 => rounds Try.prog impl_BitsCount.Cs (finish Try.prog [] Try.f25 [.v (.nums 5 .u8 a0z a0)]) 100000 k impl_BitsCount.K0 (impl_BitsCount.N0 x3 x6z x6 x7 x8)) k a0z a0) (by kernel_rfl) (Eq.trans ?_ (impl_BitsCount.bn impl_BitsCount.enc some (impl_BitsCount.l0 k) k a0z a0))
  simp only [ih, Option.map_some]
theorem impl_BitsCount.sound (k : Nat) : SoundF Try.prog 25 (fun a => (impl_BitsCount.ans k a).val) := by
  refine sound_plain (fun args res h => ?_) (fun t n => rfl)
  unfold impl_BitsCount.ans at h
  dsimp only at h
  split at h
  · cases k with
    | zero => cases h
    | succ k =>
      unfold Ans.val at h
      rw [← impl_BitsCount.eq] at h
      exact answer_sound mixed Try.func25 _ _ _ (k + 1) (fun j _ => tab_sound (tab_cons (bits_OnesCount8.sound j) (tab_nil))) _ _ h
  · exact (Ans.no_val h).elim

def impl_QcOk.b {R : Type} (ret : Bool → Option R) (k : Nat) (a0_0 a0_1 : Int) (a0_2 a0_3 : Int) (a0_4 a1_0 a1_1 : Int) (a1_2z : Bool) (a1_2 : List Int) (a1_3z : Bool) (a1_3 : List Int) (a1_4z : Bool) (a1_4 : List T) : Option R :=
  (impl_LimitsOk.f k a0_0 a0_1 a0_2 a0_3 a0_4).bind fun t0 => cond t0 ((impl_isNum.f k a1_0).bind fun t1 => cond t1 ((impl_isNum.f k a1_1).bind fun t2 => cond t2 ((impl_areHashes.f k false ([(.nums 5 .u8 a1_2z a1_2)] : List T)).bind fun t3 => cond t3 ((impl_BitsOk.f k a1_3z a1_3 a0_0).bind fun t4 => cond t4 ((impl_BitsCount.f k a1_3z a1_3).bind fun t5 => cond (decide (((a1_4).length : Int) = t5)) ((impl_areHashes.f k a1_4z a1_4).bind fun t6 => ret t6) (ret false)) (ret false)) (ret false)) (ret false)) (ret false)) (ret false)
def impl_QcOk.f : Nat → Int → Int → Int → Int → Int → Int → Int → Bool → (List Int) → Bool → (List Int) → Bool → (List T) → Option Bool
  | 0, _, _, _, _, _, _, _, _, _, _, _, _, _ => none
  | k + 1, a0_0, a0_1, a0_2, a0_3, a0_4, a1_0, a1_1, a1_2z, a1_2, a1_3z, a1_3, a1_4z, a1_4 => impl_QcOk.b some k a0_0 a0_1 a0_2 a0_3 a0_4 a1_0 a1_1 a1_2z a1_2 a1_3z a1_3 a1_4z a1_4
def impl_QcOk.enc (r : Bool) : Res := ⟨[.vals false [((.bool r), true)]], []⟩
def impl_QcOk.ans (k : Nat) : List Arg → Ans
  | [.v (.agg [(.int .i64 a0_0), (.int .i64 a0_1), (.int .i64 a0_2), (.int .i64 a0_3), (.int .i64 a0_4)]), .v (.agg [(.int .i64 a1_0), (.int .i64 a1_1), (.nums 5 .u8 a1_2z a1_2), (.nums 5 .u8 a1_3z a1_3), (.sl 22 a1_4z a1_4)])] => ⟨impl_QcOk.f k a0_0 a0_1 a0_2 a0_3 a0_4 a1_0 a1_1 a1_2z a1_2 a1_3z a1_3 a1_4z a1_4, impl_QcOk.enc⟩
  | _ => Ans.no
def impl_QcOk.Cs (k : Nat) : CallSem := tab [(92, impl_LimitsOk.ans k), (93, impl_isNum.ans k), (85, impl_areHashes.ans k), (88, impl_BitsOk.ans k), (25, impl_BitsCount.ans k)]
theorem impl_QcOk.eq (k : Nat) (a0_0 a0_1 : Int) (a0_2 a0_3 : Int) (a0_4 a1_0 a1_1 : Int) (a1_2z : Bool) (a1_2 : List Int) (a1_3z : Bool) (a1_3 : List Int) (a1_4z : Bool) (a1_4 : List T) : answer Try.prog impl_QcOk.Cs 100000 [] [] Try.f90 (k + 1) [.v (.agg [(.int .i64 a0_0), (.int .i64 a0_1), (.int .i64 a0_2), (.int .i64 a0_3), (.int .i64 a0_4)]), .v (.agg [(.int .i64 a1_0), (.int .i64 a1_1), (.nums 5 .u8 a1_2z a1_2), (.nums 5 .u8 a1_3z a1_3), (.sl 22 a1_4z a1_4)])] = (impl_QcOk.f (k + 1) a0_0 a0_1 a0_2 a0_3 a0_4 a1_0 a1_1 a1_2z a1_2 a1_3z a1_3 a1_4z a1_4).map impl_QcOk.enc := by
  refine Eq.trans (b := impl_QcOk.b (fun r => some (impl_QcOk.enc r)) k a0_0 a0_1 a0_2 a0_3 a0_4 a1_0 a1_1 a1_2z a1_2 a1_3z a1_3 a1_4z a1_4) (by kernel_rfl) ?_
  show _ = (impl_QcOk.b some k a0_0 a0_1 a0_2 a0_3 a0_4 a1_0 a1_1 a1_2z a1_2 a1_3z a1_3 a1_4z a1_4).map impl_QcOk.enc
  unfold impl_QcOk.b
  repeat' first | with_reducible refine nat_cond ?_ ?_ | with_reducible refine nat_bind fun _ => ?_ | rfl
theorem impl_QcOk.sound (k : Nat) : SoundF Try.prog 90 (fun a => (impl_QcOk.ans k a).val) := by
  refine sound_plain (fun args res h => ?_) (fun t n => rfl)
  unfold impl_QcOk.ans at h
  dsimp only at h
  split at h
  · cases k with
    | zero => cases h
    | succ k =>
      unfold Ans.val at h
      rw [← impl_QcOk.eq] at h
      exact answer_sound mixed Try.func90 _ _ _ (k + 1) (fun j _ => tab_sound (tab_cons (impl_LimitsOk.sound j) (tab_cons (impl_isNum.sound j) (tab_cons (impl_areHashes.sound j) (tab_cons (impl_BitsOk.sound j) (tab_cons (impl_BitsCount.sound j) (tab_nil))))))) _ _ h
  · exact (Ans.no_val h).elim

def impl_SameBytes.b {R : Type} (ret : Bool → Option R) (k : Nat) (a0z : Bool) (a0 : List Int) (a1z : Bool) (a1 : List Int) : Option R :=
  ret (decide ((strOf a0) = (strOf a1)))
def impl_SameBytes.f : Nat → Bool → (List Int) → Bool → (List Int) → Option Bool
  | 0, _, _, _, _ => none
  | k + 1, a0z, a0, a1z, a1 => impl_SameBytes.b some k a0z a0 a1z a1
def impl_SameBytes.enc (r : Bool) : Res := ⟨[.vals false [((.bool r), true)]], []⟩
def impl_SameBytes.ans (k : Nat) : List Arg → Ans
  | [.v (.nums 5 .u8 a0z a0), .v (.nums 5 .u8 a1z a1)] => ⟨impl_SameBytes.f k a0z a0 a1z a1, impl_SameBytes.enc⟩
  | _ => Ans.no
def impl_SameBytes.Cs (k : Nat) : CallSem := tab []
theorem impl_SameBytes.eq (k : Nat) (a0z : Bool) (a0 : List Int) (a1z : Bool) (a1 : List Int) : answer Try.prog impl_SameBytes.Cs 100000 [] [] Try.f32 (k + 1) [.v (.nums 5 .u8 a0z a0), .v (.nums 5 .u8 a1z a1)] = (impl_SameBytes.f (k + 1) a0z a0 a1z a1).map impl_SameBytes.enc := by
  refine Eq.trans (b := impl_SameBytes.b (fun r => some (impl_SameBytes.enc r)) k a0z a0 a1z a1) (by kernel_rfl) ?_
  show _ = (impl_SameBytes.b some k a0z a0 a1z a1).map impl_SameBytes.enc
  unfold impl_SameBytes.b
  repeat' first | with_reducible refine nat_cond ?_ ?_ | with_reducible refine nat_bind fun _ => ?_ | rfl
theorem impl_SameBytes.sound (k : Nat) : SoundF Try.prog 32 (fun a => (impl_SameBytes.ans k a).val) := by
  refine sound_plain (fun args res h => ?_) (fun t n => rfl)
  unfold impl_SameBytes.ans at h
  dsimp only at h
  split at h
  · cases k with
    | zero => cases h
    | succ k =>
      unfold Ans.val at h
      rw [← impl_SameBytes.eq] at h
      exact answer_sound mixed Try.func32 _ _ _ (k + 1) (fun j _ => tab_sound (tab_nil)) _ _ h
  · exact (Ans.no_val h).elim

def impl_Head_matches.b {R : Type} (ret : Bool → Option R) (k : Nat) (a0_0 a0_1 a0_2 : Int) (a0_3z : Bool) (a0_3 : List Int) (a0_4z : Bool) (a0_4 : List Int) (a0_5 a0_6 : Int) (a0_7z : Bool) (a0_7 : List Int) (a0_8z : Bool) (a0_8 : List Int) (a0_9z : Bool) (a0_9 : List T) : Option R :=
  cond (decide (a0_5 < a0_0)) (cond (decide (a0_6 = (RowKit.wrap64 (a0_1 - 1)))) ((impl_SameBytes.f k a0_7z a0_7 a0_3z a0_3).bind fun t0 => ret t0) (ret false)) (ret false)
def impl_Head_matches.f : Nat → Int → Int → Int → Bool → (List Int) → Bool → (List Int) → Int → Int → Bool → (List Int) → Bool → (List Int) → Bool → (List T) → Option Bool
  | 0, _, _, _, _, _, _, _, _, _, _, _, _, _, _, _ => none
  | k + 1, a0_0, a0_1, a0_2, a0_3z, a0_3, a0_4z, a0_4, a0_5, a0_6, a0_7z, a0_7, a0_8z, a0_8, a0_9z, a0_9 => impl_Head_matches.b some k a0_0 a0_1 a0_2 a0_3z a0_3 a0_4z a0_4 a0_5 a0_6 a0_7z a0_7 a0_8z a0_8 a0_9z a0_9
def impl_Head_matches.enc (r : Bool) : Res := ⟨[.vals false [((.bool r), true)]], []⟩
def impl_Head_matches.ans (k : Nat) : List Arg → Ans
  | [.v (.agg [(.int .i64 a0_0), (.int .i64 a0_1), (.int .i64 a0_2), (.nums 5 .u8 a0_3z a0_3), (.nums 5 .u8 a0_4z a0_4), (.int .i64 a0_5), (.int .i64 a0_6), (.nums 5 .u8 a0_7z a0_7), (.nums 5 .u8 a0_8z a0_8), (.sl 22 a0_9z a0_9)])] => ⟨impl_Head_matches.f k a0_0 a0_1 a0_2 a0_3z a0_3 a0_4z a0_4 a0_5 a0_6 a0_7z a0_7 a0_8z a0_8 a0_9z a0_9, impl_Head_matches.enc⟩
  | _ => Ans.no
def impl_Head_matches.Cs (k : Nat) : CallSem := tab [(32, impl_SameBytes.ans k)]
theorem impl_Head_matches.eq (k : Nat) (a0_0 a0_1 a0_2 : Int) (a0_3z : Bool) (a0_3 : List Int) (a0_4z : Bool) (a0_4 : List Int) (a0_5 a0_6 : Int) (a0_7z : Bool) (a0_7 : List Int) (a0_8z : Bool) (a0_8 : List Int) (a0_9z : Bool) (a0_9 : List T) : answer Try.prog impl_Head_matches.Cs 100000 [] [] Try.f161 (k + 1) [.v (.agg [(.int .i64 a0_0), (.int .i64 a0_1), (.int .i64 a0_2), (.nums 5 .u8 a0_3z a0_3), (.nums 5 .u8 a0_4z a0_4), (.int .i64 a0_5), (.int .i64 a0_6), (.nums 5 .u8 a0_7z a0_7), (.nums 5 .u8 a0_8z a0_8), (.sl 22 a0_9z a0_9)])] = (impl_Head_matches.f (k + 1) a0_0 a0_1 a0_2 a0_3z a0_3 a0_4z a0_4 a0_5 a0_6 a0_7z a0_7 a0_8z a0_8 a0_9z a0_9).map impl_Head_matches.enc := by
  refine Eq.trans (b := impl_Head_matches.b (fun r => some (impl_Head_matches.enc r)) k a0_0 a0_1 a0_2 a0_3z a0_3 a0_4z a0_4 a0_5 a0_6 a0_7z a0_7 a0_8z a0_8 a0_9z a0_9) (by kernel_rfl) ?_
  show _ = (impl_Head_matches.b some k a0_0 a0_1 a0_2 a0_3z a0_3 a0_4z a0_4 a0_5 a0_6 a0_7z a0_7 a0_8z a0_8 a0_9z a0_9).map impl_Head_matches.enc
  unfold impl_Head_matches.b
  repeat' first | with_reducible refine nat_cond ?_ ?_ | with_reducible refine nat_bind fun _ => ?_ | rfl
theorem impl_Head_matches.sound (k : Nat) : SoundF Try.prog 161 (fun a => (impl_Head_matches.ans k a).val) := by
  refine sound_plain (fun args res h => ?_) (fun t n => rfl)
  unfold impl_Head_matches.ans at h
  dsimp only at h
  split at h
  · cases k with
    | zero => cases h
    | succ k =>
      unfold Ans.val at h
      rw [← impl_Head_matches.eq] at h
      exact answer_sound mixed Try.func161 _ _ _ (k + 1) (fun j _ => tab_sound (tab_cons (impl_SameBytes.sound j) (tab_nil))) _ _ h
  · exact (Ans.no_val h).elim

def impl_HeadOk.b {R : Type} (ret : Bool → Option R) (k : Nat) (a0_0 a0_1 : Int) (a0_2 a0_3 : Int) (a0_4 a1_0 : Int) (a1_1 a1_2 : Int) (a1_3z : Bool) (a1_3 : List Int) (a1_4z : Bool) (a1_4 : List Int) (a1_5 a1_6 : Int) (a1_7z : Bool) (a1_7 : List Int) (a1_8z : Bool) (a1_8 : List Int) (a1_9z : Bool) (a1_9 : List T) : Option R :=
  (impl_QcOk.f k a0_0 a0_1 a0_2 a0_3 a0_4 a1_5 a1_6 a1_7z a1_7 a1_8z a1_8 a1_9z a1_9).bind fun t0 => cond t0 ((impl_isNum.f k a1_0).bind fun t1 => cond t1 ((impl_within.f k a1_1 1 1152921504606846975).bind fun t2 => cond t2 ((impl_within.f k a1_2 0 (RowKit.wrap64 (a0_0 - 1))).bind fun t3 => cond t3 ((impl_areHashes.f k false ([(.nums 5 .u8 a1_3z a1_3), (.nums 5 .u8 a1_4z a1_4)] : List T)).bind fun t4 => cond t4 ((impl_Head_matches.f k a1_0 a1_1 a1_2 a1_3z a1_3 a1_4z a1_4 a1_5 a1_6 a1_7z a1_7 a1_8z a1_8 a1_9z a1_9).bind fun t5 => ret t5) (ret false)) (ret false)) (ret false)) (ret false)) (ret false)
def impl_HeadOk.f : Nat → Int → Int → Int → Int → Int → Int → Int → Int → Bool → (List Int) → Bool → (List Int) → Int → Int → Bool → (List Int) → Bool → (List Int) → Bool → (List T) → Option Bool
  | 0, _, _, _, _, _, _, _, _, _, _, _, _, _, _, _, _, _, _, _, _ => none
  | k + 1, a0_0, a0_1, a0_2, a0_3, a0_4, a1_0, a1_1, a1_2, a1_3z, a1_3, a1_4z, a1_4, a1_5, a1_6, a1_7z, a1_7, a1_8z, a1_8, a1_9z, a1_9 => impl_HeadOk.b some k a0_0 a0_1 a0_2 a0_3 a0_4 a1_0 a1_1 a1_2 a1_3z a1_3 a1_4z a1_4 a1_5 a1_6 a1_7z a1_7 a1_8z a1_8 a1_9z a1_9
def impl_HeadOk.enc (r : Bool) : Res := ⟨[.vals false [((.bool r), true)]], []⟩
def impl_HeadOk.ans (k : Nat) : List Arg → Ans
  | [.v (.agg [(.int .i64 a0_0), (.int .i64 a0_1), (.int .i64 a0_2), (.int .i64 a0_3), (.int .i64 a0_4)]), .v (.agg [(.int .i64 a1_0), (.int .i64 a1_1), (.int .i64 a1_2), (.nums 5 .u8 a1_3z a1_3), (.nums 5 .u8 a1_4z a1_4), (.int .i64 a1_5), (.int .i64 a1_6), (.nums 5 .u8 a1_7z a1_7), (.nums 5 .u8 a1_8z a1_8), (.sl 22 a1_9z a1_9)])] => ⟨impl_HeadOk.f k a0_0 a0_1 a0_2 a0_3 a0_4 a1_0 a1_1 a1_2 a1_3z a1_3 a1_4z a1_4 a1_5 a1_6 a1_7z a1_7 a1_8z a1_8 a1_9z a1_9, impl_HeadOk.enc⟩
  | _ => Ans.no
def impl_HeadOk.Cs (k : Nat) : CallSem := tab [(79, impl_within.ans k), (90, impl_QcOk.ans k), (93, impl_isNum.ans k), (85, impl_areHashes.ans k), (161, impl_Head_matches.ans k)]
theorem impl_HeadOk.eq (k : Nat) (a0_0 a0_1 : Int) (a0_2 a0_3 : Int) (a0_4 a1_0 : Int) (a1_1 a1_2 : Int) (a1_3z : Bool) (a1_3 : List Int) (a1_4z : Bool) (a1_4 : List Int) (a1_5 a1_6 : Int) (a1_7z : Bool) (a1_7 : List Int) (a1_8z : Bool) (a1_8 : List Int) (a1_9z : Bool) (a1_9 : List T) : answer Try.prog impl_HeadOk.Cs 100000 [] [] Try.f102 (k + 1) [.v (.agg [(.int .i64 a0_0), (.int .i64 a0_1), (.int .i64 a0_2), (.int .i64 a0_3), (.int .i64 a0_4)]), .v (.agg [(.int .i64 a1_0), (.int .i64 a1_1), (.int .i64 a1_2), (.nums 5 .u8 a1_3z a1_3), (.nums 5 .u8 a1_4z a1_4), (.int .i64 a1_5), (.int .i64 a1_6), (.nums 5 .u8 a1_7z a1_7), (.nums 5 .u8 a1_8z a1_8), (.sl 22 a1_9z a1_9)])] = (impl_HeadOk.f (k + 1) a0_0 a0_1 a0_2 a0_3 a0_4 a1_0 a1_1 a1_2 a1_3z a1_3 a1_4z a1_4 a1_5 a1_6 a1_7z a1_7 a1_8z a1_8 a1_9z a1_9).map impl_HeadOk.enc := by
  refine Eq.trans (b := impl_HeadOk.b (fun r => some (impl_HeadOk.enc r)) k a0_0 a0_1 a0_2 a0_3 a0_4 a1_0 a1_1 a1_2 a1_3z a1_3 a1_4z a1_4 a1_5 a1_6 a1_7z a1_7 a1_8z a1_8 a1_9z a1_9) (by kernel_rfl) ?_
  show _ = (impl_HeadOk.b some k a0_0 a0_1 a0_2 a0_3 a0_4 a1_0 a1_1 a1_2 a1_3z a1_3 a1_4z a1_4 a1_5 a1_6 a1_7z a1_7 a1_8z a1_8 a1_9z a1_9).map impl_HeadOk.enc
  unfold impl_HeadOk.b
  repeat' first | with_reducible refine nat_cond ?_ ?_ | with_reducible refine nat_bind fun _ => ?_ | rfl
theorem impl_HeadOk.sound (k : Nat) : SoundF Try.prog 102 (fun a => (impl_HeadOk.ans k a).val) := by
  refine sound_plain (fun args res h => ?_) (fun t n => rfl)
  unfold impl_HeadOk.ans at h
  dsimp only at h
  split at h
  · cases k with
    | zero => cases h
    | succ k =>
      unfold Ans.val at h
      rw [← impl_HeadOk.eq] at h
      exact answer_sound mixed Try.func102 _ _ _ (k + 1) (fun j _ => tab_sound (tab_cons (impl_within.sound j) (tab_cons (impl_QcOk.sound j) (tab_cons (impl_isNum.sound j) (tab_cons (impl_areHashes.sound j) (tab_cons (impl_Head_matches.sound j) (tab_nil))))))) _ _ h
  · exact (Ans.no_val h).elim

def impl_areHeads.b {R : Type} (ret : Bool → Option R) (j0 : Bool → (List T) → Int → Int → Int → Int → Int → Int → Int → Option R) (k : Nat) (a0_0 a0_1 : Int) (a0_2 a0_3 a0_4 : Int) (a1z : Bool) (a1 : List T) : Option R :=
  j0 a1z a1 ((a1).length : Int) 0 a0_0 a0_1 a0_2 a0_3 a0_4
def impl_areHeads.l0b {R : Type} (ret : Bool → Option R) (j0 : Bool → (List T) → Int → Int → Int → Int → Int → Int → Int → Option R) (k : Nat) (x7z : Bool) (x7 : List T) (x8 x9 : Int) (c2_0 c2_1 : Int) (c2_2 c2_3 c2_4 : Int) : Option R :=
  cond (decide (x9 < x8)) (cond (decide ((0 : Int) ≤ x9)) (cond (decide (x9 < ((x7).length : Int))) ((impl_HeadOk.f k c2_0 c2_1 c2_2 c2_3 c2_4 (((((x7).getD (x9).toNat .bad).cells.getD 0 .bad)).toInt) (((((x7).getD (x9).toNat .bad).cells.getD 1 .bad)).toInt) (((((x7).getD (x9).toNat .bad).cells.getD 2 .bad)).toInt) (((((x7).getD (x9).toNat .bad).cells.getD 3 .bad)).isNil) (((((x7).getD (x9).toNat .bad).cells.getD 3 .bad)).toNums) (((((x7).getD (x9).toNat .bad).cells.getD 4 .bad)).isNil) (((((x7).getD (x9).toNat .bad).cells.getD 4 .bad)).toNums) (((((x7).getD (x9).toNat .bad).cells.getD 5 .bad)).toInt) (((((x7).getD (x9).toNat .bad).cells.getD 6 .bad)).toInt) (((((x7).getD (x9).toNat .bad).cells.getD 7 .bad)).isNil) (((((x7).getD (x9).toNat .bad).cells.getD 7 .bad)).toNums) (((((x7).getD (x9).toNat .bad).cells.getD 8 .bad)).isNil) (((((x7).getD (x9).toNat .bad).cells.getD 8 .bad)).toNums) (((((x7).getD (x9).toNat .bad).cells.getD 9 .bad)).isNil) (((((x7).getD (x9).toNat .bad).cells.getD 9 .bad)).toList)).bind fun t0 => cond (!t0) (ret false) (j0 x7z x7 x8 (RowKit.wrap64 (x9 + 1)) c2_0 c2_1 c2_2 c2_3 c2_4)) (none)) (none)) (ret true)
def impl_areHeads.l0 : Nat → Bool → (List T) → Int → Int → Int → Int → Int → Int → Int → Option Bool
  | 0, _, _, _, _, _, _, _, _, _ => none
  | k + 1, x7z, x7, x8, x9, c2_0, c2_1, c2_2, c2_3, c2_4 => impl_areHeads.l0b some (impl_areHeads.l0 k) k x7z x7 x8 x9 c2_0 c2_1 c2_2 c2_3 c2_4
def impl_areHeads.f : Nat → Int → Int → Int → Int → Int → Bool → (List T) → Option Bool
  | 0, _, _, _, _, _, _, _ => none
  | k + 1, a0_0, a0_1, a0_2, a0_3, a0_4, a1z, a1 => impl_areHeads.b some (impl_areHeads.l0 k) k a0_0 a0_1 a0_2 a0_3 a0_4 a1z a1
def impl_areHeads.enc (r : Bool) : Res := ⟨[.vals false [((.bool r), true)]], []⟩
def impl_areHeads.ans (k : Nat) : List Arg → Ans
  | [.v (.agg [(.int .i64 a0_0), (.int .i64 a0_1), (.int .i64 a0_2), (.int .i64 a0_3), (.int .i64 a0_4)]), .v (.sl 79 a1z a1)] => ⟨impl_areHeads.f k a0_0 a0_1 a0_2 a0_3 a0_4 a1z a1, impl_areHeads.enc⟩
  | _ => Ans.no
def impl_areHeads.Cs (k : Nat) : CallSem := tab [(102, impl_HeadOk.ans k)]
def impl_areHeads.cuts : List (Nat × Keep) := [(26, ⟨[(2, some []), (7, some []), (8, some []), (9, some [])], [(2, [some [], some [], some [], some [], some []])]⟩)]
noncomputable def impl_areHeads.K0 : List Fr := framesAt [true, false, true, false] (bodyOf Try.f101 impl_areHeads.cuts) []
def impl_areHeads.N0 (x7z : Bool) (x7 : List T) (x8 x9 : Int) (c2_0 c2_1 : Int) (c2_2 c2_3 c2_4 : Int) : St := stOf 18 18 2 [(2, .bp 2 0), (7, .val ⟨(.sl 79 x7z x7), [], false, none⟩), (8, .val (V.s (.int .i64 x8))), (9, .val (V.s (.int .i64 x9)))] [(2, .cells [V.s (.int .i64 c2_0), V.s (.int .i64 c2_1), V.s (.int .i64 c2_2), V.s (.int .i64 c2_3), V.s (.int .i64 c2_4)])]
theorem impl_areHeads.s0 (k : Nat) (G : List Fr → St → Option Res) (a0_0 a0_1 : Int) (a0_2 a0_3 a0_4 : Int) (a1z : Bool) (a1 : List T) (yx7z : Bool) (yx7 : List T) (yx8 yx9 : Int) (yc2_0 yc2_1 : Int) (yc2_2 yc2_3 yc2_4 : Int) : resume Try.prog (impl_areHeads.Cs k) G (finish Try.prog [] Try.f101 [.v (.agg [(.int .i64 a0_0), (.int .i64 a0_1), (.int .i64 a0_2), (.int .i64 a0_3), (.int .i64 a0_4)]), .v (.sl 79 a1z a1)]) 100000 impl_areHeads.K0 (impl_areHeads.N0 yx7z yx7 yx8 yx9 yc2_0 yc2_1 yc2_2 yc2_3 yc2_4) = impl_areHeads.l0b (fun r => some (impl_areHeads.enc r)) (fun x7z x7 x8 x9 c2_0 c2_1 c2_2 c2_3 c2_4 => G impl_areHeads.K0 (impl_areHeads.N0 x7z x7 x8 x9 c2_0 c2_1 c2_2 c2_3 c2_4)) k yx7z yx7 yx8 yx9 yc2_0 yc2_1 yc2_2 yc2_3 yc2_4 := by kernel_rfl
theorem impl_areHeads.bn {R R' : Type} (e : R → R') (ret : Bool → Option R) (j0 : Bool → (List T) → Int → Int → Int → Int → Int → Int → Int → Option R) (k : Nat) (a0_0 a0_1 : Int) (a0_2 a0_3 a0_4 : Int) (a1z : Bool) (a1 : List T) : impl_areHeads.b (fun r => (ret r).map e) (fun x7z x7 x8 x9 c2_0 c2_1 c2_2 c2_3 c2_4 => (j0 x7z x7 x8 x9 c2_0 c2_1 c2_2 c2_3 c2_4).map e) k a0_0 a0_1 a0_2 a0_3 a0_4 a1z a1 = (impl_areHeads.b ret j0 k a0_0 a0_1 a0_2 a0_3 a0_4 a1z a1).map e := by
  unfold impl_areHeads.b
  repeat' first | with_reducible refine nat_cond ?_ ?_ | with_reducible refine nat_bind fun _ => ?_ | rfl
theorem impl_areHeads.l0n {R R' : Type} (e : R → R') (ret : Bool → Option R) (j0 : Bool → (List T) → Int → Int → Int → Int → Int → Int → Int → Option R) (k : Nat) (x7z : Bool) (x7 : List T) (x8 x9 : Int) (c2_0 c2_1 : Int) (c2_2 c2_3 c2_4 : Int) : impl_areHeads.l0b (fun r => (ret r).map e) (fun x7z x7 x8 x9 c2_0 c2_1 c2_2 c2_3 c2_4 => (j0 x7z x7 x8 x9 c2_0 c2_1 c2_2 c2_3 c2_4).map e) k x7z x7 x8 x9 c2_0 c2_1 c2_2 c2_3 c2_4 = (impl_areHeads.l0b ret j0 k x7z x7 x8 x9 c2_0 c2_1 c2_2 c2_3 c2_4).map e := by
  unfold impl_areHeads.l0b
  repeat' first | with_reducible refine nat_cond ?_ ?_ | with_reducible refine nat_bind fun _ => ?_ | rfl
theorem impl_areHeads.rq (a0_0 a0_1 : Int) (a0_2 a0_3 a0_4 : Int) (a1z : Bool) (a1 : List T) : ∀ k, (∀ (x7z : Bool) (x7 : List T) (x8 x9 : Int) (c2_0 c2_1 : Int) (c2_2 c2_3 c2_4 : Int), rounds Try.prog impl_areHeads.Cs (finish Try.prog [] Try.f101 [.v (.agg [(.int .i64 a0_0), (.int .i64 a0_1), (.int .i64 a0_2), (.int .i64 a0_3), (.int .i64 a0_4)]), .v (.sl 79 a1z a1)]) 100000 k impl_areHeads.K0 (impl_areHeads.N0 x7z x7 x8 x9 c2_0 c2_1 c2_2 c2_3 c2_4) = (impl_areHeads.l0 k x7z x7 x8 x9 c2_0 c2_1 c2_2 c2_3 c2_4).map impl_areHeads.enc)
  | 0 => fun _ _ _ _ _ _ _ _ _ => rfl
  | k + 1 => by
    have ih := impl_areHeads.rq a0_0 a0_1 a0_2 a0_3 a0_4 a1z a1 k
    refine fun _ _ _ _ _ _ _ _ _ => ?_
    · refine (impl_areHeads.s0 k _ a0_0 a0_1 a0_2 a0_3 a0_4 a1z a1 _ _ _ _ _ _ _ _ _).trans (Eq.trans ?_ (impl_areHeads.l0n impl_areHeads.enc some (impl_areHeads.l0 k) k _ _ _ _ _ _ _ _ _))
      simp only [ih, Option.map_some]
theorem impl_areHeads.eq (k : Nat) (a0_0 a0_1 : Int) (a0_2 a0_3 a0_4 : Int) (a1z : Bool) (a1 : List T) : answer Try.prog impl_areHeads.Cs 100000 impl_areHeads.cuts [] Try.f101 (k + 1) [.v (.agg [(.int .i64 a0_0), (.int .i64 a0_1), (.int .i64 a0_2), (.int .i64 a0_3), (.int .i64 a0_4)]), .v (.sl 79 a1z a1)] = (impl_areHeads.f (k + 1) a0_0 a0_1 a0_2 a0_3 a0_4 a1z a1).map impl_areHeads.enc := by
  have ih := impl_areHeads.rq a0_0 a0_1 a0_2 a0_3 a0_4 a1z a1 k
  refine Eq.trans (b := impl_areHeads.b (fun r => some (impl_areHeads.enc r)) (fun x7z x7 x8 x9 c2_0 c2_1 c2_2 c2_3 c2_4 => rounds Try.prog impl_areHeads.Cs (finish Try.prog [] Try.f101 [.v (.agg [(.int .i64 a0_0), (.int .i64 a0_1), (.int .i64 a0_2), (.int .i64 a0_3), (.int .i64 a0_4)]), .v (.sl 79 a1z a1)]) 100000 k impl_areHeads.K0 (impl_areHeads.N0 x7z x7 x8 x9 c2_0 c2_1 c2_2 c2_3 c2_4)) k a0_0 a0_1 a0_2 a0_3 a0_4 a1z a1) (by kernel_rfl) (Eq.trans ?_ (impl_areHeads.bn impl_areHeads.enc some (impl_areHeads.l0 k) k a0_0 a0_1 a0_2 a0_3 a0_4 a1z a1))
  simp only [ih, Option.map_some]
theorem impl_areHeads.sound (k : Nat) : SoundF Try.prog 101 (fun a => (impl_areHeads.ans k a).val) := by
  refine sound_plain (fun args res h => ?_) (fun t n => rfl)
  unfold impl_areHeads.ans at h
  dsimp only at h
  split at h
  · cases k with
    | zero => cases h
    | succ k =>
      unfold Ans.val at h
      rw [← impl_areHeads.eq] at h
      exact answer_sound mixed Try.func101 _ _ _ (k + 1) (fun j _ => tab_sound (tab_cons (impl_HeadOk.sound j) (tab_nil))) _ _ h
  · exact (Ans.no_val h).elim

def impl_copyBytes.b {R : Type} (ret : Bool × List Int → Option R) (k : Nat) (a0z : Bool) (a0 : List Int) : Option R :=
  cond (decide (0 + (a0).length < 140737488355328)) (ret (((a0).isEmpty && false), a0)) (none)
def impl_copyBytes.f : Nat → Bool → (List Int) → Option (Bool × List Int)
  | 0, _, _ => none
  | k + 1, a0z, a0 => impl_copyBytes.b some k a0z a0
def impl_copyBytes.enc (r : Bool × List Int) : Res := ⟨[.vals false [((.nums 5 .u8 r.1 r.2), true)]], []⟩
def impl_copyBytes.ans (k : Nat) : List Arg → Ans
  | [.v (.nums 5 .u8 a0z a0)] => ⟨impl_copyBytes.f k a0z a0, impl_copyBytes.enc⟩
  | _ => Ans.no
def impl_copyBytes.Cs (k : Nat) : CallSem := tab []
theorem impl_copyBytes.eq (k : Nat) (a0z : Bool) (a0 : List Int) : answer Try.prog impl_copyBytes.Cs 100000 [] [] Try.f80 (k + 1) [.v (.nums 5 .u8 a0z a0)] = (impl_copyBytes.f (k + 1) a0z a0).map impl_copyBytes.enc := by
  refine Eq.trans (b := impl_copyBytes.b (fun r => some (impl_copyBytes.enc r)) k a0z a0) (by kernel_rfl) ?_
  show _ = (impl_copyBytes.b some k a0z a0).map impl_copyBytes.enc
  unfold impl_copyBytes.b
  repeat' first | with_reducible refine nat_cond ?_ ?_ | with_reducible refine nat_bind fun _ => ?_ | rfl
theorem impl_copyBytes.sound (k : Nat) : SoundF Try.prog 80 (fun a => (impl_copyBytes.ans k a).val) := by
  refine sound_plain (fun args res h => ?_) (fun t n => rfl)
  unfold impl_copyBytes.ans at h
  dsimp only at h
  split at h
  · cases k with
    | zero => cases h
    | succ k =>
      unfold Ans.val at h
      rw [← impl_copyBytes.eq] at h
      exact answer_sound mixed Try.func80 _ _ _ (k + 1) (fun j _ => tab_sound (tab_nil)) _ _ h
  · exact (Ans.no_val h).elim

def impl_PutVar.b {R : Type} (ret : Bool × (List Int) × Bool → Option R) (j0 : Int → Bool → (List Int) → Option R) (k : Nat) (a0z : Bool) (a0 : List Int) (a1 : Int) : Option R :=
  (impl_isNum.f k a1).bind fun t0 => cond (!t0) (ret (true, ([] : List Int), false)) ((impl_copyBytes.f k a0z a0).bind fun t1 => j0 a1 t1.1 t1.2)
def impl_PutVar.l0b {R : Type} (ret : Bool × (List Int) × Bool → Option R) (j0 : Int → Bool → (List Int) → Option R) (k : Nat) (x1 : Int) (x6z : Bool) (x6 : List Int) : Option R :=
  cond (decide (x1 ≥ 128)) (cond (decide ((x6).length + 1 < 140737488355328)) (j0 (RowKit.wrap64 (Int.tdiv x1 128)) false (x6 ++ ([(((RowKit.wrap64 ((Int.tmod x1 128) + 128))) % 256)] : List Int))) (none)) (cond (decide ((x6).length + 1 < 140737488355328)) (ret (false, (x6 ++ ([((x1) % 256)] : List Int)), true)) (none))
def impl_PutVar.l0 : Nat → Int → Bool → (List Int) → Option (Bool × (List Int) × Bool)
  | 0, _, _, _ => none
  | k + 1, x1, x6z, x6 => impl_PutVar.l0b some (impl_PutVar.l0 k) k x1 x6z x6
def impl_PutVar.f : Nat → Bool → (List Int) → Int → Option (Bool × (List Int) × Bool)
  | 0, _, _, _ => none
  | k + 1, a0z, a0, a1 => impl_PutVar.b some (impl_PutVar.l0 k) k a0z a0 a1
def impl_PutVar.enc (r : Bool × (List Int) × Bool) : Res := ⟨[.vals false [((.nums 5 .u8 r.1 r.2.1), true)], .vals false [((.bool r.2.2), true)]], []⟩
def impl_PutVar.ans (k : Nat) : List Arg → Ans
  | [.v (.nums 5 .u8 a0z a0), .v (.int .i64 a1)] => ⟨impl_PutVar.f k a0z a0 a1, impl_PutVar.enc⟩
  | _ => Ans.no
def impl_PutVar.Cs (k : Nat) : CallSem := tab [(93, impl_isNum.ans k), (80, impl_copyBytes.ans k)]
def impl_PutVar.cuts : List (Nat × Keep) := [(60, ⟨[(1, some []), (6, none)], []⟩)]
noncomputable def impl_PutVar.K0 : List Fr := framesAt [true, true, true, false, false] (bodyOf Try.f150 impl_PutVar.cuts) []
def impl_PutVar.N0 (x1 : Int) (x6z : Bool) (x6 : List Int) : St := stOf 28 28 2 [(1, .val (V.s (.int .i64 x1))), (6, .val ⟨(.nums 5 .u8 x6z x6), [.l 6 0], true, some (.l 6 0)⟩)] []
theorem impl_PutVar.s0 (k : Nat) (G : List Fr → St → Option Res) (a0z : Bool) (a0 : List Int) (a1 yx1 : Int) (yx6z : Bool) (yx6 : List Int) : resume Try.prog (impl_PutVar.Cs k) G (finish Try.prog [] Try.f150 [.v (.nums 5 .u8 a0z a0), .v (.int .i64 a1)]) 100000 impl_PutVar.K0 (impl_PutVar.N0 yx1 yx6z yx6) = impl_PutVar.l0b (fun r => some (impl_PutVar.enc r)) (fun x1 x6z x6 => G impl_PutVar.K0 (impl_PutVar.N0 x1 x6z x6)) k yx1 yx6z yx6 := by kernel_rfl
theorem impl_PutVar.bn {R R' : Type} (e : R → R') (ret : Bool × (List Int) × Bool → Option R) (j0 : Int → Bool → (List Int) → Option R) (k : Nat) (a0z : Bool) (a0 : List Int) (a1 : Int) : impl_PutVar.b (fun r => (ret r).map e) (fun x1 x6z x6 => (j0 x1 x6z x6).map e) k a0z a0 a1 = (impl_PutVar.b ret j0 k a0z a0 a1).map e := by
  unfold impl_PutVar.b
  repeat' first | with_reducible refine nat_cond ?_ ?_ | with_reducible refine nat_bind fun _ => ?_ | rfl
theorem impl_PutVar.l0n {R R' : Type} (e : R → R') (ret : Bool × (List Int) × Bool → Option R) (j0 : Int → Bool → (List Int) → Option R) (k : Nat) (x1 : Int) (x6z : Bool) (x6 : List Int) : impl_PutVar.l0b (fun r => (ret r).map e) (fun x1 x6z x6 => (j0 x1 x6z x6).map e) k x1 x6z x6 = (impl_PutVar.l0b ret j0 k x1 x6z x6).map e := by
  unfold impl_PutVar.l0b
  repeat' first | with_reducible refine nat_cond ?_ ?_ | with_reducible refine nat_bind fun _ => ?_ | rfl
theorem impl_PutVar.rq (a0z : Bool) (a0 : List Int) (a1 : Int) : ∀ k, (∀ (x1 : Int) (x6z : Bool) (x6 : List Int), rounds Try.prog impl_PutVar.Cs (finish Try.prog [] Try.f150 [.v (.nums 5 .u8 a0z a0), .v (.int .i64 a1)]) 100000 k impl_PutVar.K0 (impl_PutVar.N0 x1 x6z x6) = (impl_PutVar.l0 k x1 x6z x6).map impl_PutVar.enc)
  | 0 => fun _ _ _ => rfl
  | k + 1 => by
    have ih := impl_PutVar.rq a0z a0 a1 k
    refine fun _ _ _ => ?_
    · refine (impl_PutVar.s0 k _ a0z a0 a1 _ _ _).trans (Eq.trans ?_ (impl_PutVar.l0n impl_PutVar.enc some (impl_PutVar.l0 k) k _ _ _))
      simp only [ih, Option.map_some]
theorem impl_PutVar.eq (k : Nat) (a0z : Bool) (a0 : List Int) (a1 : Int) : answer Try.prog impl_PutVar.Cs 100000 impl_PutVar.cuts [] Try.f150 (k + 1) [.v (.nums 5 .u8 a0z a0), .v (.int .i64 a1)] = (impl_PutVar.f (k + 1) a0z a0 a1).map impl_PutVar.enc := by
  have ih := impl_PutVar.rq a0z a0 a1 k
  refine Eq.trans (b := impl_PutVar.b (fun r => some (impl_PutVar.enc r)) (fun x1 x6z x6 => rounds Try.prog impl_PutVar.Cs (finish Try.prog [] Try.f150 [.v (.nums 5 .u8 a0z a0), .v (.int .i64 a1)]) 100000 k impl_PutVar.K0 (impl_PutVar.N0 x1 x6z x6)) k a0z a0 a1) (by kernel_rfl) (Eq.trans ?_ (impl_PutVar.bn impl_PutVar.enc some (impl_PutVar.l0 k) k a0z a0 a1))
  simp only [ih, Option.map_some]
theorem impl_PutVar.sound (k : Nat) : SoundF Try.prog 150 (fun a => (impl_PutVar.ans k a).val) := by
  refine sound_plain (fun args res h => ?_) (fun t n => rfl)
  unfold impl_PutVar.ans at h
  dsimp only at h
  split at h
  · cases k with
    | zero => cases h
    | succ k =>
      unfold Ans.val at h
      rw [← impl_PutVar.eq] at h
      exact answer_sound mixed Try.func150 _ _ _ (k + 1) (fun j _ => tab_sound (tab_cons (impl_isNum.sound j) (tab_cons (impl_copyBytes.sound j) (tab_nil)))) _ _ h
  · exact (Ans.no_val h).elim

def impl_writer_num.b {R : Type} (ret : Bool × List Int → Option R) (k : Nat) (a0_0z : Bool) (a0_0 : List Int) (a1 : Int) : Option R :=
  (impl_PutVar.f k a0_0z a0_0 a1).bind fun t0 => ret (t0.1, t0.2.1)
def impl_writer_num.f : Nat → Bool → (List Int) → Int → Option (Bool × List Int)
  | 0, _, _, _ => none
  | k + 1, a0_0z, a0_0, a1 => impl_writer_num.b some k a0_0z a0_0 a1
def impl_writer_num.enc (r : Bool × List Int) : Res := ⟨[], [[((.nums 5 .u8 r.1 r.2), true)]]⟩
def impl_writer_num.ans (k : Nat) : List Arg → Ans
  | [.box [((.nums 5 .u8 a0_0z a0_0), true)], .v (.int .i64 a1)] => ⟨impl_writer_num.f k a0_0z a0_0 a1, impl_writer_num.enc⟩
  | _ => Ans.no
def impl_writer_num.Cs (k : Nat) : CallSem := tab [(150, impl_PutVar.ans k)]
theorem impl_writer_num.eq (k : Nat) (a0_0z : Bool) (a0_0 : List Int) (a1 : Int) : answer Try.prog impl_writer_num.Cs 100000 [] [] Try.f196 (k + 1) [.box [((.nums 5 .u8 a0_0z a0_0), true)], .v (.int .i64 a1)] = (impl_writer_num.f (k + 1) a0_0z a0_0 a1).map impl_writer_num.enc := by
  refine Eq.trans (b := impl_writer_num.b (fun r => some (impl_writer_num.enc r)) k a0_0z a0_0 a1) (by kernel_rfl) ?_
  show _ = (impl_writer_num.b some k a0_0z a0_0 a1).map impl_writer_num.enc
  unfold impl_writer_num.b
  repeat' first | with_reducible refine nat_cond ?_ ?_ | with_reducible refine nat_bind fun _ => ?_ | rfl
theorem impl_writer_num.sound (k : Nat) : SoundF Try.prog 196 (fun a => (impl_writer_num.ans k a).val) := by
  refine sound_plain (fun args res h => ?_) (fun t n => rfl)
  unfold impl_writer_num.ans at h
  dsimp only at h
  split at h
  · cases k with
    | zero => cases h
    | succ k =>
      unfold Ans.val at h
      rw [← impl_writer_num.eq] at h
      exact answer_sound mixed Try.func196 _ _ _ (k + 1) (fun j _ => tab_sound (tab_cons (impl_PutVar.sound j) (tab_nil))) _ _ h
  · exact (Ans.no_val h).elim

def impl_writer_raw.b {R : Type} (ret : Bool × List Int → Option R) (k : Nat) (a0_0z : Bool) (a0_0 : List Int) (a1z : Bool) (a1 : List Int) : Option R :=
  cond (decide ((a0_0).length + (a1).length < 140737488355328)) (ret (((a1).isEmpty && a0_0z), (a0_0 ++ a1))) (none)
def impl_writer_raw.f : Nat → Bool → (List Int) → Bool → (List Int) → Option (Bool × List Int)
  | 0, _, _, _, _ => none
  | k + 1, a0_0z, a0_0, a1z, a1 => impl_writer_raw.b some k a0_0z a0_0 a1z a1
def impl_writer_raw.enc (r : Bool × List Int) : Res := ⟨[], [[((.nums 5 .u8 r.1 r.2), true)]]⟩
def impl_writer_raw.ans (k : Nat) : List Arg → Ans
  | [.box [((.nums 5 .u8 a0_0z a0_0), true)], .v (.nums 5 .u8 a1z a1)] => ⟨impl_writer_raw.f k a0_0z a0_0 a1z a1, impl_writer_raw.enc⟩
  | _ => Ans.no
def impl_writer_raw.Cs (k : Nat) : CallSem := tab []
theorem impl_writer_raw.eq (k : Nat) (a0_0z : Bool) (a0_0 : List Int) (a1z : Bool) (a1 : List Int) : answer Try.prog impl_writer_raw.Cs 100000 [] [] Try.f197 (k + 1) [.box [((.nums 5 .u8 a0_0z a0_0), true)], .v (.nums 5 .u8 a1z a1)] = (impl_writer_raw.f (k + 1) a0_0z a0_0 a1z a1).map impl_writer_raw.enc := by
  refine Eq.trans (b := impl_writer_raw.b (fun r => some (impl_writer_raw.enc r)) k a0_0z a0_0 a1z a1) (by kernel_rfl) ?_
  show _ = (impl_writer_raw.b some k a0_0z a0_0 a1z a1).map impl_writer_raw.enc
  unfold impl_writer_raw.b
  repeat' first | with_reducible refine nat_cond ?_ ?_ | with_reducible refine nat_bind fun _ => ?_ | rfl
theorem impl_writer_raw.sound (k : Nat) : SoundF Try.prog 197 (fun a => (impl_writer_raw.ans k a).val) := by
  refine sound_plain (fun args res h => ?_) (fun t n => rfl)
  unfold impl_writer_raw.ans at h
  dsimp only at h
  split at h
  · cases k with
    | zero => cases h
    | succ k =>
      unfold Ans.val at h
      rw [← impl_writer_raw.eq] at h
      exact answer_sound mixed Try.func197 _ _ _ (k + 1) (fun j _ => tab_sound (tab_nil)) _ _ h
  · exact (Ans.no_val h).elim

def impl_writer_qc.b {R : Type} (ret : Bool × List Int → Option R) (j0 : Bool → (List T) → Int → Int → Bool → (List Int) → Option R) (k : Nat) (a0_0z : Bool) (a0_0 : List Int) (a1_0 a1_1 : Int) (a1_2z : Bool) (a1_2 : List Int) (a1_3z : Bool) (a1_3 : List Int) (a1_4z : Bool) (a1_4 : List T) : Option R :=
  (impl_writer_num.f k a0_0z a0_0 a1_0).bind fun t0 => (impl_writer_num.f k t0.1 t0.2 a1_1).bind fun t1 => (impl_writer_raw.f k t1.1 t1.2 a1_2z a1_2).bind fun t2 => (impl_writer_raw.f k t2.1 t2.2 a1_3z a1_3).bind fun t3 => j0 a1_4z a1_4 ((a1_4).length : Int) 0 t3.1 t3.2
def impl_writer_qc.l0b {R : Type} (ret : Bool × List Int → Option R) (j0 : Bool → (List T) → Int → Int → Bool → (List Int) → Option R) (k : Nat) (x23z : Bool) (x23 : List T) (x24 x25 : Int) (c0_0z : Bool) (c0_0 : List Int) : Option R :=
  cond (decide (x25 < x24)) (cond (decide ((0 : Int) ≤ x25)) (cond (decide (x25 < ((x23).length : Int))) ((impl_writer_raw.f k c0_0z c0_0 (((((x23).getD (x25).toNat .bad).cells.getD 0 .bad)).isNil) (((((x23).getD (x25).toNat .bad).cells.getD 0 .bad)).toNums)).bind fun t0 => j0 x23z x23 x24 (RowKit.wrap64 (x25 + 1)) t0.1 t0.2) (none)) (none)) (ret (c0_0z, c0_0))
def impl_writer_qc.l0 : Nat → Bool → (List T) → Int → Int → Bool → (List Int) → Option (Bool × List Int)
  | 0, _, _, _, _, _, _ => none
  | k + 1, x23z, x23, x24, x25, c0_0z, c0_0 => impl_writer_qc.l0b some (impl_writer_qc.l0 k) k x23z x23 x24 x25 c0_0z c0_0
def impl_writer_qc.f : Nat → Bool → (List Int) → Int → Int → Bool → (List Int) → Bool → (List Int) → Bool → (List T) → Option (Bool × List Int)
  | 0, _, _, _, _, _, _, _, _, _, _ => none
  | k + 1, a0_0z, a0_0, a1_0, a1_1, a1_2z, a1_2, a1_3z, a1_3, a1_4z, a1_4 => impl_writer_qc.b some (impl_writer_qc.l0 k) k a0_0z a0_0 a1_0 a1_1 a1_2z a1_2 a1_3z a1_3 a1_4z a1_4
def impl_writer_qc.enc (r : Bool × List Int) : Res := ⟨[], [[((.nums 5 .u8 r.1 r.2), true)]]⟩
def impl_writer_qc.ans (k : Nat) : List Arg → Ans
  | [.box [((.nums 5 .u8 a0_0z a0_0), true)], .v (.agg [(.int .i64 a1_0), (.int .i64 a1_1), (.nums 5 .u8 a1_2z a1_2), (.nums 5 .u8 a1_3z a1_3), (.sl 22 a1_4z a1_4)])] => ⟨impl_writer_qc.f k a0_0z a0_0 a1_0 a1_1 a1_2z a1_2 a1_3z a1_3 a1_4z a1_4, impl_writer_qc.enc⟩
  | _ => Ans.no
def impl_writer_qc.Cs (k : Nat) : CallSem := tab [(196, impl_writer_num.ans k), (197, impl_writer_raw.ans k)]
def impl_writer_qc.cuts : List (Nat × Keep) := [(254, ⟨[(0, some []), (23, some []), (24, some []), (25, some [])], [(0, [none])]⟩)]
noncomputable def impl_writer_qc.K0 : List Fr := framesAt [true, true, true, true, true, true, false] (bodyOf Try.f198 impl_writer_qc.cuts) []
def impl_writer_qc.N0 (x23z : Bool) (x23 : List T) (x24 x25 : Int) (c0_0z : Bool) (c0_0 : List Int) : St := stOf 33 33 2 [(0, .bp 0 0), (23, .val ⟨(.sl 22 x23z x23), [], false, none⟩), (24, .val (V.s (.int .i64 x24))), (25, .val (V.s (.int .i64 x25)))] [(0, .cells [⟨(.nums 5 .u8 c0_0z c0_0), [.l 0 1], true, some (.l 0 1)⟩])]
theorem impl_writer_qc.s0 (k : Nat) (G : List Fr → St → Option Res) (a0_0z : Bool) (a0_0 : List Int) (a1_0 a1_1 : Int) (a1_2z : Bool) (a1_2 : List Int) (a1_3z : Bool) (a1_3 : List Int) (a1_4z : Bool) (a1_4 : List T) (yx23z : Bool) (yx23 : List T) (yx24 yx25 : Int) (yc0_0z : Bool) (yc0_0 : List Int) : resume Try.prog (impl_writer_qc.Cs k) G (finish Try.prog [] Try.f198 [.box [((.nums 5 .u8 a0_0z a0_0), true)], .v (.agg [(.int .i64 a1_0), (.int .i64 a1_1), (.nums 5 .u8 a1_2z a1_2), (.nums 5 .u8 a1_3z a1_3), (.sl 22 a1_4z a1_4)])]) 100000 impl_writer_qc.K0 (impl_writer_qc.N0 yx23z yx23 yx24 yx25 yc0_0z yc0_0) = impl_writer_qc.l0b (fun r => some (impl_writer_qc.enc r)) (fun x23z x23 x24 x25 c0_0z c0_0 => G impl_writer_qc.K0 (impl_writer_qc.N0 x23z x23 x24 x25 c0_0z c0_0)) k yx23z yx23 yx24 yx25 yc0_0z yc0_0 := by kernel_rfl
theorem impl_writer_qc.bn {R R' : Type} (e : R → R') (ret : Bool × List Int → Option R) (j0 : Bool → (List T) → Int → Int → Bool → (List Int) → Option R) (k : Nat) (a0_0z : Bool) (a0_0 : List Int) (a1_0 a1_1 : Int) (a1_2z : Bool) (a1_2 : List Int) (a1_3z : Bool) (a1_3 : List Int) (a1_4z : Bool) (a1_4 : List T) : impl_writer_qc.b (fun r => (ret r).map e) (fun x23z x23 x24 x25 c0_0z c0_0 => (j0 x23z x23 x24 x25 c0_0z c0_0).map e) k a0_0z a0_0 a1_0 a1_1 a1_2z a1_2 a1_3z a1_3 a1_4z a1_4 = (impl_writer_qc.b ret j0 k a0_0z a0_0 a1_0 a1_1 a1_2z a1_2 a1_3z a1_3 a1_4z a1_4).map e := by
  unfold impl_writer_qc.b
  repeat' first | with_reducible refine nat_cond ?_ ?_ | with_reducible refine nat_bind fun _ => ?_ | rfl
theorem impl_writer_qc.l0n {R R' : Type} (e : R → R') (ret : Bool × List Int → Option R) (j0 : Bool → (List T) → Int → Int → Bool → (List Int) → Option R) (k : Nat) (x23z : Bool) (x23 : List T) (x24 x25 : Int) (c0_0z : Bool) (c0_0 : List Int) : impl_writer_qc.l0b (fun r => (ret r).map e) (fun x23z x23 x24 x25 c0_0z c0_0 => (j0 x23z x23 x24 x25 c0_0z c0_0).map e) k x23z x23 x24 x25 c0_0z c0_0 = (impl_writer_qc.l0b ret j0 k x23z x23 x24 x25 c0_0z c0_0).map e := by
  unfold impl_writer_qc.l0b
  repeat' first | with_reducible refine nat_cond ?_ ?_ | with_reducible refine nat_bind fun _ => ?_ | rfl
theorem impl_writer_qc.rq (a0_0z : Bool) (a0_0 : List Int) (a1_0 a1_1 : Int) (a1_2z : Bool) (a1_2 : List Int) (a1_3z : Bool) (a1_3 : List Int) (a1_4z : Bool) (a1_4 : List T) : ∀ k, (∀ (x23z : Bool) (x23 : List T) (x24 x25 : Int) (c0_0z : Bool) (c0_0 : List Int), rounds Try.prog impl_writer_qc.Cs (finish Try.prog [] Try.f198 [.box [((.nums 5 .u8 a0_0z a0_0), true)], .v (.agg [(.int .i64 a1_0), (.int .i64 a1_1), (.nums 5 .u8 a1_2z a1_2), (.nums 5 .u8 a1_3z a1_3), (.sl 22 a1_4z a1_4)])]) 100000 k impl_writer_qc.K0 (impl_writer_qc.N0 x23z x23 x24 x25 c0_0z c0_0) = (impl_writer_qc.l0 k x23z x23 x24 x25 c0_0z c0_0).map impl_writer_qc.enc)
  | 0 => fun _ _ _ _ _ _ => rfl
  | k + 1 => by
    have ih := impl_writer_qc.rq a0_0z a0_0 a1_0 a1_1 a1_2z a1_2 a1_3z a1_3 a1_4z a1_4 k
    refine fun _ _ _ _ _ _ => ?_
    · refine (impl_writer_qc.s0 k _ a0_0z a0_0 a1_0 a1_1 a1_2z a1_2 a1_3z a1_3 a1_4z a1_4 _ _ _ _ _ _).trans (Eq.trans ?_ (impl_writer_qc.l0n impl_writer_qc.enc some (impl_writer_qc.l0 k) k _ _ _ _ _ _))
      simp only [ih, Option.map_some]
theorem impl_writer_qc.eq (k : Nat) (a0_0z : Bool) (a0_0 : List Int) (a1_0 a1_1 : Int) (a1_2z : Bool) (a1_2 : List Int) (a1_3z : Bool) (a1_3 : List Int) (a1_4z : Bool) (a1_4 : List T) : answer Try.prog impl_writer_qc.Cs 100000 impl_writer_qc.cuts [] Try.f198 (k + 1) [.box [((.nums 5 .u8 a0_0z a0_0), true)], .v (.agg [(.int .i64 a1_0), (.int .i64 a1_1), (.nums 5 .u8 a1_2z a1_2), (.nums 5 .u8 a1_3z a1_3), (.sl 22 a1_4z a1_4)])] = (impl_writer_qc.f (k + 1) a0_0z a0_0 a1_0 a1_1 a1_2z a1_2 a1_3z a1_3 a1_4z a1_4).map impl_writer_qc.enc := by
  have ih := impl_writer_qc.rq a0_0z a0_0 a1_0 a1_1 a1_2z a1_2 a1_3z a1_3 a1_4z a1_4 k
  refine Eq.trans (b := impl_writer_qc.b (fun r => some (impl_writer_qc.enc r)) (fun x23z x23 x24 x25 c0_0z c0_0 => rounds Try.prog impl_writer_qc.Cs (finish Try.prog [] Try.f198 [.box [((.nums 5 .u8 a0_0z a0_0), true)], .v (.agg [(.int .i64 a1_0), (.int .i64 a1_1), (.nums 5 .u8 a1_2z a1_2), (.nums 5 .u8 a1_3z a1_3), (.sl 22 a1_4z a1_4)])]) 100000 k impl_writer_qc.K0 (impl_writer_qc.N0 x23z x23 x24 x25 c0_0z c0_0)) k a0_0z a0_0 a1_0 a1_1 a1_2z a1_2 a1_3z a1_3 a1_4z a1_4) (by kernel_rfl) (Eq.trans ?_ (impl_writer_qc.bn impl_writer_qc.enc some (impl_writer_qc.l0 k) k a0_0z a0_0 a1_0 a1_1 a1_2z a1_2 a1_3z a1_3 a1_4z a1_4))
  simp only [ih, Option.map_some]
theorem impl_writer_qc.sound (k : Nat) : SoundF Try.prog 198 (fun a => (impl_writer_qc.ans k a).val) := by
  refine sound_plain (fun args res h => ?_) (fun t n => rfl)
  unfold impl_writer_qc.ans at h
  dsimp only at h
  split at h
  · cases k with
    | zero => cases h
    | succ k =>
      unfold Ans.val at h
      rw [← impl_writer_qc.eq] at h
      exact answer_sound mixed Try.func198 _ _ _ (k + 1) (fun j _ => tab_sound (tab_cons (impl_writer_num.sound j) (tab_cons (impl_writer_raw.sound j) (tab_nil)))) _ _ h
  · exact (Ans.no_val h).elim

def impl_writer_head.b {R : Type} (ret : Bool × List Int → Option R) (k : Nat) (a0_0z : Bool) (a0_0 : List Int) (a1_0 a1_1 a1_2 : Int) (a1_3z : Bool) (a1_3 : List Int) (a1_4z : Bool) (a1_4 : List Int) (a1_5 a1_6 : Int) (a1_7z : Bool) (a1_7 : List Int) (a1_8z : Bool) (a1_8 : List Int) (a1_9z : Bool) (a1_9 : List T) : Option R :=
  (impl_writer_num.f k a0_0z a0_0 a1_0).bind fun t0 => (impl_writer_num.f k t0.1 t0.2 a1_1).bind fun t1 => (impl_writer_num.f k t1.1 t1.2 a1_2).bind fun t2 => (impl_writer_raw.f k t2.1 t2.2 a1_3z a1_3).bind fun t3 => (impl_writer_raw.f k t3.1 t3.2 a1_4z a1_4).bind fun t4 => (impl_writer_qc.f k t4.1 t4.2 a1_5 a1_6 a1_7z a1_7 a1_8z a1_8 a1_9z a1_9).bind fun t5 => ret (t5.1, t5.2)
def impl_writer_head.f : Nat → Bool → (List Int) → Int → Int → Int → Bool → (List Int) → Bool → (List Int) → Int → Int → Bool → (List Int) → Bool → (List Int) → Bool → (List T) → Option (Bool × List Int)
  | 0, _, _, _, _, _, _, _, _, _, _, _, _, _, _, _, _, _ => none
  | k + 1, a0_0z, a0_0, a1_0, a1_1, a1_2, a1_3z, a1_3, a1_4z, a1_4, a1_5, a1_6, a1_7z, a1_7, a1_8z, a1_8, a1_9z, a1_9 => impl_writer_head.b some k a0_0z a0_0 a1_0 a1_1 a1_2 a1_3z a1_3 a1_4z a1_4 a1_5 a1_6 a1_7z a1_7 a1_8z a1_8 a1_9z a1_9
def impl_writer_head.enc (r : Bool × List Int) : Res := ⟨[], [[((.nums 5 .u8 r.1 r.2), true)]]⟩
def impl_writer_head.ans (k : Nat) : List Arg → Ans
  | [.box [((.nums 5 .u8 a0_0z a0_0), true)], .v (.agg [(.int .i64 a1_0), (.int .i64 a1_1), (.int .i64 a1_2), (.nums 5 .u8 a1_3z a1_3), (.nums 5 .u8 a1_4z a1_4), (.int .i64 a1_5), (.int .i64 a1_6), (.nums 5 .u8 a1_7z a1_7), (.nums 5 .u8 a1_8z a1_8), (.sl 22 a1_9z a1_9)])] => ⟨impl_writer_head.f k a0_0z a0_0 a1_0 a1_1 a1_2 a1_3z a1_3 a1_4z a1_4 a1_5 a1_6 a1_7z a1_7 a1_8z a1_8 a1_9z a1_9, impl_writer_head.enc⟩
  | _ => Ans.no
def impl_writer_head.Cs (k : Nat) : CallSem := tab [(196, impl_writer_num.ans k), (197, impl_writer_raw.ans k), (198, impl_writer_qc.ans k)]
theorem impl_writer_head.eq (k : Nat) (a0_0z : Bool) (a0_0 : List Int) (a1_0 a1_1 a1_2 : Int) (a1_3z : Bool) (a1_3 : List Int) (a1_4z : Bool) (a1_4 : List Int) (a1_5 a1_6 : Int) (a1_7z : Bool) (a1_7 : List Int) (a1_8z : Bool) (a1_8 : List Int) (a1_9z : Bool) (a1_9 : List T) : answer Try.prog impl_writer_head.Cs 100000 [] [] Try.f162 (k + 1) [.box [((.nums 5 .u8 a0_0z a0_0), true)], .v (.agg [(.int .i64 a1_0), (.int .i64 a1_1), (.int .i64 a1_2), (.nums 5 .u8 a1_3z a1_3), (.nums 5 .u8 a1_4z a1_4), (.int .i64 a1_5), (.int .i64 a1_6), (.nums 5 .u8 a1_7z a1_7), (.nums 5 .u8 a1_8z a1_8), (.sl 22 a1_9z a1_9)])] = (impl_writer_head.f (k + 1) a0_0z a0_0 a1_0 a1_1 a1_2 a1_3z a1_3 a1_4z a1_4 a1_5 a1_6 a1_7z a1_7 a1_8z a1_8 a1_9z a1_9).map impl_writer_head.enc := by
  refine Eq.trans (b := impl_writer_head.b (fun r => some (impl_writer_head.enc r)) k a0_0z a0_0 a1_0 a1_1 a1_2 a1_3z a1_3 a1_4z a1_4 a1_5 a1_6 a1_7z a1_7 a1_8z a1_8 a1_9z a1_9) (by kernel_rfl) ?_
  show _ = (impl_writer_head.b some k a0_0z a0_0 a1_0 a1_1 a1_2 a1_3z a1_3 a1_4z a1_4 a1_5 a1_6 a1_7z a1_7 a1_8z a1_8 a1_9z a1_9).map impl_writer_head.enc
  unfold impl_writer_head.b
  repeat' first | with_reducible refine nat_cond ?_ ?_ | with_reducible refine nat_bind fun _ => ?_ | rfl
theorem impl_writer_head.sound (k : Nat) : SoundF Try.prog 162 (fun a => (impl_writer_head.ans k a).val) := by
  refine sound_plain (fun args res h => ?_) (fun t n => rfl)
  unfold impl_writer_head.ans at h
  dsimp only at h
  split at h
  · cases k with
    | zero => cases h
    | succ k =>
      unfold Ans.val at h
      rw [← impl_writer_head.eq] at h
      exact answer_sound mixed Try.func162 _ _ _ (k + 1) (fun j _ => tab_sound (tab_cons (impl_writer_num.sound j) (tab_cons (impl_writer_raw.sound j) (tab_cons (impl_writer_qc.sound j) (tab_nil))))) _ _ h
  · exact (Ans.no_val h).elim

def impl_PutHead.b {R : Type} (ret : Bool × (List Int) × Bool → Option R) (k : Nat) (a0_0 a0_1 : Int) (a0_2 a0_3 a0_4 : Int) (a1z : Bool) (a1 : List Int) (a2_0 a2_1 a2_2 : Int) (a2_3z : Bool) (a2_3 : List Int) (a2_4z : Bool) (a2_4 : List Int) (a2_5 a2_6 : Int) (a2_7z : Bool) (a2_7 : List Int) (a2_8z : Bool) (a2_8 : List Int) (a2_9z : Bool) (a2_9 : List T) : Option R :=
  (impl_HeadOk.f k a0_0 a0_1 a0_2 a0_3 a0_4 a2_0 a2_1 a2_2 a2_3z a2_3 a2_4z a2_4 a2_5 a2_6 a2_7z a2_7 a2_8z a2_8 a2_9z a2_9).bind fun t0 => cond (!t0) (ret (true, ([] : List Int), false)) ((impl_copyBytes.f k a1z a1).bind fun t1 => (impl_writer_head.f k t1.1 t1.2 a2_0 a2_1 a2_2 a2_3z a2_3 a2_4z a2_4 a2_5 a2_6 a2_7z a2_7 a2_8z a2_8 a2_9z a2_9).bind fun t2 => ret (t2.1, t2.2, true))
def impl_PutHead.f : Nat → Int → Int → Int → Int → Int → Bool → (List Int) → Int → Int → Int → Bool → (List Int) → Bool → (List Int) → Int → Int → Bool → (List Int) → Bool → (List Int) → Bool → (List T) → Option (Bool × (List Int) × Bool)
  | 0, _, _, _, _, _, _, _, _, _, _, _, _, _, _, _, _, _, _, _, _, _, _ => none
  | k + 1, a0_0, a0_1, a0_2, a0_3, a0_4, a1z, a1, a2_0, a2_1, a2_2, a2_3z, a2_3, a2_4z, a2_4, a2_5, a2_6, a2_7z, a2_7, a2_8z, a2_8, a2_9z, a2_9 => impl_PutHead.b some k a0_0 a0_1 a0_2 a0_3 a0_4 a1z a1 a2_0 a2_1 a2_2 a2_3z a2_3 a2_4z a2_4 a2_5 a2_6 a2_7z a2_7 a2_8z a2_8 a2_9z a2_9
def impl_PutHead.enc (r : Bool × (List Int) × Bool) : Res := ⟨[.vals false [((.nums 5 .u8 r.1 r.2.1), true)], .vals false [((.bool r.2.2), true)]], []⟩
def impl_PutHead.ans (k : Nat) : List Arg → Ans
  | [.v (.agg [(.int .i64 a0_0), (.int .i64 a0_1), (.int .i64 a0_2), (.int .i64 a0_3), (.int .i64 a0_4)]), .v (.nums 5 .u8 a1z a1), .v (.agg [(.int .i64 a2_0), (.int .i64 a2_1), (.int .i64 a2_2), (.nums 5 .u8 a2_3z a2_3), (.nums 5 .u8 a2_4z a2_4), (.int .i64 a2_5), (.int .i64 a2_6), (.nums 5 .u8 a2_7z a2_7), (.nums 5 .u8 a2_8z a2_8), (.sl 22 a2_9z a2_9)])] => ⟨impl_PutHead.f k a0_0 a0_1 a0_2 a0_3 a0_4 a1z a1 a2_0 a2_1 a2_2 a2_3z a2_3 a2_4z a2_4 a2_5 a2_6 a2_7z a2_7 a2_8z a2_8 a2_9z a2_9, impl_PutHead.enc⟩
  | _ => Ans.no
def impl_PutHead.Cs (k : Nat) : CallSem := tab [(102, impl_HeadOk.ans k), (80, impl_copyBytes.ans k), (162, impl_writer_head.ans k)]
theorem impl_PutHead.eq (k : Nat) (a0_0 a0_1 : Int) (a0_2 a0_3 a0_4 : Int) (a1z : Bool) (a1 : List Int) (a2_0 a2_1 a2_2 : Int) (a2_3z : Bool) (a2_3 : List Int) (a2_4z : Bool) (a2_4 : List Int) (a2_5 a2_6 : Int) (a2_7z : Bool) (a2_7 : List Int) (a2_8z : Bool) (a2_8 : List Int) (a2_9z : Bool) (a2_9 : List T) : answer Try.prog impl_PutHead.Cs 100000 [] [] Try.f103 (k + 1) [.v (.agg [(.int .i64 a0_0), (.int .i64 a0_1), (.int .i64 a0_2), (.int .i64 a0_3), (.int .i64 a0_4)]), .v (.nums 5 .u8 a1z a1), .v (.agg [(.int .i64 a2_0), (.int .i64 a2_1), (.int .i64 a2_2), (.nums 5 .u8 a2_3z a2_3), (.nums 5 .u8 a2_4z a2_4), (.int .i64 a2_5), (.int .i64 a2_6), (.nums 5 .u8 a2_7z a2_7), (.nums 5 .u8 a2_8z a2_8), (.sl 22 a2_9z a2_9)])] = (impl_PutHead.f (k + 1) a0_0 a0_1 a0_2 a0_3 a0_4 a1z a1 a2_0 a2_1 a2_2 a2_3z a2_3 a2_4z a2_4 a2_5 a2_6 a2_7z a2_7 a2_8z a2_8 a2_9z a2_9).map impl_PutHead.enc := by
  refine Eq.trans (b := impl_PutHead.b (fun r => some (impl_PutHead.enc r)) k a0_0 a0_1 a0_2 a0_3 a0_4 a1z a1 a2_0 a2_1 a2_2 a2_3z a2_3 a2_4z a2_4 a2_5 a2_6 a2_7z a2_7 a2_8z a2_8 a2_9z a2_9) (by kernel_rfl) ?_
  show _ = (impl_PutHead.b some k a0_0 a0_1 a0_2 a0_3 a0_4 a1z a1 a2_0 a2_1 a2_2 a2_3z a2_3 a2_4z a2_4 a2_5 a2_6 a2_7z a2_7 a2_8z a2_8 a2_9z a2_9).map impl_PutHead.enc
  unfold impl_PutHead.b
  repeat' first | with_reducible refine nat_cond ?_ ?_ | with_reducible refine nat_bind fun _ => ?_ | rfl
theorem impl_PutHead.sound (k : Nat) : SoundF Try.prog 103 (fun a => (impl_PutHead.ans k a).val) := by
  refine sound_plain (fun args res h => ?_) (fun t n => rfl)
  unfold impl_PutHead.ans at h
  dsimp only at h
  split at h
  · cases k with
    | zero => cases h
    | succ k =>
      unfold Ans.val at h
      rw [← impl_PutHead.eq] at h
      exact answer_sound mixed Try.func103 _ _ _ (k + 1) (fun j _ => tab_sound (tab_cons (impl_HeadOk.sound j) (tab_cons (impl_copyBytes.sound j) (tab_cons (impl_writer_head.sound j) (tab_nil))))) _ _ h
  · exact (Ans.no_val h).elim

def impl_ShaInit.b {R : Type} (ret : Bool × List Int → Option R) (k : Nat) : Option R :=
  ret (false, ([1779033703, 3144134277, 1013904242, 2773480762, 1359893119, 2600822924, 528734635, 1541459225] : List Int))
def impl_ShaInit.f : Nat → Option (Bool × List Int)
  | 0 => none
  | k + 1 => impl_ShaInit.b some k
def impl_ShaInit.enc (r : Bool × List Int) : Res := ⟨[.vals false [((.nums 3 .i64 r.1 r.2), true)]], []⟩
def impl_ShaInit.ans (k : Nat) : List Arg → Ans
  | [] => ⟨impl_ShaInit.f k, impl_ShaInit.enc⟩
  | _ => Ans.no
def impl_ShaInit.Cs (k : Nat) : CallSem := tab []
theorem impl_ShaInit.eq (k : Nat) : answer Try.prog impl_ShaInit.Cs 100000 [] [] Try.f163 (k + 1) [] = (impl_ShaInit.f (k + 1)).map impl_ShaInit.enc := by
  refine Eq.trans (b := impl_ShaInit.b (fun r => some (impl_ShaInit.enc r)) k) (by kernel_rfl) ?_
  show _ = (impl_ShaInit.b some k).map impl_ShaInit.enc
  unfold impl_ShaInit.b
  repeat' first | with_reducible refine nat_cond ?_ ?_ | with_reducible refine nat_bind fun _ => ?_ | rfl
theorem impl_ShaInit.sound (k : Nat) : SoundF Try.prog 163 (fun a => (impl_ShaInit.ans k a).val) := by
  refine sound_plain (fun args res h => ?_) (fun t n => rfl)
  unfold impl_ShaInit.ans at h
  dsimp only at h
  split at h
  · cases k with
    | zero => cases h
    | succ k =>
      unfold Ans.val at h
      rw [← impl_ShaInit.eq] at h
      exact answer_sound mixed Try.func163 _ _ _ (k + 1) (fun j _ => tab_sound (tab_nil)) _ _ h
  · exact (Ans.no_val h).elim

end Go.Proofs.YtbpcnodmgphinaaG
