/- What the functions compute, printed by a program of this repo; each is shown to be what the machine of values answers. No condition. -/
import Derived.Test.YtbpcnodmgphinaaProg
import Derived.KernelRfl
import Derived.Test.YtbpcnodmgphinaaGFnExactTwiceb
namespace Go.Proofs.YtbpcnodmgphinaaG
open Go Go.Proofs.YtbpcnodmgphinaaRv Go.Proofs
set_option linter.unusedVariables false
set_option linter.unusedSimpArgs false
/-! loop.example/g00790/spec.Twice -/
def spec_Twice.b {R : Type} (ret : Bool × List Int → Option R) (j0 : Bool → (List T) → (List Int) → Bool → (List T) → Int → Int → Bool → (List T) → Option R) (j1 : Bool → (List T) → (List Int) → Bool → (List T) → Int → Int → Bool → (List T) → Int → Int → Bool → (List T) → Int → Int → Bool → (List Int) → Int → Bool → (List Int) → Option R) (j2 : Bool → (List T) → (List Int) → Bool → (List T) → Int → Int → Bool → (List T) → Int → Int → Bool → Bool → (List T) → Int → Int → Bool → (List Int) → Int → Bool → (List Int) → Option R) (k : Nat) (a0_0z : Bool) (a0_0 : List T) (a1z : Bool) (a1 : List T) : Option R :=
  (spec_TableOk.f k a0_0z a0_0).bind fun t0 => cond (!t0) (ret (true, ([] : List Int))) (j0 a1z a1 ([] : List Int) a1z a1 ((a1).length : Int) 0 a0_0z a0_0)
def spec_Twice.l0b {R : Type} (ret : Bool × List Int → Option R) (j0 : Bool → (List T) → (List Int) → Bool → (List T) → Int → Int → Bool → (List T) → Option R) (j1 : Bool → (List T) → (List Int) → Bool → (List T) → Int → Int → Bool → (List T) → Int → Int → Bool → (List T) → Int → Int → Bool → (List Int) → Int → Bool → (List Int) → Option R) (j2 : Bool → (List T) → (List Int) → Bool → (List T) → Int → Int → Bool → (List T) → Int → Int → Bool → Bool → (List T) → Int → Int → Bool → (List Int) → Int → Bool → (List Int) → Option R) (k : Nat) (x1z : Bool) (x1 : List T) (x5 : List Int) (x14z : Bool) (x14 : List T) (x15 : Int) (x16 : Int) (c2_0z : Bool) (c2_0 : List T) : Option R :=
  cond (decide (x16 < x15)) (cond (decide ((0 : Int) ≤ x16)) (cond (decide (x16 < ((x14).length : Int))) (cond (decide ((0 : Int) ≤ x16)) (cond (decide (x16 ≤ ((x1).length : Int))) (cond (decide ((0 : Int) ≤ x16)) (j1 x1z x1 x5 x14z x14 x15 x16 x1z (((x1).take (x16).toNat).drop 0) (((((x1).take (x16).toNat).drop 0)).length : Int) 0 c2_0z c2_0 (((((x14).getD (x16).toNat .bad).cells.getD 0 .bad)).toInt) (((((x14).getD (x16).toNat .bad).cells.getD 1 .bad)).toInt) (((((x14).getD (x16).toNat .bad).cells.getD 2 .bad)).isNil) (((((x14).getD (x16).toNat .bad).cells.getD 2 .bad)).toNums) (((((x14).getD (x16).toNat .bad).cells.getD 3 .bad)).toInt) (((((x14).getD (x16).toNat .bad).cells.getD 4 .bad)).isNil) (((((x14).getD (x16).toNat .bad).cells.getD 4 .bad)).toNums)) (none)) (none)) (none)) (none)) (none)) ((spec_l28Bits.f k ((c2_0).length : Int) false x5).bind fun t0 => ret (t0.1, t0.2))
def spec_Twice.l1b {R : Type} (ret : Bool × List Int → Option R) (j0 : Bool → (List T) → (List Int) → Bool → (List T) → Int → Int → Bool → (List T) → Option R) (j1 : Bool → (List T) → (List Int) → Bool → (List T) → Int → Int → Bool → (List T) → Int → Int → Bool → (List T) → Int → Int → Bool → (List Int) → Int → Bool → (List Int) → Option R) (j2 : Bool → (List T) → (List Int) → Bool → (List T) → Int → Int → Bool → (List T) → Int → Int → Bool → Bool → (List T) → Int → Int → Bool → (List Int) → Int → Bool → (List Int) → Option R) (k : Nat) (x1z : Bool) (x1 : List T) (x5 : List Int) (x14z : Bool) (x14 : List T) (x15 : Int) (x16 : Int) (x23z : Bool) (x23 : List T) (x24 : Int) (x25 : Int) (c2_0z : Bool) (c2_0 : List T) (c7_0 : Int) (c7_1 : Int) (c7_2z : Bool) (c7_2 : List Int) (c7_3 : Int) (c7_4z : Bool) (c7_4 : List Int) : Option R :=
  cond (decide (x25 < x24)) (cond (decide ((0 : Int) ≤ x25)) (cond (decide (x25 < ((x23).length : Int))) (cond (decide (c7_3 = ((((x23).getD (x25).toNat .bad).cells.getD 3 .bad)).toInt)) (cond (decide (c7_0 = ((((x23).getD (x25).toNat .bad).cells.getD 0 .bad)).toInt)) ((spec_SameBytes.f k c7_2z c7_2 (((((x23).getD (x25).toNat .bad).cells.getD 2 .bad)).isNil) (((((x23).getD (x25).toNat .bad).cells.getD 2 .bad)).toNums)).bind fun t0 => cond (!t0) ((spec_VoteGood.f k c2_0z c2_0 c7_0 c7_1 c7_2z c7_2 c7_3 c7_4z c7_4).bind fun t1 => cond t1 ((spec_VoteGood.f k c2_0z c2_0 (((((x23).getD (x25).toNat .bad).cells.getD 0 .bad)).toInt) (((((x23).getD (x25).toNat .bad).cells.getD 1 .bad)).toInt) (((((x23).getD (x25).toNat .bad).cells.getD 2 .bad)).isNil) (((((x23).getD (x25).toNat .bad).cells.getD 2 .bad)).toNums) (((((x23).getD (x25).toNat .bad).cells.getD 3 .bad)).toInt) (((((x23).getD (x25).toNat .bad).cells.getD 4 .bad)).isNil) (((((x23).getD (x25).toNat .bad).cells.getD 4 .bad)).toNums)).bind fun t2 => j2 x1z x1 x5 x14z x14 x15 x16 x23z x23 x24 x25 t2 c2_0z c2_0 c7_0 c7_1 c7_2z c7_2 c7_3 c7_4z c7_4) (j2 x1z x1 x5 x14z x14 x15 x16 x23z x23 x24 x25 false c2_0z c2_0 c7_0 c7_1 c7_2z c7_2 c7_3 c7_4z c7_4)) (j2 x1z x1 x5 x14z x14 x15 x16 x23z x23 x24 x25 false c2_0z c2_0 c7_0 c7_1 c7_2z c7_2 c7_3 c7_4z c7_4)) (j2 x1z x1 x5 x14z x14 x15 x16 x23z x23 x24 x25 false c2_0z c2_0 c7_0 c7_1 c7_2z c7_2 c7_3 c7_4z c7_4)) (j2 x1z x1 x5 x14z x14 x15 x16 x23z x23 x24 x25 false c2_0z c2_0 c7_0 c7_1 c7_2z c7_2 c7_3 c7_4z c7_4)) (none)) (none)) (j0 x1z x1 x5 x14z x14 x15 (RowKit.wrap64 (x16 + 1)) c2_0z c2_0)
def spec_Twice.l2b {R : Type} (ret : Bool × List Int → Option R) (j0 : Bool → (List T) → (List Int) → Bool → (List T) → Int → Int → Bool → (List T) → Option R) (j1 : Bool → (List T) → (List Int) → Bool → (List T) → Int → Int → Bool → (List T) → Int → Int → Bool → (List T) → Int → Int → Bool → (List Int) → Int → Bool → (List Int) → Option R) (j2 : Bool → (List T) → (List Int) → Bool → (List T) → Int → Int → Bool → (List T) → Int → Int → Bool → Bool → (List T) → Int → Int → Bool → (List Int) → Int → Bool → (List Int) → Option R) (k : Nat) (x1z : Bool) (x1 : List T) (x5 : List Int) (x14z : Bool) (x14 : List T) (x15 : Int) (x16 : Int) (x23z : Bool) (x23 : List T) (x24 : Int) (x25 : Int) (x58 : Bool) (c2_0z : Bool) (c2_0 : List T) (c7_0 : Int) (c7_1 : Int) (c7_2z : Bool) (c7_2 : List Int) (c7_3 : Int) (c7_4z : Bool) (c7_4 : List Int) : Option R :=
  cond x58 (cond (decide ((x5).length + 1 < 17592186044416)) (j1 x1z x1 (x5 ++ ([c7_3] : List Int)) x14z x14 x15 x16 x23z x23 x24 (RowKit.wrap64 (x25 + 1)) c2_0z c2_0 c7_0 c7_1 c7_2z c7_2 c7_3 c7_4z c7_4) (none)) (j1 x1z x1 x5 x14z x14 x15 x16 x23z x23 x24 (RowKit.wrap64 (x25 + 1)) c2_0z c2_0 c7_0 c7_1 c7_2z c7_2 c7_3 c7_4z c7_4)
mutual
def spec_Twice.l0 : Nat → Bool → (List T) → (List Int) → Bool → (List T) → Int → Int → Bool → (List T) → Option (Bool × List Int)
  | 0, _, _, _, _, _, _, _, _, _ => none
  | k + 1, x1z, x1, x5, x14z, x14, x15, x16, c2_0z, c2_0 => spec_Twice.l0b some (spec_Twice.l0 k) (spec_Twice.l1 k) (spec_Twice.l2 k) k x1z x1 x5 x14z x14 x15 x16 c2_0z c2_0
def spec_Twice.l1 : Nat → Bool → (List T) → (List Int) → Bool → (List T) → Int → Int → Bool → (List T) → Int → Int → Bool → (List T) → Int → Int → Bool → (List Int) → Int → Bool → (List Int) → Option (Bool × List Int)
  | 0, _, _, _, _, _, _, _, _, _, _, _, _, _, _, _, _, _, _, _, _ => none
  | k + 1, x1z, x1, x5, x14z, x14, x15, x16, x23z, x23, x24, x25, c2_0z, c2_0, c7_0, c7_1, c7_2z, c7_2, c7_3, c7_4z, c7_4 => spec_Twice.l1b some (spec_Twice.l0 k) (spec_Twice.l1 k) (spec_Twice.l2 k) k x1z x1 x5 x14z x14 x15 x16 x23z x23 x24 x25 c2_0z c2_0 c7_0 c7_1 c7_2z c7_2 c7_3 c7_4z c7_4
def spec_Twice.l2 : Nat → Bool → (List T) → (List Int) → Bool → (List T) → Int → Int → Bool → (List T) → Int → Int → Bool → Bool → (List T) → Int → Int → Bool → (List Int) → Int → Bool → (List Int) → Option (Bool × List Int)
  | 0, _, _, _, _, _, _, _, _, _, _, _, _, _, _, _, _, _, _, _, _, _ => none
  | k + 1, x1z, x1, x5, x14z, x14, x15, x16, x23z, x23, x24, x25, x58, c2_0z, c2_0, c7_0, c7_1, c7_2z, c7_2, c7_3, c7_4z, c7_4 => spec_Twice.l2b some (spec_Twice.l0 k) (spec_Twice.l1 k) (spec_Twice.l2 k) k x1z x1 x5 x14z x14 x15 x16 x23z x23 x24 x25 x58 c2_0z c2_0 c7_0 c7_1 c7_2z c7_2 c7_3 c7_4z c7_4
end
def spec_Twice.f : Nat → Bool → (List T) → Bool → (List T) → Option (Bool × List Int)
  | 0, _, _, _, _ => none
  | k + 1, a0_0z, a0_0, a1z, a1 => spec_Twice.b some (spec_Twice.l0 k) (spec_Twice.l1 k) (spec_Twice.l2 k) k a0_0z a0_0 a1z a1
def spec_Twice.enc (r : Bool × List Int) : Res := ⟨[.vals false [((.nums 5 .u8 r.1 r.2), true)]], []⟩
def spec_Twice.ans (k : Nat) : List Arg → Ans
  | [.v (.agg [(.sl 44 a0_0z a0_0)]), .v (.sl 33 a1z a1)] => ⟨spec_Twice.f k a0_0z a0_0 a1z a1, spec_Twice.enc⟩
  | _ => Ans.no
def spec_Twice.Cs (k : Nat) : CallSem := tab [(112, spec_TableOk.ans k), (117, spec_l28Bits.ans k), (115, spec_SameBytes.ans k), (116, spec_VoteGood.ans k)]
def spec_Twice.cuts : List (Nat × Keep) := [(122, ⟨[(1, some []), (2, some []), (5, none), (14, some []), (15, some []), (16, some [])], [(2, [some []])]⟩), (31334, ⟨[(1, some []), (2, some []), (5, none), (7, some []), (14, some []), (15, some []), (16, some []), (23, some []), (24, some []), (25, some [])], [(2, [some []]), (7, [some [], some [], some [], some [], some []])]⟩), (2005401, ⟨[(1, some []), (2, some []), (5, none), (7, some []), (14, some []), (15, some []), (16, some []), (23, some []), (24, some []), (25, some []), (58, some [])], [(2, [some []]), (7, [some [], some [], some [], some [], some []])]⟩)]
noncomputable def spec_Twice.K0 : List Fr := framesAt [true, true, true, false, true, false] (bodyOf Try.f64 spec_Twice.cuts) []
def spec_Twice.N0 (x1z : Bool) (x1 : List T) (x5 : List Int) (x14z : Bool) (x14 : List T) (x15 : Int) (x16 : Int) (c2_0z : Bool) (c2_0 : List T) : St := stOf 71 71 2 [(1, .val ⟨(.sl 33 x1z x1), [], false, none⟩), (2, .bp 2 0), (5, .val ⟨(.nums 3 .i64 false x5), [.l 5 0], true, some (.l 5 0)⟩), (14, .val ⟨(.sl 33 x14z x14), [], false, none⟩), (15, .val (V.s (.int .i64 x15))), (16, .val (V.s (.int .i64 x16)))] [(2, .cells [⟨(.sl 44 c2_0z c2_0), [], false, none⟩])]
noncomputable def spec_Twice.K1 : List Fr := framesAt [true, true, true, false, true, false, false, true, true, false, false, true, true, false] (bodyOf Try.f64 spec_Twice.cuts) []
def spec_Twice.N1 (x1z : Bool) (x1 : List T) (x5 : List Int) (x14z : Bool) (x14 : List T) (x15 : Int) (x16 : Int) (x23z : Bool) (x23 : List T) (x24 : Int) (x25 : Int) (c2_0z : Bool) (c2_0 : List T) (c7_0 : Int) (c7_1 : Int) (c7_2z : Bool) (c7_2 : List Int) (c7_3 : Int) (c7_4z : Bool) (c7_4 : List Int) : St := stOf 71 71 2 [(1, .val ⟨(.sl 33 x1z x1), [], false, none⟩), (2, .bp 2 0), (5, .val ⟨(.nums 3 .i64 false x5), [.l 5 0], true, some (.l 5 0)⟩), (7, .bp 7 0), (14, .val ⟨(.sl 33 x14z x14), [], false, none⟩), (15, .val (V.s (.int .i64 x15))), (16, .val (V.s (.int .i64 x16))), (23, .val ⟨(.sl 33 x23z x23), [], false, none⟩), (24, .val (V.s (.int .i64 x24))), (25, .val (V.s (.int .i64 x25)))] [(2, .cells [⟨(.sl 44 c2_0z c2_0), [], false, none⟩]), (7, .cells [V.s (.int .i64 c7_0), V.s (.int .i64 c7_1), ⟨(.nums 5 .u8 c7_2z c7_2), [], false, none⟩, V.s (.int .i64 c7_3), ⟨(.nums 5 .u8 c7_4z c7_4), [], false, none⟩])]
noncomputable def spec_Twice.K2 : List Fr := framesAt [true, true, true, false, true, false, false, true, true, false, false, true, true, false, false, true, true, false, false, true] (bodyOf Try.f64 spec_Twice.cuts) []
def spec_Twice.N2 (x1z : Bool) (x1 : List T) (x5 : List Int) (x14z : Bool) (x14 : List T) (x15 : Int) (x16 : Int) (x23z : Bool) (x23 : List T) (x24 : Int) (x25 : Int) (x58 : Bool) (c2_0z : Bool) (c2_0 : List T) (c7_0 : Int) (c7_1 : Int) (c7_2z : Bool) (c7_2 : List Int) (c7_3 : Int) (c7_4z : Bool) (c7_4 : List Int) : St := stOf 71 71 2 [(1, .val ⟨(.sl 33 x1z x1), [], false, none⟩), (2, .bp 2 0), (5, .val ⟨(.nums 3 .i64 false x5), [.l 5 0], true, some (.l 5 0)⟩), (7, .bp 7 0), (14, .val ⟨(.sl 33 x14z x14), [], false, none⟩), (15, .val (V.s (.int .i64 x15))), (16, .val (V.s (.int .i64 x16))), (23, .val ⟨(.sl 33 x23z x23), [], false, none⟩), (24, .val (V.s (.int .i64 x24))), (25, .val (V.s (.int .i64 x25))), (58, .val (V.s (.bool x58)))] [(2, .cells [⟨(.sl 44 c2_0z c2_0), [], false, none⟩]), (7, .cells [V.s (.int .i64 c7_0), V.s (.int .i64 c7_1), ⟨(.nums 5 .u8 c7_2z c7_2), [], false, none⟩, V.s (.int .i64 c7_3), ⟨(.nums 5 .u8 c7_4z c7_4), [], false, none⟩])]
theorem spec_Twice.s (k : Nat) (a0_0z : Bool) (a0_0 : List T) (a1z : Bool) (a1 : List T) : answer Try.prog spec_Twice.Cs 100000 spec_Twice.cuts [] Try.f64 (k + 1) [.v (.agg [(.sl 44 a0_0z a0_0)]), .v (.sl 33 a1z a1)] = spec_Twice.b (fun r => some (spec_Twice.enc r)) (fun x1z x1 x5 x14z x14 x15 x16 c2_0z c2_0 => rounds Try.prog spec_Twice.Cs (finish Try.prog [] Try.f64 [.v (.agg [(.sl 44 a0_0z a0_0)]), .v (.sl 33 a1z a1)]) 100000 k spec_Twice.K0 (spec_Twice.N0 x1z x1 x5 x14z x14 x15 x16 c2_0z c2_0)) (fun x1z x1 x5 x14z x14 x15 x16 x23z x23 x24 x25 c2_0z c2_0 c7_0 c7_1 c7_2z c7_2 c7_3 c7_4z c7_4 => rounds Try.prog spec_Twice.Cs (finish Try.prog [] Try.f64 [.v (.agg [(.sl 44 a0_0z a0_0)]), .v (.sl 33 a1z a1)]) 100000 k spec_Twice.K1 (spec_Twice.N1 x1z x1 x5 x14z x14 x15 x16 x23z x23 x24 x25 c2_0z c2_0 c7_0 c7_1 c7_2z c7_2 c7_3 c7_4z c7_4)) (fun x1z x1 x5 x14z x14 x15 x16 x23z x23 x24 x25 x58 c2_0z c2_0 c7_0 c7_1 c7_2z c7_2 c7_3 c7_4z c7_4 => rounds Try.prog spec_Twice.Cs (finish Try.prog [] Try.f64 [.v (.agg [(.sl 44 a0_0z a0_0)]), .v (.sl 33 a1z a1)]) 100000 k spec_Twice.K2 (spec_Twice.N2 x1z x1 x5 x14z x14 x15 x16 x23z x23 x24 x25 x58 c2_0z c2_0 c7_0 c7_1 c7_2z c7_2 c7_3 c7_4z c7_4)) k a0_0z a0_0 a1z a1 := by kernel_rfl
theorem spec_Twice.s0 (k : Nat) (G : List Fr → St → Option Res) (a0_0z : Bool) (a0_0 : List T) (a1z : Bool) (a1 : List T) (yx1z : Bool) (yx1 : List T) (yx5 : List Int) (yx14z : Bool) (yx14 : List T) (yx15 : Int) (yx16 : Int) (yc2_0z : Bool) (yc2_0 : List T) : resume Try.prog (spec_Twice.Cs k) G (finish Try.prog [] Try.f64 [.v (.agg [(.sl 44 a0_0z a0_0)]), .v (.sl 33 a1z a1)]) 100000 spec_Twice.K0 (spec_Twice.N0 yx1z yx1 yx5 yx14z yx14 yx15 yx16 yc2_0z yc2_0) = spec_Twice.l0b (fun r => some (spec_Twice.enc r)) (fun x1z x1 x5 x14z x14 x15 x16 c2_0z c2_0 => G spec_Twice.K0 (spec_Twice.N0 x1z x1 x5 x14z x14 x15 x16 c2_0z c2_0)) (fun x1z x1 x5 x14z x14 x15 x16 x23z x23 x24 x25 c2_0z c2_0 c7_0 c7_1 c7_2z c7_2 c7_3 c7_4z c7_4 => G spec_Twice.K1 (spec_Twice.N1 x1z x1 x5 x14z x14 x15 x16 x23z x23 x24 x25 c2_0z c2_0 c7_0 c7_1 c7_2z c7_2 c7_3 c7_4z c7_4)) (fun x1z x1 x5 x14z x14 x15 x16 x23z x23 x24 x25 x58 c2_0z c2_0 c7_0 c7_1 c7_2z c7_2 c7_3 c7_4z c7_4 => G spec_Twice.K2 (spec_Twice.N2 x1z x1 x5 x14z x14 x15 x16 x23z x23 x24 x25 x58 c2_0z c2_0 c7_0 c7_1 c7_2z c7_2 c7_3 c7_4z c7_4)) k yx1z yx1 yx5 yx14z yx14 yx15 yx16 yc2_0z yc2_0 := by kernel_rfl
theorem spec_Twice.s1 (k : Nat) (G : List Fr → St → Option Res) (a0_0z : Bool) (a0_0 : List T) (a1z : Bool) (a1 : List T) (yx1z : Bool) (yx1 : List T) (yx5 : List Int) (yx14z : Bool) (yx14 : List T) (yx15 : Int) (yx16 : Int) (yx23z : Bool) (yx23 : List T) (yx24 : Int) (yx25 : Int) (yc2_0z : Bool) (yc2_0 : List T) (yc7_0 : Int) (yc7_1 : Int) (yc7_2z : Bool) (yc7_2 : List Int) (yc7_3 : Int) (yc7_4z : Bool) (yc7_4 : List Int) : resume Try.prog (spec_Twice.Cs k) G (finish Try.prog [] Try.f64 [.v (.agg [(.sl 44 a0_0z a0_0)]), .v (.sl 33 a1z a1)]) 100000 spec_Twice.K1 (spec_Twice.N1 yx1z yx1 yx5 yx14z yx14 yx15 yx16 yx23z yx23 yx24 yx25 yc2_0z yc2_0 yc7_0 yc7_1 yc7_2z yc7_2 yc7_3 yc7_4z yc7_4) = spec_Twice.l1b (fun r => some (spec_Twice.enc r)) (fun x1z x1 x5 x14z x14 x15 x16 c2_0z c2_0 => G spec_Twice.K0 (spec_Twice.N0 x1z x1 x5 x14z x14 x15 x16 c2_0z c2_0)) (fun x1z x1 x5 x14z x14 x15 x16 x23z x23 x24 x25 c2_0z c2_0 c7_0 c7_1 c7_2z c7_2 c7_3 c7_4z c7_4 => G spec_Twice.K1 (spec_Twice.N1 x1z x1 x5 x14z x14 x15 x16 x23z x23 x24 x25 c2_0z c2_0 c7_0 c7_1 c7_2z c7_2 c7_3 c7_4z c7_4)) (fun x1z x1 x5 x14z x14 x15 x16 x23z x23 x24 x25 x58 c2_0z c2_0 c7_0 c7_1 c7_2z c7_2 c7_3 c7_4z c7_4 => G spec_Twice.K2 (spec_Twice.N2 x1z x1 x5 x14z x14 x15 x16 x23z x23 x24 x25 x58 c2_0z c2_0 c7_0 c7_1 c7_2z c7_2 c7_3 c7_4z c7_4)) k yx1z yx1 yx5 yx14z yx14 yx15 yx16 yx23z yx23 yx24 yx25 yc2_0z yc2_0 yc7_0 yc7_1 yc7_2z yc7_2 yc7_3 yc7_4z yc7_4 := by kernel_rfl
theorem spec_Twice.s2 (k : Nat) (G : List Fr → St → Option Res) (a0_0z : Bool) (a0_0 : List T) (a1z : Bool) (a1 : List T) (yx1z : Bool) (yx1 : List T) (yx5 : List Int) (yx14z : Bool) (yx14 : List T) (yx15 : Int) (yx16 : Int) (yx23z : Bool) (yx23 : List T) (yx24 : Int) (yx25 : Int) (yx58 : Bool) (yc2_0z : Bool) (yc2_0 : List T) (yc7_0 : Int) (yc7_1 : Int) (yc7_2z : Bool) (yc7_2 : List Int) (yc7_3 : Int) (yc7_4z : Bool) (yc7_4 : List Int) : resume Try.prog (spec_Twice.Cs k) G (finish Try.prog [] Try.f64 [.v (.agg [(.sl 44 a0_0z a0_0)]), .v (.sl 33 a1z a1)]) 100000 spec_Twice.K2 (spec_Twice.N2 yx1z yx1 yx5 yx14z yx14 yx15 yx16 yx23z yx23 yx24 yx25 yx58 yc2_0z yc2_0 yc7_0 yc7_1 yc7_2z yc7_2 yc7_3 yc7_4z yc7_4) = spec_Twice.l2b (fun r => some (spec_Twice.enc r)) (fun x1z x1 x5 x14z x14 x15 x16 c2_0z c2_0 => G spec_Twice.K0 (spec_Twice.N0 x1z x1 x5 x14z x14 x15 x16 c2_0z c2_0)) (fun x1z x1 x5 x14z x14 x15 x16 x23z x23 x24 x25 c2_0z c2_0 c7_0 c7_1 c7_2z c7_2 c7_3 c7_4z c7_4 => G spec_Twice.K1 (spec_Twice.N1 x1z x1 x5 x14z x14 x15 x16 x23z x23 x24 x25 c2_0z c2_0 c7_0 c7_1 c7_2z c7_2 c7_3 c7_4z c7_4)) (fun x1z x1 x5 x14z x14 x15 x16 x23z x23 x24 x25 x58 c2_0z c2_0 c7_0 c7_1 c7_2z c7_2 c7_3 c7_4z c7_4 => G spec_Twice.K2 (spec_Twice.N2 x1z x1 x5 x14z x14 x15 x16 x23z x23 x24 x25 x58 c2_0z c2_0 c7_0 c7_1 c7_2z c7_2 c7_3 c7_4z c7_4)) k yx1z yx1 yx5 yx14z yx14 yx15 yx16 yx23z yx23 yx24 yx25 yx58 yc2_0z yc2_0 yc7_0 yc7_1 yc7_2z yc7_2 yc7_3 yc7_4z yc7_4 := by kernel_rfl
theorem spec_Twice.b_nat {R R' : Type} (e : R → R') (ret : Bool × List Int → Option R) (j0 : Bool → (List T) → (List Int) → Bool → (List T) → Int → Int → Bool → (List T) → Option R) (j1 : Bool → (List T) → (List Int) → Bool → (List T) → Int → Int → Bool → (List T) → Int → Int → Bool → (List T) → Int → Int → Bool → (List Int) → Int → Bool → (List Int) → Option R) (j2 : Bool → (List T) → (List Int) → Bool → (List T) → Int → Int → Bool → (List T) → Int → Int → Bool → Bool → (List T) → Int → Int → Bool → (List Int) → Int → Bool → (List Int) → Option R) (k : Nat) (a0_0z : Bool) (a0_0 : List T) (a1z : Bool) (a1 : List T) : spec_Twice.b (fun r => (ret r).map e) (fun x1z x1 x5 x14z x14 x15 x16 c2_0z c2_0 => (j0 x1z x1 x5 x14z x14 x15 x16 c2_0z c2_0).map e) (fun x1z x1 x5 x14z x14 x15 x16 x23z x23 x24 x25 c2_0z c2_0 c7_0 c7_1 c7_2z c7_2 c7_3 c7_4z c7_4 => (j1 x1z x1 x5 x14z x14 x15 x16 x23z x23 x24 x25 c2_0z c2_0 c7_0 c7_1 c7_2z c7_2 c7_3 c7_4z c7_4).map e) (fun x1z x1 x5 x14z x14 x15 x16 x23z x23 x24 x25 x58 c2_0z c2_0 c7_0 c7_1 c7_2z c7_2 c7_3 c7_4z c7_4 => (j2 x1z x1 x5 x14z x14 x15 x16 x23z x23 x24 x25 x58 c2_0z c2_0 c7_0 c7_1 c7_2z c7_2 c7_3 c7_4z c7_4).map e) k a0_0z a0_0 a1z a1 = (spec_Twice.b ret j0 j1 j2 k a0_0z a0_0 a1z a1).map e := by
  unfold spec_Twice.b
  repeat' first | with_reducible refine nat_cond ?_ ?_ | with_reducible refine nat_bind fun _ => ?_ | rfl
theorem spec_Twice.l0b_nat {R R' : Type} (e : R → R') (ret : Bool × List Int → Option R) (j0 : Bool → (List T) → (List Int) → Bool → (List T) → Int → Int → Bool → (List T) → Option R) (j1 : Bool → (List T) → (List Int) → Bool → (List T) → Int → Int → Bool → (List T) → Int → Int → Bool → (List T) → Int → Int → Bool → (List Int) → Int → Bool → (List Int) → Option R) (j2 : Bool → (List T) → (List Int) → Bool → (List T) → Int → Int → Bool → (List T) → Int → Int → Bool → Bool → (List T) → Int → Int → Bool → (List Int) → Int → Bool → (List Int) → Option R) (k : Nat) (x1z : Bool) (x1 : List T) (x5 : List Int) (x14z : Bool) (x14 : List T) (x15 : Int) (x16 : Int) (c2_0z : Bool) (c2_0 : List T) : spec_Twice.l0b (fun r => (ret r).map e) (fun x1z x1 x5 x14z x14 x15 x16 c2_0z c2_0 => (j0 x1z x1 x5 x14z x14 x15 x16 c2_0z c2_0).map e) (fun x1z x1 x5 x14z x14 x15 x16 x23z x23 x24 x25 c2_0z c2_0 c7_0 c7_1 c7_2z c7_2 c7_3 c7_4z c7_4 => (j1 x1z x1 x5 x14z x14 x15 x16 x23z x23 x24 x25 c2_0z c2_0 c7_0 c7_1 c7_2z c7_2 c7_3 c7_4z c7_4).map e) (fun x1z x1 x5 x14z x14 x15 x16 x23z x23 x24 x25 x58 c2_0z c2_0 c7_0 c7_1 c7_2z c7_2 c7_3 c7_4z c7_4 => (j2 x1z x1 x5 x14z x14 x15 x16 x23z x23 x24 x25 x58 c2_0z c2_0 c7_0 c7_1 c7_2z c7_2 c7_3 c7_4z c7_4).map e) k x1z x1 x5 x14z x14 x15 x16 c2_0z c2_0 = (spec_Twice.l0b ret j0 j1 j2 k x1z x1 x5 x14z x14 x15 x16 c2_0z c2_0).map e := by
  unfold spec_Twice.l0b
  repeat' first | with_reducible refine nat_cond ?_ ?_ | with_reducible refine nat_bind fun _ => ?_ | rfl
theorem spec_Twice.l1b_nat {R R' : Type} (e : R → R') (ret : Bool × List Int → Option R) (j0 : Bool → (List T) → (List Int) → Bool → (List T) → Int → Int → Bool → (List T) → Option R) (j1 : Bool → (List T) → (List Int) → Bool → (List T) → Int → Int → Bool → (List T) → Int → Int → Bool → (List T) → Int → Int → Bool → (List Int) → Int → Bool → (List Int) → Option R) (j2 : Bool → (List T) → (List Int) → Bool → (List T) → Int → Int → Bool → (List T) → Int → Int → Bool → Bool → (List T) → Int → Int → Bool → (List Int) → Int → Bool → (List Int) → Option R) (k : Nat) (x1z : Bool) (x1 : List T) (x5 : List Int) (x14z : Bool) (x14 : List T) (x15 : Int) (x16 : Int) (x23z : Bool) (x23 : List T) (x24 : Int) (x25 : Int) (c2_0z : Bool) (c2_0 : List T) (c7_0 : Int) (c7_1 : Int) (c7_2z : Bool) (c7_2 : List Int) (c7_3 : Int) (c7_4z : Bool) (c7_4 : List Int) : spec_Twice.l1b (fun r => (ret r).map e) (fun x1z x1 x5 x14z x14 x15 x16 c2_0z c2_0 => (j0 x1z x1 x5 x14z x14 x15 x16 c2_0z c2_0).map e) (fun x1z x1 x5 x14z x14 x15 x16 x23z x23 x24 x25 c2_0z c2_0 c7_0 c7_1 c7_2z c7_2 c7_3 c7_4z c7_4 => (j1 x1z x1 x5 x14z x14 x15 x16 x23z x23 x24 x25 c2_0z c2_0 c7_0 c7_1 c7_2z c7_2 c7_3 c7_4z c7_4).map e) (fun x1z x1 x5 x14z x14 x15 x16 x23z x23 x24 x25 x58 c2_0z c2_0 c7_0 c7_1 c7_2z c7_2 c7_3 c7_4z c7_4 => (j2 x1z x1 x5 x14z x14 x15 x16 x23z x23 x24 x25 x58 c2_0z c2_0 c7_0 c7_1 c7_2z c7_2 c7_3 c7_4z c7_4).map e) k x1z x1 x5 x14z x14 x15 x16 x23z x23 x24 x25 c2_0z c2_0 c7_0 c7_1 c7_2z c7_2 c7_3 c7_4z c7_4 = (spec_Twice.l1b ret j0 j1 j2 k x1z x1 x5 x14z x14 x15 x16 x23z x23 x24 x25 c2_0z c2_0 c7_0 c7_1 c7_2z c7_2 c7_3 c7_4z c7_4).map e := by
  unfold spec_Twice.l1b
  repeat' first | with_reducible refine nat_cond ?_ ?_ | with_reducible refine nat_bind fun _ => ?_ | rfl
theorem spec_Twice.l2b_nat {R R' : Type} (e : R → R') (ret : Bool × List Int → Option R) (j0 : Bool → (List T) → (List Int) → Bool → (List T) → Int → Int → Bool → (List T) → Option R) (j1 : Bool → (List T) → (List Int) → Bool → (List T) → Int → Int → Bool → (List T) → Int → Int → Bool → (List T) → Int → Int → Bool → (List Int) → Int → Bool → (List Int) → Option R) (j2 : Bool → (List T) → (List Int) → Bool → (List T) → Int → Int → Bool → (List T) → Int → Int → Bool → Bool → (List T) → Int → Int → Bool → (List Int) → Int → Bool → (List Int) → Option R) (k : Nat) (x1z : Bool) (x1 : List T) (x5 : List Int) (x14z : Bool) (x14 : List T) (x15 : Int) (x16 : Int) (x23z : Bool) (x23 : List T) (x24 : Int) (x25 : Int) (x58 : Bool) (c2_0z : Bool) (c2_0 : List T) (c7_0 : Int) (c7_1 : Int) (c7_2z : Bool) (c7_2 : List Int) (c7_3 : Int) (c7_4z : Bool) (c7_4 : List Int) : spec_Twice.l2b (fun r => (ret r).map e) (fun x1z x1 x5 x14z x14 x15 x16 c2_0z c2_0 => (j0 x1z x1 x5 x14z x14 x15 x16 c2_0z c2_0).map e) (fun x1z x1 x5 x14z x14 x15 x16 x23z x23 x24 x25 c2_0z c2_0 c7_0 c7_1 c7_2z c7_2 c7_3 c7_4z c7_4 => (j1 x1z x1 x5 x14z x14 x15 x16 x23z x23 x24 x25 c2_0z c2_0 c7_0 c7_1 c7_2z c7_2 c7_3 c7_4z c7_4).map e) (fun x1z x1 x5 x14z x14 x15 x16 x23z x23 x24 x25 x58 c2_0z c2_0 c7_0 c7_1 c7_2z c7_2 c7_3 c7_4z c7_4 => (j2 x1z x1 x5 x14z x14 x15 x16 x23z x23 x24 x25 x58 c2_0z c2_0 c7_0 c7_1 c7_2z c7_2 c7_3 c7_4z c7_4).map e) k x1z x1 x5 x14z x14 x15 x16 x23z x23 x24 x25 x58 c2_0z c2_0 c7_0 c7_1 c7_2z c7_2 c7_3 c7_4z c7_4 = (spec_Twice.l2b ret j0 j1 j2 k x1z x1 x5 x14z x14 x15 x16 x23z x23 x24 x25 x58 c2_0z c2_0 c7_0 c7_1 c7_2z c7_2 c7_3 c7_4z c7_4).map e := by
  unfold spec_Twice.l2b
  repeat' first | with_reducible refine nat_cond ?_ ?_ | with_reducible refine nat_bind fun _ => ?_ | rfl
theorem spec_Twice.rounds_eq (a0_0z : Bool) (a0_0 : List T) (a1z : Bool) (a1 : List T) : ∀ k, (∀ (x1z : Bool) (x1 : List T) (x5 : List Int) (x14z : Bool) (x14 : List T) (x15 : Int) (x16 : Int) (c2_0z : Bool) (c2_0 : List T), rounds Try.prog spec_Twice.Cs (finish Try.prog [] Try.f64 [.v (.agg [(.sl 44 a0_0z a0_0)]), .v (.sl 33 a1z a1)]) 100000 k spec_Twice.K0 (spec_Twice.N0 x1z x1 x5 x14z x14 x15 x16 c2_0z c2_0) = (spec_Twice.l0 k x1z x1 x5 x14z x14 x15 x16 c2_0z c2_0).map spec_Twice.enc) ∧ (∀ (x1z : Bool) (x1 : List T) (x5 : List Int) (x14z : Bool) (x14 : List T) (x15 : Int) (x16 : Int) (x23z : Bool) (x23 : List T) (x24 : Int) (x25 : Int) (c2_0z : Bool) (c2_0 : List T) (c7_0 : Int) (c7_1 : Int) (c7_2z : Bool) (c7_2 : List Int) (c7_3 : Int) (c7_4z : Bool) (c7_4 : List Int), rounds Try.prog spec_Twice.Cs (finish Try.prog [] Try.f64 [.v (.agg [(.sl 44 a0_0z a0_0)]), .v (.sl 33 a1z a1)]) 100000 k spec_Twice.K1 (spec_Twice.N1 x1z x1 x5 x14z x14 x15 x16 x23z x23 x24 x25 c2_0z c2_0 c7_0 c7_1 c7_2z c7_2 c7_3 c7_4z c7_4) = (spec_Twice.l1 k x1z x1 x5 x14z x14 x15 x16 x23z x23 x24 x25 c2_0z c2_0 c7_0 c7_1 c7_2z c7_2 c7_3 c7_4z c7_4).map spec_Twice.enc) ∧ (∀ (x1z : Bool) (x1 : List T) (x5 : List Int) (x14z : Bool) (x14 : List T) (x15 : Int) (x16 : Int) (x23z : Bool) (x23 : List T) (x24 : Int) (x25 : Int) (x58 : Bool) (c2_0z : Bool) (c2_0 : List T) (c7_0 : Int) (c7_1 : Int) (c7_2z : Bool) (c7_2 : List Int) (c7_3 : Int) (c7_4z : Bool) (c7_4 : List Int), rounds Try.prog spec_Twice.Cs (finish Try.prog [] Try.f64 [.v (.agg [(.sl 44 a0_0z a0_0)]), .v (.sl 33 a1z a1)]) 100000 k spec_Twice.K2 (spec_Twice.N2 x1z x1 x5 x14z x14 x15 x16 x23z x23 x24 x25 x58 c2_0z c2_0 c7_0 c7_1 c7_2z c7_2 c7_3 c7_4z c7_4) = (spec_Twice.l2 k x1z x1 x5 x14z x14 x15 x16 x23z x23 x24 x25 x58 c2_0z c2_0 c7_0 c7_1 c7_2z c7_2 c7_3 c7_4z c7_4).map spec_Twice.enc)
  | 0 => ⟨fun _ _ _ _ _ _ _ _ _ => rfl, fun _ _ _ _ _ _ _ _ _ _ _ _ _ _ _ _ _ _ _ _ => rfl, fun _ _ _ _ _ _ _ _ _ _ _ _ _ _ _ _ _ _ _ _ _ => rfl⟩
  | k + 1 => by
    have ih := spec_Twice.rounds_eq a0_0z a0_0 a1z a1 k
    refine ⟨fun _ _ _ _ _ _ _ _ _ => ?_, fun _ _ _ _ _ _ _ _ _ _ _ _ _ _ _ _ _ _ _ _ => ?_, fun _ _ _ _ _ _ _ _ _ _ _ _ _ _ _ _ _ _ _ _ _ => ?_⟩
    · refine (spec_Twice.s0 k _ a0_0z a0_0 a1z a1 _ _ _ _ _ _ _ _ _).trans (Eq.trans ?_ (spec_Twice.l0b_nat spec_Twice.enc some (spec_Twice.l0 k) (spec_Twice.l1 k) (spec_Twice.l2 k) k _ _ _ _ _ _ _ _ _))
      simp only [ih.1, ih.2.1, ih.2.2, Option.map_some]
    · refine (spec_Twice.s1 k _ a0_0z a0_0 a1z a1 _ _ _ _ _ _ _ _ _ _ _ _ _ _ _ _ _ _ _ _).trans (Eq.trans ?_ (spec_Twice.l1b_nat spec_Twice.enc some (spec_Twice.l0 k) (spec_Twice.l1 k) (spec_Twice.l2 k) k _ _ _ _ _ _ _ _ _ _ _ _ _ _ _ _ _ _ _ _))
      simp only [ih.1, ih.2.1, ih.2.2, Option.map_some]
    · refine (spec_Twice.s2 k _ a0_0z a0_0 a1z a1 _ _ _ _ _ _ _ _ _ _ _ _ _ _ _ _ _ _ _ _ _).trans (Eq.trans ?_ (spec_Twice.l2b_nat spec_Twice.enc some (spec_Twice.l0 k) (spec_Twice.l1 k) (spec_Twice.l2 k) k _ _ _ _ _ _ _ _ _ _ _ _ _ _ _ _ _ _ _ _ _))
      simp only [ih.1, ih.2.1, ih.2.2, Option.map_some]
theorem spec_Twice.eq (k : Nat) (a0_0z : Bool) (a0_0 : List T) (a1z : Bool) (a1 : List T) : answer Try.prog spec_Twice.Cs 100000 spec_Twice.cuts [] Try.f64 (k + 1) [.v (.agg [(.sl 44 a0_0z a0_0)]), .v (.sl 33 a1z a1)] = (spec_Twice.f (k + 1) a0_0z a0_0 a1z a1).map spec_Twice.enc := by
  have ih := spec_Twice.rounds_eq a0_0z a0_0 a1z a1 k
  refine (spec_Twice.s k a0_0z a0_0 a1z a1).trans (Eq.trans ?_ (spec_Twice.b_nat spec_Twice.enc some (spec_Twice.l0 k) (spec_Twice.l1 k) (spec_Twice.l2 k) k a0_0z a0_0 a1z a1))
  simp only [ih.1, ih.2.1, ih.2.2, Option.map_some]
theorem spec_Twice.sound (k : Nat) : SoundF Try.prog 64 (fun a => (spec_Twice.ans k a).val) := by
  refine sound_plain (fun args res h => ?_) (fun t n => rfl)
  unfold spec_Twice.ans at h
  dsimp only at h
  split at h
  · cases k with
    | zero => cases h
    | succ k =>
      unfold Ans.val at h
      rw [← spec_Twice.eq] at h
      exact answer_sound mixed Try.func64 _ _ _ (k + 1) (fun j _ => tab_sound (tab_cons (spec_TableOk.sound j) (tab_cons (spec_l28Bits.sound j) (tab_cons (spec_SameBytes.sound j) (tab_cons (spec_VoteGood.sound j) (tab_nil)))))) _ _ h
  · exact (Ans.no_val h).elim

/-! loop.example/g00790/impl.within -/
def impl_within.b {R : Type} (ret : Bool → Option R) (k : Nat) (a0 : Int) (a1 : Int) (a2 : Int) : Option R :=
  cond (decide (a1 ≤ a0)) (ret (decide (a0 ≤ a2))) (ret false)
def impl_within.f : Nat → Int → Int → Int → Option Bool
  | 0, _, _, _ => none
  | k + 1, a0, a1, a2 => impl_within.b some k a0 a1 a2
def impl_within.enc (r : Bool) : Res := ⟨[.vals false [((.bool r), true)]], []⟩
def impl_within.ans (k : Nat) : List Arg → Ans
  | [.v (.int .i64 a0), .v (.int .i64 a1), .v (.int .i64 a2)] => ⟨impl_within.f k a0 a1 a2, impl_within.enc⟩
  | _ => Ans.no
def impl_within.Cs (k : Nat) : CallSem := tab []
def impl_within.cuts : List (Nat × Keep) := []
theorem impl_within.s (k : Nat) (a0 : Int) (a1 : Int) (a2 : Int) : answer Try.prog impl_within.Cs 100000 impl_within.cuts [] Try.f79 (k + 1) [.v (.int .i64 a0), .v (.int .i64 a1), .v (.int .i64 a2)] = impl_within.b (fun r => some (impl_within.enc r)) k a0 a1 a2 := by kernel_rfl
theorem impl_within.b_nat {R R' : Type} (e : R → R') (ret : Bool → Option R) (k : Nat) (a0 : Int) (a1 : Int) (a2 : Int) : impl_within.b (fun r => (ret r).map e) k a0 a1 a2 = (impl_within.b ret k a0 a1 a2).map e := by
  unfold impl_within.b
  repeat' first | with_reducible refine nat_cond ?_ ?_ | with_reducible refine nat_bind fun _ => ?_ | rfl
theorem impl_within.eq (k : Nat) (a0 : Int) (a1 : Int) (a2 : Int) : answer Try.prog impl_within.Cs 100000 impl_within.cuts [] Try.f79 (k + 1) [.v (.int .i64 a0), .v (.int .i64 a1), .v (.int .i64 a2)] = (impl_within.f (k + 1) a0 a1 a2).map impl_within.enc := by
  refine (impl_within.s k a0 a1 a2).trans (Eq.trans ?_ (impl_within.b_nat impl_within.enc some k a0 a1 a2))
  simp only [Option.map_some]
theorem impl_within.sound (k : Nat) : SoundF Try.prog 79 (fun a => (impl_within.ans k a).val) := by
  refine sound_plain (fun args res h => ?_) (fun t n => rfl)
  unfold impl_within.ans at h
  dsimp only at h
  split at h
  · cases k with
    | zero => cases h
    | succ k =>
      unfold Ans.val at h
      rw [← impl_within.eq] at h
      exact answer_sound mixed Try.func79 _ _ _ (k + 1) (fun j _ => tab_sound (tab_nil)) _ _ h
  · exact (Ans.no_val h).elim

/-! loop.example/g00790/impl.TableOk -/
def impl_TableOk.b {R : Type} (ret : Bool → Option R) (j0 : Bool → (List T) → Int → Int → Bool → (List T) → Option R) (k : Nat) (a0_0z : Bool) (a0_0 : List T) : Option R :=
  j0 a0_0z a0_0 ((a0_0).length : Int) 0 a0_0z a0_0
def impl_TableOk.l0b {R : Type} (ret : Bool → Option R) (j0 : Bool → (List T) → Int → Int → Bool → (List T) → Option R) (k : Nat) (x6z : Bool) (x6 : List T) (x7 : Int) (x8 : Int) (c1_0z : Bool) (c1_0 : List T) : Option R :=
  cond (decide (x8 < x7)) (cond (decide ((0 : Int) ≤ x8)) (cond (decide (x8 < ((x6).length : Int))) ((impl_within.f k (((((x6).getD (x8).toNat .bad).cells.getD 0 .bad)).toInt) 1 1099511627776).bind fun t0 => cond (!t0) (ret false) ((impl_within.f k ((((((x6).getD (x8).toNat .bad).cells.getD 1 .bad)).toNums).length : Int) 1 64).bind fun t1 => cond (!t1) (ret false) (j0 x6z x6 x7 (RowKit.wrap64 (x8 + 1)) c1_0z c1_0))) (none)) (none)) ((impl_within.f k ((c1_0).length : Int) 1 10).bind fun t0 => ret t0)
def impl_TableOk.l0 : Nat → Bool → (List T) → Int → Int → Bool → (List T) → Option Bool
  | 0, _, _, _, _, _, _ => none
  | k + 1, x6z, x6, x7, x8, c1_0z, c1_0 => impl_TableOk.l0b some (impl_TableOk.l0 k) k x6z x6 x7 x8 c1_0z c1_0
def impl_TableOk.f : Nat → Bool → (List T) → Option Bool
  | 0, _, _ => none
  | k + 1, a0_0z, a0_0 => impl_TableOk.b some (impl_TableOk.l0 k) k a0_0z a0_0
def impl_TableOk.enc (r : Bool) : Res := ⟨[.vals false [((.bool r), true)]], []⟩
def impl_TableOk.ans (k : Nat) : List Arg → Ans
  | [.v (.agg [(.sl 44 a0_0z a0_0)])] => ⟨impl_TableOk.f k a0_0z a0_0, impl_TableOk.enc⟩
  | _ => Ans.no
def impl_TableOk.Cs (k : Nat) : CallSem := tab [(79, impl_within.ans k)]
def impl_TableOk.cuts : List (Nat × Keep) := [(26, ⟨[(1, some []), (6, some []), (7, some []), (8, some [])], [(1, [some []])]⟩)]
noncomputable def impl_TableOk.K0 : List Fr := framesAt [true, false, true, false] (bodyOf Try.f78 impl_TableOk.cuts) []
def impl_TableOk.N0 (x6z : Bool) (x6 : List T) (x7 : Int) (x8 : Int) (c1_0z : Bool) (c1_0 : List T) : St := stOf 28 28 1 [(1, .bp 1 0), (6, .val ⟨(.sl 44 x6z x6), [], false, none⟩), (7, .val (V.s (.int .i64 x7))), (8, .val (V.s (.int .i64 x8)))] [(1, .cells [⟨(.sl 44 c1_0z c1_0), [], false, none⟩])]
theorem impl_TableOk.s (k : Nat) (a0_0z : Bool) (a0_0 : List T) : answer Try.prog impl_TableOk.Cs 100000 impl_TableOk.cuts [] Try.f78 (k + 1) [.v (.agg [(.sl 44 a0_0z a0_0)])] = impl_TableOk.b (fun r => some (impl_TableOk.enc r)) (fun x6z x6 x7 x8 c1_0z c1_0 => rounds Try.prog impl_TableOk.Cs (finish Try.prog [] Try.f78 [.v (.agg [(.sl 44 a0_0z a0_0)])]) 100000 k impl_TableOk.K0 (impl_TableOk.N0 x6z x6 x7 x8 c1_0z c1_0)) k a0_0z a0_0 := by kernel_rfl
theorem impl_TableOk.s0 (k : Nat) (G : List Fr → St → Option Res) (a0_0z : Bool) (a0_0 : List T) (yx6z : Bool) (yx6 : List T) (yx7 : Int) (yx8 : Int) (yc1_0z : Bool) (yc1_0 : List T) : resume Try.prog (impl_TableOk.Cs k) G (finish Try.prog [] Try.f78 [.v (.agg [(.sl 44 a0_0z a0_0)])]) 100000 impl_TableOk.K0 (impl_TableOk.N0 yx6z yx6 yx7 yx8 yc1_0z yc1_0) = impl_TableOk.l0b (fun r => some (impl_TableOk.enc r)) (fun x6z x6 x7 x8 c1_0z c1_0 => G impl_TableOk.K0 (impl_TableOk.N0 x6z x6 x7 x8 c1_0z c1_0)) k yx6z yx6 yx7 yx8 yc1_0z yc1_0 := by kernel_rfl
theorem impl_TableOk.b_nat {R R' : Type} (e : R → R') (ret : Bool → Option R) (j0 : Bool → (List T) → Int → Int → Bool → (List T) → Option R) (k : Nat) (a0_0z : Bool) (a0_0 : List T) : impl_TableOk.b (fun r => (ret r).map e) (fun x6z x6 x7 x8 c1_0z c1_0 => (j0 x6z x6 x7 x8 c1_0z c1_0).map e) k a0_0z a0_0 = (impl_TableOk.b ret j0 k a0_0z a0_0).map e := by
  unfold impl_TableOk.b
  repeat' first | with_reducible refine nat_cond ?_ ?_ | with_reducible refine nat_bind fun _ => ?_ | rfl
theorem impl_TableOk.l0b_nat {R R' : Type} (e : R → R') (ret : Bool → Option R) (j0 : Bool → (List T) → Int → Int → Bool → (List T) → Option R) (k : Nat) (x6z : Bool) (x6 : List T) (x7 : Int) (x8 : Int) (c1_0z : Bool) (c1_0 : List T) : impl_TableOk.l0b (fun r => (ret r).map e) (fun x6z x6 x7 x8 c1_0z c1_0 => (j0 x6z x6 x7 x8 c1_0z c1_0).map e) k x6z x6 x7 x8 c1_0z c1_0 = (impl_TableOk.l0b ret j0 k x6z x6 x7 x8 c1_0z c1_0).map e := by
  unfold impl_TableOk.l0b
  repeat' first | with_reducible refine nat_cond ?_ ?_ | with_reducible refine nat_bind fun _ => ?_ | rfl
theorem impl_TableOk.rounds_eq (a0_0z : Bool) (a0_0 : List T) : ∀ k, (∀ (x6z : Bool) (x6 : List T) (x7 : Int) (x8 : Int) (c1_0z : Bool) (c1_0 : List T), rounds Try.prog impl_TableOk.Cs (finish Try.prog [] Try.f78 [.v (.agg [(.sl 44 a0_0z a0_0)])]) 100000 k impl_TableOk.K0 (impl_TableOk.N0 x6z x6 x7 x8 c1_0z c1_0) = (impl_TableOk.l0 k x6z x6 x7 x8 c1_0z c1_0).map impl_TableOk.enc)
  | 0 => fun _ _ _ _ _ _ => rfl
  | k + 1 => by
    have ih := impl_TableOk.rounds_eq a0_0z a0_0 k
    refine fun _ _ _ _ _ _ => ?_
    · refine (impl_TableOk.s0 k _ a0_0z a0_0 _ _ _ _ _ _).trans (Eq.trans ?_ (impl_TableOk.l0b_nat impl_TableOk.enc some (impl_TableOk.l0 k) k _ _ _ _ _ _))
      simp only [ih, Option.map_some]
theorem impl_TableOk.eq (k : Nat) (a0_0z : Bool) (a0_0 : List T) : answer Try.prog impl_TableOk.Cs 100000 impl_TableOk.cuts [] Try.f78 (k + 1) [.v (.agg [(.sl 44 a0_0z a0_0)])] = (impl_TableOk.f (k + 1) a0_0z a0_0).map impl_TableOk.enc := by
  have ih := impl_TableOk.rounds_eq a0_0z a0_0 k
  refine (impl_TableOk.s k a0_0z a0_0).trans (Eq.trans ?_ (impl_TableOk.b_nat impl_TableOk.enc some (impl_TableOk.l0 k) k a0_0z a0_0))
  simp only [ih, Option.map_some]
theorem impl_TableOk.sound (k : Nat) : SoundF Try.prog 78 (fun a => (impl_TableOk.ans k a).val) := by
  refine sound_plain (fun args res h => ?_) (fun t n => rfl)
  unfold impl_TableOk.ans at h
  dsimp only at h
  split at h
  · cases k with
    | zero => cases h
    | succ k =>
      unfold Ans.val at h
      rw [← impl_TableOk.eq] at h
      exact answer_sound mixed Try.func78 _ _ _ (k + 1) (fun j _ => tab_sound (tab_cons (impl_within.sound j) (tab_nil))) _ _ h
  · exact (Ans.no_val h).elim

/-! loop.example/g00790/impl.isNum -/
def impl_isNum.b {R : Type} (ret : Bool → Option R) (k : Nat) (a0 : Int) : Option R :=
  (impl_within.f k a0 0 1152921504606846975).bind fun t0 => ret t0
def impl_isNum.f : Nat → Int → Option Bool
  | 0, _ => none
  | k + 1, a0 => impl_isNum.b some k a0
def impl_isNum.enc (r : Bool) : Res := ⟨[.vals false [((.bool r), true)]], []⟩
def impl_isNum.ans (k : Nat) : List Arg → Ans
  | [.v (.int .i64 a0)] => ⟨impl_isNum.f k a0, impl_isNum.enc⟩
  | _ => Ans.no
def impl_isNum.Cs (k : Nat) : CallSem := tab [(79, impl_within.ans k)]
def impl_isNum.cuts : List (Nat × Keep) := []
theorem impl_isNum.s (k : Nat) (a0 : Int) : answer Try.prog impl_isNum.Cs 100000 impl_isNum.cuts [] Try.f93 (k + 1) [.v (.int .i64 a0)] = impl_isNum.b (fun r => some (impl_isNum.enc r)) k a0 := by kernel_rfl
theorem impl_isNum.b_nat {R R' : Type} (e : R → R') (ret : Bool → Option R) (k : Nat) (a0 : Int) : impl_isNum.b (fun r => (ret r).map e) k a0 = (impl_isNum.b ret k a0).map e := by
  unfold impl_isNum.b
  repeat' first | with_reducible refine nat_cond ?_ ?_ | with_reducible refine nat_bind fun _ => ?_ | rfl
theorem impl_isNum.eq (k : Nat) (a0 : Int) : answer Try.prog impl_isNum.Cs 100000 impl_isNum.cuts [] Try.f93 (k + 1) [.v (.int .i64 a0)] = (impl_isNum.f (k + 1) a0).map impl_isNum.enc := by
  refine (impl_isNum.s k a0).trans (Eq.trans ?_ (impl_isNum.b_nat impl_isNum.enc some k a0))
  simp only [Option.map_some]
theorem impl_isNum.sound (k : Nat) : SoundF Try.prog 93 (fun a => (impl_isNum.ans k a).val) := by
  refine sound_plain (fun args res h => ?_) (fun t n => rfl)
  unfold impl_isNum.ans at h
  dsimp only at h
  split at h
  · cases k with
    | zero => cases h
    | succ k =>
      unfold Ans.val at h
      rw [← impl_isNum.eq] at h
      exact answer_sound mixed Try.func93 _ _ _ (k + 1) (fun j _ => tab_sound (tab_cons (impl_within.sound j) (tab_nil))) _ _ h
  · exact (Ans.no_val h).elim

/-! loop.example/g00790/impl.copyBytes -/
def impl_copyBytes.b {R : Type} (ret : Bool × List Int → Option R) (k : Nat) (a0z : Bool) (a0 : List Int) : Option R :=
  cond (decide (0 + (a0).length < 140737488355328)) (ret (((a0).isEmpty && false), a0)) (none)
def impl_copyBytes.f : Nat → Bool → (List Int) → Option (Bool × List Int)
  | 0, _, _ => none
  | k + 1, a0z, a0 => impl_copyBytes.b some k a0z a0
def impl_copyBytes.enc (r : Bool × List Int) : Res := ⟨[.vals false [((.nums 5 .u8 r.1 r.2), true)]], []⟩
def impl_copyBytes.ans (k : Nat) : List Arg → Ans
  | [.v (.nums 5 .u8 a0z a0)] => ⟨impl_copyBytes.f k a0z a0, impl_copyBytes.enc⟩
  | _ => Ans.no
def impl_copyBytes.Cs (k : Nat) : CallSem := tab []
def impl_copyBytes.cuts : List (Nat × Keep) := []
theorem impl_copyBytes.s (k : Nat) (a0z : Bool) (a0 : List Int) : answer Try.prog impl_copyBytes.Cs 100000 impl_copyBytes.cuts [] Try.f80 (k + 1) [.v (.nums 5 .u8 a0z a0)] = impl_copyBytes.b (fun r => some (impl_copyBytes.enc r)) k a0z a0 := by kernel_rfl
theorem impl_copyBytes.b_nat {R R' : Type} (e : R → R') (ret : Bool × List Int → Option R) (k : Nat) (a0z : Bool) (a0 : List Int) : impl_copyBytes.b (fun r => (ret r).map e) k a0z a0 = (impl_copyBytes.b ret k a0z a0).map e := by
  unfold impl_copyBytes.b
  repeat' first | with_reducible refine nat_cond ?_ ?_ | with_reducible refine nat_bind fun _ => ?_ | rfl
theorem impl_copyBytes.eq (k : Nat) (a0z : Bool) (a0 : List Int) : answer Try.prog impl_copyBytes.Cs 100000 impl_copyBytes.cuts [] Try.f80 (k + 1) [.v (.nums 5 .u8 a0z a0)] = (impl_copyBytes.f (k + 1) a0z a0).map impl_copyBytes.enc := by
  refine (impl_copyBytes.s k a0z a0).trans (Eq.trans ?_ (impl_copyBytes.b_nat impl_copyBytes.enc some k a0z a0))
  simp only [Option.map_some]
theorem impl_copyBytes.sound (k : Nat) : SoundF Try.prog 80 (fun a => (impl_copyBytes.ans k a).val) := by
  refine sound_plain (fun args res h => ?_) (fun t n => rfl)
  unfold impl_copyBytes.ans at h
  dsimp only at h
  split at h
  · cases k with
    | zero => cases h
    | succ k =>
      unfold Ans.val at h
      rw [← impl_copyBytes.eq] at h
      exact answer_sound mixed Try.func80 _ _ _ (k + 1) (fun j _ => tab_sound (tab_nil)) _ _ h
  · exact (Ans.no_val h).elim

/-! loop.example/g00790/impl.PutVar -/
def impl_PutVar.b {R : Type} (ret : Bool × (List Int) × Bool → Option R) (j0 : Int → Bool → (List Int) → Option R) (k : Nat) (a0z : Bool) (a0 : List Int) (a1 : Int) : Option R :=
  (impl_isNum.f k a1).bind fun t0 => cond (!t0) (ret (true, ([] : List Int), false)) ((impl_copyBytes.f k a0z a0).bind fun t1 => j0 a1 t1.1 t1.2)
def impl_PutVar.l0b {R : Type} (ret : Bool × (List Int) × Bool → Option R) (j0 : Int → Bool → (List Int) → Option R) (k : Nat) (x1 : Int) (x6z : Bool) (x6 : List Int) : Option R :=
  cond (decide (x1 ≥ 128)) (cond (decide ((x6).length + 1 < 140737488355328)) (j0 (RowKit.wrap64 (Int.tdiv x1 128)) false (x6 ++ ([(((RowKit.wrap64 ((Int.tmod x1 128) + 128))) % 256)] : List Int))) (none)) (cond (decide ((x6).length + 1 < 140737488355328)) (ret (false, (x6 ++ ([((x1) % 256)] : List Int)), true)) (none))
def impl_PutVar.l0 : Nat → Int → Bool → (List Int) → Option (Bool × (List Int) × Bool)
  | 0, _, _, _ => none
  | k + 1, x1, x6z, x6 => impl_PutVar.l0b some (impl_PutVar.l0 k) k x1 x6z x6
def impl_PutVar.f : Nat → Bool → (List Int) → Int → Option (Bool × (List Int) × Bool)
  | 0, _, _, _ => none
  | k + 1, a0z, a0, a1 => impl_PutVar.b some (impl_PutVar.l0 k) k a0z a0 a1
def impl_PutVar.enc (r : Bool × (List Int) × Bool) : Res := ⟨[.vals false [((.nums 5 .u8 r.1 r.2.1), true)], .vals false [((.bool r.2.2), true)]], []⟩
def impl_PutVar.ans (k : Nat) : List Arg → Ans
  | [.v (.nums 5 .u8 a0z a0), .v (.int .i64 a1)] => ⟨impl_PutVar.f k a0z a0 a1, impl_PutVar.enc⟩
  | _ => Ans.no
def impl_PutVar.Cs (k : Nat) : CallSem := tab [(93, impl_isNum.ans k), (80, impl_copyBytes.ans k)]
def impl_PutVar.cuts : List (Nat × Keep) := [(60, ⟨[(1, some []), (6, none)], []⟩)]
noncomputable def impl_PutVar.K0 : List Fr := framesAt [true, true, true, false, false] (bodyOf Try.f150 impl_PutVar.cuts) []
def impl_PutVar.N0 (x1 : Int) (x6z : Bool) (x6 : List Int) : St := stOf 28 28 2 [(1, .val (V.s (.int .i64 x1))), (6, .val ⟨(.nums 5 .u8 x6z x6), [.l 6 0], true, some (.l 6 0)⟩)] []
theorem impl_PutVar.s (k : Nat) (a0z : Bool) (a0 : List Int) (a1 : Int) : answer Try.prog impl_PutVar.Cs 100000 impl_PutVar.cuts [] Try.f150 (k + 1) [.v (.nums 5 .u8 a0z a0), .v (.int .i64 a1)] = impl_PutVar.b (fun r => some (impl_PutVar.enc r)) (fun x1 x6z x6 => rounds Try.prog impl_PutVar.Cs (finish Try.prog [] Try.f150 [.v (.nums 5 .u8 a0z a0), .v (.int .i64 a1)]) 100000 k impl_PutVar.K0 (impl_PutVar.N0 x1 x6z x6)) k a0z a0 a1 := by kernel_rfl
theorem impl_PutVar.s0 (k : Nat) (G : List Fr → St → Option Res) (a0z : Bool) (a0 : List Int) (a1 : Int) (yx1 : Int) (yx6z : Bool) (yx6 : List Int) : resume Try.prog (impl_PutVar.Cs k) G (finish Try.prog [] Try.f150 [.v (.nums 5 .u8 a0z a0), .v (.int .i64 a1)]) 100000 impl_PutVar.K0 (impl_PutVar.N0 yx1 yx6z yx6) = impl_PutVar.l0b (fun r => some (impl_PutVar.enc r)) (fun x1 x6z x6 => G impl_PutVar.K0 (impl_PutVar.N0 x1 x6z x6)) k yx1 yx6z yx6 := by kernel_rfl
theorem impl_PutVar.b_nat {R R' : Type} (e : R → R') (ret : Bool × (List Int) × Bool → Option R) (j0 : Int → Bool → (List Int) → Option R) (k : Nat) (a0z : Bool) (a0 : List Int) (a1 : Int) : impl_PutVar.b (fun r => (ret r).map e) (fun x1 x6z x6 => (j0 x1 x6z x6).map e) k a0z a0 a1 = (impl_PutVar.b ret j0 k a0z a0 a1).map e := by
  unfold impl_PutVar.b
  repeat' first | with_reducible refine nat_cond ?_ ?_ | with_reducible refine nat_bind fun _ => ?_ | rfl
theorem impl_PutVar.l0b_nat {R R' : Type} (e : R → R') (ret : Bool × (List Int) × Bool → Option R) (j0 : Int → Bool → (List Int) → Option R) (k : Nat) (x1 : Int) (x6z : Bool) (x6 : List Int) : impl_PutVar.l0b (fun r => (ret r).map e) (fun x1 x6z x6 => (j0 x1 x6z x6).map e) k x1 x6z x6 = (impl_PutVar.l0b ret j0 k x1 x6z x6).map e := by
  unfold impl_PutVar.l0b
  repeat' first | with_reducible refine nat_cond ?_ ?_ | with_reducible refine nat_bind fun _ => ?_ | rfl
theorem impl_PutVar.rounds_eq (a0z : Bool) (a0 : List Int) (a1 : Int) : ∀ k, (∀ (x1 : Int) (x6z : Bool) (x6 : List Int), rounds Try.prog impl_PutVar.Cs (finish Try.prog [] Try.f150 [.v (.nums 5 .u8 a0z a0), .v (.int .i64 a1)]) 100000 k impl_PutVar.K0 (impl_PutVar.N0 x1 x6z x6) = (impl_PutVar.l0 k x1 x6z x6).map impl_PutVar.enc)
  | 0 => fun _ _ _ => rfl
  | k + 1 => by
    have ih := impl_PutVar.rounds_eq a0z a0 a1 k
    refine fun _ _ _ => ?_
    · refine (impl_PutVar.s0 k _ a0z a0 a1 _ _ _).trans (Eq.trans ?_ (impl_PutVar.l0b_nat impl_PutVar.enc some (impl_PutVar.l0 k) k _ _ _))
      simp only [ih, Option.map_some]
theorem impl_PutVar.eq (k : Nat) (a0z : Bool) (a0 : List Int) (a1 : Int) : answer Try.prog impl_PutVar.Cs 100000 impl_PutVar.cuts [] Try.f150 (k + 1) [.v (.nums 5 .u8 a0z a0), .v (.int .i64 a1)] = (impl_PutVar.f (k + 1) a0z a0 a1).map impl_PutVar.enc := by
  have ih := impl_PutVar.rounds_eq a0z a0 a1 k
  refine (impl_PutVar.s k a0z a0 a1).trans (Eq.trans ?_ (impl_PutVar.b_nat impl_PutVar.enc some (impl_PutVar.l0 k) k a0z a0 a1))
  simp only [ih, Option.map_some]
theorem impl_PutVar.sound (k : Nat) : SoundF Try.prog 150 (fun a => (impl_PutVar.ans k a).val) := by
  refine sound_plain (fun args res h => ?_) (fun t n => rfl)
  unfold impl_PutVar.ans at h
  dsimp only at h
  split at h
  · cases k with
    | zero => cases h
    | succ k =>
      unfold Ans.val at h
      rw [← impl_PutVar.eq] at h
      exact answer_sound mixed Try.func150 _ _ _ (k + 1) (fun j _ => tab_sound (tab_cons (impl_isNum.sound j) (tab_cons (impl_copyBytes.sound j) (tab_nil)))) _ _ h
  · exact (Ans.no_val h).elim

/-! loop.example/g00790/impl.numbers -/
def impl_numbers.b {R : Type} (ret : Bool × List Int → Option R) (j0 : Bool → (List Int) → Bool → (List Int) → Int → Int → Option R) (k : Nat) (a0 : Int) (a1z : Bool) (a1 : List Int) : Option R :=
  j0 false ([a0] : List Int) a1z a1 ((a1).length : Int) 0
def impl_numbers.l0b {R : Type} (ret : Bool × List Int → Option R) (j0 : Bool → (List Int) → Bool → (List Int) → Int → Int → Option R) (k : Nat) (x5z : Bool) (x5 : List Int) (x12z : Bool) (x12 : List Int) (x13 : Int) (x14 : Int) : Option R :=
  cond (decide (x14 < x13)) (cond (decide ((0 : Int) ≤ x14)) (cond (decide (x14 < ((x12).length : Int))) ((impl_PutVar.f k x5z x5 (rdI x12 x14)).bind fun t0 => cond (!t0.2.2) (ret (true, ([] : List Int))) (j0 t0.1 t0.2.1 x12z x12 x13 (RowKit.wrap64 (x14 + 1)))) (none)) (none)) (ret (x5z, x5))
def impl_numbers.l0 : Nat → Bool → (List Int) → Bool → (List Int) → Int → Int → Option (Bool × List Int)
  | 0, _, _, _, _, _, _ => none
  | k + 1, x5z, x5, x12z, x12, x13, x14 => impl_numbers.l0b some (impl_numbers.l0 k) k x5z x5 x12z x12 x13 x14
def impl_numbers.f : Nat → Int → Bool → (List Int) → Option (Bool × List Int)
  | 0, _, _, _ => none
  | k + 1, a0, a1z, a1 => impl_numbers.b some (impl_numbers.l0 k) k a0 a1z a1
def impl_numbers.enc (r : Bool × List Int) : Res := ⟨[.vals false [((.nums 5 .u8 r.1 r.2), true)]], []⟩
def impl_numbers.ans (k : Nat) : List Arg → Ans
  | [.v (.int .u8 a0), .v (.nums 3 .i64 a1z a1)] => ⟨impl_numbers.f k a0 a1z a1, impl_numbers.enc⟩
  | _ => Ans.no
def impl_numbers.Cs (k : Nat) : CallSem := tab [(150, impl_PutVar.ans k)]
def impl_numbers.cuts : List (Nat × Keep) := [(58, ⟨[(5, none), (12, some []), (13, some []), (14, some [])], []⟩)]
noncomputable def impl_numbers.K0 : List Fr := framesAt [true, true, false, true, false] (bodyOf Try.f84 impl_numbers.cuts) []
def impl_numbers.N0 (x5z : Bool) (x5 : List Int) (x12z : Bool) (x12 : List Int) (x13 : Int) (x14 : Int) : St := stOf 29 29 2 [(5, .val ⟨(.nums 5 .u8 x5z x5), [.l 5 0], true, some (.l 5 0)⟩), (12, .val ⟨(.nums 3 .i64 x12z x12), [], false, none⟩), (13, .val (V.s (.int .i64 x13))), (14, .val (V.s (.int .i64 x14)))] []
theorem impl_numbers.s (k : Nat) (a0 : Int) (a1z : Bool) (a1 : List Int) : answer Try.prog impl_numbers.Cs 100000 impl_numbers.cuts [] Try.f84 (k + 1) [.v (.int .u8 a0), .v (.nums 3 .i64 a1z a1)] = impl_numbers.b (fun r => some (impl_numbers.enc r)) (fun x5z x5 x12z x12 x13 x14 => rounds Try.prog impl_numbers.Cs (finish Try.prog [] Try.f84 [.v (.int .u8 a0), .v (.nums 3 .i64 a1z a1)]) 100000 k impl_numbers.K0 (impl_numbers.N0 x5z x5 x12z x12 x13 x14)) k a0 a1z a1 := by kernel_rfl
theorem impl_numbers.s0 (k : Nat) (G : List Fr → St → Option Res) (a0 : Int) (a1z : Bool) (a1 : List Int) (yx5z : Bool) (yx5 : List Int) (yx12z : Bool) (yx12 : List Int) (yx13 : Int) (yx14 : Int) : resume Try.prog (impl_numbers.Cs k) G (finish Try.prog [] Try.f84 [.v (.int .u8 a0), .v (.nums 3 .i64 a1z a1)]) 100000 impl_numbers.K0 (impl_numbers.N0 yx5z yx5 yx12z yx12 yx13 yx14) = impl_numbers.l0b (fun r => some (impl_numbers.enc r)) (fun x5z x5 x12z x12 x13 x14 => G impl_numbers.K0 (impl_numbers.N0 x5z x5 x12z x12 x13 x14)) k yx5z yx5 yx12z yx12 yx13 yx14 := by kernel_rfl
theorem impl_numbers.b_nat {R R' : Type} (e : R → R') (ret : Bool × List Int → Option R) (j0 : Bool → (List Int) → Bool → (List Int) → Int → Int → Option R) (k : Nat) (a0 : Int) (a1z : Bool) (a1 : List Int) : impl_numbers.b (fun r => (ret r).map e) (fun x5z x5 x12z x12 x13 x14 => (j0 x5z x5 x12z x12 x13 x14).map e) k a0 a1z a1 = (impl_numbers.b ret j0 k a0 a1z a1).map e := by
  unfold impl_numbers.b
  repeat' first | with_reducible refine nat_cond ?_ ?_ | with_reducible refine nat_bind fun _ => ?_ | rfl
theorem impl_numbers.l0b_nat {R R' : Type} (e : R → R') (ret : Bool × List Int → Option R) (j0 : Bool → (List Int) → Bool → (List Int) → Int → Int → Option R) (k : Nat) (x5z : Bool) (x5 : List Int) (x12z : Bool) (x12 : List Int) (x13 : Int) (x14 : Int) : impl_numbers.l0b (fun r => (ret r).map e) (fun x5z x5 x12z x12 x13 x14 => (j0 x5z x5 x12z x12 x13 x14).map e) k x5z x5 x12z x12 x13 x14 = (impl_numbers.l0b ret j0 k x5z x5 x12z x12 x13 x14).map e := by
  unfold impl_numbers.l0b
  repeat' first | with_reducible refine nat_cond ?_ ?_ | with_reducible refine nat_bind fun _ => ?_ | rfl
theorem impl_numbers.rounds_eq (a0 : Int) (a1z : Bool) (a1 : List Int) : ∀ k, (∀ (x5z : Bool) (x5 : List Int) (x12z : Bool) (x12 : List Int) (x13 : Int) (x14 : Int), rounds Try.prog impl_numbers.Cs (finish Try.prog [] Try.f84 [.v (.int .u8 a0), .v (.nums 3 .i64 a1z a1)]) 100000 k impl_numbers.K0 (impl_numbers.N0 x5z x5 x12z x12 x13 x14) = (impl_numbers.l0 k x5z x5 x12z x12 x13 x14).map impl_numbers.enc)
  | 0 => fun _ _ _ _ _ _ => rfl
  | k + 1 => by
    have ih := impl_numbers.rounds_eq a0 a1z a1 k
    refine fun _ _ _ _ _ _ => ?_
    · refine (impl_numbers.s0 k _ a0 a1z a1 _ _ _ _ _ _).trans (Eq.trans ?_ (impl_numbers.l0b_nat impl_numbers.enc some (impl_numbers.l0 k) k _ _ _ _ _ _))
      simp only [ih, Option.map_some]
theorem impl_numbers.eq (k : Nat) (a0 : Int) (a1z : Bool) (a1 : List Int) : answer Try.prog impl_numbers.Cs 100000 impl_numbers.cuts [] Try.f84 (k + 1) [.v (.int .u8 a0), .v (.nums 3 .i64 a1z a1)] = (impl_numbers.f (k + 1) a0 a1z a1).map impl_numbers.enc := by
  have ih := impl_numbers.rounds_eq a0 a1z a1 k
  refine (impl_numbers.s k a0 a1z a1).trans (Eq.trans ?_ (impl_numbers.b_nat impl_numbers.enc some (impl_numbers.l0 k) k a0 a1z a1))
  simp only [ih, Option.map_some]
theorem impl_numbers.sound (k : Nat) : SoundF Try.prog 84 (fun a => (impl_numbers.ans k a).val) := by
  refine sound_plain (fun args res h => ?_) (fun t n => rfl)
  unfold impl_numbers.ans at h
  dsimp only at h
  split at h
  · cases k with
    | zero => cases h
    | succ k =>
      unfold Ans.val at h
      rw [← impl_numbers.eq] at h
      exact answer_sound mixed Try.func84 _ _ _ (k + 1) (fun j _ => tab_sound (tab_cons (impl_PutVar.sound j) (tab_nil))) _ _ h
  · exact (Ans.no_val h).elim

/-! loop.example/g00790/impl.areHashes -/
def impl_areHashes.b {R : Type} (ret : Bool → Option R) (j0 : Bool → (List T) → Int → Int → Option R) (k : Nat) (a0z : Bool) (a0 : List T) : Option R :=
  j0 a0z a0 ((a0).length : Int) 0
def impl_areHashes.l0b {R : Type} (ret : Bool → Option R) (j0 : Bool → (List T) → Int → Int → Option R) (k : Nat) (x5z : Bool) (x5 : List T) (x6 : Int) (x7 : Int) : Option R :=
  cond (decide (x7 < x6)) (cond (decide ((0 : Int) ≤ x7)) (cond (decide (x7 < ((x5).length : Int))) (cond (!(decide (((((((x5).getD (x7).toNat .bad).cells.getD 0 .bad)).toNums).length : Int) = 32))) (ret false) (j0 x5z x5 x6 (RowKit.wrap64 (x7 + 1)))) (none)) (none)) (ret true)
def impl_areHashes.l0 : Nat → Bool → (List T) → Int → Int → Option Bool
  | 0, _, _, _, _ => none
  | k + 1, x5z, x5, x6, x7 => impl_areHashes.l0b some (impl_areHashes.l0 k) k x5z x5 x6 x7
def impl_areHashes.f : Nat → Bool → (List T) → Option Bool
  | 0, _, _ => none
  | k + 1, a0z, a0 => impl_areHashes.b some (impl_areHashes.l0 k) k a0z a0
def impl_areHashes.enc (r : Bool) : Res := ⟨[.vals false [((.bool r), true)]], []⟩
def impl_areHashes.ans (k : Nat) : List Arg → Ans
  | [.v (.sl 22 a0z a0)] => ⟨impl_areHashes.f k a0z a0, impl_areHashes.enc⟩
  | _ => Ans.no
def impl_areHashes.Cs (k : Nat) : CallSem := tab []
def impl_areHashes.cuts : List (Nat × Keep) := [(26, ⟨[(5, some []), (6, some []), (7, some [])], []⟩)]
noncomputable def impl_areHashes.K0 : List Fr := framesAt [true, false, true, false] (bodyOf Try.f85 impl_areHashes.cuts) []
def impl_areHashes.N0 (x5z : Bool) (x5 : List T) (x6 : Int) (x7 : Int) : St := stOf 15 15 1 [(5, .val ⟨(.sl 22 x5z x5), [], false, none⟩), (6, .val (V.s (.int .i64 x6))), (7, .val (V.s (.int .i64 x7)))] []
theorem impl_areHashes.s (k : Nat) (a0z : Bool) (a0 : List T) : answer Try.prog impl_areHashes.Cs 100000 impl_areHashes.cuts [] Try.f85 (k + 1) [.v (.sl 22 a0z a0)] = impl_areHashes.b (fun r => some (impl_areHashes.enc r)) (fun x5z x5 x6 x7 => rounds Try.prog impl_areHashes.Cs (finish Try.prog [] Try.f85 [.v (.sl 22 a0z a0)]) 100000 k impl_areHashes.K0 (impl_areHashes.N0 x5z x5 x6 x7)) k a0z a0 := by kernel_rfl
theorem impl_areHashes.s0 (k : Nat) (G : List Fr → St → Option Res) (a0z : Bool) (a0 : List T) (yx5z : Bool) (yx5 : List T) (yx6 : Int) (yx7 : Int) : resume Try.prog (impl_areHashes.Cs k) G (finish Try.prog [] Try.f85 [.v (.sl 22 a0z a0)]) 100000 impl_areHashes.K0 (impl_areHashes.N0 yx5z yx5 yx6 yx7) = impl_areHashes.l0b (fun r => some (impl_areHashes.enc r)) (fun x5z x5 x6 x7 => G impl_areHashes.K0 (impl_areHashes.N0 x5z x5 x6 x7)) k yx5z yx5 yx6 yx7 := by kernel_rfl
theorem impl_areHashes.b_nat {R R' : Type} (e : R → R') (ret : Bool → Option R) (j0 : Bool → (List T) → Int → Int → Option R) (k : Nat) (a0z : Bool) (a0 : List T) : impl_areHashes.b (fun r => (ret r).map e) (fun x5z x5 x6 x7 => (j0 x5z x5 x6 x7).map e) k a0z a0 = (impl_areHashes.b ret j0 k a0z a0).map e := by
  unfold impl_areHashes.b
  repeat' first | with_reducible refine nat_cond ?_ ?_ | with_reducible refine nat_bind fun _ => ?_ | rfl
theorem impl_areHashes.l0b_nat {R R' : Type} (e : R → R') (ret : Bool → Option R) (j0 : Bool → (List T) → Int → Int → Option R) (k : Nat) (x5z : Bool) (x5 : List T) (x6 : Int) (x7 : Int) : impl_areHashes.l0b (fun r => (ret r).map e) (fun x5z x5 x6 x7 => (j0 x5z x5 x6 x7).map e) k x5z x5 x6 x7 = (impl_areHashes.l0b ret j0 k x5z x5 x6 x7).map e := by
  unfold impl_areHashes.l0b
  repeat' first | with_reducible refine nat_cond ?_ ?_ | with_reducible refine nat_bind fun _ => ?_ | rfl
theorem impl_areHashes.rounds_eq (a0z : Bool) (a0 : List T) : ∀ k, (∀ (x5z : Bool) (x5 : List T) (x6 : Int) (x7 : Int), rounds Try.prog impl_areHashes.Cs (finish Try.prog [] Try.f85 [.v (.sl 22 a0z a0)]) 100000 k impl_areHashes.K0 (impl_areHashes.N0 x5z x5 x6 x7) = (impl_areHashes.l0 k x5z x5 x6 x7).map impl_areHashes.enc)
  | 0 => fun _ _ _ _ => rfl
  | k + 1 => by
    have ih := impl_areHashes.rounds_eq a0z a0 k
    refine fun _ _ _ _ => ?_
    · refine (impl_areHashes.s0 k _ a0z a0 _ _ _ _).trans (Eq.trans ?_ (impl_areHashes.l0b_nat impl_areHashes.enc some (impl_areHashes.l0 k) k _ _ _ _))
      simp only [ih, Option.map_some]
theorem impl_areHashes.eq (k : Nat) (a0z : Bool) (a0 : List T) : answer Try.prog impl_areHashes.Cs 100000 impl_areHashes.cuts [] Try.f85 (k + 1) [.v (.sl 22 a0z a0)] = (impl_areHashes.f (k + 1) a0z a0).map impl_areHashes.enc := by
  have ih := impl_areHashes.rounds_eq a0z a0 k
  refine (impl_areHashes.s k a0z a0).trans (Eq.trans ?_ (impl_areHashes.b_nat impl_areHashes.enc some (impl_areHashes.l0 k) k a0z a0))
  simp only [ih, Option.map_some]
theorem impl_areHashes.sound (k : Nat) : SoundF Try.prog 85 (fun a => (impl_areHashes.ans k a).val) := by
  refine sound_plain (fun args res h => ?_) (fun t n => rfl)
  unfold impl_areHashes.ans at h
  dsimp only at h
  split at h
  · cases k with
    | zero => cases h
    | succ k =>
      unfold Ans.val at h
      rw [← impl_areHashes.eq] at h
      exact answer_sound mixed Try.func85 _ _ _ (k + 1) (fun j _ => tab_sound (tab_nil)) _ _ h
  · exact (Ans.no_val h).elim

/-! loop.example/g00790/impl.VoteBytes -/
def impl_VoteBytes.b {R : Type} (ret : Bool × List Int → Option R) (k : Nat) (a0 : Int) (a1 : Int) (a2z : Bool) (a2 : List Int) : Option R :=
  (impl_numbers.f k 86 false ([a0, a1] : List Int)).bind fun t0 => cond t0.1 (ret (true, ([] : List Int))) ((impl_areHashes.f k false ([(.nums 5 .u8 a2z a2)] : List T)).bind fun t1 => cond (!t1) (ret (true, ([] : List Int))) (cond (decide ((t0.2).length + (a2).length < 140737488355328)) (ret (((a2).isEmpty && t0.1), (t0.2 ++ a2))) (none)))
def impl_VoteBytes.f : Nat → Int → Int → Bool → (List Int) → Option (Bool × List Int)
  | 0, _, _, _, _ => none
  | k + 1, a0, a1, a2z, a2 => impl_VoteBytes.b some k a0 a1 a2z a2
def impl_VoteBytes.enc (r : Bool × List Int) : Res := ⟨[.vals false [((.nums 5 .u8 r.1 r.2), true)]], []⟩
def impl_VoteBytes.ans (k : Nat) : List Arg → Ans
  | [.v (.int .i64 a0), .v (.int .i64 a1), .v (.nums 5 .u8 a2z a2)] => ⟨impl_VoteBytes.f k a0 a1 a2z a2, impl_VoteBytes.enc⟩
  | _ => Ans.no
def impl_VoteBytes.Cs (k : Nat) : CallSem := tab [(84, impl_numbers.ans k), (85, impl_areHashes.ans k)]
def impl_VoteBytes.cuts : List (Nat × Keep) := []
theorem impl_VoteBytes.s (k : Nat) (a0 : Int) (a1 : Int) (a2z : Bool) (a2 : List Int) : answer Try.prog impl_VoteBytes.Cs 100000 impl_VoteBytes.cuts [] Try.f20 (k + 1) [.v (.int .i64 a0), .v (.int .i64 a1), .v (.nums 5 .u8 a2z a2)] = impl_VoteBytes.b (fun r => some (impl_VoteBytes.enc r)) k a0 a1 a2z a2 := by kernel_rfl
theorem impl_VoteBytes.b_nat {R R' : Type} (e : R → R') (ret : Bool × List Int → Option R) (k : Nat) (a0 : Int) (a1 : Int) (a2z : Bool) (a2 : List Int) : impl_VoteBytes.b (fun r => (ret r).map e) k a0 a1 a2z a2 = (impl_VoteBytes.b ret k a0 a1 a2z a2).map e := by
  unfold impl_VoteBytes.b
  repeat' first | with_reducible refine nat_cond ?_ ?_ | with_reducible refine nat_bind fun _ => ?_ | rfl
theorem impl_VoteBytes.eq (k : Nat) (a0 : Int) (a1 : Int) (a2z : Bool) (a2 : List Int) : answer Try.prog impl_VoteBytes.Cs 100000 impl_VoteBytes.cuts [] Try.f20 (k + 1) [.v (.int .i64 a0), .v (.int .i64 a1), .v (.nums 5 .u8 a2z a2)] = (impl_VoteBytes.f (k + 1) a0 a1 a2z a2).map impl_VoteBytes.enc := by
  refine (impl_VoteBytes.s k a0 a1 a2z a2).trans (Eq.trans ?_ (impl_VoteBytes.b_nat impl_VoteBytes.enc some k a0 a1 a2z a2))
  simp only [Option.map_some]
theorem impl_VoteBytes.sound (k : Nat) : SoundF Try.prog 20 (fun a => (impl_VoteBytes.ans k a).val) := by
  refine sound_plain (fun args res h => ?_) (fun t n => rfl)
  unfold impl_VoteBytes.ans at h
  dsimp only at h
  split at h
  · cases k with
    | zero => cases h
    | succ k =>
      unfold Ans.val at h
      rw [← impl_VoteBytes.eq] at h
      exact answer_sound mixed Try.func20 _ _ _ (k + 1) (fun j _ => tab_sound (tab_cons (impl_numbers.sound j) (tab_cons (impl_areHashes.sound j) (tab_nil)))) _ _ h
  · exact (Ans.no_val h).elim

/-! loop.example/g00790/impl.ShaInit -/
def impl_ShaInit.b {R : Type} (ret : Bool × List Int → Option R) (k : Nat) : Option R :=
  ret (false, ([1779033703, 3144134277, 1013904242, 2773480762, 1359893119, 2600822924, 528734635, 1541459225] : List Int))
def impl_ShaInit.f : Nat → Option (Bool × List Int)
  | 0 => none
  | k + 1 => impl_ShaInit.b some k
def impl_ShaInit.enc (r : Bool × List Int) : Res := ⟨[.vals false [((.nums 3 .i64 r.1 r.2), true)]], []⟩
def impl_ShaInit.ans (k : Nat) : List Arg → Ans
  | [] => ⟨impl_ShaInit.f k, impl_ShaInit.enc⟩
  | _ => Ans.no
def impl_ShaInit.Cs (k : Nat) : CallSem := tab []
def impl_ShaInit.cuts : List (Nat × Keep) := []
theorem impl_ShaInit.s (k : Nat) : answer Try.prog impl_ShaInit.Cs 100000 impl_ShaInit.cuts [] Try.f163 (k + 1) [] = impl_ShaInit.b (fun r => some (impl_ShaInit.enc r)) k := by kernel_rfl
theorem impl_ShaInit.b_nat {R R' : Type} (e : R → R') (ret : Bool × List Int → Option R) (k : Nat) : impl_ShaInit.b (fun r => (ret r).map e) k = (impl_ShaInit.b ret k).map e := by
  unfold impl_ShaInit.b
  repeat' first | with_reducible refine nat_cond ?_ ?_ | with_reducible refine nat_bind fun _ => ?_ | rfl
theorem impl_ShaInit.eq (k : Nat) : answer Try.prog impl_ShaInit.Cs 100000 impl_ShaInit.cuts [] Try.f163 (k + 1) [] = (impl_ShaInit.f (k + 1)).map impl_ShaInit.enc := by
  refine (impl_ShaInit.s k).trans (Eq.trans ?_ (impl_ShaInit.b_nat impl_ShaInit.enc some k))
  simp only [Option.map_some]
theorem impl_ShaInit.sound (k : Nat) : SoundF Try.prog 163 (fun a => (impl_ShaInit.ans k a).val) := by
  refine sound_plain (fun args res h => ?_) (fun t n => rfl)
  unfold impl_ShaInit.ans at h
  dsimp only at h
  split at h
  · cases k with
    | zero => cases h
    | succ k =>
      unfold Ans.val at h
      rw [← impl_ShaInit.eq] at h
      exact answer_sound mixed Try.func163 _ _ _ (k + 1) (fun j _ => tab_sound (tab_nil)) _ _ h
  · exact (Ans.no_val h).elim

/-! loop.example/g00790/impl.ShaPad -/
def impl_ShaPad.b {R : Type} (ret : Bool × List Int → Option R) (j0 : Bool → (List Int) → (List Int) → Option R) (j1 : Bool → (List Int) → (List Int) → Int → Option R) (k : Nat) (a0z : Bool) (a0 : List Int) : Option R :=
  (impl_copyBytes.f k a0z a0).bind fun t0 => cond (decide ((t0.2).length + 1 < 140737488355328)) (j0 a0z a0 (t0.2 ++ ([128] : List Int))) (none)
def impl_ShaPad.l0b {R : Type} (ret : Bool × List Int → Option R) (j0 : Bool → (List Int) → (List Int) → Option R) (j1 : Bool → (List Int) → (List Int) → Int → Option R) (k : Nat) (x0z : Bool) (x0 : List Int) (x3 : List Int) : Option R :=
  cond (!(decide ((Int.tmod ((x3).length : Int) 64) = 56))) (cond (decide ((x3).length + 1 < 140737488355328)) (j0 x0z x0 (x3 ++ ([0] : List Int))) (none)) (j1 x0z x0 x3 7)
def impl_ShaPad.l1b {R : Type} (ret : Bool × List Int → Option R) (j0 : Bool → (List Int) → (List Int) → Option R) (j1 : Bool → (List Int) → (List Int) → Int → Option R) (k : Nat) (x0z : Bool) (x0 : List Int) (x3 : List Int) (x4 : Int) : Option R :=
  cond (decide (x4 ≥ 0)) (cond (decide ((0 : Int) ≤ (RowKit.wrap64 ((8 : Int) * x4)))) (cond (decide ((x3).length + 1 < 140737488355328)) (j1 x0z x0 (x3 ++ ([(((shrI .i64 (RowKit.wrap64 ((8 : Int) * ((x0).length : Int))) (RowKit.wrap64 ((8 : Int) * x4)))) % 256)] : List Int)) (RowKit.wrap64 (x4 - 1))) (none)) (none)) (ret (false, x3))
mutual
def impl_ShaPad.l0 : Nat → Bool → (List Int) → (List Int) → Option (Bool × List Int)
  | 0, _, _, _ => none
  | k + 1, x0z, x0, x3 => impl_ShaPad.l0b some (impl_ShaPad.l0 k) (impl_ShaPad.l1 k) k x0z x0 x3
def impl_ShaPad.l1 : Nat → Bool → (List Int) → (List Int) → Int → Option (Bool × List Int)
  | 0, _, _, _, _ => none
  | k + 1, x0z, x0, x3, x4 => impl_ShaPad.l1b some (impl_ShaPad.l0 k) (impl_ShaPad.l1 k) k x0z x0 x3 x4
end
def impl_ShaPad.f : Nat → Bool → (List Int) → Option (Bool × List Int)
  | 0, _, _ => none
  | k + 1, a0z, a0 => impl_ShaPad.b some (impl_ShaPad.l0 k) (impl_ShaPad.l1 k) k a0z a0
def impl_ShaPad.enc (r : Bool × List Int) : Res := ⟨[.vals false [((.nums 5 .u8 r.1 r.2), true)]], []⟩
def impl_ShaPad.ans (k : Nat) : List Arg → Ans
  | [.v (.nums 5 .u8 a0z a0)] => ⟨impl_ShaPad.f k a0z a0, impl_ShaPad.enc⟩
  | _ => Ans.no
def impl_ShaPad.Cs (k : Nat) : CallSem := tab [(80, impl_copyBytes.ans k)]
def impl_ShaPad.cuts : List (Nat × Keep) := [(28, ⟨[(0, some []), (3, none)], []⟩), (122, ⟨[(0, some []), (3, none), (4, some [])], []⟩)]
noncomputable def impl_ShaPad.K0 : List Fr := framesAt [true, true, false, false] (bodyOf Try.f164 impl_ShaPad.cuts) []
def impl_ShaPad.N0 (x0z : Bool) (x0 : List Int) (x3 : List Int) : St := stOf 31 31 1 [(0, .val ⟨(.nums 5 .u8 x0z x0), [], false, none⟩), (3, .val ⟨(.nums 5 .u8 false x3), [.l 3 0], true, some (.l 3 0)⟩)] []
noncomputable def impl_ShaPad.K1 : List Fr := framesAt [true, true, true, false, true, false] (bodyOf Try.f164 impl_ShaPad.cuts) []
def impl_ShaPad.N1 (x0z : Bool) (x0 : List Int) (x3 : List Int) (x4 : Int) : St := stOf 31 31 1 [(0, .val ⟨(.nums 5 .u8 x0z x0), [], false, none⟩), (3, .val ⟨(.nums 5 .u8 false x3), [.l 3 0], true, some (.l 3 0)⟩), (4, .val (V.s (.int .i64 x4)))] []
theorem impl_ShaPad.s (k : Nat) (a0z : Bool) (a0 : List Int) : answer Try.prog impl_ShaPad.Cs 100000 impl_ShaPad.cuts [] Try.f164 (k + 1) [.v (.nums 5 .u8 a0z a0)] = impl_ShaPad.b (fun r => some (impl_ShaPad.enc r)) (fun x0z x0 x3 => rounds Try.prog impl_ShaPad.Cs (finish Try.prog [] Try.f164 [.v (.nums 5 .u8 a0z a0)]) 100000 k impl_ShaPad.K0 (impl_ShaPad.N0 x0z x0 x3)) (fun x0z x0 x3 x4 => rounds Try.prog impl_ShaPad.Cs (finish Try.prog [] Try.f164 [.v (.nums 5 .u8 a0z a0)]) 100000 k impl_ShaPad.K1 (impl_ShaPad.N1 x0z x0 x3 x4)) k a0z a0 := by kernel_rfl
theorem impl_ShaPad.s0 (k : Nat) (G : List Fr → St → Option Res) (a0z : Bool) (a0 : List Int) (yx0z : Bool) (yx0 : List Int) (yx3 : List Int) : resume Try.prog (impl_ShaPad.Cs k) G (finish Try.prog [] Try.f164 [.v (.nums 5 .u8 a0z a0)]) 100000 impl_ShaPad.K0 (impl_ShaPad.N0 yx0z yx0 yx3) = impl_ShaPad.l0b (fun r => some (impl_ShaPad.enc r)) (fun x0z x0 x3 => G impl_ShaPad.K0 (impl_ShaPad.N0 x0z x0 x3)) (fun x0z x0 x3 x4 => G impl_ShaPad.K1 (impl_ShaPad.N1 x0z x0 x3 x4)) k yx0z yx0 yx3 := by kernel_rfl
theorem impl_ShaPad.s1 (k : Nat) (G : List Fr → St → Option Res) (a0z : Bool) (a0 : List Int) (yx0z : Bool) (yx0 : List Int) (yx3 : List Int) (yx4 : Int) : resume Try.prog (impl_ShaPad.Cs k) G (finish Try.prog [] Try.f164 [.v (.nums 5 .u8 a0z a0)]) 100000 impl_ShaPad.K1 (impl_ShaPad.N1 yx0z yx0 yx3 yx4) = impl_ShaPad.l1b (fun r => some (impl_ShaPad.enc r)) (fun x0z x0 x3 => G impl_ShaPad.K0 (impl_ShaPad.N0 x0z x0 x3)) (fun x0z x0 x3 x4 => G impl_ShaPad.K1 (impl_ShaPad.N1 x0z x0 x3 x4)) k yx0z yx0 yx3 yx4 := by kernel_rfl
theorem impl_ShaPad.b_nat {R R' : Type} (e : R → R') (ret : Bool × List Int → Option R) (j0 : Bool → (List Int) → (List Int) → Option R) (j1 : Bool → (List Int) → (List Int) → Int → Option R) (k : Nat) (a0z : Bool) (a0 : List Int) : impl_ShaPad.b (fun r => (ret r).map e) (fun x0z x0 x3 => (j0 x0z x0 x3).map e) (fun x0z x0 x3 x4 => (j1 x0z x0 x3 x4).map e) k a0z a0 = (impl_ShaPad.b ret j0 j1 k a0z a0).map e := by
  unfold impl_ShaPad.b
  repeat' first | with_reducible refine nat_cond ?_ ?_ | with_reducible refine nat_bind fun _ => ?_ | rfl
theorem impl_ShaPad.l0b_nat {R R' : Type} (e : R → R') (ret : Bool × List Int → Option R) (j0 : Bool → (List Int) → (List Int) → Option R) (j1 : Bool → (List Int) → (List Int) → Int → Option R) (k : Nat) (x0z : Bool) (x0 : List Int) (x3 : List Int) : impl_ShaPad.l0b (fun r => (ret r).map e) (fun x0z x0 x3 => (j0 x0z x0 x3).map e) (fun x0z x0 x3 x4 => (j1 x0z x0 x3 x4).map e) k x0z x0 x3 = (impl_ShaPad.l0b ret j0 j1 k x0z x0 x3).map e := by
  unfold impl_ShaPad.l0b
  repeat' first | with_reducible refine nat_cond ?_ ?_ | with_reducible refine nat_bind fun _ => ?_ | rfl
theorem impl_ShaPad.l1b_nat {R R' : Type} (e : R → R') (ret : Bool × List Int → Option R) (j0 : Bool → (List Int) → (List Int) → Option R) (j1 : Bool → (List Int) → (List Int) → Int → Option R) (k : Nat) (x0z : Bool) (x0 : List Int) (x3 : List Int) (x4 : Int) : impl_ShaPad.l1b (fun r => (ret r).map e) (fun x0z x0 x3 => (j0 x0z x0 x3).map e) (fun x0z x0 x3 x4 => (j1 x0z x0 x3 x4).map e) k x0z x0 x3 x4 = (impl_ShaPad.l1b ret j0 j1 k x0z x0 x3 x4).map e := by
  unfold impl_ShaPad.l1b
  repeat' first | with_reducible refine nat_cond ?_ ?_ | with_reducible refine nat_bind fun _ => ?_ | rfl
theorem impl_ShaPad.rounds_eq (a0z : Bool) (a0 : List Int) : ∀ k, (∀ (x0z : Bool) (x0 : List Int) (x3 : List Int), rounds Try.prog impl_ShaPad.Cs (finish Try.prog [] Try.f164 [.v (.nums 5 .u8 a0z a0)]) 100000 k impl_ShaPad.K0 (impl_ShaPad.N0 x0z x0 x3) = (impl_ShaPad.l0 k x0z x0 x3).map impl_ShaPad.enc) ∧ (∀ (x0z : Bool) (x0 : List Int) (x3 : List Int) (x4 : Int), rounds Try.prog impl_ShaPad.Cs (finish Try.prog [] Try.f164 [.v (.nums 5 .u8 a0z a0)]) 100000 k impl_ShaPad.K1 (impl_ShaPad.N1 x0z x0 x3 x4) = (impl_ShaPad.l1 k x0z x0 x3 x4).map impl_ShaPad.enc)
  | 0 => ⟨fun _ _ _ => rfl, fun _ _ _ _ => rfl⟩
  | k + 1 => by
    have ih := impl_ShaPad.rounds_eq a0z a0 k
    refine ⟨fun _ _ _ => ?_, fun _ _ _ _ => ?_⟩
    · refine (impl_ShaPad.s0 k _ a0z a0 _ _ _).trans (Eq.trans ?_ (impl_ShaPad.l0b_nat impl_ShaPad.enc some (impl_ShaPad.l0 k) (impl_ShaPad.l1 k) k _ _ _))
      simp only [ih.1, ih.2, Option.map_some]
    · refine (impl_ShaPad.s1 k _ a0z a0 _ _ _ _).trans (Eq.trans ?_ (impl_ShaPad.l1b_nat impl_ShaPad.enc some (impl_ShaPad.l0 k) (impl_ShaPad.l1 k) k _ _ _ _))
      simp only [ih.1, ih.2, Option.map_some]
theorem impl_ShaPad.eq (k : Nat) (a0z : Bool) (a0 : List Int) : answer Try.prog impl_ShaPad.Cs 100000 impl_ShaPad.cuts [] Try.f164 (k + 1) [.v (.nums 5 .u8 a0z a0)] = (impl_ShaPad.f (k + 1) a0z a0).map impl_ShaPad.enc := by
  have ih := impl_ShaPad.rounds_eq a0z a0 k
  refine (impl_ShaPad.s k a0z a0).trans (Eq.trans ?_ (impl_ShaPad.b_nat impl_ShaPad.enc some (impl_ShaPad.l0 k) (impl_ShaPad.l1 k) k a0z a0))
  simp only [ih.1, ih.2, Option.map_some]
theorem impl_ShaPad.sound (k : Nat) : SoundF Try.prog 164 (fun a => (impl_ShaPad.ans k a).val) := by
  refine sound_plain (fun args res h => ?_) (fun t n => rfl)
  unfold impl_ShaPad.ans at h
  dsimp only at h
  split at h
  · cases k with
    | zero => cases h
    | succ k =>
      unfold Ans.val at h
      rw [← impl_ShaPad.eq] at h
      exact answer_sound mixed Try.func164 _ _ _ (k + 1) (fun j _ => tab_sound (tab_cons (impl_copyBytes.sound j) (tab_nil))) _ _ h
  · exact (Ans.no_val h).elim

/-! loop.example/g00790/impl.isWord -/
def impl_isWord.b {R : Type} (ret : Bool → Option R) (k : Nat) (a0 : Int) : Option R :=
  (impl_within.f k a0 0 4294967295).bind fun t0 => ret t0
def impl_isWord.f : Nat → Int → Option Bool
  | 0, _ => none
  | k + 1, a0 => impl_isWord.b some k a0
def impl_isWord.enc (r : Bool) : Res := ⟨[.vals false [((.bool r), true)]], []⟩
def impl_isWord.ans (k : Nat) : List Arg → Ans
  | [.v (.int .i64 a0)] => ⟨impl_isWord.f k a0, impl_isWord.enc⟩
  | _ => Ans.no
def impl_isWord.Cs (k : Nat) : CallSem := tab [(79, impl_within.ans k)]
def impl_isWord.cuts : List (Nat × Keep) := []
theorem impl_isWord.s (k : Nat) (a0 : Int) : answer Try.prog impl_isWord.Cs 100000 impl_isWord.cuts [] Try.f199 (k + 1) [.v (.int .i64 a0)] = impl_isWord.b (fun r => some (impl_isWord.enc r)) k a0 := by kernel_rfl
theorem impl_isWord.b_nat {R R' : Type} (e : R → R') (ret : Bool → Option R) (k : Nat) (a0 : Int) : impl_isWord.b (fun r => (ret r).map e) k a0 = (impl_isWord.b ret k a0).map e := by
  unfold impl_isWord.b
  repeat' first | with_reducible refine nat_cond ?_ ?_ | with_reducible refine nat_bind fun _ => ?_ | rfl
theorem impl_isWord.eq (k : Nat) (a0 : Int) : answer Try.prog impl_isWord.Cs 100000 impl_isWord.cuts [] Try.f199 (k + 1) [.v (.int .i64 a0)] = (impl_isWord.f (k + 1) a0).map impl_isWord.enc := by
  refine (impl_isWord.s k a0).trans (Eq.trans ?_ (impl_isWord.b_nat impl_isWord.enc some k a0))
  simp only [Option.map_some]
theorem impl_isWord.sound (k : Nat) : SoundF Try.prog 199 (fun a => (impl_isWord.ans k a).val) := by
  refine sound_plain (fun args res h => ?_) (fun t n => rfl)
  unfold impl_isWord.ans at h
  dsimp only at h
  split at h
  · cases k with
    | zero => cases h
    | succ k =>
      unfold Ans.val at h
      rw [← impl_isWord.eq] at h
      exact answer_sound mixed Try.func199 _ _ _ (k + 1) (fun j _ => tab_sound (tab_cons (impl_within.sound j) (tab_nil))) _ _ h
  · exact (Ans.no_val h).elim

/-! loop.example/g00790/impl.rounds -/
def impl_rounds.b {R : Type} (ret : Bool × List Int → Option R) (k : Nat) : Option R :=
  ret (false, ([1116352408, 1899447441, 3049323471, 3921009573, 961987163, 1508970993, 2453635748, 2870763221, 3624381080, 310598401, 607225278, 1426881987, 1925078388, 2162078206, 2614888103, 3248222580, 3835390401, 4022224774, 264347078, 604807628, 770255983, 1249150122, 1555081692, 1996064986, 2554220882, 2821834349, 2952996808, 3210313671, 3336571891, 3584528711, 113926993, 338241895, 666307205, 773529912, 1294757372, 1396182291, 1695183700, 1986661051, 2177026350, 2456956037, 2730485921, 2820302411, 3259730800, 3345764771, 3516065817, 3600352804, 4094571909, 275423344, 430227734, 506948616, 659060556, 883997877, 958139571, 1322822218, 1537002063, 1747873779, 1955562222, 2024104815, 2227730452, 2361852424, 2428436474, 2756734187, 3204031479, 3329325298] : List Int))
def impl_rounds.f : Nat → Option (Bool × List Int)
  | 0 => none
  | k + 1 => impl_rounds.b some k
def impl_rounds.enc (r : Bool × List Int) : Res := ⟨[.vals false [((.nums 3 .i64 r.1 r.2), true)]], []⟩
def impl_rounds.ans (k : Nat) : List Arg → Ans
  | [] => ⟨impl_rounds.f k, impl_rounds.enc⟩
  | _ => Ans.no
def impl_rounds.Cs (k : Nat) : CallSem := tab []
def impl_rounds.cuts : List (Nat × Keep) := []
theorem impl_rounds.s (k : Nat) : answer Try.prog impl_rounds.Cs 100000 impl_rounds.cuts [] Try.f200 (k + 1) [] = impl_rounds.b (fun r => some (impl_rounds.enc r)) k := by kernel_rfl
theorem impl_rounds.b_nat {R R' : Type} (e : R → R') (ret : Bool × List Int → Option R) (k : Nat) : impl_rounds.b (fun r => (ret r).map e) k = (impl_rounds.b ret k).map e := by
  unfold impl_rounds.b
  repeat' first | with_reducible refine nat_cond ?_ ?_ | with_reducible refine nat_bind fun _ => ?_ | rfl
theorem impl_rounds.eq (k : Nat) : answer Try.prog impl_rounds.Cs 100000 impl_rounds.cuts [] Try.f200 (k + 1) [] = (impl_rounds.f (k + 1)).map impl_rounds.enc := by
  refine (impl_rounds.s k).trans (Eq.trans ?_ (impl_rounds.b_nat impl_rounds.enc some k))
  simp only [Option.map_some]
theorem impl_rounds.sound (k : Nat) : SoundF Try.prog 200 (fun a => (impl_rounds.ans k a).val) := by
  refine sound_plain (fun args res h => ?_) (fun t n => rfl)
  unfold impl_rounds.ans at h
  dsimp only at h
  split at h
  · cases k with
    | zero => cases h
    | succ k =>
      unfold Ans.val at h
      rw [← impl_rounds.eq] at h
      exact answer_sound mixed Try.func200 _ _ _ (k + 1) (fun j _ => tab_sound (tab_nil)) _ _ h
  · exact (Ans.no_val h).elim

/-! loop.example/g00790/impl.TurnRight -/
def impl_TurnRight.b {R : Type} (ret : Int → Option R) (k : Nat) (a0 : Int) (a1 : Int) : Option R :=
  (impl_isWord.f k a0).bind fun t0 => cond (!t0) (ret 0) ((impl_within.f k a1 0 31).bind fun t1 => cond (!t1) (ret 0) (cond (decide ((0 : Int) ≤ a1)) (cond (decide ((0 : Int) ≤ (RowKit.wrap64 ((32 : Int) - a1)))) (ret (Go.bits .and .i64 (Go.bits .or .i64 (shrI .i64 a0 a1) (shlI .i64 a0 (RowKit.wrap64 ((32 : Int) - a1)))) 4294967295)) (none)) (none)))
def impl_TurnRight.f : Nat → Int → Int → Option Int
  | 0, _, _ => none
  | k + 1, a0, a1 => impl_TurnRight.b some k a0 a1
def impl_TurnRight.enc (r : Int) : Res := ⟨[.vals false [((.int .i64 r), true)]], []⟩
def impl_TurnRight.ans (k : Nat) : List Arg → Ans
  | [.v (.int .i64 a0), .v (.int .i64 a1)] => ⟨impl_TurnRight.f k a0 a1, impl_TurnRight.enc⟩
  | _ => Ans.no
def impl_TurnRight.Cs (k : Nat) : CallSem := tab [(79, impl_within.ans k), (199, impl_isWord.ans k)]
def impl_TurnRight.cuts : List (Nat × Keep) := []
theorem impl_TurnRight.s (k : Nat) (a0 : Int) (a1 : Int) : answer Try.prog impl_TurnRight.Cs 100000 impl_TurnRight.cuts [] Try.f201 (k + 1) [.v (.int .i64 a0), .v (.int .i64 a1)] = impl_TurnRight.b (fun r => some (impl_TurnRight.enc r)) k a0 a1 := by kernel_rfl
theorem impl_TurnRight.b_nat {R R' : Type} (e : R → R') (ret : Int → Option R) (k : Nat) (a0 : Int) (a1 : Int) : impl_TurnRight.b (fun r => (ret r).map e) k a0 a1 = (impl_TurnRight.b ret k a0 a1).map e := by
  unfold impl_TurnRight.b
  repeat' first | with_reducible refine nat_cond ?_ ?_ | with_reducible refine nat_bind fun _ => ?_ | rfl
theorem impl_TurnRight.eq (k : Nat) (a0 : Int) (a1 : Int) : answer Try.prog impl_TurnRight.Cs 100000 impl_TurnRight.cuts [] Try.f201 (k + 1) [.v (.int .i64 a0), .v (.int .i64 a1)] = (impl_TurnRight.f (k + 1) a0 a1).map impl_TurnRight.enc := by
  refine (impl_TurnRight.s k a0 a1).trans (Eq.trans ?_ (impl_TurnRight.b_nat impl_TurnRight.enc some k a0 a1))
  simp only [Option.map_some]
theorem impl_TurnRight.sound (k : Nat) : SoundF Try.prog 201 (fun a => (impl_TurnRight.ans k a).val) := by
  refine sound_plain (fun args res h => ?_) (fun t n => rfl)
  unfold impl_TurnRight.ans at h
  dsimp only at h
  split at h
  · cases k with
    | zero => cases h
    | succ k =>
      unfold Ans.val at h
      rw [← impl_TurnRight.eq] at h
      exact answer_sound mixed Try.func201 _ _ _ (k + 1) (fun j _ => tab_sound (tab_cons (impl_within.sound j) (tab_cons (impl_isWord.sound j) (tab_nil)))) _ _ h
  · exact (Ans.no_val h).elim

end Go.Proofs.YtbpcnodmgphinaaG
