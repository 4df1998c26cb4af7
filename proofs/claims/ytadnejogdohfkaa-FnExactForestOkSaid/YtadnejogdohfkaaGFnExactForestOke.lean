/- What the functions compute, printed by a program of this repo; each is shown to be what the machine of values answers. No condition. -/
import Derived.Test.YtadnejogdohfkaaProg
import Derived.KernelRfl
import Derived.Test.YtadnejogdohfkaaGFnExactForestOkd
namespace Go.Proofs.YtadnejogdohfkaaG
open Go Go.Proofs.YtadnejogdohfkaaRv Go.Proofs
set_option linter.unusedVariables false
set_option linter.unusedSimpArgs false
/-! loop.example/g00790/impl.ForestOk -/
def impl_ForestOk.b {R : Type} (ret : Bool → Option R) (j0 : Bool → (List T) → Int → Int → Int → Int → Int → Int → Int → Bool → (List T) → Option R) (j1 : Bool → (List T) → Int → Int → Bool → (List T) → Int → Int → Int → Int → Int → Int → Int → Bool → (List T) → Int → Int → Int → Bool → (List Int) → Bool → (List Int) → Int → Int → Bool → (List Int) → Bool → (List Int) → Bool → (List T) → Option R) (k : Nat) (a0_0 : Int) (a0_1 : Int) (a0_2 : Int) (a0_3 : Int) (a0_4 : Int) (a0_5z : Bool) (a0_5 : List T) : Option R :=
  j0 a0_5z a0_5 ((a0_5).length : Int) 0 a0_0 a0_1 a0_2 a0_3 a0_4 a0_5z a0_5
def impl_ForestOk.l0b {R : Type} (ret : Bool → Option R) (j0 : Bool → (List T) → Int → Int → Int → Int → Int → Int → Int → Bool → (List T) → Option R) (j1 : Bool → (List T) → Int → Int → Bool → (List T) → Int → Int → Int → Int → Int → Int → Int → Bool → (List T) → Int → Int → Int → Bool → (List Int) → Bool → (List Int) → Int → Int → Bool → (List Int) → Bool → (List Int) → Bool → (List T) → Option R) (k : Nat) (x8z : Bool) (x8 : List T) (x9 : Int) (x10 : Int) (c1_0 : Int) (c1_1 : Int) (c1_2 : Int) (c1_3 : Int) (c1_4 : Int) (c1_5z : Bool) (c1_5 : List T) : Option R :=
  cond (decide (x10 < x9)) (cond (decide ((0 : Int) ≤ x10)) (cond (decide (x10 < ((x8).length : Int))) (cond (decide ((0 : Int) ≤ x10)) (cond (decide (x10 ≤ ((c1_5).length : Int))) (cond (decide ((0 : Int) ≤ x10)) (j1 x8z x8 x9 x10 c1_5z (((c1_5).take (x10).toNat).drop 0) (((((c1_5).take (x10).toNat).drop 0)).length : Int) 0 c1_0 c1_1 c1_2 c1_3 c1_4 c1_5z c1_5 (((((x8).getD (x10).toNat .bad).cells.getD 0 .bad)).toInt) (((((x8).getD (x10).toNat .bad).cells.getD 1 .bad)).toInt) (((((x8).getD (x10).toNat .bad).cells.getD 2 .bad)).toInt) (((((x8).getD (x10).toNat .bad).cells.getD 3 .bad)).isNil) (((((x8).getD (x10).toNat .bad).cells.getD 3 .bad)).toNums) (((((x8).getD (x10).toNat .bad).cells.getD 4 .bad)).isNil) (((((x8).getD (x10).toNat .bad).cells.getD 4 .bad)).toNums) (((((x8).getD (x10).toNat .bad).cells.getD 5 .bad)).toInt) (((((x8).getD (x10).toNat .bad).cells.getD 6 .bad)).toInt) (((((x8).getD (x10).toNat .bad).cells.getD 7 .bad)).isNil) (((((x8).getD (x10).toNat .bad).cells.getD 7 .bad)).toNums) (((((x8).getD (x10).toNat .bad).cells.getD 8 .bad)).isNil) (((((x8).getD (x10).toNat .bad).cells.getD 8 .bad)).toNums) (((((x8).getD (x10).toNat .bad).cells.getD 9 .bad)).isNil) (((((x8).getD (x10).toNat .bad).cells.getD 9 .bad)).toList)) (none)) (none)) (none)) (none)) (none)) ((impl_LimitsOk.f k c1_0 c1_1 c1_2 c1_3 c1_4).bind fun t0 => cond t0 (cond (decide (((c1_5).length : Int) ≤ 10)) ((impl_areHeads.f k c1_0 c1_1 c1_2 c1_3 c1_4 c1_5z c1_5).bind fun t1 => ret t1) (ret false)) (ret false))
def impl_ForestOk.l1b {R : Type} (ret : Bool → Option R) (j0 : Bool → (List T) → Int → Int → Int → Int → Int → Int → Int → Bool → (List T) → Option R) (j1 : Bool → (List T) → Int → Int → Bool → (List T) → Int → Int → Int → Int → Int → Int → Int → Bool → (List T) → Int → Int → Int → Bool → (List Int) → Bool → (List Int) → Int → Int → Bool → (List Int) → Bool → (List Int) → Bool → (List T) → Option R) (k : Nat) (x8z : Bool) (x8 : List T) (x9 : Int) (x10 : Int) (x18z : Bool) (x18 : List T) (x19 : Int) (x20 : Int) (c1_0 : Int) (c1_1 : Int) (c1_2 : Int) (c1_3 : Int) (c1_4 : Int) (c1_5z : Bool) (c1_5 : List T) (c4_0 : Int) (c4_1 : Int) (c4_2 : Int) (c4_3z : Bool) (c4_3 : List Int) (c4_4z : Bool) (c4_4 : List Int) (c4_5 : Int) (c4_6 : Int) (c4_7z : Bool) (c4_7 : List Int) (c4_8z : Bool) (c4_8 : List Int) (c4_9z : Bool) (c4_9 : List T) : Option R :=
  cond (decide (x20 < x19)) (cond (decide ((0 : Int) ≤ x20)) (cond (decide (x20 < ((x18).length : Int))) ((impl_HeadHash.f k c1_0 c1_1 c1_2 c1_3 c1_4 c4_0 c4_1 c4_2 c4_3z c4_3 c4_4z c4_4 c4_5 c4_6 c4_7z c4_7 c4_8z c4_8 c4_9z c4_9).bind fun t0 => (impl_HeadHash.f k c1_0 c1_1 c1_2 c1_3 c1_4 (((((x18).getD (x20).toNat .bad).cells.getD 0 .bad)).toInt) (((((x18).getD (x20).toNat .bad).cells.getD 1 .bad)).toInt) (((((x18).getD (x20).toNat .bad).cells.getD 2 .bad)).toInt) (((((x18).getD (x20).toNat .bad).cells.getD 3 .bad)).isNil) (((((x18).getD (x20).toNat .bad).cells.getD 3 .bad)).toNums) (((((x18).getD (x20).toNat .bad).cells.getD 4 .bad)).isNil) (((((x18).getD (x20).toNat .bad).cells.getD 4 .bad)).toNums) (((((x18).getD (x20).toNat .bad).cells.getD 5 .bad)).toInt) (((((x18).getD (x20).toNat .bad).cells.getD 6 .bad)).toInt) (((((x18).getD (x20).toNat .bad).cells.getD 7 .bad)).isNil) (((((x18).getD (x20).toNat .bad).cells.getD 7 .bad)).toNums) (((((x18).getD (x20).toNat .bad).cells.getD 8 .bad)).isNil) (((((x18).getD (x20).toNat .bad).cells.getD 8 .bad)).toNums) (((((x18).getD (x20).toNat .bad).cells.getD 9 .bad)).isNil) (((((x18).getD (x20).toNat .bad).cells.getD 9 .bad)).toList)).bind fun t1 => (impl_SameBytes.f k t0.1 t0.2 t1.1 t1.2).bind fun t2 => cond t2 (ret false) (j1 x8z x8 x9 x10 x18z x18 x19 (RowKit.wrap64 (x20 + 1)) c1_0 c1_1 c1_2 c1_3 c1_4 c1_5z c1_5 c4_0 c4_1 c4_2 c4_3z c4_3 c4_4z c4_4 c4_5 c4_6 c4_7z c4_7 c4_8z c4_8 c4_9z c4_9)) (none)) (none)) (j0 x8z x8 x9 (RowKit.wrap64 (x10 + 1)) c1_0 c1_1 c1_2 c1_3 c1_4 c1_5z c1_5)
mutual
def impl_ForestOk.l0 : Nat → Bool → (List T) → Int → Int → Int → Int → Int → Int → Int → Bool → (List T) → Option Bool
  | 0, _, _, _, _, _, _, _, _, _, _, _ => none
  | k + 1, x8z, x8, x9, x10, c1_0, c1_1, c1_2, c1_3, c1_4, c1_5z, c1_5 => impl_ForestOk.l0b some (impl_ForestOk.l0 k) (impl_ForestOk.l1 k) k x8z x8 x9 x10 c1_0 c1_1 c1_2 c1_3 c1_4 c1_5z c1_5
def impl_ForestOk.l1 : Nat → Bool → (List T) → Int → Int → Bool → (List T) → Int → Int → Int → Int → Int → Int → Int → Bool → (List T) → Int → Int → Int → Bool → (List Int) → Bool → (List Int) → Int → Int → Bool → (List Int) → Bool → (List Int) → Bool → (List T) → Option Bool
  | 0, _, _, _, _, _, _, _, _, _, _, _, _, _, _, _, _, _, _, _, _, _, _, _, _, _, _, _, _, _, _ => none
  | k + 1, x8z, x8, x9, x10, x18z, x18, x19, x20, c1_0, c1_1, c1_2, c1_3, c1_4, c1_5z, c1_5, c4_0, c4_1, c4_2, c4_3z, c4_3, c4_4z, c4_4, c4_5, c4_6, c4_7z, c4_7, c4_8z, c4_8, c4_9z, c4_9 => impl_ForestOk.l1b some (impl_ForestOk.l0 k) (impl_ForestOk.l1 k) k x8z x8 x9 x10 x18z x18 x19 x20 c1_0 c1_1 c1_2 c1_3 c1_4 c1_5z c1_5 c4_0 c4_1 c4_2 c4_3z c4_3 c4_4z c4_4 c4_5 c4_6 c4_7z c4_7 c4_8z c4_8 c4_9z c4_9
end
def impl_ForestOk.f : Nat → Int → Int → Int → Int → Int → Bool → (List T) → Option Bool
  | 0, _, _, _, _, _, _, _ => none
  | k + 1, a0_0, a0_1, a0_2, a0_3, a0_4, a0_5z, a0_5 => impl_ForestOk.b some (impl_ForestOk.l0 k) (impl_ForestOk.l1 k) k a0_0 a0_1 a0_2 a0_3 a0_4 a0_5z a0_5
def impl_ForestOk.enc (r : Bool) : Res := ⟨[.vals false [((.bool r), true)]], []⟩
def impl_ForestOk.ans (k : Nat) : List Arg → Ans
  | [.v (.agg [(.int .i64 a0_0), (.int .i64 a0_1), (.int .i64 a0_2), (.int .i64 a0_3), (.int .i64 a0_4), (.sl 124 a0_5z a0_5)])] => ⟨impl_ForestOk.f k a0_0 a0_1 a0_2 a0_3 a0_4 a0_5z a0_5, impl_ForestOk.enc⟩
  | _ => Ans.no
def impl_ForestOk.Cs (k : Nat) : CallSem := tab [(86, impl_LimitsOk.ans k), (78, impl_areHeads.ans k), (84, impl_SameBytes.ans k), (85, impl_HeadHash.ans k)]
def impl_ForestOk.cuts : List (Nat × Keep) := [(26, ⟨[(1, some []), (8, some []), (9, some []), (10, some [])], [(1, [some [], some [], some [], some [], some [], some []])]⟩), (6758, ⟨[(1, some []), (4, some []), (8, some []), (9, some []), (10, some []), (18, some []), (19, some []), (20, some [])], [(1, [some [], some [], some [], some [], some [], some []]), (4, [some [], some [], some [], some [], some [], some [], some [], some [], some [], some []])]⟩)]
noncomputable def impl_ForestOk.K0 : List Fr := framesAt [true, false, true, false] (bodyOf Try.f23 impl_ForestOk.cuts) []
def impl_ForestOk.N0 (x8z : Bool) (x8 : List T) (x9 : Int) (x10 : Int) (c1_0 : Int) (c1_1 : Int) (c1_2 : Int) (c1_3 : Int) (c1_4 : Int) (c1_5z : Bool) (c1_5 : List T) : St := stOf 51 51 1 [(1, .bp 1 0), (8, .val ⟨(.sl 124 x8z x8), [], false, none⟩), (9, .val (V.s (.int .i64 x9))), (10, .val (V.s (.int .i64 x10)))] [(1, .cells [V.s (.int .i64 c1_0), V.s (.int .i64 c1_1), V.s (.int .i64 c1_2), V.s (.int .i64 c1_3), V.s (.int .i64 c1_4), ⟨(.sl 124 c1_5z c1_5), [], false, none⟩])]
noncomputable def impl_ForestOk.K1 : List Fr := framesAt [true, false, true, false, false, true, true, false, false, true, true, false] (bodyOf Try.f23 impl_ForestOk.cuts) []
def impl_ForestOk.N1 (x8z : Bool) (x8 : List T) (x9 : Int) (x10 : Int) (x18z : Bool) (x18 : List T) (x19 : Int) (x20 : Int) (c1_0 : Int) (c1_1 : Int) (c1_2 : Int) (c1_3 : Int) (c1_4 : Int) (c1_5z : Bool) (c1_5 : List T) (c4_0 : Int) (c4_1 : Int) (c4_2 : Int) (c4_3z : Bool) (c4_3 : List Int) (c4_4z : Bool) (c4_4 : List Int) (c4_5 : Int) (c4_6 : Int) (c4_7z : Bool) (c4_7 : List Int) (c4_8z : Bool) (c4_8 : List Int) (c4_9z : Bool) (c4_9 : List T) : St := stOf 51 51 1 [(1, .bp 1 0), (4, .bp 4 0), (8, .val ⟨(.sl 124 x8z x8), [], false, none⟩), (9, .val (V.s (.int .i64 x9))), (10, .val (V.s (.int .i64 x10))), (18, .val ⟨(.sl 124 x18z x18), [], false, none⟩), (19, .val (V.s (.int .i64 x19))), (20, .val (V.s (.int .i64 x20)))] [(1, .cells [V.s (.int .i64 c1_0), V.s (.int .i64 c1_1), V.s (.int .i64 c1_2), V.s (.int .i64 c1_3), V.s (.int .i64 c1_4), ⟨(.sl 124 c1_5z c1_5), [], false, none⟩]), (4, .cells [V.s (.int .i64 c4_0), V.s (.int .i64 c4_1), V.s (.int .i64 c4_2), ⟨(.nums 5 .u8 c4_3z c4_3), [], false, none⟩, ⟨(.nums 5 .u8 c4_4z c4_4), [], false, none⟩, V.s (.int .i64 c4_5), V.s (.int .i64 c4_6), ⟨(.nums 5 .u8 c4_7z c4_7), [], false, none⟩, ⟨(.nums 5 .u8 c4_8z c4_8), [], false, none⟩, ⟨(.sl 45 c4_9z c4_9), [], false, none⟩])]
theorem impl_ForestOk.s (k : Nat) (a0_0 : Int) (a0_1 : Int) (a0_2 : Int) (a0_3 : Int) (a0_4 : Int) (a0_5z : Bool) (a0_5 : List T) : answer Try.prog impl_ForestOk.Cs 100000 impl_ForestOk.cuts [] Try.f23 (k + 1) [.v (.agg [(.int .i64 a0_0), (.int .i64 a0_1), (.int .i64 a0_2), (.int .i64 a0_3), (.int .i64 a0_4), (.sl 124 a0_5z a0_5)])] = impl_ForestOk.b (fun r => some (impl_ForestOk.enc r)) (fun x8z x8 x9 x10 c1_0 c1_1 c1_2 c1_3 c1_4 c1_5z c1_5 => rounds Try.prog impl_ForestOk.Cs (finish Try.prog [] Try.f23 [.v (.agg [(.int .i64 a0_0), (.int .i64 a0_1), (.int .i64 a0_2), (.int .i64 a0_3), (.int .i64 a0_4), (.sl 124 a0_5z a0_5)])]) 100000 k impl_ForestOk.K0 (impl_ForestOk.N0 x8z x8 x9 x10 c1_0 c1_1 c1_2 c1_3 c1_4 c1_5z c1_5)) (fun x8z x8 x9 x10 x18z x18 x19 x20 c1_0 c1_1 c1_2 c1_3 c1_4 c1_5z c1_5 c4_0 c4_1 c4_2 c4_3z c4_3 c4_4z c4_4 c4_5 c4_6 c4_7z c4_7 c4_8z c4_8 c4_9z c4_9 => rounds Try.prog impl_ForestOk.Cs (finish Try.prog [] Try.f23 [.v (.agg [(.int .i64 a0_0), (.int .i64 a0_1), (.int .i64 a0_2), (.int .i64 a0_3), (.int .i64 a0_4), (.sl 124 a0_5z a0_5)])]) 100000 k impl_ForestOk.K1 (impl_ForestOk.N1 x8z x8 x9 x10 x18z x18 x19 x20 c1_0 c1_1 c1_2 c1_3 c1_4 c1_5z c1_5 c4_0 c4_1 c4_2 c4_3z c4_3 c4_4z c4_4 c4_5 c4_6 c4_7z c4_7 c4_8z c4_8 c4_9z c4_9)) k a0_0 a0_1 a0_2 a0_3 a0_4 a0_5z a0_5 := by kernel_rfl
theorem impl_ForestOk.s0 (k : Nat) (G : List Fr → St → Option Res) (a0_0 : Int) (a0_1 : Int) (a0_2 : Int) (a0_3 : Int) (a0_4 : Int) (a0_5z : Bool) (a0_5 : List T) (yx8z : Bool) (yx8 : List T) (yx9 : Int) (yx10 : Int) (yc1_0 : Int) (yc1_1 : Int) (yc1_2 : Int) (yc1_3 : Int) (yc1_4 : Int) (yc1_5z : Bool) (yc1_5 : List T) : resume Try.prog (impl_ForestOk.Cs k) G (finish Try.prog [] Try.f23 [.v (.agg [(.int .i64 a0_0), (.int .i64 a0_1), (.int .i64 a0_2), (.int .i64 a0_3), (.int .i64 a0_4), (.sl 124 a0_5z a0_5)])]) 100000 impl_ForestOk.K0 (impl_ForestOk.N0 yx8z yx8 yx9 yx10 yc1_0 yc1_1 yc1_2 yc1_3 yc1_4 yc1_5z yc1_5) = impl_ForestOk.l0b (fun r => some (impl_ForestOk.enc r)) (fun x8z x8 x9 x10 c1_0 c1_1 c1_2 c1_3 c1_4 c1_5z c1_5 => G impl_ForestOk.K0 (impl_ForestOk.N0 x8z x8 x9 x10 c1_0 c1_1 c1_2 c1_3 c1_4 c1_5z c1_5)) (fun x8z x8 x9 x10 x18z x18 x19 x20 c1_0 c1_1 c1_2 c1_3 c1_4 c1_5z c1_5 c4_0 c4_1 c4_2 c4_3z c4_3 c4_4z c4_4 c4_5 c4_6 c4_7z c4_7 c4_8z c4_8 c4_9z c4_9 => G impl_ForestOk.K1 (impl_ForestOk.N1 x8z x8 x9 x10 x18z x18 x19 x20 c1_0 c1_1 c1_2 c1_3 c1_4 c1_5z c1_5 c4_0 c4_1 c4_2 c4_3z c4_3 c4_4z c4_4 c4_5 c4_6 c4_7z c4_7 c4_8z c4_8 c4_9z c4_9)) k yx8z yx8 yx9 yx10 yc1_0 yc1_1 yc1_2 yc1_3 yc1_4 yc1_5z yc1_5 := by kernel_rfl
theorem impl_ForestOk.s1 (k : Nat) (G : List Fr → St → Option Res) (a0_0 : Int) (a0_1 : Int) (a0_2 : Int) (a0_3 : Int) (a0_4 : Int) (a0_5z : Bool) (a0_5 : List T) (yx8z : Bool) (yx8 : List T) (yx9 : Int) (yx10 : Int) (yx18z : Bool) (yx18 : List T) (yx19 : Int) (yx20 : Int) (yc1_0 : Int) (yc1_1 : Int) (yc1_2 : Int) (yc1_3 : Int) (yc1_4 : Int) (yc1_5z : Bool) (yc1_5 : List T) (yc4_0 : Int) (yc4_1 : Int) (yc4_2 : Int) (yc4_3z : Bool) (yc4_3 : List Int) (yc4_4z : Bool) (yc4_4 : List Int) (yc4_5 : Int) (yc4_6 : Int) (yc4_7z : Bool) (yc4_7 : List Int) (yc4_8z : Bool) (yc4_8 : List Int) (yc4_9z : Bool) (yc4_9 : List T) : resume Try.prog (impl_ForestOk.Cs k) G (finish Try.prog [] Try.f23 [.v (.agg [(.int .i64 a0_0), (.int .i64 a0_1), (.int .i64 a0_2), (.int .i64 a0_3), (.int .i64 a0_4), (.sl 124 a0_5z a0_5)])]) 100000 impl_ForestOk.K1 (impl_ForestOk.N1 yx8z yx8 yx9 yx10 yx18z yx18 yx19 yx20 yc1_0 yc1_1 yc1_2 yc1_3 yc1_4 yc1_5z yc1_5 yc4_0 yc4_1 yc4_2 yc4_3z yc4_3 yc4_4z yc4_4 yc4_5 yc4_6 yc4_7z yc4_7 yc4_8z yc4_8 yc4_9z yc4_9) = impl_ForestOk.l1b (fun r => some (impl_ForestOk.enc r)) (fun x8z x8 x9 x10 c1_0 c1_1 c1_2 c1_3 c1_4 c1_5z c1_5 => G impl_ForestOk.K0 (impl_ForestOk.N0 x8z x8 x9 x10 c1_0 c1_1 c1_2 c1_3 c1_4 c1_5z c1_5)) (fun x8z x8 x9 x10 x18z x18 x19 x20 c1_0 c1_1 c1_2 c1_3 c1_4 c1_5z c1_5 c4_0 c4_1 c4_2 c4_3z c4_3 c4_4z c4_4 c4_5 c4_6 c4_7z c4_7 c4_8z c4_8 c4_9z c4_9 => G impl_ForestOk.K1 (impl_ForestOk.N1 x8z x8 x9 x10 x18z x18 x19 x20 c1_0 c1_1 c1_2 c1_3 c1_4 c1_5z c1_5 c4_0 c4_1 c4_2 c4_3z c4_3 c4_4z c4_4 c4_5 c4_6 c4_7z c4_7 c4_8z c4_8 c4_9z c4_9)) k yx8z yx8 yx9 yx10 yx18z yx18 yx19 yx20 yc1_0 yc1_1 yc1_2 yc1_3 yc1_4 yc1_5z yc1_5 yc4_0 yc4_1 yc4_2 yc4_3z yc4_3 yc4_4z yc4_4 yc4_5 yc4_6 yc4_7z yc4_7 yc4_8z yc4_8 yc4_9z yc4_9 := by kernel_rfl
theorem impl_ForestOk.b_nat {R R' : Type} (e : R → R') (ret : Bool → Option R) (j0 : Bool → (List T) → Int → Int → Int → Int → Int → Int → Int → Bool → (List T) → Option R) (j1 : Bool → (List T) → Int → Int → Bool → (List T) → Int → Int → Int → Int → Int → Int → Int → Bool → (List T) → Int → Int → Int → Bool → (List Int) → Bool → (List Int) → Int → Int → Bool → (List Int) → Bool → (List Int) → Bool → (List T) → Option R) (k : Nat) (a0_0 : Int) (a0_1 : Int) (a0_2 : Int) (a0_3 : Int) (a0_4 : Int) (a0_5z : Bool) (a0_5 : List T) : impl_ForestOk.b (fun r => (ret r).map e) (fun x8z x8 x9 x10 c1_0 c1_1 c1_2 c1_3 c1_4 c1_5z c1_5 => (j0 x8z x8 x9 x10 c1_0 c1_1 c1_2 c1_3 c1_4 c1_5z c1_5).map e) (fun x8z x8 x9 x10 x18z x18 x19 x20 c1_0 c1_1 c1_2 c1_3 c1_4 c1_5z c1_5 c4_0 c4_1 c4_2 c4_3z c4_3 c4_4z c4_4 c4_5 c4_6 c4_7z c4_7 c4_8z c4_8 c4_9z c4_9 => (j1 x8z x8 x9 x10 x18z x18 x19 x20 c1_0 c1_1 c1_2 c1_3 c1_4 c1_5z c1_5 c4_0 c4_1 c4_2 c4_3z c4_3 c4_4z c4_4 c4_5 c4_6 c4_7z c4_7 c4_8z c4_8 c4_9z c4_9).map e) k a0_0 a0_1 a0_2 a0_3 a0_4 a0_5z a0_5 = (impl_ForestOk.b ret j0 j1 k a0_0 a0_1 a0_2 a0_3 a0_4 a0_5z a0_5).map e := by
  unfold impl_ForestOk.b
  repeat' first | with_reducible refine nat_cond ?_ ?_ | with_reducible refine nat_bind fun _ => ?_ | rfl
theorem impl_ForestOk.l0b_nat {R R' : Type} (e : R → R') (ret : Bool → Option R) (j0 : Bool → (List T) → Int → Int → Int → Int → Int → Int → Int → Bool → (List T) → Option R) (j1 : Bool → (List T) → Int → Int → Bool → (List T) → Int → Int → Int → Int → Int → Int → Int → Bool → (List T) → Int → Int → Int → Bool → (List Int) → Bool → (List Int) → Int → Int → Bool → (List Int) → Bool → (List Int) → Bool → (List T) → Option R) (k : Nat) (x8z : Bool) (x8 : List T) (x9 : Int) (x10 : Int) (c1_0 : Int) (c1_1 : Int) (c1_2 : Int) (c1_3 : Int) (c1_4 : Int) (c1_5z : Bool) (c1_5 : List T) : impl_ForestOk.l0b (fun r => (ret r).map e) (fun x8z x8 x9 x10 c1_0 c1_1 c1_2 c1_3 c1_4 c1_5z c1_5 => (j0 x8z x8 x9 x10 c1_0 c1_1 c1_2 c1_3 c1_4 c1_5z c1_5).map e) (fun x8z x8 x9 x10 x18z x18 x19 x20 c1_0 c1_1 c1_2 c1_3 c1_4 c1_5z c1_5 c4_0 c4_1 c4_2 c4_3z c4_3 c4_4z c4_4 c4_5 c4_6 c4_7z c4_7 c4_8z c4_8 c4_9z c4_9 => (j1 x8z x8 x9 x10 x18z x18 x19 x20 c1_0 c1_1 c1_2 c1_3 c1_4 c1_5z c1_5 c4_0 c4_1 c4_2 c4_3z c4_3 c4_4z c4_4 c4_5 c4_6 c4_7z c4_7 c4_8z c4_8 c4_9z c4_9).map e) k x8z x8 x9 x10 c1_0 c1_1 c1_2 c1_3 c1_4 c1_5z c1_5 = (impl_ForestOk.l0b ret j0 j1 k x8z x8 x9 x10 c1_0 c1_1 c1_2 c1_3 c1_4 c1_5z c1_5).map e := by
  unfold impl_ForestOk.l0b
  repeat' first | with_reducible refine nat_cond ?_ ?_ | with_reducible refine nat_bind fun _ => ?_ | rfl
theorem impl_ForestOk.l1b_nat {R R' : Type} (e : R → R') (ret : Bool → Option R) (j0 : Bool → (List T) → Int → Int → Int → Int → Int → Int → Int → Bool → (List T) → Option R) (j1 : Bool → (List T) → Int → Int → Bool → (List T) → Int → Int → Int → Int → Int → Int → Int → Bool → (List T) → Int → Int → Int → Bool → (List Int) → Bool → (List Int) → Int → Int → Bool → (List Int) → Bool → (List Int) → Bool → (List T) → Option R) (k : Nat) (x8z : Bool) (x8 : List T) (x9 : Int) (x10 : Int) (x18z : Bool) (x18 : List T) (x19 : Int) (x20 : Int) (c1_0 : Int) (c1_1 : Int) (c1_2 : Int) (c1_3 : Int) (c1_4 : Int) (c1_5z : Bool) (c1_5 : List T) (c4_0 : Int) (c4_1 : Int) (c4_2 : Int) (c4_3z : Bool) (c4_3 : List Int) (c4_4z : Bool) (c4_4 : List Int) (c4_5 : Int) (c4_6 : Int) (c4_7z : Bool) (c4_7 : List Int) (c4_8z : Bool) (c4_8 : List Int) (c4_9z : Bool) (c4_9 : List T) : impl_ForestOk.l1b (fun r => (ret r).map e) (fun x8z x8 x9 x10 c1_0 c1_1 c1_2 c1_3 c1_4 c1_5z c1_5 => (j0 x8z x8 x9 x10 c1_0 c1_1 c1_2 c1_3 c1_4 c1_5z c1_5).map e) (fun x8z x8 x9 x10 x18z x18 x19 x20 c1_0 c1_1 c1_2 c1_3 c1_4 c1_5z c1_5 c4_0 c4_1 c4_2 c4_3z c4_3 c4_4z c4_4 c4_5 c4_6 c4_7z c4_7 c4_8z c4_8 c4_9z c4_9 => (j1 x8z x8 x9 x10 x18z x18 x19 x20 c1_0 c1_1 c1_2 c1_3 c1_4 c1_5z c1_5 c4_0 c4_1 c4_2 c4_3z c4_3 c4_4z c4_4 c4_5 c4_6 c4_7z c4_7 c4_8z c4_8 c4_9z c4_9).map e) k x8z x8 x9 x10 x18z x18 x19 x20 c1_0 c1_1 c1_2 c1_3 c1_4 c1_5z c1_5 c4_0 c4_1 c4_2 c4_3z c4_3 c4_4z c4_4 c4_5 c4_6 c4_7z c4_7 c4_8z c4_8 c4_9z c4_9 = (impl_ForestOk.l1b ret j0 j1 k x8z x8 x9 x10 x18z x18 x19 x20 c1_0 c1_1 c1_2 c1_3 c1_4 c1_5z c1_5 c4_0 c4_1 c4_2 c4_3z c4_3 c4_4z c4_4 c4_5 c4_6 c4_7z c4_7 c4_8z c4_8 c4_9z c4_9).map e := by
  unfold impl_ForestOk.l1b
  repeat' first | with_reducible refine nat_cond ?_ ?_ | with_reducible refine nat_bind fun _ => ?_ | rfl
theorem impl_ForestOk.rounds_eq (a0_0 : Int) (a0_1 : Int) (a0_2 : Int) (a0_3 : Int) (a0_4 : Int) (a0_5z : Bool) (a0_5 : List T) : ∀ k, (∀ (x8z : Bool) (x8 : List T) (x9 : Int) (x10 : Int) (c1_0 : Int) (c1_1 : Int) (c1_2 : Int) (c1_3 : Int) (c1_4 : Int) (c1_5z : Bool) (c1_5 : List T), rounds Try.prog impl_ForestOk.Cs (finish Try.prog [] Try.f23 [.v (.agg [(.int .i64 a0_0), (.int .i64 a0_1), (.int .i64 a0_2), (.int .i64 a0_3), (.int .i64 a0_4), (.sl 124 a0_5z a0_5)])]) 100000 k impl_ForestOk.K0 (impl_ForestOk.N0 x8z x8 x9 x10 c1_0 c1_1 c1_2 c1_3 c1_4 c1_5z c1_5) = (impl_ForestOk.l0 k x8z x8 x9 x10 c1_0 c1_1 c1_2 c1_3 c1_4 c1_5z c1_5).map impl_ForestOk.enc) ∧ (∀ (x8z : Bool) (x8 : List T) (x9 : Int) (x10 : Int) (x18z : Bool) (x18 : List T) (x19 : Int) (x20 : Int) (c1_0 : Int) (c1_1 : Int) (c1_2 : Int) (c1_3 : Int) (c1_4 : Int) (c1_5z : Bool) (c1_5 : List T) (c4_0 : Int) (c4_1 : Int) (c4_2 : Int) (c4_3z : Bool) (c4_3 : List Int) (c4_4z : Bool) (c4_4 : List Int) (c4_5 : Int) (c4_6 : Int) (c4_7z : Bool) (c4_7 : List Int) (c4_8z : Bool) (c4_8 : List Int) (c4_9z : Bool) (c4_9 : List T), rounds Try.prog impl_ForestOk.Cs (finish Try.prog [] Try.f23 [.v (.agg [(.int .i64 a0_0), (.int .i64 a0_1), (.int .i64 a0_2), (.int .i64 a0_3), (.int .i64 a0_4), (.sl 124 a0_5z a0_5)])]) 100000 k impl_ForestOk.K1 (impl_ForestOk.N1 x8z x8 x9 x10 x18z x18 x19 x20 c1_0 c1_1 c1_2 c1_3 c1_4 c1_5z c1_5 c4_0 c4_1 c4_2 c4_3z c4_3 c4_4z c4_4 c4_5 c4_6 c4_7z c4_7 c4_8z c4_8 c4_9z c4_9) = (impl_ForestOk.l1 k x8z x8 x9 x10 x18z x18 x19 x20 c1_0 c1_1 c1_2 c1_3 c1_4 c1_5z c1_5 c4_0 c4_1 c4_2 c4_3z c4_3 c4_4z c4_4 c4_5 c4_6 c4_7z c4_7 c4_8z c4_8 c4_9z c4_9).map impl_ForestOk.enc)
  | 0 => ⟨fun _ _ _ _ _ _ _ _ _ _ _ => rfl, fun _ _ _ _ _ _ _ _ _ _ _ _ _ _ _ _ _ _ _ _ _ _ _ _ _ _ _ _ _ _ => rfl⟩
  | k + 1 => by
    have ih := impl_ForestOk.rounds_eq a0_0 a0_1 a0_2 a0_3 a0_4 a0_5z a0_5 k
    refine ⟨fun _ _ _ _ _ _ _ _ _ _ _ => ?_, fun _ _ _ _ _ _ _ _ _ _ _ _ _ _ _ _ _ _ _ _ _ _ _ _ _ _ _ _ _ _ => ?_⟩
    · refine (impl_ForestOk.s0 k _ a0_0 a0_1 a0_2 a0_3 a0_4 a0_5z a0_5 _ _ _ _ _ _ _ _ _ _ _).trans (Eq.trans ?_ (impl_ForestOk.l0b_nat impl_ForestOk.enc some (impl_ForestOk.l0 k) (impl_ForestOk.l1 k) k _ _ _ _ _ _ _ _ _ _ _))
      simp only [ih.1, ih.2, Option.map_some]
    · refine (impl_ForestOk.s1 k _ a0_0 a0_1 a0_2 a0_3 a0_4 a0_5z a0_5 _ _ _ _ _ _ _ _ _ _ _ _ _ _ _ _ _ _ _ _ _ _ _ _ _ _ _ _ _ _).trans (Eq.trans ?_ (impl_ForestOk.l1b_nat impl_ForestOk.enc some (impl_ForestOk.l0 k) (impl_ForestOk.l1 k) k _ _ _ _ _ _ _ _ _ _ _ _ _ _ _ _ _ _ _ _ _ _ _ _ _ _ _ _ _ _))
      simp only [ih.1, ih.2, Option.map_some]
theorem impl_ForestOk.eq (k : Nat) (a0_0 : Int) (a0_1 : Int) (a0_2 : Int) (a0_3 : Int) (a0_4 : Int) (a0_5z : Bool) (a0_5 : List T) : answer Try.prog impl_ForestOk.Cs 100000 impl_ForestOk.cuts [] Try.f23 (k + 1) [.v (.agg [(.int .i64 a0_0), (.int .i64 a0_1), (.int .i64 a0_2), (.int .i64 a0_3), (.int .i64 a0_4), (.sl 124 a0_5z a0_5)])] = (impl_ForestOk.f (k + 1) a0_0 a0_1 a0_2 a0_3 a0_4 a0_5z a0_5).map impl_ForestOk.enc := by
  have ih := impl_ForestOk.rounds_eq a0_0 a0_1 a0_2 a0_3 a0_4 a0_5z a0_5 k
  refine (impl_ForestOk.s k a0_0 a0_1 a0_2 a0_3 a0_4 a0_5z a0_5).trans (Eq.trans ?_ (impl_ForestOk.b_nat impl_ForestOk.enc some (impl_ForestOk.l0 k) (impl_ForestOk.l1 k) k a0_0 a0_1 a0_2 a0_3 a0_4 a0_5z a0_5))
  simp only [ih.1, ih.2, Option.map_some]
theorem impl_ForestOk.sound (k : Nat) : SoundF Try.prog 23 (fun a => (impl_ForestOk.ans k a).val) := by
  refine sound_plain (fun args res h => ?_) (fun t n => rfl)
  unfold impl_ForestOk.ans at h
  dsimp only at h
  split at h
  · cases k with
    | zero => cases h
    | succ k =>
      unfold Ans.val at h
      rw [← impl_ForestOk.eq] at h
      exact answer_sound mixed Try.func23 _ _ _ (k + 1) (fun j _ => tab_sound (tab_cons (impl_LimitsOk.sound j) (tab_cons (impl_areHeads.sound j) (tab_cons (impl_SameBytes.sound j) (tab_cons (impl_HeadHash.sound j) (tab_nil)))))) _ _ h
  · exact (Ans.no_val h).elim

/-! loop.example/g00790/laws.eqLimits -/
def laws_eqLimits.b {R : Type} (ret : Bool → Option R) (k : Nat) (a0_0 : Int) (a0_1 : Int) (a0_2 : Int) (a0_3 : Int) (a0_4 : Int) (a1_0 : Int) (a1_1 : Int) (a1_2 : Int) (a1_3 : Int) (a1_4 : Int) : Option R :=
  cond (!(decide (a0_0 = a1_0))) (ret false) (cond (!(decide (a0_1 = a1_1))) (ret false) (cond (!(decide (a0_2 = a1_2))) (ret false) (cond (!(decide (a0_3 = a1_3))) (ret false) (cond (!(decide (a0_4 = a1_4))) (ret false) (ret true)))))
def laws_eqLimits.f : Nat → Int → Int → Int → Int → Int → Int → Int → Int → Int → Int → Option Bool
  | 0, _, _, _, _, _, _, _, _, _, _ => none
  | k + 1, a0_0, a0_1, a0_2, a0_3, a0_4, a1_0, a1_1, a1_2, a1_3, a1_4 => laws_eqLimits.b some k a0_0 a0_1 a0_2 a0_3 a0_4 a1_0 a1_1 a1_2 a1_3 a1_4
def laws_eqLimits.enc (r : Bool) : Res := ⟨[.vals false [((.bool r), true)]], []⟩
def laws_eqLimits.ans (k : Nat) : List Arg → Ans
  | [.v (.agg [(.int .i64 a0_0), (.int .i64 a0_1), (.int .i64 a0_2), (.int .i64 a0_3), (.int .i64 a0_4)]), .v (.agg [(.int .i64 a1_0), (.int .i64 a1_1), (.int .i64 a1_2), (.int .i64 a1_3), (.int .i64 a1_4)])] => ⟨laws_eqLimits.f k a0_0 a0_1 a0_2 a0_3 a0_4 a1_0 a1_1 a1_2 a1_3 a1_4, laws_eqLimits.enc⟩
  | _ => Ans.no
def laws_eqLimits.Cs (k : Nat) : CallSem := tab []
def laws_eqLimits.cuts : List (Nat × Keep) := []
theorem laws_eqLimits.s (k : Nat) (a0_0 : Int) (a0_1 : Int) (a0_2 : Int) (a0_3 : Int) (a0_4 : Int) (a1_0 : Int) (a1_1 : Int) (a1_2 : Int) (a1_3 : Int) (a1_4 : Int) : answer Try.prog laws_eqLimits.Cs 100000 laws_eqLimits.cuts [] Try.f87 (k + 1) [.v (.agg [(.int .i64 a0_0), (.int .i64 a0_1), (.int .i64 a0_2), (.int .i64 a0_3), (.int .i64 a0_4)]), .v (.agg [(.int .i64 a1_0), (.int .i64 a1_1), (.int .i64 a1_2), (.int .i64 a1_3), (.int .i64 a1_4)])] = laws_eqLimits.b (fun r => some (laws_eqLimits.enc r)) k a0_0 a0_1 a0_2 a0_3 a0_4 a1_0 a1_1 a1_2 a1_3 a1_4 := by kernel_rfl
theorem laws_eqLimits.b_nat {R R' : Type} (e : R → R') (ret : Bool → Option R) (k : Nat) (a0_0 : Int) (a0_1 : Int) (a0_2 : Int) (a0_3 : Int) (a0_4 : Int) (a1_0 : Int) (a1_1 : Int) (a1_2 : Int) (a1_3 : Int) (a1_4 : Int) : laws_eqLimits.b (fun r => (ret r).map e) k a0_0 a0_1 a0_2 a0_3 a0_4 a1_0 a1_1 a1_2 a1_3 a1_4 = (laws_eqLimits.b ret k a0_0 a0_1 a0_2 a0_3 a0_4 a1_0 a1_1 a1_2 a1_3 a1_4).map e := by
  unfold laws_eqLimits.b
  repeat' first | with_reducible refine nat_cond ?_ ?_ | with_reducible refine nat_bind fun _ => ?_ | rfl
theorem laws_eqLimits.eq (k : Nat) (a0_0 : Int) (a0_1 : Int) (a0_2 : Int) (a0_3 : Int) (a0_4 : Int) (a1_0 : Int) (a1_1 : Int) (a1_2 : Int) (a1_3 : Int) (a1_4 : Int) : answer Try.prog laws_eqLimits.Cs 100000 laws_eqLimits.cuts [] Try.f87 (k + 1) [.v (.agg [(.int .i64 a0_0), (.int .i64 a0_1), (.int .i64 a0_2), (.int .i64 a0_3), (.int .i64 a0_4)]), .v (.agg [(.int .i64 a1_0), (.int .i64 a1_1), (.int .i64 a1_2), (.int .i64 a1_3), (.int .i64 a1_4)])] = (laws_eqLimits.f (k + 1) a0_0 a0_1 a0_2 a0_3 a0_4 a1_0 a1_1 a1_2 a1_3 a1_4).map laws_eqLimits.enc := by
  refine (laws_eqLimits.s k a0_0 a0_1 a0_2 a0_3 a0_4 a1_0 a1_1 a1_2 a1_3 a1_4).trans (Eq.trans ?_ (laws_eqLimits.b_nat laws_eqLimits.enc some k a0_0 a0_1 a0_2 a0_3 a0_4 a1_0 a1_1 a1_2 a1_3 a1_4))
  simp only [Option.map_some]
theorem laws_eqLimits.sound (k : Nat) : SoundF Try.prog 87 (fun a => (laws_eqLimits.ans k a).val) := by
  refine sound_plain (fun args res h => ?_) (fun t n => rfl)
  unfold laws_eqLimits.ans at h
  dsimp only at h
  split at h
  · cases k with
    | zero => cases h
    | succ k =>
      unfold Ans.val at h
      rw [← laws_eqLimits.eq] at h
      exact answer_sound mixed Try.func87 _ _ _ (k + 1) (fun j _ => tab_sound (tab_nil)) _ _ h
  · exact (Ans.no_val h).elim

/-! loop.example/g00790/laws.eqByteS -/
def laws_eqByteS.b {R : Type} (ret : Bool → Option R) (j0 : Bool → (List Int) → Bool → (List Int) → Int → Option R) (k : Nat) (a0z : Bool) (a0 : List Int) (a1z : Bool) (a1 : List Int) : Option R :=
  cond (!(decide (((a0).length : Int) = ((a1).length : Int)))) (ret false) (j0 a0z a0 a1z a1 0)
def laws_eqByteS.l0b {R : Type} (ret : Bool → Option R) (j0 : Bool → (List Int) → Bool → (List Int) → Int → Option R) (k : Nat) (x0z : Bool) (x0 : List Int) (x1z : Bool) (x1 : List Int) (x5 : Int) : Option R :=
  cond (decide (x5 < ((x0).length : Int))) (cond (decide ((0 : Int) ≤ x5)) (cond (decide (x5 < ((x0).length : Int))) (cond (decide ((0 : Int) ≤ x5)) (cond (decide (x5 < ((x1).length : Int))) (cond (!(decide ((rdI x0 x5) = (rdI x1 x5)))) (ret false) (j0 x0z x0 x1z x1 (RowKit.wrap64 (x5 + 1)))) (none)) (none)) (none)) (none)) (ret true)
def laws_eqByteS.l0 : Nat → Bool → (List Int) → Bool → (List Int) → Int → Option Bool
  | 0, _, _, _, _, _ => none
  | k + 1, x0z, x0, x1z, x1, x5 => laws_eqByteS.l0b some (laws_eqByteS.l0 k) k x0z x0 x1z x1 x5
def laws_eqByteS.f : Nat → Bool → (List Int) → Bool → (List Int) → Option Bool
  | 0, _, _, _, _ => none
  | k + 1, a0z, a0, a1z, a1 => laws_eqByteS.b some (laws_eqByteS.l0 k) k a0z a0 a1z a1
def laws_eqByteS.enc (r : Bool) : Res := ⟨[.vals false [((.bool r), true)]], []⟩
def laws_eqByteS.ans (k : Nat) : List Arg → Ans
  | [.v (.nums 5 .u8 a0z a0), .v (.nums 5 .u8 a1z a1)] => ⟨laws_eqByteS.f k a0z a0 a1z a1, laws_eqByteS.enc⟩
  | _ => Ans.no
def laws_eqByteS.Cs (k : Nat) : CallSem := tab []
def laws_eqByteS.cuts : List (Nat × Keep) := [(58, ⟨[(0, some []), (1, some []), (5, some [])], []⟩)]
noncomputable def laws_eqByteS.K0 : List Fr := framesAt [true, true, false, true, false] (bodyOf Try.f53 laws_eqByteS.cuts) []
def laws_eqByteS.N0 (x0z : Bool) (x0 : List Int) (x1z : Bool) (x1 : List Int) (x5 : Int) : St := stOf 26 26 2 [(0, .val ⟨(.nums 5 .u8 x0z x0), [], false, none⟩), (1, .val ⟨(.nums 5 .u8 x1z x1), [], false, none⟩), (5, .val (V.s (.int .i64 x5)))] []
theorem laws_eqByteS.s (k : Nat) (a0z : Bool) (a0 : List Int) (a1z : Bool) (a1 : List Int) : answer Try.prog laws_eqByteS.Cs 100000 laws_eqByteS.cuts [] Try.f53 (k + 1) [.v (.nums 5 .u8 a0z a0), .v (.nums 5 .u8 a1z a1)] = laws_eqByteS.b (fun r => some (laws_eqByteS.enc r)) (fun x0z x0 x1z x1 x5 => rounds Try.prog laws_eqByteS.Cs (finish Try.prog [] Try.f53 [.v (.nums 5 .u8 a0z a0), .v (.nums 5 .u8 a1z a1)]) 100000 k laws_eqByteS.K0 (laws_eqByteS.N0 x0z x0 x1z x1 x5)) k a0z a0 a1z a1 := by kernel_rfl
theorem laws_eqByteS.s0 (k : Nat) (G : List Fr → St → Option Res) (a0z : Bool) (a0 : List Int) (a1z : Bool) (a1 : List Int) (yx0z : Bool) (yx0 : List Int) (yx1z : Bool) (yx1 : List Int) (yx5 : Int) : resume Try.prog (laws_eqByteS.Cs k) G (finish Try.prog [] Try.f53 [.v (.nums 5 .u8 a0z a0), .v (.nums 5 .u8 a1z a1)]) 100000 laws_eqByteS.K0 (laws_eqByteS.N0 yx0z yx0 yx1z yx1 yx5) = laws_eqByteS.l0b (fun r => some (laws_eqByteS.enc r)) (fun x0z x0 x1z x1 x5 => G laws_eqByteS.K0 (laws_eqByteS.N0 x0z x0 x1z x1 x5)) k yx0z yx0 yx1z yx1 yx5 := by kernel_rfl
theorem laws_eqByteS.b_nat {R R' : Type} (e : R → R') (ret : Bool → Option R) (j0 : Bool → (List Int) → Bool → (List Int) → Int → Option R) (k : Nat) (a0z : Bool) (a0 : List Int) (a1z : Bool) (a1 : List Int) : laws_eqByteS.b (fun r => (ret r).map e) (fun x0z x0 x1z x1 x5 => (j0 x0z x0 x1z x1 x5).map e) k a0z a0 a1z a1 = (laws_eqByteS.b ret j0 k a0z a0 a1z a1).map e := by
  unfold laws_eqByteS.b
  repeat' first | with_reducible refine nat_cond ?_ ?_ | with_reducible refine nat_bind fun _ => ?_ | rfl
theorem laws_eqByteS.l0b_nat {R R' : Type} (e : R → R') (ret : Bool → Option R) (j0 : Bool → (List Int) → Bool → (List Int) → Int → Option R) (k : Nat) (x0z : Bool) (x0 : List Int) (x1z : Bool) (x1 : List Int) (x5 : Int) : laws_eqByteS.l0b (fun r => (ret r).map e) (fun x0z x0 x1z x1 x5 => (j0 x0z x0 x1z x1 x5).map e) k x0z x0 x1z x1 x5 = (laws_eqByteS.l0b ret j0 k x0z x0 x1z x1 x5).map e := by
  unfold laws_eqByteS.l0b
  repeat' first | with_reducible refine nat_cond ?_ ?_ | with_reducible refine nat_bind fun _ => ?_ | rfl
theorem laws_eqByteS.rounds_eq (a0z : Bool) (a0 : List Int) (a1z : Bool) (a1 : List Int) : ∀ k, (∀ (x0z : Bool) (x0 : List Int) (x1z : Bool) (x1 : List Int) (x5 : Int), rounds Try.prog laws_eqByteS.Cs (finish Try.prog [] Try.f53 [.v (.nums 5 .u8 a0z a0), .v (.nums 5 .u8 a1z a1)]) 100000 k laws_eqByteS.K0 (laws_eqByteS.N0 x0z x0 x1z x1 x5) = (laws_eqByteS.l0 k x0z x0 x1z x1 x5).map laws_eqByteS.enc)
  | 0 => fun _ _ _ _ _ => rfl
  | k + 1 => by
    have ih := laws_eqByteS.rounds_eq a0z a0 a1z a1 k
    refine fun _ _ _ _ _ => ?_
    · refine (laws_eqByteS.s0 k _ a0z a0 a1z a1 _ _ _ _ _).trans (Eq.trans ?_ (laws_eqByteS.l0b_nat laws_eqByteS.enc some (laws_eqByteS.l0 k) k _ _ _ _ _))
      simp only [ih, Option.map_some]
theorem laws_eqByteS.eq (k : Nat) (a0z : Bool) (a0 : List Int) (a1z : Bool) (a1 : List Int) : answer Try.prog laws_eqByteS.Cs 100000 laws_eqByteS.cuts [] Try.f53 (k + 1) [.v (.nums 5 .u8 a0z a0), .v (.nums 5 .u8 a1z a1)] = (laws_eqByteS.f (k + 1) a0z a0 a1z a1).map laws_eqByteS.enc := by
  have ih := laws_eqByteS.rounds_eq a0z a0 a1z a1 k
  refine (laws_eqByteS.s k a0z a0 a1z a1).trans (Eq.trans ?_ (laws_eqByteS.b_nat laws_eqByteS.enc some (laws_eqByteS.l0 k) k a0z a0 a1z a1))
  simp only [ih, Option.map_some]
theorem laws_eqByteS.sound (k : Nat) : SoundF Try.prog 53 (fun a => (laws_eqByteS.ans k a).val) := by
  refine sound_plain (fun args res h => ?_) (fun t n => rfl)
  unfold laws_eqByteS.ans at h
  dsimp only at h
  split at h
  · cases k with
    | zero => cases h
    | succ k =>
      unfold Ans.val at h
      rw [← laws_eqByteS.eq] at h
      exact answer_sound mixed Try.func53 _ _ _ (k + 1) (fun j _ => tab_sound (tab_nil)) _ _ h
  · exact (Ans.no_val h).elim

/-! loop.example/g00790/laws.eqByteSS -/
def laws_eqByteSS.b {R : Type} (ret : Bool → Option R) (j0 : Bool → (List T) → Bool → (List T) → Int → Option R) (k : Nat) (a0z : Bool) (a0 : List T) (a1z : Bool) (a1 : List T) : Option R :=
  cond (!(decide (((a0).length : Int) = ((a1).length : Int)))) (ret false) (j0 a0z a0 a1z a1 0)
def laws_eqByteSS.l0b {R : Type} (ret : Bool → Option R) (j0 : Bool → (List T) → Bool → (List T) → Int → Option R) (k : Nat) (x0z : Bool) (x0 : List T) (x1z : Bool) (x1 : List T) (x5 : Int) : Option R :=
  cond (decide (x5 < ((x0).length : Int))) (cond (decide ((0 : Int) ≤ x5)) (cond (decide (x5 < ((x0).length : Int))) (cond (decide ((0 : Int) ≤ x5)) (cond (decide (x5 < ((x1).length : Int))) ((laws_eqByteS.f k (((((x0).getD (x5).toNat .bad).cells.getD 0 .bad)).isNil) (((((x0).getD (x5).toNat .bad).cells.getD 0 .bad)).toNums) (((((x1).getD (x5).toNat .bad).cells.getD 0 .bad)).isNil) (((((x1).getD (x5).toNat .bad).cells.getD 0 .bad)).toNums)).bind fun t0 => cond (!t0) (ret false) (j0 x0z x0 x1z x1 (RowKit.wrap64 (x5 + 1)))) (none)) (none)) (none)) (none)) (ret true)
def laws_eqByteSS.l0 : Nat → Bool → (List T) → Bool → (List T) → Int → Option Bool
  | 0, _, _, _, _, _ => none
  | k + 1, x0z, x0, x1z, x1, x5 => laws_eqByteSS.l0b some (laws_eqByteSS.l0 k) k x0z x0 x1z x1 x5
def laws_eqByteSS.f : Nat → Bool → (List T) → Bool → (List T) → Option Bool
  | 0, _, _, _, _ => none
  | k + 1, a0z, a0, a1z, a1 => laws_eqByteSS.b some (laws_eqByteSS.l0 k) k a0z a0 a1z a1
def laws_eqByteSS.enc (r : Bool) : Res := ⟨[.vals false [((.bool r), true)]], []⟩
def laws_eqByteSS.ans (k : Nat) : List Arg → Ans
  | [.v (.sl 45 a0z a0), .v (.sl 45 a1z a1)] => ⟨laws_eqByteSS.f k a0z a0 a1z a1, laws_eqByteSS.enc⟩
  | _ => Ans.no
def laws_eqByteSS.Cs (k : Nat) : CallSem := tab [(53, laws_eqByteS.ans k)]
def laws_eqByteSS.cuts : List (Nat × Keep) := [(58, ⟨[(0, some []), (1, some []), (5, some [])], []⟩)]
noncomputable def laws_eqByteSS.K0 : List Fr := framesAt [true, true, false, true, false] (bodyOf Try.f110 laws_eqByteSS.cuts) []
def laws_eqByteSS.N0 (x0z : Bool) (x0 : List T) (x1z : Bool) (x1 : List T) (x5 : Int) : St := stOf 27 27 2 [(0, .val ⟨(.sl 45 x0z x0), [], false, none⟩), (1, .val ⟨(.sl 45 x1z x1), [], false, none⟩), (5, .val (V.s (.int .i64 x5)))] []
theorem laws_eqByteSS.s (k : Nat) (a0z : Bool) (a0 : List T) (a1z : Bool) (a1 : List T) : answer Try.prog laws_eqByteSS.Cs 100000 laws_eqByteSS.cuts [] Try.f110 (k + 1) [.v (.sl 45 a0z a0), .v (.sl 45 a1z a1)] = laws_eqByteSS.b (fun r => some (laws_eqByteSS.enc r)) (fun x0z x0 x1z x1 x5 => rounds Try.prog laws_eqByteSS.Cs (finish Try.prog [] Try.f110 [.v (.sl 45 a0z a0), .v (.sl 45 a1z a1)]) 100000 k laws_eqByteSS.K0 (laws_eqByteSS.N0 x0z x0 x1z x1 x5)) k a0z a0 a1z a1 := by kernel_rfl
theorem laws_eqByteSS.s0 (k : Nat) (G : List Fr → St → Option Res) (a0z : Bool) (a0 : List T) (a1z : Bool) (a1 : List T) (yx0z : Bool) (yx0 : List T) (yx1z : Bool) (yx1 : List T) (yx5 : Int) : resume Try.prog (laws_eqByteSS.Cs k) G (finish Try.prog [] Try.f110 [.v (.sl 45 a0z a0), .v (.sl 45 a1z a1)]) 100000 laws_eqByteSS.K0 (laws_eqByteSS.N0 yx0z yx0 yx1z yx1 yx5) = laws_eqByteSS.l0b (fun r => some (laws_eqByteSS.enc r)) (fun x0z x0 x1z x1 x5 => G laws_eqByteSS.K0 (laws_eqByteSS.N0 x0z x0 x1z x1 x5)) k yx0z yx0 yx1z yx1 yx5 := by kernel_rfl
theorem laws_eqByteSS.b_nat {R R' : Type} (e : R → R') (ret : Bool → Option R) (j0 : Bool → (List T) → Bool → (List T) → Int → Option R) (k : Nat) (a0z : Bool) (a0 : List T) (a1z : Bool) (a1 : List T) : laws_eqByteSS.b (fun r => (ret r).map e) (fun x0z x0 x1z x1 x5 => (j0 x0z x0 x1z x1 x5).map e) k a0z a0 a1z a1 = (laws_eqByteSS.b ret j0 k a0z a0 a1z a1).map e := by
  unfold laws_eqByteSS.b
  repeat' first | with_reducible refine nat_cond ?_ ?_ | with_reducible refine nat_bind fun _ => ?_ | rfl
theorem laws_eqByteSS.l0b_nat {R R' : Type} (e : R → R') (ret : Bool → Option R) (j0 : Bool → (List T) → Bool → (List T) → Int → Option R) (k : Nat) (x0z : Bool) (x0 : List T) (x1z : Bool) (x1 : List T) (x5 : Int) : laws_eqByteSS.l0b (fun r => (ret r).map e) (fun x0z x0 x1z x1 x5 => (j0 x0z x0 x1z x1 x5).map e) k x0z x0 x1z x1 x5 = (laws_eqByteSS.l0b ret j0 k x0z x0 x1z x1 x5).map e := by
  unfold laws_eqByteSS.l0b
  repeat' first | with_reducible refine nat_cond ?_ ?_ | with_reducible refine nat_bind fun _ => ?_ | rfl
theorem laws_eqByteSS.rounds_eq (a0z : Bool) (a0 : List T) (a1z : Bool) (a1 : List T) : ∀ k, (∀ (x0z : Bool) (x0 : List T) (x1z : Bool) (x1 : List T) (x5 : Int), rounds Try.prog laws_eqByteSS.Cs (finish Try.prog [] Try.f110 [.v (.sl 45 a0z a0), .v (.sl 45 a1z a1)]) 100000 k laws_eqByteSS.K0 (laws_eqByteSS.N0 x0z x0 x1z x1 x5) = (laws_eqByteSS.l0 k x0z x0 x1z x1 x5).map laws_eqByteSS.enc)
  | 0 => fun _ _ _ _ _ => rfl
  | k + 1 => by
    have ih := laws_eqByteSS.rounds_eq a0z a0 a1z a1 k
    refine fun _ _ _ _ _ => ?_
    · refine (laws_eqByteSS.s0 k _ a0z a0 a1z a1 _ _ _ _ _).trans (Eq.trans ?_ (laws_eqByteSS.l0b_nat laws_eqByteSS.enc some (laws_eqByteSS.l0 k) k _ _ _ _ _))
      simp only [ih, Option.map_some]
theorem laws_eqByteSS.eq (k : Nat) (a0z : Bool) (a0 : List T) (a1z : Bool) (a1 : List T) : answer Try.prog laws_eqByteSS.Cs 100000 laws_eqByteSS.cuts [] Try.f110 (k + 1) [.v (.sl 45 a0z a0), .v (.sl 45 a1z a1)] = (laws_eqByteSS.f (k + 1) a0z a0 a1z a1).map laws_eqByteSS.enc := by
  have ih := laws_eqByteSS.rounds_eq a0z a0 a1z a1 k
  refine (laws_eqByteSS.s k a0z a0 a1z a1).trans (Eq.trans ?_ (laws_eqByteSS.b_nat laws_eqByteSS.enc some (laws_eqByteSS.l0 k) k a0z a0 a1z a1))
  simp only [ih, Option.map_some]
theorem laws_eqByteSS.sound (k : Nat) : SoundF Try.prog 110 (fun a => (laws_eqByteSS.ans k a).val) := by
  refine sound_plain (fun args res h => ?_) (fun t n => rfl)
  unfold laws_eqByteSS.ans at h
  dsimp only at h
  split at h
  · cases k with
    | zero => cases h
    | succ k =>
      unfold Ans.val at h
      rw [← laws_eqByteSS.eq] at h
      exact answer_sound mixed Try.func110 _ _ _ (k + 1) (fun j _ => tab_sound (tab_cons (laws_eqByteS.sound j) (tab_nil))) _ _ h
  · exact (Ans.no_val h).elim

/-! loop.example/g00790/laws.eqQc -/
def laws_eqQc.b {R : Type} (ret : Bool → Option R) (k : Nat) (a0_0 : Int) (a0_1 : Int) (a0_2z : Bool) (a0_2 : List Int) (a0_3z : Bool) (a0_3 : List Int) (a0_4z : Bool) (a0_4 : List T) (a1_0 : Int) (a1_1 : Int) (a1_2z : Bool) (a1_2 : List Int) (a1_3z : Bool) (a1_3 : List Int) (a1_4z : Bool) (a1_4 : List T) : Option R :=
  cond (!(decide (a0_0 = a1_0))) (ret false) (cond (!(decide (a0_1 = a1_1))) (ret false) ((laws_eqByteS.f k a0_2z a0_2 a1_2z a1_2).bind fun t0 => cond (!t0) (ret false) ((laws_eqByteS.f k a0_3z a0_3 a1_3z a1_3).bind fun t1 => cond (!t1) (ret false) ((laws_eqByteSS.f k a0_4z a0_4 a1_4z a1_4).bind fun t2 => cond (!t2) (ret false) (ret true)))))
def laws_eqQc.f : Nat → Int → Int → Bool → (List Int) → Bool → (List Int) → Bool → (List T) → Int → Int → Bool → (List Int) → Bool → (List Int) → Bool → (List T) → Option Bool
  | 0, _, _, _, _, _, _, _, _, _, _, _, _, _, _, _, _ => none
  | k + 1, a0_0, a0_1, a0_2z, a0_2, a0_3z, a0_3, a0_4z, a0_4, a1_0, a1_1, a1_2z, a1_2, a1_3z, a1_3, a1_4z, a1_4 => laws_eqQc.b some k a0_0 a0_1 a0_2z a0_2 a0_3z a0_3 a0_4z a0_4 a1_0 a1_1 a1_2z a1_2 a1_3z a1_3 a1_4z a1_4
def laws_eqQc.enc (r : Bool) : Res := ⟨[.vals false [((.bool r), true)]], []⟩
def laws_eqQc.ans (k : Nat) : List Arg → Ans
  | [.v (.agg [(.int .i64 a0_0), (.int .i64 a0_1), (.nums 5 .u8 a0_2z a0_2), (.nums 5 .u8 a0_3z a0_3), (.sl 45 a0_4z a0_4)]), .v (.agg [(.int .i64 a1_0), (.int .i64 a1_1), (.nums 5 .u8 a1_2z a1_2), (.nums 5 .u8 a1_3z a1_3), (.sl 45 a1_4z a1_4)])] => ⟨laws_eqQc.f k a0_0 a0_1 a0_2z a0_2 a0_3z a0_3 a0_4z a0_4 a1_0 a1_1 a1_2z a1_2 a1_3z a1_3 a1_4z a1_4, laws_eqQc.enc⟩
  | _ => Ans.no
def laws_eqQc.Cs (k : Nat) : CallSem := tab [(53, laws_eqByteS.ans k), (110, laws_eqByteSS.ans k)]
def laws_eqQc.cuts : List (Nat × Keep) := []
theorem laws_eqQc.s (k : Nat) (a0_0 : Int) (a0_1 : Int) (a0_2z : Bool) (a0_2 : List Int) (a0_3z : Bool) (a0_3 : List Int) (a0_4z : Bool) (a0_4 : List T) (a1_0 : Int) (a1_1 : Int) (a1_2z : Bool) (a1_2 : List Int) (a1_3z : Bool) (a1_3 : List Int) (a1_4z : Bool) (a1_4 : List T) : answer Try.prog laws_eqQc.Cs 100000 laws_eqQc.cuts [] Try.f37 (k + 1) [.v (.agg [(.int .i64 a0_0), (.int .i64 a0_1), (.nums 5 .u8 a0_2z a0_2), (.nums 5 .u8 a0_3z a0_3), (.sl 45 a0_4z a0_4)]), .v (.agg [(.int .i64 a1_0), (.int .i64 a1_1), (.nums 5 .u8 a1_2z a1_2), (.nums 5 .u8 a1_3z a1_3), (.sl 45 a1_4z a1_4)])] = laws_eqQc.b (fun r => some (laws_eqQc.enc r)) k a0_0 a0_1 a0_2z a0_2 a0_3z a0_3 a0_4z a0_4 a1_0 a1_1 a1_2z a1_2 a1_3z a1_3 a1_4z a1_4 := by kernel_rfl
theorem laws_eqQc.b_nat {R R' : Type} (e : R → R') (ret : Bool → Option R) (k : Nat) (a0_0 : Int) (a0_1 : Int) (a0_2z : Bool) (a0_2 : List Int) (a0_3z : Bool) (a0_3 : List Int) (a0_4z : Bool) (a0_4 : List T) (a1_0 : Int) (a1_1 : Int) (a1_2z : Bool) (a1_2 : List Int) (a1_3z : Bool) (a1_3 : List Int) (a1_4z : Bool) (a1_4 : List T) : laws_eqQc.b (fun r => (ret r).map e) k a0_0 a0_1 a0_2z a0_2 a0_3z a0_3 a0_4z a0_4 a1_0 a1_1 a1_2z a1_2 a1_3z a1_3 a1_4z a1_4 = (laws_eqQc.b ret k a0_0 a0_1 a0_2z a0_2 a0_3z a0_3 a0_4z a0_4 a1_0 a1_1 a1_2z a1_2 a1_3z a1_3 a1_4z a1_4).map e := by
  unfold laws_eqQc.b
  repeat' first | with_reducible refine nat_cond ?_ ?_ | with_reducible refine nat_bind fun _ => ?_ | rfl
theorem laws_eqQc.eq (k : Nat) (a0_0 : Int) (a0_1 : Int) (a0_2z : Bool) (a0_2 : List Int) (a0_3z : Bool) (a0_3 : List Int) (a0_4z : Bool) (a0_4 : List T) (a1_0 : Int) (a1_1 : Int) (a1_2z : Bool) (a1_2 : List Int) (a1_3z : Bool) (a1_3 : List Int) (a1_4z : Bool) (a1_4 : List T) : answer Try.prog laws_eqQc.Cs 100000 laws_eqQc.cuts [] Try.f37 (k + 1) [.v (.agg [(.int .i64 a0_0), (.int .i64 a0_1), (.nums 5 .u8 a0_2z a0_2), (.nums 5 .u8 a0_3z a0_3), (.sl 45 a0_4z a0_4)]), .v (.agg [(.int .i64 a1_0), (.int .i64 a1_1), (.nums 5 .u8 a1_2z a1_2), (.nums 5 .u8 a1_3z a1_3), (.sl 45 a1_4z a1_4)])] = (laws_eqQc.f (k + 1) a0_0 a0_1 a0_2z a0_2 a0_3z a0_3 a0_4z a0_4 a1_0 a1_1 a1_2z a1_2 a1_3z a1_3 a1_4z a1_4).map laws_eqQc.enc := by
  refine (laws_eqQc.s k a0_0 a0_1 a0_2z a0_2 a0_3z a0_3 a0_4z a0_4 a1_0 a1_1 a1_2z a1_2 a1_3z a1_3 a1_4z a1_4).trans (Eq.trans ?_ (laws_eqQc.b_nat laws_eqQc.enc some k a0_0 a0_1 a0_2z a0_2 a0_3z a0_3 a0_4z a0_4 a1_0 a1_1 a1_2z a1_2 a1_3z a1_3 a1_4z a1_4))
  simp only [Option.map_some]
theorem laws_eqQc.sound (k : Nat) : SoundF Try.prog 37 (fun a => (laws_eqQc.ans k a).val) := by
  refine sound_plain (fun args res h => ?_) (fun t n => rfl)
  unfold laws_eqQc.ans at h
  dsimp only at h
  split at h
  · cases k with
    | zero => cases h
    | succ k =>
      unfold Ans.val at h
      rw [← laws_eqQc.eq] at h
      exact answer_sound mixed Try.func37 _ _ _ (k + 1) (fun j _ => tab_sound (tab_cons (laws_eqByteS.sound j) (tab_cons (laws_eqByteSS.sound j) (tab_nil)))) _ _ h
  · exact (Ans.no_val h).elim

/-! loop.example/g00790/laws.eqHead -/
def laws_eqHead.b {R : Type} (ret : Bool → Option R) (k : Nat) (a0_0 : Int) (a0_1 : Int) (a0_2 : Int) (a0_3z : Bool) (a0_3 : List Int) (a0_4z : Bool) (a0_4 : List Int) (a0_5 : Int) (a0_6 : Int) (a0_7z : Bool) (a0_7 : List Int) (a0_8z : Bool) (a0_8 : List Int) (a0_9z : Bool) (a0_9 : List T) (a1_0 : Int) (a1_1 : Int) (a1_2 : Int) (a1_3z : Bool) (a1_3 : List Int) (a1_4z : Bool) (a1_4 : List Int) (a1_5 : Int) (a1_6 : Int) (a1_7z : Bool) (a1_7 : List Int) (a1_8z : Bool) (a1_8 : List Int) (a1_9z : Bool) (a1_9 : List T) : Option R :=
  cond (!(decide (a0_0 = a1_0))) (ret false) (cond (!(decide (a0_1 = a1_1))) (ret false) (cond (!(decide (a0_2 = a1_2))) (ret false) ((laws_eqByteS.f k a0_3z a0_3 a1_3z a1_3).bind fun t0 => cond (!t0) (ret false) ((laws_eqByteS.f k a0_4z a0_4 a1_4z a1_4).bind fun t1 => cond (!t1) (ret false) ((laws_eqQc.f k a0_5 a0_6 a0_7z a0_7 a0_8z a0_8 a0_9z a0_9 a1_5 a1_6 a1_7z a1_7 a1_8z a1_8 a1_9z a1_9).bind fun t2 => cond (!t2) (ret false) (ret true))))))
def laws_eqHead.f : Nat → Int → Int → Int → Bool → (List Int) → Bool → (List Int) → Int → Int → Bool → (List Int) → Bool → (List Int) → Bool → (List T) → Int → Int → Int → Bool → (List Int) → Bool → (List Int) → Int → Int → Bool → (List Int) → Bool → (List Int) → Bool → (List T) → Option Bool
  | 0, _, _, _, _, _, _, _, _, _, _, _, _, _, _, _, _, _, _, _, _, _, _, _, _, _, _, _, _, _, _ => none
  | k + 1, a0_0, a0_1, a0_2, a0_3z, a0_3, a0_4z, a0_4, a0_5, a0_6, a0_7z, a0_7, a0_8z, a0_8, a0_9z, a0_9, a1_0, a1_1, a1_2, a1_3z, a1_3, a1_4z, a1_4, a1_5, a1_6, a1_7z, a1_7, a1_8z, a1_8, a1_9z, a1_9 => laws_eqHead.b some k a0_0 a0_1 a0_2 a0_3z a0_3 a0_4z a0_4 a0_5 a0_6 a0_7z a0_7 a0_8z a0_8 a0_9z a0_9 a1_0 a1_1 a1_2 a1_3z a1_3 a1_4z a1_4 a1_5 a1_6 a1_7z a1_7 a1_8z a1_8 a1_9z a1_9
def laws_eqHead.enc (r : Bool) : Res := ⟨[.vals false [((.bool r), true)]], []⟩
def laws_eqHead.ans (k : Nat) : List Arg → Ans
  | [.v (.agg [(.int .i64 a0_0), (.int .i64 a0_1), (.int .i64 a0_2), (.nums 5 .u8 a0_3z a0_3), (.nums 5 .u8 a0_4z a0_4), (.int .i64 a0_5), (.int .i64 a0_6), (.nums 5 .u8 a0_7z a0_7), (.nums 5 .u8 a0_8z a0_8), (.sl 45 a0_9z a0_9)]), .v (.agg [(.int .i64 a1_0), (.int .i64 a1_1), (.int .i64 a1_2), (.nums 5 .u8 a1_3z a1_3), (.nums 5 .u8 a1_4z a1_4), (.int .i64 a1_5), (.int .i64 a1_6), (.nums 5 .u8 a1_7z a1_7), (.nums 5 .u8 a1_8z a1_8), (.sl 45 a1_9z a1_9)])] => ⟨laws_eqHead.f k a0_0 a0_1 a0_2 a0_3z a0_3 a0_4z a0_4 a0_5 a0_6 a0_7z a0_7 a0_8z a0_8 a0_9z a0_9 a1_0 a1_1 a1_2 a1_3z a1_3 a1_4z a1_4 a1_5 a1_6 a1_7z a1_7 a1_8z a1_8 a1_9z a1_9, laws_eqHead.enc⟩
  | _ => Ans.no
def laws_eqHead.Cs (k : Nat) : CallSem := tab [(53, laws_eqByteS.ans k), (37, laws_eqQc.ans k)]
def laws_eqHead.cuts : List (Nat × Keep) := []
theorem laws_eqHead.s (k : Nat) (a0_0 : Int) (a0_1 : Int) (a0_2 : Int) (a0_3z : Bool) (a0_3 : List Int) (a0_4z : Bool) (a0_4 : List Int) (a0_5 : Int) (a0_6 : Int) (a0_7z : Bool) (a0_7 : List Int) (a0_8z : Bool) (a0_8 : List Int) (a0_9z : Bool) (a0_9 : List T) (a1_0 : Int) (a1_1 : Int) (a1_2 : Int) (a1_3z : Bool) (a1_3 : List Int) (a1_4z : Bool) (a1_4 : List Int) (a1_5 : Int) (a1_6 : Int) (a1_7z : Bool) (a1_7 : List Int) (a1_8z : Bool) (a1_8 : List Int) (a1_9z : Bool) (a1_9 : List T) : answer Try.prog laws_eqHead.Cs 100000 laws_eqHead.cuts [] Try.f80 (k + 1) [.v (.agg [(.int .i64 a0_0), (.int .i64 a0_1), (.int .i64 a0_2), (.nums 5 .u8 a0_3z a0_3), (.nums 5 .u8 a0_4z a0_4), (.int .i64 a0_5), (.int .i64 a0_6), (.nums 5 .u8 a0_7z a0_7), (.nums 5 .u8 a0_8z a0_8), (.sl 45 a0_9z a0_9)]), .v (.agg [(.int .i64 a1_0), (.int .i64 a1_1), (.int .i64 a1_2), (.nums 5 .u8 a1_3z a1_3), (.nums 5 .u8 a1_4z a1_4), (.int .i64 a1_5), (.int .i64 a1_6), (.nums 5 .u8 a1_7z a1_7), (.nums 5 .u8 a1_8z a1_8), (.sl 45 a1_9z a1_9)])] = laws_eqHead.b (fun r => some (laws_eqHead.enc r)) k a0_0 a0_1 a0_2 a0_3z a0_3 a0_4z a0_4 a0_5 a0_6 a0_7z a0_7 a0_8z a0_8 a0_9z a0_9 a1_0 a1_1 a1_2 a1_3z a1_3 a1_4z a1_4 a1_5 a1_6 a1_7z a1_7 a1_8z a1_8 a1_9z a1_9 := by kernel_rfl
theorem laws_eqHead.b_nat {R R' : Type} (e : R → R') (ret : Bool → Option R) (k : Nat) (a0_0 : Int) (a0_1 : Int) (a0_2 : Int) (a0_3z : Bool) (a0_3 : List Int) (a0_4z : Bool) (a0_4 : List Int) (a0_5 : Int) (a0_6 : Int) (a0_7z : Bool) (a0_7 : List Int) (a0_8z : Bool) (a0_8 : List Int) (a0_9z : Bool) (a0_9 : List T) (a1_0 : Int) (a1_1 : Int) (a1_2 : Int) (a1_3z : Bool) (a1_3 : List Int) (a1_4z : Bool) (a1_4 : List Int) (a1_5 : Int) (a1_6 : Int) (a1_7z : Bool) (a1_7 : List Int) (a1_8z : Bool) (a1_8 : List Int) (a1_9z : Bool) (a1_9 : List T) : laws_eqHead.b (fun r => (ret r).map e) k a0_0 a0_1 a0_2 a0_3z a0_3 a0_4z a0_4 a0_5 a0_6 a0_7z a0_7 a0_8z a0_8 a0_9z a0_9 a1_0 a1_1 a1_2 a1_3z a1_3 a1_4z a1_4 a1_5 a1_6 a1_7z a1_7 a1_8z a1_8 a1_9z a1_9 = (laws_eqHead.b ret k a0_0 a0_1 a0_2 a0_3z a0_3 a0_4z a0_4 a0_5 a0_6 a0_7z a0_7 a0_8z a0_8 a0_9z a0_9 a1_0 a1_1 a1_2 a1_3z a1_3 a1_4z a1_4 a1_5 a1_6 a1_7z a1_7 a1_8z a1_8 a1_9z a1_9).map e := by
  unfold laws_eqHead.b
  repeat' first | with_reducible refine nat_cond ?_ ?_ | with_reducible refine nat_bind fun _ => ?_ | rfl
theorem laws_eqHead.eq (k : Nat) (a0_0 : Int) (a0_1 : Int) (a0_2 : Int) (a0_3z : Bool) (a0_3 : List Int) (a0_4z : Bool) (a0_4 : List Int) (a0_5 : Int) (a0_6 : Int) (a0_7z : Bool) (a0_7 : List Int) (a0_8z : Bool) (a0_8 : List Int) (a0_9z : Bool) (a0_9 : List T) (a1_0 : Int) (a1_1 : Int) (a1_2 : Int) (a1_3z : Bool) (a1_3 : List Int) (a1_4z : Bool) (a1_4 : List Int) (a1_5 : Int) (a1_6 : Int) (a1_7z : Bool) (a1_7 : List Int) (a1_8z : Bool) (a1_8 : List Int) (a1_9z : Bool) (a1_9 : List T) : answer Try.prog laws_eqHead.Cs 100000 laws_eqHead.cuts [] Try.f80 (k + 1) [.v (.agg [(.int .i64 a0_0), (.int .i64 a0_1), (.int .i64 a0_2), (.nums 5 .u8 a0_3z a0_3), (.nums 5 .u8 a0_4z a0_4), (.int .i64 a0_5), (.int .i64 a0_6), (.nums 5 .u8 a0_7z a0_7), (.nums 5 .u8 a0_8z a0_8), (.sl 45 a0_9z a0_9)]), .v (.agg [(.int .i64 a1_0), (.int .i64 a1_1), (.int .i64 a1_2), (.nums 5 .u8 a1_3z a1_3), (.nums 5 .u8 a1_4z a1_4), (.int .i64 a1_5), (.int .i64 a1_6), (.nums 5 .u8 a1_7z a1_7), (.nums 5 .u8 a1_8z a1_8), (.sl 45 a1_9z a1_9)])] = (laws_eqHead.f (k + 1) a0_0 a0_1 a0_2 a0_3z a0_3 a0_4z a0_4 a0_5 a0_6 a0_7z a0_7 a0_8z a0_8 a0_9z a0_9 a1_0 a1_1 a1_2 a1_3z a1_3 a1_4z a1_4 a1_5 a1_6 a1_7z a1_7 a1_8z a1_8 a1_9z a1_9).map laws_eqHead.enc := by
  refine (laws_eqHead.s k a0_0 a0_1 a0_2 a0_3z a0_3 a0_4z a0_4 a0_5 a0_6 a0_7z a0_7 a0_8z a0_8 a0_9z a0_9 a1_0 a1_1 a1_2 a1_3z a1_3 a1_4z a1_4 a1_5 a1_6 a1_7z a1_7 a1_8z a1_8 a1_9z a1_9).trans (Eq.trans ?_ (laws_eqHead.b_nat laws_eqHead.enc some k a0_0 a0_1 a0_2 a0_3z a0_3 a0_4z a0_4 a0_5 a0_6 a0_7z a0_7 a0_8z a0_8 a0_9z a0_9 a1_0 a1_1 a1_2 a1_3z a1_3 a1_4z a1_4 a1_5 a1_6 a1_7z a1_7 a1_8z a1_8 a1_9z a1_9))
  simp only [Option.map_some]
theorem laws_eqHead.sound (k : Nat) : SoundF Try.prog 80 (fun a => (laws_eqHead.ans k a).val) := by
  refine sound_plain (fun args res h => ?_) (fun t n => rfl)
  unfold laws_eqHead.ans at h
  dsimp only at h
  split at h
  · cases k with
    | zero => cases h
    | succ k =>
      unfold Ans.val at h
      rw [← laws_eqHead.eq] at h
      exact answer_sound mixed Try.func80 _ _ _ (k + 1) (fun j _ => tab_sound (tab_cons (laws_eqByteS.sound j) (tab_cons (laws_eqQc.sound j) (tab_nil)))) _ _ h
  · exact (Ans.no_val h).elim

/-! loop.example/g00790/laws.eqHeadS -/
def laws_eqHeadS.b {R : Type} (ret : Bool → Option R) (j0 : Bool → (List T) → Bool → (List T) → Int → Option R) (k : Nat) (a0z : Bool) (a0 : List T) (a1z : Bool) (a1 : List T) : Option R :=
  cond (!(decide (((a0).length : Int) = ((a1).length : Int)))) (ret false) (j0 a0z a0 a1z a1 0)
def laws_eqHeadS.l0b {R : Type} (ret : Bool → Option R) (j0 : Bool → (List T) → Bool → (List T) → Int → Option R) (k : Nat) (x0z : Bool) (x0 : List T) (x1z : Bool) (x1 : List T) (x5 : Int) : Option R :=
  cond (decide (x5 < ((x0).length : Int))) (cond (decide ((0 : Int) ≤ x5)) (cond (decide (x5 < ((x0).length : Int))) (cond (decide ((0 : Int) ≤ x5)) (cond (decide (x5 < ((x1).length : Int))) ((laws_eqHead.f k (((((x0).getD (x5).toNat .bad).cells.getD 0 .bad)).toInt) (((((x0).getD (x5).toNat .bad).cells.getD 1 .bad)).toInt) (((((x0).getD (x5).toNat .bad).cells.getD 2 .bad)).toInt) (((((x0).getD (x5).toNat .bad).cells.getD 3 .bad)).isNil) (((((x0).getD (x5).toNat .bad).cells.getD 3 .bad)).toNums) (((((x0).getD (x5).toNat .bad).cells.getD 4 .bad)).isNil) (((((x0).getD (x5).toNat .bad).cells.getD 4 .bad)).toNums) (((((x0).getD (x5).toNat .bad).cells.getD 5 .bad)).toInt) (((((x0).getD (x5).toNat .bad).cells.getD 6 .bad)).toInt) (((((x0).getD (x5).toNat .bad).cells.getD 7 .bad)).isNil) (((((x0).getD (x5).toNat .bad).cells.getD 7 .bad)).toNums) (((((x0).getD (x5).toNat .bad).cells.getD 8 .bad)).isNil) (((((x0).getD (x5).toNat .bad).cells.getD 8 .bad)).toNums) (((((x0).getD (x5).toNat .bad).cells.getD 9 .bad)).isNil) (((((x0).getD (x5).toNat .bad).cells.getD 9 .bad)).toList) (((((x1).getD (x5).toNat .bad).cells.getD 0 .bad)).toInt) (((((x1).getD (x5).toNat .bad).cells.getD 1 .bad)).toInt) (((((x1).getD (x5).toNat .bad).cells.getD 2 .bad)).toInt) (((((x1).getD (x5).toNat .bad).cells.getD 3 .bad)).isNil) (((((x1).getD (x5).toNat .bad).cells.getD 3 .bad)).toNums) (((((x1).getD (x5).toNat .bad).cells.getD 4 .bad)).isNil) (((((x1).getD (x5).toNat .bad).cells.getD 4 .bad)).toNums) (((((x1).getD (x5).toNat .bad).cells.getD 5 .bad)).toInt) (((((x1).getD (x5).toNat .bad).cells.getD 6 .bad)).toInt) (((((x1).getD (x5).toNat .bad).cells.getD 7 .bad)).isNil) (((((x1).getD (x5).toNat .bad).cells.getD 7 .bad)).toNums) (((((x1).getD (x5).toNat .bad).cells.getD 8 .bad)).isNil) (((((x1).getD (x5).toNat .bad).cells.getD 8 .bad)).toNums) (((((x1).getD (x5).toNat .bad).cells.getD 9 .bad)).isNil) (((((x1).getD (x5).toNat .bad).cells.getD 9 .bad)).toList)).bind fun t0 => cond (!t0) (ret false) (j0 x0z x0 x1z x1 (RowKit.wrap64 (x5 + 1)))) (none)) (none)) (none)) (none)) (ret true)
def laws_eqHeadS.l0 : Nat → Bool → (List T) → Bool → (List T) → Int → Option Bool
  | 0, _, _, _, _, _ => none
  | k + 1, x0z, x0, x1z, x1, x5 => laws_eqHeadS.l0b some (laws_eqHeadS.l0 k) k x0z x0 x1z x1 x5
def laws_eqHeadS.f : Nat → Bool → (List T) → Bool → (List T) → Option Bool
  | 0, _, _, _, _ => none
  | k + 1, a0z, a0, a1z, a1 => laws_eqHeadS.b some (laws_eqHeadS.l0 k) k a0z a0 a1z a1
def laws_eqHeadS.enc (r : Bool) : Res := ⟨[.vals false [((.bool r), true)]], []⟩
def laws_eqHeadS.ans (k : Nat) : List Arg → Ans
  | [.v (.sl 124 a0z a0), .v (.sl 124 a1z a1)] => ⟨laws_eqHeadS.f k a0z a0 a1z a1, laws_eqHeadS.enc⟩
  | _ => Ans.no
def laws_eqHeadS.Cs (k : Nat) : CallSem := tab [(80, laws_eqHead.ans k)]
def laws_eqHeadS.cuts : List (Nat × Keep) := [(58, ⟨[(0, some []), (1, some []), (5, some [])], []⟩)]
noncomputable def laws_eqHeadS.K0 : List Fr := framesAt [true, true, false, true, false] (bodyOf Try.f19 laws_eqHeadS.cuts) []
def laws_eqHeadS.N0 (x0z : Bool) (x0 : List T) (x1z : Bool) (x1 : List T) (x5 : Int) : St := stOf 27 27 2 [(0, .val ⟨(.sl 124 x0z x0), [], false, none⟩), (1, .val ⟨(.sl 124 x1z x1), [], false, none⟩), (5, .val (V.s (.int .i64 x5)))] []
theorem laws_eqHeadS.s (k : Nat) (a0z : Bool) (a0 : List T) (a1z : Bool) (a1 : List T) : answer Try.prog laws_eqHeadS.Cs 100000 laws_eqHeadS.cuts [] Try.f19 (k + 1) [.v (.sl 124 a0z a0), .v (.sl 124 a1z a1)] = laws_eqHeadS.b (fun r => some (laws_eqHeadS.enc r)) (fun x0z x0 x1z x1 x5 => rounds Try.prog laws_eqHeadS.Cs (finish Try.prog [] Try.f19 [.v (.sl 124 a0z a0), .v (.sl 124 a1z a1)]) 100000 k laws_eqHeadS.K0 (laws_eqHeadS.N0 x0z x0 x1z x1 x5)) k a0z a0 a1z a1 := by kernel_rfl
theorem laws_eqHeadS.s0 (k : Nat) (G : List Fr → St → Option Res) (a0z : Bool) (a0 : List T) (a1z : Bool) (a1 : List T) (yx0z : Bool) (yx0 : List T) (yx1z : Bool) (yx1 : List T) (yx5 : Int) : resume Try.prog (laws_eqHeadS.Cs k) G (finish Try.prog [] Try.f19 [.v (.sl 124 a0z a0), .v (.sl 124 a1z a1)]) 100000 laws_eqHeadS.K0 (laws_eqHeadS.N0 yx0z yx0 yx1z yx1 yx5) = laws_eqHeadS.l0b (fun r => some (laws_eqHeadS.enc r)) (fun x0z x0 x1z x1 x5 => G laws_eqHeadS.K0 (laws_eqHeadS.N0 x0z x0 x1z x1 x5)) k yx0z yx0 yx1z yx1 yx5 := by kernel_rfl
theorem laws_eqHeadS.b_nat {R R' : Type} (e : R → R') (ret : Bool → Option R) (j0 : Bool → (List T) → Bool → (List T) → Int → Option R) (k : Nat) (a0z : Bool) (a0 : List T) (a1z : Bool) (a1 : List T) : laws_eqHeadS.b (fun r => (ret r).map e) (fun x0z x0 x1z x1 x5 => (j0 x0z x0 x1z x1 x5).map e) k a0z a0 a1z a1 = (laws_eqHeadS.b ret j0 k a0z a0 a1z a1).map e := by
  unfold laws_eqHeadS.b
  repeat' first | with_reducible refine nat_cond ?_ ?_ | with_reducible refine nat_bind fun _ => ?_ | rfl
theorem laws_eqHeadS.l0b_nat {R R' : Type} (e : R → R') (ret : Bool → Option R) (j0 : Bool → (List T) → Bool → (List T) → Int → Option R) (k : Nat) (x0z : Bool) (x0 : List T) (x1z : Bool) (x1 : List T) (x5 : Int) : laws_eqHeadS.l0b (fun r => (ret r).map e) (fun x0z x0 x1z x1 x5 => (j0 x0z x0 x1z x1 x5).map e) k x0z x0 x1z x1 x5 = (laws_eqHeadS.l0b ret j0 k x0z x0 x1z x1 x5).map e := by
  unfold laws_eqHeadS.l0b
  repeat' first | with_reducible refine nat_cond ?_ ?_ | with_reducible refine nat_bind fun _ => ?_ | rfl
theorem laws_eqHeadS.rounds_eq (a0z : Bool) (a0 : List T) (a1z : Bool) (a1 : List T) : ∀ k, (∀ (x0z : Bool) (x0 : List T) (x1z : Bool) (x1 : List T) (x5 : Int), rounds Try.prog laws_eqHeadS.Cs (finish Try.prog [] Try.f19 [.v (.sl 124 a0z a0), .v (.sl 124 a1z a1)]) 100000 k laws_eqHeadS.K0 (laws_eqHeadS.N0 x0z x0 x1z x1 x5) = (laws_eqHeadS.l0 k x0z x0 x1z x1 x5).map laws_eqHeadS.enc)
  | 0 => fun _ _ _ _ _ => rfl
  | k + 1 => by
    have ih := laws_eqHeadS.rounds_eq a0z a0 a1z a1 k
    refine fun _ _ _ _ _ => ?_
    · refine (laws_eqHeadS.s0 k _ a0z a0 a1z a1 _ _ _ _ _).trans (Eq.trans ?_ (laws_eqHeadS.l0b_nat laws_eqHeadS.enc some (laws_eqHeadS.l0 k) k _ _ _ _ _))
      simp only [ih, Option.map_some]
theorem laws_eqHeadS.eq (k : Nat) (a0z : Bool) (a0 : List T) (a1z : Bool) (a1 : List T) : answer Try.prog laws_eqHeadS.Cs 100000 laws_eqHeadS.cuts [] Try.f19 (k + 1) [.v (.sl 124 a0z a0), .v (.sl 124 a1z a1)] = (laws_eqHeadS.f (k + 1) a0z a0 a1z a1).map laws_eqHeadS.enc := by
  have ih := laws_eqHeadS.rounds_eq a0z a0 a1z a1 k
  refine (laws_eqHeadS.s k a0z a0 a1z a1).trans (Eq.trans ?_ (laws_eqHeadS.b_nat laws_eqHeadS.enc some (laws_eqHeadS.l0 k) k a0z a0 a1z a1))
  simp only [ih, Option.map_some]
theorem laws_eqHeadS.sound (k : Nat) : SoundF Try.prog 19 (fun a => (laws_eqHeadS.ans k a).val) := by
  refine sound_plain (fun args res h => ?_) (fun t n => rfl)
  unfold laws_eqHeadS.ans at h
  dsimp only at h
  split at h
  · cases k with
    | zero => cases h
    | succ k =>
      unfold Ans.val at h
      rw [← laws_eqHeadS.eq] at h
      exact answer_sound mixed Try.func19 _ _ _ (k + 1) (fun j _ => tab_sound (tab_cons (laws_eqHead.sound j) (tab_nil))) _ _ h
  · exact (Ans.no_val h).elim

/-! loop.example/g00790/laws.eqForest -/
def laws_eqForest.b {R : Type} (ret : Bool → Option R) (k : Nat) (a0_0 : Int) (a0_1 : Int) (a0_2 : Int) (a0_3 : Int) (a0_4 : Int) (a0_5z : Bool) (a0_5 : List T) (a1_0 : Int) (a1_1 : Int) (a1_2 : Int) (a1_3 : Int) (a1_4 : Int) (a1_5z : Bool) (a1_5 : List T) : Option R :=
  (laws_eqLimits.f k a0_0 a0_1 a0_2 a0_3 a0_4 a1_0 a1_1 a1_2 a1_3 a1_4).bind fun t0 => cond (!t0) (ret false) ((laws_eqHeadS.f k a0_5z a0_5 a1_5z a1_5).bind fun t1 => cond (!t1) (ret false) (ret true))
def laws_eqForest.f : Nat → Int → Int → Int → Int → Int → Bool → (List T) → Int → Int → Int → Int → Int → Bool → (List T) → Option Bool
  | 0, _, _, _, _, _, _, _, _, _, _, _, _, _, _ => none
  | k + 1, a0_0, a0_1, a0_2, a0_3, a0_4, a0_5z, a0_5, a1_0, a1_1, a1_2, a1_3, a1_4, a1_5z, a1_5 => laws_eqForest.b some k a0_0 a0_1 a0_2 a0_3 a0_4 a0_5z a0_5 a1_0 a1_1 a1_2 a1_3 a1_4 a1_5z a1_5
def laws_eqForest.enc (r : Bool) : Res := ⟨[.vals false [((.bool r), true)]], []⟩
def laws_eqForest.ans (k : Nat) : List Arg → Ans
  | [.v (.agg [(.int .i64 a0_0), (.int .i64 a0_1), (.int .i64 a0_2), (.int .i64 a0_3), (.int .i64 a0_4), (.sl 124 a0_5z a0_5)]), .v (.agg [(.int .i64 a1_0), (.int .i64 a1_1), (.int .i64 a1_2), (.int .i64 a1_3), (.int .i64 a1_4), (.sl 124 a1_5z a1_5)])] => ⟨laws_eqForest.f k a0_0 a0_1 a0_2 a0_3 a0_4 a0_5z a0_5 a1_0 a1_1 a1_2 a1_3 a1_4 a1_5z a1_5, laws_eqForest.enc⟩
  | _ => Ans.no
def laws_eqForest.Cs (k : Nat) : CallSem := tab [(87, laws_eqLimits.ans k), (19, laws_eqHeadS.ans k)]
def laws_eqForest.cuts : List (Nat × Keep) := []
theorem laws_eqForest.s (k : Nat) (a0_0 : Int) (a0_1 : Int) (a0_2 : Int) (a0_3 : Int) (a0_4 : Int) (a0_5z : Bool) (a0_5 : List T) (a1_0 : Int) (a1_1 : Int) (a1_2 : Int) (a1_3 : Int) (a1_4 : Int) (a1_5z : Bool) (a1_5 : List T) : answer Try.prog laws_eqForest.Cs 100000 laws_eqForest.cuts [] Try.f24 (k + 1) [.v (.agg [(.int .i64 a0_0), (.int .i64 a0_1), (.int .i64 a0_2), (.int .i64 a0_3), (.int .i64 a0_4), (.sl 124 a0_5z a0_5)]), .v (.agg [(.int .i64 a1_0), (.int .i64 a1_1), (.int .i64 a1_2), (.int .i64 a1_3), (.int .i64 a1_4), (.sl 124 a1_5z a1_5)])] = laws_eqForest.b (fun r => some (laws_eqForest.enc r)) k a0_0 a0_1 a0_2 a0_3 a0_4 a0_5z a0_5 a1_0 a1_1 a1_2 a1_3 a1_4 a1_5z a1_5 := by kernel_rfl
theorem laws_eqForest.b_nat {R R' : Type} (e : R → R') (ret : Bool → Option R) (k : Nat) (a0_0 : Int) (a0_1 : Int) (a0_2 : Int) (a0_3 : Int) (a0_4 : Int) (a0_5z : Bool) (a0_5 : List T) (a1_0 : Int) (a1_1 : Int) (a1_2 : Int) (a1_3 : Int) (a1_4 : Int) (a1_5z : Bool) (a1_5 : List T) : laws_eqForest.b (fun r => (ret r).map e) k a0_0 a0_1 a0_2 a0_3 a0_4 a0_5z a0_5 a1_0 a1_1 a1_2 a1_3 a1_4 a1_5z a1_5 = (laws_eqForest.b ret k a0_0 a0_1 a0_2 a0_3 a0_4 a0_5z a0_5 a1_0 a1_1 a1_2 a1_3 a1_4 a1_5z a1_5).map e := by
  unfold laws_eqForest.b
  repeat' first | with_reducible refine nat_cond ?_ ?_ | with_reducible refine nat_bind fun _ => ?_ | rfl
theorem laws_eqForest.eq (k : Nat) (a0_0 : Int) (a0_1 : Int) (a0_2 : Int) (a0_3 : Int) (a0_4 : Int) (a0_5z : Bool) (a0_5 : List T) (a1_0 : Int) (a1_1 : Int) (a1_2 : Int) (a1_3 : Int) (a1_4 : Int) (a1_5z : Bool) (a1_5 : List T) : answer Try.prog laws_eqForest.Cs 100000 laws_eqForest.cuts [] Try.f24 (k + 1) [.v (.agg [(.int .i64 a0_0), (.int .i64 a0_1), (.int .i64 a0_2), (.int .i64 a0_3), (.int .i64 a0_4), (.sl 124 a0_5z a0_5)]), .v (.agg [(.int .i64 a1_0), (.int .i64 a1_1), (.int .i64 a1_2), (.int .i64 a1_3), (.int .i64 a1_4), (.sl 124 a1_5z a1_5)])] = (laws_eqForest.f (k + 1) a0_0 a0_1 a0_2 a0_3 a0_4 a0_5z a0_5 a1_0 a1_1 a1_2 a1_3 a1_4 a1_5z a1_5).map laws_eqForest.enc := by
  refine (laws_eqForest.s k a0_0 a0_1 a0_2 a0_3 a0_4 a0_5z a0_5 a1_0 a1_1 a1_2 a1_3 a1_4 a1_5z a1_5).trans (Eq.trans ?_ (laws_eqForest.b_nat laws_eqForest.enc some k a0_0 a0_1 a0_2 a0_3 a0_4 a0_5z a0_5 a1_0 a1_1 a1_2 a1_3 a1_4 a1_5z a1_5))
  simp only [Option.map_some]
theorem laws_eqForest.sound (k : Nat) : SoundF Try.prog 24 (fun a => (laws_eqForest.ans k a).val) := by
  refine sound_plain (fun args res h => ?_) (fun t n => rfl)
  unfold laws_eqForest.ans at h
  dsimp only at h
  split at h
  · cases k with
    | zero => cases h
    | succ k =>
      unfold Ans.val at h
      rw [← laws_eqForest.eq] at h
      exact answer_sound mixed Try.func24 _ _ _ (k + 1) (fun j _ => tab_sound (tab_cons (laws_eqLimits.sound j) (tab_cons (laws_eqHeadS.sound j) (tab_nil)))) _ _ h
  · exact (Ans.no_val h).elim

/-! loop.example/g00790/laws.FnExactForestOk -/
def laws_FnExactForestOk.b {R : Type} (ret : Bool → Option R) (k : Nat) (a0_0 : Int) (a0_1 : Int) (a0_2 : Int) (a0_3 : Int) (a0_4 : Int) (a0_5z : Bool) (a0_5 : List T) : Option R :=
  (laws_szForest.f k a0_0 a0_1 a0_2 a0_3 a0_4 a0_5z a0_5 1048576).bind fun t0 => cond (decide (t0 < 0)) (ret true) ((laws_toForest.f k a0_0 a0_1 a0_2 a0_3 a0_4 a0_5z a0_5).bind fun t1 => (spec_ForestOk.f k t1.1 t1.2.1 t1.2.2.1 t1.2.2.2.1 t1.2.2.2.2.1 t1.2.2.2.2.2.1 t1.2.2.2.2.2.2).bind fun t2 => (laws_toForest.f k a0_0 a0_1 a0_2 a0_3 a0_4 a0_5z a0_5).bind fun t3 => (impl_ForestOk.f k t3.1 t3.2.1 t3.2.2.1 t3.2.2.2.1 t3.2.2.2.2.1 t3.2.2.2.2.2.1 t3.2.2.2.2.2.2).bind fun t4 => cond (!(t4 == t2)) (ret false) ((laws_toForest.f k a0_0 a0_1 a0_2 a0_3 a0_4 a0_5z a0_5).bind fun t5 => (laws_eqForest.f k t3.1 t3.2.1 t3.2.2.1 t3.2.2.2.1 t3.2.2.2.2.1 t3.2.2.2.2.2.1 t3.2.2.2.2.2.2 t5.1 t5.2.1 t5.2.2.1 t5.2.2.2.1 t5.2.2.2.2.1 t5.2.2.2.2.2.1 t5.2.2.2.2.2.2).bind fun t6 => cond (!t6) (ret false) (ret true)))
def laws_FnExactForestOk.f : Nat → Int → Int → Int → Int → Int → Bool → (List T) → Option Bool
  | 0, _, _, _, _, _, _, _ => none
  | k + 1, a0_0, a0_1, a0_2, a0_3, a0_4, a0_5z, a0_5 => laws_FnExactForestOk.b some k a0_0 a0_1 a0_2 a0_3 a0_4 a0_5z a0_5
def laws_FnExactForestOk.enc (r : Bool) : Res := ⟨[.vals false [((.bool r), true)]], []⟩
def laws_FnExactForestOk.ans (k : Nat) : List Arg → Ans
  | [.v (.agg [(.int .i64 a0_0), (.int .i64 a0_1), (.int .i64 a0_2), (.int .i64 a0_3), (.int .i64 a0_4), (.sl 122 a0_5z a0_5)])] => ⟨laws_FnExactForestOk.f k a0_0 a0_1 a0_2 a0_3 a0_4 a0_5z a0_5, laws_FnExactForestOk.enc⟩
  | _ => Ans.no
def laws_FnExactForestOk.Cs (k : Nat) : CallSem := tab [(20, laws_szForest.ans k), (22, laws_toForest.ans k), (21, spec_ForestOk.ans k), (23, impl_ForestOk.ans k), (24, laws_eqForest.ans k)]
def laws_FnExactForestOk.cuts : List (Nat × Keep) := []
theorem laws_FnExactForestOk.s (k : Nat) (a0_0 : Int) (a0_1 : Int) (a0_2 : Int) (a0_3 : Int) (a0_4 : Int) (a0_5z : Bool) (a0_5 : List T) : answer Try.prog laws_FnExactForestOk.Cs 100000 laws_FnExactForestOk.cuts [] Try.f4 (k + 1) [.v (.agg [(.int .i64 a0_0), (.int .i64 a0_1), (.int .i64 a0_2), (.int .i64 a0_3), (.int .i64 a0_4), (.sl 122 a0_5z a0_5)])] = laws_FnExactForestOk.b (fun r => some (laws_FnExactForestOk.enc r)) k a0_0 a0_1 a0_2 a0_3 a0_4 a0_5z a0_5 := by kernel_rfl
theorem laws_FnExactForestOk.b_nat {R R' : Type} (e : R → R') (ret : Bool → Option R) (k : Nat) (a0_0 : Int) (a0_1 : Int) (a0_2 : Int) (a0_3 : Int) (a0_4 : Int) (a0_5z : Bool) (a0_5 : List T) : laws_FnExactForestOk.b (fun r => (ret r).map e) k a0_0 a0_1 a0_2 a0_3 a0_4 a0_5z a0_5 = (laws_FnExactForestOk.b ret k a0_0 a0_1 a0_2 a0_3 a0_4 a0_5z a0_5).map e := by
  unfold laws_FnExactForestOk.b
  repeat' first | with_reducible refine nat_cond ?_ ?_ | with_reducible refine nat_bind fun _ => ?_ | rfl
theorem laws_FnExactForestOk.eq (k : Nat) (a0_0 : Int) (a0_1 : Int) (a0_2 : Int) (a0_3 : Int) (a0_4 : Int) (a0_5z : Bool) (a0_5 : List T) : answer Try.prog laws_FnExactForestOk.Cs 100000 laws_FnExactForestOk.cuts [] Try.f4 (k + 1) [.v (.agg [(.int .i64 a0_0), (.int .i64 a0_1), (.int .i64 a0_2), (.int .i64 a0_3), (.int .i64 a0_4), (.sl 122 a0_5z a0_5)])] = (laws_FnExactForestOk.f (k + 1) a0_0 a0_1 a0_2 a0_3 a0_4 a0_5z a0_5).map laws_FnExactForestOk.enc := by
  refine (laws_FnExactForestOk.s k a0_0 a0_1 a0_2 a0_3 a0_4 a0_5z a0_5).trans (Eq.trans ?_ (laws_FnExactForestOk.b_nat laws_FnExactForestOk.enc some k a0_0 a0_1 a0_2 a0_3 a0_4 a0_5z a0_5))
  simp only [Option.map_some]
theorem laws_FnExactForestOk.sound (k : Nat) : SoundF Try.prog 4 (fun a => (laws_FnExactForestOk.ans k a).val) := by
  refine sound_plain (fun args res h => ?_) (fun t n => rfl)
  unfold laws_FnExactForestOk.ans at h
  dsimp only at h
  split at h
  · cases k with
    | zero => cases h
    | succ k =>
      unfold Ans.val at h
      rw [← laws_FnExactForestOk.eq] at h
      exact answer_sound mixed Try.func4 _ _ _ (k + 1) (fun j _ => tab_sound (tab_cons (laws_szForest.sound j) (tab_cons (laws_toForest.sound j) (tab_cons (spec_ForestOk.sound j) (tab_cons (impl_ForestOk.sound j) (tab_cons (laws_eqForest.sound j) (tab_nil))))))) _ _ h
  · exact (Ans.no_val h).elim
end Go.Proofs.YtadnejogdohfkaaG
