/- What the functions compute, printed by a program of this repo; each is shown to be what the machine of values answers. No condition. -/
import Derived.Test.YthocpcfjfgnkgaaProg
import Derived.KernelRfl
import Derived.Test.YthocpcfjfgnkgaaGFnTwicec
namespace Go.Proofs.YthocpcfjfgnkgaaG
open Go Go.Proofs.YthocpcfjfgnkgaaRv Go.Proofs
set_option linter.unusedVariables false
set_option linter.unusedSimpArgs false
/-! slices.IndexFunc[[]loop.example/g00790/impl.Vote,loop.example/g00790/impl.Vote] -/
def impl_Vote_62_v1.b {R : Type} (ret : Int → Option R) (j0 : Bool → (List T) → Int → Int → Int → Bool → (List Int) → Int → Bool → (List Int) → Bool → (List T) → Int → Int → Option R) (k : Nat) (a0z : Bool) (a0 : List T) (a1_0_0 : Int) (a1_1_0_0_0 : Int) (a1_1_0_0_1 : Int) (a1_1_0_0_2z : Bool) (a1_1_0_0_2 : List Int) (a1_1_0_0_3 : Int) (a1_1_0_0_4z : Bool) (a1_1_0_0_4 : List Int) (a1_2_0z : Bool) (a1_2_0 : List T) : Option R :=
  j0 a0z a0 a1_0_0 a1_1_0_0_0 a1_1_0_0_1 a1_1_0_0_2z a1_1_0_0_2 a1_1_0_0_3 a1_1_0_0_4z a1_1_0_0_4 a1_2_0z a1_2_0 ((a0).length : Int) 0
def impl_Vote_62_v1.l0b {R : Type} (ret : Int → Option R) (j0 : Bool → (List T) → Int → Int → Int → Bool → (List Int) → Int → Bool → (List Int) → Bool → (List T) → Int → Int → Option R) (k : Nat) (x0z : Bool) (x0 : List T) (x1_0_0 : Int) (x1_1_0_0_0 : Int) (x1_1_0_0_1 : Int) (x1_1_0_0_2z : Bool) (x1_1_0_0_2 : List Int) (x1_1_0_0_3 : Int) (x1_1_0_0_4z : Bool) (x1_1_0_0_4 : List Int) (x1_2_0z : Bool) (x1_2_0 : List T) (x7 : Int) (x8 : Int) : Option R :=
  cond (decide (x8 < x7)) (cond (decide ((0 : Int) ≤ x8)) (cond (decide (x8 < ((x0).length : Int))) ((impl_hasVote_1_v1.f k (((((x0).getD (x8).toNat .bad).cells.getD 0 .bad)).toInt) (((((x0).getD (x8).toNat .bad).cells.getD 1 .bad)).toInt) (((((x0).getD (x8).toNat .bad).cells.getD 2 .bad)).isNil) (((((x0).getD (x8).toNat .bad).cells.getD 2 .bad)).toNums) (((((x0).getD (x8).toNat .bad).cells.getD 3 .bad)).toInt) (((((x0).getD (x8).toNat .bad).cells.getD 4 .bad)).isNil) (((((x0).getD (x8).toNat .bad).cells.getD 4 .bad)).toNums) x1_0_0 x1_1_0_0_0 x1_1_0_0_1 x1_1_0_0_2z x1_1_0_0_2 x1_1_0_0_3 x1_1_0_0_4z x1_1_0_0_4 x1_2_0z x1_2_0).bind fun t0 => cond t0 (ret x8) (j0 x0z x0 x1_0_0 x1_1_0_0_0 x1_1_0_0_1 x1_1_0_0_2z x1_1_0_0_2 x1_1_0_0_3 x1_1_0_0_4z x1_1_0_0_4 x1_2_0z x1_2_0 x7 (RowKit.wrap64 (x8 + 1)))) (none)) (none)) (ret (-1))
def impl_Vote_62_v1.l0 : Nat → Bool → (List T) → Int → Int → Int → Bool → (List Int) → Int → Bool → (List Int) → Bool → (List T) → Int → Int → Option Int
  | 0, _, _, _, _, _, _, _, _, _, _, _, _, _, _ => none
  | k + 1, x0z, x0, x1_0_0, x1_1_0_0_0, x1_1_0_0_1, x1_1_0_0_2z, x1_1_0_0_2, x1_1_0_0_3, x1_1_0_0_4z, x1_1_0_0_4, x1_2_0z, x1_2_0, x7, x8 => impl_Vote_62_v1.l0b some (impl_Vote_62_v1.l0 k) k x0z x0 x1_0_0 x1_1_0_0_0 x1_1_0_0_1 x1_1_0_0_2z x1_1_0_0_2 x1_1_0_0_3 x1_1_0_0_4z x1_1_0_0_4 x1_2_0z x1_2_0 x7 x8
def impl_Vote_62_v1.f : Nat → Bool → (List T) → Int → Int → Int → Bool → (List Int) → Int → Bool → (List Int) → Bool → (List T) → Option Int
  | 0, _, _, _, _, _, _, _, _, _, _, _, _ => none
  | k + 1, a0z, a0, a1_0_0, a1_1_0_0_0, a1_1_0_0_1, a1_1_0_0_2z, a1_1_0_0_2, a1_1_0_0_3, a1_1_0_0_4z, a1_1_0_0_4, a1_2_0z, a1_2_0 => impl_Vote_62_v1.b some (impl_Vote_62_v1.l0 k) k a0z a0 a1_0_0 a1_1_0_0_0 a1_1_0_0_1 a1_1_0_0_2z a1_1_0_0_2 a1_1_0_0_3 a1_1_0_0_4z a1_1_0_0_4 a1_2_0z a1_2_0
def impl_Vote_62_v1.enc (r : Int) : Res := ⟨[.vals false [((.int .i64 r), true)]], []⟩
def impl_Vote_62_v1.ans (k : Nat) : List Arg → Ans
  | [.v (.sl 33 a0z a0), .v (.fn 45 [(.ptr [(.int .i64 a1_0_0)]), (.ptr [(.fn 26 [(.ptr [(.int .i64 a1_1_0_0_0), (.int .i64 a1_1_0_0_1), (.nums 5 .u8 a1_1_0_0_2z a1_1_0_0_2), (.int .i64 a1_1_0_0_3), (.nums 5 .u8 a1_1_0_0_4z a1_1_0_0_4)])])]), (.ptr [(.sl 82 a1_2_0z a1_2_0)])])] => ⟨impl_Vote_62_v1.f k a0z a0 a1_0_0 a1_1_0_0_0 a1_1_0_0_1 a1_1_0_0_2z a1_1_0_0_2 a1_1_0_0_3 a1_1_0_0_4z a1_1_0_0_4 a1_2_0z a1_2_0, impl_Vote_62_v1.enc⟩
  | _ => Ans.no
def impl_Vote_62_v1.Cs (k : Nat) : CallSem := tab [(45, impl_hasVote_1_v1.ans k)]
def impl_Vote_62_v1.cuts : List (Nat × Keep) := [(26, ⟨[(0, some []), (1, some []), (7, some []), (8, some [])], []⟩)]
noncomputable def impl_Vote_62_v1.K0 : List Fr := framesAt [true, false, true, false] (bodyOf Try.f62 impl_Vote_62_v1.cuts) []
def impl_Vote_62_v1.N0 (x0z : Bool) (x0 : List T) (x1_0_0 : Int) (x1_1_0_0_0 : Int) (x1_1_0_0_1 : Int) (x1_1_0_0_2z : Bool) (x1_1_0_0_2 : List Int) (x1_1_0_0_3 : Int) (x1_1_0_0_4z : Bool) (x1_1_0_0_4 : List Int) (x1_2_0z : Bool) (x1_2_0 : List T) (x7 : Int) (x8 : Int) : St := stOf 19 19 2 [(0, .val ⟨(.sl 33 x0z x0), [], false, none⟩), (1, .val ⟨(.fn 45 [(.ptr [(.int .i64 x1_0_0)]), (.ptr [(.fn 26 [(.ptr [(.int .i64 x1_1_0_0_0), (.int .i64 x1_1_0_0_1), (.nums 5 .u8 x1_1_0_0_2z x1_1_0_0_2), (.int .i64 x1_1_0_0_3), (.nums 5 .u8 x1_1_0_0_4z x1_1_0_0_4)])])]), (.ptr [(.sl 82 x1_2_0z x1_2_0)])]), [], false, none⟩), (7, .val (V.s (.int .i64 x7))), (8, .val (V.s (.int .i64 x8)))] []
theorem impl_Vote_62_v1.s (k : Nat) (a0z : Bool) (a0 : List T) (a1_0_0 : Int) (a1_1_0_0_0 : Int) (a1_1_0_0_1 : Int) (a1_1_0_0_2z : Bool) (a1_1_0_0_2 : List Int) (a1_1_0_0_3 : Int) (a1_1_0_0_4z : Bool) (a1_1_0_0_4 : List Int) (a1_2_0z : Bool) (a1_2_0 : List T) : answer Try.prog impl_Vote_62_v1.Cs 100000 impl_Vote_62_v1.cuts [] Try.f62 (k + 1) [.v (.sl 33 a0z a0), .v (.fn 45 [(.ptr [(.int .i64 a1_0_0)]), (.ptr [(.fn 26 [(.ptr [(.int .i64 a1_1_0_0_0), (.int .i64 a1_1_0_0_1), (.nums 5 .u8 a1_1_0_0_2z a1_1_0_0_2), (.int .i64 a1_1_0_0_3), (.nums 5 .u8 a1_1_0_0_4z a1_1_0_0_4)])])]), (.ptr [(.sl 82 a1_2_0z a1_2_0)])])] = impl_Vote_62_v1.b (fun r => some (impl_Vote_62_v1.enc r)) (fun x0z x0 x1_0_0 x1_1_0_0_0 x1_1_0_0_1 x1_1_0_0_2z x1_1_0_0_2 x1_1_0_0_3 x1_1_0_0_4z x1_1_0_0_4 x1_2_0z x1_2_0 x7 x8 => rounds Try.prog impl_Vote_62_v1.Cs (finish Try.prog [] Try.f62 [.v (.sl 33 a0z a0), .v (.fn 45 [(.ptr [(.int .i64 a1_0_0)]), (.ptr [(.fn 26 [(.ptr [(.int .i64 a1_1_0_0_0), (.int .i64 a1_1_0_0_1), (.nums 5 .u8 a1_1_0_0_2z a1_1_0_0_2), (.int .i64 a1_1_0_0_3), (.nums 5 .u8 a1_1_0_0_4z a1_1_0_0_4)])])]), (.ptr [(.sl 82 a1_2_0z a1_2_0)])])]) 100000 k impl_Vote_62_v1.K0 (impl_Vote_62_v1.N0 x0z x0 x1_0_0 x1_1_0_0_0 x1_1_0_0_1 x1_1_0_0_2z x1_1_0_0_2 x1_1_0_0_3 x1_1_0_0_4z x1_1_0_0_4 x1_2_0z x1_2_0 x7 x8)) k a0z a0 a1_0_0 a1_1_0_0_0 a1_1_0_0_1 a1_1_0_0_2z a1_1_0_0_2 a1_1_0_0_3 a1_1_0_0_4z a1_1_0_0_4 a1_2_0z a1_2_0 := by kernel_rfl
theorem impl_Vote_62_v1.s0 (k : Nat) (G : List Fr → St → Option Res) (a0z : Bool) (a0 : List T) (a1_0_0 : Int) (a1_1_0_0_0 : Int) (a1_1_0_0_1 : Int) (a1_1_0_0_2z : Bool) (a1_1_0_0_2 : List Int) (a1_1_0_0_3 : Int) (a1_1_0_0_4z : Bool) (a1_1_0_0_4 : List Int) (a1_2_0z : Bool) (a1_2_0 : List T) (yx0z : Bool) (yx0 : List T) (yx1_0_0 : Int) (yx1_1_0_0_0 : Int) (yx1_1_0_0_1 : Int) (yx1_1_0_0_2z : Bool) (yx1_1_0_0_2 : List Int) (yx1_1_0_0_3 : Int) (yx1_1_0_0_4z : Bool) (yx1_1_0_0_4 : List Int) (yx1_2_0z : Bool) (yx1_2_0 : List T) (yx7 : Int) (yx8 : Int) : resume Try.prog (impl_Vote_62_v1.Cs k) G (finish Try.prog [] Try.f62 [.v (.sl 33 a0z a0), .v (.fn 45 [(.ptr [(.int .i64 a1_0_0)]), (.ptr [(.fn 26 [(.ptr [(.int .i64 a1_1_0_0_0), (.int .i64 a1_1_0_0_1), (.nums 5 .u8 a1_1_0_0_2z a1_1_0_0_2), (.int .i64 a1_1_0_0_3), (.nums 5 .u8 a1_1_0_0_4z a1_1_0_0_4)])])]), (.ptr [(.sl 82 a1_2_0z a1_2_0)])])]) 100000 impl_Vote_62_v1.K0 (impl_Vote_62_v1.N0 yx0z yx0 yx1_0_0 yx1_1_0_0_0 yx1_1_0_0_1 yx1_1_0_0_2z yx1_1_0_0_2 yx1_1_0_0_3 yx1_1_0_0_4z yx1_1_0_0_4 yx1_2_0z yx1_2_0 yx7 yx8) = impl_Vote_62_v1.l0b (fun r => some (impl_Vote_62_v1.enc r)) (fun x0z x0 x1_0_0 x1_1_0_0_0 x1_1_0_0_1 x1_1_0_0_2z x1_1_0_0_2 x1_1_0_0_3 x1_1_0_0_4z x1_1_0_0_4 x1_2_0z x1_2_0 x7 x8 => G impl_Vote_62_v1.K0 (impl_Vote_62_v1.N0 x0z x0 x1_0_0 x1_1_0_0_0 x1_1_0_0_1 x1_1_0_0_2z x1_1_0_0_2 x1_1_0_0_3 x1_1_0_0_4z x1_1_0_0_4 x1_2_0z x1_2_0 x7 x8)) k yx0z yx0 yx1_0_0 yx1_1_0_0_0 yx1_1_0_0_1 yx1_1_0_0_2z yx1_1_0_0_2 yx1_1_0_0_3 yx1_1_0_0_4z yx1_1_0_0_4 yx1_2_0z yx1_2_0 yx7 yx8 := by kernel_rfl
theorem impl_Vote_62_v1.b_nat {R R' : Type} (e : R → R') (ret : Int → Option R) (j0 : Bool → (List T) → Int → Int → Int → Bool → (List Int) → Int → Bool → (List Int) → Bool → (List T) → Int → Int → Option R) (k : Nat) (a0z : Bool) (a0 : List T) (a1_0_0 : Int) (a1_1_0_0_0 : Int) (a1_1_0_0_1 : Int) (a1_1_0_0_2z : Bool) (a1_1_0_0_2 : List Int) (a1_1_0_0_3 : Int) (a1_1_0_0_4z : Bool) (a1_1_0_0_4 : List Int) (a1_2_0z : Bool) (a1_2_0 : List T) : impl_Vote_62_v1.b (fun r => (ret r).map e) (fun x0z x0 x1_0_0 x1_1_0_0_0 x1_1_0_0_1 x1_1_0_0_2z x1_1_0_0_2 x1_1_0_0_3 x1_1_0_0_4z x1_1_0_0_4 x1_2_0z x1_2_0 x7 x8 => (j0 x0z x0 x1_0_0 x1_1_0_0_0 x1_1_0_0_1 x1_1_0_0_2z x1_1_0_0_2 x1_1_0_0_3 x1_1_0_0_4z x1_1_0_0_4 x1_2_0z x1_2_0 x7 x8).map e) k a0z a0 a1_0_0 a1_1_0_0_0 a1_1_0_0_1 a1_1_0_0_2z a1_1_0_0_2 a1_1_0_0_3 a1_1_0_0_4z a1_1_0_0_4 a1_2_0z a1_2_0 = (impl_Vote_62_v1.b ret j0 k a0z a0 a1_0_0 a1_1_0_0_0 a1_1_0_0_1 a1_1_0_0_2z a1_1_0_0_2 a1_1_0_0_3 a1_1_0_0_4z a1_1_0_0_4 a1_2_0z a1_2_0).map e := by
  unfold impl_Vote_62_v1.b
  repeat' first | with_reducible refine nat_cond ?_ ?_ | with_reducible refine nat_bind fun _ => ?_ | rfl
theorem impl_Vote_62_v1.l0b_nat {R R' : Type} (e : R → R') (ret : Int → Option R) (j0 : Bool → (List T) → Int → Int → Int → Bool → (List Int) → Int → Bool → (List Int) → Bool → (List T) → Int → Int → Option R) (k : Nat) (x0z : Bool) (x0 : List T) (x1_0_0 : Int) (x1_1_0_0_0 : Int) (x1_1_0_0_1 : Int) (x1_1_0_0_2z : Bool) (x1_1_0_0_2 : List Int) (x1_1_0_0_3 : Int) (x1_1_0_0_4z : Bool) (x1_1_0_0_4 : List Int) (x1_2_0z : Bool) (x1_2_0 : List T) (x7 : Int) (x8 : Int) : impl_Vote_62_v1.l0b (fun r => (ret r).map e) (fun x0z x0 x1_0_0 x1_1_0_0_0 x1_1_0_0_1 x1_1_0_0_2z x1_1_0_0_2 x1_1_0_0_3 x1_1_0_0_4z x1_1_0_0_4 x1_2_0z x1_2_0 x7 x8 => (j0 x0z x0 x1_0_0 x1_1_0_0_0 x1_1_0_0_1 x1_1_0_0_2z x1_1_0_0_2 x1_1_0_0_3 x1_1_0_0_4z x1_1_0_0_4 x1_2_0z x1_2_0 x7 x8).map e) k x0z x0 x1_0_0 x1_1_0_0_0 x1_1_0_0_1 x1_1_0_0_2z x1_1_0_0_2 x1_1_0_0_3 x1_1_0_0_4z x1_1_0_0_4 x1_2_0z x1_2_0 x7 x8 = (impl_Vote_62_v1.l0b ret j0 k x0z x0 x1_0_0 x1_1_0_0_0 x1_1_0_0_1 x1_1_0_0_2z x1_1_0_0_2 x1_1_0_0_3 x1_1_0_0_4z x1_1_0_0_4 x1_2_0z x1_2_0 x7 x8).map e := by
  unfold impl_Vote_62_v1.l0b
  repeat' first | with_reducible refine nat_cond ?_ ?_ | with_reducible refine nat_bind fun _ => ?_ | rfl
theorem impl_Vote_62_v1.rounds_eq (a0z : Bool) (a0 : List T) (a1_0_0 : Int) (a1_1_0_0_0 : Int) (a1_1_0_0_1 : Int) (a1_1_0_0_2z : Bool) (a1_1_0_0_2 : List Int) (a1_1_0_0_3 : Int) (a1_1_0_0_4z : Bool) (a1_1_0_0_4 : List Int) (a1_2_0z : Bool) (a1_2_0 : List T) : ∀ k, (∀ (x0z : Bool) (x0 : List T) (x1_0_0 : Int) (x1_1_0_0_0 : Int) (x1_1_0_0_1 : Int) (x1_1_0_0_2z : Bool) (x1_1_0_0_2 : List Int) (x1_1_0_0_3 : Int) (x1_1_0_0_4z : Bool) (x1_1_0_0_4 : List Int) (x1_2_0z : Bool) (x1_2_0 : List T) (x7 : Int) (x8 : Int), rounds Try.prog impl_Vote_62_v1.Cs (finish Try.prog [] Try.f62 [.v (.sl 33 a0z a0), .v (.fn 45 [(.ptr [(.int .i64 a1_0_0)]), (.ptr [(.fn 26 [(.ptr [(.int .i64 a1_1_0_0_0), (.int .i64 a1_1_0_0_1), (.nums 5 .u8 a1_1_0_0_2z a1_1_0_0_2), (.int .i64 a1_1_0_0_3), (.nums 5 .u8 a1_1_0_0_4z a1_1_0_0_4)])])]), (.ptr [(.sl 82 a1_2_0z a1_2_0)])])]) 100000 k impl_Vote_62_v1.K0 (impl_Vote_62_v1.N0 x0z x0 x1_0_0 x1_1_0_0_0 x1_1_0_0_1 x1_1_0_0_2z x1_1_0_0_2 x1_1_0_0_3 x1_1_0_0_4z x1_1_0_0_4 x1_2_0z x1_2_0 x7 x8) = (impl_Vote_62_v1.l0 k x0z x0 x1_0_0 x1_1_0_0_0 x1_1_0_0_1 x1_1_0_0_2z x1_1_0_0_2 x1_1_0_0_3 x1_1_0_0_4z x1_1_0_0_4 x1_2_0z x1_2_0 x7 x8).map impl_Vote_62_v1.enc)
  | 0 => fun _ _ _ _ _ _ _ _ _ _ _ _ _ _ => rfl
  | k + 1 => by
    have ih := impl_Vote_62_v1.rounds_eq a0z a0 a1_0_0 a1_1_0_0_0 a1_1_0_0_1 a1_1_0_0_2z a1_1_0_0_2 a1_1_0_0_3 a1_1_0_0_4z a1_1_0_0_4 a1_2_0z a1_2_0 k
    refine fun _ _ _ _ _ _ _ _ _ _ _ _ _ _ => ?_
    · refine (impl_Vote_62_v1.s0 k _ a0z a0 a1_0_0 a1_1_0_0_0 a1_1_0_0_1 a1_1_0_0_2z a1_1_0_0_2 a1_1_0_0_3 a1_1_0_0_4z a1_1_0_0_4 a1_2_0z a1_2_0 _ _ _ _ _ _ _ _ _ _ _ _ _ _).trans (Eq.trans ?_ (impl_Vote_62_v1.l0b_nat impl_Vote_62_v1.enc some (impl_Vote_62_v1.l0 k) k _ _ _ _ _ _ _ _ _ _ _ _ _ _))
      simp only [ih, Option.map_some]
theorem impl_Vote_62_v1.eq (k : Nat) (a0z : Bool) (a0 : List T) (a1_0_0 : Int) (a1_1_0_0_0 : Int) (a1_1_0_0_1 : Int) (a1_1_0_0_2z : Bool) (a1_1_0_0_2 : List Int) (a1_1_0_0_3 : Int) (a1_1_0_0_4z : Bool) (a1_1_0_0_4 : List Int) (a1_2_0z : Bool) (a1_2_0 : List T) : answer Try.prog impl_Vote_62_v1.Cs 100000 impl_Vote_62_v1.cuts [] Try.f62 (k + 1) [.v (.sl 33 a0z a0), .v (.fn 45 [(.ptr [(.int .i64 a1_0_0)]), (.ptr [(.fn 26 [(.ptr [(.int .i64 a1_1_0_0_0), (.int .i64 a1_1_0_0_1), (.nums 5 .u8 a1_1_0_0_2z a1_1_0_0_2), (.int .i64 a1_1_0_0_3), (.nums 5 .u8 a1_1_0_0_4z a1_1_0_0_4)])])]), (.ptr [(.sl 82 a1_2_0z a1_2_0)])])] = (impl_Vote_62_v1.f (k + 1) a0z a0 a1_0_0 a1_1_0_0_0 a1_1_0_0_1 a1_1_0_0_2z a1_1_0_0_2 a1_1_0_0_3 a1_1_0_0_4z a1_1_0_0_4 a1_2_0z a1_2_0).map impl_Vote_62_v1.enc := by
  have ih := impl_Vote_62_v1.rounds_eq a0z a0 a1_0_0 a1_1_0_0_0 a1_1_0_0_1 a1_1_0_0_2z a1_1_0_0_2 a1_1_0_0_3 a1_1_0_0_4z a1_1_0_0_4 a1_2_0z a1_2_0 k
  refine (impl_Vote_62_v1.s k a0z a0 a1_0_0 a1_1_0_0_0 a1_1_0_0_1 a1_1_0_0_2z a1_1_0_0_2 a1_1_0_0_3 a1_1_0_0_4z a1_1_0_0_4 a1_2_0z a1_2_0).trans (Eq.trans ?_ (impl_Vote_62_v1.b_nat impl_Vote_62_v1.enc some (impl_Vote_62_v1.l0 k) k a0z a0 a1_0_0 a1_1_0_0_0 a1_1_0_0_1 a1_1_0_0_2z a1_1_0_0_2 a1_1_0_0_3 a1_1_0_0_4z a1_1_0_0_4 a1_2_0z a1_2_0))
  simp only [ih, Option.map_some]
theorem impl_Vote_62_v1.sound (k : Nat) : SoundF Try.prog 62 (fun a => (impl_Vote_62_v1.ans k a).val) := by
  refine sound_plain (fun args res h => ?_) (fun t n => rfl)
  unfold impl_Vote_62_v1.ans at h
  dsimp only at h
  split at h
  · cases k with
    | zero => cases h
    | succ k =>
      unfold Ans.val at h
      rw [← impl_Vote_62_v1.eq] at h
      exact answer_sound mixed Try.func62 _ _ _ (k + 1) (fun j _ => tab_sound (tab_cons (impl_hasVote_1_v1.sound j) (tab_nil))) _ _ h
  · exact (Ans.no_val h).elim

/-! slices.ContainsFunc[[]loop.example/g00790/impl.Vote,loop.example/g00790/impl.Vote] -/
def impl_Vote_v1.b {R : Type} (ret : Bool → Option R) (k : Nat) (a0z : Bool) (a0 : List T) (a1_0_0 : Int) (a1_1_0_0_0 : Int) (a1_1_0_0_1 : Int) (a1_1_0_0_2z : Bool) (a1_1_0_0_2 : List Int) (a1_1_0_0_3 : Int) (a1_1_0_0_4z : Bool) (a1_1_0_0_4 : List Int) (a1_2_0z : Bool) (a1_2_0 : List T) : Option R :=
  (impl_Vote_62_v1.f k a0z a0 a1_0_0 a1_1_0_0_0 a1_1_0_0_1 a1_1_0_0_2z a1_1_0_0_2 a1_1_0_0_3 a1_1_0_0_4z a1_1_0_0_4 a1_2_0z a1_2_0).bind fun t0 => ret (decide (t0 ≥ 0))
def impl_Vote_v1.f : Nat → Bool → (List T) → Int → Int → Int → Bool → (List Int) → Int → Bool → (List Int) → Bool → (List T) → Option Bool
  | 0, _, _, _, _, _, _, _, _, _, _, _, _ => none
  | k + 1, a0z, a0, a1_0_0, a1_1_0_0_0, a1_1_0_0_1, a1_1_0_0_2z, a1_1_0_0_2, a1_1_0_0_3, a1_1_0_0_4z, a1_1_0_0_4, a1_2_0z, a1_2_0 => impl_Vote_v1.b some k a0z a0 a1_0_0 a1_1_0_0_0 a1_1_0_0_1 a1_1_0_0_2z a1_1_0_0_2 a1_1_0_0_3 a1_1_0_0_4z a1_1_0_0_4 a1_2_0z a1_2_0
def impl_Vote_v1.enc (r : Bool) : Res := ⟨[.vals false [((.bool r), true)]], []⟩
def impl_Vote_v1.ans (k : Nat) : List Arg → Ans
  | [.v (.sl 33 a0z a0), .v (.fn 45 [(.ptr [(.int .i64 a1_0_0)]), (.ptr [(.fn 26 [(.ptr [(.int .i64 a1_1_0_0_0), (.int .i64 a1_1_0_0_1), (.nums 5 .u8 a1_1_0_0_2z a1_1_0_0_2), (.int .i64 a1_1_0_0_3), (.nums 5 .u8 a1_1_0_0_4z a1_1_0_0_4)])])]), (.ptr [(.sl 82 a1_2_0z a1_2_0)])])] => ⟨impl_Vote_v1.f k a0z a0 a1_0_0 a1_1_0_0_0 a1_1_0_0_1 a1_1_0_0_2z a1_1_0_0_2 a1_1_0_0_3 a1_1_0_0_4z a1_1_0_0_4 a1_2_0z a1_2_0, impl_Vote_v1.enc⟩
  | _ => Ans.no
def impl_Vote_v1.Cs (k : Nat) : CallSem := tab [(62, impl_Vote_62_v1.ans k)]
def impl_Vote_v1.cuts : List (Nat × Keep) := []
theorem impl_Vote_v1.s (k : Nat) (a0z : Bool) (a0 : List T) (a1_0_0 : Int) (a1_1_0_0_0 : Int) (a1_1_0_0_1 : Int) (a1_1_0_0_2z : Bool) (a1_1_0_0_2 : List Int) (a1_1_0_0_3 : Int) (a1_1_0_0_4z : Bool) (a1_1_0_0_4 : List Int) (a1_2_0z : Bool) (a1_2_0 : List T) : answer Try.prog impl_Vote_v1.Cs 100000 impl_Vote_v1.cuts [] Try.f44 (k + 1) [.v (.sl 33 a0z a0), .v (.fn 45 [(.ptr [(.int .i64 a1_0_0)]), (.ptr [(.fn 26 [(.ptr [(.int .i64 a1_1_0_0_0), (.int .i64 a1_1_0_0_1), (.nums 5 .u8 a1_1_0_0_2z a1_1_0_0_2), (.int .i64 a1_1_0_0_3), (.nums 5 .u8 a1_1_0_0_4z a1_1_0_0_4)])])]), (.ptr [(.sl 82 a1_2_0z a1_2_0)])])] = impl_Vote_v1.b (fun r => some (impl_Vote_v1.enc r)) k a0z a0 a1_0_0 a1_1_0_0_0 a1_1_0_0_1 a1_1_0_0_2z a1_1_0_0_2 a1_1_0_0_3 a1_1_0_0_4z a1_1_0_0_4 a1_2_0z a1_2_0 := by kernel_rfl
theorem impl_Vote_v1.b_nat {R R' : Type} (e : R → R') (ret : Bool → Option R) (k : Nat) (a0z : Bool) (a0 : List T) (a1_0_0 : Int) (a1_1_0_0_0 : Int) (a1_1_0_0_1 : Int) (a1_1_0_0_2z : Bool) (a1_1_0_0_2 : List Int) (a1_1_0_0_3 : Int) (a1_1_0_0_4z : Bool) (a1_1_0_0_4 : List Int) (a1_2_0z : Bool) (a1_2_0 : List T) : impl_Vote_v1.b (fun r => (ret r).map e) k a0z a0 a1_0_0 a1_1_0_0_0 a1_1_0_0_1 a1_1_0_0_2z a1_1_0_0_2 a1_1_0_0_3 a1_1_0_0_4z a1_1_0_0_4 a1_2_0z a1_2_0 = (impl_Vote_v1.b ret k a0z a0 a1_0_0 a1_1_0_0_0 a1_1_0_0_1 a1_1_0_0_2z a1_1_0_0_2 a1_1_0_0_3 a1_1_0_0_4z a1_1_0_0_4 a1_2_0z a1_2_0).map e := by
  unfold impl_Vote_v1.b
  repeat' first | with_reducible refine nat_cond ?_ ?_ | with_reducible refine nat_bind fun _ => ?_ | rfl
theorem impl_Vote_v1.eq (k : Nat) (a0z : Bool) (a0 : List T) (a1_0_0 : Int) (a1_1_0_0_0 : Int) (a1_1_0_0_1 : Int) (a1_1_0_0_2z : Bool) (a1_1_0_0_2 : List Int) (a1_1_0_0_3 : Int) (a1_1_0_0_4z : Bool) (a1_1_0_0_4 : List Int) (a1_2_0z : Bool) (a1_2_0 : List T) : answer Try.prog impl_Vote_v1.Cs 100000 impl_Vote_v1.cuts [] Try.f44 (k + 1) [.v (.sl 33 a0z a0), .v (.fn 45 [(.ptr [(.int .i64 a1_0_0)]), (.ptr [(.fn 26 [(.ptr [(.int .i64 a1_1_0_0_0), (.int .i64 a1_1_0_0_1), (.nums 5 .u8 a1_1_0_0_2z a1_1_0_0_2), (.int .i64 a1_1_0_0_3), (.nums 5 .u8 a1_1_0_0_4z a1_1_0_0_4)])])]), (.ptr [(.sl 82 a1_2_0z a1_2_0)])])] = (impl_Vote_v1.f (k + 1) a0z a0 a1_0_0 a1_1_0_0_0 a1_1_0_0_1 a1_1_0_0_2z a1_1_0_0_2 a1_1_0_0_3 a1_1_0_0_4z a1_1_0_0_4 a1_2_0z a1_2_0).map impl_Vote_v1.enc := by
  refine (impl_Vote_v1.s k a0z a0 a1_0_0 a1_1_0_0_0 a1_1_0_0_1 a1_1_0_0_2z a1_1_0_0_2 a1_1_0_0_3 a1_1_0_0_4z a1_1_0_0_4 a1_2_0z a1_2_0).trans (Eq.trans ?_ (impl_Vote_v1.b_nat impl_Vote_v1.enc some k a0z a0 a1_0_0 a1_1_0_0_0 a1_1_0_0_1 a1_1_0_0_2z a1_1_0_0_2 a1_1_0_0_3 a1_1_0_0_4z a1_1_0_0_4 a1_2_0z a1_2_0))
  simp only [Option.map_some]
theorem impl_Vote_v1.sound (k : Nat) : SoundF Try.prog 44 (fun a => (impl_Vote_v1.ans k a).val) := by
  refine sound_plain (fun args res h => ?_) (fun t n => rfl)
  unfold impl_Vote_v1.ans at h
  dsimp only at h
  split at h
  · cases k with
    | zero => cases h
    | succ k =>
      unfold Ans.val at h
      rw [← impl_Vote_v1.eq] at h
      exact answer_sound mixed Try.func44 _ _ _ (k + 1) (fun j _ => tab_sound (tab_cons (impl_Vote_62_v1.sound j) (tab_nil))) _ _ h
  · exact (Ans.no_val h).elim

/-! loop.example/g00790/impl.hasVote -/
def impl_hasVote_v1.b {R : Type} (ret : Bool → Option R) (k : Nat) (a0_0z : Bool) (a0_0 : List T) (a1z : Bool) (a1 : List T) (a2 : Int) (a3_0_0 : Int) (a3_0_1 : Int) (a3_0_2z : Bool) (a3_0_2 : List Int) (a3_0_3 : Int) (a3_0_4z : Bool) (a3_0_4 : List Int) : Option R :=
  (impl_Vote_v1.f k a1z a1 a2 a3_0_0 a3_0_1 a3_0_2z a3_0_2 a3_0_3 a3_0_4z a3_0_4 a0_0z a0_0).bind fun t0 => ret t0
def impl_hasVote_v1.f : Nat → Bool → (List T) → Bool → (List T) → Int → Int → Int → Bool → (List Int) → Int → Bool → (List Int) → Option Bool
  | 0, _, _, _, _, _, _, _, _, _, _, _, _ => none
  | k + 1, a0_0z, a0_0, a1z, a1, a2, a3_0_0, a3_0_1, a3_0_2z, a3_0_2, a3_0_3, a3_0_4z, a3_0_4 => impl_hasVote_v1.b some k a0_0z a0_0 a1z a1 a2 a3_0_0 a3_0_1 a3_0_2z a3_0_2 a3_0_3 a3_0_4z a3_0_4
def impl_hasVote_v1.enc (r : Bool) : Res := ⟨[.vals false [((.bool r), true)]], []⟩
def impl_hasVote_v1.ans (k : Nat) : List Arg → Ans
  | [.v (.agg [(.sl 82 a0_0z a0_0)]), .v (.sl 33 a1z a1), .v (.int .i64 a2), .v (.fn 26 [(.ptr [(.int .i64 a3_0_0), (.int .i64 a3_0_1), (.nums 5 .u8 a3_0_2z a3_0_2), (.int .i64 a3_0_3), (.nums 5 .u8 a3_0_4z a3_0_4)])])] => ⟨impl_hasVote_v1.f k a0_0z a0_0 a1z a1 a2 a3_0_0 a3_0_1 a3_0_2z a3_0_2 a3_0_3 a3_0_4z a3_0_4, impl_hasVote_v1.enc⟩
  | _ => Ans.no
def impl_hasVote_v1.Cs (k : Nat) : CallSem := tab [(44, impl_Vote_v1.ans k)]
def impl_hasVote_v1.cuts : List (Nat × Keep) := []
theorem impl_hasVote_v1.s (k : Nat) (a0_0z : Bool) (a0_0 : List T) (a1z : Bool) (a1 : List T) (a2 : Int) (a3_0_0 : Int) (a3_0_1 : Int) (a3_0_2z : Bool) (a3_0_2 : List Int) (a3_0_3 : Int) (a3_0_4z : Bool) (a3_0_4 : List Int) : answer Try.prog impl_hasVote_v1.Cs 100000 impl_hasVote_v1.cuts [] Try.f24 (k + 1) [.v (.agg [(.sl 82 a0_0z a0_0)]), .v (.sl 33 a1z a1), .v (.int .i64 a2), .v (.fn 26 [(.ptr [(.int .i64 a3_0_0), (.int .i64 a3_0_1), (.nums 5 .u8 a3_0_2z a3_0_2), (.int .i64 a3_0_3), (.nums 5 .u8 a3_0_4z a3_0_4)])])] = impl_hasVote_v1.b (fun r => some (impl_hasVote_v1.enc r)) k a0_0z a0_0 a1z a1 a2 a3_0_0 a3_0_1 a3_0_2z a3_0_2 a3_0_3 a3_0_4z a3_0_4 := by kernel_rfl
theorem impl_hasVote_v1.b_nat {R R' : Type} (e : R → R') (ret : Bool → Option R) (k : Nat) (a0_0z : Bool) (a0_0 : List T) (a1z : Bool) (a1 : List T) (a2 : Int) (a3_0_0 : Int) (a3_0_1 : Int) (a3_0_2z : Bool) (a3_0_2 : List Int) (a3_0_3 : Int) (a3_0_4z : Bool) (a3_0_4 : List Int) : impl_hasVote_v1.b (fun r => (ret r).map e) k a0_0z a0_0 a1z a1 a2 a3_0_0 a3_0_1 a3_0_2z a3_0_2 a3_0_3 a3_0_4z a3_0_4 = (impl_hasVote_v1.b ret k a0_0z a0_0 a1z a1 a2 a3_0_0 a3_0_1 a3_0_2z a3_0_2 a3_0_3 a3_0_4z a3_0_4).map e := by
  unfold impl_hasVote_v1.b
  repeat' first | with_reducible refine nat_cond ?_ ?_ | with_reducible refine nat_bind fun _ => ?_ | rfl
theorem impl_hasVote_v1.eq (k : Nat) (a0_0z : Bool) (a0_0 : List T) (a1z : Bool) (a1 : List T) (a2 : Int) (a3_0_0 : Int) (a3_0_1 : Int) (a3_0_2z : Bool) (a3_0_2 : List Int) (a3_0_3 : Int) (a3_0_4z : Bool) (a3_0_4 : List Int) : answer Try.prog impl_hasVote_v1.Cs 100000 impl_hasVote_v1.cuts [] Try.f24 (k + 1) [.v (.agg [(.sl 82 a0_0z a0_0)]), .v (.sl 33 a1z a1), .v (.int .i64 a2), .v (.fn 26 [(.ptr [(.int .i64 a3_0_0), (.int .i64 a3_0_1), (.nums 5 .u8 a3_0_2z a3_0_2), (.int .i64 a3_0_3), (.nums 5 .u8 a3_0_4z a3_0_4)])])] = (impl_hasVote_v1.f (k + 1) a0_0z a0_0 a1z a1 a2 a3_0_0 a3_0_1 a3_0_2z a3_0_2 a3_0_3 a3_0_4z a3_0_4).map impl_hasVote_v1.enc := by
  refine (impl_hasVote_v1.s k a0_0z a0_0 a1z a1 a2 a3_0_0 a3_0_1 a3_0_2z a3_0_2 a3_0_3 a3_0_4z a3_0_4).trans (Eq.trans ?_ (impl_hasVote_v1.b_nat impl_hasVote_v1.enc some k a0_0z a0_0 a1z a1 a2 a3_0_0 a3_0_1 a3_0_2z a3_0_2 a3_0_3 a3_0_4z a3_0_4))
  simp only [Option.map_some]
theorem impl_hasVote_v1.sound (k : Nat) : SoundF Try.prog 24 (fun a => (impl_hasVote_v1.ans k a).val) := by
  refine sound_plain (fun args res h => ?_) (fun t n => rfl)
  unfold impl_hasVote_v1.ans at h
  dsimp only at h
  split at h
  · cases k with
    | zero => cases h
    | succ k =>
      unfold Ans.val at h
      rw [← impl_hasVote_v1.eq] at h
      exact answer_sound mixed Try.func24 _ _ _ (k + 1) (fun j _ => tab_sound (tab_cons (impl_Vote_v1.sound j) (tab_nil))) _ _ h
  · exact (Ans.no_val h).elim

/-! loop.example/g00790/impl.Twice$1$1 -/
def impl_Twice_1_1.b {R : Type} (ret : Bool → Option R) (k : Nat) (a0_0 : Int) (a0_1 : Int) (a0_2z : Bool) (a0_2 : List Int) (a0_3 : Int) (a0_4z : Bool) (a0_4 : List Int) (a1_0z : Bool) (a1_0 : List T) (a2_0z : Bool) (a2_0 : List T) (a3_0 : Int) : Option R :=
  (impl_VoteGood.f k a1_0z a1_0 a0_0 a0_1 a0_2z a0_2 a0_3 a0_4z a0_4).bind fun t0 => cond t0 ((impl_hasVote_v1.f k a1_0z a1_0 a2_0z a2_0 a3_0 a0_0 a0_1 a0_2z a0_2 a0_3 a0_4z a0_4).bind fun t1 => ret t1) (ret false)
def impl_Twice_1_1.f : Nat → Int → Int → Bool → (List Int) → Int → Bool → (List Int) → Bool → (List T) → Bool → (List T) → Int → Option Bool
  | 0, _, _, _, _, _, _, _, _, _, _, _, _ => none
  | k + 1, a0_0, a0_1, a0_2z, a0_2, a0_3, a0_4z, a0_4, a1_0z, a1_0, a2_0z, a2_0, a3_0 => impl_Twice_1_1.b some k a0_0 a0_1 a0_2z a0_2 a0_3 a0_4z a0_4 a1_0z a1_0 a2_0z a2_0 a3_0
def impl_Twice_1_1.enc (r : Bool) : Res := ⟨[.vals false [((.bool r), true)]], []⟩
def impl_Twice_1_1.ans (k : Nat) : List Arg → Ans
  | [.v (.agg [(.int .i64 a0_0), (.int .i64 a0_1), (.nums 5 .u8 a0_2z a0_2), (.int .i64 a0_3), (.nums 5 .u8 a0_4z a0_4)]), .v (.ptr [(.sl 82 a1_0z a1_0)]), .v (.ptr [(.sl 33 a2_0z a2_0)]), .v (.ptr [(.int .i64 a3_0)])] => ⟨impl_Twice_1_1.f k a0_0 a0_1 a0_2z a0_2 a0_3 a0_4z a0_4 a1_0z a1_0 a2_0z a2_0 a3_0, impl_Twice_1_1.enc⟩
  | _ => Ans.no
def impl_Twice_1_1.Cs (k : Nat) : CallSem := tab [(8, impl_VoteGood.ans k), (24, impl_hasVote_v1.ans k)]
def impl_Twice_1_1.cuts : List (Nat × Keep) := []
theorem impl_Twice_1_1.s (k : Nat) (a0_0 : Int) (a0_1 : Int) (a0_2z : Bool) (a0_2 : List Int) (a0_3 : Int) (a0_4z : Bool) (a0_4 : List Int) (a1_0z : Bool) (a1_0 : List T) (a2_0z : Bool) (a2_0 : List T) (a3_0 : Int) : answer Try.prog impl_Twice_1_1.Cs 100000 impl_Twice_1_1.cuts [] Try.f25 (k + 1) [.v (.agg [(.int .i64 a0_0), (.int .i64 a0_1), (.nums 5 .u8 a0_2z a0_2), (.int .i64 a0_3), (.nums 5 .u8 a0_4z a0_4)]), .v (.ptr [(.sl 82 a1_0z a1_0)]), .v (.ptr [(.sl 33 a2_0z a2_0)]), .v (.ptr [(.int .i64 a3_0)])] = impl_Twice_1_1.b (fun r => some (impl_Twice_1_1.enc r)) k a0_0 a0_1 a0_2z a0_2 a0_3 a0_4z a0_4 a1_0z a1_0 a2_0z a2_0 a3_0 := by kernel_rfl
theorem impl_Twice_1_1.b_nat {R R' : Type} (e : R → R') (ret : Bool → Option R) (k : Nat) (a0_0 : Int) (a0_1 : Int) (a0_2z : Bool) (a0_2 : List Int) (a0_3 : Int) (a0_4z : Bool) (a0_4 : List Int) (a1_0z : Bool) (a1_0 : List T) (a2_0z : Bool) (a2_0 : List T) (a3_0 : Int) : impl_Twice_1_1.b (fun r => (ret r).map e) k a0_0 a0_1 a0_2z a0_2 a0_3 a0_4z a0_4 a1_0z a1_0 a2_0z a2_0 a3_0 = (impl_Twice_1_1.b ret k a0_0 a0_1 a0_2z a0_2 a0_3 a0_4z a0_4 a1_0z a1_0 a2_0z a2_0 a3_0).map e := by
  unfold impl_Twice_1_1.b
  repeat' first | with_reducible refine nat_cond ?_ ?_ | with_reducible refine nat_bind fun _ => ?_ | rfl
theorem impl_Twice_1_1.eq (k : Nat) (a0_0 : Int) (a0_1 : Int) (a0_2z : Bool) (a0_2 : List Int) (a0_3 : Int) (a0_4z : Bool) (a0_4 : List Int) (a1_0z : Bool) (a1_0 : List T) (a2_0z : Bool) (a2_0 : List T) (a3_0 : Int) : answer Try.prog impl_Twice_1_1.Cs 100000 impl_Twice_1_1.cuts [] Try.f25 (k + 1) [.v (.agg [(.int .i64 a0_0), (.int .i64 a0_1), (.nums 5 .u8 a0_2z a0_2), (.int .i64 a0_3), (.nums 5 .u8 a0_4z a0_4)]), .v (.ptr [(.sl 82 a1_0z a1_0)]), .v (.ptr [(.sl 33 a2_0z a2_0)]), .v (.ptr [(.int .i64 a3_0)])] = (impl_Twice_1_1.f (k + 1) a0_0 a0_1 a0_2z a0_2 a0_3 a0_4z a0_4 a1_0z a1_0 a2_0z a2_0 a3_0).map impl_Twice_1_1.enc := by
  refine (impl_Twice_1_1.s k a0_0 a0_1 a0_2z a0_2 a0_3 a0_4z a0_4 a1_0z a1_0 a2_0z a2_0 a3_0).trans (Eq.trans ?_ (impl_Twice_1_1.b_nat impl_Twice_1_1.enc some k a0_0 a0_1 a0_2z a0_2 a0_3 a0_4z a0_4 a1_0z a1_0 a2_0z a2_0 a3_0))
  simp only [Option.map_some]
theorem impl_Twice_1_1.sound (k : Nat) : SoundF Try.prog 25 (fun a => (impl_Twice_1_1.ans k a).val) := by
  refine sound_plain (fun args res h => ?_) (fun t n => rfl)
  unfold impl_Twice_1_1.ans at h
  dsimp only at h
  split at h
  · cases k with
    | zero => cases h
    | succ k =>
      unfold Ans.val at h
      rw [← impl_Twice_1_1.eq] at h
      exact answer_sound mixed Try.func25 _ _ _ (k + 1) (fun j _ => tab_sound (tab_cons (impl_VoteGood.sound j) (tab_cons (impl_hasVote_v1.sound j) (tab_nil)))) _ _ h
  · exact (Ans.no_val h).elim

/-! loop.example/g00790/impl.hasVote$1 -/
def impl_hasVote_1.b {R : Type} (ret : Bool → Option R) (k : Nat) (a0_0 : Int) (a0_1 : Int) (a0_2z : Bool) (a0_2 : List Int) (a0_3 : Int) (a0_4z : Bool) (a0_4 : List Int) (a1_0 : Int) (a2_0_0_0z : Bool) (a2_0_0_0 : List T) (a2_0_1_0z : Bool) (a2_0_1_0 : List T) (a2_0_2_0 : Int) (a3_0z : Bool) (a3_0 : List T) : Option R :=
  cond (decide (a0_3 = a1_0)) ((impl_Twice_1_1.f k a0_0 a0_1 a0_2z a0_2 a0_3 a0_4z a0_4 a2_0_0_0z a2_0_0_0 a2_0_1_0z a2_0_1_0 a2_0_2_0).bind fun t0 => cond t0 ((impl_VoteGood.f k a3_0z a3_0 a0_0 a0_1 a0_2z a0_2 a0_3 a0_4z a0_4).bind fun t1 => ret t1) (ret false)) (ret false)
def impl_hasVote_1.f : Nat → Int → Int → Bool → (List Int) → Int → Bool → (List Int) → Int → Bool → (List T) → Bool → (List T) → Int → Bool → (List T) → Option Bool
  | 0, _, _, _, _, _, _, _, _, _, _, _, _, _, _, _ => none
  | k + 1, a0_0, a0_1, a0_2z, a0_2, a0_3, a0_4z, a0_4, a1_0, a2_0_0_0z, a2_0_0_0, a2_0_1_0z, a2_0_1_0, a2_0_2_0, a3_0z, a3_0 => impl_hasVote_1.b some k a0_0 a0_1 a0_2z a0_2 a0_3 a0_4z a0_4 a1_0 a2_0_0_0z a2_0_0_0 a2_0_1_0z a2_0_1_0 a2_0_2_0 a3_0z a3_0
def impl_hasVote_1.enc (r : Bool) : Res := ⟨[.vals false [((.bool r), true)]], []⟩
def impl_hasVote_1.ans (k : Nat) : List Arg → Ans
  | [.v (.agg [(.int .i64 a0_0), (.int .i64 a0_1), (.nums 5 .u8 a0_2z a0_2), (.int .i64 a0_3), (.nums 5 .u8 a0_4z a0_4)]), .v (.ptr [(.int .i64 a1_0)]), .v (.ptr [(.fn 25 [(.ptr [(.sl 82 a2_0_0_0z a2_0_0_0)]), (.ptr [(.sl 33 a2_0_1_0z a2_0_1_0)]), (.ptr [(.int .i64 a2_0_2_0)])])]), .v (.ptr [(.sl 82 a3_0z a3_0)])] => ⟨impl_hasVote_1.f k a0_0 a0_1 a0_2z a0_2 a0_3 a0_4z a0_4 a1_0 a2_0_0_0z a2_0_0_0 a2_0_1_0z a2_0_1_0 a2_0_2_0 a3_0z a3_0, impl_hasVote_1.enc⟩
  | _ => Ans.no
def impl_hasVote_1.Cs (k : Nat) : CallSem := tab [(25, impl_Twice_1_1.ans k), (8, impl_VoteGood.ans k)]
def impl_hasVote_1.cuts : List (Nat × Keep) := []
theorem impl_hasVote_1.s (k : Nat) (a0_0 : Int) (a0_1 : Int) (a0_2z : Bool) (a0_2 : List Int) (a0_3 : Int) (a0_4z : Bool) (a0_4 : List Int) (a1_0 : Int) (a2_0_0_0z : Bool) (a2_0_0_0 : List T) (a2_0_1_0z : Bool) (a2_0_1_0 : List T) (a2_0_2_0 : Int) (a3_0z : Bool) (a3_0 : List T) : answer Try.prog impl_hasVote_1.Cs 100000 impl_hasVote_1.cuts [] Try.f45 (k + 1) [.v (.agg [(.int .i64 a0_0), (.int .i64 a0_1), (.nums 5 .u8 a0_2z a0_2), (.int .i64 a0_3), (.nums 5 .u8 a0_4z a0_4)]), .v (.ptr [(.int .i64 a1_0)]), .v (.ptr [(.fn 25 [(.ptr [(.sl 82 a2_0_0_0z a2_0_0_0)]), (.ptr [(.sl 33 a2_0_1_0z a2_0_1_0)]), (.ptr [(.int .i64 a2_0_2_0)])])]), .v (.ptr [(.sl 82 a3_0z a3_0)])] = impl_hasVote_1.b (fun r => some (impl_hasVote_1.enc r)) k a0_0 a0_1 a0_2z a0_2 a0_3 a0_4z a0_4 a1_0 a2_0_0_0z a2_0_0_0 a2_0_1_0z a2_0_1_0 a2_0_2_0 a3_0z a3_0 := by kernel_rfl
theorem impl_hasVote_1.b_nat {R R' : Type} (e : R → R') (ret : Bool → Option R) (k : Nat) (a0_0 : Int) (a0_1 : Int) (a0_2z : Bool) (a0_2 : List Int) (a0_3 : Int) (a0_4z : Bool) (a0_4 : List Int) (a1_0 : Int) (a2_0_0_0z : Bool) (a2_0_0_0 : List T) (a2_0_1_0z : Bool) (a2_0_1_0 : List T) (a2_0_2_0 : Int) (a3_0z : Bool) (a3_0 : List T) : impl_hasVote_1.b (fun r => (ret r).map e) k a0_0 a0_1 a0_2z a0_2 a0_3 a0_4z a0_4 a1_0 a2_0_0_0z a2_0_0_0 a2_0_1_0z a2_0_1_0 a2_0_2_0 a3_0z a3_0 = (impl_hasVote_1.b ret k a0_0 a0_1 a0_2z a0_2 a0_3 a0_4z a0_4 a1_0 a2_0_0_0z a2_0_0_0 a2_0_1_0z a2_0_1_0 a2_0_2_0 a3_0z a3_0).map e := by
  unfold impl_hasVote_1.b
  repeat' first | with_reducible refine nat_cond ?_ ?_ | with_reducible refine nat_bind fun _ => ?_ | rfl
theorem impl_hasVote_1.eq (k : Nat) (a0_0 : Int) (a0_1 : Int) (a0_2z : Bool) (a0_2 : List Int) (a0_3 : Int) (a0_4z : Bool) (a0_4 : List Int) (a1_0 : Int) (a2_0_0_0z : Bool) (a2_0_0_0 : List T) (a2_0_1_0z : Bool) (a2_0_1_0 : List T) (a2_0_2_0 : Int) (a3_0z : Bool) (a3_0 : List T) : answer Try.prog impl_hasVote_1.Cs 100000 impl_hasVote_1.cuts [] Try.f45 (k + 1) [.v (.agg [(.int .i64 a0_0), (.int .i64 a0_1), (.nums 5 .u8 a0_2z a0_2), (.int .i64 a0_3), (.nums 5 .u8 a0_4z a0_4)]), .v (.ptr [(.int .i64 a1_0)]), .v (.ptr [(.fn 25 [(.ptr [(.sl 82 a2_0_0_0z a2_0_0_0)]), (.ptr [(.sl 33 a2_0_1_0z a2_0_1_0)]), (.ptr [(.int .i64 a2_0_2_0)])])]), .v (.ptr [(.sl 82 a3_0z a3_0)])] = (impl_hasVote_1.f (k + 1) a0_0 a0_1 a0_2z a0_2 a0_3 a0_4z a0_4 a1_0 a2_0_0_0z a2_0_0_0 a2_0_1_0z a2_0_1_0 a2_0_2_0 a3_0z a3_0).map impl_hasVote_1.enc := by
  refine (impl_hasVote_1.s k a0_0 a0_1 a0_2z a0_2 a0_3 a0_4z a0_4 a1_0 a2_0_0_0z a2_0_0_0 a2_0_1_0z a2_0_1_0 a2_0_2_0 a3_0z a3_0).trans (Eq.trans ?_ (impl_hasVote_1.b_nat impl_hasVote_1.enc some k a0_0 a0_1 a0_2z a0_2 a0_3 a0_4z a0_4 a1_0 a2_0_0_0z a2_0_0_0 a2_0_1_0z a2_0_1_0 a2_0_2_0 a3_0z a3_0))
  simp only [Option.map_some]
theorem impl_hasVote_1.sound (k : Nat) : SoundF Try.prog 45 (fun a => (impl_hasVote_1.ans k a).val) := by
  refine sound_plain (fun args res h => ?_) (fun t n => rfl)
  unfold impl_hasVote_1.ans at h
  dsimp only at h
  split at h
  · cases k with
    | zero => cases h
    | succ k =>
      unfold Ans.val at h
      rw [← impl_hasVote_1.eq] at h
      exact answer_sound mixed Try.func45 _ _ _ (k + 1) (fun j _ => tab_sound (tab_cons (impl_Twice_1_1.sound j) (tab_cons (impl_VoteGood.sound j) (tab_nil)))) _ _ h
  · exact (Ans.no_val h).elim

/-! slices.IndexFunc[[]loop.example/g00790/impl.Vote,loop.example/g00790/impl.Vote] -/
def impl_Vote_62.b {R : Type} (ret : Int → Option R) (j0 : Bool → (List T) → Int → Bool → (List T) → Bool → (List T) → Int → Bool → (List T) → Int → Int → Option R) (k : Nat) (a0z : Bool) (a0 : List T) (a1_0_0 : Int) (a1_1_0_0_0z : Bool) (a1_1_0_0_0 : List T) (a1_1_0_1_0z : Bool) (a1_1_0_1_0 : List T) (a1_1_0_2_0 : Int) (a1_2_0z : Bool) (a1_2_0 : List T) : Option R :=
  j0 a0z a0 a1_0_0 a1_1_0_0_0z a1_1_0_0_0 a1_1_0_1_0z a1_1_0_1_0 a1_1_0_2_0 a1_2_0z a1_2_0 ((a0).length : Int) 0
def impl_Vote_62.l0b {R : Type} (ret : Int → Option R) (j0 : Bool → (List T) → Int → Bool → (List T) → Bool → (List T) → Int → Bool → (List T) → Int → Int → Option R) (k : Nat) (x0z : Bool) (x0 : List T) (x1_0_0 : Int) (x1_1_0_0_0z : Bool) (x1_1_0_0_0 : List T) (x1_1_0_1_0z : Bool) (x1_1_0_1_0 : List T) (x1_1_0_2_0 : Int) (x1_2_0z : Bool) (x1_2_0 : List T) (x7 : Int) (x8 : Int) : Option R :=
  cond (decide (x8 < x7)) (cond (decide ((0 : Int) ≤ x8)) (cond (decide (x8 < ((x0).length : Int))) ((impl_hasVote_1.f k (((((x0).getD (x8).toNat .bad).cells.getD 0 .bad)).toInt) (((((x0).getD (x8).toNat .bad).cells.getD 1 .bad)).toInt) (((((x0).getD (x8).toNat .bad).cells.getD 2 .bad)).isNil) (((((x0).getD (x8).toNat .bad).cells.getD 2 .bad)).toNums) (((((x0).getD (x8).toNat .bad).cells.getD 3 .bad)).toInt) (((((x0).getD (x8).toNat .bad).cells.getD 4 .bad)).isNil) (((((x0).getD (x8).toNat .bad).cells.getD 4 .bad)).toNums) x1_0_0 x1_1_0_0_0z x1_1_0_0_0 x1_1_0_1_0z x1_1_0_1_0 x1_1_0_2_0 x1_2_0z x1_2_0).bind fun t0 => cond t0 (ret x8) (j0 x0z x0 x1_0_0 x1_1_0_0_0z x1_1_0_0_0 x1_1_0_1_0z x1_1_0_1_0 x1_1_0_2_0 x1_2_0z x1_2_0 x7 (RowKit.wrap64 (x8 + 1)))) (none)) (none)) (ret (-1))
def impl_Vote_62.l0 : Nat → Bool → (List T) → Int → Bool → (List T) → Bool → (List T) → Int → Bool → (List T) → Int → Int → Option Int
  | 0, _, _, _, _, _, _, _, _, _, _, _, _ => none
  | k + 1, x0z, x0, x1_0_0, x1_1_0_0_0z, x1_1_0_0_0, x1_1_0_1_0z, x1_1_0_1_0, x1_1_0_2_0, x1_2_0z, x1_2_0, x7, x8 => impl_Vote_62.l0b some (impl_Vote_62.l0 k) k x0z x0 x1_0_0 x1_1_0_0_0z x1_1_0_0_0 x1_1_0_1_0z x1_1_0_1_0 x1_1_0_2_0 x1_2_0z x1_2_0 x7 x8
def impl_Vote_62.f : Nat → Bool → (List T) → Int → Bool → (List T) → Bool → (List T) → Int → Bool → (List T) → Option Int
  | 0, _, _, _, _, _, _, _, _, _, _ => none
  | k + 1, a0z, a0, a1_0_0, a1_1_0_0_0z, a1_1_0_0_0, a1_1_0_1_0z, a1_1_0_1_0, a1_1_0_2_0, a1_2_0z, a1_2_0 => impl_Vote_62.b some (impl_Vote_62.l0 k) k a0z a0 a1_0_0 a1_1_0_0_0z a1_1_0_0_0 a1_1_0_1_0z a1_1_0_1_0 a1_1_0_2_0 a1_2_0z a1_2_0
def impl_Vote_62.enc (r : Int) : Res := ⟨[.vals false [((.int .i64 r), true)]], []⟩
def impl_Vote_62.ans (k : Nat) : List Arg → Ans
  | [.v (.sl 33 a0z a0), .v (.fn 45 [(.ptr [(.int .i64 a1_0_0)]), (.ptr [(.fn 25 [(.ptr [(.sl 82 a1_1_0_0_0z a1_1_0_0_0)]), (.ptr [(.sl 33 a1_1_0_1_0z a1_1_0_1_0)]), (.ptr [(.int .i64 a1_1_0_2_0)])])]), (.ptr [(.sl 82 a1_2_0z a1_2_0)])])] => ⟨impl_Vote_62.f k a0z a0 a1_0_0 a1_1_0_0_0z a1_1_0_0_0 a1_1_0_1_0z a1_1_0_1_0 a1_1_0_2_0 a1_2_0z a1_2_0, impl_Vote_62.enc⟩
  | _ => Ans.no
def impl_Vote_62.Cs (k : Nat) : CallSem := tab [(45, impl_hasVote_1.ans k)]
def impl_Vote_62.cuts : List (Nat × Keep) := [(26, ⟨[(0, some []), (1, some []), (7, some []), (8, some [])], []⟩)]
noncomputable def impl_Vote_62.K0 : List Fr := framesAt [true, false, true, false] (bodyOf Try.f62 impl_Vote_62.cuts) []
def impl_Vote_62.N0 (x0z : Bool) (x0 : List T) (x1_0_0 : Int) (x1_1_0_0_0z : Bool) (x1_1_0_0_0 : List T) (x1_1_0_1_0z : Bool) (x1_1_0_1_0 : List T) (x1_1_0_2_0 : Int) (x1_2_0z : Bool) (x1_2_0 : List T) (x7 : Int) (x8 : Int) : St := stOf 19 19 2 [(0, .val ⟨(.sl 33 x0z x0), [], false, none⟩), (1, .val ⟨(.fn 45 [(.ptr [(.int .i64 x1_0_0)]), (.ptr [(.fn 25 [(.ptr [(.sl 82 x1_1_0_0_0z x1_1_0_0_0)]), (.ptr [(.sl 33 x1_1_0_1_0z x1_1_0_1_0)]), (.ptr [(.int .i64 x1_1_0_2_0)])])]), (.ptr [(.sl 82 x1_2_0z x1_2_0)])]), [], false, none⟩), (7, .val (V.s (.int .i64 x7))), (8, .val (V.s (.int .i64 x8)))] []
theorem impl_Vote_62.s (k : Nat) (a0z : Bool) (a0 : List T) (a1_0_0 : Int) (a1_1_0_0_0z : Bool) (a1_1_0_0_0 : List T) (a1_1_0_1_0z : Bool) (a1_1_0_1_0 : List T) (a1_1_0_2_0 : Int) (a1_2_0z : Bool) (a1_2_0 : List T) : answer Try.prog impl_Vote_62.Cs 100000 impl_Vote_62.cuts [] Try.f62 (k + 1) [.v (.sl 33 a0z a0), .v (.fn 45 [(.ptr [(.int .i64 a1_0_0)]), (.ptr [(.fn 25 [(.ptr [(.sl 82 a1_1_0_0_0z a1_1_0_0_0)]), (.ptr [(.sl 33 a1_1_0_1_0z a1_1_0_1_0)]), (.ptr [(.int .i64 a1_1_0_2_0)])])]), (.ptr [(.sl 82 a1_2_0z a1_2_0)])])] = impl_Vote_62.b (fun r => some (impl_Vote_62.enc r)) (fun x0z x0 x1_0_0 x1_1_0_0_0z x1_1_0_0_0 x1_1_0_1_0z x1_1_0_1_0 x1_1_0_2_0 x1_2_0z x1_2_0 x7 x8 => rounds Try.prog impl_Vote_62.Cs (finish Try.prog [] Try.f62 [.v (.sl 33 a0z a0), .v (.fn 45 [(.ptr [(.int .i64 a1_0_0)]), (.ptr [(.fn 25 [(.ptr [(.sl 82 a1_1_0_0_0z a1_1_0_0_0)]), (.ptr [(.sl 33 a1_1_0_1_0z a1_1_0_1_0)]), (.ptr [(.int .i64 a1_1_0_2_0)])])]), (.ptr [(.sl 82 a1_2_0z a1_2_0)])])]) 100000 k impl_Vote_62.K0 (impl_Vote_62.N0 x0z x0 x1_0_0 x1_1_0_0_0z x1_1_0_0_0 x1_1_0_1_0z x1_1_0_1_0 x1_1_0_2_0 x1_2_0z x1_2_0 x7 x8)) k a0z a0 a1_0_0 a1_1_0_0_0z a1_1_0_0_0 a1_1_0_1_0z a1_1_0_1_0 a1_1_0_2_0 a1_2_0z a1_2_0 := by kernel_rfl
theorem impl_Vote_62.s0 (k : Nat) (G : List Fr → St → Option Res) (a0z : Bool) (a0 : List T) (a1_0_0 : Int) (a1_1_0_0_0z : Bool) (a1_1_0_0_0 : List T) (a1_1_0_1_0z : Bool) (a1_1_0_1_0 : List T) (a1_1_0_2_0 : Int) (a1_2_0z : Bool) (a1_2_0 : List T) (yx0z : Bool) (yx0 : List T) (yx1_0_0 : Int) (yx1_1_0_0_0z : Bool) (yx1_1_0_0_0 : List T) (yx1_1_0_1_0z : Bool) (yx1_1_0_1_0 : List T) (yx1_1_0_2_0 : Int) (yx1_2_0z : Bool) (yx1_2_0 : List T) (yx7 : Int) (yx8 : Int) : resume Try.prog (impl_Vote_62.Cs k) G (finish Try.prog [] Try.f62 [.v (.sl 33 a0z a0), .v (.fn 45 [(.ptr [(.int .i64 a1_0_0)]), (.ptr [(.fn 25 [(.ptr [(.sl 82 a1_1_0_0_0z a1_1_0_0_0)]), (.ptr [(.sl 33 a1_1_0_1_0z a1_1_0_1_0)]), (.ptr [(.int .i64 a1_1_0_2_0)])])]), (.ptr [(.sl 82 a1_2_0z a1_2_0)])])]) 100000 impl_Vote_62.K0 (impl_Vote_62.N0 yx0z yx0 yx1_0_0 yx1_1_0_0_0z yx1_1_0_0_0 yx1_1_0_1_0z yx1_1_0_1_0 yx1_1_0_2_0 yx1_2_0z yx1_2_0 yx7 yx8) = impl_Vote_62.l0b (fun r => some (impl_Vote_62.enc r)) (fun x0z x0 x1_0_0 x1_1_0_0_0z x1_1_0_0_0 x1_1_0_1_0z x1_1_0_1_0 x1_1_0_2_0 x1_2_0z x1_2_0 x7 x8 => G impl_Vote_62.K0 (impl_Vote_62.N0 x0z x0 x1_0_0 x1_1_0_0_0z x1_1_0_0_0 x1_1_0_1_0z x1_1_0_1_0 x1_1_0_2_0 x1_2_0z x1_2_0 x7 x8)) k yx0z yx0 yx1_0_0 yx1_1_0_0_0z yx1_1_0_0_0 yx1_1_0_1_0z yx1_1_0_1_0 yx1_1_0_2_0 yx1_2_0z yx1_2_0 yx7 yx8 := by kernel_rfl
theorem impl_Vote_62.b_nat {R R' : Type} (e : R → R') (ret : Int → Option R) (j0 : Bool → (List T) → Int → Bool → (List T) → Bool → (List T) → Int → Bool → (List T) → Int → Int → Option R) (k : Nat) (a0z : Bool) (a0 : List T) (a1_0_0 : Int) (a1_1_0_0_0z : Bool) (a1_1_0_0_0 : List T) (a1_1_0_1_0z : Bool) (a1_1_0_1_0 : List T) (a1_1_0_2_0 : Int) (a1_2_0z : Bool) (a1_2_0 : List T) : impl_Vote_62.b (fun r => (ret r).map e) (fun x0z x0 x1_0_0 x1_1_0_0_0z x1_1_0_0_0 x1_1_0_1_0z x1_1_0_1_0 x1_1_0_2_0 x1_2_0z x1_2_0 x7 x8 => (j0 x0z x0 x1_0_0 x1_1_0_0_0z x1_1_0_0_0 x1_1_0_1_0z x1_1_0_1_0 x1_1_0_2_0 x1_2_0z x1_2_0 x7 x8).map e) k a0z a0 a1_0_0 a1_1_0_0_0z a1_1_0_0_0 a1_1_0_1_0z a1_1_0_1_0 a1_1_0_2_0 a1_2_0z a1_2_0 = (impl_Vote_62.b ret j0 k a0z a0 a1_0_0 a1_1_0_0_0z a1_1_0_0_0 a1_1_0_1_0z a1_1_0_1_0 a1_1_0_2_0 a1_2_0z a1_2_0).map e := by
  unfold impl_Vote_62.b
  repeat' first | with_reducible refine nat_cond ?_ ?_ | with_reducible refine nat_bind fun _ => ?_ | rfl
theorem impl_Vote_62.l0b_nat {R R' : Type} (e : R → R') (ret : Int → Option R) (j0 : Bool → (List T) → Int → Bool → (List T) → Bool → (List T) → Int → Bool → (List T) → Int → Int → Option R) (k : Nat) (x0z : Bool) (x0 : List T) (x1_0_0 : Int) (x1_1_0_0_0z : Bool) (x1_1_0_0_0 : List T) (x1_1_0_1_0z : Bool) (x1_1_0_1_0 : List T) (x1_1_0_2_0 : Int) (x1_2_0z : Bool) (x1_2_0 : List T) (x7 : Int) (x8 : Int) : impl_Vote_62.l0b (fun r => (ret r).map e) (fun x0z x0 x1_0_0 x1_1_0_0_0z x1_1_0_0_0 x1_1_0_1_0z x1_1_0_1_0 x1_1_0_2_0 x1_2_0z x1_2_0 x7 x8 => (j0 x0z x0 x1_0_0 x1_1_0_0_0z x1_1_0_0_0 x1_1_0_1_0z x1_1_0_1_0 x1_1_0_2_0 x1_2_0z x1_2_0 x7 x8).map e) k x0z x0 x1_0_0 x1_1_0_0_0z x1_1_0_0_0 x1_1_0_1_0z x1_1_0_1_0 x1_1_0_2_0 x1_2_0z x1_2_0 x7 x8 = (impl_Vote_62.l0b ret j0 k x0z x0 x1_0_0 x1_1_0_0_0z x1_1_0_0_0 x1_1_0_1_0z x1_1_0_1_0 x1_1_0_2_0 x1_2_0z x1_2_0 x7 x8).map e := by
  unfold impl_Vote_62.l0b
  repeat' first | with_reducible refine nat_cond ?_ ?_ | with_reducible refine nat_bind fun _ => ?_ | rfl
theorem impl_Vote_62.rounds_eq (a0z : Bool) (a0 : List T) (a1_0_0 : Int) (a1_1_0_0_0z : Bool) (a1_1_0_0_0 : List T) (a1_1_0_1_0z : Bool) (a1_1_0_1_0 : List T) (a1_1_0_2_0 : Int) (a1_2_0z : Bool) (a1_2_0 : List T) : ∀ k, (∀ (x0z : Bool) (x0 : List T) (x1_0_0 : Int) (x1_1_0_0_0z : Bool) (x1_1_0_0_0 : List T) (x1_1_0_1_0z : Bool) (x1_1_0_1_0 : List T) (x1_1_0_2_0 : Int) (x1_2_0z : Bool) (x1_2_0 : List T) (x7 : Int) (x8 : Int), rounds Try.prog impl_Vote_62.Cs (finish Try.prog [] Try.f62 [.v (.sl 33 a0z a0), .v (.fn 45 [(.ptr [(.int .i64 a1_0_0)]), (.ptr [(.fn 25 [(.ptr [(.sl 82 a1_1_0_0_0z a1_1_0_0_0)]), (.ptr [(.sl 33 a1_1_0_1_0z a1_1_0_1_0)]), (.ptr [(.int .i64 a1_1_0_2_0)])])]), (.ptr [(.sl 82 a1_2_0z a1_2_0)])])]) 100000 k impl_Vote_62.K0 (impl_Vote_62.N0 x0z x0 x1_0_0 x1_1_0_0_0z x1_1_0_0_0 x1_1_0_1_0z x1_1_0_1_0 x1_1_0_2_0 x1_2_0z x1_2_0 x7 x8) = (impl_Vote_62.l0 k x0z x0 x1_0_0 x1_1_0_0_0z x1_1_0_0_0 x1_1_0_1_0z x1_1_0_1_0 x1_1_0_2_0 x1_2_0z x1_2_0 x7 x8).map impl_Vote_62.enc)
  | 0 => fun _ _ _ _ _ _ _ _ _ _ _ _ => rfl
  | k + 1 => by
    have ih := impl_Vote_62.rounds_eq a0z a0 a1_0_0 a1_1_0_0_0z a1_1_0_0_0 a1_1_0_1_0z a1_1_0_1_0 a1_1_0_2_0 a1_2_0z a1_2_0 k
    refine fun _ _ _ _ _ _ _ _ _ _ _ _ => ?_
    · refine (impl_Vote_62.s0 k _ a0z a0 a1_0_0 a1_1_0_0_0z a1_1_0_0_0 a1_1_0_1_0z a1_1_0_1_0 a1_1_0_2_0 a1_2_0z a1_2_0 _ _ _ _ _ _ _ _ _ _ _ _).trans (Eq.trans ?_ (impl_Vote_62.l0b_nat impl_Vote_62.enc some (impl_Vote_62.l0 k) k _ _ _ _ _ _ _ _ _ _ _ _))
      simp only [ih, Option.map_some]
theorem impl_Vote_62.eq (k : Nat) (a0z : Bool) (a0 : List T) (a1_0_0 : Int) (a1_1_0_0_0z : Bool) (a1_1_0_0_0 : List T) (a1_1_0_1_0z : Bool) (a1_1_0_1_0 : List T) (a1_1_0_2_0 : Int) (a1_2_0z : Bool) (a1_2_0 : List T) : answer Try.prog impl_Vote_62.Cs 100000 impl_Vote_62.cuts [] Try.f62 (k + 1) [.v (.sl 33 a0z a0), .v (.fn 45 [(.ptr [(.int .i64 a1_0_0)]), (.ptr [(.fn 25 [(.ptr [(.sl 82 a1_1_0_0_0z a1_1_0_0_0)]), (.ptr [(.sl 33 a1_1_0_1_0z a1_1_0_1_0)]), (.ptr [(.int .i64 a1_1_0_2_0)])])]), (.ptr [(.sl 82 a1_2_0z a1_2_0)])])] = (impl_Vote_62.f (k + 1) a0z a0 a1_0_0 a1_1_0_0_0z a1_1_0_0_0 a1_1_0_1_0z a1_1_0_1_0 a1_1_0_2_0 a1_2_0z a1_2_0).map impl_Vote_62.enc := by
  have ih := impl_Vote_62.rounds_eq a0z a0 a1_0_0 a1_1_0_0_0z a1_1_0_0_0 a1_1_0_1_0z a1_1_0_1_0 a1_1_0_2_0 a1_2_0z a1_2_0 k
  refine (impl_Vote_62.s k a0z a0 a1_0_0 a1_1_0_0_0z a1_1_0_0_0 a1_1_0_1_0z a1_1_0_1_0 a1_1_0_2_0 a1_2_0z a1_2_0).trans (Eq.trans ?_ (impl_Vote_62.b_nat impl_Vote_62.enc some (impl_Vote_62.l0 k) k a0z a0 a1_0_0 a1_1_0_0_0z a1_1_0_0_0 a1_1_0_1_0z a1_1_0_1_0 a1_1_0_2_0 a1_2_0z a1_2_0))
  simp only [ih, Option.map_some]
theorem impl_Vote_62.sound (k : Nat) : SoundF Try.prog 62 (fun a => (impl_Vote_62.ans k a).val) := by
  refine sound_plain (fun args res h => ?_) (fun t n => rfl)
  unfold impl_Vote_62.ans at h
  dsimp only at h
  split at h
  · cases k with
    | zero => cases h
    | succ k =>
      unfold Ans.val at h
      rw [← impl_Vote_62.eq] at h
      exact answer_sound mixed Try.func62 _ _ _ (k + 1) (fun j _ => tab_sound (tab_cons (impl_hasVote_1.sound j) (tab_nil))) _ _ h
  · exact (Ans.no_val h).elim

/-! slices.ContainsFunc[[]loop.example/g00790/impl.Vote,loop.example/g00790/impl.Vote] -/
def impl_Vote.b {R : Type} (ret : Bool → Option R) (k : Nat) (a0z : Bool) (a0 : List T) (a1_0_0 : Int) (a1_1_0_0_0z : Bool) (a1_1_0_0_0 : List T) (a1_1_0_1_0z : Bool) (a1_1_0_1_0 : List T) (a1_1_0_2_0 : Int) (a1_2_0z : Bool) (a1_2_0 : List T) : Option R :=
  (impl_Vote_62.f k a0z a0 a1_0_0 a1_1_0_0_0z a1_1_0_0_0 a1_1_0_1_0z a1_1_0_1_0 a1_1_0_2_0 a1_2_0z a1_2_0).bind fun t0 => ret (decide (t0 ≥ 0))
def impl_Vote.f : Nat → Bool → (List T) → Int → Bool → (List T) → Bool → (List T) → Int → Bool → (List T) → Option Bool
  | 0, _, _, _, _, _, _, _, _, _, _ => none
  | k + 1, a0z, a0, a1_0_0, a1_1_0_0_0z, a1_1_0_0_0, a1_1_0_1_0z, a1_1_0_1_0, a1_1_0_2_0, a1_2_0z, a1_2_0 => impl_Vote.b some k a0z a0 a1_0_0 a1_1_0_0_0z a1_1_0_0_0 a1_1_0_1_0z a1_1_0_1_0 a1_1_0_2_0 a1_2_0z a1_2_0
def impl_Vote.enc (r : Bool) : Res := ⟨[.vals false [((.bool r), true)]], []⟩
def impl_Vote.ans (k : Nat) : List Arg → Ans
  | [.v (.sl 33 a0z a0), .v (.fn 45 [(.ptr [(.int .i64 a1_0_0)]), (.ptr [(.fn 25 [(.ptr [(.sl 82 a1_1_0_0_0z a1_1_0_0_0)]), (.ptr [(.sl 33 a1_1_0_1_0z a1_1_0_1_0)]), (.ptr [(.int .i64 a1_1_0_2_0)])])]), (.ptr [(.sl 82 a1_2_0z a1_2_0)])])] => ⟨impl_Vote.f k a0z a0 a1_0_0 a1_1_0_0_0z a1_1_0_0_0 a1_1_0_1_0z a1_1_0_1_0 a1_1_0_2_0 a1_2_0z a1_2_0, impl_Vote.enc⟩
  | _ => Ans.no
def impl_Vote.Cs (k : Nat) : CallSem := tab [(62, impl_Vote_62.ans k)]
def impl_Vote.cuts : List (Nat × Keep) := []
theorem impl_Vote.s (k : Nat) (a0z : Bool) (a0 : List T) (a1_0_0 : Int) (a1_1_0_0_0z : Bool) (a1_1_0_0_0 : List T) (a1_1_0_1_0z : Bool) (a1_1_0_1_0 : List T) (a1_1_0_2_0 : Int) (a1_2_0z : Bool) (a1_2_0 : List T) : answer Try.prog impl_Vote.Cs 100000 impl_Vote.cuts [] Try.f44 (k + 1) [.v (.sl 33 a0z a0), .v (.fn 45 [(.ptr [(.int .i64 a1_0_0)]), (.ptr [(.fn 25 [(.ptr [(.sl 82 a1_1_0_0_0z a1_1_0_0_0)]), (.ptr [(.sl 33 a1_1_0_1_0z a1_1_0_1_0)]), (.ptr [(.int .i64 a1_1_0_2_0)])])]), (.ptr [(.sl 82 a1_2_0z a1_2_0)])])] = impl_Vote.b (fun r => some (impl_Vote.enc r)) k a0z a0 a1_0_0 a1_1_0_0_0z a1_1_0_0_0 a1_1_0_1_0z a1_1_0_1_0 a1_1_0_2_0 a1_2_0z a1_2_0 := by kernel_rfl
theorem impl_Vote.b_nat {R R' : Type} (e : R → R') (ret : Bool → Option R) (k : Nat) (a0z : Bool) (a0 : List T) (a1_0_0 : Int) (a1_1_0_0_0z : Bool) (a1_1_0_0_0 : List T) (a1_1_0_1_0z : Bool) (a1_1_0_1_0 : List T) (a1_1_0_2_0 : Int) (a1_2_0z : Bool) (a1_2_0 : List T) : impl_Vote.b (fun r => (ret r).map e) k a0z a0 a1_0_0 a1_1_0_0_0z a1_1_0_0_0 a1_1_0_1_0z a1_1_0_1_0 a1_1_0_2_0 a1_2_0z a1_2_0 = (impl_Vote.b ret k a0z a0 a1_0_0 a1_1_0_0_0z a1_1_0_0_0 a1_1_0_1_0z a1_1_0_1_0 a1_1_0_2_0 a1_2_0z a1_2_0).map e := by
  unfold impl_Vote.b
  repeat' first | with_reducible refine nat_cond ?_ ?_ | with_reducible refine nat_bind fun _ => ?_ | rfl
theorem impl_Vote.eq (k : Nat) (a0z : Bool) (a0 : List T) (a1_0_0 : Int) (a1_1_0_0_0z : Bool) (a1_1_0_0_0 : List T) (a1_1_0_1_0z : Bool) (a1_1_0_1_0 : List T) (a1_1_0_2_0 : Int) (a1_2_0z : Bool) (a1_2_0 : List T) : answer Try.prog impl_Vote.Cs 100000 impl_Vote.cuts [] Try.f44 (k + 1) [.v (.sl 33 a0z a0), .v (.fn 45 [(.ptr [(.int .i64 a1_0_0)]), (.ptr [(.fn 25 [(.ptr [(.sl 82 a1_1_0_0_0z a1_1_0_0_0)]), (.ptr [(.sl 33 a1_1_0_1_0z a1_1_0_1_0)]), (.ptr [(.int .i64 a1_1_0_2_0)])])]), (.ptr [(.sl 82 a1_2_0z a1_2_0)])])] = (impl_Vote.f (k + 1) a0z a0 a1_0_0 a1_1_0_0_0z a1_1_0_0_0 a1_1_0_1_0z a1_1_0_1_0 a1_1_0_2_0 a1_2_0z a1_2_0).map impl_Vote.enc := by
  refine (impl_Vote.s k a0z a0 a1_0_0 a1_1_0_0_0z a1_1_0_0_0 a1_1_0_1_0z a1_1_0_1_0 a1_1_0_2_0 a1_2_0z a1_2_0).trans (Eq.trans ?_ (impl_Vote.b_nat impl_Vote.enc some k a0z a0 a1_0_0 a1_1_0_0_0z a1_1_0_0_0 a1_1_0_1_0z a1_1_0_1_0 a1_1_0_2_0 a1_2_0z a1_2_0))
  simp only [Option.map_some]
theorem impl_Vote.sound (k : Nat) : SoundF Try.prog 44 (fun a => (impl_Vote.ans k a).val) := by
  refine sound_plain (fun args res h => ?_) (fun t n => rfl)
  unfold impl_Vote.ans at h
  dsimp only at h
  split at h
  · cases k with
    | zero => cases h
    | succ k =>
      unfold Ans.val at h
      rw [← impl_Vote.eq] at h
      exact answer_sound mixed Try.func44 _ _ _ (k + 1) (fun j _ => tab_sound (tab_cons (impl_Vote_62.sound j) (tab_nil))) _ _ h
  · exact (Ans.no_val h).elim

/-! loop.example/g00790/impl.hasVote -/
def impl_hasVote.b {R : Type} (ret : Bool → Option R) (k : Nat) (a0_0z : Bool) (a0_0 : List T) (a1z : Bool) (a1 : List T) (a2 : Int) (a3_0_0z : Bool) (a3_0_0 : List T) (a3_1_0z : Bool) (a3_1_0 : List T) (a3_2_0 : Int) : Option R :=
  (impl_Vote.f k a1z a1 a2 a3_0_0z a3_0_0 a3_1_0z a3_1_0 a3_2_0 a0_0z a0_0).bind fun t0 => ret t0
def impl_hasVote.f : Nat → Bool → (List T) → Bool → (List T) → Int → Bool → (List T) → Bool → (List T) → Int → Option Bool
  | 0, _, _, _, _, _, _, _, _, _, _ => none
  | k + 1, a0_0z, a0_0, a1z, a1, a2, a3_0_0z, a3_0_0, a3_1_0z, a3_1_0, a3_2_0 => impl_hasVote.b some k a0_0z a0_0 a1z a1 a2 a3_0_0z a3_0_0 a3_1_0z a3_1_0 a3_2_0
def impl_hasVote.enc (r : Bool) : Res := ⟨[.vals false [((.bool r), true)]], []⟩
def impl_hasVote.ans (k : Nat) : List Arg → Ans
  | [.v (.agg [(.sl 82 a0_0z a0_0)]), .v (.sl 33 a1z a1), .v (.int .i64 a2), .v (.fn 25 [(.ptr [(.sl 82 a3_0_0z a3_0_0)]), (.ptr [(.sl 33 a3_1_0z a3_1_0)]), (.ptr [(.int .i64 a3_2_0)])])] => ⟨impl_hasVote.f k a0_0z a0_0 a1z a1 a2 a3_0_0z a3_0_0 a3_1_0z a3_1_0 a3_2_0, impl_hasVote.enc⟩
  | _ => Ans.no
def impl_hasVote.Cs (k : Nat) : CallSem := tab [(44, impl_Vote.ans k)]
def impl_hasVote.cuts : List (Nat × Keep) := []
theorem impl_hasVote.s (k : Nat) (a0_0z : Bool) (a0_0 : List T) (a1z : Bool) (a1 : List T) (a2 : Int) (a3_0_0z : Bool) (a3_0_0 : List T) (a3_1_0z : Bool) (a3_1_0 : List T) (a3_2_0 : Int) : answer Try.prog impl_hasVote.Cs 100000 impl_hasVote.cuts [] Try.f24 (k + 1) [.v (.agg [(.sl 82 a0_0z a0_0)]), .v (.sl 33 a1z a1), .v (.int .i64 a2), .v (.fn 25 [(.ptr [(.sl 82 a3_0_0z a3_0_0)]), (.ptr [(.sl 33 a3_1_0z a3_1_0)]), (.ptr [(.int .i64 a3_2_0)])])] = impl_hasVote.b (fun r => some (impl_hasVote.enc r)) k a0_0z a0_0 a1z a1 a2 a3_0_0z a3_0_0 a3_1_0z a3_1_0 a3_2_0 := by kernel_rfl
theorem impl_hasVote.b_nat {R R' : Type} (e : R → R') (ret : Bool → Option R) (k : Nat) (a0_0z : Bool) (a0_0 : List T) (a1z : Bool) (a1 : List T) (a2 : Int) (a3_0_0z : Bool) (a3_0_0 : List T) (a3_1_0z : Bool) (a3_1_0 : List T) (a3_2_0 : Int) : impl_hasVote.b (fun r => (ret r).map e) k a0_0z a0_0 a1z a1 a2 a3_0_0z a3_0_0 a3_1_0z a3_1_0 a3_2_0 = (impl_hasVote.b ret k a0_0z a0_0 a1z a1 a2 a3_0_0z a3_0_0 a3_1_0z a3_1_0 a3_2_0).map e := by
  unfold impl_hasVote.b
  repeat' first | with_reducible refine nat_cond ?_ ?_ | with_reducible refine nat_bind fun _ => ?_ | rfl
theorem impl_hasVote.eq (k : Nat) (a0_0z : Bool) (a0_0 : List T) (a1z : Bool) (a1 : List T) (a2 : Int) (a3_0_0z : Bool) (a3_0_0 : List T) (a3_1_0z : Bool) (a3_1_0 : List T) (a3_2_0 : Int) : answer Try.prog impl_hasVote.Cs 100000 impl_hasVote.cuts [] Try.f24 (k + 1) [.v (.agg [(.sl 82 a0_0z a0_0)]), .v (.sl 33 a1z a1), .v (.int .i64 a2), .v (.fn 25 [(.ptr [(.sl 82 a3_0_0z a3_0_0)]), (.ptr [(.sl 33 a3_1_0z a3_1_0)]), (.ptr [(.int .i64 a3_2_0)])])] = (impl_hasVote.f (k + 1) a0_0z a0_0 a1z a1 a2 a3_0_0z a3_0_0 a3_1_0z a3_1_0 a3_2_0).map impl_hasVote.enc := by
  refine (impl_hasVote.s k a0_0z a0_0 a1z a1 a2 a3_0_0z a3_0_0 a3_1_0z a3_1_0 a3_2_0).trans (Eq.trans ?_ (impl_hasVote.b_nat impl_hasVote.enc some k a0_0z a0_0 a1z a1 a2 a3_0_0z a3_0_0 a3_1_0z a3_1_0 a3_2_0))
  simp only [Option.map_some]
theorem impl_hasVote.sound (k : Nat) : SoundF Try.prog 24 (fun a => (impl_hasVote.ans k a).val) := by
  refine sound_plain (fun args res h => ?_) (fun t n => rfl)
  unfold impl_hasVote.ans at h
  dsimp only at h
  split at h
  · cases k with
    | zero => cases h
    | succ k =>
      unfold Ans.val at h
      rw [← impl_hasVote.eq] at h
      exact answer_sound mixed Try.func24 _ _ _ (k + 1) (fun j _ => tab_sound (tab_cons (impl_Vote.sound j) (tab_nil))) _ _ h
  · exact (Ans.no_val h).elim

/-! loop.example/g00790/impl.Twice$1 -/
def impl_Twice_1.b {R : Type} (ret : Bool → Option R) (k : Nat) (a0 : Int) (a1_0z : Bool) (a1_0 : List T) (a2_0z : Bool) (a2_0 : List T) : Option R :=
  (impl_hasVote.f k a1_0z a1_0 a2_0z a2_0 a0 a1_0z a1_0 a2_0z a2_0 a0).bind fun t0 => ret t0
def impl_Twice_1.f : Nat → Int → Bool → (List T) → Bool → (List T) → Option Bool
  | 0, _, _, _, _, _ => none
  | k + 1, a0, a1_0z, a1_0, a2_0z, a2_0 => impl_Twice_1.b some k a0 a1_0z a1_0 a2_0z a2_0
def impl_Twice_1.enc (r : Bool) : Res := ⟨[.vals false [((.bool r), true)]], []⟩
def impl_Twice_1.ans (k : Nat) : List Arg → Ans
  | [.v (.int .i64 a0), .v (.ptr [(.sl 82 a1_0z a1_0)]), .v (.ptr [(.sl 33 a2_0z a2_0)])] => ⟨impl_Twice_1.f k a0 a1_0z a1_0 a2_0z a2_0, impl_Twice_1.enc⟩
  | _ => Ans.no
def impl_Twice_1.Cs (k : Nat) : CallSem := tab [(24, impl_hasVote.ans k)]
def impl_Twice_1.cuts : List (Nat × Keep) := []
theorem impl_Twice_1.s (k : Nat) (a0 : Int) (a1_0z : Bool) (a1_0 : List T) (a2_0z : Bool) (a2_0 : List T) : answer Try.prog impl_Twice_1.Cs 100000 impl_Twice_1.cuts [] Try.f23 (k + 1) [.v (.int .i64 a0), .v (.ptr [(.sl 82 a1_0z a1_0)]), .v (.ptr [(.sl 33 a2_0z a2_0)])] = impl_Twice_1.b (fun r => some (impl_Twice_1.enc r)) k a0 a1_0z a1_0 a2_0z a2_0 := by kernel_rfl
theorem impl_Twice_1.b_nat {R R' : Type} (e : R → R') (ret : Bool → Option R) (k : Nat) (a0 : Int) (a1_0z : Bool) (a1_0 : List T) (a2_0z : Bool) (a2_0 : List T) : impl_Twice_1.b (fun r => (ret r).map e) k a0 a1_0z a1_0 a2_0z a2_0 = (impl_Twice_1.b ret k a0 a1_0z a1_0 a2_0z a2_0).map e := by
  unfold impl_Twice_1.b
  repeat' first | with_reducible refine nat_cond ?_ ?_ | with_reducible refine nat_bind fun _ => ?_ | rfl
theorem impl_Twice_1.eq (k : Nat) (a0 : Int) (a1_0z : Bool) (a1_0 : List T) (a2_0z : Bool) (a2_0 : List T) : answer Try.prog impl_Twice_1.Cs 100000 impl_Twice_1.cuts [] Try.f23 (k + 1) [.v (.int .i64 a0), .v (.ptr [(.sl 82 a1_0z a1_0)]), .v (.ptr [(.sl 33 a2_0z a2_0)])] = (impl_Twice_1.f (k + 1) a0 a1_0z a1_0 a2_0z a2_0).map impl_Twice_1.enc := by
  refine (impl_Twice_1.s k a0 a1_0z a1_0 a2_0z a2_0).trans (Eq.trans ?_ (impl_Twice_1.b_nat impl_Twice_1.enc some k a0 a1_0z a1_0 a2_0z a2_0))
  simp only [Option.map_some]
theorem impl_Twice_1.sound (k : Nat) : SoundF Try.prog 23 (fun a => (impl_Twice_1.ans k a).val) := by
  refine sound_plain (fun args res h => ?_) (fun t n => rfl)
  unfold impl_Twice_1.ans at h
  dsimp only at h
  split at h
  · cases k with
    | zero => cases h
    | succ k =>
      unfold Ans.val at h
      rw [← impl_Twice_1.eq] at h
      exact answer_sound mixed Try.func23 _ _ _ (k + 1) (fun j _ => tab_sound (tab_cons (impl_hasVote.sound j) (tab_nil))) _ _ h
  · exact (Ans.no_val h).elim

/-! loop.example/g00790/impl.BitsSize -/
def impl_BitsSize.b {R : Type} (ret : Int → Option R) (k : Nat) (a0 : Int) : Option R :=
  cond (decide (a0 < 1)) (ret 0) (ret (RowKit.wrap64 ((RowKit.wrap64 (Int.tdiv (RowKit.wrap64 (a0 - 1)) 8)) + 1)))
def impl_BitsSize.f : Nat → Int → Option Int
  | 0, _ => none
  | k + 1, a0 => impl_BitsSize.b some k a0
def impl_BitsSize.enc (r : Int) : Res := ⟨[.vals false [((.int .i64 r), true)]], []⟩
def impl_BitsSize.ans (k : Nat) : List Arg → Ans
  | [.v (.int .i64 a0)] => ⟨impl_BitsSize.f k a0, impl_BitsSize.enc⟩
  | _ => Ans.no
def impl_BitsSize.Cs (k : Nat) : CallSem := tab []
def impl_BitsSize.cuts : List (Nat × Keep) := []
theorem impl_BitsSize.s (k : Nat) (a0 : Int) : answer Try.prog impl_BitsSize.Cs 100000 impl_BitsSize.cuts [] Try.f85 (k + 1) [.v (.int .i64 a0)] = impl_BitsSize.b (fun r => some (impl_BitsSize.enc r)) k a0 := by kernel_rfl
theorem impl_BitsSize.b_nat {R R' : Type} (e : R → R') (ret : Int → Option R) (k : Nat) (a0 : Int) : impl_BitsSize.b (fun r => (ret r).map e) k a0 = (impl_BitsSize.b ret k a0).map e := by
  unfold impl_BitsSize.b
  repeat' first | with_reducible refine nat_cond ?_ ?_ | with_reducible refine nat_bind fun _ => ?_ | rfl
theorem impl_BitsSize.eq (k : Nat) (a0 : Int) : answer Try.prog impl_BitsSize.Cs 100000 impl_BitsSize.cuts [] Try.f85 (k + 1) [.v (.int .i64 a0)] = (impl_BitsSize.f (k + 1) a0).map impl_BitsSize.enc := by
  refine (impl_BitsSize.s k a0).trans (Eq.trans ?_ (impl_BitsSize.b_nat impl_BitsSize.enc some k a0))
  simp only [Option.map_some]
theorem impl_BitsSize.sound (k : Nat) : SoundF Try.prog 85 (fun a => (impl_BitsSize.ans k a).val) := by
  refine sound_plain (fun args res h => ?_) (fun t n => rfl)
  unfold impl_BitsSize.ans at h
  dsimp only at h
  split at h
  · cases k with
    | zero => cases h
    | succ k =>
      unfold Ans.val at h
      rw [← impl_BitsSize.eq] at h
      exact answer_sound mixed Try.func85 _ _ _ (k + 1) (fun j _ => tab_sound (tab_nil)) _ _ h
  · exact (Ans.no_val h).elim

/-! loop.example/g00790/impl.BitsNew -/
def impl_BitsNew.b {R : Type} (ret : Bool × List Int → Option R) (k : Nat) (a0 : Int) : Option R :=
  (impl_within.f k a0 1 10).bind fun t0 => cond (!t0) (ret (true, ([] : List Int))) ((impl_BitsSize.f k a0).bind fun t1 => cond (decide (t1 = t1)) (cond (decide ((0 : Int) ≤ t1)) (cond (decide ((t1).toNat < 140737488355328)) (ret (false, (List.replicate (t1).toNat (0 : Int)))) (none)) (none)) (none))
def impl_BitsNew.f : Nat → Int → Option (Bool × List Int)
  | 0, _ => none
  | k + 1, a0 => impl_BitsNew.b some k a0
def impl_BitsNew.enc (r : Bool × List Int) : Res := ⟨[.vals false [((.nums 5 .u8 r.1 r.2), true)]], []⟩
def impl_BitsNew.ans (k : Nat) : List Arg → Ans
  | [.v (.int .i64 a0)] => ⟨impl_BitsNew.f k a0, impl_BitsNew.enc⟩
  | _ => Ans.no
def impl_BitsNew.Cs (k : Nat) : CallSem := tab [(29, impl_within.ans k), (85, impl_BitsSize.ans k)]
def impl_BitsNew.cuts : List (Nat × Keep) := []
theorem impl_BitsNew.s (k : Nat) (a0 : Int) : answer Try.prog impl_BitsNew.Cs 100000 impl_BitsNew.cuts [] Try.f61 (k + 1) [.v (.int .i64 a0)] = impl_BitsNew.b (fun r => some (impl_BitsNew.enc r)) k a0 := by kernel_rfl
theorem impl_BitsNew.b_nat {R R' : Type} (e : R → R') (ret : Bool × List Int → Option R) (k : Nat) (a0 : Int) : impl_BitsNew.b (fun r => (ret r).map e) k a0 = (impl_BitsNew.b ret k a0).map e := by
  unfold impl_BitsNew.b
  repeat' first | with_reducible refine nat_cond ?_ ?_ | with_reducible refine nat_bind fun _ => ?_ | rfl
theorem impl_BitsNew.eq (k : Nat) (a0 : Int) : answer Try.prog impl_BitsNew.Cs 100000 impl_BitsNew.cuts [] Try.f61 (k + 1) [.v (.int .i64 a0)] = (impl_BitsNew.f (k + 1) a0).map impl_BitsNew.enc := by
  refine (impl_BitsNew.s k a0).trans (Eq.trans ?_ (impl_BitsNew.b_nat impl_BitsNew.enc some k a0))
  simp only [Option.map_some]
theorem impl_BitsNew.sound (k : Nat) : SoundF Try.prog 61 (fun a => (impl_BitsNew.ans k a).val) := by
  refine sound_plain (fun args res h => ?_) (fun t n => rfl)
  unfold impl_BitsNew.ans at h
  dsimp only at h
  split at h
  · cases k with
    | zero => cases h
    | succ k =>
      unfold Ans.val at h
      rw [← impl_BitsNew.eq] at h
      exact answer_sound mixed Try.func61 _ _ _ (k + 1) (fun j _ => tab_sound (tab_cons (impl_within.sound j) (tab_cons (impl_BitsSize.sound j) (tab_nil)))) _ _ h
  · exact (Ans.no_val h).elim

/-! loop.example/g00790/impl.BitsOf -/
def impl_BitsOf.b {R : Type} (ret : Bool × (List Int) × Bool → Option R) (j0 : Int → Bool → (List Int) → Bool → (List Int) → Int → Int → Option R) (k : Nat) (a0z : Bool) (a0 : List Int) (a1 : Int) : Option R :=
  (impl_within.f k a1 1 10).bind fun t0 => cond (!t0) (ret (true, ([] : List Int), false)) ((impl_BitsNew.f k a1).bind fun t1 => j0 a1 t1.1 t1.2 a0z a0 ((a0).length : Int) 0)
def impl_BitsOf.l0b {R : Type} (ret : Bool × (List Int) × Bool → Option R) (j0 : Int → Bool → (List Int) → Bool → (List Int) → Int → Int → Option R) (k : Nat) (x1 : Int) (x6z : Bool) (x6 : List Int) (x14z : Bool) (x14 : List Int) (x15 : Int) (x16 : Int) : Option R :=
  cond (decide (x16 < x15)) (cond (decide ((0 : Int) ≤ x16)) (cond (decide (x16 < ((x14).length : Int))) ((impl_within.f k (rdI x14 x16) 0 (RowKit.wrap64 (x1 - 1))).bind fun t0 => cond (!t0) (ret (true, ([] : List Int), false)) (cond (decide ((0 : Int) ≤ (RowKit.wrap64 (Int.tdiv (rdI x14 x16) 8)))) (cond (decide ((RowKit.wrap64 (Int.tdiv (rdI x14 x16) 8)) < ((x6).length : Int))) (cond (decide ((0 : Int) ≤ (Int.tmod (rdI x14 x16) 8))) (cond (decide ((0 : Int) ≤ (RowKit.wrap64 (Int.tdiv (rdI x14 x16) 8)))) (cond (decide ((RowKit.wrap64 (Int.tdiv (rdI x14 x16) 8)) < ((x6).length : Int))) (j0 x1 x6z ((x6).set ((RowKit.wrap64 (Int.tdiv (rdI x14 x16) 8))).toNat (Go.bits .or .u8 (rdI x6 (RowKit.wrap64 (Int.tdiv (rdI x14 x16) 8))) (shlI .u8 1 (Int.tmod (rdI x14 x16) 8)))) x14z x14 x15 (RowKit.wrap64 (x16 + 1))) (none)) (none)) (none)) (none)) (none))) (none)) (none)) (ret (x6z, x6, true))
def impl_BitsOf.l0 : Nat → Int → Bool → (List Int) → Bool → (List Int) → Int → Int → Option (Bool × (List Int) × Bool)
  | 0, _, _, _, _, _, _, _ => none
  | k + 1, x1, x6z, x6, x14z, x14, x15, x16 => impl_BitsOf.l0b some (impl_BitsOf.l0 k) k x1 x6z x6 x14z x14 x15 x16
def impl_BitsOf.f : Nat → Bool → (List Int) → Int → Option (Bool × (List Int) × Bool)
  | 0, _, _, _ => none
  | k + 1, a0z, a0, a1 => impl_BitsOf.b some (impl_BitsOf.l0 k) k a0z a0 a1
def impl_BitsOf.enc (r : Bool × (List Int) × Bool) : Res := ⟨[.vals false [((.nums 5 .u8 r.1 r.2.1), true)], .vals false [((.bool r.2.2), true)]], []⟩
def impl_BitsOf.ans (k : Nat) : List Arg → Ans
  | [.v (.nums 3 .i64 a0z a0), .v (.int .i64 a1)] => ⟨impl_BitsOf.f k a0z a0 a1, impl_BitsOf.enc⟩
  | _ => Ans.no
def impl_BitsOf.Cs (k : Nat) : CallSem := tab [(29, impl_within.ans k), (61, impl_BitsNew.ans k)]
def impl_BitsOf.cuts : List (Nat × Keep) := [(122, ⟨[(1, some []), (6, none), (14, some []), (15, some []), (16, some [])], []⟩)]
noncomputable def impl_BitsOf.K0 : List Fr := framesAt [true, true, true, false, true, false] (bodyOf Try.f43 impl_BitsOf.cuts) []
def impl_BitsOf.N0 (x1 : Int) (x6z : Bool) (x6 : List Int) (x14z : Bool) (x14 : List Int) (x15 : Int) (x16 : Int) : St := stOf 37 37 2 [(1, .val (V.s (.int .i64 x1))), (6, .val ⟨(.nums 5 .u8 x6z x6), [.l 6 0], true, some (.l 6 0)⟩), (14, .val ⟨(.nums 3 .i64 x14z x14), [], false, none⟩), (15, .val (V.s (.int .i64 x15))), (16, .val (V.s (.int .i64 x16)))] []
theorem impl_BitsOf.s (k : Nat) (a0z : Bool) (a0 : List Int) (a1 : Int) : answer Try.prog impl_BitsOf.Cs 100000 impl_BitsOf.cuts [] Try.f43 (k + 1) [.v (.nums 3 .i64 a0z a0), .v (.int .i64 a1)] = impl_BitsOf.b (fun r => some (impl_BitsOf.enc r)) (fun x1 x6z x6 x14z x14 x15 x16 => rounds Try.prog impl_BitsOf.Cs (finish Try.prog [] Try.f43 [.v (.nums 3 .i64 a0z a0), .v (.int .i64 a1)]) 100000 k impl_BitsOf.K0 (impl_BitsOf.N0 x1 x6z x6 x14z x14 x15 x16)) k a0z a0 a1 := by kernel_rfl
theorem impl_BitsOf.s0 (k : Nat) (G : List Fr → St → Option Res) (a0z : Bool) (a0 : List Int) (a1 : Int) (yx1 : Int) (yx6z : Bool) (yx6 : List Int) (yx14z : Bool) (yx14 : List Int) (yx15 : Int) (yx16 : Int) : resume Try.prog (impl_BitsOf.Cs k) G (finish Try.prog [] Try.f43 [.v (.nums 3 .i64 a0z a0), .v (.int .i64 a1)]) 100000 impl_BitsOf.K0 (impl_BitsOf.N0 yx1 yx6z yx6 yx14z yx14 yx15 yx16) = impl_BitsOf.l0b (fun r => some (impl_BitsOf.enc r)) (fun x1 x6z x6 x14z x14 x15 x16 => G impl_BitsOf.K0 (impl_BitsOf.N0 x1 x6z x6 x14z x14 x15 x16)) k yx1 yx6z yx6 yx14z yx14 yx15 yx16 := by kernel_rfl
theorem impl_BitsOf.b_nat {R R' : Type} (e : R → R') (ret : Bool × (List Int) × Bool → Option R) (j0 : Int → Bool → (List Int) → Bool → (List Int) → Int → Int → Option R) (k : Nat) (a0z : Bool) (a0 : List Int) (a1 : Int) : impl_BitsOf.b (fun r => (ret r).map e) (fun x1 x6z x6 x14z x14 x15 x16 => (j0 x1 x6z x6 x14z x14 x15 x16).map e) k a0z a0 a1 = (impl_BitsOf.b ret j0 k a0z a0 a1).map e := by
  unfold impl_BitsOf.b
  repeat' first | with_reducible refine nat_cond ?_ ?_ | with_reducible refine nat_bind fun _ => ?_ | rfl
theorem impl_BitsOf.l0b_nat {R R' : Type} (e : R → R') (ret : Bool × (List Int) × Bool → Option R) (j0 : Int → Bool → (List Int) → Bool → (List Int) → Int → Int → Option R) (k : Nat) (x1 : Int) (x6z : Bool) (x6 : List Int) (x14z : Bool) (x14 : List Int) (x15 : Int) (x16 : Int) : impl_BitsOf.l0b (fun r => (ret r).map e) (fun x1 x6z x6 x14z x14 x15 x16 => (j0 x1 x6z x6 x14z x14 x15 x16).map e) k x1 x6z x6 x14z x14 x15 x16 = (impl_BitsOf.l0b ret j0 k x1 x6z x6 x14z x14 x15 x16).map e := by
  unfold impl_BitsOf.l0b
  repeat' first | with_reducible refine nat_cond ?_ ?_ | with_reducible refine nat_bind fun _ => ?_ | rfl
theorem impl_BitsOf.rounds_eq (a0z : Bool) (a0 : List Int) (a1 : Int) : ∀ k, (∀ (x1 : Int) (x6z : Bool) (x6 : List Int) (x14z : Bool) (x14 : List Int) (x15 : Int) (x16 : Int), rounds Try.prog impl_BitsOf.Cs (finish Try.prog [] Try.f43 [.v (.nums 3 .i64 a0z a0), .v (.int .i64 a1)]) 100000 k impl_BitsOf.K0 (impl_BitsOf.N0 x1 x6z x6 x14z x14 x15 x16) = (impl_BitsOf.l0 k x1 x6z x6 x14z x14 x15 x16).map impl_BitsOf.enc)
  | 0 => fun _ _ _ _ _ _ _ => rfl
  | k + 1 => by
    have ih := impl_BitsOf.rounds_eq a0z a0 a1 k
    refine fun _ _ _ _ _ _ _ => ?_
    · refine (impl_BitsOf.s0 k _ a0z a0 a1 _ _ _ _ _ _ _).trans (Eq.trans ?_ (impl_BitsOf.l0b_nat impl_BitsOf.enc some (impl_BitsOf.l0 k) k _ _ _ _ _ _ _))
      simp only [ih, Option.map_some]
theorem impl_BitsOf.eq (k : Nat) (a0z : Bool) (a0 : List Int) (a1 : Int) : answer Try.prog impl_BitsOf.Cs 100000 impl_BitsOf.cuts [] Try.f43 (k + 1) [.v (.nums 3 .i64 a0z a0), .v (.int .i64 a1)] = (impl_BitsOf.f (k + 1) a0z a0 a1).map impl_BitsOf.enc := by
  have ih := impl_BitsOf.rounds_eq a0z a0 a1 k
  refine (impl_BitsOf.s k a0z a0 a1).trans (Eq.trans ?_ (impl_BitsOf.b_nat impl_BitsOf.enc some (impl_BitsOf.l0 k) k a0z a0 a1))
  simp only [ih, Option.map_some]
theorem impl_BitsOf.sound (k : Nat) : SoundF Try.prog 43 (fun a => (impl_BitsOf.ans k a).val) := by
  refine sound_plain (fun args res h => ?_) (fun t n => rfl)
  unfold impl_BitsOf.ans at h
  dsimp only at h
  split at h
  · cases k with
    | zero => cases h
    | succ k =>
      unfold Ans.val at h
      rw [← impl_BitsOf.eq] at h
      exact answer_sound mixed Try.func43 _ _ _ (k + 1) (fun j _ => tab_sound (tab_cons (impl_within.sound j) (tab_cons (impl_BitsNew.sound j) (tab_nil)))) _ _ h
  · exact (Ans.no_val h).elim

/-! loop.example/g00790/impl.whoOf -/
def impl_whoOf.b {R : Type} (ret : Bool × List Int → Option R) (j0 : Bool → (List T) → Bool → (List T) → (List Int) → Int → Int → Bool → (List T) → Option R) (k : Nat) (a0_0z : Bool) (a0_0 : List T) (a1_0_0z : Bool) (a1_0_0 : List T) (a1_1_0z : Bool) (a1_1_0 : List T) : Option R :=
  (impl_TableOk.f k a0_0z a0_0).bind fun t0 => cond (!t0) (ret (true, ([] : List Int))) (j0 a1_0_0z a1_0_0 a1_1_0z a1_1_0 ([] : List Int) ((a0_0).length : Int) 0 a0_0z a0_0)
def impl_whoOf.l0b {R : Type} (ret : Bool × List Int → Option R) (j0 : Bool → (List T) → Bool → (List T) → (List Int) → Int → Int → Bool → (List T) → Option R) (k : Nat) (x1_0_0z : Bool) (x1_0_0 : List T) (x1_1_0z : Bool) (x1_1_0 : List T) (x5 : List Int) (x15 : Int) (x16 : Int) (c2_0z : Bool) (c2_0 : List T) : Option R :=
  cond (decide (x16 < x15)) ((impl_Twice_1.f k x16 x1_0_0z x1_0_0 x1_1_0z x1_1_0).bind fun t0 => cond t0 (cond (decide ((x5).length + 1 < 17592186044416)) (j0 x1_0_0z x1_0_0 x1_1_0z x1_1_0 (x5 ++ ([x16] : List Int)) x15 (RowKit.wrap64 (x16 + 1)) c2_0z c2_0) (none)) (j0 x1_0_0z x1_0_0 x1_1_0z x1_1_0 x5 x15 (RowKit.wrap64 (x16 + 1)) c2_0z c2_0)) ((impl_BitsOf.f k false x5 ((c2_0).length : Int)).bind fun t0 => ret (t0.1, t0.2.1))
def impl_whoOf.l0 : Nat → Bool → (List T) → Bool → (List T) → (List Int) → Int → Int → Bool → (List T) → Option (Bool × List Int)
  | 0, _, _, _, _, _, _, _, _, _ => none
  | k + 1, x1_0_0z, x1_0_0, x1_1_0z, x1_1_0, x5, x15, x16, c2_0z, c2_0 => impl_whoOf.l0b some (impl_whoOf.l0 k) k x1_0_0z x1_0_0 x1_1_0z x1_1_0 x5 x15 x16 c2_0z c2_0
def impl_whoOf.f : Nat → Bool → (List T) → Bool → (List T) → Bool → (List T) → Option (Bool × List Int)
  | 0, _, _, _, _, _, _ => none
  | k + 1, a0_0z, a0_0, a1_0_0z, a1_0_0, a1_1_0z, a1_1_0 => impl_whoOf.b some (impl_whoOf.l0 k) k a0_0z a0_0 a1_0_0z a1_0_0 a1_1_0z a1_1_0
def impl_whoOf.enc (r : Bool × List Int) : Res := ⟨[.vals false [((.nums 5 .u8 r.1 r.2), true)]], []⟩
def impl_whoOf.ans (k : Nat) : List Arg → Ans
  | [.v (.agg [(.sl 82 a0_0z a0_0)]), .v (.fn 23 [(.ptr [(.sl 82 a1_0_0z a1_0_0)]), (.ptr [(.sl 33 a1_1_0z a1_1_0)])])] => ⟨impl_whoOf.f k a0_0z a0_0 a1_0_0z a1_0_0 a1_1_0z a1_1_0, impl_whoOf.enc⟩
  | _ => Ans.no
def impl_whoOf.Cs (k : Nat) : CallSem := tab [(42, impl_TableOk.ans k), (23, impl_Twice_1.ans k), (43, impl_BitsOf.ans k)]
def impl_whoOf.cuts : List (Nat × Keep) := [(122, ⟨[(1, some []), (2, some []), (5, none), (15, some []), (16, some [])], [(2, [some []])]⟩)]
noncomputable def impl_whoOf.K0 : List Fr := framesAt [true, true, true, false, true, false] (bodyOf Try.f22 impl_whoOf.cuts) []
def impl_whoOf.N0 (x1_0_0z : Bool) (x1_0_0 : List T) (x1_1_0z : Bool) (x1_1_0 : List T) (x5 : List Int) (x15 : Int) (x16 : Int) (c2_0z : Bool) (c2_0 : List T) : St := stOf 36 36 2 [(1, .val ⟨(.fn 23 [(.ptr [(.sl 82 x1_0_0z x1_0_0)]), (.ptr [(.sl 33 x1_1_0z x1_1_0)])]), [], false, none⟩), (2, .bp 2 0), (5, .val ⟨(.nums 3 .i64 false x5), [.l 5 0], true, some (.l 5 0)⟩), (15, .val (V.s (.int .i64 x15))), (16, .val (V.s (.int .i64 x16)))] [(2, .cells [⟨(.sl 82 c2_0z c2_0), [], false, none⟩])]
theorem impl_whoOf.s (k : Nat) (a0_0z : Bool) (a0_0 : List T) (a1_0_0z : Bool) (a1_0_0 : List T) (a1_1_0z : Bool) (a1_1_0 : List T) : answer Try.prog impl_whoOf.Cs 100000 impl_whoOf.cuts [] Try.f22 (k + 1) [.v (.agg [(.sl 82 a0_0z a0_0)]), .v (.fn 23 [(.ptr [(.sl 82 a1_0_0z a1_0_0)]), (.ptr [(.sl 33 a1_1_0z a1_1_0)])])] = impl_whoOf.b (fun r => some (impl_whoOf.enc r)) (fun x1_0_0z x1_0_0 x1_1_0z x1_1_0 x5 x15 x16 c2_0z c2_0 => rounds Try.prog impl_whoOf.Cs (finish Try.prog [] Try.f22 [.v (.agg [(.sl 82 a0_0z a0_0)]), .v (.fn 23 [(.ptr [(.sl 82 a1_0_0z a1_0_0)]), (.ptr [(.sl 33 a1_1_0z a1_1_0)])])]) 100000 k impl_whoOf.K0 (impl_whoOf.N0 x1_0_0z x1_0_0 x1_1_0z x1_1_0 x5 x15 x16 c2_0z c2_0)) k a0_0z a0_0 a1_0_0z a1_0_0 a1_1_0z a1_1_0 := by kernel_rfl
theorem impl_whoOf.s0 (k : Nat) (G : List Fr → St → Option Res) (a0_0z : Bool) (a0_0 : List T) (a1_0_0z : Bool) (a1_0_0 : List T) (a1_1_0z : Bool) (a1_1_0 : List T) (yx1_0_0z : Bool) (yx1_0_0 : List T) (yx1_1_0z : Bool) (yx1_1_0 : List T) (yx5 : List Int) (yx15 : Int) (yx16 : Int) (yc2_0z : Bool) (yc2_0 : List T) : resume Try.prog (impl_whoOf.Cs k) G (finish Try.prog [] Try.f22 [.v (.agg [(.sl 82 a0_0z a0_0)]), .v (.fn 23 [(.ptr [(.sl 82 a1_0_0z a1_0_0)]), (.ptr [(.sl 33 a1_1_0z a1_1_0)])])]) 100000 impl_whoOf.K0 (impl_whoOf.N0 yx1_0_0z yx1_0_0 yx1_1_0z yx1_1_0 yx5 yx15 yx16 yc2_0z yc2_0) = impl_whoOf.l0b (fun r => some (impl_whoOf.enc r)) (fun x1_0_0z x1_0_0 x1_1_0z x1_1_0 x5 x15 x16 c2_0z c2_0 => G impl_whoOf.K0 (impl_whoOf.N0 x1_0_0z x1_0_0 x1_1_0z x1_1_0 x5 x15 x16 c2_0z c2_0)) k yx1_0_0z yx1_0_0 yx1_1_0z yx1_1_0 yx5 yx15 yx16 yc2_0z yc2_0 := by kernel_rfl
theorem impl_whoOf.b_nat {R R' : Type} (e : R → R') (ret : Bool × List Int → Option R) (j0 : Bool → (List T) → Bool → (List T) → (List Int) → Int → Int → Bool → (List T) → Option R) (k : Nat) (a0_0z : Bool) (a0_0 : List T) (a1_0_0z : Bool) (a1_0_0 : List T) (a1_1_0z : Bool) (a1_1_0 : List T) : impl_whoOf.b (fun r => (ret r).map e) (fun x1_0_0z x1_0_0 x1_1_0z x1_1_0 x5 x15 x16 c2_0z c2_0 => (j0 x1_0_0z x1_0_0 x1_1_0z x1_1_0 x5 x15 x16 c2_0z c2_0).map e) k a0_0z a0_0 a1_0_0z a1_0_0 a1_1_0z a1_1_0 = (impl_whoOf.b ret j0 k a0_0z a0_0 a1_0_0z a1_0_0 a1_1_0z a1_1_0).map e := by
  unfold impl_whoOf.b
  repeat' first | with_reducible refine nat_cond ?_ ?_ | with_reducible refine nat_bind fun _ => ?_ | rfl
theorem impl_whoOf.l0b_nat {R R' : Type} (e : R → R') (ret : Bool × List Int → Option R) (j0 : Bool → (List T) → Bool → (List T) → (List Int) → Int → Int → Bool → (List T) → Option R) (k : Nat) (x1_0_0z : Bool) (x1_0_0 : List T) (x1_1_0z : Bool) (x1_1_0 : List T) (x5 : List Int) (x15 : Int) (x16 : Int) (c2_0z : Bool) (c2_0 : List T) : impl_whoOf.l0b (fun r => (ret r).map e) (fun x1_0_0z x1_0_0 x1_1_0z x1_1_0 x5 x15 x16 c2_0z c2_0 => (j0 x1_0_0z x1_0_0 x1_1_0z x1_1_0 x5 x15 x16 c2_0z c2_0).map e) k x1_0_0z x1_0_0 x1_1_0z x1_1_0 x5 x15 x16 c2_0z c2_0 = (impl_whoOf.l0b ret j0 k x1_0_0z x1_0_0 x1_1_0z x1_1_0 x5 x15 x16 c2_0z c2_0).map e := by
  unfold impl_whoOf.l0b
  repeat' first | with_reducible refine nat_cond ?_ ?_ | with_reducible refine nat_bind fun _ => ?_ | rfl
theorem impl_whoOf.rounds_eq (a0_0z : Bool) (a0_0 : List T) (a1_0_0z : Bool) (a1_0_0 : List T) (a1_1_0z : Bool) (a1_1_0 : List T) : ∀ k, (∀ (x1_0_0z : Bool) (x1_0_0 : List T) (x1_1_0z : Bool) (x1_1_0 : List T) (x5 : List Int) (x15 : Int) (x16 : Int) (c2_0z : Bool) (c2_0 : List T), rounds Try.prog impl_whoOf.Cs (finish Try.prog [] Try.f22 [.v (.agg [(.sl 82 a0_0z a0_0)]), .v (.fn 23 [(.ptr [(.sl 82 a1_0_0z a1_0_0)]), (.ptr [(.sl 33 a1_1_0z a1_1_0)])])]) 100000 k impl_whoOf.K0 (impl_whoOf.N0 x1_0_0z x1_0_0 x1_1_0z x1_1_0 x5 x15 x16 c2_0z c2_0) = (impl_whoOf.l0 k x1_0_0z x1_0_0 x1_1_0z x1_1_0 x5 x15 x16 c2_0z c2_0).map impl_whoOf.enc)
  | 0 => fun _ _ _ _ _ _ _ _ _ => rfl
  | k + 1 => by
    have ih := impl_whoOf.rounds_eq a0_0z a0_0 a1_0_0z a1_0_0 a1_1_0z a1_1_0 k
    refine fun _ _ _ _ _ _ _ _ _ => ?_
    · refine (impl_whoOf.s0 k _ a0_0z a0_0 a1_0_0z a1_0_0 a1_1_0z a1_1_0 _ _ _ _ _ _ _ _ _).trans (Eq.trans ?_ (impl_whoOf.l0b_nat impl_whoOf.enc some (impl_whoOf.l0 k) k _ _ _ _ _ _ _ _ _))
      simp only [ih, Option.map_some]
theorem impl_whoOf.eq (k : Nat) (a0_0z : Bool) (a0_0 : List T) (a1_0_0z : Bool) (a1_0_0 : List T) (a1_1_0z : Bool) (a1_1_0 : List T) : answer Try.prog impl_whoOf.Cs 100000 impl_whoOf.cuts [] Try.f22 (k + 1) [.v (.agg [(.sl 82 a0_0z a0_0)]), .v (.fn 23 [(.ptr [(.sl 82 a1_0_0z a1_0_0)]), (.ptr [(.sl 33 a1_1_0z a1_1_0)])])] = (impl_whoOf.f (k + 1) a0_0z a0_0 a1_0_0z a1_0_0 a1_1_0z a1_1_0).map impl_whoOf.enc := by
  have ih := impl_whoOf.rounds_eq a0_0z a0_0 a1_0_0z a1_0_0 a1_1_0z a1_1_0 k
  refine (impl_whoOf.s k a0_0z a0_0 a1_0_0z a1_0_0 a1_1_0z a1_1_0).trans (Eq.trans ?_ (impl_whoOf.b_nat impl_whoOf.enc some (impl_whoOf.l0 k) k a0_0z a0_0 a1_0_0z a1_0_0 a1_1_0z a1_1_0))
  simp only [ih, Option.map_some]
theorem impl_whoOf.sound (k : Nat) : SoundF Try.prog 22 (fun a => (impl_whoOf.ans k a).val) := by
  refine sound_plain (fun args res h => ?_) (fun t n => rfl)
  unfold impl_whoOf.ans at h
  dsimp only at h
  split at h
  · cases k with
    | zero => cases h
    | succ k =>
      unfold Ans.val at h
      rw [← impl_whoOf.eq] at h
      exact answer_sound mixed Try.func22 _ _ _ (k + 1) (fun j _ => tab_sound (tab_cons (impl_TableOk.sound j) (tab_cons (impl_Twice_1.sound j) (tab_cons (impl_BitsOf.sound j) (tab_nil))))) _ _ h
  · exact (Ans.no_val h).elim

/-! loop.example/g00790/impl.Twice -/
def impl_Twice.b {R : Type} (ret : Bool × List Int → Option R) (k : Nat) (a0_0z : Bool) (a0_0 : List T) (a1z : Bool) (a1 : List T) : Option R :=
  (impl_whoOf.f k a0_0z a0_0 a0_0z a0_0 a1z a1).bind fun t0 => ret (t0.1, t0.2)
def impl_Twice.f : Nat → Bool → (List T) → Bool → (List T) → Option (Bool × List Int)
  | 0, _, _, _, _ => none
  | k + 1, a0_0z, a0_0, a1z, a1 => impl_Twice.b some k a0_0z a0_0 a1z a1
def impl_Twice.enc (r : Bool × List Int) : Res := ⟨[.vals false [((.nums 5 .u8 r.1 r.2), true)]], []⟩
def impl_Twice.ans (k : Nat) : List Arg → Ans
  | [.v (.agg [(.sl 82 a0_0z a0_0)]), .v (.sl 33 a1z a1)] => ⟨impl_Twice.f k a0_0z a0_0 a1z a1, impl_Twice.enc⟩
  | _ => Ans.no
def impl_Twice.Cs (k : Nat) : CallSem := tab [(22, impl_whoOf.ans k)]
def impl_Twice.cuts : List (Nat × Keep) := []
theorem impl_Twice.s (k : Nat) (a0_0z : Bool) (a0_0 : List T) (a1z : Bool) (a1 : List T) : answer Try.prog impl_Twice.Cs 100000 impl_Twice.cuts [] Try.f6 (k + 1) [.v (.agg [(.sl 82 a0_0z a0_0)]), .v (.sl 33 a1z a1)] = impl_Twice.b (fun r => some (impl_Twice.enc r)) k a0_0z a0_0 a1z a1 := by kernel_rfl
theorem impl_Twice.b_nat {R R' : Type} (e : R → R') (ret : Bool × List Int → Option R) (k : Nat) (a0_0z : Bool) (a0_0 : List T) (a1z : Bool) (a1 : List T) : impl_Twice.b (fun r => (ret r).map e) k a0_0z a0_0 a1z a1 = (impl_Twice.b ret k a0_0z a0_0 a1z a1).map e := by
  unfold impl_Twice.b
  repeat' first | with_reducible refine nat_cond ?_ ?_ | with_reducible refine nat_bind fun _ => ?_ | rfl
theorem impl_Twice.eq (k : Nat) (a0_0z : Bool) (a0_0 : List T) (a1z : Bool) (a1 : List T) : answer Try.prog impl_Twice.Cs 100000 impl_Twice.cuts [] Try.f6 (k + 1) [.v (.agg [(.sl 82 a0_0z a0_0)]), .v (.sl 33 a1z a1)] = (impl_Twice.f (k + 1) a0_0z a0_0 a1z a1).map impl_Twice.enc := by
  refine (impl_Twice.s k a0_0z a0_0 a1z a1).trans (Eq.trans ?_ (impl_Twice.b_nat impl_Twice.enc some k a0_0z a0_0 a1z a1))
  simp only [Option.map_some]
theorem impl_Twice.sound (k : Nat) : SoundF Try.prog 6 (fun a => (impl_Twice.ans k a).val) := by
  refine sound_plain (fun args res h => ?_) (fun t n => rfl)
  unfold impl_Twice.ans at h
  dsimp only at h
  split at h
  · cases k with
    | zero => cases h
    | succ k =>
      unfold Ans.val at h
      rw [← impl_Twice.eq] at h
      exact answer_sound mixed Try.func6 _ _ _ (k + 1) (fun j _ => tab_sound (tab_cons (impl_whoOf.sound j) (tab_nil))) _ _ h
  · exact (Ans.no_val h).elim

/-! slices_Sort__intint -/
def slices_Sort__intint.f (k : Nat) (a0z : Bool) (a0 : List Int) : Option (Bool × List Int) := cond (sortOk a0) (some (a0z, sortI a0)) none
def slices_Sort__intint.enc (r : Bool × List Int) : Res := ⟨[], [[((.nums 3 .i64 r.1 r.2), true)]]⟩
def slices_Sort__intint.ans (k : Nat) : List Arg → Ans
  | [.own (.nums 3 .i64 a0z a0)] => ⟨slices_Sort__intint.f k a0z a0, slices_Sort__intint.enc⟩
  | _ => Ans.no
theorem slices_Sort__intint.sound (k : Nat) : SoundF Try.prog 30 (fun a => (slices_Sort__intint.ans k a).val) := by
  refine ext_sort lay_Sort (e := 3) (fun args h => ?_) (fun z l res h => sort_val h)
  unfold slices_Sort__intint.ans
  split
  · exact (h _ _ rfl).elim
  · rfl

/-! slices_Compact__intint -/
def slices_Compact__intint.f (k : Nat) (a0z : Bool) (a0 : List Int) : Option (Bool × List Int) := some (a0z, compI a0)
def slices_Compact__intint.enc (r : Bool × List Int) : Res := ⟨[.vals false [((.nums 3 .i64 r.1 r.2), true)]], []⟩
def slices_Compact__intint.ans (k : Nat) : List Arg → Ans
  | [.own (.nums 3 .i64 a0z a0)] => ⟨slices_Compact__intint.f k a0z a0, slices_Compact__intint.enc⟩
  | _ => Ans.no
theorem slices_Compact__intint.sound (k : Nat) : SoundF Try.prog 31 (fun a => (slices_Compact__intint.ans k a).val) := by
  refine ext_cut lay_Compact (e := 3) (fun args h => ?_) (fun z l => rfl)
  unfold slices_Compact__intint.ans
  split
  · exact (h _ _ rfl).elim
  · rfl

/-! loop.example/g00790/impl.Views -/
def impl_Views.b {R : Type} (ret : Bool × List Int → Option R) (j0 : (List Int) → Bool → (List T) → Int → Int → Option R) (k : Nat) (a0z : Bool) (a0 : List T) : Option R :=
  j0 ([] : List Int) a0z a0 ((a0).length : Int) 0
def impl_Views.l0b {R : Type} (ret : Bool × List Int → Option R) (j0 : (List Int) → Bool → (List T) → Int → Int → Option R) (k : Nat) (x3 : List Int) (x7z : Bool) (x7 : List T) (x8 : Int) (x9 : Int) : Option R :=
  cond (decide (x9 < x8)) (cond (decide ((0 : Int) ≤ x9)) (cond (decide (x9 < ((x7).length : Int))) (cond (decide ((x3).length + 1 < 17592186044416)) (j0 (x3 ++ ([((((x7).getD (x9).toNat .bad).cells.getD 0 .bad)).toInt] : List Int)) x7z x7 x8 (RowKit.wrap64 (x9 + 1))) (none)) (none)) (none)) ((slices_Sort__intint.f k false x3).bind fun t0 => (slices_Compact__intint.f k t0.1 t0.2).bind fun t1 => ret (t1.1, t1.2))
def impl_Views.l0 : Nat → (List Int) → Bool → (List T) → Int → Int → Option (Bool × List Int)
  | 0, _, _, _, _, _ => none
  | k + 1, x3, x7z, x7, x8, x9 => impl_Views.l0b some (impl_Views.l0 k) k x3 x7z x7 x8 x9
def impl_Views.f : Nat → Bool → (List T) → Option (Bool × List Int)
  | 0, _, _ => none
  | k + 1, a0z, a0 => impl_Views.b some (impl_Views.l0 k) k a0z a0
def impl_Views.enc (r : Bool × List Int) : Res := ⟨[.vals false [((.nums 3 .i64 r.1 r.2), true)]], []⟩
def impl_Views.ans (k : Nat) : List Arg → Ans
  | [.v (.sl 33 a0z a0)] => ⟨impl_Views.f k a0z a0, impl_Views.enc⟩
  | _ => Ans.no
def impl_Views.Cs (k : Nat) : CallSem := tab [(30, slices_Sort__intint.ans k), (31, slices_Compact__intint.ans k)]
def impl_Views.cuts : List (Nat × Keep) := [(58, ⟨[(3, none), (7, some []), (8, some []), (9, some [])], []⟩)]
noncomputable def impl_Views.K0 : List Fr := framesAt [true, true, false, true, false] (bodyOf Try.f10 impl_Views.cuts) []
def impl_Views.N0 (x3 : List Int) (x7z : Bool) (x7 : List T) (x8 : Int) (x9 : Int) : St := stOf 23 23 1 [(3, .val ⟨(.nums 3 .i64 false x3), [.l 3 0], true, some (.l 3 0)⟩), (7, .val ⟨(.sl 33 x7z x7), [], false, none⟩), (8, .val (V.s (.int .i64 x8))), (9, .val (V.s (.int .i64 x9)))] []
theorem impl_Views.s (k : Nat) (a0z : Bool) (a0 : List T) : answer Try.prog impl_Views.Cs 100000 impl_Views.cuts [] Try.f10 (k + 1) [.v (.sl 33 a0z a0)] = impl_Views.b (fun r => some (impl_Views.enc r)) (fun x3 x7z x7 x8 x9 => rounds Try.prog impl_Views.Cs (finish Try.prog [] Try.f10 [.v (.sl 33 a0z a0)]) 100000 k impl_Views.K0 (impl_Views.N0 x3 x7z x7 x8 x9)) k a0z a0 := by kernel_rfl
theorem impl_Views.s0 (k : Nat) (G : List Fr → St → Option Res) (a0z : Bool) (a0 : List T) (yx3 : List Int) (yx7z : Bool) (yx7 : List T) (yx8 : Int) (yx9 : Int) : resume Try.prog (impl_Views.Cs k) G (finish Try.prog [] Try.f10 [.v (.sl 33 a0z a0)]) 100000 impl_Views.K0 (impl_Views.N0 yx3 yx7z yx7 yx8 yx9) = impl_Views.l0b (fun r => some (impl_Views.enc r)) (fun x3 x7z x7 x8 x9 => G impl_Views.K0 (impl_Views.N0 x3 x7z x7 x8 x9)) k yx3 yx7z yx7 yx8 yx9 := by kernel_rfl
theorem impl_Views.b_nat {R R' : Type} (e : R → R') (ret : Bool × List Int → Option R) (j0 : (List Int) → Bool → (List T) → Int → Int → Option R) (k : Nat) (a0z : Bool) (a0 : List T) : impl_Views.b (fun r => (ret r).map e) (fun x3 x7z x7 x8 x9 => (j0 x3 x7z x7 x8 x9).map e) k a0z a0 = (impl_Views.b ret j0 k a0z a0).map e := by
  unfold impl_Views.b
  repeat' first | with_reducible refine nat_cond ?_ ?_ | with_reducible refine nat_bind fun _ => ?_ | rfl
theorem impl_Views.l0b_nat {R R' : Type} (e : R → R') (ret : Bool × List Int → Option R) (j0 : (List Int) → Bool → (List T) → Int → Int → Option R) (k : Nat) (x3 : List Int) (x7z : Bool) (x7 : List T) (x8 : Int) (x9 : Int) : impl_Views.l0b (fun r => (ret r).map e) (fun x3 x7z x7 x8 x9 => (j0 x3 x7z x7 x8 x9).map e) k x3 x7z x7 x8 x9 = (impl_Views.l0b ret j0 k x3 x7z x7 x8 x9).map e := by
  unfold impl_Views.l0b
  repeat' first | with_reducible refine nat_cond ?_ ?_ | with_reducible refine nat_bind fun _ => ?_ | rfl
theorem impl_Views.rounds_eq (a0z : Bool) (a0 : List T) : ∀ k, (∀ (x3 : List Int) (x7z : Bool) (x7 : List T) (x8 : Int) (x9 : Int), rounds Try.prog impl_Views.Cs (finish Try.prog [] Try.f10 [.v (.sl 33 a0z a0)]) 100000 k impl_Views.K0 (impl_Views.N0 x3 x7z x7 x8 x9) = (impl_Views.l0 k x3 x7z x7 x8 x9).map impl_Views.enc)
  | 0 => fun _ _ _ _ _ => rfl
  | k + 1 => by
    have ih := impl_Views.rounds_eq a0z a0 k
    refine fun _ _ _ _ _ => ?_
    · refine (impl_Views.s0 k _ a0z a0 _ _ _ _ _).trans (Eq.trans ?_ (impl_Views.l0b_nat impl_Views.enc some (impl_Views.l0 k) k _ _ _ _ _))
      simp only [ih, Option.map_some]
theorem impl_Views.eq (k : Nat) (a0z : Bool) (a0 : List T) : answer Try.prog impl_Views.Cs 100000 impl_Views.cuts [] Try.f10 (k + 1) [.v (.sl 33 a0z a0)] = (impl_Views.f (k + 1) a0z a0).map impl_Views.enc := by
  have ih := impl_Views.rounds_eq a0z a0 k
  refine (impl_Views.s k a0z a0).trans (Eq.trans ?_ (impl_Views.b_nat impl_Views.enc some (impl_Views.l0 k) k a0z a0))
  simp only [ih, Option.map_some]
theorem impl_Views.sound (k : Nat) : SoundF Try.prog 10 (fun a => (impl_Views.ans k a).val) := by
  refine sound_plain (fun args res h => ?_) (fun t n => rfl)
  unfold impl_Views.ans at h
  dsimp only at h
  split at h
  · cases k with
    | zero => cases h
    | succ k =>
      unfold Ans.val at h
      rw [← impl_Views.eq] at h
      exact answer_sound mixed Try.func10 _ _ _ (k + 1) (fun j _ => tab_sound (tab_cons (slices_Sort__intint.sound j) (tab_cons (slices_Compact__intint.sound j) (tab_nil)))) _ _ h
  · exact (Ans.no_val h).elim

/-! loop.example/g00790/impl.BitsHas -/
def impl_BitsHas.b {R : Type} (ret : Bool → Option R) (k : Nat) (a0z : Bool) (a0 : List Int) (a1 : Int) : Option R :=
  (impl_within.f k a1 0 (RowKit.wrap64 ((RowKit.wrap64 ((8 : Int) * ((a0).length : Int))) - 1))).bind fun t0 => cond t0 (cond (decide ((0 : Int) ≤ (RowKit.wrap64 (Int.tdiv a1 8)))) (cond (decide ((RowKit.wrap64 (Int.tdiv a1 8)) < ((a0).length : Int))) (cond (decide ((0 : Int) ≤ (Int.tmod a1 8))) (ret (decide ((Go.bits .and .u8 (shrI .u8 (rdI a0 (RowKit.wrap64 (Int.tdiv a1 8))) (Int.tmod a1 8)) 1) = 1))) (none)) (none)) (none)) (ret false)
def impl_BitsHas.f : Nat → Bool → (List Int) → Int → Option Bool
  | 0, _, _, _ => none
  | k + 1, a0z, a0, a1 => impl_BitsHas.b some k a0z a0 a1
def impl_BitsHas.enc (r : Bool) : Res := ⟨[.vals false [((.bool r), true)]], []⟩
def impl_BitsHas.ans (k : Nat) : List Arg → Ans
  | [.v (.nums 5 .u8 a0z a0), .v (.int .i64 a1)] => ⟨impl_BitsHas.f k a0z a0 a1, impl_BitsHas.enc⟩
  | _ => Ans.no
def impl_BitsHas.Cs (k : Nat) : CallSem := tab [(29, impl_within.ans k)]
def impl_BitsHas.cuts : List (Nat × Keep) := []
theorem impl_BitsHas.s (k : Nat) (a0z : Bool) (a0 : List Int) (a1 : Int) : answer Try.prog impl_BitsHas.Cs 100000 impl_BitsHas.cuts [] Try.f9 (k + 1) [.v (.nums 5 .u8 a0z a0), .v (.int .i64 a1)] = impl_BitsHas.b (fun r => some (impl_BitsHas.enc r)) k a0z a0 a1 := by kernel_rfl
theorem impl_BitsHas.b_nat {R R' : Type} (e : R → R') (ret : Bool → Option R) (k : Nat) (a0z : Bool) (a0 : List Int) (a1 : Int) : impl_BitsHas.b (fun r => (ret r).map e) k a0z a0 a1 = (impl_BitsHas.b ret k a0z a0 a1).map e := by
  unfold impl_BitsHas.b
  repeat' first | with_reducible refine nat_cond ?_ ?_ | with_reducible refine nat_bind fun _ => ?_ | rfl
theorem impl_BitsHas.eq (k : Nat) (a0z : Bool) (a0 : List Int) (a1 : Int) : answer Try.prog impl_BitsHas.Cs 100000 impl_BitsHas.cuts [] Try.f9 (k + 1) [.v (.nums 5 .u8 a0z a0), .v (.int .i64 a1)] = (impl_BitsHas.f (k + 1) a0z a0 a1).map impl_BitsHas.enc := by
  refine (impl_BitsHas.s k a0z a0 a1).trans (Eq.trans ?_ (impl_BitsHas.b_nat impl_BitsHas.enc some k a0z a0 a1))
  simp only [Option.map_some]
theorem impl_BitsHas.sound (k : Nat) : SoundF Try.prog 9 (fun a => (impl_BitsHas.ans k a).val) := by
  refine sound_plain (fun args res h => ?_) (fun t n => rfl)
  unfold impl_BitsHas.ans at h
  dsimp only at h
  split at h
  · cases k with
    | zero => cases h
    | succ k =>
      unfold Ans.val at h
      rw [← impl_BitsHas.eq] at h
      exact answer_sound mixed Try.func9 _ _ _ (k + 1) (fun j _ => tab_sound (tab_cons (impl_within.sound j) (tab_nil))) _ _ h
  · exact (Ans.no_val h).elim

end Go.Proofs.YthocpcfjfgnkgaaG
