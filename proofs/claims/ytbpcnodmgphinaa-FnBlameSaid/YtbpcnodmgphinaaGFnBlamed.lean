/- What the functions compute, printed by a program of this repo; each is shown to be what the machine of values answers. No condition. -/
import Derived.Test.YtbpcnodmgphinaaProg
import Derived.KernelRfl
import Derived.Test.YtbpcnodmgphinaaGFnBlamec
namespace Go.Proofs.YtbpcnodmgphinaaG
open Go Go.Proofs.YtbpcnodmgphinaaRv Go.Proofs
set_option linter.unusedVariables false
set_option linter.unusedSimpArgs false
/-! slices.IndexFunc[[]loop.example/g00790/impl.Vote,loop.example/g00790/impl.Vote] -/
def impl_Vote_106_v2.b {R : Type} (ret : Int → Option R) (j0 : Bool → (List T) → Int → Int → Int → Bool → (List Int) → Int → Bool → (List Int) → Bool → (List T) → Int → Int → Option R) (k : Nat) (a0z : Bool) (a0 : List T) (a1_0_0 : Int) (a1_1_0_0_0 : Int) (a1_1_0_0_1 : Int) (a1_1_0_0_2z : Bool) (a1_1_0_0_2 : List Int) (a1_1_0_0_3 : Int) (a1_1_0_0_4z : Bool) (a1_1_0_0_4 : List Int) (a1_2_0z : Bool) (a1_2_0 : List T) : Option R :=
  j0 a0z a0 a1_0_0 a1_1_0_0_0 a1_1_0_0_1 a1_1_0_0_2z a1_1_0_0_2 a1_1_0_0_3 a1_1_0_0_4z a1_1_0_0_4 a1_2_0z a1_2_0 ((a0).length : Int) 0
def impl_Vote_106_v2.l0b {R : Type} (ret : Int → Option R) (j0 : Bool → (List T) → Int → Int → Int → Bool → (List Int) → Int → Bool → (List Int) → Bool → (List T) → Int → Int → Option R) (k : Nat) (x0z : Bool) (x0 : List T) (x1_0_0 : Int) (x1_1_0_0_0 : Int) (x1_1_0_0_1 : Int) (x1_1_0_0_2z : Bool) (x1_1_0_0_2 : List Int) (x1_1_0_0_3 : Int) (x1_1_0_0_4z : Bool) (x1_1_0_0_4 : List Int) (x1_2_0z : Bool) (x1_2_0 : List T) (x7 : Int) (x8 : Int) : Option R :=
  cond (decide (x8 < x7)) (cond (decide ((0 : Int) ≤ x8)) (cond (decide (x8 < ((x0).length : Int))) ((impl_hasVote_1_v2.f k (((((x0).getD (x8).toNat .bad).cells.getD 0 .bad)).toInt) (((((x0).getD (x8).toNat .bad).cells.getD 1 .bad)).toInt) (((((x0).getD (x8).toNat .bad).cells.getD 2 .bad)).isNil) (((((x0).getD (x8).toNat .bad).cells.getD 2 .bad)).toNums) (((((x0).getD (x8).toNat .bad).cells.getD 3 .bad)).toInt) (((((x0).getD (x8).toNat .bad).cells.getD 4 .bad)).isNil) (((((x0).getD (x8).toNat .bad).cells.getD 4 .bad)).toNums) x1_0_0 x1_1_0_0_0 x1_1_0_0_1 x1_1_0_0_2z x1_1_0_0_2 x1_1_0_0_3 x1_1_0_0_4z x1_1_0_0_4 x1_2_0z x1_2_0).bind fun t0 => cond t0 (ret x8) (j0 x0z x0 x1_0_0 x1_1_0_0_0 x1_1_0_0_1 x1_1_0_0_2z x1_1_0_0_2 x1_1_0_0_3 x1_1_0_0_4z x1_1_0_0_4 x1_2_0z x1_2_0 x7 (RowKit.wrap64 (x8 + 1)))) (none)) (none)) (ret (-1))
def impl_Vote_106_v2.l0 : Nat → Bool → (List T) → Int → Int → Int → Bool → (List Int) → Int → Bool → (List Int) → Bool → (List T) → Int → Int → Option Int
  | 0, _, _, _, _, _, _, _, _, _, _, _, _, _, _ => none
  | k + 1, x0z, x0, x1_0_0, x1_1_0_0_0, x1_1_0_0_1, x1_1_0_0_2z, x1_1_0_0_2, x1_1_0_0_3, x1_1_0_0_4z, x1_1_0_0_4, x1_2_0z, x1_2_0, x7, x8 => impl_Vote_106_v2.l0b some (impl_Vote_106_v2.l0 k) k x0z x0 x1_0_0 x1_1_0_0_0 x1_1_0_0_1 x1_1_0_0_2z x1_1_0_0_2 x1_1_0_0_3 x1_1_0_0_4z x1_1_0_0_4 x1_2_0z x1_2_0 x7 x8
def impl_Vote_106_v2.f : Nat → Bool → (List T) → Int → Int → Int → Bool → (List Int) → Int → Bool → (List Int) → Bool → (List T) → Option Int
  | 0, _, _, _, _, _, _, _, _, _, _, _, _ => none
  | k + 1, a0z, a0, a1_0_0, a1_1_0_0_0, a1_1_0_0_1, a1_1_0_0_2z, a1_1_0_0_2, a1_1_0_0_3, a1_1_0_0_4z, a1_1_0_0_4, a1_2_0z, a1_2_0 => impl_Vote_106_v2.b some (impl_Vote_106_v2.l0 k) k a0z a0 a1_0_0 a1_1_0_0_0 a1_1_0_0_1 a1_1_0_0_2z a1_1_0_0_2 a1_1_0_0_3 a1_1_0_0_4z a1_1_0_0_4 a1_2_0z a1_2_0
def impl_Vote_106_v2.enc (r : Int) : Res := ⟨[.vals false [((.int .i64 r), true)]], []⟩
def impl_Vote_106_v2.ans (k : Nat) : List Arg → Ans
  | [.v (.sl 33 a0z a0), .v (.fn 169 [(.ptr [(.int .i64 a1_0_0)]), (.ptr [(.fn 122 [(.ptr [(.int .i64 a1_1_0_0_0), (.int .i64 a1_1_0_0_1), (.nums 5 .u8 a1_1_0_0_2z a1_1_0_0_2), (.int .i64 a1_1_0_0_3), (.nums 5 .u8 a1_1_0_0_4z a1_1_0_0_4)])])]), (.ptr [(.sl 44 a1_2_0z a1_2_0)])])] => ⟨impl_Vote_106_v2.f k a0z a0 a1_0_0 a1_1_0_0_0 a1_1_0_0_1 a1_1_0_0_2z a1_1_0_0_2 a1_1_0_0_3 a1_1_0_0_4z a1_1_0_0_4 a1_2_0z a1_2_0, impl_Vote_106_v2.enc⟩
  | _ => Ans.no
def impl_Vote_106_v2.Cs (k : Nat) : CallSem := tab [(169, impl_hasVote_1_v2.ans k)]
def impl_Vote_106_v2.cuts : List (Nat × Keep) := [(26, ⟨[(0, some []), (1, some []), (7, some []), (8, some [])], []⟩)]
noncomputable def impl_Vote_106_v2.K0 : List Fr := framesAt [true, false, true, false] (bodyOf Try.f106 impl_Vote_106_v2.cuts) []
def impl_Vote_106_v2.N0 (x0z : Bool) (x0 : List T) (x1_0_0 : Int) (x1_1_0_0_0 : Int) (x1_1_0_0_1 : Int) (x1_1_0_0_2z : Bool) (x1_1_0_0_2 : List Int) (x1_1_0_0_3 : Int) (x1_1_0_0_4z : Bool) (x1_1_0_0_4 : List Int) (x1_2_0z : Bool) (x1_2_0 : List T) (x7 : Int) (x8 : Int) : St := stOf 19 19 2 [(0, .val ⟨(.sl 33 x0z x0), [], false, none⟩), (1, .val ⟨(.fn 169 [(.ptr [(.int .i64 x1_0_0)]), (.ptr [(.fn 122 [(.ptr [(.int .i64 x1_1_0_0_0), (.int .i64 x1_1_0_0_1), (.nums 5 .u8 x1_1_0_0_2z x1_1_0_0_2), (.int .i64 x1_1_0_0_3), (.nums 5 .u8 x1_1_0_0_4z x1_1_0_0_4)])])]), (.ptr [(.sl 44 x1_2_0z x1_2_0)])]), [], false, none⟩), (7, .val (V.s (.int .i64 x7))), (8, .val (V.s (.int .i64 x8)))] []
theorem impl_Vote_106_v2.s (k : Nat) (a0z : Bool) (a0 : List T) (a1_0_0 : Int) (a1_1_0_0_0 : Int) (a1_1_0_0_1 : Int) (a1_1_0_0_2z : Bool) (a1_1_0_0_2 : List Int) (a1_1_0_0_3 : Int) (a1_1_0_0_4z : Bool) (a1_1_0_0_4 : List Int) (a1_2_0z : Bool) (a1_2_0 : List T) : answer Try.prog impl_Vote_106_v2.Cs 100000 impl_Vote_106_v2.cuts [] Try.f106 (k + 1) [.v (.sl 33 a0z a0), .v (.fn 169 [(.ptr [(.int .i64 a1_0_0)]), (.ptr [(.fn 122 [(.ptr [(.int .i64 a1_1_0_0_0), (.int .i64 a1_1_0_0_1), (.nums 5 .u8 a1_1_0_0_2z a1_1_0_0_2), (.int .i64 a1_1_0_0_3), (.nums 5 .u8 a1_1_0_0_4z a1_1_0_0_4)])])]), (.ptr [(.sl 44 a1_2_0z a1_2_0)])])] = impl_Vote_106_v2.b (fun r => some (impl_Vote_106_v2.enc r)) (fun x0z x0 x1_0_0 x1_1_0_0_0 x1_1_0_0_1 x1_1_0_0_2z x1_1_0_0_2 x1_1_0_0_3 x1_1_0_0_4z x1_1_0_0_4 x1_2_0z x1_2_0 x7 x8 => rounds Try.prog impl_Vote_106_v2.Cs (finish Try.prog [] Try.f106 [.v (.sl 33 a0z a0), .v (.fn 169 [(.ptr [(.int .i64 a1_0_0)]), (.ptr [(.fn 122 [(.ptr [(.int .i64 a1_1_0_0_0), (.int .i64 a1_1_0_0_1), (.nums 5 .u8 a1_1_0_0_2z a1_1_0_0_2), (.int .i64 a1_1_0_0_3), (.nums 5 .u8 a1_1_0_0_4z a1_1_0_0_4)])])]), (.ptr [(.sl 44 a1_2_0z a1_2_0)])])]) 100000 k impl_Vote_106_v2.K0 (impl_Vote_106_v2.N0 x0z x0 x1_0_0 x1_1_0_0_0 x1_1_0_0_1 x1_1_0_0_2z x1_1_0_0_2 x1_1_0_0_3 x1_1_0_0_4z x1_1_0_0_4 x1_2_0z x1_2_0 x7 x8)) k a0z a0 a1_0_0 a1_1_0_0_0 a1_1_0_0_1 a1_1_0_0_2z a1_1_0_0_2 a1_1_0_0_3 a1_1_0_0_4z a1_1_0_0_4 a1_2_0z a1_2_0 := by kernel_rfl
theorem impl_Vote_106_v2.s0 (k : Nat) (G : List Fr → St → Option Res) (a0z : Bool) (a0 : List T) (a1_0_0 : Int) (a1_1_0_0_0 : Int) (a1_1_0_0_1 : Int) (a1_1_0_0_2z : Bool) (a1_1_0_0_2 : List Int) (a1_1_0_0_3 : Int) (a1_1_0_0_4z : Bool) (a1_1_0_0_4 : List Int) (a1_2_0z : Bool) (a1_2_0 : List T) (yx0z : Bool) (yx0 : List T) (yx1_0_0 : Int) (yx1_1_0_0_0 : Int) (yx1_1_0_0_1 : Int) (yx1_1_0_0_2z : Bool) (yx1_1_0_0_2 : List Int) (yx1_1_0_0_3 : Int) (yx1_1_0_0_4z : Bool) (yx1_1_0_0_4 : List Int) (yx1_2_0z : Bool) (yx1_2_0 : List T) (yx7 : Int) (yx8 : Int) : resume Try.prog (impl_Vote_106_v2.Cs k) G (finish Try.prog [] Try.f106 [.v (.sl 33 a0z a0), .v (.fn 169 [(.ptr [(.int .i64 a1_0_0)]), (.ptr [(.fn 122 [(.ptr [(.int .i64 a1_1_0_0_0), (.int .i64 a1_1_0_0_1), (.nums 5 .u8 a1_1_0_0_2z a1_1_0_0_2), (.int .i64 a1_1_0_0_3), (.nums 5 .u8 a1_1_0_0_4z a1_1_0_0_4)])])]), (.ptr [(.sl 44 a1_2_0z a1_2_0)])])]) 100000 impl_Vote_106_v2.K0 (impl_Vote_106_v2.N0 yx0z yx0 yx1_0_0 yx1_1_0_0_0 yx1_1_0_0_1 yx1_1_0_0_2z yx1_1_0_0_2 yx1_1_0_0_3 yx1_1_0_0_4z yx1_1_0_0_4 yx1_2_0z yx1_2_0 yx7 yx8) = impl_Vote_106_v2.l0b (fun r => some (impl_Vote_106_v2.enc r)) (fun x0z x0 x1_0_0 x1_1_0_0_0 x1_1_0_0_1 x1_1_0_0_2z x1_1_0_0_2 x1_1_0_0_3 x1_1_0_0_4z x1_1_0_0_4 x1_2_0z x1_2_0 x7 x8 => G impl_Vote_106_v2.K0 (impl_Vote_106_v2.N0 x0z x0 x1_0_0 x1_1_0_0_0 x1_1_0_0_1 x1_1_0_0_2z x1_1_0_0_2 x1_1_0_0_3 x1_1_0_0_4z x1_1_0_0_4 x1_2_0z x1_2_0 x7 x8)) k yx0z yx0 yx1_0_0 yx1_1_0_0_0 yx1_1_0_0_1 yx1_1_0_0_2z yx1_1_0_0_2 yx1_1_0_0_3 yx1_1_0_0_4z yx1_1_0_0_4 yx1_2_0z yx1_2_0 yx7 yx8 := by kernel_rfl
theorem impl_Vote_106_v2.b_nat {R R' : Type} (e : R → R') (ret : Int → Option R) (j0 : Bool → (List T) → Int → Int → Int → Bool → (List Int) → Int → Bool → (List Int) → Bool → (List T) → Int → Int → Option R) (k : Nat) (a0z : Bool) (a0 : List T) (a1_0_0 : Int) (a1_1_0_0_0 : Int) (a1_1_0_0_1 : Int) (a1_1_0_0_2z : Bool) (a1_1_0_0_2 : List Int) (a1_1_0_0_3 : Int) (a1_1_0_0_4z : Bool) (a1_1_0_0_4 : List Int) (a1_2_0z : Bool) (a1_2_0 : List T) : impl_Vote_106_v2.b (fun r => (ret r).map e) (fun x0z x0 x1_0_0 x1_1_0_0_0 x1_1_0_0_1 x1_1_0_0_2z x1_1_0_0_2 x1_1_0_0_3 x1_1_0_0_4z x1_1_0_0_4 x1_2_0z x1_2_0 x7 x8 => (j0 x0z x0 x1_0_0 x1_1_0_0_0 x1_1_0_0_1 x1_1_0_0_2z x1_1_0_0_2 x1_1_0_0_3 x1_1_0_0_4z x1_1_0_0_4 x1_2_0z x1_2_0 x7 x8).map e) k a0z a0 a1_0_0 a1_1_0_0_0 a1_1_0_0_1 a1_1_0_0_2z a1_1_0_0_2 a1_1_0_0_3 a1_1_0_0_4z a1_1_0_0_4 a1_2_0z a1_2_0 = (impl_Vote_106_v2.b ret j0 k a0z a0 a1_0_0 a1_1_0_0_0 a1_1_0_0_1 a1_1_0_0_2z a1_1_0_0_2 a1_1_0_0_3 a1_1_0_0_4z a1_1_0_0_4 a1_2_0z a1_2_0).map e := by
  unfold impl_Vote_106_v2.b
  repeat' first | with_reducible refine nat_cond ?_ ?_ | with_reducible refine nat_bind fun _ => ?_ | rfl
theorem impl_Vote_106_v2.l0b_nat {R R' : Type} (e : R → R') (ret : Int → Option R) (j0 : Bool → (List T) → Int → Int → Int → Bool → (List Int) → Int → Bool → (List Int) → Bool → (List T) → Int → Int → Option R) (k : Nat) (x0z : Bool) (x0 : List T) (x1_0_0 : Int) (x1_1_0_0_0 : Int) (x1_1_0_0_1 : Int) (x1_1_0_0_2z : Bool) (x1_1_0_0_2 : List Int) (x1_1_0_0_3 : Int) (x1_1_0_0_4z : Bool) (x1_1_0_0_4 : List Int) (x1_2_0z : Bool) (x1_2_0 : List T) (x7 : Int) (x8 : Int) : impl_Vote_106_v2.l0b (fun r => (ret r).map e) (fun x0z x0 x1_0_0 x1_1_0_0_0 x1_1_0_0_1 x1_1_0_0_2z x1_1_0_0_2 x1_1_0_0_3 x1_1_0_0_4z x1_1_0_0_4 x1_2_0z x1_2_0 x7 x8 => (j0 x0z x0 x1_0_0 x1_1_0_0_0 x1_1_0_0_1 x1_1_0_0_2z x1_1_0_0_2 x1_1_0_0_3 x1_1_0_0_4z x1_1_0_0_4 x1_2_0z x1_2_0 x7 x8).map e) k x0z x0 x1_0_0 x1_1_0_0_0 x1_1_0_0_1 x1_1_0_0_2z x1_1_0_0_2 x1_1_0_0_3 x1_1_0_0_4z x1_1_0_0_4 x1_2_0z x1_2_0 x7 x8 = (impl_Vote_106_v2.l0b ret j0 k x0z x0 x1_0_0 x1_1_0_0_0 x1_1_0_0_1 x1_1_0_0_2z x1_1_0_0_2 x1_1_0_0_3 x1_1_0_0_4z x1_1_0_0_4 x1_2_0z x1_2_0 x7 x8).map e := by
  unfold impl_Vote_106_v2.l0b
  repeat' first | with_reducible refine nat_cond ?_ ?_ | with_reducible refine nat_bind fun _ => ?_ | rfl
theorem impl_Vote_106_v2.rounds_eq (a0z : Bool) (a0 : List T) (a1_0_0 : Int) (a1_1_0_0_0 : Int) (a1_1_0_0_1 : Int) (a1_1_0_0_2z : Bool) (a1_1_0_0_2 : List Int) (a1_1_0_0_3 : Int) (a1_1_0_0_4z : Bool) (a1_1_0_0_4 : List Int) (a1_2_0z : Bool) (a1_2_0 : List T) : ∀ k, (∀ (x0z : Bool) (x0 : List T) (x1_0_0 : Int) (x1_1_0_0_0 : Int) (x1_1_0_0_1 : Int) (x1_1_0_0_2z : Bool) (x1_1_0_0_2 : List Int) (x1_1_0_0_3 : Int) (x1_1_0_0_4z : Bool) (x1_1_0_0_4 : List Int) (x1_2_0z : Bool) (x1_2_0 : List T) (x7 : Int) (x8 : Int), rounds Try.prog impl_Vote_106_v2.Cs (finish Try.prog [] Try.f106 [.v (.sl 33 a0z a0), .v (.fn 169 [(.ptr [(.int .i64 a1_0_0)]), (.ptr [(.fn 122 [(.ptr [(.int .i64 a1_1_0_0_0), (.int .i64 a1_1_0_0_1), (.nums 5 .u8 a1_1_0_0_2z a1_1_0_0_2), (.int .i64 a1_1_0_0_3), (.nums 5 .u8 a1_1_0_0_4z a1_1_0_0_4)])])]), (.ptr [(.sl 44 a1_2_0z a1_2_0)])])]) 100000 k impl_Vote_106_v2.K0 (impl_Vote_106_v2.N0 x0z x0 x1_0_0 x1_1_0_0_0 x1_1_0_0_1 x1_1_0_0_2z x1_1_0_0_2 x1_1_0_0_3 x1_1_0_0_4z x1_1_0_0_4 x1_2_0z x1_2_0 x7 x8) = (impl_Vote_106_v2.l0 k x0z x0 x1_0_0 x1_1_0_0_0 x1_1_0_0_1 x1_1_0_0_2z x1_1_0_0_2 x1_1_0_0_3 x1_1_0_0_4z x1_1_0_0_4 x1_2_0z x1_2_0 x7 x8).map impl_Vote_106_v2.enc)
  | 0 => fun _ _ _ _ _ _ _ _ _ _ _ _ _ _ => rfl
  | k + 1 => by
    have ih := impl_Vote_106_v2.rounds_eq a0z a0 a1_0_0 a1_1_0_0_0 a1_1_0_0_1 a1_1_0_0_2z a1_1_0_0_2 a1_1_0_0_3 a1_1_0_0_4z a1_1_0_0_4 a1_2_0z a1_2_0 k
    refine fun _ _ _ _ _ _ _ _ _ _ _ _ _ _ => ?_
    · refine (impl_Vote_106_v2.s0 k _ a0z a0 a1_0_0 a1_1_0_0_0 a1_1_0_0_1 a1_1_0_0_2z a1_1_0_0_2 a1_1_0_0_3 a1_1_0_0_4z a1_1_0_0_4 a1_2_0z a1_2_0 _ _ _ _ _ _ _ _ _ _ _ _ _ _).trans (Eq.trans ?_ (impl_Vote_106_v2.l0b_nat impl_Vote_106_v2.enc some (impl_Vote_106_v2.l0 k) k _ _ _ _ _ _ _ _ _ _ _ _ _ _))
      simp only [ih, Option.map_some]
theorem impl_Vote_106_v2.eq (k : Nat) (a0z : Bool) (a0 : List T) (a1_0_0 : Int) (a1_1_0_0_0 : Int) (a1_1_0_0_1 : Int) (a1_1_0_0_2z : Bool) (a1_1_0_0_2 : List Int) (a1_1_0_0_3 : Int) (a1_1_0_0_4z : Bool) (a1_1_0_0_4 : List Int) (a1_2_0z : Bool) (a1_2_0 : List T) : answer Try.prog impl_Vote_106_v2.Cs 100000 impl_Vote_106_v2.cuts [] Try.f106 (k + 1) [.v (.sl 33 a0z a0), .v (.fn 169 [(.ptr [(.int .i64 a1_0_0)]), (.ptr [(.fn 122 [(.ptr [(.int .i64 a1_1_0_0_0), (.int .i64 a1_1_0_0_1), (.nums 5 .u8 a1_1_0_0_2z a1_1_0_0_2), (.int .i64 a1_1_0_0_3), (.nums 5 .u8 a1_1_0_0_4z a1_1_0_0_4)])])]), (.ptr [(.sl 44 a1_2_0z a1_2_0)])])] = (impl_Vote_106_v2.f (k + 1) a0z a0 a1_0_0 a1_1_0_0_0 a1_1_0_0_1 a1_1_0_0_2z a1_1_0_0_2 a1_1_0_0_3 a1_1_0_0_4z a1_1_0_0_4 a1_2_0z a1_2_0).map impl_Vote_106_v2.enc := by
  have ih := impl_Vote_106_v2.rounds_eq a0z a0 a1_0_0 a1_1_0_0_0 a1_1_0_0_1 a1_1_0_0_2z a1_1_0_0_2 a1_1_0_0_3 a1_1_0_0_4z a1_1_0_0_4 a1_2_0z a1_2_0 k
  refine (impl_Vote_106_v2.s k a0z a0 a1_0_0 a1_1_0_0_0 a1_1_0_0_1 a1_1_0_0_2z a1_1_0_0_2 a1_1_0_0_3 a1_1_0_0_4z a1_1_0_0_4 a1_2_0z a1_2_0).trans (Eq.trans ?_ (impl_Vote_106_v2.b_nat impl_Vote_106_v2.enc some (impl_Vote_106_v2.l0 k) k a0z a0 a1_0_0 a1_1_0_0_0 a1_1_0_0_1 a1_1_0_0_2z a1_1_0_0_2 a1_1_0_0_3 a1_1_0_0_4z a1_1_0_0_4 a1_2_0z a1_2_0))
  simp only [ih, Option.map_some]
theorem impl_Vote_106_v2.sound (k : Nat) : SoundF Try.prog 106 (fun a => (impl_Vote_106_v2.ans k a).val) := by
  refine sound_plain (fun args res h => ?_) (fun t n => rfl)
  unfold impl_Vote_106_v2.ans at h
  dsimp only at h
  split at h
  · cases k with
    | zero => cases h
    | succ k =>
      unfold Ans.val at h
      rw [← impl_Vote_106_v2.eq] at h
      exact answer_sound mixed Try.func106 _ _ _ (k + 1) (fun j _ => tab_sound (tab_cons (impl_hasVote_1_v2.sound j) (tab_nil))) _ _ h
  · exact (Ans.no_val h).elim

/-! slices.ContainsFunc[[]loop.example/g00790/impl.Vote,loop.example/g00790/impl.Vote] -/
def impl_Vote_v2.b {R : Type} (ret : Bool → Option R) (k : Nat) (a0z : Bool) (a0 : List T) (a1_0_0 : Int) (a1_1_0_0_0 : Int) (a1_1_0_0_1 : Int) (a1_1_0_0_2z : Bool) (a1_1_0_0_2 : List Int) (a1_1_0_0_3 : Int) (a1_1_0_0_4z : Bool) (a1_1_0_0_4 : List Int) (a1_2_0z : Bool) (a1_2_0 : List T) : Option R :=
  (impl_Vote_106_v2.f k a0z a0 a1_0_0 a1_1_0_0_0 a1_1_0_0_1 a1_1_0_0_2z a1_1_0_0_2 a1_1_0_0_3 a1_1_0_0_4z a1_1_0_0_4 a1_2_0z a1_2_0).bind fun t0 => ret (decide (t0 ≥ 0))
def impl_Vote_v2.f : Nat → Bool → (List T) → Int → Int → Int → Bool → (List Int) → Int → Bool → (List Int) → Bool → (List T) → Option Bool
  | 0, _, _, _, _, _, _, _, _, _, _, _, _ => none
  | k + 1, a0z, a0, a1_0_0, a1_1_0_0_0, a1_1_0_0_1, a1_1_0_0_2z, a1_1_0_0_2, a1_1_0_0_3, a1_1_0_0_4z, a1_1_0_0_4, a1_2_0z, a1_2_0 => impl_Vote_v2.b some k a0z a0 a1_0_0 a1_1_0_0_0 a1_1_0_0_1 a1_1_0_0_2z a1_1_0_0_2 a1_1_0_0_3 a1_1_0_0_4z a1_1_0_0_4 a1_2_0z a1_2_0
def impl_Vote_v2.enc (r : Bool) : Res := ⟨[.vals false [((.bool r), true)]], []⟩
def impl_Vote_v2.ans (k : Nat) : List Arg → Ans
  | [.v (.sl 33 a0z a0), .v (.fn 169 [(.ptr [(.int .i64 a1_0_0)]), (.ptr [(.fn 122 [(.ptr [(.int .i64 a1_1_0_0_0), (.int .i64 a1_1_0_0_1), (.nums 5 .u8 a1_1_0_0_2z a1_1_0_0_2), (.int .i64 a1_1_0_0_3), (.nums 5 .u8 a1_1_0_0_4z a1_1_0_0_4)])])]), (.ptr [(.sl 44 a1_2_0z a1_2_0)])])] => ⟨impl_Vote_v2.f k a0z a0 a1_0_0 a1_1_0_0_0 a1_1_0_0_1 a1_1_0_0_2z a1_1_0_0_2 a1_1_0_0_3 a1_1_0_0_4z a1_1_0_0_4 a1_2_0z a1_2_0, impl_Vote_v2.enc⟩
  | _ => Ans.no
def impl_Vote_v2.Cs (k : Nat) : CallSem := tab [(106, impl_Vote_106_v2.ans k)]
def impl_Vote_v2.cuts : List (Nat × Keep) := []
theorem impl_Vote_v2.s (k : Nat) (a0z : Bool) (a0 : List T) (a1_0_0 : Int) (a1_1_0_0_0 : Int) (a1_1_0_0_1 : Int) (a1_1_0_0_2z : Bool) (a1_1_0_0_2 : List Int) (a1_1_0_0_3 : Int) (a1_1_0_0_4z : Bool) (a1_1_0_0_4 : List Int) (a1_2_0z : Bool) (a1_2_0 : List T) : answer Try.prog impl_Vote_v2.Cs 100000 impl_Vote_v2.cuts [] Try.f168 (k + 1) [.v (.sl 33 a0z a0), .v (.fn 169 [(.ptr [(.int .i64 a1_0_0)]), (.ptr [(.fn 122 [(.ptr [(.int .i64 a1_1_0_0_0), (.int .i64 a1_1_0_0_1), (.nums 5 .u8 a1_1_0_0_2z a1_1_0_0_2), (.int .i64 a1_1_0_0_3), (.nums 5 .u8 a1_1_0_0_4z a1_1_0_0_4)])])]), (.ptr [(.sl 44 a1_2_0z a1_2_0)])])] = impl_Vote_v2.b (fun r => some (impl_Vote_v2.enc r)) k a0z a0 a1_0_0 a1_1_0_0_0 a1_1_0_0_1 a1_1_0_0_2z a1_1_0_0_2 a1_1_0_0_3 a1_1_0_0_4z a1_1_0_0_4 a1_2_0z a1_2_0 := by kernel_rfl
theorem impl_Vote_v2.b_nat {R R' : Type} (e : R → R') (ret : Bool → Option R) (k : Nat) (a0z : Bool) (a0 : List T) (a1_0_0 : Int) (a1_1_0_0_0 : Int) (a1_1_0_0_1 : Int) (a1_1_0_0_2z : Bool) (a1_1_0_0_2 : List Int) (a1_1_0_0_3 : Int) (a1_1_0_0_4z : Bool) (a1_1_0_0_4 : List Int) (a1_2_0z : Bool) (a1_2_0 : List T) : impl_Vote_v2.b (fun r => (ret r).map e) k a0z a0 a1_0_0 a1_1_0_0_0 a1_1_0_0_1 a1_1_0_0_2z a1_1_0_0_2 a1_1_0_0_3 a1_1_0_0_4z a1_1_0_0_4 a1_2_0z a1_2_0 = (impl_Vote_v2.b ret k a0z a0 a1_0_0 a1_1_0_0_0 a1_1_0_0_1 a1_1_0_0_2z a1_1_0_0_2 a1_1_0_0_3 a1_1_0_0_4z a1_1_0_0_4 a1_2_0z a1_2_0).map e := by
  unfold impl_Vote_v2.b
  repeat' first | with_reducible refine nat_cond ?_ ?_ | with_reducible refine nat_bind fun _ => ?_ | rfl
theorem impl_Vote_v2.eq (k : Nat) (a0z : Bool) (a0 : List T) (a1_0_0 : Int) (a1_1_0_0_0 : Int) (a1_1_0_0_1 : Int) (a1_1_0_0_2z : Bool) (a1_1_0_0_2 : List Int) (a1_1_0_0_3 : Int) (a1_1_0_0_4z : Bool) (a1_1_0_0_4 : List Int) (a1_2_0z : Bool) (a1_2_0 : List T) : answer Try.prog impl_Vote_v2.Cs 100000 impl_Vote_v2.cuts [] Try.f168 (k + 1) [.v (.sl 33 a0z a0), .v (.fn 169 [(.ptr [(.int .i64 a1_0_0)]), (.ptr [(.fn 122 [(.ptr [(.int .i64 a1_1_0_0_0), (.int .i64 a1_1_0_0_1), (.nums 5 .u8 a1_1_0_0_2z a1_1_0_0_2), (.int .i64 a1_1_0_0_3), (.nums 5 .u8 a1_1_0_0_4z a1_1_0_0_4)])])]), (.ptr [(.sl 44 a1_2_0z a1_2_0)])])] = (impl_Vote_v2.f (k + 1) a0z a0 a1_0_0 a1_1_0_0_0 a1_1_0_0_1 a1_1_0_0_2z a1_1_0_0_2 a1_1_0_0_3 a1_1_0_0_4z a1_1_0_0_4 a1_2_0z a1_2_0).map impl_Vote_v2.enc := by
  refine (impl_Vote_v2.s k a0z a0 a1_0_0 a1_1_0_0_0 a1_1_0_0_1 a1_1_0_0_2z a1_1_0_0_2 a1_1_0_0_3 a1_1_0_0_4z a1_1_0_0_4 a1_2_0z a1_2_0).trans (Eq.trans ?_ (impl_Vote_v2.b_nat impl_Vote_v2.enc some k a0z a0 a1_0_0 a1_1_0_0_0 a1_1_0_0_1 a1_1_0_0_2z a1_1_0_0_2 a1_1_0_0_3 a1_1_0_0_4z a1_1_0_0_4 a1_2_0z a1_2_0))
  simp only [Option.map_some]
theorem impl_Vote_v2.sound (k : Nat) : SoundF Try.prog 168 (fun a => (impl_Vote_v2.ans k a).val) := by
  refine sound_plain (fun args res h => ?_) (fun t n => rfl)
  unfold impl_Vote_v2.ans at h
  dsimp only at h
  split at h
  · cases k with
    | zero => cases h
    | succ k =>
      unfold Ans.val at h
      rw [← impl_Vote_v2.eq] at h
      exact answer_sound mixed Try.func168 _ _ _ (k + 1) (fun j _ => tab_sound (tab_cons (impl_Vote_106_v2.sound j) (tab_nil))) _ _ h
  · exact (Ans.no_val h).elim

/-! loop.example/g00790/impl.hasVote -/
def impl_hasVote_v2.b {R : Type} (ret : Bool → Option R) (k : Nat) (a0_0z : Bool) (a0_0 : List T) (a1z : Bool) (a1 : List T) (a2 : Int) (a3_0_0 : Int) (a3_0_1 : Int) (a3_0_2z : Bool) (a3_0_2 : List Int) (a3_0_3 : Int) (a3_0_4z : Bool) (a3_0_4 : List Int) : Option R :=
  (impl_Vote_v2.f k a1z a1 a2 a3_0_0 a3_0_1 a3_0_2z a3_0_2 a3_0_3 a3_0_4z a3_0_4 a0_0z a0_0).bind fun t0 => ret t0
def impl_hasVote_v2.f : Nat → Bool → (List T) → Bool → (List T) → Int → Int → Int → Bool → (List Int) → Int → Bool → (List Int) → Option Bool
  | 0, _, _, _, _, _, _, _, _, _, _, _, _ => none
  | k + 1, a0_0z, a0_0, a1z, a1, a2, a3_0_0, a3_0_1, a3_0_2z, a3_0_2, a3_0_3, a3_0_4z, a3_0_4 => impl_hasVote_v2.b some k a0_0z a0_0 a1z a1 a2 a3_0_0 a3_0_1 a3_0_2z a3_0_2 a3_0_3 a3_0_4z a3_0_4
def impl_hasVote_v2.enc (r : Bool) : Res := ⟨[.vals false [((.bool r), true)]], []⟩
def impl_hasVote_v2.ans (k : Nat) : List Arg → Ans
  | [.v (.agg [(.sl 44 a0_0z a0_0)]), .v (.sl 33 a1z a1), .v (.int .i64 a2), .v (.fn 122 [(.ptr [(.int .i64 a3_0_0), (.int .i64 a3_0_1), (.nums 5 .u8 a3_0_2z a3_0_2), (.int .i64 a3_0_3), (.nums 5 .u8 a3_0_4z a3_0_4)])])] => ⟨impl_hasVote_v2.f k a0_0z a0_0 a1z a1 a2 a3_0_0 a3_0_1 a3_0_2z a3_0_2 a3_0_3 a3_0_4z a3_0_4, impl_hasVote_v2.enc⟩
  | _ => Ans.no
def impl_hasVote_v2.Cs (k : Nat) : CallSem := tab [(168, impl_Vote_v2.ans k)]
def impl_hasVote_v2.cuts : List (Nat × Keep) := []
theorem impl_hasVote_v2.s (k : Nat) (a0_0z : Bool) (a0_0 : List T) (a1z : Bool) (a1 : List T) (a2 : Int) (a3_0_0 : Int) (a3_0_1 : Int) (a3_0_2z : Bool) (a3_0_2 : List Int) (a3_0_3 : Int) (a3_0_4z : Bool) (a3_0_4 : List Int) : answer Try.prog impl_hasVote_v2.Cs 100000 impl_hasVote_v2.cuts [] Try.f110 (k + 1) [.v (.agg [(.sl 44 a0_0z a0_0)]), .v (.sl 33 a1z a1), .v (.int .i64 a2), .v (.fn 122 [(.ptr [(.int .i64 a3_0_0), (.int .i64 a3_0_1), (.nums 5 .u8 a3_0_2z a3_0_2), (.int .i64 a3_0_3), (.nums 5 .u8 a3_0_4z a3_0_4)])])] = impl_hasVote_v2.b (fun r => some (impl_hasVote_v2.enc r)) k a0_0z a0_0 a1z a1 a2 a3_0_0 a3_0_1 a3_0_2z a3_0_2 a3_0_3 a3_0_4z a3_0_4 := by kernel_rfl
theorem impl_hasVote_v2.b_nat {R R' : Type} (e : R → R') (ret : Bool → Option R) (k : Nat) (a0_0z : Bool) (a0_0 : List T) (a1z : Bool) (a1 : List T) (a2 : Int) (a3_0_0 : Int) (a3_0_1 : Int) (a3_0_2z : Bool) (a3_0_2 : List Int) (a3_0_3 : Int) (a3_0_4z : Bool) (a3_0_4 : List Int) : impl_hasVote_v2.b (fun r => (ret r).map e) k a0_0z a0_0 a1z a1 a2 a3_0_0 a3_0_1 a3_0_2z a3_0_2 a3_0_3 a3_0_4z a3_0_4 = (impl_hasVote_v2.b ret k a0_0z a0_0 a1z a1 a2 a3_0_0 a3_0_1 a3_0_2z a3_0_2 a3_0_3 a3_0_4z a3_0_4).map e := by
  unfold impl_hasVote_v2.b
  repeat' first | with_reducible refine nat_cond ?_ ?_ | with_reducible refine nat_bind fun _ => ?_ | rfl
theorem impl_hasVote_v2.eq (k : Nat) (a0_0z : Bool) (a0_0 : List T) (a1z : Bool) (a1 : List T) (a2 : Int) (a3_0_0 : Int) (a3_0_1 : Int) (a3_0_2z : Bool) (a3_0_2 : List Int) (a3_0_3 : Int) (a3_0_4z : Bool) (a3_0_4 : List Int) : answer Try.prog impl_hasVote_v2.Cs 100000 impl_hasVote_v2.cuts [] Try.f110 (k + 1) [.v (.agg [(.sl 44 a0_0z a0_0)]), .v (.sl 33 a1z a1), .v (.int .i64 a2), .v (.fn 122 [(.ptr [(.int .i64 a3_0_0), (.int .i64 a3_0_1), (.nums 5 .u8 a3_0_2z a3_0_2), (.int .i64 a3_0_3), (.nums 5 .u8 a3_0_4z a3_0_4)])])] = (impl_hasVote_v2.f (k + 1) a0_0z a0_0 a1z a1 a2 a3_0_0 a3_0_1 a3_0_2z a3_0_2 a3_0_3 a3_0_4z a3_0_4).map impl_hasVote_v2.enc := by
  refine (impl_hasVote_v2.s k a0_0z a0_0 a1z a1 a2 a3_0_0 a3_0_1 a3_0_2z a3_0_2 a3_0_3 a3_0_4z a3_0_4).trans (Eq.trans ?_ (impl_hasVote_v2.b_nat impl_hasVote_v2.enc some k a0_0z a0_0 a1z a1 a2 a3_0_0 a3_0_1 a3_0_2z a3_0_2 a3_0_3 a3_0_4z a3_0_4))
  simp only [Option.map_some]
theorem impl_hasVote_v2.sound (k : Nat) : SoundF Try.prog 110 (fun a => (impl_hasVote_v2.ans k a).val) := by
  refine sound_plain (fun args res h => ?_) (fun t n => rfl)
  unfold impl_hasVote_v2.ans at h
  dsimp only at h
  split at h
  · cases k with
    | zero => cases h
    | succ k =>
      unfold Ans.val at h
      rw [← impl_hasVote_v2.eq] at h
      exact answer_sound mixed Try.func110 _ _ _ (k + 1) (fun j _ => tab_sound (tab_cons (impl_Vote_v2.sound j) (tab_nil))) _ _ h
  · exact (Ans.no_val h).elim

/-! loop.example/g00790/impl.Twice$1$1 -/
def impl_Twice_1_1.b {R : Type} (ret : Bool → Option R) (k : Nat) (a0_0 : Int) (a0_1 : Int) (a0_2z : Bool) (a0_2 : List Int) (a0_3 : Int) (a0_4z : Bool) (a0_4 : List Int) (a1_0z : Bool) (a1_0 : List T) (a2_0z : Bool) (a2_0 : List T) (a3_0 : Int) : Option R :=
  (impl_VoteGood.f k a1_0z a1_0 a0_0 a0_1 a0_2z a0_2 a0_3 a0_4z a0_4).bind fun t0 => cond t0 ((impl_hasVote_v2.f k a1_0z a1_0 a2_0z a2_0 a3_0 a0_0 a0_1 a0_2z a0_2 a0_3 a0_4z a0_4).bind fun t1 => ret t1) (ret false)
def impl_Twice_1_1.f : Nat → Int → Int → Bool → (List Int) → Int → Bool → (List Int) → Bool → (List T) → Bool → (List T) → Int → Option Bool
  | 0, _, _, _, _, _, _, _, _, _, _, _, _ => none
  | k + 1, a0_0, a0_1, a0_2z, a0_2, a0_3, a0_4z, a0_4, a1_0z, a1_0, a2_0z, a2_0, a3_0 => impl_Twice_1_1.b some k a0_0 a0_1 a0_2z a0_2 a0_3 a0_4z a0_4 a1_0z a1_0 a2_0z a2_0 a3_0
def impl_Twice_1_1.enc (r : Bool) : Res := ⟨[.vals false [((.bool r), true)]], []⟩
def impl_Twice_1_1.ans (k : Nat) : List Arg → Ans
  | [.v (.agg [(.int .i64 a0_0), (.int .i64 a0_1), (.nums 5 .u8 a0_2z a0_2), (.int .i64 a0_3), (.nums 5 .u8 a0_4z a0_4)]), .v (.ptr [(.sl 44 a1_0z a1_0)]), .v (.ptr [(.sl 33 a2_0z a2_0)]), .v (.ptr [(.int .i64 a3_0)])] => ⟨impl_Twice_1_1.f k a0_0 a0_1 a0_2z a0_2 a0_3 a0_4z a0_4 a1_0z a1_0 a2_0z a2_0 a3_0, impl_Twice_1_1.enc⟩
  | _ => Ans.no
def impl_Twice_1_1.Cs (k : Nat) : CallSem := tab [(17, impl_VoteGood.ans k), (110, impl_hasVote_v2.ans k)]
def impl_Twice_1_1.cuts : List (Nat × Keep) := []
theorem impl_Twice_1_1.s (k : Nat) (a0_0 : Int) (a0_1 : Int) (a0_2z : Bool) (a0_2 : List Int) (a0_3 : Int) (a0_4z : Bool) (a0_4 : List Int) (a1_0z : Bool) (a1_0 : List T) (a2_0z : Bool) (a2_0 : List T) (a3_0 : Int) : answer Try.prog impl_Twice_1_1.Cs 100000 impl_Twice_1_1.cuts [] Try.f121 (k + 1) [.v (.agg [(.int .i64 a0_0), (.int .i64 a0_1), (.nums 5 .u8 a0_2z a0_2), (.int .i64 a0_3), (.nums 5 .u8 a0_4z a0_4)]), .v (.ptr [(.sl 44 a1_0z a1_0)]), .v (.ptr [(.sl 33 a2_0z a2_0)]), .v (.ptr [(.int .i64 a3_0)])] = impl_Twice_1_1.b (fun r => some (impl_Twice_1_1.enc r)) k a0_0 a0_1 a0_2z a0_2 a0_3 a0_4z a0_4 a1_0z a1_0 a2_0z a2_0 a3_0 := by kernel_rfl
theorem impl_Twice_1_1.b_nat {R R' : Type} (e : R → R') (ret : Bool → Option R) (k : Nat) (a0_0 : Int) (a0_1 : Int) (a0_2z : Bool) (a0_2 : List Int) (a0_3 : Int) (a0_4z : Bool) (a0_4 : List Int) (a1_0z : Bool) (a1_0 : List T) (a2_0z : Bool) (a2_0 : List T) (a3_0 : Int) : impl_Twice_1_1.b (fun r => (ret r).map e) k a0_0 a0_1 a0_2z a0_2 a0_3 a0_4z a0_4 a1_0z a1_0 a2_0z a2_0 a3_0 = (impl_Twice_1_1.b ret k a0_0 a0_1 a0_2z a0_2 a0_3 a0_4z a0_4 a1_0z a1_0 a2_0z a2_0 a3_0).map e := by
  unfold impl_Twice_1_1.b
  repeat' first | with_reducible refine nat_cond ?_ ?_ | with_reducible refine nat_bind fun _ => ?_ | rfl
theorem impl_Twice_1_1.eq (k : Nat) (a0_0 : Int) (a0_1 : Int) (a0_2z : Bool) (a0_2 : List Int) (a0_3 : Int) (a0_4z : Bool) (a0_4 : List Int) (a1_0z : Bool) (a1_0 : List T) (a2_0z : Bool) (a2_0 : List T) (a3_0 : Int) : answer Try.prog impl_Twice_1_1.Cs 100000 impl_Twice_1_1.cuts [] Try.f121 (k + 1) [.v (.agg [(.int .i64 a0_0), (.int .i64 a0_1), (.nums 5 .u8 a0_2z a0_2), (.int .i64 a0_3), (.nums 5 .u8 a0_4z a0_4)]), .v (.ptr [(.sl 44 a1_0z a1_0)]), .v (.ptr [(.sl 33 a2_0z a2_0)]), .v (.ptr [(.int .i64 a3_0)])] = (impl_Twice_1_1.f (k + 1) a0_0 a0_1 a0_2z a0_2 a0_3 a0_4z a0_4 a1_0z a1_0 a2_0z a2_0 a3_0).map impl_Twice_1_1.enc := by
  refine (impl_Twice_1_1.s k a0_0 a0_1 a0_2z a0_2 a0_3 a0_4z a0_4 a1_0z a1_0 a2_0z a2_0 a3_0).trans (Eq.trans ?_ (impl_Twice_1_1.b_nat impl_Twice_1_1.enc some k a0_0 a0_1 a0_2z a0_2 a0_3 a0_4z a0_4 a1_0z a1_0 a2_0z a2_0 a3_0))
  simp only [Option.map_some]
theorem impl_Twice_1_1.sound (k : Nat) : SoundF Try.prog 121 (fun a => (impl_Twice_1_1.ans k a).val) := by
  refine sound_plain (fun args res h => ?_) (fun t n => rfl)
  unfold impl_Twice_1_1.ans at h
  dsimp only at h
  split at h
  · cases k with
    | zero => cases h
    | succ k =>
      unfold Ans.val at h
      rw [← impl_Twice_1_1.eq] at h
      exact answer_sound mixed Try.func121 _ _ _ (k + 1) (fun j _ => tab_sound (tab_cons (impl_VoteGood.sound j) (tab_cons (impl_hasVote_v2.sound j) (tab_nil)))) _ _ h
  · exact (Ans.no_val h).elim

/-! loop.example/g00790/impl.hasVote$1 -/
def impl_hasVote_1_v1.b {R : Type} (ret : Bool → Option R) (k : Nat) (a0_0 : Int) (a0_1 : Int) (a0_2z : Bool) (a0_2 : List Int) (a0_3 : Int) (a0_4z : Bool) (a0_4 : List Int) (a1_0 : Int) (a2_0_0_0z : Bool) (a2_0_0_0 : List T) (a2_0_1_0z : Bool) (a2_0_1_0 : List T) (a2_0_2_0 : Int) (a3_0z : Bool) (a3_0 : List T) : Option R :=
  cond (decide (a0_3 = a1_0)) ((impl_Twice_1_1.f k a0_0 a0_1 a0_2z a0_2 a0_3 a0_4z a0_4 a2_0_0_0z a2_0_0_0 a2_0_1_0z a2_0_1_0 a2_0_2_0).bind fun t0 => cond t0 ((impl_VoteGood.f k a3_0z a3_0 a0_0 a0_1 a0_2z a0_2 a0_3 a0_4z a0_4).bind fun t1 => ret t1) (ret false)) (ret false)
def impl_hasVote_1_v1.f : Nat → Int → Int → Bool → (List Int) → Int → Bool → (List Int) → Int → Bool → (List T) → Bool → (List T) → Int → Bool → (List T) → Option Bool
  | 0, _, _, _, _, _, _, _, _, _, _, _, _, _, _, _ => none
  | k + 1, a0_0, a0_1, a0_2z, a0_2, a0_3, a0_4z, a0_4, a1_0, a2_0_0_0z, a2_0_0_0, a2_0_1_0z, a2_0_1_0, a2_0_2_0, a3_0z, a3_0 => impl_hasVote_1_v1.b some k a0_0 a0_1 a0_2z a0_2 a0_3 a0_4z a0_4 a1_0 a2_0_0_0z a2_0_0_0 a2_0_1_0z a2_0_1_0 a2_0_2_0 a3_0z a3_0
def impl_hasVote_1_v1.enc (r : Bool) : Res := ⟨[.vals false [((.bool r), true)]], []⟩
def impl_hasVote_1_v1.ans (k : Nat) : List Arg → Ans
  | [.v (.agg [(.int .i64 a0_0), (.int .i64 a0_1), (.nums 5 .u8 a0_2z a0_2), (.int .i64 a0_3), (.nums 5 .u8 a0_4z a0_4)]), .v (.ptr [(.int .i64 a1_0)]), .v (.ptr [(.fn 121 [(.ptr [(.sl 44 a2_0_0_0z a2_0_0_0)]), (.ptr [(.sl 33 a2_0_1_0z a2_0_1_0)]), (.ptr [(.int .i64 a2_0_2_0)])])]), .v (.ptr [(.sl 44 a3_0z a3_0)])] => ⟨impl_hasVote_1_v1.f k a0_0 a0_1 a0_2z a0_2 a0_3 a0_4z a0_4 a1_0 a2_0_0_0z a2_0_0_0 a2_0_1_0z a2_0_1_0 a2_0_2_0 a3_0z a3_0, impl_hasVote_1_v1.enc⟩
  | _ => Ans.no
def impl_hasVote_1_v1.Cs (k : Nat) : CallSem := tab [(17, impl_VoteGood.ans k), (121, impl_Twice_1_1.ans k)]
def impl_hasVote_1_v1.cuts : List (Nat × Keep) := []
theorem impl_hasVote_1_v1.s (k : Nat) (a0_0 : Int) (a0_1 : Int) (a0_2z : Bool) (a0_2 : List Int) (a0_3 : Int) (a0_4z : Bool) (a0_4 : List Int) (a1_0 : Int) (a2_0_0_0z : Bool) (a2_0_0_0 : List T) (a2_0_1_0z : Bool) (a2_0_1_0 : List T) (a2_0_2_0 : Int) (a3_0z : Bool) (a3_0 : List T) : answer Try.prog impl_hasVote_1_v1.Cs 100000 impl_hasVote_1_v1.cuts [] Try.f169 (k + 1) [.v (.agg [(.int .i64 a0_0), (.int .i64 a0_1), (.nums 5 .u8 a0_2z a0_2), (.int .i64 a0_3), (.nums 5 .u8 a0_4z a0_4)]), .v (.ptr [(.int .i64 a1_0)]), .v (.ptr [(.fn 121 [(.ptr [(.sl 44 a2_0_0_0z a2_0_0_0)]), (.ptr [(.sl 33 a2_0_1_0z a2_0_1_0)]), (.ptr [(.int .i64 a2_0_2_0)])])]), .v (.ptr [(.sl 44 a3_0z a3_0)])] = impl_hasVote_1_v1.b (fun r => some (impl_hasVote_1_v1.enc r)) k a0_0 a0_1 a0_2z a0_2 a0_3 a0_4z a0_4 a1_0 a2_0_0_0z a2_0_0_0 a2_0_1_0z a2_0_1_0 a2_0_2_0 a3_0z a3_0 := by kernel_rfl
theorem impl_hasVote_1_v1.b_nat {R R' : Type} (e : R → R') (ret : Bool → Option R) (k : Nat) (a0_0 : Int) (a0_1 : Int) (a0_2z : Bool) (a0_2 : List Int) (a0_3 : Int) (a0_4z : Bool) (a0_4 : List Int) (a1_0 : Int) (a2_0_0_0z : Bool) (a2_0_0_0 : List T) (a2_0_1_0z : Bool) (a2_0_1_0 : List T) (a2_0_2_0 : Int) (a3_0z : Bool) (a3_0 : List T) : impl_hasVote_1_v1.b (fun r => (ret r).map e) k a0_0 a0_1 a0_2z a0_2 a0_3 a0_4z a0_4 a1_0 a2_0_0_0z a2_0_0_0 a2_0_1_0z a2_0_1_0 a2_0_2_0 a3_0z a3_0 = (impl_hasVote_1_v1.b ret k a0_0 a0_1 a0_2z a0_2 a0_3 a0_4z a0_4 a1_0 a2_0_0_0z a2_0_0_0 a2_0_1_0z a2_0_1_0 a2_0_2_0 a3_0z a3_0).map e := by
  unfold impl_hasVote_1_v1.b
  repeat' first | with_reducible refine nat_cond ?_ ?_ | with_reducible refine nat_bind fun _ => ?_ | rfl
theorem impl_hasVote_1_v1.eq (k : Nat) (a0_0 : Int) (a0_1 : Int) (a0_2z : Bool) (a0_2 : List Int) (a0_3 : Int) (a0_4z : Bool) (a0_4 : List Int) (a1_0 : Int) (a2_0_0_0z : Bool) (a2_0_0_0 : List T) (a2_0_1_0z : Bool) (a2_0_1_0 : List T) (a2_0_2_0 : Int) (a3_0z : Bool) (a3_0 : List T) : answer Try.prog impl_hasVote_1_v1.Cs 100000 impl_hasVote_1_v1.cuts [] Try.f169 (k + 1) [.v (.agg [(.int .i64 a0_0), (.int .i64 a0_1), (.nums 5 .u8 a0_2z a0_2), (.int .i64 a0_3), (.nums 5 .u8 a0_4z a0_4)]), .v (.ptr [(.int .i64 a1_0)]), .v (.ptr [(.fn 121 [(.ptr [(.sl 44 a2_0_0_0z a2_0_0_0)]), (.ptr [(.sl 33 a2_0_1_0z a2_0_1_0)]), (.ptr [(.int .i64 a2_0_2_0)])])]), .v (.ptr [(.sl 44 a3_0z a3_0)])] = (impl_hasVote_1_v1.f (k + 1) a0_0 a0_1 a0_2z a0_2 a0_3 a0_4z a0_4 a1_0 a2_0_0_0z a2_0_0_0 a2_0_1_0z a2_0_1_0 a2_0_2_0 a3_0z a3_0).map impl_hasVote_1_v1.enc := by
  refine (impl_hasVote_1_v1.s k a0_0 a0_1 a0_2z a0_2 a0_3 a0_4z a0_4 a1_0 a2_0_0_0z a2_0_0_0 a2_0_1_0z a2_0_1_0 a2_0_2_0 a3_0z a3_0).trans (Eq.trans ?_ (impl_hasVote_1_v1.b_nat impl_hasVote_1_v1.enc some k a0_0 a0_1 a0_2z a0_2 a0_3 a0_4z a0_4 a1_0 a2_0_0_0z a2_0_0_0 a2_0_1_0z a2_0_1_0 a2_0_2_0 a3_0z a3_0))
  simp only [Option.map_some]
theorem impl_hasVote_1_v1.sound (k : Nat) : SoundF Try.prog 169 (fun a => (impl_hasVote_1_v1.ans k a).val) := by
  refine sound_plain (fun args res h => ?_) (fun t n => rfl)
  unfold impl_hasVote_1_v1.ans at h
  dsimp only at h
  split at h
  · cases k with
    | zero => cases h
    | succ k =>
      unfold Ans.val at h
      rw [← impl_hasVote_1_v1.eq] at h
      exact answer_sound mixed Try.func169 _ _ _ (k + 1) (fun j _ => tab_sound (tab_cons (impl_VoteGood.sound j) (tab_cons (impl_Twice_1_1.sound j) (tab_nil)))) _ _ h
  · exact (Ans.no_val h).elim

/-! slices.IndexFunc[[]loop.example/g00790/impl.Vote,loop.example/g00790/impl.Vote] -/
def impl_Vote_106_v1.b {R : Type} (ret : Int → Option R) (j0 : Bool → (List T) → Int → Bool → (List T) → Bool → (List T) → Int → Bool → (List T) → Int → Int → Option R) (k : Nat) (a0z : Bool) (a0 : List T) (a1_0_0 : Int) (a1_1_0_0_0z : Bool) (a1_1_0_0_0 : List T) (a1_1_0_1_0z : Bool) (a1_1_0_1_0 : List T) (a1_1_0_2_0 : Int) (a1_2_0z : Bool) (a1_2_0 : List T) : Option R :=
  j0 a0z a0 a1_0_0 a1_1_0_0_0z a1_1_0_0_0 a1_1_0_1_0z a1_1_0_1_0 a1_1_0_2_0 a1_2_0z a1_2_0 ((a0).length : Int) 0
def impl_Vote_106_v1.l0b {R : Type} (ret : Int → Option R) (j0 : Bool → (List T) → Int → Bool → (List T) → Bool → (List T) → Int → Bool → (List T) → Int → Int → Option R) (k : Nat) (x0z : Bool) (x0 : List T) (x1_0_0 : Int) (x1_1_0_0_0z : Bool) (x1_1_0_0_0 : List T) (x1_1_0_1_0z : Bool) (x1_1_0_1_0 : List T) (x1_1_0_2_0 : Int) (x1_2_0z : Bool) (x1_2_0 : List T) (x7 : Int) (x8 : Int) : Option R :=
  cond (decide (x8 < x7)) (cond (decide ((0 : Int) ≤ x8)) (cond (decide (x8 < ((x0).length : Int))) ((impl_hasVote_1_v1.f k (((((x0).getD (x8).toNat .bad).cells.getD 0 .bad)).toInt) (((((x0).getD (x8).toNat .bad).cells.getD 1 .bad)).toInt) (((((x0).getD (x8).toNat .bad).cells.getD 2 .bad)).isNil) (((((x0).getD (x8).toNat .bad).cells.getD 2 .bad)).toNums) (((((x0).getD (x8).toNat .bad).cells.getD 3 .bad)).toInt) (((((x0).getD (x8).toNat .bad).cells.getD 4 .bad)).isNil) (((((x0).getD (x8).toNat .bad).cells.getD 4 .bad)).toNums) x1_0_0 x1_1_0_0_0z x1_1_0_0_0 x1_1_0_1_0z x1_1_0_1_0 x1_1_0_2_0 x1_2_0z x1_2_0).bind fun t0 => cond t0 (ret x8) (j0 x0z x0 x1_0_0 x1_1_0_0_0z x1_1_0_0_0 x1_1_0_1_0z x1_1_0_1_0 x1_1_0_2_0 x1_2_0z x1_2_0 x7 (RowKit.wrap64 (x8 + 1)))) (none)) (none)) (ret (-1))
def impl_Vote_106_v1.l0 : Nat → Bool → (List T) → Int → Bool → (List T) → Bool → (List T) → Int → Bool → (List T) → Int → Int → Option Int
  | 0, _, _, _, _, _, _, _, _, _, _, _, _ => none
  | k + 1, x0z, x0, x1_0_0, x1_1_0_0_0z, x1_1_0_0_0, x1_1_0_1_0z, x1_1_0_1_0, x1_1_0_2_0, x1_2_0z, x1_2_0, x7, x8 => impl_Vote_106_v1.l0b some (impl_Vote_106_v1.l0 k) k x0z x0 x1_0_0 x1_1_0_0_0z x1_1_0_0_0 x1_1_0_1_0z x1_1_0_1_0 x1_1_0_2_0 x1_2_0z x1_2_0 x7 x8
def impl_Vote_106_v1.f : Nat → Bool → (List T) → Int → Bool → (List T) → Bool → (List T) → Int → Bool → (List T) → Option Int
  | 0, _, _, _, _, _, _, _, _, _, _ => none
  | k + 1, a0z, a0, a1_0_0, a1_1_0_0_0z, a1_1_0_0_0, a1_1_0_1_0z, a1_1_0_1_0, a1_1_0_2_0, a1_2_0z, a1_2_0 => impl_Vote_106_v1.b some (impl_Vote_106_v1.l0 k) k a0z a0 a1_0_0 a1_1_0_0_0z a1_1_0_0_0 a1_1_0_1_0z a1_1_0_1_0 a1_1_0_2_0 a1_2_0z a1_2_0
def impl_Vote_106_v1.enc (r : Int) : Res := ⟨[.vals false [((.int .i64 r), true)]], []⟩
def impl_Vote_106_v1.ans (k : Nat) : List Arg → Ans
  | [.v (.sl 33 a0z a0), .v (.fn 169 [(.ptr [(.int .i64 a1_0_0)]), (.ptr [(.fn 121 [(.ptr [(.sl 44 a1_1_0_0_0z a1_1_0_0_0)]), (.ptr [(.sl 33 a1_1_0_1_0z a1_1_0_1_0)]), (.ptr [(.int .i64 a1_1_0_2_0)])])]), (.ptr [(.sl 44 a1_2_0z a1_2_0)])])] => ⟨impl_Vote_106_v1.f k a0z a0 a1_0_0 a1_1_0_0_0z a1_1_0_0_0 a1_1_0_1_0z a1_1_0_1_0 a1_1_0_2_0 a1_2_0z a1_2_0, impl_Vote_106_v1.enc⟩
  | _ => Ans.no
def impl_Vote_106_v1.Cs (k : Nat) : CallSem := tab [(169, impl_hasVote_1_v1.ans k)]
def impl_Vote_106_v1.cuts : List (Nat × Keep) := [(26, ⟨[(0, some []), (1, some []), (7, some []), (8, some [])], []⟩)]
noncomputable def impl_Vote_106_v1.K0 : List Fr := framesAt [true, false, true, false] (bodyOf Try.f106 impl_Vote_106_v1.cuts) []
def impl_Vote_106_v1.N0 (x0z : Bool) (x0 : List T) (x1_0_0 : Int) (x1_1_0_0_0z : Bool) (x1_1_0_0_0 : List T) (x1_1_0_1_0z : Bool) (x1_1_0_1_0 : List T) (x1_1_0_2_0 : Int) (x1_2_0z : Bool) (x1_2_0 : List T) (x7 : Int) (x8 : Int) : St := stOf 19 19 2 [(0, .val ⟨(.sl 33 x0z x0), [], false, none⟩), (1, .val ⟨(.fn 169 [(.ptr [(.int .i64 x1_0_0)]), (.ptr [(.fn 121 [(.ptr [(.sl 44 x1_1_0_0_0z x1_1_0_0_0)]), (.ptr [(.sl 33 x1_1_0_1_0z x1_1_0_1_0)]), (.ptr [(.int .i64 x1_1_0_2_0)])])]), (.ptr [(.sl 44 x1_2_0z x1_2_0)])]), [], false, none⟩), (7, .val (V.s (.int .i64 x7))), (8, .val (V.s (.int .i64 x8)))] []
theorem impl_Vote_106_v1.s (k : Nat) (a0z : Bool) (a0 : List T) (a1_0_0 : Int) (a1_1_0_0_0z : Bool) (a1_1_0_0_0 : List T) (a1_1_0_1_0z : Bool) (a1_1_0_1_0 : List T) (a1_1_0_2_0 : Int) (a1_2_0z : Bool) (a1_2_0 : List T) : answer Try.prog impl_Vote_106_v1.Cs 100000 impl_Vote_106_v1.cuts [] Try.f106 (k + 1) [.v (.sl 33 a0z a0), .v (.fn 169 [(.ptr [(.int .i64 a1_0_0)]), (.ptr [(.fn 121 [(.ptr [(.sl 44 a1_1_0_0_0z a1_1_0_0_0)]), (.ptr [(.sl 33 a1_1_0_1_0z a1_1_0_1_0)]), (.ptr [(.int .i64 a1_1_0_2_0)])])]), (.ptr [(.sl 44 a1_2_0z a1_2_0)])])] = impl_Vote_106_v1.b (fun r => some (impl_Vote_106_v1.enc r)) (fun x0z x0 x1_0_0 x1_1_0_0_0z x1_1_0_0_0 x1_1_0_1_0z x1_1_0_1_0 x1_1_0_2_0 x1_2_0z x1_2_0 x7 x8 => rounds Try.prog impl_Vote_106_v1.Cs (finish Try.prog [] Try.f106 [.v (.sl 33 a0z a0), .v (.fn 169 [(.ptr [(.int .i64 a1_0_0)]), (.ptr [(.fn 121 [(.ptr [(.sl 44 a1_1_0_0_0z a1_1_0_0_0)]), (.ptr [(.sl 33 a1_1_0_1_0z a1_1_0_1_0)]), (.ptr [(.int .i64 a1_1_0_2_0)])])]), (.ptr [(.sl 44 a1_2_0z a1_2_0)])])]) 100000 k impl_Vote_106_v1.K0 (impl_Vote_106_v1.N0 x0z x0 x1_0_0 x1_1_0_0_0z x1_1_0_0_0 x1_1_0_1_0z x1_1_0_1_0 x1_1_0_2_0 x1_2_0z x1_2_0 x7 x8)) k a0z a0 a1_0_0 a1_1_0_0_0z a1_1_0_0_0 a1_1_0_1_0z a1_1_0_1_0 a1_1_0_2_0 a1_2_0z a1_2_0 := by kernel_rfl
theorem impl_Vote_106_v1.s0 (k : Nat) (G : List Fr → St → Option Res) (a0z : Bool) (a0 : List T) (a1_0_0 : Int) (a1_1_0_0_0z : Bool) (a1_1_0_0_0 : List T) (a1_1_0_1_0z : Bool) (a1_1_0_1_0 : List T) (a1_1_0_2_0 : Int) (a1_2_0z : Bool) (a1_2_0 : List T) (yx0z : Bool) (yx0 : List T) (yx1_0_0 : Int) (yx1_1_0_0_0z : Bool) (yx1_1_0_0_0 : List T) (yx1_1_0_1_0z : Bool) (yx1_1_0_1_0 : List T) (yx1_1_0_2_0 : Int) (yx1_2_0z : Bool) (yx1_2_0 : List T) (yx7 : Int) (yx8 : Int) : resume Try.prog (impl_Vote_106_v1.Cs k) G (finish Try.prog [] Try.f106 [.v (.sl 33 a0z a0), .v (.fn 169 [(.ptr [(.int .i64 a1_0_0)]), (.ptr [(.fn 121 [(.ptr [(.sl 44 a1_1_0_0_0z a1_1_0_0_0)]), (.ptr [(.sl 33 a1_1_0_1_0z a1_1_0_1_0)]), (.ptr [(.int .i64 a1_1_0_2_0)])])]), (.ptr [(.sl 44 a1_2_0z a1_2_0)])])]) 100000 impl_Vote_106_v1.K0 (impl_Vote_106_v1.N0 yx0z yx0 yx1_0_0 yx1_1_0_0_0z yx1_1_0_0_0 yx1_1_0_1_0z yx1_1_0_1_0 yx1_1_0_2_0 yx1_2_0z yx1_2_0 yx7 yx8) = impl_Vote_106_v1.l0b (fun r => some (impl_Vote_106_v1.enc r)) (fun x0z x0 x1_0_0 x1_1_0_0_0z x1_1_0_0_0 x1_1_0_1_0z x1_1_0_1_0 x1_1_0_2_0 x1_2_0z x1_2_0 x7 x8 => G impl_Vote_106_v1.K0 (impl_Vote_106_v1.N0 x0z x0 x1_0_0 x1_1_0_0_0z x1_1_0_0_0 x1_1_0_1_0z x1_1_0_1_0 x1_1_0_2_0 x1_2_0z x1_2_0 x7 x8)) k yx0z yx0 yx1_0_0 yx1_1_0_0_0z yx1_1_0_0_0 yx1_1_0_1_0z yx1_1_0_1_0 yx1_1_0_2_0 yx1_2_0z yx1_2_0 yx7 yx8 := by kernel_rfl
theorem impl_Vote_106_v1.b_nat {R R' : Type} (e : R → R') (ret : Int → Option R) (j0 : Bool → (List T) → Int → Bool → (List T) → Bool → (List T) → Int → Bool → (List T) → Int → Int → Option R) (k : Nat) (a0z : Bool) (a0 : List T) (a1_0_0 : Int) (a1_1_0_0_0z : Bool) (a1_1_0_0_0 : List T) (a1_1_0_1_0z : Bool) (a1_1_0_1_0 : List T) (a1_1_0_2_0 : Int) (a1_2_0z : Bool) (a1_2_0 : List T) : impl_Vote_106_v1.b (fun r => (ret r).map e) (fun x0z x0 x1_0_0 x1_1_0_0_0z x1_1_0_0_0 x1_1_0_1_0z x1_1_0_1_0 x1_1_0_2_0 x1_2_0z x1_2_0 x7 x8 => (j0 x0z x0 x1_0_0 x1_1_0_0_0z x1_1_0_0_0 x1_1_0_1_0z x1_1_0_1_0 x1_1_0_2_0 x1_2_0z x1_2_0 x7 x8).map e) k a0z a0 a1_0_0 a1_1_0_0_0z a1_1_0_0_0 a1_1_0_1_0z a1_1_0_1_0 a1_1_0_2_0 a1_2_0z a1_2_0 = (impl_Vote_106_v1.b ret j0 k a0z a0 a1_0_0 a1_1_0_0_0z a1_1_0_0_0 a1_1_0_1_0z a1_1_0_1_0 a1_1_0_2_0 a1_2_0z a1_2_0).map e := by
  unfold impl_Vote_106_v1.b
  repeat' first | with_reducible refine nat_cond ?_ ?_ | with_reducible refine nat_bind fun _ => ?_ | rfl
theorem impl_Vote_106_v1.l0b_nat {R R' : Type} (e : R → R') (ret : Int → Option R) (j0 : Bool → (List T) → Int → Bool → (List T) → Bool → (List T) → Int → Bool → (List T) → Int → Int → Option R) (k : Nat) (x0z : Bool) (x0 : List T) (x1_0_0 : Int) (x1_1_0_0_0z : Bool) (x1_1_0_0_0 : List T) (x1_1_0_1_0z : Bool) (x1_1_0_1_0 : List T) (x1_1_0_2_0 : Int) (x1_2_0z : Bool) (x1_2_0 : List T) (x7 : Int) (x8 : Int) : impl_Vote_106_v1.l0b (fun r => (ret r).map e) (fun x0z x0 x1_0_0 x1_1_0_0_0z x1_1_0_0_0 x1_1_0_1_0z x1_1_0_1_0 x1_1_0_2_0 x1_2_0z x1_2_0 x7 x8 => (j0 x0z x0 x1_0_0 x1_1_0_0_0z x1_1_0_0_0 x1_1_0_1_0z x1_1_0_1_0 x1_1_0_2_0 x1_2_0z x1_2_0 x7 x8).map e) k x0z x0 x1_0_0 x1_1_0_0_0z x1_1_0_0_0 x1_1_0_1_0z x1_1_0_1_0 x1_1_0_2_0 x1_2_0z x1_2_0 x7 x8 = (impl_Vote_106_v1.l0b ret j0 k x0z x0 x1_0_0 x1_1_0_0_0z x1_1_0_0_0 x1_1_0_1_0z x1_1_0_1_0 x1_1_0_2_0 x1_2_0z x1_2_0 x7 x8).map e := by
  unfold impl_Vote_106_v1.l0b
  repeat' first | with_reducible refine nat_cond ?_ ?_ | with_reducible refine nat_bind fun _ => ?_ | rfl
theorem impl_Vote_106_v1.rounds_eq (a0z : Bool) (a0 : List T) (a1_0_0 : Int) (a1_1_0_0_0z : Bool) (a1_1_0_0_0 : List T) (a1_1_0_1_0z : Bool) (a1_1_0_1_0 : List T) (a1_1_0_2_0 : Int) (a1_2_0z : Bool) (a1_2_0 : List T) : ∀ k, (∀ (x0z : Bool) (x0 : List T) (x1_0_0 : Int) (x1_1_0_0_0z : Bool) (x1_1_0_0_0 : List T) (x1_1_0_1_0z : Bool) (x1_1_0_1_0 : List T) (x1_1_0_2_0 : Int) (x1_2_0z : Bool) (x1_2_0 : List T) (x7 : Int) (x8 : Int), rounds Try.prog impl_Vote_106_v1.Cs (finish Try.prog [] Try.f106 [.v (.sl 33 a0z a0), .v (.fn 169 [(.ptr [(.int .i64 a1_0_0)]), (.ptr [(.fn 121 [(.ptr [(.sl 44 a1_1_0_0_0z a1_1_0_0_0)]), (.ptr [(.sl 33 a1_1_0_1_0z a1_1_0_1_0)]), (.ptr [(.int .i64 a1_1_0_2_0)])])]), (.ptr [(.sl 44 a1_2_0z a1_2_0)])])]) 100000 k impl_Vote_106_v1.K0 (impl_Vote_106_v1.N0 x0z x0 x1_0_0 x1_1_0_0_0z x1_1_0_0_0 x1_1_0_1_0z x1_1_0_1_0 x1_1_0_2_0 x1_2_0z x1_2_0 x7 x8) = (impl_Vote_106_v1.l0 k x0z x0 x1_0_0 x1_1_0_0_0z x1_1_0_0_0 x1_1_0_1_0z x1_1_0_1_0 x1_1_0_2_0 x1_2_0z x1_2_0 x7 x8).map impl_Vote_106_v1.enc)
  | 0 => fun _ _ _ _ _ _ _ _ _ _ _ _ => rfl
  | k + 1 => by
    have ih := impl_Vote_106_v1.rounds_eq a0z a0 a1_0_0 a1_1_0_0_0z a1_1_0_0_0 a1_1_0_1_0z a1_1_0_1_0 a1_1_0_2_0 a1_2_0z a1_2_0 k
    refine fun _ _ _ _ _ _ _ _ _ _ _ _ => ?_
    · refine (impl_Vote_106_v1.s0 k _ a0z a0 a1_0_0 a1_1_0_0_0z a1_1_0_0_0 a1_1_0_1_0z a1_1_0_1_0 a1_1_0_2_0 a1_2_0z a1_2_0 _ _ _ _ _ _ _ _ _ _ _ _).trans (Eq.trans ?_ (impl_Vote_106_v1.l0b_nat impl_Vote_106_v1.enc some (impl_Vote_106_v1.l0 k) k _ _ _ _ _ _ _ _ _ _ _ _))
      simp only [ih, Option.map_some]
theorem impl_Vote_106_v1.eq (k : Nat) (a0z : Bool) (a0 : List T) (a1_0_0 : Int) (a1_1_0_0_0z : Bool) (a1_1_0_0_0 : List T) (a1_1_0_1_0z : Bool) (a1_1_0_1_0 : List T) (a1_1_0_2_0 : Int) (a1_2_0z : Bool) (a1_2_0 : List T) : answer Try.prog impl_Vote_106_v1.Cs 100000 impl_Vote_106_v1.cuts [] Try.f106 (k + 1) [.v (.sl 33 a0z a0), .v (.fn 169 [(.ptr [(.int .i64 a1_0_0)]), (.ptr [(.fn 121 [(.ptr [(.sl 44 a1_1_0_0_0z a1_1_0_0_0)]), (.ptr [(.sl 33 a1_1_0_1_0z a1_1_0_1_0)]), (.ptr [(.int .i64 a1_1_0_2_0)])])]), (.ptr [(.sl 44 a1_2_0z a1_2_0)])])] = (impl_Vote_106_v1.f (k + 1) a0z a0 a1_0_0 a1_1_0_0_0z a1_1_0_0_0 a1_1_0_1_0z a1_1_0_1_0 a1_1_0_2_0 a1_2_0z a1_2_0).map impl_Vote_106_v1.enc := by
  have ih := impl_Vote_106_v1.rounds_eq a0z a0 a1_0_0 a1_1_0_0_0z a1_1_0_0_0 a1_1_0_1_0z a1_1_0_1_0 a1_1_0_2_0 a1_2_0z a1_2_0 k
  refine (impl_Vote_106_v1.s k a0z a0 a1_0_0 a1_1_0_0_0z a1_1_0_0_0 a1_1_0_1_0z a1_1_0_1_0 a1_1_0_2_0 a1_2_0z a1_2_0).trans (Eq.trans ?_ (impl_Vote_106_v1.b_nat impl_Vote_106_v1.enc some (impl_Vote_106_v1.l0 k) k a0z a0 a1_0_0 a1_1_0_0_0z a1_1_0_0_0 a1_1_0_1_0z a1_1_0_1_0 a1_1_0_2_0 a1_2_0z a1_2_0))
  simp only [ih, Option.map_some]
theorem impl_Vote_106_v1.sound (k : Nat) : SoundF Try.prog 106 (fun a => (impl_Vote_106_v1.ans k a).val) := by
  refine sound_plain (fun args res h => ?_) (fun t n => rfl)
  unfold impl_Vote_106_v1.ans at h
  dsimp only at h
  split at h
  · cases k with
    | zero => cases h
    | succ k =>
      unfold Ans.val at h
      rw [← impl_Vote_106_v1.eq] at h
      exact answer_sound mixed Try.func106 _ _ _ (k + 1) (fun j _ => tab_sound (tab_cons (impl_hasVote_1_v1.sound j) (tab_nil))) _ _ h
  · exact (Ans.no_val h).elim

/-! slices.ContainsFunc[[]loop.example/g00790/impl.Vote,loop.example/g00790/impl.Vote] -/
def impl_Vote_v1.b {R : Type} (ret : Bool → Option R) (k : Nat) (a0z : Bool) (a0 : List T) (a1_0_0 : Int) (a1_1_0_0_0z : Bool) (a1_1_0_0_0 : List T) (a1_1_0_1_0z : Bool) (a1_1_0_1_0 : List T) (a1_1_0_2_0 : Int) (a1_2_0z : Bool) (a1_2_0 : List T) : Option R :=
  (impl_Vote_106_v1.f k a0z a0 a1_0_0 a1_1_0_0_0z a1_1_0_0_0 a1_1_0_1_0z a1_1_0_1_0 a1_1_0_2_0 a1_2_0z a1_2_0).bind fun t0 => ret (decide (t0 ≥ 0))
def impl_Vote_v1.f : Nat → Bool → (List T) → Int → Bool → (List T) → Bool → (List T) → Int → Bool → (List T) → Option Bool
  | 0, _, _, _, _, _, _, _, _, _, _ => none
  | k + 1, a0z, a0, a1_0_0, a1_1_0_0_0z, a1_1_0_0_0, a1_1_0_1_0z, a1_1_0_1_0, a1_1_0_2_0, a1_2_0z, a1_2_0 => impl_Vote_v1.b some k a0z a0 a1_0_0 a1_1_0_0_0z a1_1_0_0_0 a1_1_0_1_0z a1_1_0_1_0 a1_1_0_2_0 a1_2_0z a1_2_0
def impl_Vote_v1.enc (r : Bool) : Res := ⟨[.vals false [((.bool r), true)]], []⟩
def impl_Vote_v1.ans (k : Nat) : List Arg → Ans
  | [.v (.sl 33 a0z a0), .v (.fn 169 [(.ptr [(.int .i64 a1_0_0)]), (.ptr [(.fn 121 [(.ptr [(.sl 44 a1_1_0_0_0z a1_1_0_0_0)]), (.ptr [(.sl 33 a1_1_0_1_0z a1_1_0_1_0)]), (.ptr [(.int .i64 a1_1_0_2_0)])])]), (.ptr [(.sl 44 a1_2_0z a1_2_0)])])] => ⟨impl_Vote_v1.f k a0z a0 a1_0_0 a1_1_0_0_0z a1_1_0_0_0 a1_1_0_1_0z a1_1_0_1_0 a1_1_0_2_0 a1_2_0z a1_2_0, impl_Vote_v1.enc⟩
  | _ => Ans.no
def impl_Vote_v1.Cs (k : Nat) : CallSem := tab [(106, impl_Vote_106_v1.ans k)]
def impl_Vote_v1.cuts : List (Nat × Keep) := []
theorem impl_Vote_v1.s (k : Nat) (a0z : Bool) (a0 : List T) (a1_0_0 : Int) (a1_1_0_0_0z : Bool) (a1_1_0_0_0 : List T) (a1_1_0_1_0z : Bool) (a1_1_0_1_0 : List T) (a1_1_0_2_0 : Int) (a1_2_0z : Bool) (a1_2_0 : List T) : answer Try.prog impl_Vote_v1.Cs 100000 impl_Vote_v1.cuts [] Try.f168 (k + 1) [.v (.sl 33 a0z a0), .v (.fn 169 [(.ptr [(.int .i64 a1_0_0)]), (.ptr [(.fn 121 [(.ptr [(.sl 44 a1_1_0_0_0z a1_1_0_0_0)]), (.ptr [(.sl 33 a1_1_0_1_0z a1_1_0_1_0)]), (.ptr [(.int .i64 a1_1_0_2_0)])])]), (.ptr [(.sl 44 a1_2_0z a1_2_0)])])] = impl_Vote_v1.b (fun r => some (impl_Vote_v1.enc r)) k a0z a0 a1_0_0 a1_1_0_0_0z a1_1_0_0_0 a1_1_0_1_0z a1_1_0_1_0 a1_1_0_2_0 a1_2_0z a1_2_0 := by kernel_rfl
theorem impl_Vote_v1.b_nat {R R' : Type} (e : R → R') (ret : Bool → Option R) (k : Nat) (a0z : Bool) (a0 : List T) (a1_0_0 : Int) (a1_1_0_0_0z : Bool) (a1_1_0_0_0 : List T) (a1_1_0_1_0z : Bool) (a1_1_0_1_0 : List T) (a1_1_0_2_0 : Int) (a1_2_0z : Bool) (a1_2_0 : List T) : impl_Vote_v1.b (fun r => (ret r).map e) k a0z a0 a1_0_0 a1_1_0_0_0z a1_1_0_0_0 a1_1_0_1_0z a1_1_0_1_0 a1_1_0_2_0 a1_2_0z a1_2_0 = (impl_Vote_v1.b ret k a0z a0 a1_0_0 a1_1_0_0_0z a1_1_0_0_0 a1_1_0_1_0z a1_1_0_1_0 a1_1_0_2_0 a1_2_0z a1_2_0).map e := by
  unfold impl_Vote_v1.b
  repeat' first | with_reducible refine nat_cond ?_ ?_ | with_reducible refine nat_bind fun _ => ?_ | rfl
theorem impl_Vote_v1.eq (k : Nat) (a0z : Bool) (a0 : List T) (a1_0_0 : Int) (a1_1_0_0_0z : Bool) (a1_1_0_0_0 : List T) (a1_1_0_1_0z : Bool) (a1_1_0_1_0 : List T) (a1_1_0_2_0 : Int) (a1_2_0z : Bool) (a1_2_0 : List T) : answer Try.prog impl_Vote_v1.Cs 100000 impl_Vote_v1.cuts [] Try.f168 (k + 1) [.v (.sl 33 a0z a0), .v (.fn 169 [(.ptr [(.int .i64 a1_0_0)]), (.ptr [(.fn 121 [(.ptr [(.sl 44 a1_1_0_0_0z a1_1_0_0_0)]), (.ptr [(.sl 33 a1_1_0_1_0z a1_1_0_1_0)]), (.ptr [(.int .i64 a1_1_0_2_0)])])]), (.ptr [(.sl 44 a1_2_0z a1_2_0)])])] = (impl_Vote_v1.f (k + 1) a0z a0 a1_0_0 a1_1_0_0_0z a1_1_0_0_0 a1_1_0_1_0z a1_1_0_1_0 a1_1_0_2_0 a1_2_0z a1_2_0).map impl_Vote_v1.enc := by
  refine (impl_Vote_v1.s k a0z a0 a1_0_0 a1_1_0_0_0z a1_1_0_0_0 a1_1_0_1_0z a1_1_0_1_0 a1_1_0_2_0 a1_2_0z a1_2_0).trans (Eq.trans ?_ (impl_Vote_v1.b_nat impl_Vote_v1.enc some k a0z a0 a1_0_0 a1_1_0_0_0z a1_1_0_0_0 a1_1_0_1_0z a1_1_0_1_0 a1_1_0_2_0 a1_2_0z a1_2_0))
  simp only [Option.map_some]
theorem impl_Vote_v1.sound (k : Nat) : SoundF Try.prog 168 (fun a => (impl_Vote_v1.ans k a).val) := by
  refine sound_plain (fun args res h => ?_) (fun t n => rfl)
  unfold impl_Vote_v1.ans at h
  dsimp only at h
  split at h
  · cases k with
    | zero => cases h
    | succ k =>
      unfold Ans.val at h
      rw [← impl_Vote_v1.eq] at h
      exact answer_sound mixed Try.func168 _ _ _ (k + 1) (fun j _ => tab_sound (tab_cons (impl_Vote_106_v1.sound j) (tab_nil))) _ _ h
  · exact (Ans.no_val h).elim

/-! loop.example/g00790/impl.hasVote -/
def impl_hasVote_v1.b {R : Type} (ret : Bool → Option R) (k : Nat) (a0_0z : Bool) (a0_0 : List T) (a1z : Bool) (a1 : List T) (a2 : Int) (a3_0_0z : Bool) (a3_0_0 : List T) (a3_1_0z : Bool) (a3_1_0 : List T) (a3_2_0 : Int) : Option R :=
  (impl_Vote_v1.f k a1z a1 a2 a3_0_0z a3_0_0 a3_1_0z a3_1_0 a3_2_0 a0_0z a0_0).bind fun t0 => ret t0
def impl_hasVote_v1.f : Nat → Bool → (List T) → Bool → (List T) → Int → Bool → (List T) → Bool → (List T) → Int → Option Bool
  | 0, _, _, _, _, _, _, _, _, _, _ => none
  | k + 1, a0_0z, a0_0, a1z, a1, a2, a3_0_0z, a3_0_0, a3_1_0z, a3_1_0, a3_2_0 => impl_hasVote_v1.b some k a0_0z a0_0 a1z a1 a2 a3_0_0z a3_0_0 a3_1_0z a3_1_0 a3_2_0
def impl_hasVote_v1.enc (r : Bool) : Res := ⟨[.vals false [((.bool r), true)]], []⟩
def impl_hasVote_v1.ans (k : Nat) : List Arg → Ans
  | [.v (.agg [(.sl 44 a0_0z a0_0)]), .v (.sl 33 a1z a1), .v (.int .i64 a2), .v (.fn 121 [(.ptr [(.sl 44 a3_0_0z a3_0_0)]), (.ptr [(.sl 33 a3_1_0z a3_1_0)]), (.ptr [(.int .i64 a3_2_0)])])] => ⟨impl_hasVote_v1.f k a0_0z a0_0 a1z a1 a2 a3_0_0z a3_0_0 a3_1_0z a3_1_0 a3_2_0, impl_hasVote_v1.enc⟩
  | _ => Ans.no
def impl_hasVote_v1.Cs (k : Nat) : CallSem := tab [(168, impl_Vote_v1.ans k)]
def impl_hasVote_v1.cuts : List (Nat × Keep) := []
theorem impl_hasVote_v1.s (k : Nat) (a0_0z : Bool) (a0_0 : List T) (a1z : Bool) (a1 : List T) (a2 : Int) (a3_0_0z : Bool) (a3_0_0 : List T) (a3_1_0z : Bool) (a3_1_0 : List T) (a3_2_0 : Int) : answer Try.prog impl_hasVote_v1.Cs 100000 impl_hasVote_v1.cuts [] Try.f110 (k + 1) [.v (.agg [(.sl 44 a0_0z a0_0)]), .v (.sl 33 a1z a1), .v (.int .i64 a2), .v (.fn 121 [(.ptr [(.sl 44 a3_0_0z a3_0_0)]), (.ptr [(.sl 33 a3_1_0z a3_1_0)]), (.ptr [(.int .i64 a3_2_0)])])] = impl_hasVote_v1.b (fun r => some (impl_hasVote_v1.enc r)) k a0_0z a0_0 a1z a1 a2 a3_0_0z a3_0_0 a3_1_0z a3_1_0 a3_2_0 := by kernel_rfl
theorem impl_hasVote_v1.b_nat {R R' : Type} (e : R → R') (ret : Bool → Option R) (k : Nat) (a0_0z : Bool) (a0_0 : List T) (a1z : Bool) (a1 : List T) (a2 : Int) (a3_0_0z : Bool) (a3_0_0 : List T) (a3_1_0z : Bool) (a3_1_0 : List T) (a3_2_0 : Int) : impl_hasVote_v1.b (fun r => (ret r).map e) k a0_0z a0_0 a1z a1 a2 a3_0_0z a3_0_0 a3_1_0z a3_1_0 a3_2_0 = (impl_hasVote_v1.b ret k a0_0z a0_0 a1z a1 a2 a3_0_0z a3_0_0 a3_1_0z a3_1_0 a3_2_0).map e := by
  unfold impl_hasVote_v1.b
  repeat' first | with_reducible refine nat_cond ?_ ?_ | with_reducible refine nat_bind fun _ => ?_ | rfl
theorem impl_hasVote_v1.eq (k : Nat) (a0_0z : Bool) (a0_0 : List T) (a1z : Bool) (a1 : List T) (a2 : Int) (a3_0_0z : Bool) (a3_0_0 : List T) (a3_1_0z : Bool) (a3_1_0 : List T) (a3_2_0 : Int) : answer Try.prog impl_hasVote_v1.Cs 100000 impl_hasVote_v1.cuts [] Try.f110 (k + 1) [.v (.agg [(.sl 44 a0_0z a0_0)]), .v (.sl 33 a1z a1), .v (.int .i64 a2), .v (.fn 121 [(.ptr [(.sl 44 a3_0_0z a3_0_0)]), (.ptr [(.sl 33 a3_1_0z a3_1_0)]), (.ptr [(.int .i64 a3_2_0)])])] = (impl_hasVote_v1.f (k + 1) a0_0z a0_0 a1z a1 a2 a3_0_0z a3_0_0 a3_1_0z a3_1_0 a3_2_0).map impl_hasVote_v1.enc := by
  refine (impl_hasVote_v1.s k a0_0z a0_0 a1z a1 a2 a3_0_0z a3_0_0 a3_1_0z a3_1_0 a3_2_0).trans (Eq.trans ?_ (impl_hasVote_v1.b_nat impl_hasVote_v1.enc some k a0_0z a0_0 a1z a1 a2 a3_0_0z a3_0_0 a3_1_0z a3_1_0 a3_2_0))
  simp only [Option.map_some]
theorem impl_hasVote_v1.sound (k : Nat) : SoundF Try.prog 110 (fun a => (impl_hasVote_v1.ans k a).val) := by
  refine sound_plain (fun args res h => ?_) (fun t n => rfl)
  unfold impl_hasVote_v1.ans at h
  dsimp only at h
  split at h
  · cases k with
    | zero => cases h
    | succ k =>
      unfold Ans.val at h
      rw [← impl_hasVote_v1.eq] at h
      exact answer_sound mixed Try.func110 _ _ _ (k + 1) (fun j _ => tab_sound (tab_cons (impl_Vote_v1.sound j) (tab_nil))) _ _ h
  · exact (Ans.no_val h).elim

/-! loop.example/g00790/impl.Twice$1 -/
def impl_Twice_1.b {R : Type} (ret : Bool → Option R) (k : Nat) (a0 : Int) (a1_0z : Bool) (a1_0 : List T) (a2_0z : Bool) (a2_0 : List T) : Option R :=
  (impl_hasVote_v1.f k a1_0z a1_0 a2_0z a2_0 a0 a1_0z a1_0 a2_0z a2_0 a0).bind fun t0 => ret t0
def impl_Twice_1.f : Nat → Int → Bool → (List T) → Bool → (List T) → Option Bool
  | 0, _, _, _, _, _ => none
  | k + 1, a0, a1_0z, a1_0, a2_0z, a2_0 => impl_Twice_1.b some k a0 a1_0z a1_0 a2_0z a2_0
def impl_Twice_1.enc (r : Bool) : Res := ⟨[.vals false [((.bool r), true)]], []⟩
def impl_Twice_1.ans (k : Nat) : List Arg → Ans
  | [.v (.int .i64 a0), .v (.ptr [(.sl 44 a1_0z a1_0)]), .v (.ptr [(.sl 33 a2_0z a2_0)])] => ⟨impl_Twice_1.f k a0 a1_0z a1_0 a2_0z a2_0, impl_Twice_1.enc⟩
  | _ => Ans.no
def impl_Twice_1.Cs (k : Nat) : CallSem := tab [(110, impl_hasVote_v1.ans k)]
def impl_Twice_1.cuts : List (Nat × Keep) := []
theorem impl_Twice_1.s (k : Nat) (a0 : Int) (a1_0z : Bool) (a1_0 : List T) (a2_0z : Bool) (a2_0 : List T) : answer Try.prog impl_Twice_1.Cs 100000 impl_Twice_1.cuts [] Try.f120 (k + 1) [.v (.int .i64 a0), .v (.ptr [(.sl 44 a1_0z a1_0)]), .v (.ptr [(.sl 33 a2_0z a2_0)])] = impl_Twice_1.b (fun r => some (impl_Twice_1.enc r)) k a0 a1_0z a1_0 a2_0z a2_0 := by kernel_rfl
theorem impl_Twice_1.b_nat {R R' : Type} (e : R → R') (ret : Bool → Option R) (k : Nat) (a0 : Int) (a1_0z : Bool) (a1_0 : List T) (a2_0z : Bool) (a2_0 : List T) : impl_Twice_1.b (fun r => (ret r).map e) k a0 a1_0z a1_0 a2_0z a2_0 = (impl_Twice_1.b ret k a0 a1_0z a1_0 a2_0z a2_0).map e := by
  unfold impl_Twice_1.b
  repeat' first | with_reducible refine nat_cond ?_ ?_ | with_reducible refine nat_bind fun _ => ?_ | rfl
theorem impl_Twice_1.eq (k : Nat) (a0 : Int) (a1_0z : Bool) (a1_0 : List T) (a2_0z : Bool) (a2_0 : List T) : answer Try.prog impl_Twice_1.Cs 100000 impl_Twice_1.cuts [] Try.f120 (k + 1) [.v (.int .i64 a0), .v (.ptr [(.sl 44 a1_0z a1_0)]), .v (.ptr [(.sl 33 a2_0z a2_0)])] = (impl_Twice_1.f (k + 1) a0 a1_0z a1_0 a2_0z a2_0).map impl_Twice_1.enc := by
  refine (impl_Twice_1.s k a0 a1_0z a1_0 a2_0z a2_0).trans (Eq.trans ?_ (impl_Twice_1.b_nat impl_Twice_1.enc some k a0 a1_0z a1_0 a2_0z a2_0))
  simp only [Option.map_some]
theorem impl_Twice_1.sound (k : Nat) : SoundF Try.prog 120 (fun a => (impl_Twice_1.ans k a).val) := by
  refine sound_plain (fun args res h => ?_) (fun t n => rfl)
  unfold impl_Twice_1.ans at h
  dsimp only at h
  split at h
  · cases k with
    | zero => cases h
    | succ k =>
      unfold Ans.val at h
      rw [← impl_Twice_1.eq] at h
      exact answer_sound mixed Try.func120 _ _ _ (k + 1) (fun j _ => tab_sound (tab_cons (impl_hasVote_v1.sound j) (tab_nil))) _ _ h
  · exact (Ans.no_val h).elim

/-! loop.example/g00790/impl.whoOf -/
def impl_whoOf_v1.b {R : Type} (ret : Bool × List Int → Option R) (j0 : Bool → (List T) → Bool → (List T) → (List Int) → Int → Int → Bool → (List T) → Option R) (k : Nat) (a0_0z : Bool) (a0_0 : List T) (a1_0_0z : Bool) (a1_0_0 : List T) (a1_1_0z : Bool) (a1_1_0 : List T) : Option R :=
  (impl_TableOk.f k a0_0z a0_0).bind fun t0 => cond (!t0) (ret (true, ([] : List Int))) (j0 a1_0_0z a1_0_0 a1_1_0z a1_1_0 ([] : List Int) ((a0_0).length : Int) 0 a0_0z a0_0)
def impl_whoOf_v1.l0b {R : Type} (ret : Bool × List Int → Option R) (j0 : Bool → (List T) → Bool → (List T) → (List Int) → Int → Int → Bool → (List T) → Option R) (k : Nat) (x1_0_0z : Bool) (x1_0_0 : List T) (x1_1_0z : Bool) (x1_1_0 : List T) (x5 : List Int) (x15 : Int) (x16 : Int) (c2_0z : Bool) (c2_0 : List T) : Option R :=
  cond (decide (x16 < x15)) ((impl_Twice_1.f k x16 x1_0_0z x1_0_0 x1_1_0z x1_1_0).bind fun t0 => cond t0 (cond (decide ((x5).length + 1 < 17592186044416)) (j0 x1_0_0z x1_0_0 x1_1_0z x1_1_0 (x5 ++ ([x16] : List Int)) x15 (RowKit.wrap64 (x16 + 1)) c2_0z c2_0) (none)) (j0 x1_0_0z x1_0_0 x1_1_0z x1_1_0 x5 x15 (RowKit.wrap64 (x16 + 1)) c2_0z c2_0)) ((impl_BitsOf.f k false x5 ((c2_0).length : Int)).bind fun t0 => ret (t0.1, t0.2.1))
def impl_whoOf_v1.l0 : Nat → Bool → (List T) → Bool → (List T) → (List Int) → Int → Int → Bool → (List T) → Option (Bool × List Int)
  | 0, _, _, _, _, _, _, _, _, _ => none
  | k + 1, x1_0_0z, x1_0_0, x1_1_0z, x1_1_0, x5, x15, x16, c2_0z, c2_0 => impl_whoOf_v1.l0b some (impl_whoOf_v1.l0 k) k x1_0_0z x1_0_0 x1_1_0z x1_1_0 x5 x15 x16 c2_0z c2_0
def impl_whoOf_v1.f : Nat → Bool → (List T) → Bool → (List T) → Bool → (List T) → Option (Bool × List Int)
  | 0, _, _, _, _, _, _ => none
  | k + 1, a0_0z, a0_0, a1_0_0z, a1_0_0, a1_1_0z, a1_1_0 => impl_whoOf_v1.b some (impl_whoOf_v1.l0 k) k a0_0z a0_0 a1_0_0z a1_0_0 a1_1_0z a1_1_0
def impl_whoOf_v1.enc (r : Bool × List Int) : Res := ⟨[.vals false [((.nums 5 .u8 r.1 r.2), true)]], []⟩
def impl_whoOf_v1.ans (k : Nat) : List Arg → Ans
  | [.v (.agg [(.sl 44 a0_0z a0_0)]), .v (.fn 120 [(.ptr [(.sl 44 a1_0_0z a1_0_0)]), (.ptr [(.sl 33 a1_1_0z a1_1_0)])])] => ⟨impl_whoOf_v1.f k a0_0z a0_0 a1_0_0z a1_0_0 a1_1_0z a1_1_0, impl_whoOf_v1.enc⟩
  | _ => Ans.no
def impl_whoOf_v1.Cs (k : Nat) : CallSem := tab [(78, impl_TableOk.ans k), (94, impl_BitsOf.ans k), (120, impl_Twice_1.ans k)]
def impl_whoOf_v1.cuts : List (Nat × Keep) := [(122, ⟨[(1, some []), (2, some []), (5, none), (15, some []), (16, some [])], [(2, [some []])]⟩)]
noncomputable def impl_whoOf_v1.K0 : List Fr := framesAt [true, true, true, false, true, false] (bodyOf Try.f108 impl_whoOf_v1.cuts) []
def impl_whoOf_v1.N0 (x1_0_0z : Bool) (x1_0_0 : List T) (x1_1_0z : Bool) (x1_1_0 : List T) (x5 : List Int) (x15 : Int) (x16 : Int) (c2_0z : Bool) (c2_0 : List T) : St := stOf 36 36 2 [(1, .val ⟨(.fn 120 [(.ptr [(.sl 44 x1_0_0z x1_0_0)]), (.ptr [(.sl 33 x1_1_0z x1_1_0)])]), [], false, none⟩), (2, .bp 2 0), (5, .val ⟨(.nums 3 .i64 false x5), [.l 5 0], true, some (.l 5 0)⟩), (15, .val (V.s (.int .i64 x15))), (16, .val (V.s (.int .i64 x16)))] [(2, .cells [⟨(.sl 44 c2_0z c2_0), [], false, none⟩])]
theorem impl_whoOf_v1.s (k : Nat) (a0_0z : Bool) (a0_0 : List T) (a1_0_0z : Bool) (a1_0_0 : List T) (a1_1_0z : Bool) (a1_1_0 : List T) : answer Try.prog impl_whoOf_v1.Cs 100000 impl_whoOf_v1.cuts [] Try.f108 (k + 1) [.v (.agg [(.sl 44 a0_0z a0_0)]), .v (.fn 120 [(.ptr [(.sl 44 a1_0_0z a1_0_0)]), (.ptr [(.sl 33 a1_1_0z a1_1_0)])])] = impl_whoOf_v1.b (fun r => some (impl_whoOf_v1.enc r)) (fun x1_0_0z x1_0_0 x1_1_0z x1_1_0 x5 x15 x16 c2_0z c2_0 => rounds Try.prog impl_whoOf_v1.Cs (finish Try.prog [] Try.f108 [.v (.agg [(.sl 44 a0_0z a0_0)]), .v (.fn 120 [(.ptr [(.sl 44 a1_0_0z a1_0_0)]), (.ptr [(.sl 33 a1_1_0z a1_1_0)])])]) 100000 k impl_whoOf_v1.K0 (impl_whoOf_v1.N0 x1_0_0z x1_0_0 x1_1_0z x1_1_0 x5 x15 x16 c2_0z c2_0)) k a0_0z a0_0 a1_0_0z a1_0_0 a1_1_0z a1_1_0 := by kernel_rfl
theorem impl_whoOf_v1.s0 (k : Nat) (G : List Fr → St → Option Res) (a0_0z : Bool) (a0_0 : List T) (a1_0_0z : Bool) (a1_0_0 : List T) (a1_1_0z : Bool) (a1_1_0 : List T) (yx1_0_0z : Bool) (yx1_0_0 : List T) (yx1_1_0z : Bool) (yx1_1_0 : List T) (yx5 : List Int) (yx15 : Int) (yx16 : Int) (yc2_0z : Bool) (yc2_0 : List T) : resume Try.prog (impl_whoOf_v1.Cs k) G (finish Try.prog [] Try.f108 [.v (.agg [(.sl 44 a0_0z a0_0)]), .v (.fn 120 [(.ptr [(.sl 44 a1_0_0z a1_0_0)]), (.ptr [(.sl 33 a1_1_0z a1_1_0)])])]) 100000 impl_whoOf_v1.K0 (impl_whoOf_v1.N0 yx1_0_0z yx1_0_0 yx1_1_0z yx1_1_0 yx5 yx15 yx16 yc2_0z yc2_0) = impl_whoOf_v1.l0b (fun r => some (impl_whoOf_v1.enc r)) (fun x1_0_0z x1_0_0 x1_1_0z x1_1_0 x5 x15 x16 c2_0z c2_0 => G impl_whoOf_v1.K0 (impl_whoOf_v1.N0 x1_0_0z x1_0_0 x1_1_0z x1_1_0 x5 x15 x16 c2_0z c2_0)) k yx1_0_0z yx1_0_0 yx1_1_0z yx1_1_0 yx5 yx15 yx16 yc2_0z yc2_0 := by kernel_rfl
theorem impl_whoOf_v1.b_nat {R R' : Type} (e : R → R') (ret : Bool × List Int → Option R) (j0 : Bool → (List T) → Bool → (List T) → (List Int) → Int → Int → Bool → (List T) → Option R) (k : Nat) (a0_0z : Bool) (a0_0 : List T) (a1_0_0z : Bool) (a1_0_0 : List T) (a1_1_0z : Bool) (a1_1_0 : List T) : impl_whoOf_v1.b (fun r => (ret r).map e) (fun x1_0_0z x1_0_0 x1_1_0z x1_1_0 x5 x15 x16 c2_0z c2_0 => (j0 x1_0_0z x1_0_0 x1_1_0z x1_1_0 x5 x15 x16 c2_0z c2_0).map e) k a0_0z a0_0 a1_0_0z a1_0_0 a1_1_0z a1_1_0 = (impl_whoOf_v1.b ret j0 k a0_0z a0_0 a1_0_0z a1_0_0 a1_1_0z a1_1_0).map e := by
  unfold impl_whoOf_v1.b
  repeat' first | with_reducible refine nat_cond ?_ ?_ | with_reducible refine nat_bind fun _ => ?_ | rfl
theorem impl_whoOf_v1.l0b_nat {R R' : Type} (e : R → R') (ret : Bool × List Int → Option R) (j0 : Bool → (List T) → Bool → (List T) → (List Int) → Int → Int → Bool → (List T) → Option R) (k : Nat) (x1_0_0z : Bool) (x1_0_0 : List T) (x1_1_0z : Bool) (x1_1_0 : List T) (x5 : List Int) (x15 : Int) (x16 : Int) (c2_0z : Bool) (c2_0 : List T) : impl_whoOf_v1.l0b (fun r => (ret r).map e) (fun x1_0_0z x1_0_0 x1_1_0z x1_1_0 x5 x15 x16 c2_0z c2_0 => (j0 x1_0_0z x1_0_0 x1_1_0z x1_1_0 x5 x15 x16 c2_0z c2_0).map e) k x1_0_0z x1_0_0 x1_1_0z x1_1_0 x5 x15 x16 c2_0z c2_0 = (impl_whoOf_v1.l0b ret j0 k x1_0_0z x1_0_0 x1_1_0z x1_1_0 x5 x15 x16 c2_0z c2_0).map e := by
  unfold impl_whoOf_v1.l0b
  repeat' first | with_reducible refine nat_cond ?_ ?_ | with_reducible refine nat_bind fun _ => ?_ | rfl
theorem impl_whoOf_v1.rounds_eq (a0_0z : Bool) (a0_0 : List T) (a1_0_0z : Bool) (a1_0_0 : List T) (a1_1_0z : Bool) (a1_1_0 : List T) : ∀ k, (∀ (x1_0_0z : Bool) (x1_0_0 : List T) (x1_1_0z : Bool) (x1_1_0 : List T) (x5 : List Int) (x15 : Int) (x16 : Int) (c2_0z : Bool) (c2_0 : List T), rounds Try.prog impl_whoOf_v1.Cs (finish Try.prog [] Try.f108 [.v (.agg [(.sl 44 a0_0z a0_0)]), .v (.fn 120 [(.ptr [(.sl 44 a1_0_0z a1_0_0)]), (.ptr [(.sl 33 a1_1_0z a1_1_0)])])]) 100000 k impl_whoOf_v1.K0 (impl_whoOf_v1.N0 x1_0_0z x1_0_0 x1_1_0z x1_1_0 x5 x15 x16 c2_0z c2_0) = (impl_whoOf_v1.l0 k x1_0_0z x1_0_0 x1_1_0z x1_1_0 x5 x15 x16 c2_0z c2_0).map impl_whoOf_v1.enc)
  | 0 => fun _ _ _ _ _ _ _ _ _ => rfl
  | k + 1 => by
    have ih := impl_whoOf_v1.rounds_eq a0_0z a0_0 a1_0_0z a1_0_0 a1_1_0z a1_1_0 k
    refine fun _ _ _ _ _ _ _ _ _ => ?_
    · refine (impl_whoOf_v1.s0 k _ a0_0z a0_0 a1_0_0z a1_0_0 a1_1_0z a1_1_0 _ _ _ _ _ _ _ _ _).trans (Eq.trans ?_ (impl_whoOf_v1.l0b_nat impl_whoOf_v1.enc some (impl_whoOf_v1.l0 k) k _ _ _ _ _ _ _ _ _))
      simp only [ih, Option.map_some]
theorem impl_whoOf_v1.eq (k : Nat) (a0_0z : Bool) (a0_0 : List T) (a1_0_0z : Bool) (a1_0_0 : List T) (a1_1_0z : Bool) (a1_1_0 : List T) : answer Try.prog impl_whoOf_v1.Cs 100000 impl_whoOf_v1.cuts [] Try.f108 (k + 1) [.v (.agg [(.sl 44 a0_0z a0_0)]), .v (.fn 120 [(.ptr [(.sl 44 a1_0_0z a1_0_0)]), (.ptr [(.sl 33 a1_1_0z a1_1_0)])])] = (impl_whoOf_v1.f (k + 1) a0_0z a0_0 a1_0_0z a1_0_0 a1_1_0z a1_1_0).map impl_whoOf_v1.enc := by
  have ih := impl_whoOf_v1.rounds_eq a0_0z a0_0 a1_0_0z a1_0_0 a1_1_0z a1_1_0 k
  refine (impl_whoOf_v1.s k a0_0z a0_0 a1_0_0z a1_0_0 a1_1_0z a1_1_0).trans (Eq.trans ?_ (impl_whoOf_v1.b_nat impl_whoOf_v1.enc some (impl_whoOf_v1.l0 k) k a0_0z a0_0 a1_0_0z a1_0_0 a1_1_0z a1_1_0))
  simp only [ih, Option.map_some]
theorem impl_whoOf_v1.sound (k : Nat) : SoundF Try.prog 108 (fun a => (impl_whoOf_v1.ans k a).val) := by
  refine sound_plain (fun args res h => ?_) (fun t n => rfl)
  unfold impl_whoOf_v1.ans at h
  dsimp only at h
  split at h
  · cases k with
    | zero => cases h
    | succ k =>
      unfold Ans.val at h
      rw [← impl_whoOf_v1.eq] at h
      exact answer_sound mixed Try.func108 _ _ _ (k + 1) (fun j _ => tab_sound (tab_cons (impl_TableOk.sound j) (tab_cons (impl_BitsOf.sound j) (tab_cons (impl_Twice_1.sound j) (tab_nil))))) _ _ h
  · exact (Ans.no_val h).elim

/-! loop.example/g00790/impl.Twice -/
def impl_Twice.b {R : Type} (ret : Bool × List Int → Option R) (k : Nat) (a0_0z : Bool) (a0_0 : List T) (a1z : Bool) (a1 : List T) : Option R :=
  (impl_whoOf_v1.f k a0_0z a0_0 a0_0z a0_0 a1z a1).bind fun t0 => ret (t0.1, t0.2)
def impl_Twice.f : Nat → Bool → (List T) → Bool → (List T) → Option (Bool × List Int)
  | 0, _, _, _, _ => none
  | k + 1, a0_0z, a0_0, a1z, a1 => impl_Twice.b some k a0_0z a0_0 a1z a1
def impl_Twice.enc (r : Bool × List Int) : Res := ⟨[.vals false [((.nums 5 .u8 r.1 r.2), true)]], []⟩
def impl_Twice.ans (k : Nat) : List Arg → Ans
  | [.v (.agg [(.sl 44 a0_0z a0_0)]), .v (.sl 33 a1z a1)] => ⟨impl_Twice.f k a0_0z a0_0 a1z a1, impl_Twice.enc⟩
  | _ => Ans.no
def impl_Twice.Cs (k : Nat) : CallSem := tab [(108, impl_whoOf_v1.ans k)]
def impl_Twice.cuts : List (Nat × Keep) := []
theorem impl_Twice.s (k : Nat) (a0_0z : Bool) (a0_0 : List T) (a1z : Bool) (a1 : List T) : answer Try.prog impl_Twice.Cs 100000 impl_Twice.cuts [] Try.f47 (k + 1) [.v (.agg [(.sl 44 a0_0z a0_0)]), .v (.sl 33 a1z a1)] = impl_Twice.b (fun r => some (impl_Twice.enc r)) k a0_0z a0_0 a1z a1 := by kernel_rfl
theorem impl_Twice.b_nat {R R' : Type} (e : R → R') (ret : Bool × List Int → Option R) (k : Nat) (a0_0z : Bool) (a0_0 : List T) (a1z : Bool) (a1 : List T) : impl_Twice.b (fun r => (ret r).map e) k a0_0z a0_0 a1z a1 = (impl_Twice.b ret k a0_0z a0_0 a1z a1).map e := by
  unfold impl_Twice.b
  repeat' first | with_reducible refine nat_cond ?_ ?_ | with_reducible refine nat_bind fun _ => ?_ | rfl
theorem impl_Twice.eq (k : Nat) (a0_0z : Bool) (a0_0 : List T) (a1z : Bool) (a1 : List T) : answer Try.prog impl_Twice.Cs 100000 impl_Twice.cuts [] Try.f47 (k + 1) [.v (.agg [(.sl 44 a0_0z a0_0)]), .v (.sl 33 a1z a1)] = (impl_Twice.f (k + 1) a0_0z a0_0 a1z a1).map impl_Twice.enc := by
  refine (impl_Twice.s k a0_0z a0_0 a1z a1).trans (Eq.trans ?_ (impl_Twice.b_nat impl_Twice.enc some k a0_0z a0_0 a1z a1))
  simp only [Option.map_some]
theorem impl_Twice.sound (k : Nat) : SoundF Try.prog 47 (fun a => (impl_Twice.ans k a).val) := by
  refine sound_plain (fun args res h => ?_) (fun t n => rfl)
  unfold impl_Twice.ans at h
  dsimp only at h
  split at h
  · cases k with
    | zero => cases h
    | succ k =>
      unfold Ans.val at h
      rw [← impl_Twice.eq] at h
      exact answer_sound mixed Try.func47 _ _ _ (k + 1) (fun j _ => tab_sound (tab_cons (impl_whoOf_v1.sound j) (tab_nil))) _ _ h
  · exact (Ans.no_val h).elim

/-! loop.example/g00790/impl.BitsAnd$1 -/
def impl_BitsAnd_1.b {R : Type} (ret : Int → Option R) (k : Nat) (a0 : Int) (a1 : Int) : Option R :=
  ret (Go.bits .and .u8 a0 a1)
def impl_BitsAnd_1.f : Nat → Int → Int → Option Int
  | 0, _, _ => none
  | k + 1, a0, a1 => impl_BitsAnd_1.b some k a0 a1
def impl_BitsAnd_1.enc (r : Int) : Res := ⟨[.vals false [((.int .u8 r), true)]], []⟩
def impl_BitsAnd_1.ans (k : Nat) : List Arg → Ans
  | [.v (.int .u8 a0), .v (.int .u8 a1)] => ⟨impl_BitsAnd_1.f k a0 a1, impl_BitsAnd_1.enc⟩
  | _ => Ans.no
def impl_BitsAnd_1.Cs (k : Nat) : CallSem := tab []
def impl_BitsAnd_1.cuts : List (Nat × Keep) := []
theorem impl_BitsAnd_1.s (k : Nat) (a0 : Int) (a1 : Int) : answer Try.prog impl_BitsAnd_1.Cs 100000 impl_BitsAnd_1.cuts [] Try.f124 (k + 1) [.v (.int .u8 a0), .v (.int .u8 a1)] = impl_BitsAnd_1.b (fun r => some (impl_BitsAnd_1.enc r)) k a0 a1 := by kernel_rfl
theorem impl_BitsAnd_1.b_nat {R R' : Type} (e : R → R') (ret : Int → Option R) (k : Nat) (a0 : Int) (a1 : Int) : impl_BitsAnd_1.b (fun r => (ret r).map e) k a0 a1 = (impl_BitsAnd_1.b ret k a0 a1).map e := by
  unfold impl_BitsAnd_1.b
  repeat' first | with_reducible refine nat_cond ?_ ?_ | with_reducible refine nat_bind fun _ => ?_ | rfl
theorem impl_BitsAnd_1.eq (k : Nat) (a0 : Int) (a1 : Int) : answer Try.prog impl_BitsAnd_1.Cs 100000 impl_BitsAnd_1.cuts [] Try.f124 (k + 1) [.v (.int .u8 a0), .v (.int .u8 a1)] = (impl_BitsAnd_1.f (k + 1) a0 a1).map impl_BitsAnd_1.enc := by
  refine (impl_BitsAnd_1.s k a0 a1).trans (Eq.trans ?_ (impl_BitsAnd_1.b_nat impl_BitsAnd_1.enc some k a0 a1))
  simp only [Option.map_some]
theorem impl_BitsAnd_1.sound (k : Nat) : SoundF Try.prog 124 (fun a => (impl_BitsAnd_1.ans k a).val) := by
  refine sound_plain (fun args res h => ?_) (fun t n => rfl)
  unfold impl_BitsAnd_1.ans at h
  dsimp only at h
  split at h
  · cases k with
    | zero => cases h
    | succ k =>
      unfold Ans.val at h
      rw [← impl_BitsAnd_1.eq] at h
      exact answer_sound mixed Try.func124 _ _ _ (k + 1) (fun j _ => tab_sound (tab_nil)) _ _ h
  · exact (Ans.no_val h).elim

/-! loop.example/g00790/impl.each -/
def impl_each.b {R : Type} (ret : Bool × List Int → Option R) (j0 : Bool → (List Int) → Bool → (List Int) → (List Int) → Int → Int → Option R) (k : Nat) (a0z : Bool) (a0 : List Int) (a1z : Bool) (a1 : List Int) : Option R :=
  cond (!(decide (((a0).length : Int) = ((a1).length : Int)))) (ret (true, ([] : List Int))) (j0 a0z a0 a1z a1 ([] : List Int) ((a0).length : Int) 0)
def impl_each.l0b {R : Type} (ret : Bool × List Int → Option R) (j0 : Bool → (List Int) → Bool → (List Int) → (List Int) → Int → Int → Option R) (k : Nat) (x0z : Bool) (x0 : List Int) (x1z : Bool) (x1 : List Int) (x7 : List Int) (x16 : Int) (x17 : Int) : Option R :=
  cond (decide (x17 < x16)) (cond (decide ((0 : Int) ≤ x17)) (cond (decide (x17 < ((x0).length : Int))) (cond (decide ((0 : Int) ≤ x17)) (cond (decide (x17 < ((x1).length : Int))) ((impl_BitsAnd_1.f k (rdI x0 x17) (rdI x1 x17)).bind fun t0 => cond (decide ((x7).length + 1 < 140737488355328)) (j0 x0z x0 x1z x1 (x7 ++ ([t0] : List Int)) x16 (RowKit.wrap64 (x17 + 1))) (none)) (none)) (none)) (none)) (none)) (ret (false, x7))
def impl_each.l0 : Nat → Bool → (List Int) → Bool → (List Int) → (List Int) → Int → Int → Option (Bool × List Int)
  | 0, _, _, _, _, _, _, _ => none
  | k + 1, x0z, x0, x1z, x1, x7, x16, x17 => impl_each.l0b some (impl_each.l0 k) k x0z x0 x1z x1 x7 x16 x17
def impl_each.f : Nat → Bool → (List Int) → Bool → (List Int) → Option (Bool × List Int)
  | 0, _, _, _, _ => none
  | k + 1, a0z, a0, a1z, a1 => impl_each.b some (impl_each.l0 k) k a0z a0 a1z a1
def impl_each.enc (r : Bool × List Int) : Res := ⟨[.vals false [((.nums 5 .u8 r.1 r.2), true)]], []⟩
def impl_each.ans (k : Nat) : List Arg → Ans
  | [.v (.nums 5 .u8 a0z a0), .v (.nums 5 .u8 a1z a1), .v (.fn 124 [])] => ⟨impl_each.f k a0z a0 a1z a1, impl_each.enc⟩
  | _ => Ans.no
def impl_each.Cs (k : Nat) : CallSem := tab [(124, impl_BitsAnd_1.ans k)]
def impl_each.cuts : List (Nat × Keep) := [(122, ⟨[(0, some []), (1, some []), (2, some []), (7, none), (16, some []), (17, some [])], []⟩)]
noncomputable def impl_each.K0 : List Fr := framesAt [true, true, true, false, true, false] (bodyOf Try.f123 impl_each.cuts) []
def impl_each.N0 (x0z : Bool) (x0 : List Int) (x1z : Bool) (x1 : List Int) (x7 : List Int) (x16 : Int) (x17 : Int) : St := stOf 35 35 3 [(0, .val ⟨(.nums 5 .u8 x0z x0), [], false, none⟩), (1, .val ⟨(.nums 5 .u8 x1z x1), [], false, none⟩), (2, .val ⟨(.fn 124 []), [], false, none⟩), (7, .val ⟨(.nums 5 .u8 false x7), [.l 7 0], true, some (.l 7 0)⟩), (16, .val (V.s (.int .i64 x16))), (17, .val (V.s (.int .i64 x17)))] []
theorem impl_each.s (k : Nat) (a0z : Bool) (a0 : List Int) (a1z : Bool) (a1 : List Int) : answer Try.prog impl_each.Cs 100000 impl_each.cuts [] Try.f123 (k + 1) [.v (.nums 5 .u8 a0z a0), .v (.nums 5 .u8 a1z a1), .v (.fn 124 [])] = impl_each.b (fun r => some (impl_each.enc r)) (fun x0z x0 x1z x1 x7 x16 x17 => rounds Try.prog impl_each.Cs (finish Try.prog [] Try.f123 [.v (.nums 5 .u8 a0z a0), .v (.nums 5 .u8 a1z a1), .v (.fn 124 [])]) 100000 k impl_each.K0 (impl_each.N0 x0z x0 x1z x1 x7 x16 x17)) k a0z a0 a1z a1 := by kernel_rfl
theorem impl_each.s0 (k : Nat) (G : List Fr → St → Option Res) (a0z : Bool) (a0 : List Int) (a1z : Bool) (a1 : List Int) (yx0z : Bool) (yx0 : List Int) (yx1z : Bool) (yx1 : List Int) (yx7 : List Int) (yx16 : Int) (yx17 : Int) : resume Try.prog (impl_each.Cs k) G (finish Try.prog [] Try.f123 [.v (.nums 5 .u8 a0z a0), .v (.nums 5 .u8 a1z a1), .v (.fn 124 [])]) 100000 impl_each.K0 (impl_each.N0 yx0z yx0 yx1z yx1 yx7 yx16 yx17) = impl_each.l0b (fun r => some (impl_each.enc r)) (fun x0z x0 x1z x1 x7 x16 x17 => G impl_each.K0 (impl_each.N0 x0z x0 x1z x1 x7 x16 x17)) k yx0z yx0 yx1z yx1 yx7 yx16 yx17 := by kernel_rfl
theorem impl_each.b_nat {R R' : Type} (e : R → R') (ret : Bool × List Int → Option R) (j0 : Bool → (List Int) → Bool → (List Int) → (List Int) → Int → Int → Option R) (k : Nat) (a0z : Bool) (a0 : List Int) (a1z : Bool) (a1 : List Int) : impl_each.b (fun r => (ret r).map e) (fun x0z x0 x1z x1 x7 x16 x17 => (j0 x0z x0 x1z x1 x7 x16 x17).map e) k a0z a0 a1z a1 = (impl_each.b ret j0 k a0z a0 a1z a1).map e := by
  unfold impl_each.b
  repeat' first | with_reducible refine nat_cond ?_ ?_ | with_reducible refine nat_bind fun _ => ?_ | rfl
theorem impl_each.l0b_nat {R R' : Type} (e : R → R') (ret : Bool × List Int → Option R) (j0 : Bool → (List Int) → Bool → (List Int) → (List Int) → Int → Int → Option R) (k : Nat) (x0z : Bool) (x0 : List Int) (x1z : Bool) (x1 : List Int) (x7 : List Int) (x16 : Int) (x17 : Int) : impl_each.l0b (fun r => (ret r).map e) (fun x0z x0 x1z x1 x7 x16 x17 => (j0 x0z x0 x1z x1 x7 x16 x17).map e) k x0z x0 x1z x1 x7 x16 x17 = (impl_each.l0b ret j0 k x0z x0 x1z x1 x7 x16 x17).map e := by
  unfold impl_each.l0b
  repeat' first | with_reducible refine nat_cond ?_ ?_ | with_reducible refine nat_bind fun _ => ?_ | rfl
theorem impl_each.rounds_eq (a0z : Bool) (a0 : List Int) (a1z : Bool) (a1 : List Int) : ∀ k, (∀ (x0z : Bool) (x0 : List Int) (x1z : Bool) (x1 : List Int) (x7 : List Int) (x16 : Int) (x17 : Int), rounds Try.prog impl_each.Cs (finish Try.prog [] Try.f123 [.v (.nums 5 .u8 a0z a0), .v (.nums 5 .u8 a1z a1), .v (.fn 124 [])]) 100000 k impl_each.K0 (impl_each.N0 x0z x0 x1z x1 x7 x16 x17) = (impl_each.l0 k x0z x0 x1z x1 x7 x16 x17).map impl_each.enc)
  | 0 => fun _ _ _ _ _ _ _ => rfl
  | k + 1 => by
    have ih := impl_each.rounds_eq a0z a0 a1z a1 k
    refine fun _ _ _ _ _ _ _ => ?_
    · refine (impl_each.s0 k _ a0z a0 a1z a1 _ _ _ _ _ _ _).trans (Eq.trans ?_ (impl_each.l0b_nat impl_each.enc some (impl_each.l0 k) k _ _ _ _ _ _ _))
      simp only [ih, Option.map_some]
theorem impl_each.eq (k : Nat) (a0z : Bool) (a0 : List Int) (a1z : Bool) (a1 : List Int) : answer Try.prog impl_each.Cs 100000 impl_each.cuts [] Try.f123 (k + 1) [.v (.nums 5 .u8 a0z a0), .v (.nums 5 .u8 a1z a1), .v (.fn 124 [])] = (impl_each.f (k + 1) a0z a0 a1z a1).map impl_each.enc := by
  have ih := impl_each.rounds_eq a0z a0 a1z a1 k
  refine (impl_each.s k a0z a0 a1z a1).trans (Eq.trans ?_ (impl_each.b_nat impl_each.enc some (impl_each.l0 k) k a0z a0 a1z a1))
  simp only [ih, Option.map_some]
theorem impl_each.sound (k : Nat) : SoundF Try.prog 123 (fun a => (impl_each.ans k a).val) := by
  refine sound_plain (fun args res h => ?_) (fun t n => rfl)
  unfold impl_each.ans at h
  dsimp only at h
  split at h
  · cases k with
    | zero => cases h
    | succ k =>
      unfold Ans.val at h
      rw [← impl_each.eq] at h
      exact answer_sound mixed Try.func123 _ _ _ (k + 1) (fun j _ => tab_sound (tab_cons (impl_BitsAnd_1.sound j) (tab_nil))) _ _ h
  · exact (Ans.no_val h).elim

/-! loop.example/g00790/impl.BitsAnd -/
def impl_BitsAnd.b {R : Type} (ret : Bool × List Int → Option R) (k : Nat) (a0z : Bool) (a0 : List Int) (a1z : Bool) (a1 : List Int) : Option R :=
  (impl_each.f k a0z a0 a1z a1).bind fun t0 => ret (t0.1, t0.2)
def impl_BitsAnd.f : Nat → Bool → (List Int) → Bool → (List Int) → Option (Bool × List Int)
  | 0, _, _, _, _ => none
  | k + 1, a0z, a0, a1z, a1 => impl_BitsAnd.b some k a0z a0 a1z a1
def impl_BitsAnd.enc (r : Bool × List Int) : Res := ⟨[.vals false [((.nums 5 .u8 r.1 r.2), true)]], []⟩
def impl_BitsAnd.ans (k : Nat) : List Arg → Ans
  | [.v (.nums 5 .u8 a0z a0), .v (.nums 5 .u8 a1z a1)] => ⟨impl_BitsAnd.f k a0z a0 a1z a1, impl_BitsAnd.enc⟩
  | _ => Ans.no
def impl_BitsAnd.Cs (k : Nat) : CallSem := tab [(123, impl_each.ans k)]
def impl_BitsAnd.cuts : List (Nat × Keep) := []
theorem impl_BitsAnd.s (k : Nat) (a0z : Bool) (a0 : List Int) (a1z : Bool) (a1 : List Int) : answer Try.prog impl_BitsAnd.Cs 100000 impl_BitsAnd.cuts [] Try.f48 (k + 1) [.v (.nums 5 .u8 a0z a0), .v (.nums 5 .u8 a1z a1)] = impl_BitsAnd.b (fun r => some (impl_BitsAnd.enc r)) k a0z a0 a1z a1 := by kernel_rfl
theorem impl_BitsAnd.b_nat {R R' : Type} (e : R → R') (ret : Bool × List Int → Option R) (k : Nat) (a0z : Bool) (a0 : List Int) (a1z : Bool) (a1 : List Int) : impl_BitsAnd.b (fun r => (ret r).map e) k a0z a0 a1z a1 = (impl_BitsAnd.b ret k a0z a0 a1z a1).map e := by
  unfold impl_BitsAnd.b
  repeat' first | with_reducible refine nat_cond ?_ ?_ | with_reducible refine nat_bind fun _ => ?_ | rfl
theorem impl_BitsAnd.eq (k : Nat) (a0z : Bool) (a0 : List Int) (a1z : Bool) (a1 : List Int) : answer Try.prog impl_BitsAnd.Cs 100000 impl_BitsAnd.cuts [] Try.f48 (k + 1) [.v (.nums 5 .u8 a0z a0), .v (.nums 5 .u8 a1z a1)] = (impl_BitsAnd.f (k + 1) a0z a0 a1z a1).map impl_BitsAnd.enc := by
  refine (impl_BitsAnd.s k a0z a0 a1z a1).trans (Eq.trans ?_ (impl_BitsAnd.b_nat impl_BitsAnd.enc some k a0z a0 a1z a1))
  simp only [Option.map_some]
theorem impl_BitsAnd.sound (k : Nat) : SoundF Try.prog 48 (fun a => (impl_BitsAnd.ans k a).val) := by
  refine sound_plain (fun args res h => ?_) (fun t n => rfl)
  unfold impl_BitsAnd.ans at h
  dsimp only at h
  split at h
  · cases k with
    | zero => cases h
    | succ k =>
      unfold Ans.val at h
      rw [← impl_BitsAnd.eq] at h
      exact answer_sound mixed Try.func48 _ _ _ (k + 1) (fun j _ => tab_sound (tab_cons (impl_each.sound j) (tab_nil))) _ _ h
  · exact (Ans.no_val h).elim

/-! loop.example/g00790/impl.WeightOf -/
def impl_WeightOf.b {R : Type} (ret : Int → Option R) (j0 : Int → Bool → (List Int) → Int → Int → Bool → (List T) → Option R) (k : Nat) (a0_0z : Bool) (a0_0 : List T) (a1z : Bool) (a1 : List Int) : Option R :=
  (impl_TableOk.f k a0_0z a0_0).bind fun t0 => cond (!t0) (ret 0) ((impl_BitsOk.f k a1z a1 ((a0_0).length : Int)).bind fun t1 => cond (!t1) (ret 0) ((impl_BitsList.f k a1z a1).bind fun t2 => j0 0 t2.1 t2.2 ((t2.2).length : Int) 0 a0_0z a0_0))
def impl_WeightOf.l0b {R : Type} (ret : Int → Option R) (j0 : Int → Bool → (List Int) → Int → Int → Bool → (List T) → Option R) (k : Nat) (x5 : Int) (x20z : Bool) (x20 : List Int) (x21 : Int) (x22 : Int) (c2_0z : Bool) (c2_0 : List T) : Option R :=
  cond (decide (x22 < x21)) (cond (decide ((0 : Int) ≤ x22)) (cond (decide (x22 < ((x20).length : Int))) (cond (decide ((0 : Int) ≤ (rdI x20 x22))) (cond (decide ((rdI x20 x22) < ((c2_0).length : Int))) (j0 (RowKit.wrap64 (x5 + ((((c2_0).getD ((rdI x20 x22)).toNat .bad).cells.getD 0 .bad)).toInt)) x20z x20 x21 (RowKit.wrap64 (x22 + 1)) c2_0z c2_0) (none)) (none)) (none)) (none)) (ret x5)
def impl_WeightOf.l0 : Nat → Int → Bool → (List Int) → Int → Int → Bool → (List T) → Option Int
  | 0, _, _, _, _, _, _, _ => none
  | k + 1, x5, x20z, x20, x21, x22, c2_0z, c2_0 => impl_WeightOf.l0b some (impl_WeightOf.l0 k) k x5 x20z x20 x21 x22 c2_0z c2_0
def impl_WeightOf.f : Nat → Bool → (List T) → Bool → (List Int) → Option Int
  | 0, _, _, _, _ => none
  | k + 1, a0_0z, a0_0, a1z, a1 => impl_WeightOf.b some (impl_WeightOf.l0 k) k a0_0z a0_0 a1z a1
def impl_WeightOf.enc (r : Int) : Res := ⟨[.vals false [((.int .i64 r), true)]], []⟩
def impl_WeightOf.ans (k : Nat) : List Arg → Ans
  | [.v (.agg [(.sl 44 a0_0z a0_0)]), .v (.nums 5 .u8 a1z a1)] => ⟨impl_WeightOf.f k a0_0z a0_0 a1z a1, impl_WeightOf.enc⟩
  | _ => Ans.no
def impl_WeightOf.Cs (k : Nat) : CallSem := tab [(78, impl_TableOk.ans k), (88, impl_BitsOk.ans k), (89, impl_BitsList.ans k)]
def impl_WeightOf.cuts : List (Nat × Keep) := [(122, ⟨[(2, some []), (5, some []), (20, none), (21, some []), (22, some [])], [(2, [some []])]⟩)]
noncomputable def impl_WeightOf.K0 : List Fr := framesAt [true, true, true, false, true, false] (bodyOf Try.f49 impl_WeightOf.cuts) []
def impl_WeightOf.N0 (x5 : Int) (x20z : Bool) (x20 : List Int) (x21 : Int) (x22 : Int) (c2_0z : Bool) (c2_0 : List T) : St := stOf 36 36 2 [(2, .bp 2 0), (5, .val (V.s (.int .i64 x5))), (20, .val ⟨(.nums 3 .i64 x20z x20), [.l 20 0], true, some (.l 20 0)⟩), (21, .val (V.s (.int .i64 x21))), (22, .val (V.s (.int .i64 x22)))] [(2, .cells [⟨(.sl 44 c2_0z c2_0), [], false, none⟩])]
theorem impl_WeightOf.s (k : Nat) (a0_0z : Bool) (a0_0 : List T) (a1z : Bool) (a1 : List Int) : answer Try.prog impl_WeightOf.Cs 100000 impl_WeightOf.cuts [] Try.f49 (k + 1) [.v (.agg [(.sl 44 a0_0z a0_0)]), .v (.nums 5 .u8 a1z a1)] = impl_WeightOf.b (fun r => some (impl_WeightOf.enc r)) (fun x5 x20z x20 x21 x22 c2_0z c2_0 => rounds Try.prog impl_WeightOf.Cs (finish Try.prog [] Try.f49 [.v (.agg [(.sl 44 a0_0z a0_0)]), .v (.nums 5 .u8 a1z a1)]) 100000 k impl_WeightOf.K0 (impl_WeightOf.N0 x5 x20z x20 x21 x22 c2_0z c2_0)) k a0_0z a0_0 a1z a1 := by kernel_rfl
theorem impl_WeightOf.s0 (k : Nat) (G : List Fr → St → Option Res) (a0_0z : Bool) (a0_0 : List T) (a1z : Bool) (a1 : List Int) (yx5 : Int) (yx20z : Bool) (yx20 : List Int) (yx21 : Int) (yx22 : Int) (yc2_0z : Bool) (yc2_0 : List T) : resume Try.prog (impl_WeightOf.Cs k) G (finish Try.prog [] Try.f49 [.v (.agg [(.sl 44 a0_0z a0_0)]), .v (.nums 5 .u8 a1z a1)]) 100000 impl_WeightOf.K0 (impl_WeightOf.N0 yx5 yx20z yx20 yx21 yx22 yc2_0z yc2_0) = impl_WeightOf.l0b (fun r => some (impl_WeightOf.enc r)) (fun x5 x20z x20 x21 x22 c2_0z c2_0 => G impl_WeightOf.K0 (impl_WeightOf.N0 x5 x20z x20 x21 x22 c2_0z c2_0)) k yx5 yx20z yx20 yx21 yx22 yc2_0z yc2_0 := by kernel_rfl
theorem impl_WeightOf.b_nat {R R' : Type} (e : R → R') (ret : Int → Option R) (j0 : Int → Bool → (List Int) → Int → Int → Bool → (List T) → Option R) (k : Nat) (a0_0z : Bool) (a0_0 : List T) (a1z : Bool) (a1 : List Int) : impl_WeightOf.b (fun r => (ret r).map e) (fun x5 x20z x20 x21 x22 c2_0z c2_0 => (j0 x5 x20z x20 x21 x22 c2_0z c2_0).map e) k a0_0z a0_0 a1z a1 = (impl_WeightOf.b ret j0 k a0_0z a0_0 a1z a1).map e := by
  unfold impl_WeightOf.b
  repeat' first | with_reducible refine nat_cond ?_ ?_ | with_reducible refine nat_bind fun _ => ?_ | rfl
theorem impl_WeightOf.l0b_nat {R R' : Type} (e : R → R') (ret : Int → Option R) (j0 : Int → Bool → (List Int) → Int → Int → Bool → (List T) → Option R) (k : Nat) (x5 : Int) (x20z : Bool) (x20 : List Int) (x21 : Int) (x22 : Int) (c2_0z : Bool) (c2_0 : List T) : impl_WeightOf.l0b (fun r => (ret r).map e) (fun x5 x20z x20 x21 x22 c2_0z c2_0 => (j0 x5 x20z x20 x21 x22 c2_0z c2_0).map e) k x5 x20z x20 x21 x22 c2_0z c2_0 = (impl_WeightOf.l0b ret j0 k x5 x20z x20 x21 x22 c2_0z c2_0).map e := by
  unfold impl_WeightOf.l0b
  repeat' first | with_reducible refine nat_cond ?_ ?_ | with_reducible refine nat_bind fun _ => ?_ | rfl
theorem impl_WeightOf.rounds_eq (a0_0z : Bool) (a0_0 : List T) (a1z : Bool) (a1 : List Int) : ∀ k, (∀ (x5 : Int) (x20z : Bool) (x20 : List Int) (x21 : Int) (x22 : Int) (c2_0z : Bool) (c2_0 : List T), rounds Try.prog impl_WeightOf.Cs (finish Try.prog [] Try.f49 [.v (.agg [(.sl 44 a0_0z a0_0)]), .v (.nums 5 .u8 a1z a1)]) 100000 k impl_WeightOf.K0 (impl_WeightOf.N0 x5 x20z x20 x21 x22 c2_0z c2_0) = (impl_WeightOf.l0 k x5 x20z x20 x21 x22 c2_0z c2_0).map impl_WeightOf.enc)
  | 0 => fun _ _ _ _ _ _ _ => rfl
  | k + 1 => by
    have ih := impl_WeightOf.rounds_eq a0_0z a0_0 a1z a1 k
    refine fun _ _ _ _ _ _ _ => ?_
    · refine (impl_WeightOf.s0 k _ a0_0z a0_0 a1z a1 _ _ _ _ _ _ _).trans (Eq.trans ?_ (impl_WeightOf.l0b_nat impl_WeightOf.enc some (impl_WeightOf.l0 k) k _ _ _ _ _ _ _))
      simp only [ih, Option.map_some]
theorem impl_WeightOf.eq (k : Nat) (a0_0z : Bool) (a0_0 : List T) (a1z : Bool) (a1 : List Int) : answer Try.prog impl_WeightOf.Cs 100000 impl_WeightOf.cuts [] Try.f49 (k + 1) [.v (.agg [(.sl 44 a0_0z a0_0)]), .v (.nums 5 .u8 a1z a1)] = (impl_WeightOf.f (k + 1) a0_0z a0_0 a1z a1).map impl_WeightOf.enc := by
  have ih := impl_WeightOf.rounds_eq a0_0z a0_0 a1z a1 k
  refine (impl_WeightOf.s k a0_0z a0_0 a1z a1).trans (Eq.trans ?_ (impl_WeightOf.b_nat impl_WeightOf.enc some (impl_WeightOf.l0 k) k a0_0z a0_0 a1z a1))
  simp only [ih, Option.map_some]
theorem impl_WeightOf.sound (k : Nat) : SoundF Try.prog 49 (fun a => (impl_WeightOf.ans k a).val) := by
  refine sound_plain (fun args res h => ?_) (fun t n => rfl)
  unfold impl_WeightOf.ans at h
  dsimp only at h
  split at h
  · cases k with
    | zero => cases h
    | succ k =>
      unfold Ans.val at h
      rw [← impl_WeightOf.eq] at h
      exact answer_sound mixed Try.func49 _ _ _ (k + 1) (fun j _ => tab_sound (tab_cons (impl_TableOk.sound j) (tab_cons (impl_BitsOk.sound j) (tab_cons (impl_BitsList.sound j) (tab_nil))))) _ _ h
  · exact (Ans.no_val h).elim

/-! loop.example/g00790/impl.TotalOf -/
def impl_TotalOf.b {R : Type} (ret : Int → Option R) (j0 : Int → Bool → (List T) → Int → Int → Bool → (List T) → Option R) (k : Nat) (a0_0z : Bool) (a0_0 : List T) : Option R :=
  j0 0 a0_0z a0_0 ((a0_0).length : Int) 0 a0_0z a0_0
def impl_TotalOf.l0b {R : Type} (ret : Int → Option R) (j0 : Int → Bool → (List T) → Int → Int → Bool → (List T) → Option R) (k : Nat) (x3 : Int) (x7z : Bool) (x7 : List T) (x8 : Int) (x9 : Int) (c1_0z : Bool) (c1_0 : List T) : Option R :=
  cond (decide (x9 < x8)) (cond (decide ((0 : Int) ≤ x9)) (cond (decide (x9 < ((x7).length : Int))) ((impl_TableOk.f k c1_0z c1_0).bind fun t0 => cond t0 (j0 (RowKit.wrap64 (x3 + ((((x7).getD (x9).toNat .bad).cells.getD 0 .bad)).toInt)) x7z x7 x8 (RowKit.wrap64 (x9 + 1)) c1_0z c1_0) (j0 x3 x7z x7 x8 (RowKit.wrap64 (x9 + 1)) c1_0z c1_0)) (none)) (none)) (ret x3)
def impl_TotalOf.l0 : Nat → Int → Bool → (List T) → Int → Int → Bool → (List T) → Option Int
  | 0, _, _, _, _, _, _, _ => none
  | k + 1, x3, x7z, x7, x8, x9, c1_0z, c1_0 => impl_TotalOf.l0b some (impl_TotalOf.l0 k) k x3 x7z x7 x8 x9 c1_0z c1_0
def impl_TotalOf.f : Nat → Bool → (List T) → Option Int
  | 0, _, _ => none
  | k + 1, a0_0z, a0_0 => impl_TotalOf.b some (impl_TotalOf.l0 k) k a0_0z a0_0
def impl_TotalOf.enc (r : Int) : Res := ⟨[.vals false [((.int .i64 r), true)]], []⟩
def impl_TotalOf.ans (k : Nat) : List Arg → Ans
  | [.v (.agg [(.sl 44 a0_0z a0_0)])] => ⟨impl_TotalOf.f k a0_0z a0_0, impl_TotalOf.enc⟩
  | _ => Ans.no
def impl_TotalOf.Cs (k : Nat) : CallSem := tab [(78, impl_TableOk.ans k)]
def impl_TotalOf.cuts : List (Nat × Keep) := [(58, ⟨[(1, some []), (3, some []), (7, some []), (8, some []), (9, some [])], [(1, [some []])]⟩)]
noncomputable def impl_TotalOf.K0 : List Fr := framesAt [true, true, false, true, false] (bodyOf Try.f50 impl_TotalOf.cuts) []
def impl_TotalOf.N0 (x3 : Int) (x7z : Bool) (x7 : List T) (x8 : Int) (x9 : Int) (c1_0z : Bool) (c1_0 : List T) : St := stOf 21 21 1 [(1, .bp 1 0), (3, .val (V.s (.int .i64 x3))), (7, .val ⟨(.sl 44 x7z x7), [], false, none⟩), (8, .val (V.s (.int .i64 x8))), (9, .val (V.s (.int .i64 x9)))] [(1, .cells [⟨(.sl 44 c1_0z c1_0), [], false, none⟩])]
theorem impl_TotalOf.s (k : Nat) (a0_0z : Bool) (a0_0 : List T) : answer Try.prog impl_TotalOf.Cs 100000 impl_TotalOf.cuts [] Try.f50 (k + 1) [.v (.agg [(.sl 44 a0_0z a0_0)])] = impl_TotalOf.b (fun r => some (impl_TotalOf.enc r)) (fun x3 x7z x7 x8 x9 c1_0z c1_0 => rounds Try.prog impl_TotalOf.Cs (finish Try.prog [] Try.f50 [.v (.agg [(.sl 44 a0_0z a0_0)])]) 100000 k impl_TotalOf.K0 (impl_TotalOf.N0 x3 x7z x7 x8 x9 c1_0z c1_0)) k a0_0z a0_0 := by kernel_rfl
theorem impl_TotalOf.s0 (k : Nat) (G : List Fr → St → Option Res) (a0_0z : Bool) (a0_0 : List T) (yx3 : Int) (yx7z : Bool) (yx7 : List T) (yx8 : Int) (yx9 : Int) (yc1_0z : Bool) (yc1_0 : List T) : resume Try.prog (impl_TotalOf.Cs k) G (finish Try.prog [] Try.f50 [.v (.agg [(.sl 44 a0_0z a0_0)])]) 100000 impl_TotalOf.K0 (impl_TotalOf.N0 yx3 yx7z yx7 yx8 yx9 yc1_0z yc1_0) = impl_TotalOf.l0b (fun r => some (impl_TotalOf.enc r)) (fun x3 x7z x7 x8 x9 c1_0z c1_0 => G impl_TotalOf.K0 (impl_TotalOf.N0 x3 x7z x7 x8 x9 c1_0z c1_0)) k yx3 yx7z yx7 yx8 yx9 yc1_0z yc1_0 := by kernel_rfl
theorem impl_TotalOf.b_nat {R R' : Type} (e : R → R') (ret : Int → Option R) (j0 : Int → Bool → (List T) → Int → Int → Bool → (List T) → Option R) (k : Nat) (a0_0z : Bool) (a0_0 : List T) : impl_TotalOf.b (fun r => (ret r).map e) (fun x3 x7z x7 x8 x9 c1_0z c1_0 => (j0 x3 x7z x7 x8 x9 c1_0z c1_0).map e) k a0_0z a0_0 = (impl_TotalOf.b ret j0 k a0_0z a0_0).map e := by
  unfold impl_TotalOf.b
  repeat' first | with_reducible refine nat_cond ?_ ?_ | with_reducible refine nat_bind fun _ => ?_ | rfl
theorem impl_TotalOf.l0b_nat {R R' : Type} (e : R → R') (ret : Int → Option R) (j0 : Int → Bool → (List T) → Int → Int → Bool → (List T) → Option R) (k : Nat) (x3 : Int) (x7z : Bool) (x7 : List T) (x8 : Int) (x9 : Int) (c1_0z : Bool) (c1_0 : List T) : impl_TotalOf.l0b (fun r => (ret r).map e) (fun x3 x7z x7 x8 x9 c1_0z c1_0 => (j0 x3 x7z x7 x8 x9 c1_0z c1_0).map e) k x3 x7z x7 x8 x9 c1_0z c1_0 = (impl_TotalOf.l0b ret j0 k x3 x7z x7 x8 x9 c1_0z c1_0).map e := by
  unfold impl_TotalOf.l0b
  repeat' first | with_reducible refine nat_cond ?_ ?_ | with_reducible refine nat_bind fun _ => ?_ | rfl
theorem impl_TotalOf.rounds_eq (a0_0z : Bool) (a0_0 : List T) : ∀ k, (∀ (x3 : Int) (x7z : Bool) (x7 : List T) (x8 : Int) (x9 : Int) (c1_0z : Bool) (c1_0 : List T), rounds Try.prog impl_TotalOf.Cs (finish Try.prog [] Try.f50 [.v (.agg [(.sl 44 a0_0z a0_0)])]) 100000 k impl_TotalOf.K0 (impl_TotalOf.N0 x3 x7z x7 x8 x9 c1_0z c1_0) = (impl_TotalOf.l0 k x3 x7z x7 x8 x9 c1_0z c1_0).map impl_TotalOf.enc)
  | 0 => fun _ _ _ _ _ _ _ => rfl
  | k + 1 => by
    have ih := impl_TotalOf.rounds_eq a0_0z a0_0 k
    refine fun _ _ _ _ _ _ _ => ?_
    · refine (impl_TotalOf.s0 k _ a0_0z a0_0 _ _ _ _ _ _ _).trans (Eq.trans ?_ (impl_TotalOf.l0b_nat impl_TotalOf.enc some (impl_TotalOf.l0 k) k _ _ _ _ _ _ _))
      simp only [ih, Option.map_some]
theorem impl_TotalOf.eq (k : Nat) (a0_0z : Bool) (a0_0 : List T) : answer Try.prog impl_TotalOf.Cs 100000 impl_TotalOf.cuts [] Try.f50 (k + 1) [.v (.agg [(.sl 44 a0_0z a0_0)])] = (impl_TotalOf.f (k + 1) a0_0z a0_0).map impl_TotalOf.enc := by
  have ih := impl_TotalOf.rounds_eq a0_0z a0_0 k
  refine (impl_TotalOf.s k a0_0z a0_0).trans (Eq.trans ?_ (impl_TotalOf.b_nat impl_TotalOf.enc some (impl_TotalOf.l0 k) k a0_0z a0_0))
  simp only [ih, Option.map_some]
theorem impl_TotalOf.sound (k : Nat) : SoundF Try.prog 50 (fun a => (impl_TotalOf.ans k a).val) := by
  refine sound_plain (fun args res h => ?_) (fun t n => rfl)
  unfold impl_TotalOf.ans at h
  dsimp only at h
  split at h
  · cases k with
    | zero => cases h
    | succ k =>
      unfold Ans.val at h
      rw [← impl_TotalOf.eq] at h
      exact answer_sound mixed Try.func50 _ _ _ (k + 1) (fun j _ => tab_sound (tab_cons (impl_TableOk.sound j) (tab_nil))) _ _ h
  · exact (Ans.no_val h).elim

/-! loop.example/g00790/impl.IsQuorum -/
def impl_IsQuorum.b {R : Type} (ret : Bool → Option R) (k : Nat) (a0_0z : Bool) (a0_0 : List T) (a1z : Bool) (a1 : List Int) : Option R :=
  (impl_TableOk.f k a0_0z a0_0).bind fun t0 => cond t0 ((impl_WeightOf.f k a0_0z a0_0 a1z a1).bind fun t1 => (impl_TotalOf.f k a0_0z a0_0).bind fun t2 => ret (decide ((RowKit.wrap64 ((3 : Int) * t1)) > (RowKit.wrap64 ((2 : Int) * t2))))) (ret false)
def impl_IsQuorum.f : Nat → Bool → (List T) → Bool → (List Int) → Option Bool
  | 0, _, _, _, _ => none
  | k + 1, a0_0z, a0_0, a1z, a1 => impl_IsQuorum.b some k a0_0z a0_0 a1z a1
def impl_IsQuorum.enc (r : Bool) : Res := ⟨[.vals false [((.bool r), true)]], []⟩
def impl_IsQuorum.ans (k : Nat) : List Arg → Ans
  | [.v (.agg [(.sl 44 a0_0z a0_0)]), .v (.nums 5 .u8 a1z a1)] => ⟨impl_IsQuorum.f k a0_0z a0_0 a1z a1, impl_IsQuorum.enc⟩
  | _ => Ans.no
def impl_IsQuorum.Cs (k : Nat) : CallSem := tab [(78, impl_TableOk.ans k), (49, impl_WeightOf.ans k), (50, impl_TotalOf.ans k)]
def impl_IsQuorum.cuts : List (Nat × Keep) := []
theorem impl_IsQuorum.s (k : Nat) (a0_0z : Bool) (a0_0 : List T) (a1z : Bool) (a1 : List Int) : answer Try.prog impl_IsQuorum.Cs 100000 impl_IsQuorum.cuts [] Try.f31 (k + 1) [.v (.agg [(.sl 44 a0_0z a0_0)]), .v (.nums 5 .u8 a1z a1)] = impl_IsQuorum.b (fun r => some (impl_IsQuorum.enc r)) k a0_0z a0_0 a1z a1 := by kernel_rfl
theorem impl_IsQuorum.b_nat {R R' : Type} (e : R → R') (ret : Bool → Option R) (k : Nat) (a0_0z : Bool) (a0_0 : List T) (a1z : Bool) (a1 : List Int) : impl_IsQuorum.b (fun r => (ret r).map e) k a0_0z a0_0 a1z a1 = (impl_IsQuorum.b ret k a0_0z a0_0 a1z a1).map e := by
  unfold impl_IsQuorum.b
  repeat' first | with_reducible refine nat_cond ?_ ?_ | with_reducible refine nat_bind fun _ => ?_ | rfl
theorem impl_IsQuorum.eq (k : Nat) (a0_0z : Bool) (a0_0 : List T) (a1z : Bool) (a1 : List Int) : answer Try.prog impl_IsQuorum.Cs 100000 impl_IsQuorum.cuts [] Try.f31 (k + 1) [.v (.agg [(.sl 44 a0_0z a0_0)]), .v (.nums 5 .u8 a1z a1)] = (impl_IsQuorum.f (k + 1) a0_0z a0_0 a1z a1).map impl_IsQuorum.enc := by
  refine (impl_IsQuorum.s k a0_0z a0_0 a1z a1).trans (Eq.trans ?_ (impl_IsQuorum.b_nat impl_IsQuorum.enc some k a0_0z a0_0 a1z a1))
  simp only [Option.map_some]
theorem impl_IsQuorum.sound (k : Nat) : SoundF Try.prog 31 (fun a => (impl_IsQuorum.ans k a).val) := by
  refine sound_plain (fun args res h => ?_) (fun t n => rfl)
  unfold impl_IsQuorum.ans at h
  dsimp only at h
  split at h
  · cases k with
    | zero => cases h
    | succ k =>
      unfold Ans.val at h
      rw [← impl_IsQuorum.eq] at h
      exact answer_sound mixed Try.func31 _ _ _ (k + 1) (fun j _ => tab_sound (tab_cons (impl_TableOk.sound j) (tab_cons (impl_WeightOf.sound j) (tab_cons (impl_TotalOf.sound j) (tab_nil))))) _ _ h
  · exact (Ans.no_val h).elim

/-! loop.example/g00790/impl.QcCode -/
def impl_QcCode.b {R : Type} (ret : Int → Option R) (j0 : Bool → (List T) → Int → Int → Bool → (List T) → Int → Int → Bool → (List Int) → Bool → (List Int) → Bool → (List T) → Option R) (k : Nat) (a0_0 : Int) (a0_1 : Int) (a0_2 : Int) (a0_3 : Int) (a0_4 : Int) (a1_0z : Bool) (a1_0 : List T) (a2_0 : Int) (a2_1 : Int) (a2_2z : Bool) (a2_2 : List Int) (a2_3z : Bool) (a2_3 : List Int) (a2_4z : Bool) (a2_4 : List T) : Option R :=
  (impl_belongs.f k a0_0 a0_1 a0_2 a0_3 a0_4 a1_0z a1_0).bind fun t0 => cond (!t0) (ret 1) ((impl_QcOk.f k a0_0 a0_1 a0_2 a0_3 a0_4 a2_0 a2_1 a2_2z a2_2 a2_3z a2_3 a2_4z a2_4).bind fun t1 => cond (!t1) (ret 1) ((impl_QcVotes.f k a2_0 a2_1 a2_2z a2_2 a2_3z a2_3 a2_4z a2_4).bind fun t2 => j0 t2.1 t2.2 ((t2.2).length : Int) 0 a1_0z a1_0 a2_0 a2_1 a2_2z a2_2 a2_3z a2_3 a2_4z a2_4))
def impl_QcCode.l0b {R : Type} (ret : Int → Option R) (j0 : Bool → (List T) → Int → Int → Bool → (List T) → Int → Int → Bool → (List Int) → Bool → (List Int) → Bool → (List T) → Option R) (k : Nat) (x20z : Bool) (x20 : List T) (x21 : Int) (x22 : Int) (c4_0z : Bool) (c4_0 : List T) (c5_0 : Int) (c5_1 : Int) (c5_2z : Bool) (c5_2 : List Int) (c5_3z : Bool) (c5_3 : List Int) (c5_4z : Bool) (c5_4 : List T) : Option R :=
  cond (decide (x22 < x21)) (cond (decide ((0 : Int) ≤ x22)) (cond (decide (x22 < ((x20).length : Int))) ((impl_VoteGood.f k c4_0z c4_0 (((((x20).getD (x22).toNat .bad).cells.getD 0 .bad)).toInt) (((((x20).getD (x22).toNat .bad).cells.getD 1 .bad)).toInt) (((((x20).getD (x22).toNat .bad).cells.getD 2 .bad)).isNil) (((((x20).getD (x22).toNat .bad).cells.getD 2 .bad)).toNums) (((((x20).getD (x22).toNat .bad).cells.getD 3 .bad)).toInt) (((((x20).getD (x22).toNat .bad).cells.getD 4 .bad)).isNil) (((((x20).getD (x22).toNat .bad).cells.getD 4 .bad)).toNums)).bind fun t0 => cond (!t0) (ret 2) (j0 x20z x20 x21 (RowKit.wrap64 (x22 + 1)) c4_0z c4_0 c5_0 c5_1 c5_2z c5_2 c5_3z c5_3 c5_4z c5_4)) (none)) (none)) ((impl_IsQuorum.f k c4_0z c4_0 c5_3z c5_3).bind fun t0 => cond (!t0) (ret 3) (ret 0))
def impl_QcCode.l0 : Nat → Bool → (List T) → Int → Int → Bool → (List T) → Int → Int → Bool → (List Int) → Bool → (List Int) → Bool → (List T) → Option Int
  | 0, _, _, _, _, _, _, _, _, _, _, _, _, _, _ => none
  | k + 1, x20z, x20, x21, x22, c4_0z, c4_0, c5_0, c5_1, c5_2z, c5_2, c5_3z, c5_3, c5_4z, c5_4 => impl_QcCode.l0b some (impl_QcCode.l0 k) k x20z x20 x21 x22 c4_0z c4_0 c5_0 c5_1 c5_2z c5_2 c5_3z c5_3 c5_4z c5_4
def impl_QcCode.f : Nat → Int → Int → Int → Int → Int → Bool → (List T) → Int → Int → Bool → (List Int) → Bool → (List Int) → Bool → (List T) → Option Int
  | 0, _, _, _, _, _, _, _, _, _, _, _, _, _, _, _ => none
  | k + 1, a0_0, a0_1, a0_2, a0_3, a0_4, a1_0z, a1_0, a2_0, a2_1, a2_2z, a2_2, a2_3z, a2_3, a2_4z, a2_4 => impl_QcCode.b some (impl_QcCode.l0 k) k a0_0 a0_1 a0_2 a0_3 a0_4 a1_0z a1_0 a2_0 a2_1 a2_2z a2_2 a2_3z a2_3 a2_4z a2_4
def impl_QcCode.enc (r : Int) : Res := ⟨[.vals false [((.int .i64 r), true)]], []⟩
def impl_QcCode.ans (k : Nat) : List Arg → Ans
  | [.v (.agg [(.int .i64 a0_0), (.int .i64 a0_1), (.int .i64 a0_2), (.int .i64 a0_3), (.int .i64 a0_4)]), .v (.agg [(.sl 44 a1_0z a1_0)]), .v (.agg [(.int .i64 a2_0), (.int .i64 a2_1), (.nums 5 .u8 a2_2z a2_2), (.nums 5 .u8 a2_3z a2_3), (.sl 22 a2_4z a2_4)])] => ⟨impl_QcCode.f k a0_0 a0_1 a0_2 a0_3 a0_4 a1_0z a1_0 a2_0 a2_1 a2_2z a2_2 a2_3z a2_3 a2_4z a2_4, impl_QcCode.enc⟩
  | _ => Ans.no
def impl_QcCode.Cs (k : Nat) : CallSem := tab [(87, impl_belongs.ans k), (90, impl_QcOk.ans k), (24, impl_QcVotes.ans k), (17, impl_VoteGood.ans k), (31, impl_IsQuorum.ans k)]
def impl_QcCode.cuts : List (Nat × Keep) := [(58, ⟨[(4, some []), (5, some []), (20, none), (21, some []), (22, some [])], [(4, [some []]), (5, [some [], some [], some [], some [], some []])]⟩)]
noncomputable def impl_QcCode.K0 : List Fr := framesAt [true, true, false, true, false] (bodyOf Try.f33 impl_QcCode.cuts) []
def impl_QcCode.N0 (x20z : Bool) (x20 : List T) (x21 : Int) (x22 : Int) (c4_0z : Bool) (c4_0 : List T) (c5_0 : Int) (c5_1 : Int) (c5_2z : Bool) (c5_2 : List Int) (c5_3z : Bool) (c5_3 : List Int) (c5_4z : Bool) (c5_4 : List T) : St := stOf 36 36 3 [(4, .bp 4 0), (5, .bp 5 0), (20, .val ⟨(.sl 33 x20z x20), [.l 20 0], true, some (.l 20 0)⟩), (21, .val (V.s (.int .i64 x21))), (22, .val (V.s (.int .i64 x22)))] [(4, .cells [⟨(.sl 44 c4_0z c4_0), [], false, none⟩]), (5, .cells [V.s (.int .i64 c5_0), V.s (.int .i64 c5_1), ⟨(.nums 5 .u8 c5_2z c5_2), [], false, none⟩, ⟨(.nums 5 .u8 c5_3z c5_3), [], false, none⟩, ⟨(.sl 22 c5_4z c5_4), [], false, none⟩])]
theorem impl_QcCode.s (k : Nat) (a0_0 : Int) (a0_1 : Int) (a0_2 : Int) (a0_3 : Int) (a0_4 : Int) (a1_0z : Bool) (a1_0 : List T) (a2_0 : Int) (a2_1 : Int) (a2_2z : Bool) (a2_2 : List Int) (a2_3z : Bool) (a2_3 : List Int) (a2_4z : Bool) (a2_4 : List T) : answer Try.prog impl_QcCode.Cs 100000 impl_QcCode.cuts [] Try.f33 (k + 1) [.v (.agg [(.int .i64 a0_0), (.int .i64 a0_1), (.int .i64 a0_2), (.int .i64 a0_3), (.int .i64 a0_4)]), .v (.agg [(.sl 44 a1_0z a1_0)]), .v (.agg [(.int .i64 a2_0), (.int .i64 a2_1), (.nums 5 .u8 a2_2z a2_2), (.nums 5 .u8 a2_3z a2_3), (.sl 22 a2_4z a2_4)])] = impl_QcCode.b (fun r => some (impl_QcCode.enc r)) (fun x20z x20 x21 x22 c4_0z c4_0 c5_0 c5_1 c5_2z c5_2 c5_3z c5_3 c5_4z c5_4 => rounds Try.prog impl_QcCode.Cs (finish Try.prog [] Try.f33 [.v (.agg [(.int .i64 a0_0), (.int .i64 a0_1), (.int .i64 a0_2), (.int .i64 a0_3), (.int .i64 a0_4)]), .v (.agg [(.sl 44 a1_0z a1_0)]), .v (.agg [(.int .i64 a2_0), (.int .i64 a2_1), (.nums 5 .u8 a2_2z a2_2), (.nums 5 .u8 a2_3z a2_3), (.sl 22 a2_4z a2_4)])]) 100000 k impl_QcCode.K0 (impl_QcCode.N0 x20z x20 x21 x22 c4_0z c4_0 c5_0 c5_1 c5_2z c5_2 c5_3z c5_3 c5_4z c5_4)) k a0_0 a0_1 a0_2 a0_3 a0_4 a1_0z a1_0 a2_0 a2_1 a2_2z a2_2 a2_3z a2_3 a2_4z a2_4 := by kernel_rfl
theorem impl_QcCode.s0 (k : Nat) (G : List Fr → St → Option Res) (a0_0 : Int) (a0_1 : Int) (a0_2 : Int) (a0_3 : Int) (a0_4 : Int) (a1_0z : Bool) (a1_0 : List T) (a2_0 : Int) (a2_1 : Int) (a2_2z : Bool) (a2_2 : List Int) (a2_3z : Bool) (a2_3 : List Int) (a2_4z : Bool) (a2_4 : List T) (yx20z : Bool) (yx20 : List T) (yx21 : Int) (yx22 : Int) (yc4_0z : Bool) (yc4_0 : List T) (yc5_0 : Int) (yc5_1 : Int) (yc5_2z : Bool) (yc5_2 : List Int) (yc5_3z : Bool) (yc5_3 : List Int) (yc5_4z : Bool) (yc5_4 : List T) : resume Try.prog (impl_QcCode.Cs k) G (finish Try.prog [] Try.f33 [.v (.agg [(.int .i64 a0_0), (.int .i64 a0_1), (.int .i64 a0_2), (.int .i64 a0_3), (.int .i64 a0_4)]), .v (.agg [(.sl 44 a1_0z a1_0)]), .v (.agg [(.int .i64 a2_0), (.int .i64 a2_1), (.nums 5 .u8 a2_2z a2_2), (.nums 5 .u8 a2_3z a2_3), (.sl 22 a2_4z a2_4)])]) 100000 impl_QcCode.K0 (impl_QcCode.N0 yx20z yx20 yx21 yx22 yc4_0z yc4_0 yc5_0 yc5_1 yc5_2z yc5_2 yc5_3z yc5_3 yc5_4z yc5_4) = impl_QcCode.l0b (fun r => some (impl_QcCode.enc r)) (fun x20z x20 x21 x22 c4_0z c4_0 c5_0 c5_1 c5_2z c5_2 c5_3z c5_3 c5_4z c5_4 => G impl_QcCode.K0 (impl_QcCode.N0 x20z x20 x21 x22 c4_0z c4_0 c5_0 c5_1 c5_2z c5_2 c5_3z c5_3 c5_4z c5_4)) k yx20z yx20 yx21 yx22 yc4_0z yc4_0 yc5_0 yc5_1 yc5_2z yc5_2 yc5_3z yc5_3 yc5_4z yc5_4 := by kernel_rfl
theorem impl_QcCode.b_nat {R R' : Type} (e : R → R') (ret : Int → Option R) (j0 : Bool → (List T) → Int → Int → Bool → (List T) → Int → Int → Bool → (List Int) → Bool → (List Int) → Bool → (List T) → Option R) (k : Nat) (a0_0 : Int) (a0_1 : Int) (a0_2 : Int) (a0_3 : Int) (a0_4 : Int) (a1_0z : Bool) (a1_0 : List T) (a2_0 : Int) (a2_1 : Int) (a2_2z : Bool) (a2_2 : List Int) (a2_3z : Bool) (a2_3 : List Int) (a2_4z : Bool) (a2_4 : List T) : impl_QcCode.b (fun r => (ret r).map e) (fun x20z x20 x21 x22 c4_0z c4_0 c5_0 c5_1 c5_2z c5_2 c5_3z c5_3 c5_4z c5_4 => (j0 x20z x20 x21 x22 c4_0z c4_0 c5_0 c5_1 c5_2z c5_2 c5_3z c5_3 c5_4z c5_4).map e) k a0_0 a0_1 a0_2 a0_3 a0_4 a1_0z a1_0 a2_0 a2_1 a2_2z a2_2 a2_3z a2_3 a2_4z a2_4 = (impl_QcCode.b ret j0 k a0_0 a0_1 a0_2 a0_3 a0_4 a1_0z a1_0 a2_0 a2_1 a2_2z a2_2 a2_3z a2_3 a2_4z a2_4).map e := by
  unfold impl_QcCode.b
  repeat' first | with_reducible refine nat_cond ?_ ?_ | with_reducible refine nat_bind fun _ => ?_ | rfl
theorem impl_QcCode.l0b_nat {R R' : Type} (e : R → R') (ret : Int → Option R) (j0 : Bool → (List T) → Int → Int → Bool → (List T) → Int → Int → Bool → (List Int) → Bool → (List Int) → Bool → (List T) → Option R) (k : Nat) (x20z : Bool) (x20 : List T) (x21 : Int) (x22 : Int) (c4_0z : Bool) (c4_0 : List T) (c5_0 : Int) (c5_1 : Int) (c5_2z : Bool) (c5_2 : List Int) (c5_3z : Bool) (c5_3 : List Int) (c5_4z : Bool) (c5_4 : List T) : impl_QcCode.l0b (fun r => (ret r).map e) (fun x20z x20 x21 x22 c4_0z c4_0 c5_0 c5_1 c5_2z c5_2 c5_3z c5_3 c5_4z c5_4 => (j0 x20z x20 x21 x22 c4_0z c4_0 c5_0 c5_1 c5_2z c5_2 c5_3z c5_3 c5_4z c5_4).map e) k x20z x20 x21 x22 c4_0z c4_0 c5_0 c5_1 c5_2z c5_2 c5_3z c5_3 c5_4z c5_4 = (impl_QcCode.l0b ret j0 k x20z x20 x21 x22 c4_0z c4_0 c5_0 c5_1 c5_2z c5_2 c5_3z c5_3 c5_4z c5_4).map e := by
  unfold impl_QcCode.l0b
  repeat' first | with_reducible refine nat_cond ?_ ?_ | with_reducible refine nat_bind fun _ => ?_ | rfl
theorem impl_QcCode.rounds_eq (a0_0 : Int) (a0_1 : Int) (a0_2 : Int) (a0_3 : Int) (a0_4 : Int) (a1_0z : Bool) (a1_0 : List T) (a2_0 : Int) (a2_1 : Int) (a2_2z : Bool) (a2_2 : List Int) (a2_3z : Bool) (a2_3 : List Int) (a2_4z : Bool) (a2_4 : List T) : ∀ k, (∀ (x20z : Bool) (x20 : List T) (x21 : Int) (x22 : Int) (c4_0z : Bool) (c4_0 : List T) (c5_0 : Int) (c5_1 : Int) (c5_2z : Bool) (c5_2 : List Int) (c5_3z : Bool) (c5_3 : List Int) (c5_4z : Bool) (c5_4 : List T), rounds Try.prog impl_QcCode.Cs (finish Try.prog [] Try.f33 [.v (.agg [(.int .i64 a0_0), (.int .i64 a0_1), (.int .i64 a0_2), (.int .i64 a0_3), (.int .i64 a0_4)]), .v (.agg [(.sl 44 a1_0z a1_0)]), .v (.agg [(.int .i64 a2_0), (.int .i64 a2_1), (.nums 5 .u8 a2_2z a2_2), (.nums 5 .u8 a2_3z a2_3), (.sl 22 a2_4z a2_4)])]) 100000 k impl_QcCode.K0 (impl_QcCode.N0 x20z x20 x21 x22 c4_0z c4_0 c5_0 c5_1 c5_2z c5_2 c5_3z c5_3 c5_4z c5_4) = (impl_QcCode.l0 k x20z x20 x21 x22 c4_0z c4_0 c5_0 c5_1 c5_2z c5_2 c5_3z c5_3 c5_4z c5_4).map impl_QcCode.enc)
  | 0 => fun _ _ _ _ _ _ _ _ _ _ _ _ _ _ => rfl
  | k + 1 => by
    have ih := impl_QcCode.rounds_eq a0_0 a0_1 a0_2 a0_3 a0_4 a1_0z a1_0 a2_0 a2_1 a2_2z a2_2 a2_3z a2_3 a2_4z a2_4 k
    refine fun _ _ _ _ _ _ _ _ _ _ _ _ _ _ => ?_
    · refine (impl_QcCode.s0 k _ a0_0 a0_1 a0_2 a0_3 a0_4 a1_0z a1_0 a2_0 a2_1 a2_2z a2_2 a2_3z a2_3 a2_4z a2_4 _ _ _ _ _ _ _ _ _ _ _ _ _ _).trans (Eq.trans ?_ (impl_QcCode.l0b_nat impl_QcCode.enc some (impl_QcCode.l0 k) k _ _ _ _ _ _ _ _ _ _ _ _ _ _))
      simp only [ih, Option.map_some]
theorem impl_QcCode.eq (k : Nat) (a0_0 : Int) (a0_1 : Int) (a0_2 : Int) (a0_3 : Int) (a0_4 : Int) (a1_0z : Bool) (a1_0 : List T) (a2_0 : Int) (a2_1 : Int) (a2_2z : Bool) (a2_2 : List Int) (a2_3z : Bool) (a2_3 : List Int) (a2_4z : Bool) (a2_4 : List T) : answer Try.prog impl_QcCode.Cs 100000 impl_QcCode.cuts [] Try.f33 (k + 1) [.v (.agg [(.int .i64 a0_0), (.int .i64 a0_1), (.int .i64 a0_2), (.int .i64 a0_3), (.int .i64 a0_4)]), .v (.agg [(.sl 44 a1_0z a1_0)]), .v (.agg [(.int .i64 a2_0), (.int .i64 a2_1), (.nums 5 .u8 a2_2z a2_2), (.nums 5 .u8 a2_3z a2_3), (.sl 22 a2_4z a2_4)])] = (impl_QcCode.f (k + 1) a0_0 a0_1 a0_2 a0_3 a0_4 a1_0z a1_0 a2_0 a2_1 a2_2z a2_2 a2_3z a2_3 a2_4z a2_4).map impl_QcCode.enc := by
  have ih := impl_QcCode.rounds_eq a0_0 a0_1 a0_2 a0_3 a0_4 a1_0z a1_0 a2_0 a2_1 a2_2z a2_2 a2_3z a2_3 a2_4z a2_4 k
  refine (impl_QcCode.s k a0_0 a0_1 a0_2 a0_3 a0_4 a1_0z a1_0 a2_0 a2_1 a2_2z a2_2 a2_3z a2_3 a2_4z a2_4).trans (Eq.trans ?_ (impl_QcCode.b_nat impl_QcCode.enc some (impl_QcCode.l0 k) k a0_0 a0_1 a0_2 a0_3 a0_4 a1_0z a1_0 a2_0 a2_1 a2_2z a2_2 a2_3z a2_3 a2_4z a2_4))
  simp only [ih, Option.map_some]
theorem impl_QcCode.sound (k : Nat) : SoundF Try.prog 33 (fun a => (impl_QcCode.ans k a).val) := by
  refine sound_plain (fun args res h => ?_) (fun t n => rfl)
  unfold impl_QcCode.ans at h
  dsimp only at h
  split at h
  · cases k with
    | zero => cases h
    | succ k =>
      unfold Ans.val at h
      rw [← impl_QcCode.eq] at h
      exact answer_sound mixed Try.func33 _ _ _ (k + 1) (fun j _ => tab_sound (tab_cons (impl_belongs.sound j) (tab_cons (impl_QcOk.sound j) (tab_cons (impl_QcVotes.sound j) (tab_cons (impl_VoteGood.sound j) (tab_cons (impl_IsQuorum.sound j) (tab_nil))))))) _ _ h
  · exact (Ans.no_val h).elim

end Go.Proofs.YtbpcnodmgphinaaG
