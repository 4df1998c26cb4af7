/- What the functions compute, printed by a program of this repo; each is shown to be what the machine of values answers. No condition. -/
import Derived.Test.YtbpcnodmgphinaaProg
import Derived.KernelRfl
import Derived.Test.YtbpcnodmgphinaaGFnExactTwiced
namespace Go.Proofs.YtbpcnodmgphinaaG
open Go Go.Proofs.YtbpcnodmgphinaaRv Go.Proofs
set_option linter.unusedVariables false
set_option linter.unusedSimpArgs false
/-! loop.example/g00790/impl.hasVote$1 -/
def impl_hasVote_1.b {R : Type} (ret : Bool → Option R) (k : Nat) (a0_0 : Int) (a0_1 : Int) (a0_2z : Bool) (a0_2 : List Int) (a0_3 : Int) (a0_4z : Bool) (a0_4 : List Int) (a1_0 : Int) (a2_0_0_0z : Bool) (a2_0_0_0 : List T) (a2_0_1_0z : Bool) (a2_0_1_0 : List T) (a2_0_2_0 : Int) (a3_0z : Bool) (a3_0 : List T) : Option R :=
  cond (decide (a0_3 = a1_0)) ((impl_Twice_1_1.f k a0_0 a0_1 a0_2z a0_2 a0_3 a0_4z a0_4 a2_0_0_0z a2_0_0_0 a2_0_1_0z a2_0_1_0 a2_0_2_0).bind fun t0 => cond t0 ((impl_VoteGood.f k a3_0z a3_0 a0_0 a0_1 a0_2z a0_2 a0_3 a0_4z a0_4).bind fun t1 => ret t1) (ret false)) (ret false)
def impl_hasVote_1.f : Nat → Int → Int → Bool → (List Int) → Int → Bool → (List Int) → Int → Bool → (List T) → Bool → (List T) → Int → Bool → (List T) → Option Bool
  | 0, _, _, _, _, _, _, _, _, _, _, _, _, _, _, _ => none
  | k + 1, a0_0, a0_1, a0_2z, a0_2, a0_3, a0_4z, a0_4, a1_0, a2_0_0_0z, a2_0_0_0, a2_0_1_0z, a2_0_1_0, a2_0_2_0, a3_0z, a3_0 => impl_hasVote_1.b some k a0_0 a0_1 a0_2z a0_2 a0_3 a0_4z a0_4 a1_0 a2_0_0_0z a2_0_0_0 a2_0_1_0z a2_0_1_0 a2_0_2_0 a3_0z a3_0
def impl_hasVote_1.enc (r : Bool) : Res := ⟨[.vals false [((.bool r), true)]], []⟩
def impl_hasVote_1.ans (k : Nat) : List Arg → Ans
  | [.v (.agg [(.int .i64 a0_0), (.int .i64 a0_1), (.nums 5 .u8 a0_2z a0_2), (.int .i64 a0_3), (.nums 5 .u8 a0_4z a0_4)]), .v (.ptr [(.int .i64 a1_0)]), .v (.ptr [(.fn 121 [(.ptr [(.sl 44 a2_0_0_0z a2_0_0_0)]), (.ptr [(.sl 33 a2_0_1_0z a2_0_1_0)]), (.ptr [(.int .i64 a2_0_2_0)])])]), .v (.ptr [(.sl 44 a3_0z a3_0)])] => ⟨impl_hasVote_1.f k a0_0 a0_1 a0_2z a0_2 a0_3 a0_4z a0_4 a1_0 a2_0_0_0z a2_0_0_0 a2_0_1_0z a2_0_1_0 a2_0_2_0 a3_0z a3_0, impl_hasVote_1.enc⟩
  | _ => Ans.no
def impl_hasVote_1.Cs (k : Nat) : CallSem := tab [(121, impl_Twice_1_1.ans k), (17, impl_VoteGood.ans k)]
def impl_hasVote_1.cuts : List (Nat × Keep) := []
theorem impl_hasVote_1.s (k : Nat) (a0_0 : Int) (a0_1 : Int) (a0_2z : Bool) (a0_2 : List Int) (a0_3 : Int) (a0_4z : Bool) (a0_4 : List Int) (a1_0 : Int) (a2_0_0_0z : Bool) (a2_0_0_0 : List T) (a2_0_1_0z : Bool) (a2_0_1_0 : List T) (a2_0_2_0 : Int) (a3_0z : Bool) (a3_0 : List T) : answer Try.prog impl_hasVote_1.Cs 100000 impl_hasVote_1.cuts [] Try.f169 (k + 1) [.v (.agg [(.int .i64 a0_0), (.int .i64 a0_1), (.nums 5 .u8 a0_2z a0_2), (.int .i64 a0_3), (.nums 5 .u8 a0_4z a0_4)]), .v (.ptr [(.int .i64 a1_0)]), .v (.ptr [(.fn 121 [(.ptr [(.sl 44 a2_0_0_0z a2_0_0_0)]), (.ptr [(.sl 33 a2_0_1_0z a2_0_1_0)]), (.ptr [(.int .i64 a2_0_2_0)])])]), .v (.ptr [(.sl 44 a3_0z a3_0)])] = impl_hasVote_1.b (fun r => some (impl_hasVote_1.enc r)) k a0_0 a0_1 a0_2z a0_2 a0_3 a0_4z a0_4 a1_0 a2_0_0_0z a2_0_0_0 a2_0_1_0z a2_0_1_0 a2_0_2_0 a3_0z a3_0 := by kernel_rfl
theorem impl_hasVote_1.b_nat {R R' : Type} (e : R → R') (ret : Bool → Option R) (k : Nat) (a0_0 : Int) (a0_1 : Int) (a0_2z : Bool) (a0_2 : List Int) (a0_3 : Int) (a0_4z : Bool) (a0_4 : List Int) (a1_0 : Int) (a2_0_0_0z : Bool) (a2_0_0_0 : List T) (a2_0_1_0z : Bool) (a2_0_1_0 : List T) (a2_0_2_0 : Int) (a3_0z : Bool) (a3_0 : List T) : impl_hasVote_1.b (fun r => (ret r).map e) k a0_0 a0_1 a0_2z a0_2 a0_3 a0_4z a0_4 a1_0 a2_0_0_0z a2_0_0_0 a2_0_1_0z a2_0_1_0 a2_0_2_0 a3_0z a3_0 = (impl_hasVote_1.b ret k a0_0 a0_1 a0_2z a0_2 a0_3 a0_4z a0_4 a1_0 a2_0_0_0z a2_0_0_0 a2_0_1_0z a2_0_1_0 a2_0_2_0 a3_0z a3_0).map e := by
  unfold impl_hasVote_1.b
  repeat' first | with_reducible refine nat_cond ?_ ?_ | with_reducible refine nat_bind fun _ => ?_ | rfl
theorem impl_hasVote_1.eq (k : Nat) (a0_0 : Int) (a0_1 : Int) (a0_2z : Bool) (a0_2 : List Int) (a0_3 : Int) (a0_4z : Bool) (a0_4 : List Int) (a1_0 : Int) (a2_0_0_0z : Bool) (a2_0_0_0 : List T) (a2_0_1_0z : Bool) (a2_0_1_0 : List T) (a2_0_2_0 : Int) (a3_0z : Bool) (a3_0 : List T) : answer Try.prog impl_hasVote_1.Cs 100000 impl_hasVote_1.cuts [] Try.f169 (k + 1) [.v (.agg [(.int .i64 a0_0), (.int .i64 a0_1), (.nums 5 .u8 a0_2z a0_2), (.int .i64 a0_3), (.nums 5 .u8 a0_4z a0_4)]), .v (.ptr [(.int .i64 a1_0)]), .v (.ptr [(.fn 121 [(.ptr [(.sl 44 a2_0_0_0z a2_0_0_0)]), (.ptr [(.sl 33 a2_0_1_0z a2_0_1_0)]), (.ptr [(.int .i64 a2_0_2_0)])])]), .v (.ptr [(.sl 44 a3_0z a3_0)])] = (impl_hasVote_1.f (k + 1) a0_0 a0_1 a0_2z a0_2 a0_3 a0_4z a0_4 a1_0 a2_0_0_0z a2_0_0_0 a2_0_1_0z a2_0_1_0 a2_0_2_0 a3_0z a3_0).map impl_hasVote_1.enc := by
  refine (impl_hasVote_1.s k a0_0 a0_1 a0_2z a0_2 a0_3 a0_4z a0_4 a1_0 a2_0_0_0z a2_0_0_0 a2_0_1_0z a2_0_1_0 a2_0_2_0 a3_0z a3_0).trans (Eq.trans ?_ (impl_hasVote_1.b_nat impl_hasVote_1.enc some k a0_0 a0_1 a0_2z a0_2 a0_3 a0_4z a0_4 a1_0 a2_0_0_0z a2_0_0_0 a2_0_1_0z a2_0_1_0 a2_0_2_0 a3_0z a3_0))
  simp only [Option.map_some]
theorem impl_hasVote_1.sound (k : Nat) : SoundF Try.prog 169 (fun a => (impl_hasVote_1.ans k a).val) := by
  refine sound_plain (fun args res h => ?_) (fun t n => rfl)
  unfold impl_hasVote_1.ans at h
  dsimp only at h
  split at h
  · cases k with
    | zero => cases h
    | succ k =>
      unfold Ans.val at h
      rw [← impl_hasVote_1.eq] at h
      exact answer_sound mixed Try.func169 _ _ _ (k + 1) (fun j _ => tab_sound (tab_cons (impl_Twice_1_1.sound j) (tab_cons (impl_VoteGood.sound j) (tab_nil)))) _ _ h
  · exact (Ans.no_val h).elim

/-! slices.IndexFunc[[]loop.example/g00790/impl.Vote,loop.example/g00790/impl.Vote] -/
def impl_Vote_106.b {R : Type} (ret : Int → Option R) (j0 : Bool → (List T) → Int → Bool → (List T) → Bool → (List T) → Int → Bool → (List T) → Int → Int → Option R) (k : Nat) (a0z : Bool) (a0 : List T) (a1_0_0 : Int) (a1_1_0_0_0z : Bool) (a1_1_0_0_0 : List T) (a1_1_0_1_0z : Bool) (a1_1_0_1_0 : List T) (a1_1_0_2_0 : Int) (a1_2_0z : Bool) (a1_2_0 : List T) : Option R :=
  j0 a0z a0 a1_0_0 a1_1_0_0_0z a1_1_0_0_0 a1_1_0_1_0z a1_1_0_1_0 a1_1_0_2_0 a1_2_0z a1_2_0 ((a0).length : Int) 0
def impl_Vote_106.l0b {R : Type} (ret : Int → Option R) (j0 : Bool → (List T) → Int → Bool → (List T) → Bool → (List T) → Int → Bool → (List T) → Int → Int → Option R) (k : Nat) (x0z : Bool) (x0 : List T) (x1_0_0 : Int) (x1_1_0_0_0z : Bool) (x1_1_0_0_0 : List T) (x1_1_0_1_0z : Bool) (x1_1_0_1_0 : List T) (x1_1_0_2_0 : Int) (x1_2_0z : Bool) (x1_2_0 : List T) (x7 : Int) (x8 : Int) : Option R :=
  cond (decide (x8 < x7)) (cond (decide ((0 : Int) ≤ x8)) (cond (decide (x8 < ((x0).length : Int))) ((impl_hasVote_1.f k (((((x0).getD (x8).toNat .bad).cells.getD 0 .bad)).toInt) (((((x0).getD (x8).toNat .bad).cells.getD 1 .bad)).toInt) (((((x0).getD (x8).toNat .bad).cells.getD 2 .bad)).isNil) (((((x0).getD (x8).toNat .bad).cells.getD 2 .bad)).toNums) (((((x0).getD (x8).toNat .bad).cells.getD 3 .bad)).toInt) (((((x0).getD (x8).toNat .bad).cells.getD 4 .bad)).isNil) (((((x0).getD (x8).toNat .bad).cells.getD 4 .bad)).toNums) x1_0_0 x1_1_0_0_0z x1_1_0_0_0 x1_1_0_1_0z x1_1_0_1_0 x1_1_0_2_0 x1_2_0z x1_2_0).bind fun t0 => cond t0 (ret x8) (j0 x0z x0 x1_0_0 x1_1_0_0_0z x1_1_0_0_0 x1_1_0_1_0z x1_1_0_1_0 x1_1_0_2_0 x1_2_0z x1_2_0 x7 (RowKit.wrap64 (x8 + 1)))) (none)) (none)) (ret (-1))
def impl_Vote_106.l0 : Nat → Bool → (List T) → Int → Bool → (List T) → Bool → (List T) → Int → Bool → (List T) → Int → Int → Option Int
  | 0, _, _, _, _, _, _, _, _, _, _, _, _ => none
  | k + 1, x0z, x0, x1_0_0, x1_1_0_0_0z, x1_1_0_0_0, x1_1_0_1_0z, x1_1_0_1_0, x1_1_0_2_0, x1_2_0z, x1_2_0, x7, x8 => impl_Vote_106.l0b some (impl_Vote_106.l0 k) k x0z x0 x1_0_0 x1_1_0_0_0z x1_1_0_0_0 x1_1_0_1_0z x1_1_0_1_0 x1_1_0_2_0 x1_2_0z x1_2_0 x7 x8
def impl_Vote_106.f : Nat → Bool → (List T) → Int → Bool → (List T) → Bool → (List T) → Int → Bool → (List T) → Option Int
  | 0, _, _, _, _, _, _, _, _, _, _ => none
  | k + 1, a0z, a0, a1_0_0, a1_1_0_0_0z, a1_1_0_0_0, a1_1_0_1_0z, a1_1_0_1_0, a1_1_0_2_0, a1_2_0z, a1_2_0 => impl_Vote_106.b some (impl_Vote_106.l0 k) k a0z a0 a1_0_0 a1_1_0_0_0z a1_1_0_0_0 a1_1_0_1_0z a1_1_0_1_0 a1_1_0_2_0 a1_2_0z a1_2_0
def impl_Vote_106.enc (r : Int) : Res := ⟨[.vals false [((.int .i64 r), true)]], []⟩
def impl_Vote_106.ans (k : Nat) : List Arg → Ans
  | [.v (.sl 33 a0z a0), .v (.fn 169 [(.ptr [(.int .i64 a1_0_0)]), (.ptr [(.fn 121 [(.ptr [(.sl 44 a1_1_0_0_0z a1_1_0_0_0)]), (.ptr [(.sl 33 a1_1_0_1_0z a1_1_0_1_0)]), (.ptr [(.int .i64 a1_1_0_2_0)])])]), (.ptr [(.sl 44 a1_2_0z a1_2_0)])])] => ⟨impl_Vote_106.f k a0z a0 a1_0_0 a1_1_0_0_0z a1_1_0_0_0 a1_1_0_1_0z a1_1_0_1_0 a1_1_0_2_0 a1_2_0z a1_2_0, impl_Vote_106.enc⟩
  | _ => Ans.no
def impl_Vote_106.Cs (k : Nat) : CallSem := tab [(169, impl_hasVote_1.ans k)]
def impl_Vote_106.cuts : List (Nat × Keep) := [(26, ⟨[(0, some []), (1, some []), (7, some []), (8, some [])], []⟩)]
noncomputable def impl_Vote_106.K0 : List Fr := framesAt [true, false, true, false] (bodyOf Try.f106 impl_Vote_106.cuts) []
def impl_Vote_106.N0 (x0z : Bool) (x0 : List T) (x1_0_0 : Int) (x1_1_0_0_0z : Bool) (x1_1_0_0_0 : List T) (x1_1_0_1_0z : Bool) (x1_1_0_1_0 : List T) (x1_1_0_2_0 : Int) (x1_2_0z : Bool) (x1_2_0 : List T) (x7 : Int) (x8 : Int) : St := stOf 19 19 2 [(0, .val ⟨(.sl 33 x0z x0), [], false, none⟩), (1, .val ⟨(.fn 169 [(.ptr [(.int .i64 x1_0_0)]), (.ptr [(.fn 121 [(.ptr [(.sl 44 x1_1_0_0_0z x1_1_0_0_0)]), (.ptr [(.sl 33 x1_1_0_1_0z x1_1_0_1_0)]), (.ptr [(.int .i64 x1_1_0_2_0)])])]), (.ptr [(.sl 44 x1_2_0z x1_2_0)])]), [], false, none⟩), (7, .val (V.s (.int .i64 x7))), (8, .val (V.s (.int .i64 x8)))] []
theorem impl_Vote_106.s (k : Nat) (a0z : Bool) (a0 : List T) (a1_0_0 : Int) (a1_1_0_0_0z : Bool) (a1_1_0_0_0 : List T) (a1_1_0_1_0z : Bool) (a1_1_0_1_0 : List T) (a1_1_0_2_0 : Int) (a1_2_0z : Bool) (a1_2_0 : List T) : answer Try.prog impl_Vote_106.Cs 100000 impl_Vote_106.cuts [] Try.f106 (k + 1) [.v (.sl 33 a0z a0), .v (.fn 169 [(.ptr [(.int .i64 a1_0_0)]), (.ptr [(.fn 121 [(.ptr [(.sl 44 a1_1_0_0_0z a1_1_0_0_0)]), (.ptr [(.sl 33 a1_1_0_1_0z a1_1_0_1_0)]), (.ptr [(.int .i64 a1_1_0_2_0)])])]), (.ptr [(.sl 44 a1_2_0z a1_2_0)])])] = impl_Vote_106.b (fun r => some (impl_Vote_106.enc r)) (fun x0z x0 x1_0_0 x1_1_0_0_0z x1_1_0_0_0 x1_1_0_1_0z x1_1_0_1_0 x1_1_0_2_0 x1_2_0z x1_2_0 x7 x8 => rounds Try.prog impl_Vote_106.Cs (finish Try.prog [] Try.f106 [.v (.sl 33 a0z a0), .v (.fn 169 [(.ptr [(.int .i64 a1_0_0)]), (.ptr [(.fn 121 [(.ptr [(.sl 44 a1_1_0_0_0z a1_1_0_0_0)]), (.ptr [(.sl 33 a1_1_0_1_0z a1_1_0_1_0)]), (.ptr [(.int .i64 a1_1_0_2_0)])])]), (.ptr [(.sl 44 a1_2_0z a1_2_0)])])]) 100000 k impl_Vote_106.K0 (impl_Vote_106.N0 x0z x0 x1_0_0 x1_1_0_0_0z x1_1_0_0_0 x1_1_0_1_0z x1_1_0_1_0 x1_1_0_2_0 x1_2_0z x1_2_0 x7 x8)) k a0z a0 a1_0_0 a1_1_0_0_0z a1_1_0_0_0 a1_1_0_1_0z a1_1_0_1_0 a1_1_0_2_0 a1_2_0z a1_2_0 := by kernel_rfl
theorem impl_Vote_106.s0 (k : Nat) (G : List Fr → St → Option Res) (a0z : Bool) (a0 : List T) (a1_0_0 : Int) (a1_1_0_0_0z : Bool) (a1_1_0_0_0 : List T) (a1_1_0_1_0z : Bool) (a1_1_0_1_0 : List T) (a1_1_0_2_0 : Int) (a1_2_0z : Bool) (a1_2_0 : List T) (yx0z : Bool) (yx0 : List T) (yx1_0_0 : Int) (yx1_1_0_0_0z : Bool) (yx1_1_0_0_0 : List T) (yx1_1_0_1_0z : Bool) (yx1_1_0_1_0 : List T) (yx1_1_0_2_0 : Int) (yx1_2_0z : Bool) (yx1_2_0 : List T) (yx7 : Int) (yx8 : Int) : resume Try.prog (impl_Vote_106.Cs k) G (finish Try.prog [] Try.f106 [.v (.sl 33 a0z a0), .v (.fn 169 [(.ptr [(.int .i64 a1_0_0)]), (.ptr [(.fn 121 [(.ptr [(.sl 44 a1_1_0_0_0z a1_1_0_0_0)]), (.ptr [(.sl 33 a1_1_0_1_0z a1_1_0_1_0)]), (.ptr [(.int .i64 a1_1_0_2_0)])])]), (.ptr [(.sl 44 a1_2_0z a1_2_0)])])]) 100000 impl_Vote_106.K0 (impl_Vote_106.N0 yx0z yx0 yx1_0_0 yx1_1_0_0_0z yx1_1_0_0_0 yx1_1_0_1_0z yx1_1_0_1_0 yx1_1_0_2_0 yx1_2_0z yx1_2_0 yx7 yx8) = impl_Vote_106.l0b (fun r => some (impl_Vote_106.enc r)) (fun x0z x0 x1_0_0 x1_1_0_0_0z x1_1_0_0_0 x1_1_0_1_0z x1_1_0_1_0 x1_1_0_2_0 x1_2_0z x1_2_0 x7 x8 => G impl_Vote_106.K0 (impl_Vote_106.N0 x0z x0 x1_0_0 x1_1_0_0_0z x1_1_0_0_0 x1_1_0_1_0z x1_1_0_1_0 x1_1_0_2_0 x1_2_0z x1_2_0 x7 x8)) k yx0z yx0 yx1_0_0 yx1_1_0_0_0z yx1_1_0_0_0 yx1_1_0_1_0z yx1_1_0_1_0 yx1_1_0_2_0 yx1_2_0z yx1_2_0 yx7 yx8 := by kernel_rfl
theorem impl_Vote_106.b_nat {R R' : Type} (e : R → R') (ret : Int → Option R) (j0 : Bool → (List T) → Int → Bool → (List T) → Bool → (List T) → Int → Bool → (List T) → Int → Int → Option R) (k : Nat) (a0z : Bool) (a0 : List T) (a1_0_0 : Int) (a1_1_0_0_0z : Bool) (a1_1_0_0_0 : List T) (a1_1_0_1_0z : Bool) (a1_1_0_1_0 : List T) (a1_1_0_2_0 : Int) (a1_2_0z : Bool) (a1_2_0 : List T) : impl_Vote_106.b (fun r => (ret r).map e) (fun x0z x0 x1_0_0 x1_1_0_0_0z x1_1_0_0_0 x1_1_0_1_0z x1_1_0_1_0 x1_1_0_2_0 x1_2_0z x1_2_0 x7 x8 => (j0 x0z x0 x1_0_0 x1_1_0_0_0z x1_1_0_0_0 x1_1_0_1_0z x1_1_0_1_0 x1_1_0_2_0 x1_2_0z x1_2_0 x7 x8).map e) k a0z a0 a1_0_0 a1_1_0_0_0z a1_1_0_0_0 a1_1_0_1_0z a1_1_0_1_0 a1_1_0_2_0 a1_2_0z a1_2_0 = (impl_Vote_106.b ret j0 k a0z a0 a1_0_0 a1_1_0_0_0z a1_1_0_0_0 a1_1_0_1_0z a1_1_0_1_0 a1_1_0_2_0 a1_2_0z a1_2_0).map e := by
  unfold impl_Vote_106.b
  repeat' first | with_reducible refine nat_cond ?_ ?_ | with_reducible refine nat_bind fun _ => ?_ | rfl
theorem impl_Vote_106.l0b_nat {R R' : Type} (e : R → R') (ret : Int → Option R) (j0 : Bool → (List T) → Int → Bool → (List T) → Bool → (List T) → Int → Bool → (List T) → Int → Int → Option R) (k : Nat) (x0z : Bool) (x0 : List T) (x1_0_0 : Int) (x1_1_0_0_0z : Bool) (x1_1_0_0_0 : List T) (x1_1_0_1_0z : Bool) (x1_1_0_1_0 : List T) (x1_1_0_2_0 : Int) (x1_2_0z : Bool) (x1_2_0 : List T) (x7 : Int) (x8 : Int) : impl_Vote_106.l0b (fun r => (ret r).map e) (fun x0z x0 x1_0_0 x1_1_0_0_0z x1_1_0_0_0 x1_1_0_1_0z x1_1_0_1_0 x1_1_0_2_0 x1_2_0z x1_2_0 x7 x8 => (j0 x0z x0 x1_0_0 x1_1_0_0_0z x1_1_0_0_0 x1_1_0_1_0z x1_1_0_1_0 x1_1_0_2_0 x1_2_0z x1_2_0 x7 x8).map e) k x0z x0 x1_0_0 x1_1_0_0_0z x1_1_0_0_0 x1_1_0_1_0z x1_1_0_1_0 x1_1_0_2_0 x1_2_0z x1_2_0 x7 x8 = (impl_Vote_106.l0b ret j0 k x0z x0 x1_0_0 x1_1_0_0_0z x1_1_0_0_0 x1_1_0_1_0z x1_1_0_1_0 x1_1_0_2_0 x1_2_0z x1_2_0 x7 x8).map e := by
  unfold impl_Vote_106.l0b
  repeat' first | with_reducible refine nat_cond ?_ ?_ | with_reducible refine nat_bind fun _ => ?_ | rfl
theorem impl_Vote_106.rounds_eq (a0z : Bool) (a0 : List T) (a1_0_0 : Int) (a1_1_0_0_0z : Bool) (a1_1_0_0_0 : List T) (a1_1_0_1_0z : Bool) (a1_1_0_1_0 : List T) (a1_1_0_2_0 : Int) (a1_2_0z : Bool) (a1_2_0 : List T) : ∀ k, (∀ (x0z : Bool) (x0 : List T) (x1_0_0 : Int) (x1_1_0_0_0z : Bool) (x1_1_0_0_0 : List T) (x1_1_0_1_0z : Bool) (x1_1_0_1_0 : List T) (x1_1_0_2_0 : Int) (x1_2_0z : Bool) (x1_2_0 : List T) (x7 : Int) (x8 : Int), rounds Try.prog impl_Vote_106.Cs (finish Try.prog [] Try.f106 [.v (.sl 33 a0z a0), .v (.fn 169 [(.ptr [(.int .i64 a1_0_0)]), (.ptr [(.fn 121 [(.ptr [(.sl 44 a1_1_0_0_0z a1_1_0_0_0)]), (.ptr [(.sl 33 a1_1_0_1_0z a1_1_0_1_0)]), (.ptr [(.int .i64 a1_1_0_2_0)])])]), (.ptr [(.sl 44 a1_2_0z a1_2_0)])])]) 100000 k impl_Vote_106.K0 (impl_Vote_106.N0 x0z x0 x1_0_0 x1_1_0_0_0z x1_1_0_0_0 x1_1_0_1_0z x1_1_0_1_0 x1_1_0_2_0 x1_2_0z x1_2_0 x7 x8) = (impl_Vote_106.l0 k x0z x0 x1_0_0 x1_1_0_0_0z x1_1_0_0_0 x1_1_0_1_0z x1_1_0_1_0 x1_1_0_2_0 x1_2_0z x1_2_0 x7 x8).map impl_Vote_106.enc)
  | 0 => fun _ _ _ _ _ _ _ _ _ _ _ _ => rfl
  | k + 1 => by
    have ih := impl_Vote_106.rounds_eq a0z a0 a1_0_0 a1_1_0_0_0z a1_1_0_0_0 a1_1_0_1_0z a1_1_0_1_0 a1_1_0_2_0 a1_2_0z a1_2_0 k
    refine fun _ _ _ _ _ _ _ _ _ _ _ _ => ?_
    · refine (impl_Vote_106.s0 k _ a0z a0 a1_0_0 a1_1_0_0_0z a1_1_0_0_0 a1_1_0_1_0z a1_1_0_1_0 a1_1_0_2_0 a1_2_0z a1_2_0 _ _ _ _ _ _ _ _ _ _ _ _).trans (Eq.trans ?_ (impl_Vote_106.l0b_nat impl_Vote_106.enc some (impl_Vote_106.l0 k) k _ _ _ _ _ _ _ _ _ _ _ _))
      simp only [ih, Option.map_some]
theorem impl_Vote_106.eq (k : Nat) (a0z : Bool) (a0 : List T) (a1_0_0 : Int) (a1_1_0_0_0z : Bool) (a1_1_0_0_0 : List T) (a1_1_0_1_0z : Bool) (a1_1_0_1_0 : List T) (a1_1_0_2_0 : Int) (a1_2_0z : Bool) (a1_2_0 : List T) : answer Try.prog impl_Vote_106.Cs 100000 impl_Vote_106.cuts [] Try.f106 (k + 1) [.v (.sl 33 a0z a0), .v (.fn 169 [(.ptr [(.int .i64 a1_0_0)]), (.ptr [(.fn 121 [(.ptr [(.sl 44 a1_1_0_0_0z a1_1_0_0_0)]), (.ptr [(.sl 33 a1_1_0_1_0z a1_1_0_1_0)]), (.ptr [(.int .i64 a1_1_0_2_0)])])]), (.ptr [(.sl 44 a1_2_0z a1_2_0)])])] = (impl_Vote_106.f (k + 1) a0z a0 a1_0_0 a1_1_0_0_0z a1_1_0_0_0 a1_1_0_1_0z a1_1_0_1_0 a1_1_0_2_0 a1_2_0z a1_2_0).map impl_Vote_106.enc := by
  have ih := impl_Vote_106.rounds_eq a0z a0 a1_0_0 a1_1_0_0_0z a1_1_0_0_0 a1_1_0_1_0z a1_1_0_1_0 a1_1_0_2_0 a1_2_0z a1_2_0 k
  refine (impl_Vote_106.s k a0z a0 a1_0_0 a1_1_0_0_0z a1_1_0_0_0 a1_1_0_1_0z a1_1_0_1_0 a1_1_0_2_0 a1_2_0z a1_2_0).trans (Eq.trans ?_ (impl_Vote_106.b_nat impl_Vote_106.enc some (impl_Vote_106.l0 k) k a0z a0 a1_0_0 a1_1_0_0_0z a1_1_0_0_0 a1_1_0_1_0z a1_1_0_1_0 a1_1_0_2_0 a1_2_0z a1_2_0))
  simp only [ih, Option.map_some]
theorem impl_Vote_106.sound (k : Nat) : SoundF Try.prog 106 (fun a => (impl_Vote_106.ans k a).val) := by
  refine sound_plain (fun args res h => ?_) (fun t n => rfl)
  unfold impl_Vote_106.ans at h
  dsimp only at h
  split at h
  · cases k with
    | zero => cases h
    | succ k =>
      unfold Ans.val at h
      rw [← impl_Vote_106.eq] at h
      exact answer_sound mixed Try.func106 _ _ _ (k + 1) (fun j _ => tab_sound (tab_cons (impl_hasVote_1.sound j) (tab_nil))) _ _ h
  · exact (Ans.no_val h).elim

/-! slices.ContainsFunc[[]loop.example/g00790/impl.Vote,loop.example/g00790/impl.Vote] -/
def impl_Vote.b {R : Type} (ret : Bool → Option R) (k : Nat) (a0z : Bool) (a0 : List T) (a1_0_0 : Int) (a1_1_0_0_0z : Bool) (a1_1_0_0_0 : List T) (a1_1_0_1_0z : Bool) (a1_1_0_1_0 : List T) (a1_1_0_2_0 : Int) (a1_2_0z : Bool) (a1_2_0 : List T) : Option R :=
  (impl_Vote_106.f k a0z a0 a1_0_0 a1_1_0_0_0z a1_1_0_0_0 a1_1_0_1_0z a1_1_0_1_0 a1_1_0_2_0 a1_2_0z a1_2_0).bind fun t0 => ret (decide (t0 ≥ 0))
def impl_Vote.f : Nat → Bool → (List T) → Int → Bool → (List T) → Bool → (List T) → Int → Bool → (List T) → Option Bool
  | 0, _, _, _, _, _, _, _, _, _, _ => none
  | k + 1, a0z, a0, a1_0_0, a1_1_0_0_0z, a1_1_0_0_0, a1_1_0_1_0z, a1_1_0_1_0, a1_1_0_2_0, a1_2_0z, a1_2_0 => impl_Vote.b some k a0z a0 a1_0_0 a1_1_0_0_0z a1_1_0_0_0 a1_1_0_1_0z a1_1_0_1_0 a1_1_0_2_0 a1_2_0z a1_2_0
def impl_Vote.enc (r : Bool) : Res := ⟨[.vals false [((.bool r), true)]], []⟩
def impl_Vote.ans (k : Nat) : List Arg → Ans
  | [.v (.sl 33 a0z a0), .v (.fn 169 [(.ptr [(.int .i64 a1_0_0)]), (.ptr [(.fn 121 [(.ptr [(.sl 44 a1_1_0_0_0z a1_1_0_0_0)]), (.ptr [(.sl 33 a1_1_0_1_0z a1_1_0_1_0)]), (.ptr [(.int .i64 a1_1_0_2_0)])])]), (.ptr [(.sl 44 a1_2_0z a1_2_0)])])] => ⟨impl_Vote.f k a0z a0 a1_0_0 a1_1_0_0_0z a1_1_0_0_0 a1_1_0_1_0z a1_1_0_1_0 a1_1_0_2_0 a1_2_0z a1_2_0, impl_Vote.enc⟩
  | _ => Ans.no
def impl_Vote.Cs (k : Nat) : CallSem := tab [(106, impl_Vote_106.ans k)]
def impl_Vote.cuts : List (Nat × Keep) := []
theorem impl_Vote.s (k : Nat) (a0z : Bool) (a0 : List T) (a1_0_0 : Int) (a1_1_0_0_0z : Bool) (a1_1_0_0_0 : List T) (a1_1_0_1_0z : Bool) (a1_1_0_1_0 : List T) (a1_1_0_2_0 : Int) (a1_2_0z : Bool) (a1_2_0 : List T) : answer Try.prog impl_Vote.Cs 100000 impl_Vote.cuts [] Try.f168 (k + 1) [.v (.sl 33 a0z a0), .v (.fn 169 [(.ptr [(.int .i64 a1_0_0)]), (.ptr [(.fn 121 [(.ptr [(.sl 44 a1_1_0_0_0z a1_1_0_0_0)]), (.ptr [(.sl 33 a1_1_0_1_0z a1_1_0_1_0)]), (.ptr [(.int .i64 a1_1_0_2_0)])])]), (.ptr [(.sl 44 a1_2_0z a1_2_0)])])] = impl_Vote.b (fun r => some (impl_Vote.enc r)) k a0z a0 a1_0_0 a1_1_0_0_0z a1_1_0_0_0 a1_1_0_1_0z a1_1_0_1_0 a1_1_0_2_0 a1_2_0z a1_2_0 := by kernel_rfl
theorem impl_Vote.b_nat {R R' : Type} (e : R → R') (ret : Bool → Option R) (k : Nat) (a0z : Bool) (a0 : List T) (a1_0_0 : Int) (a1_1_0_0_0z : Bool) (a1_1_0_0_0 : List T) (a1_1_0_1_0z : Bool) (a1_1_0_1_0 : List T) (a1_1_0_2_0 : Int) (a1_2_0z : Bool) (a1_2_0 : List T) : impl_Vote.b (fun r => (ret r).map e) k a0z a0 a1_0_0 a1_1_0_0_0z a1_1_0_0_0 a1_1_0_1_0z a1_1_0_1_0 a1_1_0_2_0 a1_2_0z a1_2_0 = (impl_Vote.b ret k a0z a0 a1_0_0 a1_1_0_0_0z a1_1_0_0_0 a1_1_0_1_0z a1_1_0_1_0 a1_1_0_2_0 a1_2_0z a1_2_0).map e := by
  unfold impl_Vote.b
  repeat' first | with_reducible refine nat_cond ?_ ?_ | with_reducible refine nat_bind fun _ => ?_ | rfl
theorem impl_Vote.eq (k : Nat) (a0z : Bool) (a0 : List T) (a1_0_0 : Int) (a1_1_0_0_0z : Bool) (a1_1_0_0_0 : List T) (a1_1_0_1_0z : Bool) (a1_1_0_1_0 : List T) (a1_1_0_2_0 : Int) (a1_2_0z : Bool) (a1_2_0 : List T) : answer Try.prog impl_Vote.Cs 100000 impl_Vote.cuts [] Try.f168 (k + 1) [.v (.sl 33 a0z a0), .v (.fn 169 [(.ptr [(.int .i64 a1_0_0)]), (.ptr [(.fn 121 [(.ptr [(.sl 44 a1_1_0_0_0z a1_1_0_0_0)]), (.ptr [(.sl 33 a1_1_0_1_0z a1_1_0_1_0)]), (.ptr [(.int .i64 a1_1_0_2_0)])])]), (.ptr [(.sl 44 a1_2_0z a1_2_0)])])] = (impl_Vote.f (k + 1) a0z a0 a1_0_0 a1_1_0_0_0z a1_1_0_0_0 a1_1_0_1_0z a1_1_0_1_0 a1_1_0_2_0 a1_2_0z a1_2_0).map impl_Vote.enc := by
  refine (impl_Vote.s k a0z a0 a1_0_0 a1_1_0_0_0z a1_1_0_0_0 a1_1_0_1_0z a1_1_0_1_0 a1_1_0_2_0 a1_2_0z a1_2_0).trans (Eq.trans ?_ (impl_Vote.b_nat impl_Vote.enc some k a0z a0 a1_0_0 a1_1_0_0_0z a1_1_0_0_0 a1_1_0_1_0z a1_1_0_1_0 a1_1_0_2_0 a1_2_0z a1_2_0))
  simp only [Option.map_some]
theorem impl_Vote.sound (k : Nat) : SoundF Try.prog 168 (fun a => (impl_Vote.ans k a).val) := by
  refine sound_plain (fun args res h => ?_) (fun t n => rfl)
  unfold impl_Vote.ans at h
  dsimp only at h
  split at h
  · cases k with
    | zero => cases h
    | succ k =>
      unfold Ans.val at h
      rw [← impl_Vote.eq] at h
      exact answer_sound mixed Try.func168 _ _ _ (k + 1) (fun j _ => tab_sound (tab_cons (impl_Vote_106.sound j) (tab_nil))) _ _ h
  · exact (Ans.no_val h).elim

/-! loop.example/g00790/impl.hasVote -/
def impl_hasVote.b {R : Type} (ret : Bool → Option R) (k : Nat) (a0_0z : Bool) (a0_0 : List T) (a1z : Bool) (a1 : List T) (a2 : Int) (a3_0_0z : Bool) (a3_0_0 : List T) (a3_1_0z : Bool) (a3_1_0 : List T) (a3_2_0 : Int) : Option R :=
  (impl_Vote.f k a1z a1 a2 a3_0_0z a3_0_0 a3_1_0z a3_1_0 a3_2_0 a0_0z a0_0).bind fun t0 => ret t0
def impl_hasVote.f : Nat → Bool → (List T) → Bool → (List T) → Int → Bool → (List T) → Bool → (List T) → Int → Option Bool
  | 0, _, _, _, _, _, _, _, _, _, _ => none
  | k + 1, a0_0z, a0_0, a1z, a1, a2, a3_0_0z, a3_0_0, a3_1_0z, a3_1_0, a3_2_0 => impl_hasVote.b some k a0_0z a0_0 a1z a1 a2 a3_0_0z a3_0_0 a3_1_0z a3_1_0 a3_2_0
def impl_hasVote.enc (r : Bool) : Res := ⟨[.vals false [((.bool r), true)]], []⟩
def impl_hasVote.ans (k : Nat) : List Arg → Ans
  | [.v (.agg [(.sl 44 a0_0z a0_0)]), .v (.sl 33 a1z a1), .v (.int .i64 a2), .v (.fn 121 [(.ptr [(.sl 44 a3_0_0z a3_0_0)]), (.ptr [(.sl 33 a3_1_0z a3_1_0)]), (.ptr [(.int .i64 a3_2_0)])])] => ⟨impl_hasVote.f k a0_0z a0_0 a1z a1 a2 a3_0_0z a3_0_0 a3_1_0z a3_1_0 a3_2_0, impl_hasVote.enc⟩
  | _ => Ans.no
def impl_hasVote.Cs (k : Nat) : CallSem := tab [(168, impl_Vote.ans k)]
def impl_hasVote.cuts : List (Nat × Keep) := []
theorem impl_hasVote.s (k : Nat) (a0_0z : Bool) (a0_0 : List T) (a1z : Bool) (a1 : List T) (a2 : Int) (a3_0_0z : Bool) (a3_0_0 : List T) (a3_1_0z : Bool) (a3_1_0 : List T) (a3_2_0 : Int) : answer Try.prog impl_hasVote.Cs 100000 impl_hasVote.cuts [] Try.f110 (k + 1) [.v (.agg [(.sl 44 a0_0z a0_0)]), .v (.sl 33 a1z a1), .v (.int .i64 a2), .v (.fn 121 [(.ptr [(.sl 44 a3_0_0z a3_0_0)]), (.ptr [(.sl 33 a3_1_0z a3_1_0)]), (.ptr [(.int .i64 a3_2_0)])])] = impl_hasVote.b (fun r => some (impl_hasVote.enc r)) k a0_0z a0_0 a1z a1 a2 a3_0_0z a3_0_0 a3_1_0z a3_1_0 a3_2_0 := by kernel_rfl
theorem impl_hasVote.b_nat {R R' : Type} (e : R → R') (ret : Bool → Option R) (k : Nat) (a0_0z : Bool) (a0_0 : List T) (a1z : Bool) (a1 : List T) (a2 : Int) (a3_0_0z : Bool) (a3_0_0 : List T) (a3_1_0z : Bool) (a3_1_0 : List T) (a3_2_0 : Int) : impl_hasVote.b (fun r => (ret r).map e) k a0_0z a0_0 a1z a1 a2 a3_0_0z a3_0_0 a3_1_0z a3_1_0 a3_2_0 = (impl_hasVote.b ret k a0_0z a0_0 a1z a1 a2 a3_0_0z a3_0_0 a3_1_0z a3_1_0 a3_2_0).map e := by
  unfold impl_hasVote.b
  repeat' first | with_reducible refine nat_cond ?_ ?_ | with_reducible refine nat_bind fun _ => ?_ | rfl
theorem impl_hasVote.eq (k : Nat) (a0_0z : Bool) (a0_0 : List T) (a1z : Bool) (a1 : List T) (a2 : Int) (a3_0_0z : Bool) (a3_0_0 : List T) (a3_1_0z : Bool) (a3_1_0 : List T) (a3_2_0 : Int) : answer Try.prog impl_hasVote.Cs 100000 impl_hasVote.cuts [] Try.f110 (k + 1) [.v (.agg [(.sl 44 a0_0z a0_0)]), .v (.sl 33 a1z a1), .v (.int .i64 a2), .v (.fn 121 [(.ptr [(.sl 44 a3_0_0z a3_0_0)]), (.ptr [(.sl 33 a3_1_0z a3_1_0)]), (.ptr [(.int .i64 a3_2_0)])])] = (impl_hasVote.f (k + 1) a0_0z a0_0 a1z a1 a2 a3_0_0z a3_0_0 a3_1_0z a3_1_0 a3_2_0).map impl_hasVote.enc := by
  refine (impl_hasVote.s k a0_0z a0_0 a1z a1 a2 a3_0_0z a3_0_0 a3_1_0z a3_1_0 a3_2_0).trans (Eq.trans ?_ (impl_hasVote.b_nat impl_hasVote.enc some k a0_0z a0_0 a1z a1 a2 a3_0_0z a3_0_0 a3_1_0z a3_1_0 a3_2_0))
  simp only [Option.map_some]
theorem impl_hasVote.sound (k : Nat) : SoundF Try.prog 110 (fun a => (impl_hasVote.ans k a).val) := by
  refine sound_plain (fun args res h => ?_) (fun t n => rfl)
  unfold impl_hasVote.ans at h
  dsimp only at h
  split at h
  · cases k with
    | zero => cases h
    | succ k =>
      unfold Ans.val at h
      rw [← impl_hasVote.eq] at h
      exact answer_sound mixed Try.func110 _ _ _ (k + 1) (fun j _ => tab_sound (tab_cons (impl_Vote.sound j) (tab_nil))) _ _ h
  · exact (Ans.no_val h).elim

/-! loop.example/g00790/impl.Twice$1 -/
def impl_Twice_1.b {R : Type} (ret : Bool → Option R) (k : Nat) (a0 : Int) (a1_0z : Bool) (a1_0 : List T) (a2_0z : Bool) (a2_0 : List T) : Option R :=
  (impl_hasVote.f k a1_0z a1_0 a2_0z a2_0 a0 a1_0z a1_0 a2_0z a2_0 a0).bind fun t0 => ret t0
def impl_Twice_1.f : Nat → Int → Bool → (List T) → Bool → (List T) → Option Bool
  | 0, _, _, _, _, _ => none
  | k + 1, a0, a1_0z, a1_0, a2_0z, a2_0 => impl_Twice_1.b some k a0 a1_0z a1_0 a2_0z a2_0
def impl_Twice_1.enc (r : Bool) : Res := ⟨[.vals false [((.bool r), true)]], []⟩
def impl_Twice_1.ans (k : Nat) : List Arg → Ans
  | [.v (.int .i64 a0), .v (.ptr [(.sl 44 a1_0z a1_0)]), .v (.ptr [(.sl 33 a2_0z a2_0)])] => ⟨impl_Twice_1.f k a0 a1_0z a1_0 a2_0z a2_0, impl_Twice_1.enc⟩
  | _ => Ans.no
def impl_Twice_1.Cs (k : Nat) : CallSem := tab [(110, impl_hasVote.ans k)]
def impl_Twice_1.cuts : List (Nat × Keep) := []
theorem impl_Twice_1.s (k : Nat) (a0 : Int) (a1_0z : Bool) (a1_0 : List T) (a2_0z : Bool) (a2_0 : List T) : answer Try.prog impl_Twice_1.Cs 100000 impl_Twice_1.cuts [] Try.f120 (k + 1) [.v (.int .i64 a0), .v (.ptr [(.sl 44 a1_0z a1_0)]), .v (.ptr [(.sl 33 a2_0z a2_0)])] = impl_Twice_1.b (fun r => some (impl_Twice_1.enc r)) k a0 a1_0z a1_0 a2_0z a2_0 := by kernel_rfl
theorem impl_Twice_1.b_nat {R R' : Type} (e : R → R') (ret : Bool → Option R) (k : Nat) (a0 : Int) (a1_0z : Bool) (a1_0 : List T) (a2_0z : Bool) (a2_0 : List T) : impl_Twice_1.b (fun r => (ret r).map e) k a0 a1_0z a1_0 a2_0z a2_0 = (impl_Twice_1.b ret k a0 a1_0z a1_0 a2_0z a2_0).map e := by
  unfold impl_Twice_1.b
  repeat' first | with_reducible refine nat_cond ?_ ?_ | with_reducible refine nat_bind fun _ => ?_ | rfl
theorem impl_Twice_1.eq (k : Nat) (a0 : Int) (a1_0z : Bool) (a1_0 : List T) (a2_0z : Bool) (a2_0 : List T) : answer Try.prog impl_Twice_1.Cs 100000 impl_Twice_1.cuts [] Try.f120 (k + 1) [.v (.int .i64 a0), .v (.ptr [(.sl 44 a1_0z a1_0)]), .v (.ptr [(.sl 33 a2_0z a2_0)])] = (impl_Twice_1.f (k + 1) a0 a1_0z a1_0 a2_0z a2_0).map impl_Twice_1.enc := by
  refine (impl_Twice_1.s k a0 a1_0z a1_0 a2_0z a2_0).trans (Eq.trans ?_ (impl_Twice_1.b_nat impl_Twice_1.enc some k a0 a1_0z a1_0 a2_0z a2_0))
  simp only [Option.map_some]
theorem impl_Twice_1.sound (k : Nat) : SoundF Try.prog 120 (fun a => (impl_Twice_1.ans k a).val) := by
  refine sound_plain (fun args res h => ?_) (fun t n => rfl)
  unfold impl_Twice_1.ans at h
  dsimp only at h
  split at h
  · cases k with
    | zero => cases h
    | succ k =>
      unfold Ans.val at h
      rw [← impl_Twice_1.eq] at h
      exact answer_sound mixed Try.func120 _ _ _ (k + 1) (fun j _ => tab_sound (tab_cons (impl_hasVote.sound j) (tab_nil))) _ _ h
  · exact (Ans.no_val h).elim

/-! loop.example/g00790/impl.BitsSize -/
def impl_BitsSize.b {R : Type} (ret : Int → Option R) (k : Nat) (a0 : Int) : Option R :=
  cond (decide (a0 < 1)) (ret 0) (ret (RowKit.wrap64 ((RowKit.wrap64 (Int.tdiv (RowKit.wrap64 (a0 - 1)) 8)) + 1)))
def impl_BitsSize.f : Nat → Int → Option Int
  | 0, _ => none
  | k + 1, a0 => impl_BitsSize.b some k a0
def impl_BitsSize.enc (r : Int) : Res := ⟨[.vals false [((.int .i64 r), true)]], []⟩
def impl_BitsSize.ans (k : Nat) : List Arg → Ans
  | [.v (.int .i64 a0)] => ⟨impl_BitsSize.f k a0, impl_BitsSize.enc⟩
  | _ => Ans.no
def impl_BitsSize.Cs (k : Nat) : CallSem := tab []
def impl_BitsSize.cuts : List (Nat × Keep) := []
theorem impl_BitsSize.s (k : Nat) (a0 : Int) : answer Try.prog impl_BitsSize.Cs 100000 impl_BitsSize.cuts [] Try.f153 (k + 1) [.v (.int .i64 a0)] = impl_BitsSize.b (fun r => some (impl_BitsSize.enc r)) k a0 := by kernel_rfl
theorem impl_BitsSize.b_nat {R R' : Type} (e : R → R') (ret : Int → Option R) (k : Nat) (a0 : Int) : impl_BitsSize.b (fun r => (ret r).map e) k a0 = (impl_BitsSize.b ret k a0).map e := by
  unfold impl_BitsSize.b
  repeat' first | with_reducible refine nat_cond ?_ ?_ | with_reducible refine nat_bind fun _ => ?_ | rfl
theorem impl_BitsSize.eq (k : Nat) (a0 : Int) : answer Try.prog impl_BitsSize.Cs 100000 impl_BitsSize.cuts [] Try.f153 (k + 1) [.v (.int .i64 a0)] = (impl_BitsSize.f (k + 1) a0).map impl_BitsSize.enc := by
  refine (impl_BitsSize.s k a0).trans (Eq.trans ?_ (impl_BitsSize.b_nat impl_BitsSize.enc some k a0))
  simp only [Option.map_some]
theorem impl_BitsSize.sound (k : Nat) : SoundF Try.prog 153 (fun a => (impl_BitsSize.ans k a).val) := by
  refine sound_plain (fun args res h => ?_) (fun t n => rfl)
  unfold impl_BitsSize.ans at h
  dsimp only at h
  split at h
  · cases k with
    | zero => cases h
    | succ k =>
      unfold Ans.val at h
      rw [← impl_BitsSize.eq] at h
      exact answer_sound mixed Try.func153 _ _ _ (k + 1) (fun j _ => tab_sound (tab_nil)) _ _ h
  · exact (Ans.no_val h).elim

/-! loop.example/g00790/impl.BitsNew -/
def impl_BitsNew.b {R : Type} (ret : Bool × List Int → Option R) (k : Nat) (a0 : Int) : Option R :=
  (impl_within.f k a0 1 10).bind fun t0 => cond (!t0) (ret (true, ([] : List Int))) ((impl_BitsSize.f k a0).bind fun t1 => cond (decide (t1 = t1)) (cond (decide ((0 : Int) ≤ t1)) (cond (decide ((t1).toNat < 140737488355328)) (ret (false, (List.replicate (t1).toNat (0 : Int)))) (none)) (none)) (none))
def impl_BitsNew.f : Nat → Int → Option (Bool × List Int)
  | 0, _ => none
  | k + 1, a0 => impl_BitsNew.b some k a0
def impl_BitsNew.enc (r : Bool × List Int) : Res := ⟨[.vals false [((.nums 5 .u8 r.1 r.2), true)]], []⟩
def impl_BitsNew.ans (k : Nat) : List Arg → Ans
  | [.v (.int .i64 a0)] => ⟨impl_BitsNew.f k a0, impl_BitsNew.enc⟩
  | _ => Ans.no
def impl_BitsNew.Cs (k : Nat) : CallSem := tab [(79, impl_within.ans k), (153, impl_BitsSize.ans k)]
def impl_BitsNew.cuts : List (Nat × Keep) := []
theorem impl_BitsNew.s (k : Nat) (a0 : Int) : answer Try.prog impl_BitsNew.Cs 100000 impl_BitsNew.cuts [] Try.f154 (k + 1) [.v (.int .i64 a0)] = impl_BitsNew.b (fun r => some (impl_BitsNew.enc r)) k a0 := by kernel_rfl
theorem impl_BitsNew.b_nat {R R' : Type} (e : R → R') (ret : Bool × List Int → Option R) (k : Nat) (a0 : Int) : impl_BitsNew.b (fun r => (ret r).map e) k a0 = (impl_BitsNew.b ret k a0).map e := by
  unfold impl_BitsNew.b
  repeat' first | with_reducible refine nat_cond ?_ ?_ | with_reducible refine nat_bind fun _ => ?_ | rfl
theorem impl_BitsNew.eq (k : Nat) (a0 : Int) : answer Try.prog impl_BitsNew.Cs 100000 impl_BitsNew.cuts [] Try.f154 (k + 1) [.v (.int .i64 a0)] = (impl_BitsNew.f (k + 1) a0).map impl_BitsNew.enc := by
  refine (impl_BitsNew.s k a0).trans (Eq.trans ?_ (impl_BitsNew.b_nat impl_BitsNew.enc some k a0))
  simp only [Option.map_some]
theorem impl_BitsNew.sound (k : Nat) : SoundF Try.prog 154 (fun a => (impl_BitsNew.ans k a).val) := by
  refine sound_plain (fun args res h => ?_) (fun t n => rfl)
  unfold impl_BitsNew.ans at h
  dsimp only at h
  split at h
  · cases k with
    | zero => cases h
    | succ k =>
      unfold Ans.val at h
      rw [← impl_BitsNew.eq] at h
      exact answer_sound mixed Try.func154 _ _ _ (k + 1) (fun j _ => tab_sound (tab_cons (impl_within.sound j) (tab_cons (impl_BitsSize.sound j) (tab_nil)))) _ _ h
  · exact (Ans.no_val h).elim

/-! loop.example/g00790/impl.BitsOf -/
def impl_BitsOf.b {R : Type} (ret : Bool × (List Int) × Bool → Option R) (j0 : Int → Bool → (List Int) → Bool → (List Int) → Int → Int → Option R) (k : Nat) (a0z : Bool) (a0 : List Int) (a1 : Int) : Option R :=
  (impl_within.f k a1 1 10).bind fun t0 => cond (!t0) (ret (true, ([] : List Int), false)) ((impl_BitsNew.f k a1).bind fun t1 => j0 a1 t1.1 t1.2 a0z a0 ((a0).length : Int) 0)
def impl_BitsOf.l0b {R : Type} (ret : Bool × (List Int) × Bool → Option R) (j0 : Int → Bool → (List Int) → Bool → (List Int) → Int → Int → Option R) (k : Nat) (x1 : Int) (x6z : Bool) (x6 : List Int) (x14z : Bool) (x14 : List Int) (x15 : Int) (x16 : Int) : Option R :=
  cond (decide (x16 < x15)) (cond (decide ((0 : Int) ≤ x16)) (cond (decide (x16 < ((x14).length : Int))) ((impl_within.f k (rdI x14 x16) 0 (RowKit.wrap64 (x1 - 1))).bind fun t0 => cond (!t0) (ret (true, ([] : List Int), false)) (cond (decide ((0 : Int) ≤ (RowKit.wrap64 (Int.tdiv (rdI x14 x16) 8)))) (cond (decide ((RowKit.wrap64 (Int.tdiv (rdI x14 x16) 8)) < ((x6).length : Int))) (cond (decide ((0 : Int) ≤ (Int.tmod (rdI x14 x16) 8))) (cond (decide ((0 : Int) ≤ (RowKit.wrap64 (Int.tdiv (rdI x14 x16) 8)))) (cond (decide ((RowKit.wrap64 (Int.tdiv (rdI x14 x16) 8)) < ((x6).length : Int))) (j0 x1 x6z ((x6).set ((RowKit.wrap64 (Int.tdiv (rdI x14 x16) 8))).toNat (Go.bits .or .u8 (rdI x6 (RowKit.wrap64 (Int.tdiv (rdI x14 x16) 8))) (shlI .u8 1 (Int.tmod (rdI x14 x16) 8)))) x14z x14 x15 (RowKit.wrap64 (x16 + 1))) (none)) (none)) (none)) (none)) (none))) (none)) (none)) (ret (x6z, x6, true))
def impl_BitsOf.l0 : Nat → Int → Bool → (List Int) → Bool → (List Int) → Int → Int → Option (Bool × (List Int) × Bool)
  | 0, _, _, _, _, _, _, _ => none
  | k + 1, x1, x6z, x6, x14z, x14, x15, x16 => impl_BitsOf.l0b some (impl_BitsOf.l0 k) k x1 x6z x6 x14z x14 x15 x16
def impl_BitsOf.f : Nat → Bool → (List Int) → Int → Option (Bool × (List Int) × Bool)
  | 0, _, _, _ => none
  | k + 1, a0z, a0, a1 => impl_BitsOf.b some (impl_BitsOf.l0 k) k a0z a0 a1
def impl_BitsOf.enc (r : Bool × (List Int) × Bool) : Res := ⟨[.vals false [((.nums 5 .u8 r.1 r.2.1), true)], .vals false [((.bool r.2.2), true)]], []⟩
def impl_BitsOf.ans (k : Nat) : List Arg → Ans
  | [.v (.nums 3 .i64 a0z a0), .v (.int .i64 a1)] => ⟨impl_BitsOf.f k a0z a0 a1, impl_BitsOf.enc⟩
  | _ => Ans.no
def impl_BitsOf.Cs (k : Nat) : CallSem := tab [(79, impl_within.ans k), (154, impl_BitsNew.ans k)]
def impl_BitsOf.cuts : List (Nat × Keep) := [(122, ⟨[(1, some []), (6, none), (14, some []), (15, some []), (16, some [])], []⟩)]
noncomputable def impl_BitsOf.K0 : List Fr := framesAt [true, true, true, false, true, false] (bodyOf Try.f94 impl_BitsOf.cuts) []
def impl_BitsOf.N0 (x1 : Int) (x6z : Bool) (x6 : List Int) (x14z : Bool) (x14 : List Int) (x15 : Int) (x16 : Int) : St := stOf 37 37 2 [(1, .val (V.s (.int .i64 x1))), (6, .val ⟨(.nums 5 .u8 x6z x6), [.l 6 0], true, some (.l 6 0)⟩), (14, .val ⟨(.nums 3 .i64 x14z x14), [], false, none⟩), (15, .val (V.s (.int .i64 x15))), (16, .val (V.s (.int .i64 x16)))] []
theorem impl_BitsOf.s (k : Nat) (a0z : Bool) (a0 : List Int) (a1 : Int) : answer Try.prog impl_BitsOf.Cs 100000 impl_BitsOf.cuts [] Try.f94 (k + 1) [.v (.nums 3 .i64 a0z a0), .v (.int .i64 a1)] = impl_BitsOf.b (fun r => some (impl_BitsOf.enc r)) (fun x1 x6z x6 x14z x14 x15 x16 => rounds Try.prog impl_BitsOf.Cs (finish Try.prog [] Try.f94 [.v (.nums 3 .i64 a0z a0), .v (.int .i64 a1)]) 100000 k impl_BitsOf.K0 (impl_BitsOf.N0 x1 x6z x6 x14z x14 x15 x16)) k a0z a0 a1 := by kernel_rfl
theorem impl_BitsOf.s0 (k : Nat) (G : List Fr → St → Option Res) (a0z : Bool) (a0 : List Int) (a1 : Int) (yx1 : Int) (yx6z : Bool) (yx6 : List Int) (yx14z : Bool) (yx14 : List Int) (yx15 : Int) (yx16 : Int) : resume Try.prog (impl_BitsOf.Cs k) G (finish Try.prog [] Try.f94 [.v (.nums 3 .i64 a0z a0), .v (.int .i64 a1)]) 100000 impl_BitsOf.K0 (impl_BitsOf.N0 yx1 yx6z yx6 yx14z yx14 yx15 yx16) = impl_BitsOf.l0b (fun r => some (impl_BitsOf.enc r)) (fun x1 x6z x6 x14z x14 x15 x16 => G impl_BitsOf.K0 (impl_BitsOf.N0 x1 x6z x6 x14z x14 x15 x16)) k yx1 yx6z yx6 yx14z yx14 yx15 yx16 := by kernel_rfl
theorem impl_BitsOf.b_nat {R R' : Type} (e : R → R') (ret : Bool × (List Int) × Bool → Option R) (j0 : Int → Bool → (List Int) → Bool → (List Int) → Int → Int → Option R) (k : Nat) (a0z : Bool) (a0 : List Int) (a1 : Int) : impl_BitsOf.b (fun r => (ret r).map e) (fun x1 x6z x6 x14z x14 x15 x16 => (j0 x1 x6z x6 x14z x14 x15 x16).map e) k a0z a0 a1 = (impl_BitsOf.b ret j0 k a0z a0 a1).map e := by
  unfold impl_BitsOf.b
  repeat' first | with_reducible refine nat_cond ?_ ?_ | with_reducible refine nat_bind fun _ => ?_ | rfl
theorem impl_BitsOf.l0b_nat {R R' : Type} (e : R → R') (ret : Bool × (List Int) × Bool → Option R) (j0 : Int → Bool → (List Int) → Bool → (List Int) → Int → Int → Option R) (k : Nat) (x1 : Int) (x6z : Bool) (x6 : List Int) (x14z : Bool) (x14 : List Int) (x15 : Int) (x16 : Int) : impl_BitsOf.l0b (fun r => (ret r).map e) (fun x1 x6z x6 x14z x14 x15 x16 => (j0 x1 x6z x6 x14z x14 x15 x16).map e) k x1 x6z x6 x14z x14 x15 x16 = (impl_BitsOf.l0b ret j0 k x1 x6z x6 x14z x14 x15 x16).map e := by
  unfold impl_BitsOf.l0b
  repeat' first | with_reducible refine nat_cond ?_ ?_ | with_reducible refine nat_bind fun _ => ?_ | rfl
theorem impl_BitsOf.rounds_eq (a0z : Bool) (a0 : List Int) (a1 : Int) : ∀ k, (∀ (x1 : Int) (x6z : Bool) (x6 : List Int) (x14z : Bool) (x14 : List Int) (x15 : Int) (x16 : Int), rounds Try.prog impl_BitsOf.Cs (finish Try.prog [] Try.f94 [.v (.nums 3 .i64 a0z a0), .v (.int .i64 a1)]) 100000 k impl_BitsOf.K0 (impl_BitsOf.N0 x1 x6z x6 x14z x14 x15 x16) = (impl_BitsOf.l0 k x1 x6z x6 x14z x14 x15 x16).map impl_BitsOf.enc)
  | 0 => fun _ _ _ _ _ _ _ => rfl
  | k + 1 => by
    have ih := impl_BitsOf.rounds_eq a0z a0 a1 k
    refine fun _ _ _ _ _ _ _ => ?_
    · refine (impl_BitsOf.s0 k _ a0z a0 a1 _ _ _ _ _ _ _).trans (Eq.trans ?_ (impl_BitsOf.l0b_nat impl_BitsOf.enc some (impl_BitsOf.l0 k) k _ _ _ _ _ _ _))
      simp only [ih, Option.map_some]
theorem impl_BitsOf.eq (k : Nat) (a0z : Bool) (a0 : List Int) (a1 : Int) : answer Try.prog impl_BitsOf.Cs 100000 impl_BitsOf.cuts [] Try.f94 (k + 1) [.v (.nums 3 .i64 a0z a0), .v (.int .i64 a1)] = (impl_BitsOf.f (k + 1) a0z a0 a1).map impl_BitsOf.enc := by
  have ih := impl_BitsOf.rounds_eq a0z a0 a1 k
  refine (impl_BitsOf.s k a0z a0 a1).trans (Eq.trans ?_ (impl_BitsOf.b_nat impl_BitsOf.enc some (impl_BitsOf.l0 k) k a0z a0 a1))
  simp only [ih, Option.map_some]
theorem impl_BitsOf.sound (k : Nat) : SoundF Try.prog 94 (fun a => (impl_BitsOf.ans k a).val) := by
  refine sound_plain (fun args res h => ?_) (fun t n => rfl)
  unfold impl_BitsOf.ans at h
  dsimp only at h
  split at h
  · cases k with
    | zero => cases h
    | succ k =>
      unfold Ans.val at h
      rw [← impl_BitsOf.eq] at h
      exact answer_sound mixed Try.func94 _ _ _ (k + 1) (fun j _ => tab_sound (tab_cons (impl_within.sound j) (tab_cons (impl_BitsNew.sound j) (tab_nil)))) _ _ h
  · exact (Ans.no_val h).elim

/-! loop.example/g00790/impl.whoOf -/
def impl_whoOf.b {R : Type} (ret : Bool × List Int → Option R) (j0 : Bool → (List T) → Bool → (List T) → (List Int) → Int → Int → Bool → (List T) → Option R) (k : Nat) (a0_0z : Bool) (a0_0 : List T) (a1_0_0z : Bool) (a1_0_0 : List T) (a1_1_0z : Bool) (a1_1_0 : List T) : Option R :=
  (impl_TableOk.f k a0_0z a0_0).bind fun t0 => cond (!t0) (ret (true, ([] : List Int))) (j0 a1_0_0z a1_0_0 a1_1_0z a1_1_0 ([] : List Int) ((a0_0).length : Int) 0 a0_0z a0_0)
def impl_whoOf.l0b {R : Type} (ret : Bool × List Int → Option R) (j0 : Bool → (List T) → Bool → (List T) → (List Int) → Int → Int → Bool → (List T) → Option R) (k : Nat) (x1_0_0z : Bool) (x1_0_0 : List T) (x1_1_0z : Bool) (x1_1_0 : List T) (x5 : List Int) (x15 : Int) (x16 : Int) (c2_0z : Bool) (c2_0 : List T) : Option R :=
  cond (decide (x16 < x15)) ((impl_Twice_1.f k x16 x1_0_0z x1_0_0 x1_1_0z x1_1_0).bind fun t0 => cond t0 (cond (decide ((x5).length + 1 < 17592186044416)) (j0 x1_0_0z x1_0_0 x1_1_0z x1_1_0 (x5 ++ ([x16] : List Int)) x15 (RowKit.wrap64 (x16 + 1)) c2_0z c2_0) (none)) (j0 x1_0_0z x1_0_0 x1_1_0z x1_1_0 x5 x15 (RowKit.wrap64 (x16 + 1)) c2_0z c2_0)) ((impl_BitsOf.f k false x5 ((c2_0).length : Int)).bind fun t0 => ret (t0.1, t0.2.1))
def impl_whoOf.l0 : Nat → Bool → (List T) → Bool → (List T) → (List Int) → Int → Int → Bool → (List T) → Option (Bool × List Int)
  | 0, _, _, _, _, _, _, _, _, _ => none
  | k + 1, x1_0_0z, x1_0_0, x1_1_0z, x1_1_0, x5, x15, x16, c2_0z, c2_0 => impl_whoOf.l0b some (impl_whoOf.l0 k) k x1_0_0z x1_0_0 x1_1_0z x1_1_0 x5 x15 x16 c2_0z c2_0
def impl_whoOf.f : Nat → Bool → (List T) → Bool → (List T) → Bool → (List T) → Option (Bool × List Int)
  | 0, _, _, _, _, _, _ => none
  | k + 1, a0_0z, a0_0, a1_0_0z, a1_0_0, a1_1_0z, a1_1_0 => impl_whoOf.b some (impl_whoOf.l0 k) k a0_0z a0_0 a1_0_0z a1_0_0 a1_1_0z a1_1_0
def impl_whoOf.enc (r : Bool × List Int) : Res := ⟨[.vals false [((.nums 5 .u8 r.1 r.2), true)]], []⟩
def impl_whoOf.ans (k : Nat) : List Arg → Ans
  | [.v (.agg [(.sl 44 a0_0z a0_0)]), .v (.fn 120 [(.ptr [(.sl 44 a1_0_0z a1_0_0)]), (.ptr [(.sl 33 a1_1_0z a1_1_0)])])] => ⟨impl_whoOf.f k a0_0z a0_0 a1_0_0z a1_0_0 a1_1_0z a1_1_0, impl_whoOf.enc⟩
  | _ => Ans.no
def impl_whoOf.Cs (k : Nat) : CallSem := tab [(78, impl_TableOk.ans k), (120, impl_Twice_1.ans k), (94, impl_BitsOf.ans k)]
def impl_whoOf.cuts : List (Nat × Keep) := [(122, ⟨[(1, some []), (2, some []), (5, none), (15, some []), (16, some [])], [(2, [some []])]⟩)]
noncomputable def impl_whoOf.K0 : List Fr := framesAt [true, true, true, false, true, false] (bodyOf Try.f108 impl_whoOf.cuts) []
def impl_whoOf.N0 (x1_0_0z : Bool) (x1_0_0 : List T) (x1_1_0z : Bool) (x1_1_0 : List T) (x5 : List Int) (x15 : Int) (x16 : Int) (c2_0z : Bool) (c2_0 : List T) : St := stOf 36 36 2 [(1, .val ⟨(.fn 120 [(.ptr [(.sl 44 x1_0_0z x1_0_0)]), (.ptr [(.sl 33 x1_1_0z x1_1_0)])]), [], false, none⟩), (2, .bp 2 0), (5, .val ⟨(.nums 3 .i64 false x5), [.l 5 0], true, some (.l 5 0)⟩), (15, .val (V.s (.int .i64 x15))), (16, .val (V.s (.int .i64 x16)))] [(2, .cells [⟨(.sl 44 c2_0z c2_0), [], false, none⟩])]
theorem impl_whoOf.s (k : Nat) (a0_0z : Bool) (a0_0 : List T) (a1_0_0z : Bool) (a1_0_0 : List T) (a1_1_0z : Bool) (a1_1_0 : List T) : answer Try.prog impl_whoOf.Cs 100000 impl_whoOf.cuts [] Try.f108 (k + 1) [.v (.agg [(.sl 44 a0_0z a0_0)]), .v (.fn 120 [(.ptr [(.sl 44 a1_0_0z a1_0_0)]), (.ptr [(.sl 33 a1_1_0z a1_1_0)])])] = impl_whoOf.b (fun r => some (impl_whoOf.enc r)) (fun x1_0_0z x1_0_0 x1_1_0z x1_1_0 x5 x15 x16 c2_0z c2_0 => rounds Try.prog impl_whoOf.Cs (finish Try.prog [] Try.f108 [.v (.agg [(.sl 44 a0_0z a0_0)]), .v (.fn 120 [(.ptr [(.sl 44 a1_0_0z a1_0_0)]), (.ptr [(.sl 33 a1_1_0z a1_1_0)])])]) 100000 k impl_whoOf.K0 (impl_whoOf.N0 x1_0_0z x1_0_0 x1_1_0z x1_1_0 x5 x15 x16 c2_0z c2_0)) k a0_0z a0_0 a1_0_0z a1_0_0 a1_1_0z a1_1_0 := by kernel_rfl
theorem impl_whoOf.s0 (k : Nat) (G : List Fr → St → Option Res) (a0_0z : Bool) (a0_0 : List T) (a1_0_0z : Bool) (a1_0_0 : List T) (a1_1_0z : Bool) (a1_1_0 : List T) (yx1_0_0z : Bool) (yx1_0_0 : List T) (yx1_1_0z : Bool) (yx1_1_0 : List T) (yx5 : List Int) (yx15 : Int) (yx16 : Int) (yc2_0z : Bool) (yc2_0 : List T) : resume Try.prog (impl_whoOf.Cs k) G (finish Try.prog [] Try.f108 [.v (.agg [(.sl 44 a0_0z a0_0)]), .v (.fn 120 [(.ptr [(.sl 44 a1_0_0z a1_0_0)]), (.ptr [(.sl 33 a1_1_0z a1_1_0)])])]) 100000 impl_whoOf.K0 (impl_whoOf.N0 yx1_0_0z yx1_0_0 yx1_1_0z yx1_1_0 yx5 yx15 yx16 yc2_0z yc2_0) = impl_whoOf.l0b (fun r => some (impl_whoOf.enc r)) (fun x1_0_0z x1_0_0 x1_1_0z x1_1_0 x5 x15 x16 c2_0z c2_0 => G impl_whoOf.K0 (impl_whoOf.N0 x1_0_0z x1_0_0 x1_1_0z x1_1_0 x5 x15 x16 c2_0z c2_0)) k yx1_0_0z yx1_0_0 yx1_1_0z yx1_1_0 yx5 yx15 yx16 yc2_0z yc2_0 := by kernel_rfl
theorem impl_whoOf.b_nat {R R' : Type} (e : R → R') (ret : Bool × List Int → Option R) (j0 : Bool → (List T) → Bool → (List T) → (List Int) → Int → Int → Bool → (List T) → Option R) (k : Nat) (a0_0z : Bool) (a0_0 : List T) (a1_0_0z : Bool) (a1_0_0 : List T) (a1_1_0z : Bool) (a1_1_0 : List T) : impl_whoOf.b (fun r => (ret r).map e) (fun x1_0_0z x1_0_0 x1_1_0z x1_1_0 x5 x15 x16 c2_0z c2_0 => (j0 x1_0_0z x1_0_0 x1_1_0z x1_1_0 x5 x15 x16 c2_0z c2_0).map e) k a0_0z a0_0 a1_0_0z a1_0_0 a1_1_0z a1_1_0 = (impl_whoOf.b ret j0 k a0_0z a0_0 a1_0_0z a1_0_0 a1_1_0z a1_1_0).map e := by
  unfold impl_whoOf.b
  repeat' first | with_reducible refine nat_cond ?_ ?_ | with_reducible refine nat_bind fun _ => ?_ | rfl
theorem impl_whoOf.l0b_nat {R R' : Type} (e : R → R') (ret : Bool × List Int → Option R) (j0 : Bool → (List T) → Bool → (List T) → (List Int) → Int → Int → Bool → (List T) → Option R) (k : Nat) (x1_0_0z : Bool) (x1_0_0 : List T) (x1_1_0z : Bool) (x1_1_0 : List T) (x5 : List Int) (x15 : Int) (x16 : Int) (c2_0z : Bool) (c2_0 : List T) : impl_whoOf.l0b (fun r => (ret r).map e) (fun x1_0_0z x1_0_0 x1_1_0z x1_1_0 x5 x15 x16 c2_0z c2_0 => (j0 x1_0_0z x1_0_0 x1_1_0z x1_1_0 x5 x15 x16 c2_0z c2_0).map e) k x1_0_0z x1_0_0 x1_1_0z x1_1_0 x5 x15 x16 c2_0z c2_0 = (impl_whoOf.l0b ret j0 k x1_0_0z x1_0_0 x1_1_0z x1_1_0 x5 x15 x16 c2_0z c2_0).map e := by
  unfold impl_whoOf.l0b
  repeat' first | with_reducible refine nat_cond ?_ ?_ | with_reducible refine nat_bind fun _ => ?_ | rfl
theorem impl_whoOf.rounds_eq (a0_0z : Bool) (a0_0 : List T) (a1_0_0z : Bool) (a1_0_0 : List T) (a1_1_0z : Bool) (a1_1_0 : List T) : ∀ k, (∀ (x1_0_0z : Bool) (x1_0_0 : List T) (x1_1_0z : Bool) (x1_1_0 : List T) (x5 : List Int) (x15 : Int) (x16 : Int) (c2_0z : Bool) (c2_0 : List T), rounds Try.prog impl_whoOf.Cs (finish Try.prog [] Try.f108 [.v (.agg [(.sl 44 a0_0z a0_0)]), .v (.fn 120 [(.ptr [(.sl 44 a1_0_0z a1_0_0)]), (.ptr [(.sl 33 a1_1_0z a1_1_0)])])]) 100000 k impl_whoOf.K0 (impl_whoOf.N0 x1_0_0z x1_0_0 x1_1_0z x1_1_0 x5 x15 x16 c2_0z c2_0) = (impl_whoOf.l0 k x1_0_0z x1_0_0 x1_1_0z x1_1_0 x5 x15 x16 c2_0z c2_0).map impl_whoOf.enc)
  | 0 => fun _ _ _ _ _ _ _ _ _ => rfl
  | k + 1 => by
    have ih := impl_whoOf.rounds_eq a0_0z a0_0 a1_0_0z a1_0_0 a1_1_0z a1_1_0 k
    refine fun _ _ _ _ _ _ _ _ _ => ?_
    · refine (impl_whoOf.s0 k _ a0_0z a0_0 a1_0_0z a1_0_0 a1_1_0z a1_1_0 _ _ _ _ _ _ _ _ _).trans (Eq.trans ?_ (impl_whoOf.l0b_nat impl_whoOf.enc some (impl_whoOf.l0 k) k _ _ _ _ _ _ _ _ _))
      simp only [ih, Option.map_some]
theorem impl_whoOf.eq (k : Nat) (a0_0z : Bool) (a0_0 : List T) (a1_0_0z : Bool) (a1_0_0 : List T) (a1_1_0z : Bool) (a1_1_0 : List T) : answer Try.prog impl_whoOf.Cs 100000 impl_whoOf.cuts [] Try.f108 (k + 1) [.v (.agg [(.sl 44 a0_0z a0_0)]), .v (.fn 120 [(.ptr [(.sl 44 a1_0_0z a1_0_0)]), (.ptr [(.sl 33 a1_1_0z a1_1_0)])])] = (impl_whoOf.f (k + 1) a0_0z a0_0 a1_0_0z a1_0_0 a1_1_0z a1_1_0).map impl_whoOf.enc := by
  have ih := impl_whoOf.rounds_eq a0_0z a0_0 a1_0_0z a1_0_0 a1_1_0z a1_1_0 k
  refine (impl_whoOf.s k a0_0z a0_0 a1_0_0z a1_0_0 a1_1_0z a1_1_0).trans (Eq.trans ?_ (impl_whoOf.b_nat impl_whoOf.enc some (impl_whoOf.l0 k) k a0_0z a0_0 a1_0_0z a1_0_0 a1_1_0z a1_1_0))
  simp only [ih, Option.map_some]
theorem impl_whoOf.sound (k : Nat) : SoundF Try.prog 108 (fun a => (impl_whoOf.ans k a).val) := by
  refine sound_plain (fun args res h => ?_) (fun t n => rfl)
  unfold impl_whoOf.ans at h
  dsimp only at h
  split at h
  · cases k with
    | zero => cases h
    | succ k =>
      unfold Ans.val at h
      rw [← impl_whoOf.eq] at h
      exact answer_sound mixed Try.func108 _ _ _ (k + 1) (fun j _ => tab_sound (tab_cons (impl_TableOk.sound j) (tab_cons (impl_Twice_1.sound j) (tab_cons (impl_BitsOf.sound j) (tab_nil))))) _ _ h
  · exact (Ans.no_val h).elim

/-! loop.example/g00790/impl.Twice -/
def impl_Twice.b {R : Type} (ret : Bool × List Int → Option R) (k : Nat) (a0_0z : Bool) (a0_0 : List T) (a1z : Bool) (a1 : List T) : Option R :=
  (impl_whoOf.f k a0_0z a0_0 a0_0z a0_0 a1z a1).bind fun t0 => ret (t0.1, t0.2)
def impl_Twice.f : Nat → Bool → (List T) → Bool → (List T) → Option (Bool × List Int)
  | 0, _, _, _, _ => none
  | k + 1, a0_0z, a0_0, a1z, a1 => impl_Twice.b some k a0_0z a0_0 a1z a1
def impl_Twice.enc (r : Bool × List Int) : Res := ⟨[.vals false [((.nums 5 .u8 r.1 r.2), true)]], []⟩
def impl_Twice.ans (k : Nat) : List Arg → Ans
  | [.v (.agg [(.sl 44 a0_0z a0_0)]), .v (.sl 33 a1z a1)] => ⟨impl_Twice.f k a0_0z a0_0 a1z a1, impl_Twice.enc⟩
  | _ => Ans.no
def impl_Twice.Cs (k : Nat) : CallSem := tab [(108, impl_whoOf.ans k)]
def impl_Twice.cuts : List (Nat × Keep) := []
theorem impl_Twice.s (k : Nat) (a0_0z : Bool) (a0_0 : List T) (a1z : Bool) (a1 : List T) : answer Try.prog impl_Twice.Cs 100000 impl_Twice.cuts [] Try.f47 (k + 1) [.v (.agg [(.sl 44 a0_0z a0_0)]), .v (.sl 33 a1z a1)] = impl_Twice.b (fun r => some (impl_Twice.enc r)) k a0_0z a0_0 a1z a1 := by kernel_rfl
theorem impl_Twice.b_nat {R R' : Type} (e : R → R') (ret : Bool × List Int → Option R) (k : Nat) (a0_0z : Bool) (a0_0 : List T) (a1z : Bool) (a1 : List T) : impl_Twice.b (fun r => (ret r).map e) k a0_0z a0_0 a1z a1 = (impl_Twice.b ret k a0_0z a0_0 a1z a1).map e := by
  unfold impl_Twice.b
  repeat' first | with_reducible refine nat_cond ?_ ?_ | with_reducible refine nat_bind fun _ => ?_ | rfl
theorem impl_Twice.eq (k : Nat) (a0_0z : Bool) (a0_0 : List T) (a1z : Bool) (a1 : List T) : answer Try.prog impl_Twice.Cs 100000 impl_Twice.cuts [] Try.f47 (k + 1) [.v (.agg [(.sl 44 a0_0z a0_0)]), .v (.sl 33 a1z a1)] = (impl_Twice.f (k + 1) a0_0z a0_0 a1z a1).map impl_Twice.enc := by
  refine (impl_Twice.s k a0_0z a0_0 a1z a1).trans (Eq.trans ?_ (impl_Twice.b_nat impl_Twice.enc some k a0_0z a0_0 a1z a1))
  simp only [Option.map_some]
theorem impl_Twice.sound (k : Nat) : SoundF Try.prog 47 (fun a => (impl_Twice.ans k a).val) := by
  refine sound_plain (fun args res h => ?_) (fun t n => rfl)
  unfold impl_Twice.ans at h
  dsimp only at h
  split at h
  · cases k with
    | zero => cases h
    | succ k =>
      unfold Ans.val at h
      rw [← impl_Twice.eq] at h
      exact answer_sound mixed Try.func47 _ _ _ (k + 1) (fun j _ => tab_sound (tab_cons (impl_whoOf.sound j) (tab_nil))) _ _ h
  · exact (Ans.no_val h).elim

/-! loop.example/g00790/laws.eqByteS -/
def laws_eqByteS.b {R : Type} (ret : Bool → Option R) (j0 : Bool → (List Int) → Bool → (List Int) → Int → Option R) (k : Nat) (a0z : Bool) (a0 : List Int) (a1z : Bool) (a1 : List Int) : Option R :=
  cond (!(decide (((a0).length : Int) = ((a1).length : Int)))) (ret false) (j0 a0z a0 a1z a1 0)
def laws_eqByteS.l0b {R : Type} (ret : Bool → Option R) (j0 : Bool → (List Int) → Bool → (List Int) → Int → Option R) (k : Nat) (x0z : Bool) (x0 : List Int) (x1z : Bool) (x1 : List Int) (x5 : Int) : Option R :=
  cond (decide (x5 < ((x0).length : Int))) (cond (decide ((0 : Int) ≤ x5)) (cond (decide (x5 < ((x0).length : Int))) (cond (decide ((0 : Int) ≤ x5)) (cond (decide (x5 < ((x1).length : Int))) (cond (!(decide ((rdI x0 x5) = (rdI x1 x5)))) (ret false) (j0 x0z x0 x1z x1 (RowKit.wrap64 (x5 + 1)))) (none)) (none)) (none)) (none)) (ret true)
def laws_eqByteS.l0 : Nat → Bool → (List Int) → Bool → (List Int) → Int → Option Bool
  | 0, _, _, _, _, _ => none
  | k + 1, x0z, x0, x1z, x1, x5 => laws_eqByteS.l0b some (laws_eqByteS.l0 k) k x0z x0 x1z x1 x5
def laws_eqByteS.f : Nat → Bool → (List Int) → Bool → (List Int) → Option Bool
  | 0, _, _, _, _ => none
  | k + 1, a0z, a0, a1z, a1 => laws_eqByteS.b some (laws_eqByteS.l0 k) k a0z a0 a1z a1
def laws_eqByteS.enc (r : Bool) : Res := ⟨[.vals false [((.bool r), true)]], []⟩
def laws_eqByteS.ans (k : Nat) : List Arg → Ans
  | [.v (.nums 5 .u8 a0z a0), .v (.nums 5 .u8 a1z a1)] => ⟨laws_eqByteS.f k a0z a0 a1z a1, laws_eqByteS.enc⟩
  | _ => Ans.no
def laws_eqByteS.Cs (k : Nat) : CallSem := tab []
def laws_eqByteS.cuts : List (Nat × Keep) := [(58, ⟨[(0, some []), (1, some []), (5, some [])], []⟩)]
noncomputable def laws_eqByteS.K0 : List Fr := framesAt [true, true, false, true, false] (bodyOf Try.f67 laws_eqByteS.cuts) []
def laws_eqByteS.N0 (x0z : Bool) (x0 : List Int) (x1z : Bool) (x1 : List Int) (x5 : Int) : St := stOf 26 26 2 [(0, .val ⟨(.nums 5 .u8 x0z x0), [], false, none⟩), (1, .val ⟨(.nums 5 .u8 x1z x1), [], false, none⟩), (5, .val (V.s (.int .i64 x5)))] []
theorem laws_eqByteS.s (k : Nat) (a0z : Bool) (a0 : List Int) (a1z : Bool) (a1 : List Int) : answer Try.prog laws_eqByteS.Cs 100000 laws_eqByteS.cuts [] Try.f67 (k + 1) [.v (.nums 5 .u8 a0z a0), .v (.nums 5 .u8 a1z a1)] = laws_eqByteS.b (fun r => some (laws_eqByteS.enc r)) (fun x0z x0 x1z x1 x5 => rounds Try.prog laws_eqByteS.Cs (finish Try.prog [] Try.f67 [.v (.nums 5 .u8 a0z a0), .v (.nums 5 .u8 a1z a1)]) 100000 k laws_eqByteS.K0 (laws_eqByteS.N0 x0z x0 x1z x1 x5)) k a0z a0 a1z a1 := by kernel_rfl
theorem laws_eqByteS.s0 (k : Nat) (G : List Fr → St → Option Res) (a0z : Bool) (a0 : List Int) (a1z : Bool) (a1 : List Int) (yx0z : Bool) (yx0 : List Int) (yx1z : Bool) (yx1 : List Int) (yx5 : Int) : resume Try.prog (laws_eqByteS.Cs k) G (finish Try.prog [] Try.f67 [.v (.nums 5 .u8 a0z a0), .v (.nums 5 .u8 a1z a1)]) 100000 laws_eqByteS.K0 (laws_eqByteS.N0 yx0z yx0 yx1z yx1 yx5) = laws_eqByteS.l0b (fun r => some (laws_eqByteS.enc r)) (fun x0z x0 x1z x1 x5 => G laws_eqByteS.K0 (laws_eqByteS.N0 x0z x0 x1z x1 x5)) k yx0z yx0 yx1z yx1 yx5 := by kernel_rfl
theorem laws_eqByteS.b_nat {R R' : Type} (e : R → R') (ret : Bool → Option R) (j0 : Bool → (List Int) → Bool → (List Int) → Int → Option R) (k : Nat) (a0z : Bool) (a0 : List Int) (a1z : Bool) (a1 : List Int) : laws_eqByteS.b (fun r => (ret r).map e) (fun x0z x0 x1z x1 x5 => (j0 x0z x0 x1z x1 x5).map e) k a0z a0 a1z a1 = (laws_eqByteS.b ret j0 k a0z a0 a1z a1).map e := by
  unfold laws_eqByteS.b
  repeat' first | with_reducible refine nat_cond ?_ ?_ | with_reducible refine nat_bind fun _ => ?_ | rfl
theorem laws_eqByteS.l0b_nat {R R' : Type} (e : R → R') (ret : Bool → Option R) (j0 : Bool → (List Int) → Bool → (List Int) → Int → Option R) (k : Nat) (x0z : Bool) (x0 : List Int) (x1z : Bool) (x1 : List Int) (x5 : Int) : laws_eqByteS.l0b (fun r => (ret r).map e) (fun x0z x0 x1z x1 x5 => (j0 x0z x0 x1z x1 x5).map e) k x0z x0 x1z x1 x5 = (laws_eqByteS.l0b ret j0 k x0z x0 x1z x1 x5).map e := by
  unfold laws_eqByteS.l0b
  repeat' first | with_reducible refine nat_cond ?_ ?_ | with_reducible refine nat_bind fun _ => ?_ | rfl
theorem laws_eqByteS.rounds_eq (a0z : Bool) (a0 : List Int) (a1z : Bool) (a1 : List Int) : ∀ k, (∀ (x0z : Bool) (x0 : List Int) (x1z : Bool) (x1 : List Int) (x5 : Int), rounds Try.prog laws_eqByteS.Cs (finish Try.prog [] Try.f67 [.v (.nums 5 .u8 a0z a0), .v (.nums 5 .u8 a1z a1)]) 100000 k laws_eqByteS.K0 (laws_eqByteS.N0 x0z x0 x1z x1 x5) = (laws_eqByteS.l0 k x0z x0 x1z x1 x5).map laws_eqByteS.enc)
  | 0 => fun _ _ _ _ _ => rfl
  | k + 1 => by
    have ih := laws_eqByteS.rounds_eq a0z a0 a1z a1 k
    refine fun _ _ _ _ _ => ?_
    · refine (laws_eqByteS.s0 k _ a0z a0 a1z a1 _ _ _ _ _).trans (Eq.trans ?_ (laws_eqByteS.l0b_nat laws_eqByteS.enc some (laws_eqByteS.l0 k) k _ _ _ _ _))
      simp only [ih, Option.map_some]
theorem laws_eqByteS.eq (k : Nat) (a0z : Bool) (a0 : List Int) (a1z : Bool) (a1 : List Int) : answer Try.prog laws_eqByteS.Cs 100000 laws_eqByteS.cuts [] Try.f67 (k + 1) [.v (.nums 5 .u8 a0z a0), .v (.nums 5 .u8 a1z a1)] = (laws_eqByteS.f (k + 1) a0z a0 a1z a1).map laws_eqByteS.enc := by
  have ih := laws_eqByteS.rounds_eq a0z a0 a1z a1 k
  refine (laws_eqByteS.s k a0z a0 a1z a1).trans (Eq.trans ?_ (laws_eqByteS.b_nat laws_eqByteS.enc some (laws_eqByteS.l0 k) k a0z a0 a1z a1))
  simp only [ih, Option.map_some]
theorem laws_eqByteS.sound (k : Nat) : SoundF Try.prog 67 (fun a => (laws_eqByteS.ans k a).val) := by
  refine sound_plain (fun args res h => ?_) (fun t n => rfl)
  unfold laws_eqByteS.ans at h
  dsimp only at h
  split at h
  · cases k with
    | zero => cases h
    | succ k =>
      unfold Ans.val at h
      rw [← laws_eqByteS.eq] at h
      exact answer_sound mixed Try.func67 _ _ _ (k + 1) (fun j _ => tab_sound (tab_nil)) _ _ h
  · exact (Ans.no_val h).elim

/-! loop.example/g00790/laws.eqRow -/
def laws_eqRow.b {R : Type} (ret : Bool → Option R) (k : Nat) (a0_0 : Int) (a0_1z : Bool) (a0_1 : List Int) (a1_0 : Int) (a1_1z : Bool) (a1_1 : List Int) : Option R :=
  cond (!(decide (a0_0 = a1_0))) (ret false) ((laws_eqByteS.f k a0_1z a0_1 a1_1z a1_1).bind fun t0 => cond (!t0) (ret false) (ret true))
def laws_eqRow.f : Nat → Int → Bool → (List Int) → Int → Bool → (List Int) → Option Bool
  | 0, _, _, _, _, _, _ => none
  | k + 1, a0_0, a0_1z, a0_1, a1_0, a1_1z, a1_1 => laws_eqRow.b some k a0_0 a0_1z a0_1 a1_0 a1_1z a1_1
def laws_eqRow.enc (r : Bool) : Res := ⟨[.vals false [((.bool r), true)]], []⟩
def laws_eqRow.ans (k : Nat) : List Arg → Ans
  | [.v (.agg [(.int .i64 a0_0), (.nums 5 .u8 a0_1z a0_1)]), .v (.agg [(.int .i64 a1_0), (.nums 5 .u8 a1_1z a1_1)])] => ⟨laws_eqRow.f k a0_0 a0_1z a0_1 a1_0 a1_1z a1_1, laws_eqRow.enc⟩
  | _ => Ans.no
def laws_eqRow.Cs (k : Nat) : CallSem := tab [(67, laws_eqByteS.ans k)]
def laws_eqRow.cuts : List (Nat × Keep) := []
theorem laws_eqRow.s (k : Nat) (a0_0 : Int) (a0_1z : Bool) (a0_1 : List Int) (a1_0 : Int) (a1_1z : Bool) (a1_1 : List Int) : answer Try.prog laws_eqRow.Cs 100000 laws_eqRow.cuts [] Try.f188 (k + 1) [.v (.agg [(.int .i64 a0_0), (.nums 5 .u8 a0_1z a0_1)]), .v (.agg [(.int .i64 a1_0), (.nums 5 .u8 a1_1z a1_1)])] = laws_eqRow.b (fun r => some (laws_eqRow.enc r)) k a0_0 a0_1z a0_1 a1_0 a1_1z a1_1 := by kernel_rfl
theorem laws_eqRow.b_nat {R R' : Type} (e : R → R') (ret : Bool → Option R) (k : Nat) (a0_0 : Int) (a0_1z : Bool) (a0_1 : List Int) (a1_0 : Int) (a1_1z : Bool) (a1_1 : List Int) : laws_eqRow.b (fun r => (ret r).map e) k a0_0 a0_1z a0_1 a1_0 a1_1z a1_1 = (laws_eqRow.b ret k a0_0 a0_1z a0_1 a1_0 a1_1z a1_1).map e := by
  unfold laws_eqRow.b
  repeat' first | with_reducible refine nat_cond ?_ ?_ | with_reducible refine nat_bind fun _ => ?_ | rfl
theorem laws_eqRow.eq (k : Nat) (a0_0 : Int) (a0_1z : Bool) (a0_1 : List Int) (a1_0 : Int) (a1_1z : Bool) (a1_1 : List Int) : answer Try.prog laws_eqRow.Cs 100000 laws_eqRow.cuts [] Try.f188 (k + 1) [.v (.agg [(.int .i64 a0_0), (.nums 5 .u8 a0_1z a0_1)]), .v (.agg [(.int .i64 a1_0), (.nums 5 .u8 a1_1z a1_1)])] = (laws_eqRow.f (k + 1) a0_0 a0_1z a0_1 a1_0 a1_1z a1_1).map laws_eqRow.enc := by
  refine (laws_eqRow.s k a0_0 a0_1z a0_1 a1_0 a1_1z a1_1).trans (Eq.trans ?_ (laws_eqRow.b_nat laws_eqRow.enc some k a0_0 a0_1z a0_1 a1_0 a1_1z a1_1))
  simp only [Option.map_some]
theorem laws_eqRow.sound (k : Nat) : SoundF Try.prog 188 (fun a => (laws_eqRow.ans k a).val) := by
  refine sound_plain (fun args res h => ?_) (fun t n => rfl)
  unfold laws_eqRow.ans at h
  dsimp only at h
  split at h
  · cases k with
    | zero => cases h
    | succ k =>
      unfold Ans.val at h
      rw [← laws_eqRow.eq] at h
      exact answer_sound mixed Try.func188 _ _ _ (k + 1) (fun j _ => tab_sound (tab_cons (laws_eqByteS.sound j) (tab_nil))) _ _ h
  · exact (Ans.no_val h).elim

/-! loop.example/g00790/laws.eqRowS -/
def laws_eqRowS.b {R : Type} (ret : Bool → Option R) (j0 : Bool → (List T) → Bool → (List T) → Int → Option R) (k : Nat) (a0z : Bool) (a0 : List T) (a1z : Bool) (a1 : List T) : Option R :=
  cond (!(decide (((a0).length : Int) = ((a1).length : Int)))) (ret false) (j0 a0z a0 a1z a1 0)
def laws_eqRowS.l0b {R : Type} (ret : Bool → Option R) (j0 : Bool → (List T) → Bool → (List T) → Int → Option R) (k : Nat) (x0z : Bool) (x0 : List T) (x1z : Bool) (x1 : List T) (x5 : Int) : Option R :=
  cond (decide (x5 < ((x0).length : Int))) (cond (decide ((0 : Int) ≤ x5)) (cond (decide (x5 < ((x0).length : Int))) (cond (decide ((0 : Int) ≤ x5)) (cond (decide (x5 < ((x1).length : Int))) ((laws_eqRow.f k (((((x0).getD (x5).toNat .bad).cells.getD 0 .bad)).toInt) (((((x0).getD (x5).toNat .bad).cells.getD 1 .bad)).isNil) (((((x0).getD (x5).toNat .bad).cells.getD 1 .bad)).toNums) (((((x1).getD (x5).toNat .bad).cells.getD 0 .bad)).toInt) (((((x1).getD (x5).toNat .bad).cells.getD 1 .bad)).isNil) (((((x1).getD (x5).toNat .bad).cells.getD 1 .bad)).toNums)).bind fun t0 => cond (!t0) (ret false) (j0 x0z x0 x1z x1 (RowKit.wrap64 (x5 + 1)))) (none)) (none)) (none)) (none)) (ret true)
def laws_eqRowS.l0 : Nat → Bool → (List T) → Bool → (List T) → Int → Option Bool
  | 0, _, _, _, _, _ => none
  | k + 1, x0z, x0, x1z, x1, x5 => laws_eqRowS.l0b some (laws_eqRowS.l0 k) k x0z x0 x1z x1 x5
def laws_eqRowS.f : Nat → Bool → (List T) → Bool → (List T) → Option Bool
  | 0, _, _, _, _ => none
  | k + 1, a0z, a0, a1z, a1 => laws_eqRowS.b some (laws_eqRowS.l0 k) k a0z a0 a1z a1
def laws_eqRowS.enc (r : Bool) : Res := ⟨[.vals false [((.bool r), true)]], []⟩
def laws_eqRowS.ans (k : Nat) : List Arg → Ans
  | [.v (.sl 44 a0z a0), .v (.sl 44 a1z a1)] => ⟨laws_eqRowS.f k a0z a0 a1z a1, laws_eqRowS.enc⟩
  | _ => Ans.no
def laws_eqRowS.Cs (k : Nat) : CallSem := tab [(188, laws_eqRow.ans k)]
def laws_eqRowS.cuts : List (Nat × Keep) := [(58, ⟨[(0, some []), (1, some []), (5, some [])], []⟩)]
noncomputable def laws_eqRowS.K0 : List Fr := framesAt [true, true, false, true, false] (bodyOf Try.f142 laws_eqRowS.cuts) []
def laws_eqRowS.N0 (x0z : Bool) (x0 : List T) (x1z : Bool) (x1 : List T) (x5 : Int) : St := stOf 27 27 2 [(0, .val ⟨(.sl 44 x0z x0), [], false, none⟩), (1, .val ⟨(.sl 44 x1z x1), [], false, none⟩), (5, .val (V.s (.int .i64 x5)))] []
theorem laws_eqRowS.s (k : Nat) (a0z : Bool) (a0 : List T) (a1z : Bool) (a1 : List T) : answer Try.prog laws_eqRowS.Cs 100000 laws_eqRowS.cuts [] Try.f142 (k + 1) [.v (.sl 44 a0z a0), .v (.sl 44 a1z a1)] = laws_eqRowS.b (fun r => some (laws_eqRowS.enc r)) (fun x0z x0 x1z x1 x5 => rounds Try.prog laws_eqRowS.Cs (finish Try.prog [] Try.f142 [.v (.sl 44 a0z a0), .v (.sl 44 a1z a1)]) 100000 k laws_eqRowS.K0 (laws_eqRowS.N0 x0z x0 x1z x1 x5)) k a0z a0 a1z a1 := by kernel_rfl
theorem laws_eqRowS.s0 (k : Nat) (G : List Fr → St → Option Res) (a0z : Bool) (a0 : List T) (a1z : Bool) (a1 : List T) (yx0z : Bool) (yx0 : List T) (yx1z : Bool) (yx1 : List T) (yx5 : Int) : resume Try.prog (laws_eqRowS.Cs k) G (finish Try.prog [] Try.f142 [.v (.sl 44 a0z a0), .v (.sl 44 a1z a1)]) 100000 laws_eqRowS.K0 (laws_eqRowS.N0 yx0z yx0 yx1z yx1 yx5) = laws_eqRowS.l0b (fun r => some (laws_eqRowS.enc r)) (fun x0z x0 x1z x1 x5 => G laws_eqRowS.K0 (laws_eqRowS.N0 x0z x0 x1z x1 x5)) k yx0z yx0 yx1z yx1 yx5 := by kernel_rfl
theorem laws_eqRowS.b_nat {R R' : Type} (e : R → R') (ret : Bool → Option R) (j0 : Bool → (List T) → Bool → (List T) → Int → Option R) (k : Nat) (a0z : Bool) (a0 : List T) (a1z : Bool) (a1 : List T) : laws_eqRowS.b (fun r => (ret r).map e) (fun x0z x0 x1z x1 x5 => (j0 x0z x0 x1z x1 x5).map e) k a0z a0 a1z a1 = (laws_eqRowS.b ret j0 k a0z a0 a1z a1).map e := by
  unfold laws_eqRowS.b
  repeat' first | with_reducible refine nat_cond ?_ ?_ | with_reducible refine nat_bind fun _ => ?_ | rfl
theorem laws_eqRowS.l0b_nat {R R' : Type} (e : R → R') (ret : Bool → Option R) (j0 : Bool → (List T) → Bool → (List T) → Int → Option R) (k : Nat) (x0z : Bool) (x0 : List T) (x1z : Bool) (x1 : List T) (x5 : Int) : laws_eqRowS.l0b (fun r => (ret r).map e) (fun x0z x0 x1z x1 x5 => (j0 x0z x0 x1z x1 x5).map e) k x0z x0 x1z x1 x5 = (laws_eqRowS.l0b ret j0 k x0z x0 x1z x1 x5).map e := by
  unfold laws_eqRowS.l0b
  repeat' first | with_reducible refine nat_cond ?_ ?_ | with_reducible refine nat_bind fun _ => ?_ | rfl
theorem laws_eqRowS.rounds_eq (a0z : Bool) (a0 : List T) (a1z : Bool) (a1 : List T) : ∀ k, (∀ (x0z : Bool) (x0 : List T) (x1z : Bool) (x1 : List T) (x5 : Int), rounds Try.prog laws_eqRowS.Cs (finish Try.prog [] Try.f142 [.v (.sl 44 a0z a0), .v (.sl 44 a1z a1)]) 100000 k laws_eqRowS.K0 (laws_eqRowS.N0 x0z x0 x1z x1 x5) = (laws_eqRowS.l0 k x0z x0 x1z x1 x5).map laws_eqRowS.enc)
  | 0 => fun _ _ _ _ _ => rfl
  | k + 1 => by
    have ih := laws_eqRowS.rounds_eq a0z a0 a1z a1 k
    refine fun _ _ _ _ _ => ?_
    · refine (laws_eqRowS.s0 k _ a0z a0 a1z a1 _ _ _ _ _).trans (Eq.trans ?_ (laws_eqRowS.l0b_nat laws_eqRowS.enc some (laws_eqRowS.l0 k) k _ _ _ _ _))
      simp only [ih, Option.map_some]
theorem laws_eqRowS.eq (k : Nat) (a0z : Bool) (a0 : List T) (a1z : Bool) (a1 : List T) : answer Try.prog laws_eqRowS.Cs 100000 laws_eqRowS.cuts [] Try.f142 (k + 1) [.v (.sl 44 a0z a0), .v (.sl 44 a1z a1)] = (laws_eqRowS.f (k + 1) a0z a0 a1z a1).map laws_eqRowS.enc := by
  have ih := laws_eqRowS.rounds_eq a0z a0 a1z a1 k
  refine (laws_eqRowS.s k a0z a0 a1z a1).trans (Eq.trans ?_ (laws_eqRowS.b_nat laws_eqRowS.enc some (laws_eqRowS.l0 k) k a0z a0 a1z a1))
  simp only [ih, Option.map_some]
theorem laws_eqRowS.sound (k : Nat) : SoundF Try.prog 142 (fun a => (laws_eqRowS.ans k a).val) := by
  refine sound_plain (fun args res h => ?_) (fun t n => rfl)
  unfold laws_eqRowS.ans at h
  dsimp only at h
  split at h
  · cases k with
    | zero => cases h
    | succ k =>
      unfold Ans.val at h
      rw [← laws_eqRowS.eq] at h
      exact answer_sound mixed Try.func142 _ _ _ (k + 1) (fun j _ => tab_sound (tab_cons (laws_eqRow.sound j) (tab_nil))) _ _ h
  · exact (Ans.no_val h).elim

/-! loop.example/g00790/laws.eqTable -/
def laws_eqTable.b {R : Type} (ret : Bool → Option R) (k : Nat) (a0_0z : Bool) (a0_0 : List T) (a1_0z : Bool) (a1_0 : List T) : Option R :=
  (laws_eqRowS.f k a0_0z a0_0 a1_0z a1_0).bind fun t0 => cond (!t0) (ret false) (ret true)
def laws_eqTable.f : Nat → Bool → (List T) → Bool → (List T) → Option Bool
  | 0, _, _, _, _ => none
  | k + 1, a0_0z, a0_0, a1_0z, a1_0 => laws_eqTable.b some k a0_0z a0_0 a1_0z a1_0
def laws_eqTable.enc (r : Bool) : Res := ⟨[.vals false [((.bool r), true)]], []⟩
def laws_eqTable.ans (k : Nat) : List Arg → Ans
  | [.v (.agg [(.sl 44 a0_0z a0_0)]), .v (.agg [(.sl 44 a1_0z a1_0)])] => ⟨laws_eqTable.f k a0_0z a0_0 a1_0z a1_0, laws_eqTable.enc⟩
  | _ => Ans.no
def laws_eqTable.Cs (k : Nat) : CallSem := tab [(142, laws_eqRowS.ans k)]
def laws_eqTable.cuts : List (Nat × Keep) := []
theorem laws_eqTable.s (k : Nat) (a0_0z : Bool) (a0_0 : List T) (a1_0z : Bool) (a1_0 : List T) : answer Try.prog laws_eqTable.Cs 100000 laws_eqTable.cuts [] Try.f68 (k + 1) [.v (.agg [(.sl 44 a0_0z a0_0)]), .v (.agg [(.sl 44 a1_0z a1_0)])] = laws_eqTable.b (fun r => some (laws_eqTable.enc r)) k a0_0z a0_0 a1_0z a1_0 := by kernel_rfl
theorem laws_eqTable.b_nat {R R' : Type} (e : R → R') (ret : Bool → Option R) (k : Nat) (a0_0z : Bool) (a0_0 : List T) (a1_0z : Bool) (a1_0 : List T) : laws_eqTable.b (fun r => (ret r).map e) k a0_0z a0_0 a1_0z a1_0 = (laws_eqTable.b ret k a0_0z a0_0 a1_0z a1_0).map e := by
  unfold laws_eqTable.b
  repeat' first | with_reducible refine nat_cond ?_ ?_ | with_reducible refine nat_bind fun _ => ?_ | rfl
theorem laws_eqTable.eq (k : Nat) (a0_0z : Bool) (a0_0 : List T) (a1_0z : Bool) (a1_0 : List T) : answer Try.prog laws_eqTable.Cs 100000 laws_eqTable.cuts [] Try.f68 (k + 1) [.v (.agg [(.sl 44 a0_0z a0_0)]), .v (.agg [(.sl 44 a1_0z a1_0)])] = (laws_eqTable.f (k + 1) a0_0z a0_0 a1_0z a1_0).map laws_eqTable.enc := by
  refine (laws_eqTable.s k a0_0z a0_0 a1_0z a1_0).trans (Eq.trans ?_ (laws_eqTable.b_nat laws_eqTable.enc some k a0_0z a0_0 a1_0z a1_0))
  simp only [Option.map_some]
theorem laws_eqTable.sound (k : Nat) : SoundF Try.prog 68 (fun a => (laws_eqTable.ans k a).val) := by
  refine sound_plain (fun args res h => ?_) (fun t n => rfl)
  unfold laws_eqTable.ans at h
  dsimp only at h
  split at h
  · cases k with
    | zero => cases h
    | succ k =>
      unfold Ans.val at h
      rw [← laws_eqTable.eq] at h
      exact answer_sound mixed Try.func68 _ _ _ (k + 1) (fun j _ => tab_sound (tab_cons (laws_eqRowS.sound j) (tab_nil))) _ _ h
  · exact (Ans.no_val h).elim

/-! loop.example/g00790/laws.eqVote -/
def laws_eqVote.b {R : Type} (ret : Bool → Option R) (k : Nat) (a0_0 : Int) (a0_1 : Int) (a0_2z : Bool) (a0_2 : List Int) (a0_3 : Int) (a0_4z : Bool) (a0_4 : List Int) (a1_0 : Int) (a1_1 : Int) (a1_2z : Bool) (a1_2 : List Int) (a1_3 : Int) (a1_4z : Bool) (a1_4 : List Int) : Option R :=
  cond (!(decide (a0_0 = a1_0))) (ret false) (cond (!(decide (a0_1 = a1_1))) (ret false) ((laws_eqByteS.f k a0_2z a0_2 a1_2z a1_2).bind fun t0 => cond (!t0) (ret false) (cond (!(decide (a0_3 = a1_3))) (ret false) ((laws_eqByteS.f k a0_4z a0_4 a1_4z a1_4).bind fun t1 => cond (!t1) (ret false) (ret true)))))
def laws_eqVote.f : Nat → Int → Int → Bool → (List Int) → Int → Bool → (List Int) → Int → Int → Bool → (List Int) → Int → Bool → (List Int) → Option Bool
  | 0, _, _, _, _, _, _, _, _, _, _, _, _, _, _ => none
  | k + 1, a0_0, a0_1, a0_2z, a0_2, a0_3, a0_4z, a0_4, a1_0, a1_1, a1_2z, a1_2, a1_3, a1_4z, a1_4 => laws_eqVote.b some k a0_0 a0_1 a0_2z a0_2 a0_3 a0_4z a0_4 a1_0 a1_1 a1_2z a1_2 a1_3 a1_4z a1_4
def laws_eqVote.enc (r : Bool) : Res := ⟨[.vals false [((.bool r), true)]], []⟩
def laws_eqVote.ans (k : Nat) : List Arg → Ans
  | [.v (.agg [(.int .i64 a0_0), (.int .i64 a0_1), (.nums 5 .u8 a0_2z a0_2), (.int .i64 a0_3), (.nums 5 .u8 a0_4z a0_4)]), .v (.agg [(.int .i64 a1_0), (.int .i64 a1_1), (.nums 5 .u8 a1_2z a1_2), (.int .i64 a1_3), (.nums 5 .u8 a1_4z a1_4)])] => ⟨laws_eqVote.f k a0_0 a0_1 a0_2z a0_2 a0_3 a0_4z a0_4 a1_0 a1_1 a1_2z a1_2 a1_3 a1_4z a1_4, laws_eqVote.enc⟩
  | _ => Ans.no
def laws_eqVote.Cs (k : Nat) : CallSem := tab [(67, laws_eqByteS.ans k)]
def laws_eqVote.cuts : List (Nat × Keep) := []
theorem laws_eqVote.s (k : Nat) (a0_0 : Int) (a0_1 : Int) (a0_2z : Bool) (a0_2 : List Int) (a0_3 : Int) (a0_4z : Bool) (a0_4 : List Int) (a1_0 : Int) (a1_1 : Int) (a1_2z : Bool) (a1_2 : List Int) (a1_3 : Int) (a1_4z : Bool) (a1_4 : List Int) : answer Try.prog laws_eqVote.Cs 100000 laws_eqVote.cuts [] Try.f143 (k + 1) [.v (.agg [(.int .i64 a0_0), (.int .i64 a0_1), (.nums 5 .u8 a0_2z a0_2), (.int .i64 a0_3), (.nums 5 .u8 a0_4z a0_4)]), .v (.agg [(.int .i64 a1_0), (.int .i64 a1_1), (.nums 5 .u8 a1_2z a1_2), (.int .i64 a1_3), (.nums 5 .u8 a1_4z a1_4)])] = laws_eqVote.b (fun r => some (laws_eqVote.enc r)) k a0_0 a0_1 a0_2z a0_2 a0_3 a0_4z a0_4 a1_0 a1_1 a1_2z a1_2 a1_3 a1_4z a1_4 := by kernel_rfl
theorem laws_eqVote.b_nat {R R' : Type} (e : R → R') (ret : Bool → Option R) (k : Nat) (a0_0 : Int) (a0_1 : Int) (a0_2z : Bool) (a0_2 : List Int) (a0_3 : Int) (a0_4z : Bool) (a0_4 : List Int) (a1_0 : Int) (a1_1 : Int) (a1_2z : Bool) (a1_2 : List Int) (a1_3 : Int) (a1_4z : Bool) (a1_4 : List Int) : laws_eqVote.b (fun r => (ret r).map e) k a0_0 a0_1 a0_2z a0_2 a0_3 a0_4z a0_4 a1_0 a1_1 a1_2z a1_2 a1_3 a1_4z a1_4 = (laws_eqVote.b ret k a0_0 a0_1 a0_2z a0_2 a0_3 a0_4z a0_4 a1_0 a1_1 a1_2z a1_2 a1_3 a1_4z a1_4).map e := by
  unfold laws_eqVote.b
  repeat' first | with_reducible refine nat_cond ?_ ?_ | with_reducible refine nat_bind fun _ => ?_ | rfl
theorem laws_eqVote.eq (k : Nat) (a0_0 : Int) (a0_1 : Int) (a0_2z : Bool) (a0_2 : List Int) (a0_3 : Int) (a0_4z : Bool) (a0_4 : List Int) (a1_0 : Int) (a1_1 : Int) (a1_2z : Bool) (a1_2 : List Int) (a1_3 : Int) (a1_4z : Bool) (a1_4 : List Int) : answer Try.prog laws_eqVote.Cs 100000 laws_eqVote.cuts [] Try.f143 (k + 1) [.v (.agg [(.int .i64 a0_0), (.int .i64 a0_1), (.nums 5 .u8 a0_2z a0_2), (.int .i64 a0_3), (.nums 5 .u8 a0_4z a0_4)]), .v (.agg [(.int .i64 a1_0), (.int .i64 a1_1), (.nums 5 .u8 a1_2z a1_2), (.int .i64 a1_3), (.nums 5 .u8 a1_4z a1_4)])] = (laws_eqVote.f (k + 1) a0_0 a0_1 a0_2z a0_2 a0_3 a0_4z a0_4 a1_0 a1_1 a1_2z a1_2 a1_3 a1_4z a1_4).map laws_eqVote.enc := by
  refine (laws_eqVote.s k a0_0 a0_1 a0_2z a0_2 a0_3 a0_4z a0_4 a1_0 a1_1 a1_2z a1_2 a1_3 a1_4z a1_4).trans (Eq.trans ?_ (laws_eqVote.b_nat laws_eqVote.enc some k a0_0 a0_1 a0_2z a0_2 a0_3 a0_4z a0_4 a1_0 a1_1 a1_2z a1_2 a1_3 a1_4z a1_4))
  simp only [Option.map_some]
theorem laws_eqVote.sound (k : Nat) : SoundF Try.prog 143 (fun a => (laws_eqVote.ans k a).val) := by
  refine sound_plain (fun args res h => ?_) (fun t n => rfl)
  unfold laws_eqVote.ans at h
  dsimp only at h
  split at h
  · cases k with
    | zero => cases h
    | succ k =>
      unfold Ans.val at h
      rw [← laws_eqVote.eq] at h
      exact answer_sound mixed Try.func143 _ _ _ (k + 1) (fun j _ => tab_sound (tab_cons (laws_eqByteS.sound j) (tab_nil))) _ _ h
  · exact (Ans.no_val h).elim

/-! loop.example/g00790/laws.eqVoteS -/
def laws_eqVoteS.b {R : Type} (ret : Bool → Option R) (j0 : Bool → (List T) → Bool → (List T) → Int → Option R) (k : Nat) (a0z : Bool) (a0 : List T) (a1z : Bool) (a1 : List T) : Option R :=
  cond (!(decide (((a0).length : Int) = ((a1).length : Int)))) (ret false) (j0 a0z a0 a1z a1 0)
def laws_eqVoteS.l0b {R : Type} (ret : Bool → Option R) (j0 : Bool → (List T) → Bool → (List T) → Int → Option R) (k : Nat) (x0z : Bool) (x0 : List T) (x1z : Bool) (x1 : List T) (x5 : Int) : Option R :=
  cond (decide (x5 < ((x0).length : Int))) (cond (decide ((0 : Int) ≤ x5)) (cond (decide (x5 < ((x0).length : Int))) (cond (decide ((0 : Int) ≤ x5)) (cond (decide (x5 < ((x1).length : Int))) ((laws_eqVote.f k (((((x0).getD (x5).toNat .bad).cells.getD 0 .bad)).toInt) (((((x0).getD (x5).toNat .bad).cells.getD 1 .bad)).toInt) (((((x0).getD (x5).toNat .bad).cells.getD 2 .bad)).isNil) (((((x0).getD (x5).toNat .bad).cells.getD 2 .bad)).toNums) (((((x0).getD (x5).toNat .bad).cells.getD 3 .bad)).toInt) (((((x0).getD (x5).toNat .bad).cells.getD 4 .bad)).isNil) (((((x0).getD (x5).toNat .bad).cells.getD 4 .bad)).toNums) (((((x1).getD (x5).toNat .bad).cells.getD 0 .bad)).toInt) (((((x1).getD (x5).toNat .bad).cells.getD 1 .bad)).toInt) (((((x1).getD (x5).toNat .bad).cells.getD 2 .bad)).isNil) (((((x1).getD (x5).toNat .bad).cells.getD 2 .bad)).toNums) (((((x1).getD (x5).toNat .bad).cells.getD 3 .bad)).toInt) (((((x1).getD (x5).toNat .bad).cells.getD 4 .bad)).isNil) (((((x1).getD (x5).toNat .bad).cells.getD 4 .bad)).toNums)).bind fun t0 => cond (!t0) (ret false) (j0 x0z x0 x1z x1 (RowKit.wrap64 (x5 + 1)))) (none)) (none)) (none)) (none)) (ret true)
def laws_eqVoteS.l0 : Nat → Bool → (List T) → Bool → (List T) → Int → Option Bool
  | 0, _, _, _, _, _ => none
  | k + 1, x0z, x0, x1z, x1, x5 => laws_eqVoteS.l0b some (laws_eqVoteS.l0 k) k x0z x0 x1z x1 x5
def laws_eqVoteS.f : Nat → Bool → (List T) → Bool → (List T) → Option Bool
  | 0, _, _, _, _ => none
  | k + 1, a0z, a0, a1z, a1 => laws_eqVoteS.b some (laws_eqVoteS.l0 k) k a0z a0 a1z a1
def laws_eqVoteS.enc (r : Bool) : Res := ⟨[.vals false [((.bool r), true)]], []⟩
def laws_eqVoteS.ans (k : Nat) : List Arg → Ans
  | [.v (.sl 33 a0z a0), .v (.sl 33 a1z a1)] => ⟨laws_eqVoteS.f k a0z a0 a1z a1, laws_eqVoteS.enc⟩
  | _ => Ans.no
def laws_eqVoteS.Cs (k : Nat) : CallSem := tab [(143, laws_eqVote.ans k)]
def laws_eqVoteS.cuts : List (Nat × Keep) := [(58, ⟨[(0, some []), (1, some []), (5, some [])], []⟩)]
noncomputable def laws_eqVoteS.K0 : List Fr := framesAt [true, true, false, true, false] (bodyOf Try.f69 laws_eqVoteS.cuts) []
def laws_eqVoteS.N0 (x0z : Bool) (x0 : List T) (x1z : Bool) (x1 : List T) (x5 : Int) : St := stOf 27 27 2 [(0, .val ⟨(.sl 33 x0z x0), [], false, none⟩), (1, .val ⟨(.sl 33 x1z x1), [], false, none⟩), (5, .val (V.s (.int .i64 x5)))] []
theorem laws_eqVoteS.s (k : Nat) (a0z : Bool) (a0 : List T) (a1z : Bool) (a1 : List T) : answer Try.prog laws_eqVoteS.Cs 100000 laws_eqVoteS.cuts [] Try.f69 (k + 1) [.v (.sl 33 a0z a0), .v (.sl 33 a1z a1)] = laws_eqVoteS.b (fun r => some (laws_eqVoteS.enc r)) (fun x0z x0 x1z x1 x5 => rounds Try.prog laws_eqVoteS.Cs (finish Try.prog [] Try.f69 [.v (.sl 33 a0z a0), .v (.sl 33 a1z a1)]) 100000 k laws_eqVoteS.K0 (laws_eqVoteS.N0 x0z x0 x1z x1 x5)) k a0z a0 a1z a1 := by kernel_rfl
theorem laws_eqVoteS.s0 (k : Nat) (G : List Fr → St → Option Res) (a0z : Bool) (a0 : List T) (a1z : Bool) (a1 : List T) (yx0z : Bool) (yx0 : List T) (yx1z : Bool) (yx1 : List T) (yx5 : Int) : resume Try.prog (laws_eqVoteS.Cs k) G (finish Try.prog [] Try.f69 [.v (.sl 33 a0z a0), .v (.sl 33 a1z a1)]) 100000 laws_eqVoteS.K0 (laws_eqVoteS.N0 yx0z yx0 yx1z yx1 yx5) = laws_eqVoteS.l0b (fun r => some (laws_eqVoteS.enc r)) (fun x0z x0 x1z x1 x5 => G laws_eqVoteS.K0 (laws_eqVoteS.N0 x0z x0 x1z x1 x5)) k yx0z yx0 yx1z yx1 yx5 := by kernel_rfl
theorem laws_eqVoteS.b_nat {R R' : Type} (e : R → R') (ret : Bool → Option R) (j0 : Bool → (List T) → Bool → (List T) → Int → Option R) (k : Nat) (a0z : Bool) (a0 : List T) (a1z : Bool) (a1 : List T) : laws_eqVoteS.b (fun r => (ret r).map e) (fun x0z x0 x1z x1 x5 => (j0 x0z x0 x1z x1 x5).map e) k a0z a0 a1z a1 = (laws_eqVoteS.b ret j0 k a0z a0 a1z a1).map e := by
  unfold laws_eqVoteS.b
  repeat' first | with_reducible refine nat_cond ?_ ?_ | with_reducible refine nat_bind fun _ => ?_ | rfl
theorem laws_eqVoteS.l0b_nat {R R' : Type} (e : R → R') (ret : Bool → Option R) (j0 : Bool → (List T) → Bool → (List T) → Int → Option R) (k : Nat) (x0z : Bool) (x0 : List T) (x1z : Bool) (x1 : List T) (x5 : Int) : laws_eqVoteS.l0b (fun r => (ret r).map e) (fun x0z x0 x1z x1 x5 => (j0 x0z x0 x1z x1 x5).map e) k x0z x0 x1z x1 x5 = (laws_eqVoteS.l0b ret j0 k x0z x0 x1z x1 x5).map e := by
  unfold laws_eqVoteS.l0b
  repeat' first | with_reducible refine nat_cond ?_ ?_ | with_reducible refine nat_bind fun _ => ?_ | rfl
theorem laws_eqVoteS.rounds_eq (a0z : Bool) (a0 : List T) (a1z : Bool) (a1 : List T) : ∀ k, (∀ (x0z : Bool) (x0 : List T) (x1z : Bool) (x1 : List T) (x5 : Int), rounds Try.prog laws_eqVoteS.Cs (finish Try.prog [] Try.f69 [.v (.sl 33 a0z a0), .v (.sl 33 a1z a1)]) 100000 k laws_eqVoteS.K0 (laws_eqVoteS.N0 x0z x0 x1z x1 x5) = (laws_eqVoteS.l0 k x0z x0 x1z x1 x5).map laws_eqVoteS.enc)
  | 0 => fun _ _ _ _ _ => rfl
  | k + 1 => by
    have ih := laws_eqVoteS.rounds_eq a0z a0 a1z a1 k
    refine fun _ _ _ _ _ => ?_
    · refine (laws_eqVoteS.s0 k _ a0z a0 a1z a1 _ _ _ _ _).trans (Eq.trans ?_ (laws_eqVoteS.l0b_nat laws_eqVoteS.enc some (laws_eqVoteS.l0 k) k _ _ _ _ _))
      simp only [ih, Option.map_some]
theorem laws_eqVoteS.eq (k : Nat) (a0z : Bool) (a0 : List T) (a1z : Bool) (a1 : List T) : answer Try.prog laws_eqVoteS.Cs 100000 laws_eqVoteS.cuts [] Try.f69 (k + 1) [.v (.sl 33 a0z a0), .v (.sl 33 a1z a1)] = (laws_eqVoteS.f (k + 1) a0z a0 a1z a1).map laws_eqVoteS.enc := by
  have ih := laws_eqVoteS.rounds_eq a0z a0 a1z a1 k
  refine (laws_eqVoteS.s k a0z a0 a1z a1).trans (Eq.trans ?_ (laws_eqVoteS.b_nat laws_eqVoteS.enc some (laws_eqVoteS.l0 k) k a0z a0 a1z a1))
  simp only [ih, Option.map_some]
theorem laws_eqVoteS.sound (k : Nat) : SoundF Try.prog 69 (fun a => (laws_eqVoteS.ans k a).val) := by
  refine sound_plain (fun args res h => ?_) (fun t n => rfl)
  unfold laws_eqVoteS.ans at h
  dsimp only at h
  split at h
  · cases k with
    | zero => cases h
    | succ k =>
      unfold Ans.val at h
      rw [← laws_eqVoteS.eq] at h
      exact answer_sound mixed Try.func69 _ _ _ (k + 1) (fun j _ => tab_sound (tab_cons (laws_eqVote.sound j) (tab_nil))) _ _ h
  · exact (Ans.no_val h).elim

/-! loop.example/g00790/laws.markByteS -/
def laws_markByteS.b {R : Type} (ret : Int × Bool × List Int → Option R) (j0 : Bool → (List Int) → Int → Int → Option R) (k : Nat) (a0z : Bool) (a0 : List Int) (a1 : Int) : Option R :=
  j0 a0z a0 a1 0
def laws_markByteS.l0b {R : Type} (ret : Int × Bool × List Int → Option R) (j0 : Bool → (List Int) → Int → Int → Option R) (k : Nat) (x0z : Bool) (x0 : List Int) (x1 : Int) (x5 : Int) : Option R :=
  cond (decide (x5 < ((x0).length : Int))) (cond (decide ((0 : Int) ≤ x5)) (cond (decide (x5 < ((x0).length : Int))) (j0 x0z ((x0).set (x5).toNat ((x1) % 256)) (RowKit.wrap64 (x1 + 1)) (RowKit.wrap64 (x5 + 1))) (none)) (none)) (ret (x1, x0z, x0))
def laws_markByteS.l0 : Nat → Bool → (List Int) → Int → Int → Option (Int × Bool × List Int)
  | 0, _, _, _, _ => none
  | k + 1, x0z, x0, x1, x5 => laws_markByteS.l0b some (laws_markByteS.l0 k) k x0z x0 x1 x5
def laws_markByteS.f : Nat → Bool → (List Int) → Int → Option (Int × Bool × List Int)
  | 0, _, _, _ => none
  | k + 1, a0z, a0, a1 => laws_markByteS.b some (laws_markByteS.l0 k) k a0z a0 a1
def laws_markByteS.enc (r : Int × Bool × List Int) : Res := ⟨[.vals false [((.int .i64 r.1), true)]], [[((.nums 5 .u8 r.2.1 r.2.2), true)]]⟩
def laws_markByteS.ans (k : Nat) : List Arg → Ans
  | [.own (.nums 5 .u8 a0z a0), .v (.int .i64 a1)] => ⟨laws_markByteS.f k a0z a0 a1, laws_markByteS.enc⟩
  | _ => Ans.no
def laws_markByteS.Cs (k : Nat) : CallSem := tab []
def laws_markByteS.cuts : List (Nat × Keep) := [(26, ⟨[(0, none), (1, some []), (5, some [])], []⟩)]
noncomputable def laws_markByteS.K0 : List Fr := framesAt [true, false, true, false] (bodyOf Try.f72 laws_markByteS.cuts) []
def laws_markByteS.N0 (x0z : Bool) (x0 : List Int) (x1 : Int) (x5 : Int) : St := stOf 20 20 2 [(0, .val ⟨(.nums 5 .u8 x0z x0), [.h 0], true, some (.h 0)⟩), (1, .val (V.s (.int .i64 x1))), (5, .val (V.s (.int .i64 x5)))] []
theorem laws_markByteS.s (k : Nat) (a0z : Bool) (a0 : List Int) (a1 : Int) : answerM Try.prog laws_markByteS.Cs 100000 laws_markByteS.cuts Try.f72 (k + 1) [.own (.nums 5 .u8 a0z a0), .v (.int .i64 a1)] = laws_markByteS.b (fun r => some (laws_markByteS.enc r)) (fun x0z x0 x1 x5 => rounds Try.prog laws_markByteS.Cs (finishM Try.prog Try.f72 (.nums 5 .u8 a0z a0)) 100000 k laws_markByteS.K0 (laws_markByteS.N0 x0z x0 x1 x5)) k a0z a0 a1 := by kernel_rfl
theorem laws_markByteS.s0 (k : Nat) (G : List Fr → St → Option Res) (a0z : Bool) (a0 : List Int) (a1 : Int) (yx0z : Bool) (yx0 : List Int) (yx1 : Int) (yx5 : Int) : resume Try.prog (laws_markByteS.Cs k) G (finishM Try.prog Try.f72 (.nums 5 .u8 a0z a0)) 100000 laws_markByteS.K0 (laws_markByteS.N0 yx0z yx0 yx1 yx5) = laws_markByteS.l0b (fun r => some (laws_markByteS.enc r)) (fun x0z x0 x1 x5 => G laws_markByteS.K0 (laws_markByteS.N0 x0z x0 x1 x5)) k yx0z yx0 yx1 yx5 := by kernel_rfl
theorem laws_markByteS.b_nat {R R' : Type} (e : R → R') (ret : Int × Bool × List Int → Option R) (j0 : Bool → (List Int) → Int → Int → Option R) (k : Nat) (a0z : Bool) (a0 : List Int) (a1 : Int) : laws_markByteS.b (fun r => (ret r).map e) (fun x0z x0 x1 x5 => (j0 x0z x0 x1 x5).map e) k a0z a0 a1 = (laws_markByteS.b ret j0 k a0z a0 a1).map e := by
  unfold laws_markByteS.b
  repeat' first | with_reducible refine nat_cond ?_ ?_ | with_reducible refine nat_bind fun _ => ?_ | rfl
theorem laws_markByteS.l0b_nat {R R' : Type} (e : R → R') (ret : Int × Bool × List Int → Option R) (j0 : Bool → (List Int) → Int → Int → Option R) (k : Nat) (x0z : Bool) (x0 : List Int) (x1 : Int) (x5 : Int) : laws_markByteS.l0b (fun r => (ret r).map e) (fun x0z x0 x1 x5 => (j0 x0z x0 x1 x5).map e) k x0z x0 x1 x5 = (laws_markByteS.l0b ret j0 k x0z x0 x1 x5).map e := by
  unfold laws_markByteS.l0b
  repeat' first | with_reducible refine nat_cond ?_ ?_ | with_reducible refine nat_bind fun _ => ?_ | rfl
theorem laws_markByteS.rounds_eq (a0z : Bool) (a0 : List Int) (a1 : Int) : ∀ k, (∀ (x0z : Bool) (x0 : List Int) (x1 : Int) (x5 : Int), rounds Try.prog laws_markByteS.Cs (finishM Try.prog Try.f72 (.nums 5 .u8 a0z a0)) 100000 k laws_markByteS.K0 (laws_markByteS.N0 x0z x0 x1 x5) = (laws_markByteS.l0 k x0z x0 x1 x5).map laws_markByteS.enc)
  | 0 => fun _ _ _ _ => rfl
  | k + 1 => by
    have ih := laws_markByteS.rounds_eq a0z a0 a1 k
    refine fun _ _ _ _ => ?_
    · refine (laws_markByteS.s0 k _ a0z a0 a1 _ _ _ _).trans (Eq.trans ?_ (laws_markByteS.l0b_nat laws_markByteS.enc some (laws_markByteS.l0 k) k _ _ _ _))
      simp only [ih, Option.map_some]
theorem laws_markByteS.eq (k : Nat) (a0z : Bool) (a0 : List Int) (a1 : Int) : answerM Try.prog laws_markByteS.Cs 100000 laws_markByteS.cuts Try.f72 (k + 1) [.own (.nums 5 .u8 a0z a0), .v (.int .i64 a1)] = (laws_markByteS.f (k + 1) a0z a0 a1).map laws_markByteS.enc := by
  have ih := laws_markByteS.rounds_eq a0z a0 a1 k
  refine (laws_markByteS.s k a0z a0 a1).trans (Eq.trans ?_ (laws_markByteS.b_nat laws_markByteS.enc some (laws_markByteS.l0 k) k a0z a0 a1))
  simp only [ih, Option.map_some]
theorem laws_markByteS.sound (k : Nat) : SoundF Try.prog 72 (fun a => (laws_markByteS.ans k a).val) := by
  refine sound_mark (fun args hne => ?_) (fun t n l m h => ?_)
  · unfold laws_markByteS.ans
    split
    · exact (hne _ _ rfl).elim
    · rfl
  unfold laws_markByteS.ans at h
  dsimp only at h
  split at h
  · rename_i heq
    cases heq
    cases k with
    | zero => cases h
    | succ k =>
      unfold Ans.val at h
      rw [← laws_markByteS.eq] at h
      exact answerM_sound (Cs := laws_markByteS.Cs) mixed Try.func72 100000 laws_markByteS.cuts (k + 1) (fun j _ => tab_sound (tab_nil)) _ _ _ _ h
  · exact (Ans.no_val h).elim

/-! loop.example/g00790/laws.markRowS -/
def laws_markRowS.b {R : Type} (ret : Int × Bool × List T → Option R) (j0 : Bool → (List T) → Int → Int → Option R) (k : Nat) (a0z : Bool) (a0 : List T) (a1 : Int) : Option R :=
  j0 a0z a0 a1 0
def laws_markRowS.l0b {R : Type} (ret : Int × Bool × List T → Option R) (j0 : Bool → (List T) → Int → Int → Option R) (k : Nat) (x0z : Bool) (x0 : List T) (x1 : Int) (x5 : Int) : Option R :=
  cond (decide (x5 < ((x0).length : Int))) (cond (decide ((0 : Int) ≤ x5)) (cond (decide (x5 < ((x0).length : Int))) (cond (decide ((0 : Int) ≤ x5)) (cond (decide (x5 < ((((x0).set (x5).toNat (.agg [(.int .i64 x1), (.nums 5 .u8 ((((x0).getD (x5).toNat .bad).cells.getD 1 .bad)).isNil ((((x0).getD (x5).toNat .bad).cells.getD 1 .bad)).toNums)]))).length : Int))) ((laws_markByteS.f k (((((((x0).set (x5).toNat (.agg [(.int .i64 x1), (.nums 5 .u8 ((((x0).getD (x5).toNat .bad).cells.getD 1 .bad)).isNil ((((x0).getD (x5).toNat .bad).cells.getD 1 .bad)).toNums)]))).getD (x5).toNat .bad).cells.getD 1 .bad)).isNil) (((((((x0).set (x5).toNat (.agg [(.int .i64 x1), (.nums 5 .u8 ((((x0).getD (x5).toNat .bad).cells.getD 1 .bad)).isNil ((((x0).getD (x5).toNat .bad).cells.getD 1 .bad)).toNums)]))).getD (x5).toNat .bad).cells.getD 1 .bad)).toNums) (RowKit.wrap64 (x1 + 1))).bind fun t0 => j0 x0z ((((x0).set (x5).toNat (.agg [(.int .i64 x1), (.nums 5 .u8 ((((x0).getD (x5).toNat .bad).cells.getD 1 .bad)).isNil ((((x0).getD (x5).toNat .bad).cells.getD 1 .bad)).toNums)]))).set (x5).toNat (.agg [(.int .i64 ((((((x0).set (x5).toNat (.agg [(.int .i64 x1), (.nums 5 .u8 ((((x0).getD (x5).toNat .bad).cells.getD 1 .bad)).isNil ((((x0).getD (x5).toNat .bad).cells.getD 1 .bad)).toNums)]))).getD (x5).toNat .bad).cells.getD 0 .bad)).toInt), (.nums 5 .u8 t0.2.1 t0.2.2)])) t0.1 (RowKit.wrap64 (x5 + 1))) (none)) (none)) (none)) (none)) (ret (x1, x0z, x0))
def laws_markRowS.l0 : Nat → Bool → (List T) → Int → Int → Option (Int × Bool × List T)
  | 0, _, _, _, _ => none
  | k + 1, x0z, x0, x1, x5 => laws_markRowS.l0b some (laws_markRowS.l0 k) k x0z x0 x1 x5
def laws_markRowS.f : Nat → Bool → (List T) → Int → Option (Int × Bool × List T)
  | 0, _, _, _ => none
  | k + 1, a0z, a0, a1 => laws_markRowS.b some (laws_markRowS.l0 k) k a0z a0 a1
def laws_markRowS.enc (r : Int × Bool × List T) : Res := ⟨[.vals false [((.int .i64 r.1), true)]], [[((.sl 44 r.2.1 r.2.2), true)]]⟩
def laws_markRowS.ans (k : Nat) : List Arg → Ans
  | [.own (.sl 44 a0z a0), .v (.int .i64 a1)] => ⟨laws_markRowS.f k a0z a0 a1, laws_markRowS.enc⟩
  | _ => Ans.no
def laws_markRowS.Cs (k : Nat) : CallSem := tab [(72, laws_markByteS.ans k)]
def laws_markRowS.cuts : List (Nat × Keep) := [(26, ⟨[(0, none), (1, some []), (5, some [])], []⟩)]
noncomputable def laws_markRowS.K0 : List Fr := framesAt [true, false, true, false] (bodyOf Try.f144 laws_markRowS.cuts) []
def laws_markRowS.N0 (x0z : Bool) (x0 : List T) (x1 : Int) (x5 : Int) : St := stOf 27 27 2 [(0, .val ⟨(.sl 44 x0z x0), [.h 0], true, some (.h 0)⟩), (1, .val (V.s (.int .i64 x1))), (5, .val (V.s (.int .i64 x5)))] []
theorem laws_markRowS.s (k : Nat) (a0z : Bool) (a0 : List T) (a1 : Int) : answerM Try.prog laws_markRowS.Cs 100000 laws_markRowS.cuts Try.f144 (k + 1) [.own (.sl 44 a0z a0), .v (.int .i64 a1)] = laws_markRowS.b (fun r => some (laws_markRowS.enc r)) (fun x0z x0 x1 x5 => rounds Try.prog laws_markRowS.Cs (finishM Try.prog Try.f144 (.sl 44 a0z a0)) 100000 k laws_markRowS.K0 (laws_markRowS.N0 x0z x0 x1 x5)) k a0z a0 a1 := by kernel_rfl
theorem laws_markRowS.s0 (k : Nat) (G : List Fr → St → Option Res) (a0z : Bool) (a0 : List T) (a1 : Int) (yx0z : Bool) (yx0 : List T) (yx1 : Int) (yx5 : Int) : resume Try.prog (laws_markRowS.Cs k) G (finishM Try.prog Try.f144 (.sl 44 a0z a0)) 100000 laws_markRowS.K0 (laws_markRowS.N0 yx0z yx0 yx1 yx5) = laws_markRowS.l0b (fun r => some (laws_markRowS.enc r)) (fun x0z x0 x1 x5 => G laws_markRowS.K0 (laws_markRowS.N0 x0z x0 x1 x5)) k yx0z yx0 yx1 yx5 := by kernel_rfl
theorem laws_markRowS.b_nat {R R' : Type} (e : R → R') (ret : Int × Bool × List T → Option R) (j0 : Bool → (List T) → Int → Int → Option R) (k : Nat) (a0z : Bool) (a0 : List T) (a1 : Int) : laws_markRowS.b (fun r => (ret r).map e) (fun x0z x0 x1 x5 => (j0 x0z x0 x1 x5).map e) k a0z a0 a1 = (laws_markRowS.b ret j0 k a0z a0 a1).map e := by
  unfold laws_markRowS.b
  repeat' first | with_reducible refine nat_cond ?_ ?_ | with_reducible refine nat_bind fun _ => ?_ | rfl
theorem laws_markRowS.l0b_nat {R R' : Type} (e : R → R') (ret : Int × Bool × List T → Option R) (j0 : Bool → (List T) → Int → Int → Option R) (k : Nat) (x0z : Bool) (x0 : List T) (x1 : Int) (x5 : Int) : laws_markRowS.l0b (fun r => (ret r).map e) (fun x0z x0 x1 x5 => (j0 x0z x0 x1 x5).map e) k x0z x0 x1 x5 = (laws_markRowS.l0b ret j0 k x0z x0 x1 x5).map e := by
  unfold laws_markRowS.l0b
  repeat' first | with_reducible refine nat_cond ?_ ?_ | with_reducible refine nat_bind fun _ => ?_ | rfl
theorem laws_markRowS.rounds_eq (a0z : Bool) (a0 : List T) (a1 : Int) : ∀ k, (∀ (x0z : Bool) (x0 : List T) (x1 : Int) (x5 : Int), rounds Try.prog laws_markRowS.Cs (finishM Try.prog Try.f144 (.sl 44 a0z a0)) 100000 k laws_markRowS.K0 (laws_markRowS.N0 x0z x0 x1 x5) = (laws_markRowS.l0 k x0z x0 x1 x5).map laws_markRowS.enc)
  | 0 => fun _ _ _ _ => rfl
  | k + 1 => by
    have ih := laws_markRowS.rounds_eq a0z a0 a1 k
    refine fun _ _ _ _ => ?_
    · refine (laws_markRowS.s0 k _ a0z a0 a1 _ _ _ _).trans (Eq.trans ?_ (laws_markRowS.l0b_nat laws_markRowS.enc some (laws_markRowS.l0 k) k _ _ _ _))
      simp only [ih, Option.map_some]
theorem laws_markRowS.eq (k : Nat) (a0z : Bool) (a0 : List T) (a1 : Int) : answerM Try.prog laws_markRowS.Cs 100000 laws_markRowS.cuts Try.f144 (k + 1) [.own (.sl 44 a0z a0), .v (.int .i64 a1)] = (laws_markRowS.f (k + 1) a0z a0 a1).map laws_markRowS.enc := by
  have ih := laws_markRowS.rounds_eq a0z a0 a1 k
  refine (laws_markRowS.s k a0z a0 a1).trans (Eq.trans ?_ (laws_markRowS.b_nat laws_markRowS.enc some (laws_markRowS.l0 k) k a0z a0 a1))
  simp only [ih, Option.map_some]
theorem laws_markRowS.sound (k : Nat) : SoundF Try.prog 144 (fun a => (laws_markRowS.ans k a).val) := by
  refine sound_mark (fun args hne => ?_) (fun t n l m h => ?_)
  · unfold laws_markRowS.ans
    split
    · exact (hne _ _ rfl).elim
    · rfl
  unfold laws_markRowS.ans at h
  dsimp only at h
  split at h
  · rename_i heq
    cases heq
    cases k with
    | zero => cases h
    | succ k =>
      unfold Ans.val at h
      rw [← laws_markRowS.eq] at h
      exact answerM_sound (Cs := laws_markRowS.Cs) mixed Try.func144 100000 laws_markRowS.cuts (k + 1) (fun j _ => tab_sound (tab_cons (laws_markByteS.sound j) (tab_nil))) _ _ _ _ h
  · exact (Ans.no_val h).elim

/-! loop.example/g00790/laws.markTable -/
def laws_markTable.b {R : Type} (ret : Int × Bool × List T → Option R) (k : Nat) (a0_0z : Bool) (a0_0 : List T) (a1 : Int) : Option R :=
  (laws_markRowS.f k a0_0z a0_0 a1).bind fun t0 => ret (t0.1, t0.2.1, t0.2.2)
def laws_markTable.f : Nat → Bool → (List T) → Int → Option (Int × Bool × List T)
  | 0, _, _, _ => none
  | k + 1, a0_0z, a0_0, a1 => laws_markTable.b some k a0_0z a0_0 a1
def laws_markTable.enc (r : Int × Bool × List T) : Res := ⟨[.vals false [((.int .i64 r.1), true)]], [[((.sl 44 r.2.1 r.2.2), true)]]⟩
def laws_markTable.ans (k : Nat) : List Arg → Ans
  | [.own (.agg [(.sl 44 a0_0z a0_0)]), .v (.int .i64 a1)] => ⟨laws_markTable.f k a0_0z a0_0 a1, laws_markTable.enc⟩
  | _ => Ans.no
def laws_markTable.Cs (k : Nat) : CallSem := tab [(144, laws_markRowS.ans k)]
def laws_markTable.cuts : List (Nat × Keep) := []
theorem laws_markTable.s (k : Nat) (a0_0z : Bool) (a0_0 : List T) (a1 : Int) : answerM Try.prog laws_markTable.Cs 100000 laws_markTable.cuts Try.f70 (k + 1) [.own (.agg [(.sl 44 a0_0z a0_0)]), .v (.int .i64 a1)] = laws_markTable.b (fun r => some (laws_markTable.enc r)) k a0_0z a0_0 a1 := by kernel_rfl
theorem laws_markTable.b_nat {R R' : Type} (e : R → R') (ret : Int × Bool × List T → Option R) (k : Nat) (a0_0z : Bool) (a0_0 : List T) (a1 : Int) : laws_markTable.b (fun r => (ret r).map e) k a0_0z a0_0 a1 = (laws_markTable.b ret k a0_0z a0_0 a1).map e := by
  unfold laws_markTable.b
  repeat' first | with_reducible refine nat_cond ?_ ?_ | with_reducible refine nat_bind fun _ => ?_ | rfl
theorem laws_markTable.eq (k : Nat) (a0_0z : Bool) (a0_0 : List T) (a1 : Int) : answerM Try.prog laws_markTable.Cs 100000 laws_markTable.cuts Try.f70 (k + 1) [.own (.agg [(.sl 44 a0_0z a0_0)]), .v (.int .i64 a1)] = (laws_markTable.f (k + 1) a0_0z a0_0 a1).map laws_markTable.enc := by
  refine (laws_markTable.s k a0_0z a0_0 a1).trans (Eq.trans ?_ (laws_markTable.b_nat laws_markTable.enc some k a0_0z a0_0 a1))
  simp only [Option.map_some]
theorem laws_markTable.sound (k : Nat) : SoundF Try.prog 70 (fun a => (laws_markTable.ans k a).val) := by
  refine sound_mark (fun args hne => ?_) (fun t n l m h => ?_)
  · unfold laws_markTable.ans
    split
    · exact (hne _ _ rfl).elim
    · rfl
  unfold laws_markTable.ans at h
  dsimp only at h
  split at h
  · rename_i heq
    cases heq
    cases k with
    | zero => cases h
    | succ k =>
      unfold Ans.val at h
      rw [← laws_markTable.eq] at h
      exact answerM_sound (Cs := laws_markTable.Cs) mixed Try.func70 100000 laws_markTable.cuts (k + 1) (fun j _ => tab_sound (tab_cons (laws_markRowS.sound j) (tab_nil))) _ _ _ _ h
  · exact (Ans.no_val h).elim

/-! loop.example/g00790/laws.markVoteS -/
def laws_markVoteS.b {R : Type} (ret : Int × Bool × List T → Option R) (j0 : Bool → (List T) → Int → Int → Option R) (k : Nat) (a0z : Bool) (a0 : List T) (a1 : Int) : Option R :=
  j0 a0z a0 a1 0
def laws_markVoteS.y1 (x0 : List T) (x1 : Int) (x5 : Int) : List T := ((x0).set (x5).toNat (.agg [(.int .i64 x1), (.int .i64 ((((x0).getD (x5).toNat .bad).cells.getD 1 .bad)).toInt), (.nums 5 .u8 ((((x0).getD (x5).toNat .bad).cells.getD 2 .bad)).isNil ((((x0).getD (x5).toNat .bad).cells.getD 2 .bad)).toNums), (.int .i64 ((((x0).getD (x5).toNat .bad).cells.getD 3 .bad)).toInt), (.nums 5 .u8 ((((x0).getD (x5).toNat .bad).cells.getD 4 .bad)).isNil ((((x0).getD (x5).toNat .bad).cells.getD 4 .bad)).toNums)]))
def laws_markVoteS.y2 (x0 : List T) (x1 : Int) (x5 : Int) : List T := (((laws_markVoteS.y1 x0 x1 x5)).set (x5).toNat (.agg [(.int .i64 (((((laws_markVoteS.y1 x0 x1 x5)).getD (x5).toNat .bad).cells.getD 0 .bad)).toInt), (.int .i64 (RowKit.wrap64 (x1 + 1))), (.nums 5 .u8 (((((laws_markVoteS.y1 x0 x1 x5)).getD (x5).toNat .bad).cells.getD 2 .bad)).isNil (((((laws_markVoteS.y1 x0 x1 x5)).getD (x5).toNat .bad).cells.getD 2 .bad)).toNums), (.int .i64 (((((laws_markVoteS.y1 x0 x1 x5)).getD (x5).toNat .bad).cells.getD 3 .bad)).toInt), (.nums 5 .u8 (((((laws_markVoteS.y1 x0 x1 x5)).getD (x5).toNat .bad).cells.getD 4 .bad)).isNil (((((laws_markVoteS.y1 x0 x1 x5)).getD (x5).toNat .bad).cells.getD 4 .bad)).toNums)]))
def laws_markVoteS.y3 (x0 : List T) (x1 : Int) (x5 : Int) (t0 : (Int × Bool × List Int)) : List T := (((laws_markVoteS.y2 x0 x1 x5)).set (x5).toNat (.agg [(.int .i64 (((((laws_markVoteS.y2 x0 x1 x5)).getD (x5).toNat .bad).cells.getD 0 .bad)).toInt), (.int .i64 (((((laws_markVoteS.y2 x0 x1 x5)).getD (x5).toNat .bad).cells.getD 1 .bad)).toInt), (.nums 5 .u8 t0.2.1 t0.2.2), (.int .i64 (((((laws_markVoteS.y2 x0 x1 x5)).getD (x5).toNat .bad).cells.getD 3 .bad)).toInt), (.nums 5 .u8 (((((laws_markVoteS.y2 x0 x1 x5)).getD (x5).toNat .bad).cells.getD 4 .bad)).isNil (((((laws_markVoteS.y2 x0 x1 x5)).getD (x5).toNat .bad).cells.getD 4 .bad)).toNums)]))
def laws_markVoteS.y4 (x0 : List T) (x1 : Int) (x5 : Int) (t0 : (Int × Bool × List Int)) : List T := (((laws_markVoteS.y3 x0 x1 x5 t0)).set (x5).toNat (.agg [(.int .i64 (((((laws_markVoteS.y3 x0 x1 x5 t0)).getD (x5).toNat .bad).cells.getD 0 .bad)).toInt), (.int .i64 (((((laws_markVoteS.y3 x0 x1 x5 t0)).getD (x5).toNat .bad).cells.getD 1 .bad)).toInt), (.nums 5 .u8 (((((laws_markVoteS.y3 x0 x1 x5 t0)).getD (x5).toNat .bad).cells.getD 2 .bad)).isNil (((((laws_markVoteS.y3 x0 x1 x5 t0)).getD (x5).toNat .bad).cells.getD 2 .bad)).toNums), (.int .i64 t0.1), (.nums 5 .u8 (((((laws_markVoteS.y3 x0 x1 x5 t0)).getD (x5).toNat .bad).cells.getD 4 .bad)).isNil (((((laws_markVoteS.y3 x0 x1 x5 t0)).getD (x5).toNat .bad).cells.getD 4 .bad)).toNums)]))
def laws_markVoteS.l0b {R : Type} (ret : Int × Bool × List T → Option R) (j0 : Bool → (List T) → Int → Int → Option R) (k : Nat) (x0z : Bool) (x0 : List T) (x1 : Int) (x5 : Int) : Option R :=
  cond (decide (x5 < ((x0).length : Int))) (cond (decide ((0 : Int) ≤ x5)) (cond (decide (x5 < ((x0).length : Int))) (cond (decide ((0 : Int) ≤ x5)) (cond (decide (x5 < (((laws_markVoteS.y1 x0 x1 x5)).length : Int))) (cond (decide ((0 : Int) ≤ x5)) (cond (decide (x5 < (((laws_markVoteS.y2 x0 x1 x5)).length : Int))) ((laws_markByteS.f k ((((((laws_markVoteS.y2 x0 x1 x5)).getD (x5).toNat .bad).cells.getD 2 .bad)).isNil) ((((((laws_markVoteS.y2 x0 x1 x5)).getD (x5).toNat .bad).cells.getD 2 .bad)).toNums) (RowKit.wrap64 ((RowKit.wrap64 (x1 + 1)) + 1))).bind fun t0 => cond (decide ((0 : Int) ≤ x5)) (cond (decide (x5 < (((laws_markVoteS.y3 x0 x1 x5 t0)).length : Int))) (cond (decide ((0 : Int) ≤ x5)) (cond (decide (x5 < (((laws_markVoteS.y4 x0 x1 x5 t0)).length : Int))) ((laws_markByteS.f k ((((((laws_markVoteS.y4 x0 x1 x5 t0)).getD (x5).toNat .bad).cells.getD 4 .bad)).isNil) ((((((laws_markVoteS.y4 x0 x1 x5 t0)).getD (x5).toNat .bad).cells.getD 4 .bad)).toNums) (RowKit.wrap64 (t0.1 + 1))).bind fun t1 => j0 x0z (((laws_markVoteS.y4 x0 x1 x5 t0)).set (x5).toNat (.agg [(.int .i64 (((((laws_markVoteS.y4 x0 x1 x5 t0)).getD (x5).toNat .bad).cells.getD 0 .bad)).toInt), (.int .i64 (((((laws_markVoteS.y4 x0 x1 x5 t0)).getD (x5).toNat .bad).cells.getD 1 .bad)).toInt), (.nums 5 .u8 (((((laws_markVoteS.y4 x0 x1 x5 t0)).getD (x5).toNat .bad).cells.getD 2 .bad)).isNil (((((laws_markVoteS.y4 x0 x1 x5 t0)).getD (x5).toNat .bad).cells.getD 2 .bad)).toNums), (.int .i64 (((((laws_markVoteS.y4 x0 x1 x5 t0)).getD (x5).toNat .bad).cells.getD 3 .bad)).toInt), (.nums 5 .u8 t1.2.1 t1.2.2)])) t1.1 (RowKit.wrap64 (x5 + 1))) (none)) (none)) (none)) (none)) (none)) (none)) (none)) (none)) (none)) (none)) (ret (x1, x0z, x0))
def laws_markVoteS.l0 : Nat → Bool → (List T) → Int → Int → Option (Int × Bool × List T)
  | 0, _, _, _, _ => none
  | k + 1, x0z, x0, x1, x5 => laws_markVoteS.l0b some (laws_markVoteS.l0 k) k x0z x0 x1 x5
def laws_markVoteS.f : Nat → Bool → (List T) → Int → Option (Int × Bool × List T)
  | 0, _, _, _ => none
  | k + 1, a0z, a0, a1 => laws_markVoteS.b some (laws_markVoteS.l0 k) k a0z a0 a1
def laws_markVoteS.enc (r : Int × Bool × List T) : Res := ⟨[.vals false [((.int .i64 r.1), true)]], [[((.sl 33 r.2.1 r.2.2), true)]]⟩
def laws_markVoteS.ans (k : Nat) : List Arg → Ans
  | [.own (.sl 33 a0z a0), .v (.int .i64 a1)] => ⟨laws_markVoteS.f k a0z a0 a1, laws_markVoteS.enc⟩
  | _ => Ans.no
def laws_markVoteS.Cs (k : Nat) : CallSem := tab [(72, laws_markByteS.ans k)]
def laws_markVoteS.cuts : List (Nat × Keep) := [(26, ⟨[(0, none), (1, some []), (5, some [])], []⟩)]
noncomputable def laws_markVoteS.K0 : List Fr := framesAt [true, false, true, false] (bodyOf Try.f71 laws_markVoteS.cuts) []
def laws_markVoteS.N0 (x0z : Bool) (x0 : List T) (x1 : Int) (x5 : Int) : St := stOf 48 48 2 [(0, .val ⟨(.sl 33 x0z x0), [.h 0], true, some (.h 0)⟩), (1, .val (V.s (.int .i64 x1))), (5, .val (V.s (.int .i64 x5)))] []
theorem laws_markVoteS.s (k : Nat) (a0z : Bool) (a0 : List T) (a1 : Int) : answerM Try.prog laws_markVoteS.Cs 100000 laws_markVoteS.cuts Try.f71 (k + 1) [.own (.sl 33 a0z a0), .v (.int .i64 a1)] = laws_markVoteS.b (fun r => some (laws_markVoteS.enc r)) (fun x0z x0 x1 x5 => rounds Try.prog laws_markVoteS.Cs (finishM Try.prog Try.f71 (.sl 33 a0z a0)) 100000 k laws_markVoteS.K0 (laws_markVoteS.N0 x0z x0 x1 x5)) k a0z a0 a1 := by kernel_rfl
theorem laws_markVoteS.s0 (k : Nat) (G : List Fr → St → Option Res) (a0z : Bool) (a0 : List T) (a1 : Int) (yx0z : Bool) (yx0 : List T) (yx1 : Int) (yx5 : Int) : resume Try.prog (laws_markVoteS.Cs k) G (finishM Try.prog Try.f71 (.sl 33 a0z a0)) 100000 laws_markVoteS.K0 (laws_markVoteS.N0 yx0z yx0 yx1 yx5) = laws_markVoteS.l0b (fun r => some (laws_markVoteS.enc r)) (fun x0z x0 x1 x5 => G laws_markVoteS.K0 (laws_markVoteS.N0 x0z x0 x1 x5)) k yx0z yx0 yx1 yx5 := by kernel_rfl
theorem laws_markVoteS.b_nat {R R' : Type} (e : R → R') (ret : Int × Bool × List T → Option R) (j0 : Bool → (List T) → Int → Int → Option R) (k : Nat) (a0z : Bool) (a0 : List T) (a1 : Int) : laws_markVoteS.b (fun r => (ret r).map e) (fun x0z x0 x1 x5 => (j0 x0z x0 x1 x5).map e) k a0z a0 a1 = (laws_markVoteS.b ret j0 k a0z a0 a1).map e := by
  unfold laws_markVoteS.b
  repeat' first | with_reducible refine nat_cond ?_ ?_ | with_reducible refine nat_bind fun _ => ?_ | rfl
theorem laws_markVoteS.l0b_nat {R R' : Type} (e : R → R') (ret : Int × Bool × List T → Option R) (j0 : Bool → (List T) → Int → Int → Option R) (k : Nat) (x0z : Bool) (x0 : List T) (x1 : Int) (x5 : Int) : laws_markVoteS.l0b (fun r => (ret r).map e) (fun x0z x0 x1 x5 => (j0 x0z x0 x1 x5).map e) k x0z x0 x1 x5 = (laws_markVoteS.l0b ret j0 k x0z x0 x1 x5).map e := by
  unfold laws_markVoteS.l0b
  repeat' first | with_reducible refine nat_cond ?_ ?_ | with_reducible refine nat_bind fun _ => ?_ | rfl
theorem laws_markVoteS.rounds_eq (a0z : Bool) (a0 : List T) (a1 : Int) : ∀ k, (∀ (x0z : Bool) (x0 : List T) (x1 : Int) (x5 : Int), rounds Try.prog laws_markVoteS.Cs (finishM Try.prog Try.f71 (.sl 33 a0z a0)) 100000 k laws_markVoteS.K0 (laws_markVoteS.N0 x0z x0 x1 x5) = (laws_markVoteS.l0 k x0z x0 x1 x5).map laws_markVoteS.enc)
  | 0 => fun _ _ _ _ => rfl
  | k + 1 => by
    have ih := laws_markVoteS.rounds_eq a0z a0 a1 k
    refine fun _ _ _ _ => ?_
    · refine (laws_markVoteS.s0 k _ a0z a0 a1 _ _ _ _).trans (Eq.trans ?_ (laws_markVoteS.l0b_nat laws_markVoteS.enc some (laws_markVoteS.l0 k) k _ _ _ _))
      simp only [ih, Option.map_some]
theorem laws_markVoteS.eq (k : Nat) (a0z : Bool) (a0 : List T) (a1 : Int) : answerM Try.prog laws_markVoteS.Cs 100000 laws_markVoteS.cuts Try.f71 (k + 1) [.own (.sl 33 a0z a0), .v (.int .i64 a1)] = (laws_markVoteS.f (k + 1) a0z a0 a1).map laws_markVoteS.enc := by
  have ih := laws_markVoteS.rounds_eq a0z a0 a1 k
  refine (laws_markVoteS.s k a0z a0 a1).trans (Eq.trans ?_ (laws_markVoteS.b_nat laws_markVoteS.enc some (laws_markVoteS.l0 k) k a0z a0 a1))
  simp only [ih, Option.map_some]
theorem laws_markVoteS.sound (k : Nat) : SoundF Try.prog 71 (fun a => (laws_markVoteS.ans k a).val) := by
  refine sound_mark (fun args hne => ?_) (fun t n l m h => ?_)
  · unfold laws_markVoteS.ans
    split
    · exact (hne _ _ rfl).elim
    · rfl
  unfold laws_markVoteS.ans at h
  dsimp only at h
  split at h
  · rename_i heq
    cases heq
    cases k with
    | zero => cases h
    | succ k =>
      unfold Ans.val at h
      rw [← laws_markVoteS.eq] at h
      exact answerM_sound (Cs := laws_markVoteS.Cs) mixed Try.func71 100000 laws_markVoteS.cuts (k + 1) (fun j _ => tab_sound (tab_cons (laws_markByteS.sound j) (tab_nil))) _ _ _ _ h
  · exact (Ans.no_val h).elim

end Go.Proofs.YtbpcnodmgphinaaG
