/- What the functions compute, printed by a program of this repo; each is shown to be what the machine of values answers. No condition. -/
import Derived.Test.YtbpcnodmgphinaaProg
import Derived.KernelRfl
import Derived.Test.YtbpcnodmgphinaaGFnGatherd
namespace Go.Proofs.YtbpcnodmgphinaaG
open Go Go.Proofs.YtbpcnodmgphinaaRv Go.Proofs
set_option linter.unusedVariables false
set_option linter.unusedSimpArgs false
/-! loop.example/g00790/impl.hasVote$1 -/
def impl_hasVote_1.b {R : Type} (ret : Bool → Option R) (k : Nat) (a0_0 : Int) (a0_1 : Int) (a0_2z : Bool) (a0_2 : List Int) (a0_3 : Int) (a0_4z : Bool) (a0_4 : List Int) (a1_0 : Int) (a2_0_0_0 : Int) (a2_0_1_0z : Bool) (a2_0_1_0 : List Int) (a3_0z : Bool) (a3_0 : List T) : Option R :=
  cond (decide (a0_3 = a1_0)) ((impl_Tally_1_1.f k a0_0 a0_1 a0_2z a0_2 a0_3 a0_4z a0_4 a2_0_0_0 a2_0_1_0z a2_0_1_0).bind fun t0 => cond t0 ((impl_VoteGood.f k a3_0z a3_0 a0_0 a0_1 a0_2z a0_2 a0_3 a0_4z a0_4).bind fun t1 => ret t1) (ret false)) (ret false)
def impl_hasVote_1.f : Nat → Int → Int → Bool → (List Int) → Int → Bool → (List Int) → Int → Int → Bool → (List Int) → Bool → (List T) → Option Bool
  | 0, _, _, _, _, _, _, _, _, _, _, _, _, _ => none
  | k + 1, a0_0, a0_1, a0_2z, a0_2, a0_3, a0_4z, a0_4, a1_0, a2_0_0_0, a2_0_1_0z, a2_0_1_0, a3_0z, a3_0 => impl_hasVote_1.b some k a0_0 a0_1 a0_2z a0_2 a0_3 a0_4z a0_4 a1_0 a2_0_0_0 a2_0_1_0z a2_0_1_0 a3_0z a3_0
def impl_hasVote_1.enc (r : Bool) : Res := ⟨[.vals false [((.bool r), true)]], []⟩
def impl_hasVote_1.ans (k : Nat) : List Arg → Ans
  | [.v (.agg [(.int .i64 a0_0), (.int .i64 a0_1), (.nums 5 .u8 a0_2z a0_2), (.int .i64 a0_3), (.nums 5 .u8 a0_4z a0_4)]), .v (.ptr [(.int .i64 a1_0)]), .v (.ptr [(.fn 111 [(.ptr [(.int .i64 a2_0_0_0)]), (.ptr [(.nums 5 .u8 a2_0_1_0z a2_0_1_0)])])]), .v (.ptr [(.sl 44 a3_0z a3_0)])] => ⟨impl_hasVote_1.f k a0_0 a0_1 a0_2z a0_2 a0_3 a0_4z a0_4 a1_0 a2_0_0_0 a2_0_1_0z a2_0_1_0 a3_0z a3_0, impl_hasVote_1.enc⟩
  | _ => Ans.no
def impl_hasVote_1.Cs (k : Nat) : CallSem := tab [(17, impl_VoteGood.ans k), (111, impl_Tally_1_1.ans k)]
def impl_hasVote_1.cuts : List (Nat × Keep) := []
theorem impl_hasVote_1.s (k : Nat) (a0_0 : Int) (a0_1 : Int) (a0_2z : Bool) (a0_2 : List Int) (a0_3 : Int) (a0_4z : Bool) (a0_4 : List Int) (a1_0 : Int) (a2_0_0_0 : Int) (a2_0_1_0z : Bool) (a2_0_1_0 : List Int) (a3_0z : Bool) (a3_0 : List T) : answer Try.prog impl_hasVote_1.Cs 100000 impl_hasVote_1.cuts [] Try.f169 (k + 1) [.v (.agg [(.int .i64 a0_0), (.int .i64 a0_1), (.nums 5 .u8 a0_2z a0_2), (.int .i64 a0_3), (.nums 5 .u8 a0_4z a0_4)]), .v (.ptr [(.int .i64 a1_0)]), .v (.ptr [(.fn 111 [(.ptr [(.int .i64 a2_0_0_0)]), (.ptr [(.nums 5 .u8 a2_0_1_0z a2_0_1_0)])])]), .v (.ptr [(.sl 44 a3_0z a3_0)])] = impl_hasVote_1.b (fun r => some (impl_hasVote_1.enc r)) k a0_0 a0_1 a0_2z a0_2 a0_3 a0_4z a0_4 a1_0 a2_0_0_0 a2_0_1_0z a2_0_1_0 a3_0z a3_0 := by kernel_rfl
theorem impl_hasVote_1.b_nat {R R' : Type} (e : R → R') (ret : Bool → Option R) (k : Nat) (a0_0 : Int) (a0_1 : Int) (a0_2z : Bool) (a0_2 : List Int) (a0_3 : Int) (a0_4z : Bool) (a0_4 : List Int) (a1_0 : Int) (a2_0_0_0 : Int) (a2_0_1_0z : Bool) (a2_0_1_0 : List Int) (a3_0z : Bool) (a3_0 : List T) : impl_hasVote_1.b (fun r => (ret r).map e) k a0_0 a0_1 a0_2z a0_2 a0_3 a0_4z a0_4 a1_0 a2_0_0_0 a2_0_1_0z a2_0_1_0 a3_0z a3_0 = (impl_hasVote_1.b ret k a0_0 a0_1 a0_2z a0_2 a0_3 a0_4z a0_4 a1_0 a2_0_0_0 a2_0_1_0z a2_0_1_0 a3_0z a3_0).map e := by
  unfold impl_hasVote_1.b
  repeat' first | with_reducible refine nat_cond ?_ ?_ | with_reducible refine nat_bind fun _ => ?_ | rfl
theorem impl_hasVote_1.eq (k : Nat) (a0_0 : Int) (a0_1 : Int) (a0_2z : Bool) (a0_2 : List Int) (a0_3 : Int) (a0_4z : Bool) (a0_4 : List Int) (a1_0 : Int) (a2_0_0_0 : Int) (a2_0_1_0z : Bool) (a2_0_1_0 : List Int) (a3_0z : Bool) (a3_0 : List T) : answer Try.prog impl_hasVote_1.Cs 100000 impl_hasVote_1.cuts [] Try.f169 (k + 1) [.v (.agg [(.int .i64 a0_0), (.int .i64 a0_1), (.nums 5 .u8 a0_2z a0_2), (.int .i64 a0_3), (.nums 5 .u8 a0_4z a0_4)]), .v (.ptr [(.int .i64 a1_0)]), .v (.ptr [(.fn 111 [(.ptr [(.int .i64 a2_0_0_0)]), (.ptr [(.nums 5 .u8 a2_0_1_0z a2_0_1_0)])])]), .v (.ptr [(.sl 44 a3_0z a3_0)])] = (impl_hasVote_1.f (k + 1) a0_0 a0_1 a0_2z a0_2 a0_3 a0_4z a0_4 a1_0 a2_0_0_0 a2_0_1_0z a2_0_1_0 a3_0z a3_0).map impl_hasVote_1.enc := by
  refine (impl_hasVote_1.s k a0_0 a0_1 a0_2z a0_2 a0_3 a0_4z a0_4 a1_0 a2_0_0_0 a2_0_1_0z a2_0_1_0 a3_0z a3_0).trans (Eq.trans ?_ (impl_hasVote_1.b_nat impl_hasVote_1.enc some k a0_0 a0_1 a0_2z a0_2 a0_3 a0_4z a0_4 a1_0 a2_0_0_0 a2_0_1_0z a2_0_1_0 a3_0z a3_0))
  simp only [Option.map_some]
theorem impl_hasVote_1.sound (k : Nat) : SoundF Try.prog 169 (fun a => (impl_hasVote_1.ans k a).val) := by
  refine sound_plain (fun args res h => ?_) (fun t n => rfl)
  unfold impl_hasVote_1.ans at h
  dsimp only at h
  split at h
  · cases k with
    | zero => cases h
    | succ k =>
      unfold Ans.val at h
      rw [← impl_hasVote_1.eq] at h
      exact answer_sound mixed Try.func169 _ _ _ (k + 1) (fun j _ => tab_sound (tab_cons (impl_VoteGood.sound j) (tab_cons (impl_Tally_1_1.sound j) (tab_nil)))) _ _ h
  · exact (Ans.no_val h).elim

/-! slices.IndexFunc[[]loop.example/g00790/impl.Vote,loop.example/g00790/impl.Vote] -/
def impl_Vote_v1.b {R : Type} (ret : Int → Option R) (j0 : Bool → (List T) → Int → Int → Bool → (List Int) → Bool → (List T) → Int → Int → Option R) (k : Nat) (a0z : Bool) (a0 : List T) (a1_0_0 : Int) (a1_1_0_0_0 : Int) (a1_1_0_1_0z : Bool) (a1_1_0_1_0 : List Int) (a1_2_0z : Bool) (a1_2_0 : List T) : Option R :=
  j0 a0z a0 a1_0_0 a1_1_0_0_0 a1_1_0_1_0z a1_1_0_1_0 a1_2_0z a1_2_0 ((a0).length : Int) 0
def impl_Vote_v1.l0b {R : Type} (ret : Int → Option R) (j0 : Bool → (List T) → Int → Int → Bool → (List Int) → Bool → (List T) → Int → Int → Option R) (k : Nat) (x0z : Bool) (x0 : List T) (x1_0_0 : Int) (x1_1_0_0_0 : Int) (x1_1_0_1_0z : Bool) (x1_1_0_1_0 : List Int) (x1_2_0z : Bool) (x1_2_0 : List T) (x7 : Int) (x8 : Int) : Option R :=
  cond (decide (x8 < x7)) (cond (decide ((0 : Int) ≤ x8)) (cond (decide (x8 < ((x0).length : Int))) ((impl_hasVote_1.f k (((((x0).getD (x8).toNat .bad).cells.getD 0 .bad)).toInt) (((((x0).getD (x8).toNat .bad).cells.getD 1 .bad)).toInt) (((((x0).getD (x8).toNat .bad).cells.getD 2 .bad)).isNil) (((((x0).getD (x8).toNat .bad).cells.getD 2 .bad)).toNums) (((((x0).getD (x8).toNat .bad).cells.getD 3 .bad)).toInt) (((((x0).getD (x8).toNat .bad).cells.getD 4 .bad)).isNil) (((((x0).getD (x8).toNat .bad).cells.getD 4 .bad)).toNums) x1_0_0 x1_1_0_0_0 x1_1_0_1_0z x1_1_0_1_0 x1_2_0z x1_2_0).bind fun t0 => cond t0 (ret x8) (j0 x0z x0 x1_0_0 x1_1_0_0_0 x1_1_0_1_0z x1_1_0_1_0 x1_2_0z x1_2_0 x7 (RowKit.wrap64 (x8 + 1)))) (none)) (none)) (ret (-1))
def impl_Vote_v1.l0 : Nat → Bool → (List T) → Int → Int → Bool → (List Int) → Bool → (List T) → Int → Int → Option Int
  | 0, _, _, _, _, _, _, _, _, _, _ => none
  | k + 1, x0z, x0, x1_0_0, x1_1_0_0_0, x1_1_0_1_0z, x1_1_0_1_0, x1_2_0z, x1_2_0, x7, x8 => impl_Vote_v1.l0b some (impl_Vote_v1.l0 k) k x0z x0 x1_0_0 x1_1_0_0_0 x1_1_0_1_0z x1_1_0_1_0 x1_2_0z x1_2_0 x7 x8
def impl_Vote_v1.f : Nat → Bool → (List T) → Int → Int → Bool → (List Int) → Bool → (List T) → Option Int
  | 0, _, _, _, _, _, _, _, _ => none
  | k + 1, a0z, a0, a1_0_0, a1_1_0_0_0, a1_1_0_1_0z, a1_1_0_1_0, a1_2_0z, a1_2_0 => impl_Vote_v1.b some (impl_Vote_v1.l0 k) k a0z a0 a1_0_0 a1_1_0_0_0 a1_1_0_1_0z a1_1_0_1_0 a1_2_0z a1_2_0
def impl_Vote_v1.enc (r : Int) : Res := ⟨[.vals false [((.int .i64 r), true)]], []⟩
def impl_Vote_v1.ans (k : Nat) : List Arg → Ans
  | [.v (.sl 33 a0z a0), .v (.fn 169 [(.ptr [(.int .i64 a1_0_0)]), (.ptr [(.fn 111 [(.ptr [(.int .i64 a1_1_0_0_0)]), (.ptr [(.nums 5 .u8 a1_1_0_1_0z a1_1_0_1_0)])])]), (.ptr [(.sl 44 a1_2_0z a1_2_0)])])] => ⟨impl_Vote_v1.f k a0z a0 a1_0_0 a1_1_0_0_0 a1_1_0_1_0z a1_1_0_1_0 a1_2_0z a1_2_0, impl_Vote_v1.enc⟩
  | _ => Ans.no
def impl_Vote_v1.Cs (k : Nat) : CallSem := tab [(169, impl_hasVote_1.ans k)]
def impl_Vote_v1.cuts : List (Nat × Keep) := [(26, ⟨[(0, some []), (1, some []), (7, some []), (8, some [])], []⟩)]
noncomputable def impl_Vote_v1.K0 : List Fr := framesAt [true, false, true, false] (bodyOf Try.f106 impl_Vote_v1.cuts) []
def impl_Vote_v1.N0 (x0z : Bool) (x0 : List T) (x1_0_0 : Int) (x1_1_0_0_0 : Int) (x1_1_0_1_0z : Bool) (x1_1_0_1_0 : List Int) (x1_2_0z : Bool) (x1_2_0 : List T) (x7 : Int) (x8 : Int) : St := stOf 19 19 2 [(0, .val ⟨(.sl 33 x0z x0), [], false, none⟩), (1, .val ⟨(.fn 169 [(.ptr [(.int .i64 x1_0_0)]), (.ptr [(.fn 111 [(.ptr [(.int .i64 x1_1_0_0_0)]), (.ptr [(.nums 5 .u8 x1_1_0_1_0z x1_1_0_1_0)])])]), (.ptr [(.sl 44 x1_2_0z x1_2_0)])]), [], false, none⟩), (7, .val (V.s (.int .i64 x7))), (8, .val (V.s (.int .i64 x8)))] []
theorem impl_Vote_v1.s (k : Nat) (a0z : Bool) (a0 : List T) (a1_0_0 : Int) (a1_1_0_0_0 : Int) (a1_1_0_1_0z : Bool) (a1_1_0_1_0 : List Int) (a1_2_0z : Bool) (a1_2_0 : List T) : answer Try.prog impl_Vote_v1.Cs 100000 impl_Vote_v1.cuts [] Try.f106 (k + 1) [.v (.sl 33 a0z a0), .v (.fn 169 [(.ptr [(.int .i64 a1_0_0)]), (.ptr [(.fn 111 [(.ptr [(.int .i64 a1_1_0_0_0)]), (.ptr [(.nums 5 .u8 a1_1_0_1_0z a1_1_0_1_0)])])]), (.ptr [(.sl 44 a1_2_0z a1_2_0)])])] = impl_Vote_v1.b (fun r => some (impl_Vote_v1.enc r)) (fun x0z x0 x1_0_0 x1_1_0_0_0 x1_1_0_1_0z x1_1_0_1_0 x1_2_0z x1_2_0 x7 x8 => rounds Try.prog impl_Vote_v1.Cs (finish Try.prog [] Try.f106 [.v (.sl 33 a0z a0), .v (.fn 169 [(.ptr [(.int .i64 a1_0_0)]), (.ptr [(.fn 111 [(.ptr [(.int .i64 a1_1_0_0_0)]), (.ptr [(.nums 5 .u8 a1_1_0_1_0z a1_1_0_1_0)])])]), (.ptr [(.sl 44 a1_2_0z a1_2_0)])])]) 100000 k impl_Vote_v1.K0 (impl_Vote_v1.N0 x0z x0 x1_0_0 x1_1_0_0_0 x1_1_0_1_0z x1_1_0_1_0 x1_2_0z x1_2_0 x7 x8)) k a0z a0 a1_0_0 a1_1_0_0_0 a1_1_0_1_0z a1_1_0_1_0 a1_2_0z a1_2_0 := by kernel_rfl
theorem impl_Vote_v1.s0 (k : Nat) (G : List Fr → St → Option Res) (a0z : Bool) (a0 : List T) (a1_0_0 : Int) (a1_1_0_0_0 : Int) (a1_1_0_1_0z : Bool) (a1_1_0_1_0 : List Int) (a1_2_0z : Bool) (a1_2_0 : List T) (yx0z : Bool) (yx0 : List T) (yx1_0_0 : Int) (yx1_1_0_0_0 : Int) (yx1_1_0_1_0z : Bool) (yx1_1_0_1_0 : List Int) (yx1_2_0z : Bool) (yx1_2_0 : List T) (yx7 : Int) (yx8 : Int) : resume Try.prog (impl_Vote_v1.Cs k) G (finish Try.prog [] Try.f106 [.v (.sl 33 a0z a0), .v (.fn 169 [(.ptr [(.int .i64 a1_0_0)]), (.ptr [(.fn 111 [(.ptr [(.int .i64 a1_1_0_0_0)]), (.ptr [(.nums 5 .u8 a1_1_0_1_0z a1_1_0_1_0)])])]), (.ptr [(.sl 44 a1_2_0z a1_2_0)])])]) 100000 impl_Vote_v1.K0 (impl_Vote_v1.N0 yx0z yx0 yx1_0_0 yx1_1_0_0_0 yx1_1_0_1_0z yx1_1_0_1_0 yx1_2_0z yx1_2_0 yx7 yx8) = impl_Vote_v1.l0b (fun r => some (impl_Vote_v1.enc r)) (fun x0z x0 x1_0_0 x1_1_0_0_0 x1_1_0_1_0z x1_1_0_1_0 x1_2_0z x1_2_0 x7 x8 => G impl_Vote_v1.K0 (impl_Vote_v1.N0 x0z x0 x1_0_0 x1_1_0_0_0 x1_1_0_1_0z x1_1_0_1_0 x1_2_0z x1_2_0 x7 x8)) k yx0z yx0 yx1_0_0 yx1_1_0_0_0 yx1_1_0_1_0z yx1_1_0_1_0 yx1_2_0z yx1_2_0 yx7 yx8 := by kernel_rfl
theorem impl_Vote_v1.b_nat {R R' : Type} (e : R → R') (ret : Int → Option R) (j0 : Bool → (List T) → Int → Int → Bool → (List Int) → Bool → (List T) → Int → Int → Option R) (k : Nat) (a0z : Bool) (a0 : List T) (a1_0_0 : Int) (a1_1_0_0_0 : Int) (a1_1_0_1_0z : Bool) (a1_1_0_1_0 : List Int) (a1_2_0z : Bool) (a1_2_0 : List T) : impl_Vote_v1.b (fun r => (ret r).map e) (fun x0z x0 x1_0_0 x1_1_0_0_0 x1_1_0_1_0z x1_1_0_1_0 x1_2_0z x1_2_0 x7 x8 => (j0 x0z x0 x1_0_0 x1_1_0_0_0 x1_1_0_1_0z x1_1_0_1_0 x1_2_0z x1_2_0 x7 x8).map e) k a0z a0 a1_0_0 a1_1_0_0_0 a1_1_0_1_0z a1_1_0_1_0 a1_2_0z a1_2_0 = (impl_Vote_v1.b ret j0 k a0z a0 a1_0_0 a1_1_0_0_0 a1_1_0_1_0z a1_1_0_1_0 a1_2_0z a1_2_0).map e := by
  unfold impl_Vote_v1.b
  repeat' first | with_reducible refine nat_cond ?_ ?_ | with_reducible refine nat_bind fun _ => ?_ | rfl
theorem impl_Vote_v1.l0b_nat {R R' : Type} (e : R → R') (ret : Int → Option R) (j0 : Bool → (List T) → Int → Int → Bool → (List Int) → Bool → (List T) → Int → Int → Option R) (k : Nat) (x0z : Bool) (x0 : List T) (x1_0_0 : Int) (x1_1_0_0_0 : Int) (x1_1_0_1_0z : Bool) (x1_1_0_1_0 : List Int) (x1_2_0z : Bool) (x1_2_0 : List T) (x7 : Int) (x8 : Int) : impl_Vote_v1.l0b (fun r => (ret r).map e) (fun x0z x0 x1_0_0 x1_1_0_0_0 x1_1_0_1_0z x1_1_0_1_0 x1_2_0z x1_2_0 x7 x8 => (j0 x0z x0 x1_0_0 x1_1_0_0_0 x1_1_0_1_0z x1_1_0_1_0 x1_2_0z x1_2_0 x7 x8).map e) k x0z x0 x1_0_0 x1_1_0_0_0 x1_1_0_1_0z x1_1_0_1_0 x1_2_0z x1_2_0 x7 x8 = (impl_Vote_v1.l0b ret j0 k x0z x0 x1_0_0 x1_1_0_0_0 x1_1_0_1_0z x1_1_0_1_0 x1_2_0z x1_2_0 x7 x8).map e := by
  unfold impl_Vote_v1.l0b
  repeat' first | with_reducible refine nat_cond ?_ ?_ | with_reducible refine nat_bind fun _ => ?_ | rfl
theorem impl_Vote_v1.rounds_eq (a0z : Bool) (a0 : List T) (a1_0_0 : Int) (a1_1_0_0_0 : Int) (a1_1_0_1_0z : Bool) (a1_1_0_1_0 : List Int) (a1_2_0z : Bool) (a1_2_0 : List T) : ∀ k, (∀ (x0z : Bool) (x0 : List T) (x1_0_0 : Int) (x1_1_0_0_0 : Int) (x1_1_0_1_0z : Bool) (x1_1_0_1_0 : List Int) (x1_2_0z : Bool) (x1_2_0 : List T) (x7 : Int) (x8 : Int), rounds Try.prog impl_Vote_v1.Cs (finish Try.prog [] Try.f106 [.v (.sl 33 a0z a0), .v (.fn 169 [(.ptr [(.int .i64 a1_0_0)]), (.ptr [(.fn 111 [(.ptr [(.int .i64 a1_1_0_0_0)]), (.ptr [(.nums 5 .u8 a1_1_0_1_0z a1_1_0_1_0)])])]), (.ptr [(.sl 44 a1_2_0z a1_2_0)])])]) 100000 k impl_Vote_v1.K0 (impl_Vote_v1.N0 x0z x0 x1_0_0 x1_1_0_0_0 x1_1_0_1_0z x1_1_0_1_0 x1_2_0z x1_2_0 x7 x8) = (impl_Vote_v1.l0 k x0z x0 x1_0_0 x1_1_0_0_0 x1_1_0_1_0z x1_1_0_1_0 x1_2_0z x1_2_0 x7 x8).map impl_Vote_v1.enc)
  | 0 => fun _ _ _ _ _ _ _ _ _ _ => rfl
  | k + 1 => by
    have ih := impl_Vote_v1.rounds_eq a0z a0 a1_0_0 a1_1_0_0_0 a1_1_0_1_0z a1_1_0_1_0 a1_2_0z a1_2_0 k
    refine fun _ _ _ _ _ _ _ _ _ _ => ?_
    · refine (impl_Vote_v1.s0 k _ a0z a0 a1_0_0 a1_1_0_0_0 a1_1_0_1_0z a1_1_0_1_0 a1_2_0z a1_2_0 _ _ _ _ _ _ _ _ _ _).trans (Eq.trans ?_ (impl_Vote_v1.l0b_nat impl_Vote_v1.enc some (impl_Vote_v1.l0 k) k _ _ _ _ _ _ _ _ _ _))
      simp only [ih, Option.map_some]
theorem impl_Vote_v1.eq (k : Nat) (a0z : Bool) (a0 : List T) (a1_0_0 : Int) (a1_1_0_0_0 : Int) (a1_1_0_1_0z : Bool) (a1_1_0_1_0 : List Int) (a1_2_0z : Bool) (a1_2_0 : List T) : answer Try.prog impl_Vote_v1.Cs 100000 impl_Vote_v1.cuts [] Try.f106 (k + 1) [.v (.sl 33 a0z a0), .v (.fn 169 [(.ptr [(.int .i64 a1_0_0)]), (.ptr [(.fn 111 [(.ptr [(.int .i64 a1_1_0_0_0)]), (.ptr [(.nums 5 .u8 a1_1_0_1_0z a1_1_0_1_0)])])]), (.ptr [(.sl 44 a1_2_0z a1_2_0)])])] = (impl_Vote_v1.f (k + 1) a0z a0 a1_0_0 a1_1_0_0_0 a1_1_0_1_0z a1_1_0_1_0 a1_2_0z a1_2_0).map impl_Vote_v1.enc := by
  have ih := impl_Vote_v1.rounds_eq a0z a0 a1_0_0 a1_1_0_0_0 a1_1_0_1_0z a1_1_0_1_0 a1_2_0z a1_2_0 k
  refine (impl_Vote_v1.s k a0z a0 a1_0_0 a1_1_0_0_0 a1_1_0_1_0z a1_1_0_1_0 a1_2_0z a1_2_0).trans (Eq.trans ?_ (impl_Vote_v1.b_nat impl_Vote_v1.enc some (impl_Vote_v1.l0 k) k a0z a0 a1_0_0 a1_1_0_0_0 a1_1_0_1_0z a1_1_0_1_0 a1_2_0z a1_2_0))
  simp only [ih, Option.map_some]
theorem impl_Vote_v1.sound (k : Nat) : SoundF Try.prog 106 (fun a => (impl_Vote_v1.ans k a).val) := by
  refine sound_plain (fun args res h => ?_) (fun t n => rfl)
  unfold impl_Vote_v1.ans at h
  dsimp only at h
  split at h
  · cases k with
    | zero => cases h
    | succ k =>
      unfold Ans.val at h
      rw [← impl_Vote_v1.eq] at h
      exact answer_sound mixed Try.func106 _ _ _ (k + 1) (fun j _ => tab_sound (tab_cons (impl_hasVote_1.sound j) (tab_nil))) _ _ h
  · exact (Ans.no_val h).elim

/-! slices.ContainsFunc[[]loop.example/g00790/impl.Vote,loop.example/g00790/impl.Vote] -/
def impl_Vote_168.b {R : Type} (ret : Bool → Option R) (k : Nat) (a0z : Bool) (a0 : List T) (a1_0_0 : Int) (a1_1_0_0_0 : Int) (a1_1_0_1_0z : Bool) (a1_1_0_1_0 : List Int) (a1_2_0z : Bool) (a1_2_0 : List T) : Option R :=
  (impl_Vote_v1.f k a0z a0 a1_0_0 a1_1_0_0_0 a1_1_0_1_0z a1_1_0_1_0 a1_2_0z a1_2_0).bind fun t0 => ret (decide (t0 ≥ 0))
def impl_Vote_168.f : Nat → Bool → (List T) → Int → Int → Bool → (List Int) → Bool → (List T) → Option Bool
  | 0, _, _, _, _, _, _, _, _ => none
  | k + 1, a0z, a0, a1_0_0, a1_1_0_0_0, a1_1_0_1_0z, a1_1_0_1_0, a1_2_0z, a1_2_0 => impl_Vote_168.b some k a0z a0 a1_0_0 a1_1_0_0_0 a1_1_0_1_0z a1_1_0_1_0 a1_2_0z a1_2_0
def impl_Vote_168.enc (r : Bool) : Res := ⟨[.vals false [((.bool r), true)]], []⟩
def impl_Vote_168.ans (k : Nat) : List Arg → Ans
  | [.v (.sl 33 a0z a0), .v (.fn 169 [(.ptr [(.int .i64 a1_0_0)]), (.ptr [(.fn 111 [(.ptr [(.int .i64 a1_1_0_0_0)]), (.ptr [(.nums 5 .u8 a1_1_0_1_0z a1_1_0_1_0)])])]), (.ptr [(.sl 44 a1_2_0z a1_2_0)])])] => ⟨impl_Vote_168.f k a0z a0 a1_0_0 a1_1_0_0_0 a1_1_0_1_0z a1_1_0_1_0 a1_2_0z a1_2_0, impl_Vote_168.enc⟩
  | _ => Ans.no
def impl_Vote_168.Cs (k : Nat) : CallSem := tab [(106, impl_Vote_v1.ans k)]
def impl_Vote_168.cuts : List (Nat × Keep) := []
theorem impl_Vote_168.s (k : Nat) (a0z : Bool) (a0 : List T) (a1_0_0 : Int) (a1_1_0_0_0 : Int) (a1_1_0_1_0z : Bool) (a1_1_0_1_0 : List Int) (a1_2_0z : Bool) (a1_2_0 : List T) : answer Try.prog impl_Vote_168.Cs 100000 impl_Vote_168.cuts [] Try.f168 (k + 1) [.v (.sl 33 a0z a0), .v (.fn 169 [(.ptr [(.int .i64 a1_0_0)]), (.ptr [(.fn 111 [(.ptr [(.int .i64 a1_1_0_0_0)]), (.ptr [(.nums 5 .u8 a1_1_0_1_0z a1_1_0_1_0)])])]), (.ptr [(.sl 44 a1_2_0z a1_2_0)])])] = impl_Vote_168.b (fun r => some (impl_Vote_168.enc r)) k a0z a0 a1_0_0 a1_1_0_0_0 a1_1_0_1_0z a1_1_0_1_0 a1_2_0z a1_2_0 := by kernel_rfl
theorem impl_Vote_168.b_nat {R R' : Type} (e : R → R') (ret : Bool → Option R) (k : Nat) (a0z : Bool) (a0 : List T) (a1_0_0 : Int) (a1_1_0_0_0 : Int) (a1_1_0_1_0z : Bool) (a1_1_0_1_0 : List Int) (a1_2_0z : Bool) (a1_2_0 : List T) : impl_Vote_168.b (fun r => (ret r).map e) k a0z a0 a1_0_0 a1_1_0_0_0 a1_1_0_1_0z a1_1_0_1_0 a1_2_0z a1_2_0 = (impl_Vote_168.b ret k a0z a0 a1_0_0 a1_1_0_0_0 a1_1_0_1_0z a1_1_0_1_0 a1_2_0z a1_2_0).map e := by
  unfold impl_Vote_168.b
  repeat' first | with_reducible refine nat_cond ?_ ?_ | with_reducible refine nat_bind fun _ => ?_ | rfl
theorem impl_Vote_168.eq (k : Nat) (a0z : Bool) (a0 : List T) (a1_0_0 : Int) (a1_1_0_0_0 : Int) (a1_1_0_1_0z : Bool) (a1_1_0_1_0 : List Int) (a1_2_0z : Bool) (a1_2_0 : List T) : answer Try.prog impl_Vote_168.Cs 100000 impl_Vote_168.cuts [] Try.f168 (k + 1) [.v (.sl 33 a0z a0), .v (.fn 169 [(.ptr [(.int .i64 a1_0_0)]), (.ptr [(.fn 111 [(.ptr [(.int .i64 a1_1_0_0_0)]), (.ptr [(.nums 5 .u8 a1_1_0_1_0z a1_1_0_1_0)])])]), (.ptr [(.sl 44 a1_2_0z a1_2_0)])])] = (impl_Vote_168.f (k + 1) a0z a0 a1_0_0 a1_1_0_0_0 a1_1_0_1_0z a1_1_0_1_0 a1_2_0z a1_2_0).map impl_Vote_168.enc := by
  refine (impl_Vote_168.s k a0z a0 a1_0_0 a1_1_0_0_0 a1_1_0_1_0z a1_1_0_1_0 a1_2_0z a1_2_0).trans (Eq.trans ?_ (impl_Vote_168.b_nat impl_Vote_168.enc some k a0z a0 a1_0_0 a1_1_0_0_0 a1_1_0_1_0z a1_1_0_1_0 a1_2_0z a1_2_0))
  simp only [Option.map_some]
theorem impl_Vote_168.sound (k : Nat) : SoundF Try.prog 168 (fun a => (impl_Vote_168.ans k a).val) := by
  refine sound_plain (fun args res h => ?_) (fun t n => rfl)
  unfold impl_Vote_168.ans at h
  dsimp only at h
  split at h
  · cases k with
    | zero => cases h
    | succ k =>
      unfold Ans.val at h
      rw [← impl_Vote_168.eq] at h
      exact answer_sound mixed Try.func168 _ _ _ (k + 1) (fun j _ => tab_sound (tab_cons (impl_Vote_v1.sound j) (tab_nil))) _ _ h
  · exact (Ans.no_val h).elim

/-! loop.example/g00790/impl.hasVote -/
def impl_hasVote.b {R : Type} (ret : Bool → Option R) (k : Nat) (a0_0z : Bool) (a0_0 : List T) (a1z : Bool) (a1 : List T) (a2 : Int) (a3_0_0 : Int) (a3_1_0z : Bool) (a3_1_0 : List Int) : Option R :=
  (impl_Vote_168.f k a1z a1 a2 a3_0_0 a3_1_0z a3_1_0 a0_0z a0_0).bind fun t0 => ret t0
def impl_hasVote.f : Nat → Bool → (List T) → Bool → (List T) → Int → Int → Bool → (List Int) → Option Bool
  | 0, _, _, _, _, _, _, _, _ => none
  | k + 1, a0_0z, a0_0, a1z, a1, a2, a3_0_0, a3_1_0z, a3_1_0 => impl_hasVote.b some k a0_0z a0_0 a1z a1 a2 a3_0_0 a3_1_0z a3_1_0
def impl_hasVote.enc (r : Bool) : Res := ⟨[.vals false [((.bool r), true)]], []⟩
def impl_hasVote.ans (k : Nat) : List Arg → Ans
  | [.v (.agg [(.sl 44 a0_0z a0_0)]), .v (.sl 33 a1z a1), .v (.int .i64 a2), .v (.fn 111 [(.ptr [(.int .i64 a3_0_0)]), (.ptr [(.nums 5 .u8 a3_1_0z a3_1_0)])])] => ⟨impl_hasVote.f k a0_0z a0_0 a1z a1 a2 a3_0_0 a3_1_0z a3_1_0, impl_hasVote.enc⟩
  | _ => Ans.no
def impl_hasVote.Cs (k : Nat) : CallSem := tab [(168, impl_Vote_168.ans k)]
def impl_hasVote.cuts : List (Nat × Keep) := []
theorem impl_hasVote.s (k : Nat) (a0_0z : Bool) (a0_0 : List T) (a1z : Bool) (a1 : List T) (a2 : Int) (a3_0_0 : Int) (a3_1_0z : Bool) (a3_1_0 : List Int) : answer Try.prog impl_hasVote.Cs 100000 impl_hasVote.cuts [] Try.f110 (k + 1) [.v (.agg [(.sl 44 a0_0z a0_0)]), .v (.sl 33 a1z a1), .v (.int .i64 a2), .v (.fn 111 [(.ptr [(.int .i64 a3_0_0)]), (.ptr [(.nums 5 .u8 a3_1_0z a3_1_0)])])] = impl_hasVote.b (fun r => some (impl_hasVote.enc r)) k a0_0z a0_0 a1z a1 a2 a3_0_0 a3_1_0z a3_1_0 := by kernel_rfl
theorem impl_hasVote.b_nat {R R' : Type} (e : R → R') (ret : Bool → Option R) (k : Nat) (a0_0z : Bool) (a0_0 : List T) (a1z : Bool) (a1 : List T) (a2 : Int) (a3_0_0 : Int) (a3_1_0z : Bool) (a3_1_0 : List Int) : impl_hasVote.b (fun r => (ret r).map e) k a0_0z a0_0 a1z a1 a2 a3_0_0 a3_1_0z a3_1_0 = (impl_hasVote.b ret k a0_0z a0_0 a1z a1 a2 a3_0_0 a3_1_0z a3_1_0).map e := by
  unfold impl_hasVote.b
  repeat' first | with_reducible refine nat_cond ?_ ?_ | with_reducible refine nat_bind fun _ => ?_ | rfl
theorem impl_hasVote.eq (k : Nat) (a0_0z : Bool) (a0_0 : List T) (a1z : Bool) (a1 : List T) (a2 : Int) (a3_0_0 : Int) (a3_1_0z : Bool) (a3_1_0 : List Int) : answer Try.prog impl_hasVote.Cs 100000 impl_hasVote.cuts [] Try.f110 (k + 1) [.v (.agg [(.sl 44 a0_0z a0_0)]), .v (.sl 33 a1z a1), .v (.int .i64 a2), .v (.fn 111 [(.ptr [(.int .i64 a3_0_0)]), (.ptr [(.nums 5 .u8 a3_1_0z a3_1_0)])])] = (impl_hasVote.f (k + 1) a0_0z a0_0 a1z a1 a2 a3_0_0 a3_1_0z a3_1_0).map impl_hasVote.enc := by
  refine (impl_hasVote.s k a0_0z a0_0 a1z a1 a2 a3_0_0 a3_1_0z a3_1_0).trans (Eq.trans ?_ (impl_hasVote.b_nat impl_hasVote.enc some k a0_0z a0_0 a1z a1 a2 a3_0_0 a3_1_0z a3_1_0))
  simp only [Option.map_some]
theorem impl_hasVote.sound (k : Nat) : SoundF Try.prog 110 (fun a => (impl_hasVote.ans k a).val) := by
  refine sound_plain (fun args res h => ?_) (fun t n => rfl)
  unfold impl_hasVote.ans at h
  dsimp only at h
  split at h
  · cases k with
    | zero => cases h
    | succ k =>
      unfold Ans.val at h
      rw [← impl_hasVote.eq] at h
      exact answer_sound mixed Try.func110 _ _ _ (k + 1) (fun j _ => tab_sound (tab_cons (impl_Vote_168.sound j) (tab_nil))) _ _ h
  · exact (Ans.no_val h).elim

/-! loop.example/g00790/impl.Tally$1 -/
def impl_Tally_1.b {R : Type} (ret : Bool → Option R) (k : Nat) (a0 : Int) (a1_0z : Bool) (a1_0 : List T) (a2_0z : Bool) (a2_0 : List T) (a3_0 : Int) (a4_0z : Bool) (a4_0 : List Int) : Option R :=
  (impl_hasVote.f k a1_0z a1_0 a2_0z a2_0 a0 a3_0 a4_0z a4_0).bind fun t0 => ret t0
def impl_Tally_1.f : Nat → Int → Bool → (List T) → Bool → (List T) → Int → Bool → (List Int) → Option Bool
  | 0, _, _, _, _, _, _, _, _ => none
  | k + 1, a0, a1_0z, a1_0, a2_0z, a2_0, a3_0, a4_0z, a4_0 => impl_Tally_1.b some k a0 a1_0z a1_0 a2_0z a2_0 a3_0 a4_0z a4_0
def impl_Tally_1.enc (r : Bool) : Res := ⟨[.vals false [((.bool r), true)]], []⟩
def impl_Tally_1.ans (k : Nat) : List Arg → Ans
  | [.v (.int .i64 a0), .v (.ptr [(.sl 44 a1_0z a1_0)]), .v (.ptr [(.sl 33 a2_0z a2_0)]), .v (.ptr [(.int .i64 a3_0)]), .v (.ptr [(.nums 5 .u8 a4_0z a4_0)])] => ⟨impl_Tally_1.f k a0 a1_0z a1_0 a2_0z a2_0 a3_0 a4_0z a4_0, impl_Tally_1.enc⟩
  | _ => Ans.no
def impl_Tally_1.Cs (k : Nat) : CallSem := tab [(110, impl_hasVote.ans k)]
def impl_Tally_1.cuts : List (Nat × Keep) := []
theorem impl_Tally_1.s (k : Nat) (a0 : Int) (a1_0z : Bool) (a1_0 : List T) (a2_0z : Bool) (a2_0 : List T) (a3_0 : Int) (a4_0z : Bool) (a4_0 : List Int) : answer Try.prog impl_Tally_1.Cs 100000 impl_Tally_1.cuts [] Try.f109 (k + 1) [.v (.int .i64 a0), .v (.ptr [(.sl 44 a1_0z a1_0)]), .v (.ptr [(.sl 33 a2_0z a2_0)]), .v (.ptr [(.int .i64 a3_0)]), .v (.ptr [(.nums 5 .u8 a4_0z a4_0)])] = impl_Tally_1.b (fun r => some (impl_Tally_1.enc r)) k a0 a1_0z a1_0 a2_0z a2_0 a3_0 a4_0z a4_0 := by kernel_rfl
theorem impl_Tally_1.b_nat {R R' : Type} (e : R → R') (ret : Bool → Option R) (k : Nat) (a0 : Int) (a1_0z : Bool) (a1_0 : List T) (a2_0z : Bool) (a2_0 : List T) (a3_0 : Int) (a4_0z : Bool) (a4_0 : List Int) : impl_Tally_1.b (fun r => (ret r).map e) k a0 a1_0z a1_0 a2_0z a2_0 a3_0 a4_0z a4_0 = (impl_Tally_1.b ret k a0 a1_0z a1_0 a2_0z a2_0 a3_0 a4_0z a4_0).map e := by
  unfold impl_Tally_1.b
  repeat' first | with_reducible refine nat_cond ?_ ?_ | with_reducible refine nat_bind fun _ => ?_ | rfl
theorem impl_Tally_1.eq (k : Nat) (a0 : Int) (a1_0z : Bool) (a1_0 : List T) (a2_0z : Bool) (a2_0 : List T) (a3_0 : Int) (a4_0z : Bool) (a4_0 : List Int) : answer Try.prog impl_Tally_1.Cs 100000 impl_Tally_1.cuts [] Try.f109 (k + 1) [.v (.int .i64 a0), .v (.ptr [(.sl 44 a1_0z a1_0)]), .v (.ptr [(.sl 33 a2_0z a2_0)]), .v (.ptr [(.int .i64 a3_0)]), .v (.ptr [(.nums 5 .u8 a4_0z a4_0)])] = (impl_Tally_1.f (k + 1) a0 a1_0z a1_0 a2_0z a2_0 a3_0 a4_0z a4_0).map impl_Tally_1.enc := by
  refine (impl_Tally_1.s k a0 a1_0z a1_0 a2_0z a2_0 a3_0 a4_0z a4_0).trans (Eq.trans ?_ (impl_Tally_1.b_nat impl_Tally_1.enc some k a0 a1_0z a1_0 a2_0z a2_0 a3_0 a4_0z a4_0))
  simp only [Option.map_some]
theorem impl_Tally_1.sound (k : Nat) : SoundF Try.prog 109 (fun a => (impl_Tally_1.ans k a).val) := by
  refine sound_plain (fun args res h => ?_) (fun t n => rfl)
  unfold impl_Tally_1.ans at h
  dsimp only at h
  split at h
  · cases k with
    | zero => cases h
    | succ k =>
      unfold Ans.val at h
      rw [← impl_Tally_1.eq] at h
      exact answer_sound mixed Try.func109 _ _ _ (k + 1) (fun j _ => tab_sound (tab_cons (impl_hasVote.sound j) (tab_nil))) _ _ h
  · exact (Ans.no_val h).elim

/-! loop.example/g00790/impl.whoOf -/
def impl_whoOf.b {R : Type} (ret : Bool × List Int → Option R) (j0 : Bool → (List T) → Bool → (List T) → Int → Bool → (List Int) → (List Int) → Int → Int → Bool → (List T) → Option R) (k : Nat) (a0_0z : Bool) (a0_0 : List T) (a1_0_0z : Bool) (a1_0_0 : List T) (a1_1_0z : Bool) (a1_1_0 : List T) (a1_2_0 : Int) (a1_3_0z : Bool) (a1_3_0 : List Int) : Option R :=
  (impl_TableOk.f k a0_0z a0_0).bind fun t0 => cond (!t0) (ret (true, ([] : List Int))) (j0 a1_0_0z a1_0_0 a1_1_0z a1_1_0 a1_2_0 a1_3_0z a1_3_0 ([] : List Int) ((a0_0).length : Int) 0 a0_0z a0_0)
def impl_whoOf.l0b {R : Type} (ret : Bool × List Int → Option R) (j0 : Bool → (List T) → Bool → (List T) → Int → Bool → (List Int) → (List Int) → Int → Int → Bool → (List T) → Option R) (k : Nat) (x1_0_0z : Bool) (x1_0_0 : List T) (x1_1_0z : Bool) (x1_1_0 : List T) (x1_2_0 : Int) (x1_3_0z : Bool) (x1_3_0 : List Int) (x5 : List Int) (x15 : Int) (x16 : Int) (c2_0z : Bool) (c2_0 : List T) : Option R :=
  cond (decide (x16 < x15)) ((impl_Tally_1.f k x16 x1_0_0z x1_0_0 x1_1_0z x1_1_0 x1_2_0 x1_3_0z x1_3_0).bind fun t0 => cond t0 (cond (decide ((x5).length + 1 < 17592186044416)) (j0 x1_0_0z x1_0_0 x1_1_0z x1_1_0 x1_2_0 x1_3_0z x1_3_0 (x5 ++ ([x16] : List Int)) x15 (RowKit.wrap64 (x16 + 1)) c2_0z c2_0) (none)) (j0 x1_0_0z x1_0_0 x1_1_0z x1_1_0 x1_2_0 x1_3_0z x1_3_0 x5 x15 (RowKit.wrap64 (x16 + 1)) c2_0z c2_0)) ((impl_BitsOf.f k false x5 ((c2_0).length : Int)).bind fun t0 => ret (t0.1, t0.2.1))
def impl_whoOf.l0 : Nat → Bool → (List T) → Bool → (List T) → Int → Bool → (List Int) → (List Int) → Int → Int → Bool → (List T) → Option (Bool × List Int)
  | 0, _, _, _, _, _, _, _, _, _, _, _, _ => none
  | k + 1, x1_0_0z, x1_0_0, x1_1_0z, x1_1_0, x1_2_0, x1_3_0z, x1_3_0, x5, x15, x16, c2_0z, c2_0 => impl_whoOf.l0b some (impl_whoOf.l0 k) k x1_0_0z x1_0_0 x1_1_0z x1_1_0 x1_2_0 x1_3_0z x1_3_0 x5 x15 x16 c2_0z c2_0
def impl_whoOf.f : Nat → Bool → (List T) → Bool → (List T) → Bool → (List T) → Int → Bool → (List Int) → Option (Bool × List Int)
  | 0, _, _, _, _, _, _, _, _, _ => none
  | k + 1, a0_0z, a0_0, a1_0_0z, a1_0_0, a1_1_0z, a1_1_0, a1_2_0, a1_3_0z, a1_3_0 => impl_whoOf.b some (impl_whoOf.l0 k) k a0_0z a0_0 a1_0_0z a1_0_0 a1_1_0z a1_1_0 a1_2_0 a1_3_0z a1_3_0
def impl_whoOf.enc (r : Bool × List Int) : Res := ⟨[.vals false [((.nums 5 .u8 r.1 r.2), true)]], []⟩
def impl_whoOf.ans (k : Nat) : List Arg → Ans
  | [.v (.agg [(.sl 44 a0_0z a0_0)]), .v (.fn 109 [(.ptr [(.sl 44 a1_0_0z a1_0_0)]), (.ptr [(.sl 33 a1_1_0z a1_1_0)]), (.ptr [(.int .i64 a1_2_0)]), (.ptr [(.nums 5 .u8 a1_3_0z a1_3_0)])])] => ⟨impl_whoOf.f k a0_0z a0_0 a1_0_0z a1_0_0 a1_1_0z a1_1_0 a1_2_0 a1_3_0z a1_3_0, impl_whoOf.enc⟩
  | _ => Ans.no
def impl_whoOf.Cs (k : Nat) : CallSem := tab [(78, impl_TableOk.ans k), (94, impl_BitsOf.ans k), (109, impl_Tally_1.ans k)]
def impl_whoOf.cuts : List (Nat × Keep) := [(122, ⟨[(1, some []), (2, some []), (5, none), (15, some []), (16, some [])], [(2, [some []])]⟩)]
noncomputable def impl_whoOf.K0 : List Fr := framesAt [true, true, true, false, true, false] (bodyOf Try.f108 impl_whoOf.cuts) []
def impl_whoOf.N0 (x1_0_0z : Bool) (x1_0_0 : List T) (x1_1_0z : Bool) (x1_1_0 : List T) (x1_2_0 : Int) (x1_3_0z : Bool) (x1_3_0 : List Int) (x5 : List Int) (x15 : Int) (x16 : Int) (c2_0z : Bool) (c2_0 : List T) : St := stOf 36 36 2 [(1, .val ⟨(.fn 109 [(.ptr [(.sl 44 x1_0_0z x1_0_0)]), (.ptr [(.sl 33 x1_1_0z x1_1_0)]), (.ptr [(.int .i64 x1_2_0)]), (.ptr [(.nums 5 .u8 x1_3_0z x1_3_0)])]), [], false, none⟩), (2, .bp 2 0), (5, .val ⟨(.nums 3 .i64 false x5), [.l 5 0], true, some (.l 5 0)⟩), (15, .val (V.s (.int .i64 x15))), (16, .val (V.s (.int .i64 x16)))] [(2, .cells [⟨(.sl 44 c2_0z c2_0), [], false, none⟩])]
theorem impl_whoOf.s (k : Nat) (a0_0z : Bool) (a0_0 : List T) (a1_0_0z : Bool) (a1_0_0 : List T) (a1_1_0z : Bool) (a1_1_0 : List T) (a1_2_0 : Int) (a1_3_0z : Bool) (a1_3_0 : List Int) : answer Try.prog impl_whoOf.Cs 100000 impl_whoOf.cuts [] Try.f108 (k + 1) [.v (.agg [(.sl 44 a0_0z a0_0)]), .v (.fn 109 [(.ptr [(.sl 44 a1_0_0z a1_0_0)]), (.ptr [(.sl 33 a1_1_0z a1_1_0)]), (.ptr [(.int .i64 a1_2_0)]), (.ptr [(.nums 5 .u8 a1_3_0z a1_3_0)])])] = impl_whoOf.b (fun r => some (impl_whoOf.enc r)) (fun x1_0_0z x1_0_0 x1_1_0z x1_1_0 x1_2_0 x1_3_0z x1_3_0 x5 x15 x16 c2_0z c2_0 => rounds Try.prog impl_whoOf.Cs (finish Try.prog [] Try.f108 [.v (.agg [(.sl 44 a0_0z a0_0)]), .v (.fn 109 [(.ptr [(.sl 44 a1_0_0z a1_0_0)]), (.ptr [(.sl 33 a1_1_0z a1_1_0)]), (.ptr [(.int .i64 a1_2_0)]), (.ptr [(.nums 5 .u8 a1_3_0z a1_3_0)])])]) 100000 k impl_whoOf.K0 (impl_whoOf.N0 x1_0_0z x1_0_0 x1_1_0z x1_1_0 x1_2_0 x1_3_0z x1_3_0 x5 x15 x16 c2_0z c2_0)) k a0_0z a0_0 a1_0_0z a1_0_0 a1_1_0z a1_1_0 a1_2_0 a1_3_0z a1_3_0 := by kernel_rfl
theorem impl_whoOf.s0 (k : Nat) (G : List Fr → St → Option Res) (a0_0z : Bool) (a0_0 : List T) (a1_0_0z : Bool) (a1_0_0 : List T) (a1_1_0z : Bool) (a1_1_0 : List T) (a1_2_0 : Int) (a1_3_0z : Bool) (a1_3_0 : List Int) (yx1_0_0z : Bool) (yx1_0_0 : List T) (yx1_1_0z : Bool) (yx1_1_0 : List T) (yx1_2_0 : Int) (yx1_3_0z : Bool) (yx1_3_0 : List Int) (yx5 : List Int) (yx15 : Int) (yx16 : Int) (yc2_0z : Bool) (yc2_0 : List T) : resume Try.prog (impl_whoOf.Cs k) G (finish Try.prog [] Try.f108 [.v (.agg [(.sl 44 a0_0z a0_0)]), .v (.fn 109 [(.ptr [(.sl 44 a1_0_0z a1_0_0)]), (.ptr [(.sl 33 a1_1_0z a1_1_0)]), (.ptr [(.int .i64 a1_2_0)]), (.ptr [(.nums 5 .u8 a1_3_0z a1_3_0)])])]) 100000 impl_whoOf.K0 (impl_whoOf.N0 yx1_0_0z yx1_0_0 yx1_1_0z yx1_1_0 yx1_2_0 yx1_3_0z yx1_3_0 yx5 yx15 yx16 yc2_0z yc2_0) = impl_whoOf.l0b (fun r => some (impl_whoOf.enc r)) (fun x1_0_0z x1_0_0 x1_1_0z x1_1_0 x1_2_0 x1_3_0z x1_3_0 x5 x15 x16 c2_0z c2_0 => G impl_whoOf.K0 (impl_whoOf.N0 x1_0_0z x1_0_0 x1_1_0z x1_1_0 x1_2_0 x1_3_0z x1_3_0 x5 x15 x16 c2_0z c2_0)) k yx1_0_0z yx1_0_0 yx1_1_0z yx1_1_0 yx1_2_0 yx1_3_0z yx1_3_0 yx5 yx15 yx16 yc2_0z yc2_0 := by kernel_rfl
theorem impl_whoOf.b_nat {R R' : Type} (e : R → R') (ret : Bool × List Int → Option R) (j0 : Bool → (List T) → Bool → (List T) → Int → Bool → (List Int) → (List Int) → Int → Int → Bool → (List T) → Option R) (k : Nat) (a0_0z : Bool) (a0_0 : List T) (a1_0_0z : Bool) (a1_0_0 : List T) (a1_1_0z : Bool) (a1_1_0 : List T) (a1_2_0 : Int) (a1_3_0z : Bool) (a1_3_0 : List Int) : impl_whoOf.b (fun r => (ret r).map e) (fun x1_0_0z x1_0_0 x1_1_0z x1_1_0 x1_2_0 x1_3_0z x1_3_0 x5 x15 x16 c2_0z c2_0 => (j0 x1_0_0z x1_0_0 x1_1_0z x1_1_0 x1_2_0 x1_3_0z x1_3_0 x5 x15 x16 c2_0z c2_0).map e) k a0_0z a0_0 a1_0_0z a1_0_0 a1_1_0z a1_1_0 a1_2_0 a1_3_0z a1_3_0 = (impl_whoOf.b ret j0 k a0_0z a0_0 a1_0_0z a1_0_0 a1_1_0z a1_1_0 a1_2_0 a1_3_0z a1_3_0).map e := by
  unfold impl_whoOf.b
  repeat' first | with_reducible refine nat_cond ?_ ?_ | with_reducible refine nat_bind fun _ => ?_ | rfl
theorem impl_whoOf.l0b_nat {R R' : Type} (e : R → R') (ret : Bool × List Int → Option R) (j0 : Bool → (List T) → Bool → (List T) → Int → Bool → (List Int) → (List Int) → Int → Int → Bool → (List T) → Option R) (k : Nat) (x1_0_0z : Bool) (x1_0_0 : List T) (x1_1_0z : Bool) (x1_1_0 : List T) (x1_2_0 : Int) (x1_3_0z : Bool) (x1_3_0 : List Int) (x5 : List Int) (x15 : Int) (x16 : Int) (c2_0z : Bool) (c2_0 : List T) : impl_whoOf.l0b (fun r => (ret r).map e) (fun x1_0_0z x1_0_0 x1_1_0z x1_1_0 x1_2_0 x1_3_0z x1_3_0 x5 x15 x16 c2_0z c2_0 => (j0 x1_0_0z x1_0_0 x1_1_0z x1_1_0 x1_2_0 x1_3_0z x1_3_0 x5 x15 x16 c2_0z c2_0).map e) k x1_0_0z x1_0_0 x1_1_0z x1_1_0 x1_2_0 x1_3_0z x1_3_0 x5 x15 x16 c2_0z c2_0 = (impl_whoOf.l0b ret j0 k x1_0_0z x1_0_0 x1_1_0z x1_1_0 x1_2_0 x1_3_0z x1_3_0 x5 x15 x16 c2_0z c2_0).map e := by
  unfold impl_whoOf.l0b
  repeat' first | with_reducible refine nat_cond ?_ ?_ | with_reducible refine nat_bind fun _ => ?_ | rfl
theorem impl_whoOf.rounds_eq (a0_0z : Bool) (a0_0 : List T) (a1_0_0z : Bool) (a1_0_0 : List T) (a1_1_0z : Bool) (a1_1_0 : List T) (a1_2_0 : Int) (a1_3_0z : Bool) (a1_3_0 : List Int) : ∀ k, (∀ (x1_0_0z : Bool) (x1_0_0 : List T) (x1_1_0z : Bool) (x1_1_0 : List T) (x1_2_0 : Int) (x1_3_0z : Bool) (x1_3_0 : List Int) (x5 : List Int) (x15 : Int) (x16 : Int) (c2_0z : Bool) (c2_0 : List T), rounds Try.prog impl_whoOf.Cs (finish Try.prog [] Try.f108 [.v (.agg [(.sl 44 a0_0z a0_0)]), .v (.fn 109 [(.ptr [(.sl 44 a1_0_0z a1_0_0)]), (.ptr [(.sl 33 a1_1_0z a1_1_0)]), (.ptr [(.int .i64 a1_2_0)]), (.ptr [(.nums 5 .u8 a1_3_0z a1_3_0)])])]) 100000 k impl_whoOf.K0 (impl_whoOf.N0 x1_0_0z x1_0_0 x1_1_0z x1_1_0 x1_2_0 x1_3_0z x1_3_0 x5 x15 x16 c2_0z c2_0) = (impl_whoOf.l0 k x1_0_0z x1_0_0 x1_1_0z x1_1_0 x1_2_0 x1_3_0z x1_3_0 x5 x15 x16 c2_0z c2_0).map impl_whoOf.enc)
  | 0 => fun _ _ _ _ _ _ _ _ _ _ _ _ => rfl
  | k + 1 => by
    have ih := impl_whoOf.rounds_eq a0_0z a0_0 a1_0_0z a1_0_0 a1_1_0z a1_1_0 a1_2_0 a1_3_0z a1_3_0 k
    refine fun _ _ _ _ _ _ _ _ _ _ _ _ => ?_
    · refine (impl_whoOf.s0 k _ a0_0z a0_0 a1_0_0z a1_0_0 a1_1_0z a1_1_0 a1_2_0 a1_3_0z a1_3_0 _ _ _ _ _ _ _ _ _ _ _ _).trans (Eq.trans ?_ (impl_whoOf.l0b_nat impl_whoOf.enc some (impl_whoOf.l0 k) k _ _ _ _ _ _ _ _ _ _ _ _))
      simp only [ih, Option.map_some]
theorem impl_whoOf.eq (k : Nat) (a0_0z : Bool) (a0_0 : List T) (a1_0_0z : Bool) (a1_0_0 : List T) (a1_1_0z : Bool) (a1_1_0 : List T) (a1_2_0 : Int) (a1_3_0z : Bool) (a1_3_0 : List Int) : answer Try.prog impl_whoOf.Cs 100000 impl_whoOf.cuts [] Try.f108 (k + 1) [.v (.agg [(.sl 44 a0_0z a0_0)]), .v (.fn 109 [(.ptr [(.sl 44 a1_0_0z a1_0_0)]), (.ptr [(.sl 33 a1_1_0z a1_1_0)]), (.ptr [(.int .i64 a1_2_0)]), (.ptr [(.nums 5 .u8 a1_3_0z a1_3_0)])])] = (impl_whoOf.f (k + 1) a0_0z a0_0 a1_0_0z a1_0_0 a1_1_0z a1_1_0 a1_2_0 a1_3_0z a1_3_0).map impl_whoOf.enc := by
  have ih := impl_whoOf.rounds_eq a0_0z a0_0 a1_0_0z a1_0_0 a1_1_0z a1_1_0 a1_2_0 a1_3_0z a1_3_0 k
  refine (impl_whoOf.s k a0_0z a0_0 a1_0_0z a1_0_0 a1_1_0z a1_1_0 a1_2_0 a1_3_0z a1_3_0).trans (Eq.trans ?_ (impl_whoOf.b_nat impl_whoOf.enc some (impl_whoOf.l0 k) k a0_0z a0_0 a1_0_0z a1_0_0 a1_1_0z a1_1_0 a1_2_0 a1_3_0z a1_3_0))
  simp only [ih, Option.map_some]
theorem impl_whoOf.sound (k : Nat) : SoundF Try.prog 108 (fun a => (impl_whoOf.ans k a).val) := by
  refine sound_plain (fun args res h => ?_) (fun t n => rfl)
  unfold impl_whoOf.ans at h
  dsimp only at h
  split at h
  · cases k with
    | zero => cases h
    | succ k =>
      unfold Ans.val at h
      rw [← impl_whoOf.eq] at h
      exact answer_sound mixed Try.func108 _ _ _ (k + 1) (fun j _ => tab_sound (tab_cons (impl_TableOk.sound j) (tab_cons (impl_BitsOf.sound j) (tab_cons (impl_Tally_1.sound j) (tab_nil))))) _ _ h
  · exact (Ans.no_val h).elim

/-! loop.example/g00790/impl.Tally -/
def impl_Tally.b {R : Type} (ret : Bool × List Int → Option R) (k : Nat) (a0_0z : Bool) (a0_0 : List T) (a1z : Bool) (a1 : List T) (a2 : Int) (a3z : Bool) (a3 : List Int) : Option R :=
  (impl_whoOf.f k a0_0z a0_0 a0_0z a0_0 a1z a1 a2 a3z a3).bind fun t0 => ret (t0.1, t0.2)
def impl_Tally.f : Nat → Bool → (List T) → Bool → (List T) → Int → Bool → (List Int) → Option (Bool × List Int)
  | 0, _, _, _, _, _, _, _ => none
  | k + 1, a0_0z, a0_0, a1z, a1, a2, a3z, a3 => impl_Tally.b some k a0_0z a0_0 a1z a1 a2 a3z a3
def impl_Tally.enc (r : Bool × List Int) : Res := ⟨[.vals false [((.nums 5 .u8 r.1 r.2), true)]], []⟩
def impl_Tally.ans (k : Nat) : List Arg → Ans
  | [.v (.agg [(.sl 44 a0_0z a0_0)]), .v (.sl 33 a1z a1), .v (.int .i64 a2), .v (.nums 5 .u8 a3z a3)] => ⟨impl_Tally.f k a0_0z a0_0 a1z a1 a2 a3z a3, impl_Tally.enc⟩
  | _ => Ans.no
def impl_Tally.Cs (k : Nat) : CallSem := tab [(108, impl_whoOf.ans k)]
def impl_Tally.cuts : List (Nat × Keep) := []
theorem impl_Tally.s (k : Nat) (a0_0z : Bool) (a0_0 : List T) (a1z : Bool) (a1 : List T) (a2 : Int) (a3z : Bool) (a3 : List Int) : answer Try.prog impl_Tally.Cs 100000 impl_Tally.cuts [] Try.f43 (k + 1) [.v (.agg [(.sl 44 a0_0z a0_0)]), .v (.sl 33 a1z a1), .v (.int .i64 a2), .v (.nums 5 .u8 a3z a3)] = impl_Tally.b (fun r => some (impl_Tally.enc r)) k a0_0z a0_0 a1z a1 a2 a3z a3 := by kernel_rfl
theorem impl_Tally.b_nat {R R' : Type} (e : R → R') (ret : Bool × List Int → Option R) (k : Nat) (a0_0z : Bool) (a0_0 : List T) (a1z : Bool) (a1 : List T) (a2 : Int) (a3z : Bool) (a3 : List Int) : impl_Tally.b (fun r => (ret r).map e) k a0_0z a0_0 a1z a1 a2 a3z a3 = (impl_Tally.b ret k a0_0z a0_0 a1z a1 a2 a3z a3).map e := by
  unfold impl_Tally.b
  repeat' first | with_reducible refine nat_cond ?_ ?_ | with_reducible refine nat_bind fun _ => ?_ | rfl
theorem impl_Tally.eq (k : Nat) (a0_0z : Bool) (a0_0 : List T) (a1z : Bool) (a1 : List T) (a2 : Int) (a3z : Bool) (a3 : List Int) : answer Try.prog impl_Tally.Cs 100000 impl_Tally.cuts [] Try.f43 (k + 1) [.v (.agg [(.sl 44 a0_0z a0_0)]), .v (.sl 33 a1z a1), .v (.int .i64 a2), .v (.nums 5 .u8 a3z a3)] = (impl_Tally.f (k + 1) a0_0z a0_0 a1z a1 a2 a3z a3).map impl_Tally.enc := by
  refine (impl_Tally.s k a0_0z a0_0 a1z a1 a2 a3z a3).trans (Eq.trans ?_ (impl_Tally.b_nat impl_Tally.enc some k a0_0z a0_0 a1z a1 a2 a3z a3))
  simp only [Option.map_some]
theorem impl_Tally.sound (k : Nat) : SoundF Try.prog 43 (fun a => (impl_Tally.ans k a).val) := by
  refine sound_plain (fun args res h => ?_) (fun t n => rfl)
  unfold impl_Tally.ans at h
  dsimp only at h
  split at h
  · cases k with
    | zero => cases h
    | succ k =>
      unfold Ans.val at h
      rw [← impl_Tally.eq] at h
      exact answer_sound mixed Try.func43 _ _ _ (k + 1) (fun j _ => tab_sound (tab_cons (impl_whoOf.sound j) (tab_nil))) _ _ h
  · exact (Ans.no_val h).elim

/-! loop.example/g00790/spec.SameBytes -/
def spec_SameBytes.b {R : Type} (ret : Bool → Option R) (k : Nat) (a0z : Bool) (a0 : List Int) (a1z : Bool) (a1 : List Int) : Option R :=
  ret (decide ((strOf a0) = (strOf a1)))
def spec_SameBytes.f : Nat → Bool → (List Int) → Bool → (List Int) → Option Bool
  | 0, _, _, _, _ => none
  | k + 1, a0z, a0, a1z, a1 => spec_SameBytes.b some k a0z a0 a1z a1
def spec_SameBytes.enc (r : Bool) : Res := ⟨[.vals false [((.bool r), true)]], []⟩
def spec_SameBytes.ans (k : Nat) : List Arg → Ans
  | [.v (.nums 5 .u8 a0z a0), .v (.nums 5 .u8 a1z a1)] => ⟨spec_SameBytes.f k a0z a0 a1z a1, spec_SameBytes.enc⟩
  | _ => Ans.no
def spec_SameBytes.Cs (k : Nat) : CallSem := tab []
def spec_SameBytes.cuts : List (Nat × Keep) := []
theorem spec_SameBytes.s (k : Nat) (a0z : Bool) (a0 : List Int) (a1z : Bool) (a1 : List Int) : answer Try.prog spec_SameBytes.Cs 100000 spec_SameBytes.cuts [] Try.f115 (k + 1) [.v (.nums 5 .u8 a0z a0), .v (.nums 5 .u8 a1z a1)] = spec_SameBytes.b (fun r => some (spec_SameBytes.enc r)) k a0z a0 a1z a1 := by kernel_rfl
theorem spec_SameBytes.b_nat {R R' : Type} (e : R → R') (ret : Bool → Option R) (k : Nat) (a0z : Bool) (a0 : List Int) (a1z : Bool) (a1 : List Int) : spec_SameBytes.b (fun r => (ret r).map e) k a0z a0 a1z a1 = (spec_SameBytes.b ret k a0z a0 a1z a1).map e := by
  unfold spec_SameBytes.b
  repeat' first | with_reducible refine nat_cond ?_ ?_ | with_reducible refine nat_bind fun _ => ?_ | rfl
theorem spec_SameBytes.eq (k : Nat) (a0z : Bool) (a0 : List Int) (a1z : Bool) (a1 : List Int) : answer Try.prog spec_SameBytes.Cs 100000 spec_SameBytes.cuts [] Try.f115 (k + 1) [.v (.nums 5 .u8 a0z a0), .v (.nums 5 .u8 a1z a1)] = (spec_SameBytes.f (k + 1) a0z a0 a1z a1).map spec_SameBytes.enc := by
  refine (spec_SameBytes.s k a0z a0 a1z a1).trans (Eq.trans ?_ (spec_SameBytes.b_nat spec_SameBytes.enc some k a0z a0 a1z a1))
  simp only [Option.map_some]
theorem spec_SameBytes.sound (k : Nat) : SoundF Try.prog 115 (fun a => (spec_SameBytes.ans k a).val) := by
  refine sound_plain (fun args res h => ?_) (fun t n => rfl)
  unfold spec_SameBytes.ans at h
  dsimp only at h
  split at h
  · cases k with
    | zero => cases h
    | succ k =>
      unfold Ans.val at h
      rw [← spec_SameBytes.eq] at h
      exact answer_sound mixed Try.func115 _ _ _ (k + 1) (fun j _ => tab_sound (tab_nil)) _ _ h
  · exact (Ans.no_val h).elim

/-! loop.example/g00790/spec.VoteSame -/
def spec_VoteSame.b {R : Type} (ret : Bool → Option R) (k : Nat) (a0_0 : Int) (a0_1 : Int) (a0_2z : Bool) (a0_2 : List Int) (a0_3 : Int) (a0_4z : Bool) (a0_4 : List Int) (a1_0 : Int) (a1_1 : Int) (a1_2z : Bool) (a1_2 : List Int) (a1_3 : Int) (a1_4z : Bool) (a1_4 : List Int) : Option R :=
  cond (decide (a0_0 = a1_0)) (cond (decide (a0_1 = a1_1)) ((spec_SameBytes.f k a0_2z a0_2 a1_2z a1_2).bind fun t0 => cond t0 (cond (decide (a0_3 = a1_3)) ((spec_SameBytes.f k a0_4z a0_4 a1_4z a1_4).bind fun t1 => ret t1) (ret false)) (ret false)) (ret false)) (ret false)
def spec_VoteSame.f : Nat → Int → Int → Bool → (List Int) → Int → Bool → (List Int) → Int → Int → Bool → (List Int) → Int → Bool → (List Int) → Option Bool
  | 0, _, _, _, _, _, _, _, _, _, _, _, _, _, _ => none
  | k + 1, a0_0, a0_1, a0_2z, a0_2, a0_3, a0_4z, a0_4, a1_0, a1_1, a1_2z, a1_2, a1_3, a1_4z, a1_4 => spec_VoteSame.b some k a0_0 a0_1 a0_2z a0_2 a0_3 a0_4z a0_4 a1_0 a1_1 a1_2z a1_2 a1_3 a1_4z a1_4
def spec_VoteSame.enc (r : Bool) : Res := ⟨[.vals false [((.bool r), true)]], []⟩
def spec_VoteSame.ans (k : Nat) : List Arg → Ans
  | [.v (.agg [(.int .i64 a0_0), (.int .i64 a0_1), (.nums 5 .u8 a0_2z a0_2), (.int .i64 a0_3), (.nums 5 .u8 a0_4z a0_4)]), .v (.agg [(.int .i64 a1_0), (.int .i64 a1_1), (.nums 5 .u8 a1_2z a1_2), (.int .i64 a1_3), (.nums 5 .u8 a1_4z a1_4)])] => ⟨spec_VoteSame.f k a0_0 a0_1 a0_2z a0_2 a0_3 a0_4z a0_4 a1_0 a1_1 a1_2z a1_2 a1_3 a1_4z a1_4, spec_VoteSame.enc⟩
  | _ => Ans.no
def spec_VoteSame.Cs (k : Nat) : CallSem := tab [(115, spec_SameBytes.ans k)]
def spec_VoteSame.cuts : List (Nat × Keep) := []
theorem spec_VoteSame.s (k : Nat) (a0_0 : Int) (a0_1 : Int) (a0_2z : Bool) (a0_2 : List Int) (a0_3 : Int) (a0_4z : Bool) (a0_4 : List Int) (a1_0 : Int) (a1_1 : Int) (a1_2z : Bool) (a1_2 : List Int) (a1_3 : Int) (a1_4z : Bool) (a1_4 : List Int) : answer Try.prog spec_VoteSame.Cs 100000 spec_VoteSame.cuts [] Try.f174 (k + 1) [.v (.agg [(.int .i64 a0_0), (.int .i64 a0_1), (.nums 5 .u8 a0_2z a0_2), (.int .i64 a0_3), (.nums 5 .u8 a0_4z a0_4)]), .v (.agg [(.int .i64 a1_0), (.int .i64 a1_1), (.nums 5 .u8 a1_2z a1_2), (.int .i64 a1_3), (.nums 5 .u8 a1_4z a1_4)])] = spec_VoteSame.b (fun r => some (spec_VoteSame.enc r)) k a0_0 a0_1 a0_2z a0_2 a0_3 a0_4z a0_4 a1_0 a1_1 a1_2z a1_2 a1_3 a1_4z a1_4 := by kernel_rfl
theorem spec_VoteSame.b_nat {R R' : Type} (e : R → R') (ret : Bool → Option R) (k : Nat) (a0_0 : Int) (a0_1 : Int) (a0_2z : Bool) (a0_2 : List Int) (a0_3 : Int) (a0_4z : Bool) (a0_4 : List Int) (a1_0 : Int) (a1_1 : Int) (a1_2z : Bool) (a1_2 : List Int) (a1_3 : Int) (a1_4z : Bool) (a1_4 : List Int) : spec_VoteSame.b (fun r => (ret r).map e) k a0_0 a0_1 a0_2z a0_2 a0_3 a0_4z a0_4 a1_0 a1_1 a1_2z a1_2 a1_3 a1_4z a1_4 = (spec_VoteSame.b ret k a0_0 a0_1 a0_2z a0_2 a0_3 a0_4z a0_4 a1_0 a1_1 a1_2z a1_2 a1_3 a1_4z a1_4).map e := by
  unfold spec_VoteSame.b
  repeat' first | with_reducible refine nat_cond ?_ ?_ | with_reducible refine nat_bind fun _ => ?_ | rfl
theorem spec_VoteSame.eq (k : Nat) (a0_0 : Int) (a0_1 : Int) (a0_2z : Bool) (a0_2 : List Int) (a0_3 : Int) (a0_4z : Bool) (a0_4 : List Int) (a1_0 : Int) (a1_1 : Int) (a1_2z : Bool) (a1_2 : List Int) (a1_3 : Int) (a1_4z : Bool) (a1_4 : List Int) : answer Try.prog spec_VoteSame.Cs 100000 spec_VoteSame.cuts [] Try.f174 (k + 1) [.v (.agg [(.int .i64 a0_0), (.int .i64 a0_1), (.nums 5 .u8 a0_2z a0_2), (.int .i64 a0_3), (.nums 5 .u8 a0_4z a0_4)]), .v (.agg [(.int .i64 a1_0), (.int .i64 a1_1), (.nums 5 .u8 a1_2z a1_2), (.int .i64 a1_3), (.nums 5 .u8 a1_4z a1_4)])] = (spec_VoteSame.f (k + 1) a0_0 a0_1 a0_2z a0_2 a0_3 a0_4z a0_4 a1_0 a1_1 a1_2z a1_2 a1_3 a1_4z a1_4).map spec_VoteSame.enc := by
  refine (spec_VoteSame.s k a0_0 a0_1 a0_2z a0_2 a0_3 a0_4z a0_4 a1_0 a1_1 a1_2z a1_2 a1_3 a1_4z a1_4).trans (Eq.trans ?_ (spec_VoteSame.b_nat spec_VoteSame.enc some k a0_0 a0_1 a0_2z a0_2 a0_3 a0_4z a0_4 a1_0 a1_1 a1_2z a1_2 a1_3 a1_4z a1_4))
  simp only [Option.map_some]
theorem spec_VoteSame.sound (k : Nat) : SoundF Try.prog 174 (fun a => (spec_VoteSame.ans k a).val) := by
  refine sound_plain (fun args res h => ?_) (fun t n => rfl)
  unfold spec_VoteSame.ans at h
  dsimp only at h
  split at h
  · cases k with
    | zero => cases h
    | succ k =>
      unfold Ans.val at h
      rw [← spec_VoteSame.eq] at h
      exact answer_sound mixed Try.func174 _ _ _ (k + 1) (fun j _ => tab_sound (tab_cons (spec_SameBytes.sound j) (tab_nil))) _ _ h
  · exact (Ans.no_val h).elim

/-! loop.example/g00790/spec.VoteGood -/
def spec_VoteGood.b {R : Type} (ret : Bool → Option R) (k : Nat) (a0_0z : Bool) (a0_0 : List T) (a1_0 : Int) (a1_1 : Int) (a1_2z : Bool) (a1_2 : List Int) (a1_3 : Int) (a1_4z : Bool) (a1_4 : List Int) : Option R :=
  (spec_SignVote.f k a0_0z a0_0 a1_0 a1_1 a1_2z a1_2 a1_3).bind fun t0 => cond t0.2.2.2.2.2.2.2 ((spec_VoteSame.f k a1_0 a1_1 a1_2z a1_2 a1_3 a1_4z a1_4 t0.1 t0.2.1 t0.2.2.1 t0.2.2.2.1 t0.2.2.2.2.1 t0.2.2.2.2.2.1 t0.2.2.2.2.2.2.1).bind fun t1 => ret t1) (ret false)
def spec_VoteGood.f : Nat → Bool → (List T) → Int → Int → Bool → (List Int) → Int → Bool → (List Int) → Option Bool
  | 0, _, _, _, _, _, _, _, _, _ => none
  | k + 1, a0_0z, a0_0, a1_0, a1_1, a1_2z, a1_2, a1_3, a1_4z, a1_4 => spec_VoteGood.b some k a0_0z a0_0 a1_0 a1_1 a1_2z a1_2 a1_3 a1_4z a1_4
def spec_VoteGood.enc (r : Bool) : Res := ⟨[.vals false [((.bool r), true)]], []⟩
def spec_VoteGood.ans (k : Nat) : List Arg → Ans
  | [.v (.agg [(.sl 44 a0_0z a0_0)]), .v (.agg [(.int .i64 a1_0), (.int .i64 a1_1), (.nums 5 .u8 a1_2z a1_2), (.int .i64 a1_3), (.nums 5 .u8 a1_4z a1_4)])] => ⟨spec_VoteGood.f k a0_0z a0_0 a1_0 a1_1 a1_2z a1_2 a1_3 a1_4z a1_4, spec_VoteGood.enc⟩
  | _ => Ans.no
def spec_VoteGood.Cs (k : Nat) : CallSem := tab [(166, spec_SignVote.ans k), (174, spec_VoteSame.ans k)]
def spec_VoteGood.cuts : List (Nat × Keep) := []
theorem spec_VoteGood.s (k : Nat) (a0_0z : Bool) (a0_0 : List T) (a1_0 : Int) (a1_1 : Int) (a1_2z : Bool) (a1_2 : List Int) (a1_3 : Int) (a1_4z : Bool) (a1_4 : List Int) : answer Try.prog spec_VoteGood.Cs 100000 spec_VoteGood.cuts [] Try.f116 (k + 1) [.v (.agg [(.sl 44 a0_0z a0_0)]), .v (.agg [(.int .i64 a1_0), (.int .i64 a1_1), (.nums 5 .u8 a1_2z a1_2), (.int .i64 a1_3), (.nums 5 .u8 a1_4z a1_4)])] = spec_VoteGood.b (fun r => some (spec_VoteGood.enc r)) k a0_0z a0_0 a1_0 a1_1 a1_2z a1_2 a1_3 a1_4z a1_4 := by kernel_rfl
theorem spec_VoteGood.b_nat {R R' : Type} (e : R → R') (ret : Bool → Option R) (k : Nat) (a0_0z : Bool) (a0_0 : List T) (a1_0 : Int) (a1_1 : Int) (a1_2z : Bool) (a1_2 : List Int) (a1_3 : Int) (a1_4z : Bool) (a1_4 : List Int) : spec_VoteGood.b (fun r => (ret r).map e) k a0_0z a0_0 a1_0 a1_1 a1_2z a1_2 a1_3 a1_4z a1_4 = (spec_VoteGood.b ret k a0_0z a0_0 a1_0 a1_1 a1_2z a1_2 a1_3 a1_4z a1_4).map e := by
  unfold spec_VoteGood.b
  repeat' first | with_reducible refine nat_cond ?_ ?_ | with_reducible refine nat_bind fun _ => ?_ | rfl
theorem spec_VoteGood.eq (k : Nat) (a0_0z : Bool) (a0_0 : List T) (a1_0 : Int) (a1_1 : Int) (a1_2z : Bool) (a1_2 : List Int) (a1_3 : Int) (a1_4z : Bool) (a1_4 : List Int) : answer Try.prog spec_VoteGood.Cs 100000 spec_VoteGood.cuts [] Try.f116 (k + 1) [.v (.agg [(.sl 44 a0_0z a0_0)]), .v (.agg [(.int .i64 a1_0), (.int .i64 a1_1), (.nums 5 .u8 a1_2z a1_2), (.int .i64 a1_3), (.nums 5 .u8 a1_4z a1_4)])] = (spec_VoteGood.f (k + 1) a0_0z a0_0 a1_0 a1_1 a1_2z a1_2 a1_3 a1_4z a1_4).map spec_VoteGood.enc := by
  refine (spec_VoteGood.s k a0_0z a0_0 a1_0 a1_1 a1_2z a1_2 a1_3 a1_4z a1_4).trans (Eq.trans ?_ (spec_VoteGood.b_nat spec_VoteGood.enc some k a0_0z a0_0 a1_0 a1_1 a1_2z a1_2 a1_3 a1_4z a1_4))
  simp only [Option.map_some]
theorem spec_VoteGood.sound (k : Nat) : SoundF Try.prog 116 (fun a => (spec_VoteGood.ans k a).val) := by
  refine sound_plain (fun args res h => ?_) (fun t n => rfl)
  unfold spec_VoteGood.ans at h
  dsimp only at h
  split at h
  · cases k with
    | zero => cases h
    | succ k =>
      unfold Ans.val at h
      rw [← spec_VoteGood.eq] at h
      exact answer_sound mixed Try.func116 _ _ _ (k + 1) (fun j _ => tab_sound (tab_cons (spec_SignVote.sound j) (tab_cons (spec_VoteSame.sound j) (tab_nil)))) _ _ h
  · exact (Ans.no_val h).elim

/-! loop.example/g00790/spec.BitsSize -/
def spec_BitsSize.b {R : Type} (ret : Int → Option R) (k : Nat) (a0 : Int) : Option R :=
  cond (decide (a0 < 1)) (ret 0) (ret (RowKit.wrap64 ((RowKit.wrap64 (Int.tdiv (RowKit.wrap64 (a0 - 1)) 8)) + 1)))
def spec_BitsSize.f : Nat → Int → Option Int
  | 0, _ => none
  | k + 1, a0 => spec_BitsSize.b some k a0
def spec_BitsSize.enc (r : Int) : Res := ⟨[.vals false [((.int .i64 r), true)]], []⟩
def spec_BitsSize.ans (k : Nat) : List Arg → Ans
  | [.v (.int .i64 a0)] => ⟨spec_BitsSize.f k a0, spec_BitsSize.enc⟩
  | _ => Ans.no
def spec_BitsSize.Cs (k : Nat) : CallSem := tab []
def spec_BitsSize.cuts : List (Nat × Keep) := []
theorem spec_BitsSize.s (k : Nat) (a0 : Int) : answer Try.prog spec_BitsSize.Cs 100000 spec_BitsSize.cuts [] Try.f160 (k + 1) [.v (.int .i64 a0)] = spec_BitsSize.b (fun r => some (spec_BitsSize.enc r)) k a0 := by kernel_rfl
theorem spec_BitsSize.b_nat {R R' : Type} (e : R → R') (ret : Int → Option R) (k : Nat) (a0 : Int) : spec_BitsSize.b (fun r => (ret r).map e) k a0 = (spec_BitsSize.b ret k a0).map e := by
  unfold spec_BitsSize.b
  repeat' first | with_reducible refine nat_cond ?_ ?_ | with_reducible refine nat_bind fun _ => ?_ | rfl
theorem spec_BitsSize.eq (k : Nat) (a0 : Int) : answer Try.prog spec_BitsSize.Cs 100000 spec_BitsSize.cuts [] Try.f160 (k + 1) [.v (.int .i64 a0)] = (spec_BitsSize.f (k + 1) a0).map spec_BitsSize.enc := by
  refine (spec_BitsSize.s k a0).trans (Eq.trans ?_ (spec_BitsSize.b_nat spec_BitsSize.enc some k a0))
  simp only [Option.map_some]
theorem spec_BitsSize.sound (k : Nat) : SoundF Try.prog 160 (fun a => (spec_BitsSize.ans k a).val) := by
  refine sound_plain (fun args res h => ?_) (fun t n => rfl)
  unfold spec_BitsSize.ans at h
  dsimp only at h
  split at h
  · cases k with
    | zero => cases h
    | succ k =>
      unfold Ans.val at h
      rw [← spec_BitsSize.eq] at h
      exact answer_sound mixed Try.func160 _ _ _ (k + 1) (fun j _ => tab_sound (tab_nil)) _ _ h
  · exact (Ans.no_val h).elim

/-! loop.example/g00790/spec.BitsNew -/
def spec_BitsNew.b {R : Type} (ret : Bool × List Int → Option R) (k : Nat) (a0 : Int) : Option R :=
  (spec_l02Signers.f k a0).bind fun t0 => cond (!t0) (ret (true, ([] : List Int))) ((spec_BitsSize.f k a0).bind fun t1 => cond (decide (t1 = t1)) (cond (decide ((0 : Int) ≤ t1)) (cond (decide ((t1).toNat < 140737488355328)) (ret (false, (List.replicate (t1).toNat (0 : Int)))) (none)) (none)) (none))
def spec_BitsNew.f : Nat → Int → Option (Bool × List Int)
  | 0, _ => none
  | k + 1, a0 => spec_BitsNew.b some k a0
def spec_BitsNew.enc (r : Bool × List Int) : Res := ⟨[.vals false [((.nums 5 .u8 r.1 r.2), true)]], []⟩
def spec_BitsNew.ans (k : Nat) : List Arg → Ans
  | [.v (.int .i64 a0)] => ⟨spec_BitsNew.f k a0, spec_BitsNew.enc⟩
  | _ => Ans.no
def spec_BitsNew.Cs (k : Nat) : CallSem := tab [(171, spec_l02Signers.ans k), (160, spec_BitsSize.ans k)]
def spec_BitsNew.cuts : List (Nat × Keep) := []
theorem spec_BitsNew.s (k : Nat) (a0 : Int) : answer Try.prog spec_BitsNew.Cs 100000 spec_BitsNew.cuts [] Try.f151 (k + 1) [.v (.int .i64 a0)] = spec_BitsNew.b (fun r => some (spec_BitsNew.enc r)) k a0 := by kernel_rfl
theorem spec_BitsNew.b_nat {R R' : Type} (e : R → R') (ret : Bool × List Int → Option R) (k : Nat) (a0 : Int) : spec_BitsNew.b (fun r => (ret r).map e) k a0 = (spec_BitsNew.b ret k a0).map e := by
  unfold spec_BitsNew.b
  repeat' first | with_reducible refine nat_cond ?_ ?_ | with_reducible refine nat_bind fun _ => ?_ | rfl
theorem spec_BitsNew.eq (k : Nat) (a0 : Int) : answer Try.prog spec_BitsNew.Cs 100000 spec_BitsNew.cuts [] Try.f151 (k + 1) [.v (.int .i64 a0)] = (spec_BitsNew.f (k + 1) a0).map spec_BitsNew.enc := by
  refine (spec_BitsNew.s k a0).trans (Eq.trans ?_ (spec_BitsNew.b_nat spec_BitsNew.enc some k a0))
  simp only [Option.map_some]
theorem spec_BitsNew.sound (k : Nat) : SoundF Try.prog 151 (fun a => (spec_BitsNew.ans k a).val) := by
  refine sound_plain (fun args res h => ?_) (fun t n => rfl)
  unfold spec_BitsNew.ans at h
  dsimp only at h
  split at h
  · cases k with
    | zero => cases h
    | succ k =>
      unfold Ans.val at h
      rw [← spec_BitsNew.eq] at h
      exact answer_sound mixed Try.func151 _ _ _ (k + 1) (fun j _ => tab_sound (tab_cons (spec_l02Signers.sound j) (tab_cons (spec_BitsSize.sound j) (tab_nil)))) _ _ h
  · exact (Ans.no_val h).elim

/-! loop.example/g00790/spec.BitsHas -/
def spec_BitsHas.b {R : Type} (ret : Bool → Option R) (k : Nat) (a0z : Bool) (a0 : List Int) (a1 : Int) : Option R :=
  cond (decide (a1 ≥ 0)) (cond (decide ((RowKit.wrap64 (Int.tdiv a1 8)) < ((a0).length : Int))) (cond (decide ((0 : Int) ≤ (RowKit.wrap64 (Int.tdiv a1 8)))) (cond (decide ((RowKit.wrap64 (Int.tdiv a1 8)) < ((a0).length : Int))) (cond (decide ((0 : Int) ≤ (Int.tmod a1 8))) (ret (decide ((Int.tmod (shrI .i64 (RowKit.wrap64 ((rdI a0 (RowKit.wrap64 (Int.tdiv a1 8))))) (Int.tmod a1 8)) 2) = 1))) (none)) (none)) (none)) (ret false)) (ret false)
def spec_BitsHas.f : Nat → Bool → (List Int) → Int → Option Bool
  | 0, _, _, _ => none
  | k + 1, a0z, a0, a1 => spec_BitsHas.b some k a0z a0 a1
def spec_BitsHas.enc (r : Bool) : Res := ⟨[.vals false [((.bool r), true)]], []⟩
def spec_BitsHas.ans (k : Nat) : List Arg → Ans
  | [.v (.nums 5 .u8 a0z a0), .v (.int .i64 a1)] => ⟨spec_BitsHas.f k a0z a0 a1, spec_BitsHas.enc⟩
  | _ => Ans.no
def spec_BitsHas.Cs (k : Nat) : CallSem := tab []
def spec_BitsHas.cuts : List (Nat × Keep) := []
theorem spec_BitsHas.s (k : Nat) (a0z : Bool) (a0 : List Int) (a1 : Int) : answer Try.prog spec_BitsHas.Cs 100000 spec_BitsHas.cuts [] Try.f173 (k + 1) [.v (.nums 5 .u8 a0z a0), .v (.int .i64 a1)] = spec_BitsHas.b (fun r => some (spec_BitsHas.enc r)) k a0z a0 a1 := by kernel_rfl
theorem spec_BitsHas.b_nat {R R' : Type} (e : R → R') (ret : Bool → Option R) (k : Nat) (a0z : Bool) (a0 : List Int) (a1 : Int) : spec_BitsHas.b (fun r => (ret r).map e) k a0z a0 a1 = (spec_BitsHas.b ret k a0z a0 a1).map e := by
  unfold spec_BitsHas.b
  repeat' first | with_reducible refine nat_cond ?_ ?_ | with_reducible refine nat_bind fun _ => ?_ | rfl
theorem spec_BitsHas.eq (k : Nat) (a0z : Bool) (a0 : List Int) (a1 : Int) : answer Try.prog spec_BitsHas.Cs 100000 spec_BitsHas.cuts [] Try.f173 (k + 1) [.v (.nums 5 .u8 a0z a0), .v (.int .i64 a1)] = (spec_BitsHas.f (k + 1) a0z a0 a1).map spec_BitsHas.enc := by
  refine (spec_BitsHas.s k a0z a0 a1).trans (Eq.trans ?_ (spec_BitsHas.b_nat spec_BitsHas.enc some k a0z a0 a1))
  simp only [Option.map_some]
theorem spec_BitsHas.sound (k : Nat) : SoundF Try.prog 173 (fun a => (spec_BitsHas.ans k a).val) := by
  refine sound_plain (fun args res h => ?_) (fun t n => rfl)
  unfold spec_BitsHas.ans at h
  dsimp only at h
  split at h
  · cases k with
    | zero => cases h
    | succ k =>
      unfold Ans.val at h
      rw [← spec_BitsHas.eq] at h
      exact answer_sound mixed Try.func173 _ _ _ (k + 1) (fun j _ => tab_sound (tab_nil)) _ _ h
  · exact (Ans.no_val h).elim

/-! loop.example/g00790/spec.BitsList -/
def spec_BitsList.b {R : Type} (ret : Bool × List Int → Option R) (j0 : Bool → (List Int) → (List Int) → Int → Option R) (k : Nat) (a0z : Bool) (a0 : List Int) : Option R :=
  j0 a0z a0 ([] : List Int) 0
def spec_BitsList.l0b {R : Type} (ret : Bool × List Int → Option R) (j0 : Bool → (List Int) → (List Int) → Int → Option R) (k : Nat) (x0z : Bool) (x0 : List Int) (x3 : List Int) (x4 : Int) : Option R :=
  cond (decide (x4 < (RowKit.wrap64 ((8 : Int) * ((x0).length : Int))))) ((spec_BitsHas.f k x0z x0 x4).bind fun t0 => cond t0 (cond (decide ((x3).length + 1 < 17592186044416)) (j0 x0z x0 (x3 ++ ([x4] : List Int)) (RowKit.wrap64 (x4 + 1))) (none)) (j0 x0z x0 x3 (RowKit.wrap64 (x4 + 1)))) (ret (false, x3))
def spec_BitsList.l0 : Nat → Bool → (List Int) → (List Int) → Int → Option (Bool × List Int)
  | 0, _, _, _, _ => none
  | k + 1, x0z, x0, x3, x4 => spec_BitsList.l0b some (spec_BitsList.l0 k) k x0z x0 x3 x4
def spec_BitsList.f : Nat → Bool → (List Int) → Option (Bool × List Int)
  | 0, _, _ => none
  | k + 1, a0z, a0 => spec_BitsList.b some (spec_BitsList.l0 k) k a0z a0
def spec_BitsList.enc (r : Bool × List Int) : Res := ⟨[.vals false [((.nums 3 .i64 r.1 r.2), true)]], []⟩
def spec_BitsList.ans (k : Nat) : List Arg → Ans
  | [.v (.nums 5 .u8 a0z a0)] => ⟨spec_BitsList.f k a0z a0, spec_BitsList.enc⟩
  | _ => Ans.no
def spec_BitsList.Cs (k : Nat) : CallSem := tab [(173, spec_BitsHas.ans k)]
def spec_BitsList.cuts : List (Nat × Keep) := [(58, ⟨[(0, some []), (3, none), (4, some [])], []⟩)]
noncomputable def spec_BitsList.K0 : List Fr := framesAt [true, true, false, true, false] (bodyOf Try.f194 spec_BitsList.cuts) []
def spec_BitsList.N0 (x0z : Bool) (x0 : List Int) (x3 : List Int) (x4 : Int) : St := stOf 21 21 1 [(0, .val ⟨(.nums 5 .u8 x0z x0), [], false, none⟩), (3, .val ⟨(.nums 3 .i64 false x3), [.l 3 0], true, some (.l 3 0)⟩), (4, .val (V.s (.int .i64 x4)))] []
theorem spec_BitsList.s (k : Nat) (a0z : Bool) (a0 : List Int) : answer Try.prog spec_BitsList.Cs 100000 spec_BitsList.cuts [] Try.f194 (k + 1) [.v (.nums 5 .u8 a0z a0)] = spec_BitsList.b (fun r => some (spec_BitsList.enc r)) (fun x0z x0 x3 x4 => rounds Try.prog spec_BitsList.Cs (finish Try.prog [] Try.f194 [.v (.nums 5 .u8 a0z a0)]) 100000 k spec_BitsList.K0 (spec_BitsList.N0 x0z x0 x3 x4)) k a0z a0 := by kernel_rfl
theorem spec_BitsList.s0 (k : Nat) (G : List Fr → St → Option Res) (a0z : Bool) (a0 : List Int) (yx0z : Bool) (yx0 : List Int) (yx3 : List Int) (yx4 : Int) : resume Try.prog (spec_BitsList.Cs k) G (finish Try.prog [] Try.f194 [.v (.nums 5 .u8 a0z a0)]) 100000 spec_BitsList.K0 (spec_BitsList.N0 yx0z yx0 yx3 yx4) = spec_BitsList.l0b (fun r => some (spec_BitsList.enc r)) (fun x0z x0 x3 x4 => G spec_BitsList.K0 (spec_BitsList.N0 x0z x0 x3 x4)) k yx0z yx0 yx3 yx4 := by kernel_rfl
theorem spec_BitsList.b_nat {R R' : Type} (e : R → R') (ret : Bool × List Int → Option R) (j0 : Bool → (List Int) → (List Int) → Int → Option R) (k : Nat) (a0z : Bool) (a0 : List Int) : spec_BitsList.b (fun r => (ret r).map e) (fun x0z x0 x3 x4 => (j0 x0z x0 x3 x4).map e) k a0z a0 = (spec_BitsList.b ret j0 k a0z a0).map e := by
  unfold spec_BitsList.b
  repeat' first | with_reducible refine nat_cond ?_ ?_ | with_reducible refine nat_bind fun _ => ?_ | rfl
theorem spec_BitsList.l0b_nat {R R' : Type} (e : R → R') (ret : Bool × List Int → Option R) (j0 : Bool → (List Int) → (List Int) → Int → Option R) (k : Nat) (x0z : Bool) (x0 : List Int) (x3 : List Int) (x4 : Int) : spec_BitsList.l0b (fun r => (ret r).map e) (fun x0z x0 x3 x4 => (j0 x0z x0 x3 x4).map e) k x0z x0 x3 x4 = (spec_BitsList.l0b ret j0 k x0z x0 x3 x4).map e := by
  unfold spec_BitsList.l0b
  repeat' first | with_reducible refine nat_cond ?_ ?_ | with_reducible refine nat_bind fun _ => ?_ | rfl
theorem spec_BitsList.rounds_eq (a0z : Bool) (a0 : List Int) : ∀ k, (∀ (x0z : Bool) (x0 : List Int) (x3 : List Int) (x4 : Int), rounds Try.prog spec_BitsList.Cs (finish Try.prog [] Try.f194 [.v (.nums 5 .u8 a0z a0)]) 100000 k spec_BitsList.K0 (spec_BitsList.N0 x0z x0 x3 x4) = (spec_BitsList.l0 k x0z x0 x3 x4).map spec_BitsList.enc)
  | 0 => fun _ _ _ _ => rfl
  | k + 1 => by
    have ih := spec_BitsList.rounds_eq a0z a0 k
    refine fun _ _ _ _ => ?_
    · refine (spec_BitsList.s0 k _ a0z a0 _ _ _ _).trans (Eq.trans ?_ (spec_BitsList.l0b_nat spec_BitsList.enc some (spec_BitsList.l0 k) k _ _ _ _))
      simp only [ih, Option.map_some]
theorem spec_BitsList.eq (k : Nat) (a0z : Bool) (a0 : List Int) : answer Try.prog spec_BitsList.Cs 100000 spec_BitsList.cuts [] Try.f194 (k + 1) [.v (.nums 5 .u8 a0z a0)] = (spec_BitsList.f (k + 1) a0z a0).map spec_BitsList.enc := by
  have ih := spec_BitsList.rounds_eq a0z a0 k
  refine (spec_BitsList.s k a0z a0).trans (Eq.trans ?_ (spec_BitsList.b_nat spec_BitsList.enc some (spec_BitsList.l0 k) k a0z a0))
  simp only [ih, Option.map_some]
theorem spec_BitsList.sound (k : Nat) : SoundF Try.prog 194 (fun a => (spec_BitsList.ans k a).val) := by
  refine sound_plain (fun args res h => ?_) (fun t n => rfl)
  unfold spec_BitsList.ans at h
  dsimp only at h
  split at h
  · cases k with
    | zero => cases h
    | succ k =>
      unfold Ans.val at h
      rw [← spec_BitsList.eq] at h
      exact answer_sound mixed Try.func194 _ _ _ (k + 1) (fun j _ => tab_sound (tab_cons (spec_BitsHas.sound j) (tab_nil))) _ _ h
  · exact (Ans.no_val h).elim

/-! loop.example/g00790/spec.BitsOk -/
def spec_BitsOk.b {R : Type} (ret : Bool → Option R) (k : Nat) (a0z : Bool) (a0 : List Int) (a1 : Int) : Option R :=
  (spec_l02Signers.f k a1).bind fun t0 => cond (!t0) (ret false) ((spec_BitsSize.f k a1).bind fun t1 => cond (!(decide (((a0).length : Int) = t1))) (ret false) ((spec_BitsList.f k a0z a0).bind fun t2 => cond (decide (((t2.2).length : Int) = 0)) (ret true) (cond (decide ((0 : Int) ≤ (RowKit.wrap64 (((t2.2).length : Int) - 1)))) (cond (decide ((RowKit.wrap64 (((t2.2).length : Int) - 1)) < ((t2.2).length : Int))) (ret (decide ((rdI t2.2 (RowKit.wrap64 (((t2.2).length : Int) - 1))) < a1))) (none)) (none))))
def spec_BitsOk.f : Nat → Bool → (List Int) → Int → Option Bool
  | 0, _, _, _ => none
  | k + 1, a0z, a0, a1 => spec_BitsOk.b some k a0z a0 a1
def spec_BitsOk.enc (r : Bool) : Res := ⟨[.vals false [((.bool r), true)]], []⟩
def spec_BitsOk.ans (k : Nat) : List Arg → Ans
  | [.v (.nums 5 .u8 a0z a0), .v (.int .i64 a1)] => ⟨spec_BitsOk.f k a0z a0 a1, spec_BitsOk.enc⟩
  | _ => Ans.no
def spec_BitsOk.Cs (k : Nat) : CallSem := tab [(171, spec_l02Signers.ans k), (160, spec_BitsSize.ans k), (194, spec_BitsList.ans k)]
def spec_BitsOk.cuts : List (Nat × Keep) := []
theorem spec_BitsOk.s (k : Nat) (a0z : Bool) (a0 : List Int) (a1 : Int) : answer Try.prog spec_BitsOk.Cs 100000 spec_BitsOk.cuts [] Try.f172 (k + 1) [.v (.nums 5 .u8 a0z a0), .v (.int .i64 a1)] = spec_BitsOk.b (fun r => some (spec_BitsOk.enc r)) k a0z a0 a1 := by kernel_rfl
theorem spec_BitsOk.b_nat {R R' : Type} (e : R → R') (ret : Bool → Option R) (k : Nat) (a0z : Bool) (a0 : List Int) (a1 : Int) : spec_BitsOk.b (fun r => (ret r).map e) k a0z a0 a1 = (spec_BitsOk.b ret k a0z a0 a1).map e := by
  unfold spec_BitsOk.b
  repeat' first | with_reducible refine nat_cond ?_ ?_ | with_reducible refine nat_bind fun _ => ?_ | rfl
theorem spec_BitsOk.eq (k : Nat) (a0z : Bool) (a0 : List Int) (a1 : Int) : answer Try.prog spec_BitsOk.Cs 100000 spec_BitsOk.cuts [] Try.f172 (k + 1) [.v (.nums 5 .u8 a0z a0), .v (.int .i64 a1)] = (spec_BitsOk.f (k + 1) a0z a0 a1).map spec_BitsOk.enc := by
  refine (spec_BitsOk.s k a0z a0 a1).trans (Eq.trans ?_ (spec_BitsOk.b_nat spec_BitsOk.enc some k a0z a0 a1))
  simp only [Option.map_some]
theorem spec_BitsOk.sound (k : Nat) : SoundF Try.prog 172 (fun a => (spec_BitsOk.ans k a).val) := by
  refine sound_plain (fun args res h => ?_) (fun t n => rfl)
  unfold spec_BitsOk.ans at h
  dsimp only at h
  split at h
  · cases k with
    | zero => cases h
    | succ k =>
      unfold Ans.val at h
      rw [← spec_BitsOk.eq] at h
      exact answer_sound mixed Try.func172 _ _ _ (k + 1) (fun j _ => tab_sound (tab_cons (spec_l02Signers.sound j) (tab_cons (spec_BitsSize.sound j) (tab_cons (spec_BitsList.sound j) (tab_nil))))) _ _ h
  · exact (Ans.no_val h).elim

/-! loop.example/g00790/spec.BitsSet -/
def spec_BitsSet.b {R : Type} (ret : Bool × (List Int) × Bool → Option R) (k : Nat) (a0z : Bool) (a0 : List Int) (a1 : Int) (a2 : Int) (a3 : Bool) : Option R :=
  (spec_BitsOk.f k a0z a0 a1).bind fun t0 => cond (!t0) (ret (true, ([] : List Int), false)) ((spec_l01In.f k a2 0 (RowKit.wrap64 (a1 - 1))).bind fun t1 => cond (!t1) (ret (true, ([] : List Int), false)) ((spec_l01Copy.f k a0z a0).bind fun t2 => (spec_BitsHas.f k a0z a0 a2).bind fun t3 => cond (!(t3 == a3)) (cond (decide ((0 : Int) ≤ (RowKit.wrap64 (Int.tdiv a2 8)))) (cond (decide ((RowKit.wrap64 (Int.tdiv a2 8)) < ((t2.2).length : Int))) (cond (decide ((0 : Int) ≤ (Int.tmod a2 8))) (cond (decide ((0 : Int) ≤ (RowKit.wrap64 (Int.tdiv a2 8)))) (cond (decide ((RowKit.wrap64 (Int.tdiv a2 8)) < ((t2.2).length : Int))) (ret (t2.1, ((t2.2).set ((RowKit.wrap64 (Int.tdiv a2 8))).toNat (Go.bits .xor .u8 (rdI t2.2 (RowKit.wrap64 (Int.tdiv a2 8))) (shlI .u8 1 (Int.tmod a2 8)))), true)) (none)) (none)) (none)) (none)) (none)) (ret (t2.1, t2.2, true))))
def spec_BitsSet.f : Nat → Bool → (List Int) → Int → Int → Bool → Option (Bool × (List Int) × Bool)
  | 0, _, _, _, _, _ => none
  | k + 1, a0z, a0, a1, a2, a3 => spec_BitsSet.b some k a0z a0 a1 a2 a3
def spec_BitsSet.enc (r : Bool × (List Int) × Bool) : Res := ⟨[.vals false [((.nums 5 .u8 r.1 r.2.1), true)], .vals false [((.bool r.2.2), true)]], []⟩
def spec_BitsSet.ans (k : Nat) : List Arg → Ans
  | [.v (.nums 5 .u8 a0z a0), .v (.int .i64 a1), .v (.int .i64 a2), .v (.bool a3)] => ⟨spec_BitsSet.f k a0z a0 a1 a2 a3, spec_BitsSet.enc⟩
  | _ => Ans.no
def spec_BitsSet.Cs (k : Nat) : CallSem := tab [(170, spec_l01In.ans k), (155, spec_l01Copy.ans k), (172, spec_BitsOk.ans k), (173, spec_BitsHas.ans k)]
def spec_BitsSet.cuts : List (Nat × Keep) := []
theorem spec_BitsSet.s (k : Nat) (a0z : Bool) (a0 : List Int) (a1 : Int) (a2 : Int) (a3 : Bool) : answer Try.prog spec_BitsSet.Cs 100000 spec_BitsSet.cuts [] Try.f204 (k + 1) [.v (.nums 5 .u8 a0z a0), .v (.int .i64 a1), .v (.int .i64 a2), .v (.bool a3)] = spec_BitsSet.b (fun r => some (spec_BitsSet.enc r)) k a0z a0 a1 a2 a3 := by kernel_rfl
theorem spec_BitsSet.b_nat {R R' : Type} (e : R → R') (ret : Bool × (List Int) × Bool → Option R) (k : Nat) (a0z : Bool) (a0 : List Int) (a1 : Int) (a2 : Int) (a3 : Bool) : spec_BitsSet.b (fun r => (ret r).map e) k a0z a0 a1 a2 a3 = (spec_BitsSet.b ret k a0z a0 a1 a2 a3).map e := by
  unfold spec_BitsSet.b
  repeat' first | with_reducible refine nat_cond ?_ ?_ | with_reducible refine nat_bind fun _ => ?_ | rfl
theorem spec_BitsSet.eq (k : Nat) (a0z : Bool) (a0 : List Int) (a1 : Int) (a2 : Int) (a3 : Bool) : answer Try.prog spec_BitsSet.Cs 100000 spec_BitsSet.cuts [] Try.f204 (k + 1) [.v (.nums 5 .u8 a0z a0), .v (.int .i64 a1), .v (.int .i64 a2), .v (.bool a3)] = (spec_BitsSet.f (k + 1) a0z a0 a1 a2 a3).map spec_BitsSet.enc := by
  refine (spec_BitsSet.s k a0z a0 a1 a2 a3).trans (Eq.trans ?_ (spec_BitsSet.b_nat spec_BitsSet.enc some k a0z a0 a1 a2 a3))
  simp only [Option.map_some]
theorem spec_BitsSet.sound (k : Nat) : SoundF Try.prog 204 (fun a => (spec_BitsSet.ans k a).val) := by
  refine sound_plain (fun args res h => ?_) (fun t n => rfl)
  unfold spec_BitsSet.ans at h
  dsimp only at h
  split at h
  · cases k with
    | zero => cases h
    | succ k =>
      unfold Ans.val at h
      rw [← spec_BitsSet.eq] at h
      exact answer_sound mixed Try.func204 _ _ _ (k + 1) (fun j _ => tab_sound (tab_cons (spec_l01In.sound j) (tab_cons (spec_l01Copy.sound j) (tab_cons (spec_BitsOk.sound j) (tab_cons (spec_BitsHas.sound j) (tab_nil)))))) _ _ h
  · exact (Ans.no_val h).elim

/-! loop.example/g00790/spec.BitsOf -/
def spec_BitsOf.b {R : Type} (ret : Bool × (List Int) × Bool → Option R) (j0 : Int → Bool → (List Int) → Bool → Bool → (List Int) → Int → Int → Option R) (k : Nat) (a0z : Bool) (a0 : List Int) (a1 : Int) : Option R :=
  (spec_BitsNew.f k a1).bind fun t0 => (spec_l02Signers.f k a1).bind fun t1 => j0 a1 t0.1 t0.2 t1 a0z a0 ((a0).length : Int) 0
def spec_BitsOf.l0b {R : Type} (ret : Bool × (List Int) × Bool → Option R) (j0 : Int → Bool → (List Int) → Bool → Bool → (List Int) → Int → Int → Option R) (k : Nat) (x1 : Int) (x6z : Bool) (x6 : List Int) (x7 : Bool) (x16z : Bool) (x16 : List Int) (x17 : Int) (x18 : Int) : Option R :=
  cond (decide (x18 < x17)) (cond (decide ((0 : Int) ≤ x18)) (cond (decide (x18 < ((x16).length : Int))) ((spec_BitsSet.f k x6z x6 x1 (rdI x16 x18) true).bind fun t0 => cond x7 (j0 x1 t0.1 t0.2.1 t0.2.2 x16z x16 x17 (RowKit.wrap64 (x18 + 1))) (j0 x1 t0.1 t0.2.1 false x16z x16 x17 (RowKit.wrap64 (x18 + 1)))) (none)) (none)) (cond (!x7) (ret (true, ([] : List Int), false)) (ret (x6z, x6, true)))
def spec_BitsOf.l0 : Nat → Int → Bool → (List Int) → Bool → Bool → (List Int) → Int → Int → Option (Bool × (List Int) × Bool)
  | 0, _, _, _, _, _, _, _, _ => none
  | k + 1, x1, x6z, x6, x7, x16z, x16, x17, x18 => spec_BitsOf.l0b some (spec_BitsOf.l0 k) k x1 x6z x6 x7 x16z x16 x17 x18
def spec_BitsOf.f : Nat → Bool → (List Int) → Int → Option (Bool × (List Int) × Bool)
  | 0, _, _, _ => none
  | k + 1, a0z, a0, a1 => spec_BitsOf.b some (spec_BitsOf.l0 k) k a0z a0 a1
def spec_BitsOf.enc (r : Bool × (List Int) × Bool) : Res := ⟨[.vals false [((.nums 5 .u8 r.1 r.2.1), true)], .vals false [((.bool r.2.2), true)]], []⟩
def spec_BitsOf.ans (k : Nat) : List Arg → Ans
  | [.v (.nums 3 .i64 a0z a0), .v (.int .i64 a1)] => ⟨spec_BitsOf.f k a0z a0 a1, spec_BitsOf.enc⟩
  | _ => Ans.no
def spec_BitsOf.Cs (k : Nat) : CallSem := tab [(171, spec_l02Signers.ans k), (151, spec_BitsNew.ans k), (204, spec_BitsSet.ans k)]
def spec_BitsOf.cuts : List (Nat × Keep) := [(122, ⟨[(1, some []), (6, none), (7, some []), (16, some []), (17, some []), (18, some [])], []⟩)]
noncomputable def spec_BitsOf.K0 : List Fr := framesAt [true, true, true, false, true, false] (bodyOf Try.f175 spec_BitsOf.cuts) []
def spec_BitsOf.N0 (x1 : Int) (x6z : Bool) (x6 : List Int) (x7 : Bool) (x16z : Bool) (x16 : List Int) (x17 : Int) (x18 : Int) : St := stOf 38 38 2 [(1, .val (V.s (.int .i64 x1))), (6, .val ⟨(.nums 5 .u8 x6z x6), [.l 6 0], true, some (.l 6 0)⟩), (7, .val (V.s (.bool x7))), (16, .val ⟨(.nums 3 .i64 x16z x16), [], false, none⟩), (17, .val (V.s (.int .i64 x17))), (18, .val (V.s (.int .i64 x18)))] []
theorem spec_BitsOf.s (k : Nat) (a0z : Bool) (a0 : List Int) (a1 : Int) : answer Try.prog spec_BitsOf.Cs 100000 spec_BitsOf.cuts [] Try.f175 (k + 1) [.v (.nums 3 .i64 a0z a0), .v (.int .i64 a1)] = spec_BitsOf.b (fun r => some (spec_BitsOf.enc r)) (fun x1 x6z x6 x7 x16z x16 x17 x18 => rounds Try.prog spec_BitsOf.Cs (finish Try.prog [] Try.f175 [.v (.nums 3 .i64 a0z a0), .v (.int .i64 a1)]) 100000 k spec_BitsOf.K0 (spec_BitsOf.N0 x1 x6z x6 x7 x16z x16 x17 x18)) k a0z a0 a1 := by kernel_rfl
theorem spec_BitsOf.s0 (k : Nat) (G : List Fr → St → Option Res) (a0z : Bool) (a0 : List Int) (a1 : Int) (yx1 : Int) (yx6z : Bool) (yx6 : List Int) (yx7 : Bool) (yx16z : Bool) (yx16 : List Int) (yx17 : Int) (yx18 : Int) : resume Try.prog (spec_BitsOf.Cs k) G (finish Try.prog [] Try.f175 [.v (.nums 3 .i64 a0z a0), .v (.int .i64 a1)]) 100000 spec_BitsOf.K0 (spec_BitsOf.N0 yx1 yx6z yx6 yx7 yx16z yx16 yx17 yx18) = spec_BitsOf.l0b (fun r => some (spec_BitsOf.enc r)) (fun x1 x6z x6 x7 x16z x16 x17 x18 => G spec_BitsOf.K0 (spec_BitsOf.N0 x1 x6z x6 x7 x16z x16 x17 x18)) k yx1 yx6z yx6 yx7 yx16z yx16 yx17 yx18 := by kernel_rfl
theorem spec_BitsOf.b_nat {R R' : Type} (e : R → R') (ret : Bool × (List Int) × Bool → Option R) (j0 : Int → Bool → (List Int) → Bool → Bool → (List Int) → Int → Int → Option R) (k : Nat) (a0z : Bool) (a0 : List Int) (a1 : Int) : spec_BitsOf.b (fun r => (ret r).map e) (fun x1 x6z x6 x7 x16z x16 x17 x18 => (j0 x1 x6z x6 x7 x16z x16 x17 x18).map e) k a0z a0 a1 = (spec_BitsOf.b ret j0 k a0z a0 a1).map e := by
  unfold spec_BitsOf.b
  repeat' first | with_reducible refine nat_cond ?_ ?_ | with_reducible refine nat_bind fun _ => ?_ | rfl
theorem spec_BitsOf.l0b_nat {R R' : Type} (e : R → R') (ret : Bool × (List Int) × Bool → Option R) (j0 : Int → Bool → (List Int) → Bool → Bool → (List Int) → Int → Int → Option R) (k : Nat) (x1 : Int) (x6z : Bool) (x6 : List Int) (x7 : Bool) (x16z : Bool) (x16 : List Int) (x17 : Int) (x18 : Int) : spec_BitsOf.l0b (fun r => (ret r).map e) (fun x1 x6z x6 x7 x16z x16 x17 x18 => (j0 x1 x6z x6 x7 x16z x16 x17 x18).map e) k x1 x6z x6 x7 x16z x16 x17 x18 = (spec_BitsOf.l0b ret j0 k x1 x6z x6 x7 x16z x16 x17 x18).map e := by
  unfold spec_BitsOf.l0b
  repeat' first | with_reducible refine nat_cond ?_ ?_ | with_reducible refine nat_bind fun _ => ?_ | rfl
theorem spec_BitsOf.rounds_eq (a0z : Bool) (a0 : List Int) (a1 : Int) : ∀ k, (∀ (x1 : Int) (x6z : Bool) (x6 : List Int) (x7 : Bool) (x16z : Bool) (x16 : List Int) (x17 : Int) (x18 : Int), rounds Try.prog spec_BitsOf.Cs (finish Try.prog [] Try.f175 [.v (.nums 3 .i64 a0z a0), .v (.int .i64 a1)]) 100000 k spec_BitsOf.K0 (spec_BitsOf.N0 x1 x6z x6 x7 x16z x16 x17 x18) = (spec_BitsOf.l0 k x1 x6z x6 x7 x16z x16 x17 x18).map spec_BitsOf.enc)
  | 0 => fun _ _ _ _ _ _ _ _ => rfl
  | k + 1 => by
    have ih := spec_BitsOf.rounds_eq a0z a0 a1 k
    refine fun _ _ _ _ _ _ _ _ => ?_
    · refine (spec_BitsOf.s0 k _ a0z a0 a1 _ _ _ _ _ _ _ _).trans (Eq.trans ?_ (spec_BitsOf.l0b_nat spec_BitsOf.enc some (spec_BitsOf.l0 k) k _ _ _ _ _ _ _ _))
      simp only [ih, Option.map_some]
theorem spec_BitsOf.eq (k : Nat) (a0z : Bool) (a0 : List Int) (a1 : Int) : answer Try.prog spec_BitsOf.Cs 100000 spec_BitsOf.cuts [] Try.f175 (k + 1) [.v (.nums 3 .i64 a0z a0), .v (.int .i64 a1)] = (spec_BitsOf.f (k + 1) a0z a0 a1).map spec_BitsOf.enc := by
  have ih := spec_BitsOf.rounds_eq a0z a0 a1 k
  refine (spec_BitsOf.s k a0z a0 a1).trans (Eq.trans ?_ (spec_BitsOf.b_nat spec_BitsOf.enc some (spec_BitsOf.l0 k) k a0z a0 a1))
  simp only [ih, Option.map_some]
theorem spec_BitsOf.sound (k : Nat) : SoundF Try.prog 175 (fun a => (spec_BitsOf.ans k a).val) := by
  refine sound_plain (fun args res h => ?_) (fun t n => rfl)
  unfold spec_BitsOf.ans at h
  dsimp only at h
  split at h
  · cases k with
    | zero => cases h
    | succ k =>
      unfold Ans.val at h
      rw [← spec_BitsOf.eq] at h
      exact answer_sound mixed Try.func175 _ _ _ (k + 1) (fun j _ => tab_sound (tab_cons (spec_l02Signers.sound j) (tab_cons (spec_BitsNew.sound j) (tab_cons (spec_BitsSet.sound j) (tab_nil))))) _ _ h
  · exact (Ans.no_val h).elim

/-! loop.example/g00790/spec.l28Bits -/
def spec_l28Bits.b {R : Type} (ret : Bool × List Int → Option R) (k : Nat) (a0 : Int) (a1z : Bool) (a1 : List Int) : Option R :=
  (spec_BitsOf.f k a1z a1 a0).bind fun t0 => ret (t0.1, t0.2.1)
def spec_l28Bits.f : Nat → Int → Bool → (List Int) → Option (Bool × List Int)
  | 0, _, _, _ => none
  | k + 1, a0, a1z, a1 => spec_l28Bits.b some k a0 a1z a1
def spec_l28Bits.enc (r : Bool × List Int) : Res := ⟨[.vals false [((.nums 5 .u8 r.1 r.2), true)]], []⟩
def spec_l28Bits.ans (k : Nat) : List Arg → Ans
  | [.v (.int .i64 a0), .v (.nums 3 .i64 a1z a1)] => ⟨spec_l28Bits.f k a0 a1z a1, spec_l28Bits.enc⟩
  | _ => Ans.no
def spec_l28Bits.Cs (k : Nat) : CallSem := tab [(175, spec_BitsOf.ans k)]
def spec_l28Bits.cuts : List (Nat × Keep) := []
theorem spec_l28Bits.s (k : Nat) (a0 : Int) (a1z : Bool) (a1 : List Int) : answer Try.prog spec_l28Bits.Cs 100000 spec_l28Bits.cuts [] Try.f117 (k + 1) [.v (.int .i64 a0), .v (.nums 3 .i64 a1z a1)] = spec_l28Bits.b (fun r => some (spec_l28Bits.enc r)) k a0 a1z a1 := by kernel_rfl
theorem spec_l28Bits.b_nat {R R' : Type} (e : R → R') (ret : Bool × List Int → Option R) (k : Nat) (a0 : Int) (a1z : Bool) (a1 : List Int) : spec_l28Bits.b (fun r => (ret r).map e) k a0 a1z a1 = (spec_l28Bits.b ret k a0 a1z a1).map e := by
  unfold spec_l28Bits.b
  repeat' first | with_reducible refine nat_cond ?_ ?_ | with_reducible refine nat_bind fun _ => ?_ | rfl
theorem spec_l28Bits.eq (k : Nat) (a0 : Int) (a1z : Bool) (a1 : List Int) : answer Try.prog spec_l28Bits.Cs 100000 spec_l28Bits.cuts [] Try.f117 (k + 1) [.v (.int .i64 a0), .v (.nums 3 .i64 a1z a1)] = (spec_l28Bits.f (k + 1) a0 a1z a1).map spec_l28Bits.enc := by
  refine (spec_l28Bits.s k a0 a1z a1).trans (Eq.trans ?_ (spec_l28Bits.b_nat spec_l28Bits.enc some k a0 a1z a1))
  simp only [Option.map_some]
theorem spec_l28Bits.sound (k : Nat) : SoundF Try.prog 117 (fun a => (spec_l28Bits.ans k a).val) := by
  refine sound_plain (fun args res h => ?_) (fun t n => rfl)
  unfold spec_l28Bits.ans at h
  dsimp only at h
  split at h
  · cases k with
    | zero => cases h
    | succ k =>
      unfold Ans.val at h
      rw [← spec_l28Bits.eq] at h
      exact answer_sound mixed Try.func117 _ _ _ (k + 1) (fun j _ => tab_sound (tab_cons (spec_BitsOf.sound j) (tab_nil))) _ _ h
  · exact (Ans.no_val h).elim

/-! loop.example/g00790/spec.Tally -/
def spec_Tally.b {R : Type} (ret : Bool × List Int → Option R) (j0 : Int → Bool → (List Int) → (List Int) → Bool → (List T) → Int → Int → Bool → (List T) → Option R) (k : Nat) (a0_0z : Bool) (a0_0 : List T) (a1z : Bool) (a1 : List T) (a2 : Int) (a3z : Bool) (a3 : List Int) : Option R :=
  (spec_TableOk.f k a0_0z a0_0).bind fun t0 => cond (!t0) (ret (true, ([] : List Int))) (j0 a2 a3z a3 ([] : List Int) a1z a1 ((a1).length : Int) 0 a0_0z a0_0)
def spec_Tally.l0b {R : Type} (ret : Bool × List Int → Option R) (j0 : Int → Bool → (List Int) → (List Int) → Bool → (List T) → Int → Int → Bool → (List T) → Option R) (k : Nat) (x2 : Int) (x3z : Bool) (x3 : List Int) (x9 : List Int) (x16z : Bool) (x16 : List T) (x17 : Int) (x18 : Int) (c4_0z : Bool) (c4_0 : List T) : Option R :=
  cond (decide (x18 < x17)) (cond (decide ((0 : Int) ≤ x18)) (cond (decide (x18 < ((x16).length : Int))) (cond (decide (((((x16).getD (x18).toNat .bad).cells.getD 0 .bad)).toInt = x2)) ((spec_SameBytes.f k (((((x16).getD (x18).toNat .bad).cells.getD 2 .bad)).isNil) (((((x16).getD (x18).toNat .bad).cells.getD 2 .bad)).toNums) x3z x3).bind fun t0 => cond t0 ((spec_VoteGood.f k c4_0z c4_0 (((((x16).getD (x18).toNat .bad).cells.getD 0 .bad)).toInt) (((((x16).getD (x18).toNat .bad).cells.getD 1 .bad)).toInt) (((((x16).getD (x18).toNat .bad).cells.getD 2 .bad)).isNil) (((((x16).getD (x18).toNat .bad).cells.getD 2 .bad)).toNums) (((((x16).getD (x18).toNat .bad).cells.getD 3 .bad)).toInt) (((((x16).getD (x18).toNat .bad).cells.getD 4 .bad)).isNil) (((((x16).getD (x18).toNat .bad).cells.getD 4 .bad)).toNums)).bind fun t1 => cond t1 (cond (decide ((x9).length + 1 < 17592186044416)) (j0 x2 x3z x3 (x9 ++ ([((((x16).getD (x18).toNat .bad).cells.getD 3 .bad)).toInt] : List Int)) x16z x16 x17 (RowKit.wrap64 (x18 + 1)) c4_0z c4_0) (none)) (j0 x2 x3z x3 x9 x16z x16 x17 (RowKit.wrap64 (x18 + 1)) c4_0z c4_0)) (j0 x2 x3z x3 x9 x16z x16 x17 (RowKit.wrap64 (x18 + 1)) c4_0z c4_0)) (j0 x2 x3z x3 x9 x16z x16 x17 (RowKit.wrap64 (x18 + 1)) c4_0z c4_0)) (none)) (none)) ((spec_l28Bits.f k ((c4_0).length : Int) false x9).bind fun t0 => ret (t0.1, t0.2))
def spec_Tally.l0 : Nat → Int → Bool → (List Int) → (List Int) → Bool → (List T) → Int → Int → Bool → (List T) → Option (Bool × List Int)
  | 0, _, _, _, _, _, _, _, _, _, _ => none
  | k + 1, x2, x3z, x3, x9, x16z, x16, x17, x18, c4_0z, c4_0 => spec_Tally.l0b some (spec_Tally.l0 k) k x2 x3z x3 x9 x16z x16 x17 x18 c4_0z c4_0
def spec_Tally.f : Nat → Bool → (List T) → Bool → (List T) → Int → Bool → (List Int) → Option (Bool × List Int)
  | 0, _, _, _, _, _, _, _ => none
  | k + 1, a0_0z, a0_0, a1z, a1, a2, a3z, a3 => spec_Tally.b some (spec_Tally.l0 k) k a0_0z a0_0 a1z a1 a2 a3z a3
def spec_Tally.enc (r : Bool × List Int) : Res := ⟨[.vals false [((.nums 5 .u8 r.1 r.2), true)]], []⟩
def spec_Tally.ans (k : Nat) : List Arg → Ans
  | [.v (.agg [(.sl 44 a0_0z a0_0)]), .v (.sl 33 a1z a1), .v (.int .i64 a2), .v (.nums 5 .u8 a3z a3)] => ⟨spec_Tally.f k a0_0z a0_0 a1z a1 a2 a3z a3, spec_Tally.enc⟩
  | _ => Ans.no
def spec_Tally.Cs (k : Nat) : CallSem := tab [(112, spec_TableOk.ans k), (115, spec_SameBytes.ans k), (116, spec_VoteGood.ans k), (117, spec_l28Bits.ans k)]
def spec_Tally.cuts : List (Nat × Keep) := [(122, ⟨[(2, some []), (3, some []), (4, some []), (9, none), (16, some []), (17, some []), (18, some [])], [(4, [some []])]⟩)]
noncomputable def spec_Tally.K0 : List Fr := framesAt [true, true, true, false, true, false] (bodyOf Try.f45 spec_Tally.cuts) []
def spec_Tally.N0 (x2 : Int) (x3z : Bool) (x3 : List Int) (x9 : List Int) (x16z : Bool) (x16 : List T) (x17 : Int) (x18 : Int) (c4_0z : Bool) (c4_0 : List T) : St := stOf 48 48 4 [(2, .val (V.s (.int .i64 x2))), (3, .val ⟨(.nums 5 .u8 x3z x3), [], false, none⟩), (4, .bp 4 0), (9, .val ⟨(.nums 3 .i64 false x9), [.l 9 0], true, some (.l 9 0)⟩), (16, .val ⟨(.sl 33 x16z x16), [], false, none⟩), (17, .val (V.s (.int .i64 x17))), (18, .val (V.s (.int .i64 x18)))] [(4, .cells [⟨(.sl 44 c4_0z c4_0), [], false, none⟩])]
theorem spec_Tally.s (k : Nat) (a0_0z : Bool) (a0_0 : List T) (a1z : Bool) (a1 : List T) (a2 : Int) (a3z : Bool) (a3 : List Int) : answer Try.prog spec_Tally.Cs 100000 spec_Tally.cuts [] Try.f45 (k + 1) [.v (.agg [(.sl 44 a0_0z a0_0)]), .v (.sl 33 a1z a1), .v (.int .i64 a2), .v (.nums 5 .u8 a3z a3)] = spec_Tally.b (fun r => some (spec_Tally.enc r)) (fun x2 x3z x3 x9 x16z x16 x17 x18 c4_0z c4_0 => rounds Try.prog spec_Tally.Cs (finish Try.prog [] Try.f45 [.v (.agg [(.sl 44 a0_0z a0_0)]), .v (.sl 33 a1z a1), .v (.int .i64 a2), .v (.nums 5 .u8 a3z a3)]) 100000 k spec_Tally.K0 (spec_Tally.N0 x2 x3z x3 x9 x16z x16 x17 x18 c4_0z c4_0)) k a0_0z a0_0 a1z a1 a2 a3z a3 := by kernel_rfl
theorem spec_Tally.s0 (k : Nat) (G : List Fr → St → Option Res) (a0_0z : Bool) (a0_0 : List T) (a1z : Bool) (a1 : List T) (a2 : Int) (a3z : Bool) (a3 : List Int) (yx2 : Int) (yx3z : Bool) (yx3 : List Int) (yx9 : List Int) (yx16z : Bool) (yx16 : List T) (yx17 : Int) (yx18 : Int) (yc4_0z : Bool) (yc4_0 : List T) : resume Try.prog (spec_Tally.Cs k) G (finish Try.prog [] Try.f45 [.v (.agg [(.sl 44 a0_0z a0_0)]), .v (.sl 33 a1z a1), .v (.int .i64 a2), .v (.nums 5 .u8 a3z a3)]) 100000 spec_Tally.K0 (spec_Tally.N0 yx2 yx3z yx3 yx9 yx16z yx16 yx17 yx18 yc4_0z yc4_0) = spec_Tally.l0b (fun r => some (spec_Tally.enc r)) (fun x2 x3z x3 x9 x16z x16 x17 x18 c4_0z c4_0 => G spec_Tally.K0 (spec_Tally.N0 x2 x3z x3 x9 x16z x16 x17 x18 c4_0z c4_0)) k yx2 yx3z yx3 yx9 yx16z yx16 yx17 yx18 yc4_0z yc4_0 := by kernel_rfl
theorem spec_Tally.b_nat {R R' : Type} (e : R → R') (ret : Bool × List Int → Option R) (j0 : Int → Bool → (List Int) → (List Int) → Bool → (List T) → Int → Int → Bool → (List T) → Option R) (k : Nat) (a0_0z : Bool) (a0_0 : List T) (a1z : Bool) (a1 : List T) (a2 : Int) (a3z : Bool) (a3 : List Int) : spec_Tally.b (fun r => (ret r).map e) (fun x2 x3z x3 x9 x16z x16 x17 x18 c4_0z c4_0 => (j0 x2 x3z x3 x9 x16z x16 x17 x18 c4_0z c4_0).map e) k a0_0z a0_0 a1z a1 a2 a3z a3 = (spec_Tally.b ret j0 k a0_0z a0_0 a1z a1 a2 a3z a3).map e := by
  unfold spec_Tally.b
  repeat' first | with_reducible refine nat_cond ?_ ?_ | with_reducible refine nat_bind fun _ => ?_ | rfl
theorem spec_Tally.l0b_nat {R R' : Type} (e : R → R') (ret : Bool × List Int → Option R) (j0 : Int → Bool → (List Int) → (List Int) → Bool → (List T) → Int → Int → Bool → (List T) → Option R) (k : Nat) (x2 : Int) (x3z : Bool) (x3 : List Int) (x9 : List Int) (x16z : Bool) (x16 : List T) (x17 : Int) (x18 : Int) (c4_0z : Bool) (c4_0 : List T) : spec_Tally.l0b (fun r => (ret r).map e) (fun x2 x3z x3 x9 x16z x16 x17 x18 c4_0z c4_0 => (j0 x2 x3z x3 x9 x16z x16 x17 x18 c4_0z c4_0).map e) k x2 x3z x3 x9 x16z x16 x17 x18 c4_0z c4_0 = (spec_Tally.l0b ret j0 k x2 x3z x3 x9 x16z x16 x17 x18 c4_0z c4_0).map e := by
  unfold spec_Tally.l0b
  repeat' first | with_reducible refine nat_cond ?_ ?_ | with_reducible refine nat_bind fun _ => ?_ | rfl
theorem spec_Tally.rounds_eq (a0_0z : Bool) (a0_0 : List T) (a1z : Bool) (a1 : List T) (a2 : Int) (a3z : Bool) (a3 : List Int) : ∀ k, (∀ (x2 : Int) (x3z : Bool) (x3 : List Int) (x9 : List Int) (x16z : Bool) (x16 : List T) (x17 : Int) (x18 : Int) (c4_0z : Bool) (c4_0 : List T), rounds Try.prog spec_Tally.Cs (finish Try.prog [] Try.f45 [.v (.agg [(.sl 44 a0_0z a0_0)]), .v (.sl 33 a1z a1), .v (.int .i64 a2), .v (.nums 5 .u8 a3z a3)]) 100000 k spec_Tally.K0 (spec_Tally.N0 x2 x3z x3 x9 x16z x16 x17 x18 c4_0z c4_0) = (spec_Tally.l0 k x2 x3z x3 x9 x16z x16 x17 x18 c4_0z c4_0).map spec_Tally.enc)
  | 0 => fun _ _ _ _ _ _ _ _ _ _ => rfl
  | k + 1 => by
    have ih := spec_Tally.rounds_eq a0_0z a0_0 a1z a1 a2 a3z a3 k
    refine fun _ _ _ _ _ _ _ _ _ _ => ?_
    · refine (spec_Tally.s0 k _ a0_0z a0_0 a1z a1 a2 a3z a3 _ _ _ _ _ _ _ _ _ _).trans (Eq.trans ?_ (spec_Tally.l0b_nat spec_Tally.enc some (spec_Tally.l0 k) k _ _ _ _ _ _ _ _ _ _))
      simp only [ih, Option.map_some]
theorem spec_Tally.eq (k : Nat) (a0_0z : Bool) (a0_0 : List T) (a1z : Bool) (a1 : List T) (a2 : Int) (a3z : Bool) (a3 : List Int) : answer Try.prog spec_Tally.Cs 100000 spec_Tally.cuts [] Try.f45 (k + 1) [.v (.agg [(.sl 44 a0_0z a0_0)]), .v (.sl 33 a1z a1), .v (.int .i64 a2), .v (.nums 5 .u8 a3z a3)] = (spec_Tally.f (k + 1) a0_0z a0_0 a1z a1 a2 a3z a3).map spec_Tally.enc := by
  have ih := spec_Tally.rounds_eq a0_0z a0_0 a1z a1 a2 a3z a3 k
  refine (spec_Tally.s k a0_0z a0_0 a1z a1 a2 a3z a3).trans (Eq.trans ?_ (spec_Tally.b_nat spec_Tally.enc some (spec_Tally.l0 k) k a0_0z a0_0 a1z a1 a2 a3z a3))
  simp only [ih, Option.map_some]
theorem spec_Tally.sound (k : Nat) : SoundF Try.prog 45 (fun a => (spec_Tally.ans k a).val) := by
  refine sound_plain (fun args res h => ?_) (fun t n => rfl)
  unfold spec_Tally.ans at h
  dsimp only at h
  split at h
  · cases k with
    | zero => cases h
    | succ k =>
      unfold Ans.val at h
      rw [← spec_Tally.eq] at h
      exact answer_sound mixed Try.func45 _ _ _ (k + 1) (fun j _ => tab_sound (tab_cons (spec_TableOk.sound j) (tab_cons (spec_SameBytes.sound j) (tab_cons (spec_VoteGood.sound j) (tab_cons (spec_l28Bits.sound j) (tab_nil)))))) _ _ h
  · exact (Ans.no_val h).elim

/-! loop.example/g00790/spec.WeightOf -/
def spec_WeightOf.b {R : Type} (ret : Int → Option R) (j0 : Bool → (List Int) → Int → Bool → (List T) → Int → Int → Option R) (k : Nat) (a0_0z : Bool) (a0_0 : List T) (a1z : Bool) (a1 : List Int) : Option R :=
  (spec_TableOk.f k a0_0z a0_0).bind fun t0 => cond (!t0) (ret 0) ((spec_BitsOk.f k a1z a1 ((a0_0).length : Int)).bind fun t1 => cond (!t1) (ret 0) (j0 a1z a1 0 a0_0z a0_0 ((a0_0).length : Int) 0))
def spec_WeightOf.l0b {R : Type} (ret : Int → Option R) (j0 : Bool → (List Int) → Int → Bool → (List T) → Int → Int → Option R) (k : Nat) (x1z : Bool) (x1 : List Int) (x5 : Int) (x20z : Bool) (x20 : List T) (x21 : Int) (x22 : Int) : Option R :=
  cond (decide (x22 < x21)) (cond (decide ((0 : Int) ≤ x22)) (cond (decide (x22 < ((x20).length : Int))) ((spec_BitsHas.f k x1z x1 x22).bind fun t0 => cond t0 (j0 x1z x1 (RowKit.wrap64 (x5 + ((((x20).getD (x22).toNat .bad).cells.getD 0 .bad)).toInt)) x20z x20 x21 (RowKit.wrap64 (x22 + 1))) (j0 x1z x1 x5 x20z x20 x21 (RowKit.wrap64 (x22 + 1)))) (none)) (none)) (ret x5)
def spec_WeightOf.l0 : Nat → Bool → (List Int) → Int → Bool → (List T) → Int → Int → Option Int
  | 0, _, _, _, _, _, _, _ => none
  | k + 1, x1z, x1, x5, x20z, x20, x21, x22 => spec_WeightOf.l0b some (spec_WeightOf.l0 k) k x1z x1 x5 x20z x20 x21 x22
def spec_WeightOf.f : Nat → Bool → (List T) → Bool → (List Int) → Option Int
  | 0, _, _, _, _ => none
  | k + 1, a0_0z, a0_0, a1z, a1 => spec_WeightOf.b some (spec_WeightOf.l0 k) k a0_0z a0_0 a1z a1
def spec_WeightOf.enc (r : Int) : Res := ⟨[.vals false [((.int .i64 r), true)]], []⟩
def spec_WeightOf.ans (k : Nat) : List Arg → Ans
  | [.v (.agg [(.sl 44 a0_0z a0_0)]), .v (.nums 5 .u8 a1z a1)] => ⟨spec_WeightOf.f k a0_0z a0_0 a1z a1, spec_WeightOf.enc⟩
  | _ => Ans.no
def spec_WeightOf.Cs (k : Nat) : CallSem := tab [(112, spec_TableOk.ans k), (172, spec_BitsOk.ans k), (173, spec_BitsHas.ans k)]
def spec_WeightOf.cuts : List (Nat × Keep) := [(122, ⟨[(1, some []), (5, some []), (20, some []), (21, some []), (22, some [])], []⟩)]
noncomputable def spec_WeightOf.K0 : List Fr := framesAt [true, true, true, false, true, false] (bodyOf Try.f113 spec_WeightOf.cuts) []
def spec_WeightOf.N0 (x1z : Bool) (x1 : List Int) (x5 : Int) (x20z : Bool) (x20 : List T) (x21 : Int) (x22 : Int) : St := stOf 36 36 2 [(1, .val ⟨(.nums 5 .u8 x1z x1), [], false, none⟩), (5, .val (V.s (.int .i64 x5))), (20, .val ⟨(.sl 44 x20z x20), [], false, none⟩), (21, .val (V.s (.int .i64 x21))), (22, .val (V.s (.int .i64 x22)))] []
theorem spec_WeightOf.s (k : Nat) (a0_0z : Bool) (a0_0 : List T) (a1z : Bool) (a1 : List Int) : answer Try.prog spec_WeightOf.Cs 100000 spec_WeightOf.cuts [] Try.f113 (k + 1) [.v (.agg [(.sl 44 a0_0z a0_0)]), .v (.nums 5 .u8 a1z a1)] = spec_WeightOf.b (fun r => some (spec_WeightOf.enc r)) (fun x1z x1 x5 x20z x20 x21 x22 => rounds Try.prog spec_WeightOf.Cs (finish Try.prog [] Try.f113 [.v (.agg [(.sl 44 a0_0z a0_0)]), .v (.nums 5 .u8 a1z a1)]) 100000 k spec_WeightOf.K0 (spec_WeightOf.N0 x1z x1 x5 x20z x20 x21 x22)) k a0_0z a0_0 a1z a1 := by kernel_rfl
theorem spec_WeightOf.s0 (k : Nat) (G : List Fr → St → Option Res) (a0_0z : Bool) (a0_0 : List T) (a1z : Bool) (a1 : List Int) (yx1z : Bool) (yx1 : List Int) (yx5 : Int) (yx20z : Bool) (yx20 : List T) (yx21 : Int) (yx22 : Int) : resume Try.prog (spec_WeightOf.Cs k) G (finish Try.prog [] Try.f113 [.v (.agg [(.sl 44 a0_0z a0_0)]), .v (.nums 5 .u8 a1z a1)]) 100000 spec_WeightOf.K0 (spec_WeightOf.N0 yx1z yx1 yx5 yx20z yx20 yx21 yx22) = spec_WeightOf.l0b (fun r => some (spec_WeightOf.enc r)) (fun x1z x1 x5 x20z x20 x21 x22 => G spec_WeightOf.K0 (spec_WeightOf.N0 x1z x1 x5 x20z x20 x21 x22)) k yx1z yx1 yx5 yx20z yx20 yx21 yx22 := by kernel_rfl
theorem spec_WeightOf.b_nat {R R' : Type} (e : R → R') (ret : Int → Option R) (j0 : Bool → (List Int) → Int → Bool → (List T) → Int → Int → Option R) (k : Nat) (a0_0z : Bool) (a0_0 : List T) (a1z : Bool) (a1 : List Int) : spec_WeightOf.b (fun r => (ret r).map e) (fun x1z x1 x5 x20z x20 x21 x22 => (j0 x1z x1 x5 x20z x20 x21 x22).map e) k a0_0z a0_0 a1z a1 = (spec_WeightOf.b ret j0 k a0_0z a0_0 a1z a1).map e := by
  unfold spec_WeightOf.b
  repeat' first | with_reducible refine nat_cond ?_ ?_ | with_reducible refine nat_bind fun _ => ?_ | rfl
theorem spec_WeightOf.l0b_nat {R R' : Type} (e : R → R') (ret : Int → Option R) (j0 : Bool → (List Int) → Int → Bool → (List T) → Int → Int → Option R) (k : Nat) (x1z : Bool) (x1 : List Int) (x5 : Int) (x20z : Bool) (x20 : List T) (x21 : Int) (x22 : Int) : spec_WeightOf.l0b (fun r => (ret r).map e) (fun x1z x1 x5 x20z x20 x21 x22 => (j0 x1z x1 x5 x20z x20 x21 x22).map e) k x1z x1 x5 x20z x20 x21 x22 = (spec_WeightOf.l0b ret j0 k x1z x1 x5 x20z x20 x21 x22).map e := by
  unfold spec_WeightOf.l0b
  repeat' first | with_reducible refine nat_cond ?_ ?_ | with_reducible refine nat_bind fun _ => ?_ | rfl
theorem spec_WeightOf.rounds_eq (a0_0z : Bool) (a0_0 : List T) (a1z : Bool) (a1 : List Int) : ∀ k, (∀ (x1z : Bool) (x1 : List Int) (x5 : Int) (x20z : Bool) (x20 : List T) (x21 : Int) (x22 : Int), rounds Try.prog spec_WeightOf.Cs (finish Try.prog [] Try.f113 [.v (.agg [(.sl 44 a0_0z a0_0)]), .v (.nums 5 .u8 a1z a1)]) 100000 k spec_WeightOf.K0 (spec_WeightOf.N0 x1z x1 x5 x20z x20 x21 x22) = (spec_WeightOf.l0 k x1z x1 x5 x20z x20 x21 x22).map spec_WeightOf.enc)
  | 0 => fun _ _ _ _ _ _ _ => rfl
  | k + 1 => by
    have ih := spec_WeightOf.rounds_eq a0_0z a0_0 a1z a1 k
    refine fun _ _ _ _ _ _ _ => ?_
    · refine (spec_WeightOf.s0 k _ a0_0z a0_0 a1z a1 _ _ _ _ _ _ _).trans (Eq.trans ?_ (spec_WeightOf.l0b_nat spec_WeightOf.enc some (spec_WeightOf.l0 k) k _ _ _ _ _ _ _))
      simp only [ih, Option.map_some]
theorem spec_WeightOf.eq (k : Nat) (a0_0z : Bool) (a0_0 : List T) (a1z : Bool) (a1 : List Int) : answer Try.prog spec_WeightOf.Cs 100000 spec_WeightOf.cuts [] Try.f113 (k + 1) [.v (.agg [(.sl 44 a0_0z a0_0)]), .v (.nums 5 .u8 a1z a1)] = (spec_WeightOf.f (k + 1) a0_0z a0_0 a1z a1).map spec_WeightOf.enc := by
  have ih := spec_WeightOf.rounds_eq a0_0z a0_0 a1z a1 k
  refine (spec_WeightOf.s k a0_0z a0_0 a1z a1).trans (Eq.trans ?_ (spec_WeightOf.b_nat spec_WeightOf.enc some (spec_WeightOf.l0 k) k a0_0z a0_0 a1z a1))
  simp only [ih, Option.map_some]
theorem spec_WeightOf.sound (k : Nat) : SoundF Try.prog 113 (fun a => (spec_WeightOf.ans k a).val) := by
  refine sound_plain (fun args res h => ?_) (fun t n => rfl)
  unfold spec_WeightOf.ans at h
  dsimp only at h
  split at h
  · cases k with
    | zero => cases h
    | succ k =>
      unfold Ans.val at h
      rw [← spec_WeightOf.eq] at h
      exact answer_sound mixed Try.func113 _ _ _ (k + 1) (fun j _ => tab_sound (tab_cons (spec_TableOk.sound j) (tab_cons (spec_BitsOk.sound j) (tab_cons (spec_BitsHas.sound j) (tab_nil))))) _ _ h
  · exact (Ans.no_val h).elim

/-! loop.example/g00790/spec.TotalOf -/
def spec_TotalOf.b {R : Type} (ret : Int → Option R) (j0 : Int → Bool → (List T) → Int → Int → Option R) (k : Nat) (a0_0z : Bool) (a0_0 : List T) : Option R :=
  (spec_TableOk.f k a0_0z a0_0).bind fun t0 => cond (!t0) (ret 0) (j0 0 a0_0z a0_0 ((a0_0).length : Int) 0)
def spec_TotalOf.l0b {R : Type} (ret : Int → Option R) (j0 : Int → Bool → (List T) → Int → Int → Option R) (k : Nat) (x3 : Int) (x10z : Bool) (x10 : List T) (x11 : Int) (x12 : Int) : Option R :=
  cond (decide (x12 < x11)) (cond (decide ((0 : Int) ≤ x12)) (cond (decide (x12 < ((x10).length : Int))) (j0 (RowKit.wrap64 (x3 + ((((x10).getD (x12).toNat .bad).cells.getD 0 .bad)).toInt)) x10z x10 x11 (RowKit.wrap64 (x12 + 1))) (none)) (none)) (ret x3)
def spec_TotalOf.l0 : Nat → Int → Bool → (List T) → Int → Int → Option Int
  | 0, _, _, _, _, _ => none
  | k + 1, x3, x10z, x10, x11, x12 => spec_TotalOf.l0b some (spec_TotalOf.l0 k) k x3 x10z x10 x11 x12
def spec_TotalOf.f : Nat → Bool → (List T) → Option Int
  | 0, _, _ => none
  | k + 1, a0_0z, a0_0 => spec_TotalOf.b some (spec_TotalOf.l0 k) k a0_0z a0_0
def spec_TotalOf.enc (r : Int) : Res := ⟨[.vals false [((.int .i64 r), true)]], []⟩
def spec_TotalOf.ans (k : Nat) : List Arg → Ans
  | [.v (.agg [(.sl 44 a0_0z a0_0)])] => ⟨spec_TotalOf.f k a0_0z a0_0, spec_TotalOf.enc⟩
  | _ => Ans.no
def spec_TotalOf.Cs (k : Nat) : CallSem := tab [(112, spec_TableOk.ans k)]
def spec_TotalOf.cuts : List (Nat × Keep) := [(122, ⟨[(3, some []), (10, some []), (11, some []), (12, some [])], []⟩)]
noncomputable def spec_TotalOf.K0 : List Fr := framesAt [true, true, true, false, true, false] (bodyOf Try.f114 spec_TotalOf.cuts) []
def spec_TotalOf.N0 (x3 : Int) (x10z : Bool) (x10 : List T) (x11 : Int) (x12 : Int) : St := stOf 22 22 1 [(3, .val (V.s (.int .i64 x3))), (10, .val ⟨(.sl 44 x10z x10), [], false, none⟩), (11, .val (V.s (.int .i64 x11))), (12, .val (V.s (.int .i64 x12)))] []
theorem spec_TotalOf.s (k : Nat) (a0_0z : Bool) (a0_0 : List T) : answer Try.prog spec_TotalOf.Cs 100000 spec_TotalOf.cuts [] Try.f114 (k + 1) [.v (.agg [(.sl 44 a0_0z a0_0)])] = spec_TotalOf.b (fun r => some (spec_TotalOf.enc r)) (fun x3 x10z x10 x11 x12 => rounds Try.prog spec_TotalOf.Cs (finish Try.prog [] Try.f114 [.v (.agg [(.sl 44 a0_0z a0_0)])]) 100000 k spec_TotalOf.K0 (spec_TotalOf.N0 x3 x10z x10 x11 x12)) k a0_0z a0_0 := by kernel_rfl
theorem spec_TotalOf.s0 (k : Nat) (G : List Fr → St → Option Res) (a0_0z : Bool) (a0_0 : List T) (yx3 : Int) (yx10z : Bool) (yx10 : List T) (yx11 : Int) (yx12 : Int) : resume Try.prog (spec_TotalOf.Cs k) G (finish Try.prog [] Try.f114 [.v (.agg [(.sl 44 a0_0z a0_0)])]) 100000 spec_TotalOf.K0 (spec_TotalOf.N0 yx3 yx10z yx10 yx11 yx12) = spec_TotalOf.l0b (fun r => some (spec_TotalOf.enc r)) (fun x3 x10z x10 x11 x12 => G spec_TotalOf.K0 (spec_TotalOf.N0 x3 x10z x10 x11 x12)) k yx3 yx10z yx10 yx11 yx12 := by kernel_rfl
theorem spec_TotalOf.b_nat {R R' : Type} (e : R → R') (ret : Int → Option R) (j0 : Int → Bool → (List T) → Int → Int → Option R) (k : Nat) (a0_0z : Bool) (a0_0 : List T) : spec_TotalOf.b (fun r => (ret r).map e) (fun x3 x10z x10 x11 x12 => (j0 x3 x10z x10 x11 x12).map e) k a0_0z a0_0 = (spec_TotalOf.b ret j0 k a0_0z a0_0).map e := by
  unfold spec_TotalOf.b
  repeat' first | with_reducible refine nat_cond ?_ ?_ | with_reducible refine nat_bind fun _ => ?_ | rfl
theorem spec_TotalOf.l0b_nat {R R' : Type} (e : R → R') (ret : Int → Option R) (j0 : Int → Bool → (List T) → Int → Int → Option R) (k : Nat) (x3 : Int) (x10z : Bool) (x10 : List T) (x11 : Int) (x12 : Int) : spec_TotalOf.l0b (fun r => (ret r).map e) (fun x3 x10z x10 x11 x12 => (j0 x3 x10z x10 x11 x12).map e) k x3 x10z x10 x11 x12 = (spec_TotalOf.l0b ret j0 k x3 x10z x10 x11 x12).map e := by
  unfold spec_TotalOf.l0b
  repeat' first | with_reducible refine nat_cond ?_ ?_ | with_reducible refine nat_bind fun _ => ?_ | rfl
theorem spec_TotalOf.rounds_eq (a0_0z : Bool) (a0_0 : List T) : ∀ k, (∀ (x3 : Int) (x10z : Bool) (x10 : List T) (x11 : Int) (x12 : Int), rounds Try.prog spec_TotalOf.Cs (finish Try.prog [] Try.f114 [.v (.agg [(.sl 44 a0_0z a0_0)])]) 100000 k spec_TotalOf.K0 (spec_TotalOf.N0 x3 x10z x10 x11 x12) = (spec_TotalOf.l0 k x3 x10z x10 x11 x12).map spec_TotalOf.enc)
  | 0 => fun _ _ _ _ _ => rfl
  | k + 1 => by
    have ih := spec_TotalOf.rounds_eq a0_0z a0_0 k
    refine fun _ _ _ _ _ => ?_
    · refine (spec_TotalOf.s0 k _ a0_0z a0_0 _ _ _ _ _).trans (Eq.trans ?_ (spec_TotalOf.l0b_nat spec_TotalOf.enc some (spec_TotalOf.l0 k) k _ _ _ _ _))
      simp only [ih, Option.map_some]
theorem spec_TotalOf.eq (k : Nat) (a0_0z : Bool) (a0_0 : List T) : answer Try.prog spec_TotalOf.Cs 100000 spec_TotalOf.cuts [] Try.f114 (k + 1) [.v (.agg [(.sl 44 a0_0z a0_0)])] = (spec_TotalOf.f (k + 1) a0_0z a0_0).map spec_TotalOf.enc := by
  have ih := spec_TotalOf.rounds_eq a0_0z a0_0 k
  refine (spec_TotalOf.s k a0_0z a0_0).trans (Eq.trans ?_ (spec_TotalOf.b_nat spec_TotalOf.enc some (spec_TotalOf.l0 k) k a0_0z a0_0))
  simp only [ih, Option.map_some]
theorem spec_TotalOf.sound (k : Nat) : SoundF Try.prog 114 (fun a => (spec_TotalOf.ans k a).val) := by
  refine sound_plain (fun args res h => ?_) (fun t n => rfl)
  unfold spec_TotalOf.ans at h
  dsimp only at h
  split at h
  · cases k with
    | zero => cases h
    | succ k =>
      unfold Ans.val at h
      rw [← spec_TotalOf.eq] at h
      exact answer_sound mixed Try.func114 _ _ _ (k + 1) (fun j _ => tab_sound (tab_cons (spec_TableOk.sound j) (tab_nil))) _ _ h
  · exact (Ans.no_val h).elim

/-! loop.example/g00790/spec.IsQuorum -/
def spec_IsQuorum.b {R : Type} (ret : Bool → Option R) (k : Nat) (a0_0z : Bool) (a0_0 : List T) (a1z : Bool) (a1 : List Int) : Option R :=
  (spec_TableOk.f k a0_0z a0_0).bind fun t0 => cond t0 ((spec_WeightOf.f k a0_0z a0_0 a1z a1).bind fun t1 => (spec_TotalOf.f k a0_0z a0_0).bind fun t2 => ret (decide ((RowKit.wrap64 ((3 : Int) * t1)) > (RowKit.wrap64 ((2 : Int) * t2))))) (ret false)
def spec_IsQuorum.f : Nat → Bool → (List T) → Bool → (List Int) → Option Bool
  | 0, _, _, _, _ => none
  | k + 1, a0_0z, a0_0, a1z, a1 => spec_IsQuorum.b some k a0_0z a0_0 a1z a1
def spec_IsQuorum.enc (r : Bool) : Res := ⟨[.vals false [((.bool r), true)]], []⟩
def spec_IsQuorum.ans (k : Nat) : List Arg → Ans
  | [.v (.agg [(.sl 44 a0_0z a0_0)]), .v (.nums 5 .u8 a1z a1)] => ⟨spec_IsQuorum.f k a0_0z a0_0 a1z a1, spec_IsQuorum.enc⟩
  | _ => Ans.no
def spec_IsQuorum.Cs (k : Nat) : CallSem := tab [(112, spec_TableOk.ans k), (113, spec_WeightOf.ans k), (114, spec_TotalOf.ans k)]
def spec_IsQuorum.cuts : List (Nat × Keep) := []
theorem spec_IsQuorum.s (k : Nat) (a0_0z : Bool) (a0_0 : List T) (a1z : Bool) (a1 : List Int) : answer Try.prog spec_IsQuorum.Cs 100000 spec_IsQuorum.cuts [] Try.f44 (k + 1) [.v (.agg [(.sl 44 a0_0z a0_0)]), .v (.nums 5 .u8 a1z a1)] = spec_IsQuorum.b (fun r => some (spec_IsQuorum.enc r)) k a0_0z a0_0 a1z a1 := by kernel_rfl
theorem spec_IsQuorum.b_nat {R R' : Type} (e : R → R') (ret : Bool → Option R) (k : Nat) (a0_0z : Bool) (a0_0 : List T) (a1z : Bool) (a1 : List Int) : spec_IsQuorum.b (fun r => (ret r).map e) k a0_0z a0_0 a1z a1 = (spec_IsQuorum.b ret k a0_0z a0_0 a1z a1).map e := by
  unfold spec_IsQuorum.b
  repeat' first | with_reducible refine nat_cond ?_ ?_ | with_reducible refine nat_bind fun _ => ?_ | rfl
theorem spec_IsQuorum.eq (k : Nat) (a0_0z : Bool) (a0_0 : List T) (a1z : Bool) (a1 : List Int) : answer Try.prog spec_IsQuorum.Cs 100000 spec_IsQuorum.cuts [] Try.f44 (k + 1) [.v (.agg [(.sl 44 a0_0z a0_0)]), .v (.nums 5 .u8 a1z a1)] = (spec_IsQuorum.f (k + 1) a0_0z a0_0 a1z a1).map spec_IsQuorum.enc := by
  refine (spec_IsQuorum.s k a0_0z a0_0 a1z a1).trans (Eq.trans ?_ (spec_IsQuorum.b_nat spec_IsQuorum.enc some k a0_0z a0_0 a1z a1))
  simp only [Option.map_some]
theorem spec_IsQuorum.sound (k : Nat) : SoundF Try.prog 44 (fun a => (spec_IsQuorum.ans k a).val) := by
  refine sound_plain (fun args res h => ?_) (fun t n => rfl)
  unfold spec_IsQuorum.ans at h
  dsimp only at h
  split at h
  · cases k with
    | zero => cases h
    | succ k =>
      unfold Ans.val at h
      rw [← spec_IsQuorum.eq] at h
      exact answer_sound mixed Try.func44 _ _ _ (k + 1) (fun j _ => tab_sound (tab_cons (spec_TableOk.sound j) (tab_cons (spec_WeightOf.sound j) (tab_cons (spec_TotalOf.sound j) (tab_nil))))) _ _ h
  · exact (Ans.no_val h).elim

/-! loop.example/g00790/laws.FnGather -/
def laws_FnGather.b {R : Type} (ret : Bool → Option R) (k : Nat) (a0z : Bool) (a0 : List Int) : Option R :=
  cond (decide (((a0).length : Int) > 1048576)) (ret true) ((spec_MakeVotes.f k a0z a0).bind fun t0 => (impl_Gather.f k t0.1 t0.2.1 t0.2.2.1 t0.2.2.2.1 t0.2.2.2.2.1 t0.2.2.2.2.2.1 t0.2.2.2.2.2.2.1 t0.2.2.2.2.2.2.2.1 t0.2.2.2.2.2.2.2.2 1 1 false (List.replicate 32 (0 : Int))).bind fun t1 => (impl_Tally.f k t0.2.2.2.2.2.1 t0.2.2.2.2.2.2.1 t0.2.2.2.2.2.2.2.1 t0.2.2.2.2.2.2.2.2 1 false (List.replicate 32 (0 : Int))).bind fun t2 => (impl_IsQuorum.f k t0.2.2.2.2.2.1 t0.2.2.2.2.2.2.1 t2.1 t2.2).bind fun t3 => cond (!(t1.2.2.2.2.2.2.2.2 == t3)) (ret false) ((spec_Tally.f k t0.2.2.2.2.2.1 t0.2.2.2.2.2.2.1 t0.2.2.2.2.2.2.2.1 t0.2.2.2.2.2.2.2.2 1 false (List.replicate 32 (0 : Int))).bind fun t4 => (spec_IsQuorum.f k t0.2.2.2.2.2.1 t0.2.2.2.2.2.2.1 t4.1 t4.2).bind fun t5 => cond (!(t1.2.2.2.2.2.2.2.2 == t5)) (ret false) (cond (!t1.2.2.2.2.2.2.2.2) (ret true) ((impl_QcCode.f k t0.1 t0.2.1 t0.2.2.1 t0.2.2.2.1 t0.2.2.2.2.1 t0.2.2.2.2.2.1 t0.2.2.2.2.2.2.1 t1.1 t1.2.1 t1.2.2.1 t1.2.2.2.1 t1.2.2.2.2.1 t1.2.2.2.2.2.1 t1.2.2.2.2.2.2.1 t1.2.2.2.2.2.2.2.1).bind fun t6 => cond (decide (t6 = 0)) ((impl_SameBytes.f k t1.2.2.2.2.1 t1.2.2.2.2.2.1 t2.1 t2.2).bind fun t7 => ret t7) (ret false)))))
def laws_FnGather.f : Nat → Bool → (List Int) → Option Bool
  | 0, _, _ => none
  | k + 1, a0z, a0 => laws_FnGather.b some k a0z a0
def laws_FnGather.enc (r : Bool) : Res := ⟨[.vals false [((.bool r), true)]], []⟩
def laws_FnGather.ans (k : Nat) : List Arg → Ans
  | [.v (.nums 5 .u8 a0z a0)] => ⟨laws_FnGather.f k a0z a0, laws_FnGather.enc⟩
  | _ => Ans.no
def laws_FnGather.Cs (k : Nat) : CallSem := tab [(41, spec_MakeVotes.ans k), (42, impl_Gather.ans k), (32, impl_SameBytes.ans k), (33, impl_QcCode.ans k), (31, impl_IsQuorum.ans k), (43, impl_Tally.ans k), (45, spec_Tally.ans k), (44, spec_IsQuorum.ans k)]
def laws_FnGather.cuts : List (Nat × Keep) := []
theorem laws_FnGather.s (k : Nat) (a0z : Bool) (a0 : List Int) : answer Try.prog laws_FnGather.Cs 100000 laws_FnGather.cuts [] Try.f7 (k + 1) [.v (.nums 5 .u8 a0z a0)] = laws_FnGather.b (fun r => some (laws_FnGather.enc r)) k a0z a0 := by kernel_rfl
theorem laws_FnGather.b_nat {R R' : Type} (e : R → R') (ret : Bool → Option R) (k : Nat) (a0z : Bool) (a0 : List Int) : laws_FnGather.b (fun r => (ret r).map e) k a0z a0 = (laws_FnGather.b ret k a0z a0).map e := by
  unfold laws_FnGather.b
  repeat' first | with_reducible refine nat_cond ?_ ?_ | with_reducible refine nat_bind fun _ => ?_ | rfl
theorem laws_FnGather.eq (k : Nat) (a0z : Bool) (a0 : List Int) : answer Try.prog laws_FnGather.Cs 100000 laws_FnGather.cuts [] Try.f7 (k + 1) [.v (.nums 5 .u8 a0z a0)] = (laws_FnGather.f (k + 1) a0z a0).map laws_FnGather.enc := by
  refine (laws_FnGather.s k a0z a0).trans (Eq.trans ?_ (laws_FnGather.b_nat laws_FnGather.enc some k a0z a0))
  simp only [Option.map_some]
theorem laws_FnGather.sound (k : Nat) : SoundF Try.prog 7 (fun a => (laws_FnGather.ans k a).val) := by
  refine sound_plain (fun args res h => ?_) (fun t n => rfl)
  unfold laws_FnGather.ans at h
  dsimp only at h
  split at h
  · cases k with
    | zero => cases h
    | succ k =>
      unfold Ans.val at h
      rw [← laws_FnGather.eq] at h
      exact answer_sound mixed Try.func7 _ _ _ (k + 1) (fun j _ => tab_sound (tab_cons (spec_MakeVotes.sound j) (tab_cons (impl_Gather.sound j) (tab_cons (impl_SameBytes.sound j) (tab_cons (impl_QcCode.sound j) (tab_cons (impl_IsQuorum.sound j) (tab_cons (impl_Tally.sound j) (tab_cons (spec_Tally.sound j) (tab_cons (spec_IsQuorum.sound j) (tab_nil)))))))))) _ _ h
  · exact (Ans.no_val h).elim
end Go.Proofs.YtbpcnodmgphinaaG
