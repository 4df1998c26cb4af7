/- What the functions compute, printed by a program of this repo; each is shown to be what the machine of values answers. No condition. -/
import Derived.Test.YtgmloaobmddmaaaProg
import Derived.KernelRfl
import Derived.Test.YtgmloaobmddmaaaGFnExactVoteGoodc
namespace Go.Proofs.YtgmloaobmddmaaaG
open Go Go.Proofs.YtgmloaobmddmaaaRv Go.Proofs
set_option linter.unusedVariables false
set_option linter.unusedSimpArgs false
/-! loop.example/g00790/laws.FnExactVoteGood -/
def laws_FnExactVoteGood.b {R : Type} (ret : Bool → Option R) (k : Nat) (a0_0z : Bool) (a0_0 : List T) (a1_0 : Int) (a1_1 : Int) (a1_2z : Bool) (a1_2 : List Int) (a1_3 : Int) (a1_4z : Bool) (a1_4 : List Int) : Option R :=
  (laws_szTable.f k a0_0z a0_0 1048576).bind fun t0 => cond (decide (t0 < 0)) (ret true) ((laws_szVote.f k a1_0 a1_1 a1_2z a1_2 a1_3 a1_4z a1_4 t0).bind fun t1 => cond (decide (t1 < 0)) (ret true) ((laws_toTable.f k a0_0z a0_0).bind fun t2 => (laws_toVote.f k a1_0 a1_1 a1_2z a1_2 a1_3 a1_4z a1_4).bind fun t3 => (spec_VoteGood.f k t2.1 t2.2 t3.1 t3.2.1 t3.2.2.1 t3.2.2.2.1 t3.2.2.2.2.1 t3.2.2.2.2.2.1 t3.2.2.2.2.2.2).bind fun t4 => (laws_toTable.f k a0_0z a0_0).bind fun t5 => (laws_toVote.f k a1_0 a1_1 a1_2z a1_2 a1_3 a1_4z a1_4).bind fun t6 => (impl_VoteGood.f k t5.1 t5.2 t6.1 t6.2.1 t6.2.2.1 t6.2.2.2.1 t6.2.2.2.2.1 t6.2.2.2.2.2.1 t6.2.2.2.2.2.2).bind fun t7 => cond (!(t7 == t4)) (ret false) ((laws_toTable.f k a0_0z a0_0).bind fun t8 => (laws_eqTable.f k t5.1 t5.2 t8.1 t8.2).bind fun t9 => cond (!t9) (ret false) ((laws_toVote.f k a1_0 a1_1 a1_2z a1_2 a1_3 a1_4z a1_4).bind fun t10 => (laws_eqVote.f k t6.1 t6.2.1 t6.2.2.1 t6.2.2.2.1 t6.2.2.2.2.1 t6.2.2.2.2.2.1 t6.2.2.2.2.2.2 t10.1 t10.2.1 t10.2.2.1 t10.2.2.2.1 t10.2.2.2.2.1 t10.2.2.2.2.2.1 t10.2.2.2.2.2.2).bind fun t11 => cond (!t11) (ret false) (ret true)))))
def laws_FnExactVoteGood.f : Nat → Bool → (List T) → Int → Int → Bool → (List Int) → Int → Bool → (List Int) → Option Bool
  | 0, _, _, _, _, _, _, _, _, _ => none
  | k + 1, a0_0z, a0_0, a1_0, a1_1, a1_2z, a1_2, a1_3, a1_4z, a1_4 => laws_FnExactVoteGood.b some k a0_0z a0_0 a1_0 a1_1 a1_2z a1_2 a1_3 a1_4z a1_4
def laws_FnExactVoteGood.enc (r : Bool) : Res := ⟨[.vals false [((.bool r), true)]], []⟩
def laws_FnExactVoteGood.ans (k : Nat) : List Arg → Ans
  | [.v (.agg [(.sl 159 a0_0z a0_0)]), .v (.agg [(.int .i64 a1_0), (.int .i64 a1_1), (.nums 5 .u8 a1_2z a1_2), (.int .i64 a1_3), (.nums 5 .u8 a1_4z a1_4)])] => ⟨laws_FnExactVoteGood.f k a0_0z a0_0 a1_0 a1_1 a1_2z a1_2 a1_3 a1_4z a1_4, laws_FnExactVoteGood.enc⟩
  | _ => Ans.no
def laws_FnExactVoteGood.Cs (k : Nat) : CallSem := tab [(11, laws_szTable.ans k), (51, laws_szVote.ans k), (14, laws_toTable.ans k), (53, laws_toVote.ans k), (52, spec_VoteGood.ans k), (54, impl_VoteGood.ans k), (17, laws_eqTable.ans k), (55, laws_eqVote.ans k)]
def laws_FnExactVoteGood.cuts : List (Nat × Keep) := []
theorem laws_FnExactVoteGood.s (k : Nat) (a0_0z : Bool) (a0_0 : List T) (a1_0 : Int) (a1_1 : Int) (a1_2z : Bool) (a1_2 : List Int) (a1_3 : Int) (a1_4z : Bool) (a1_4 : List Int) : answer Try.prog laws_FnExactVoteGood.Cs 100000 laws_FnExactVoteGood.cuts [] Try.f8 (k + 1) [.v (.agg [(.sl 159 a0_0z a0_0)]), .v (.agg [(.int .i64 a1_0), (.int .i64 a1_1), (.nums 5 .u8 a1_2z a1_2), (.int .i64 a1_3), (.nums 5 .u8 a1_4z a1_4)])] = laws_FnExactVoteGood.b (fun r => some (laws_FnExactVoteGood.enc r)) k a0_0z a0_0 a1_0 a1_1 a1_2z a1_2 a1_3 a1_4z a1_4 := by kernel_rfl
theorem laws_FnExactVoteGood.b_nat {R R' : Type} (e : R → R') (ret : Bool → Option R) (k : Nat) (a0_0z : Bool) (a0_0 : List T) (a1_0 : Int) (a1_1 : Int) (a1_2z : Bool) (a1_2 : List Int) (a1_3 : Int) (a1_4z : Bool) (a1_4 : List Int) : laws_FnExactVoteGood.b (fun r => (ret r).map e) k a0_0z a0_0 a1_0 a1_1 a1_2z a1_2 a1_3 a1_4z a1_4 = (laws_FnExactVoteGood.b ret k a0_0z a0_0 a1_0 a1_1 a1_2z a1_2 a1_3 a1_4z a1_4).map e := by
  unfold laws_FnExactVoteGood.b
  repeat' first | with_reducible refine nat_cond ?_ ?_ | with_reducible refine nat_bind fun _ => ?_ | rfl
theorem laws_FnExactVoteGood.eq (k : Nat) (a0_0z : Bool) (a0_0 : List T) (a1_0 : Int) (a1_1 : Int) (a1_2z : Bool) (a1_2 : List Int) (a1_3 : Int) (a1_4z : Bool) (a1_4 : List Int) : answer Try.prog laws_FnExactVoteGood.Cs 100000 laws_FnExactVoteGood.cuts [] Try.f8 (k + 1) [.v (.agg [(.sl 159 a0_0z a0_0)]), .v (.agg [(.int .i64 a1_0), (.int .i64 a1_1), (.nums 5 .u8 a1_2z a1_2), (.int .i64 a1_3), (.nums 5 .u8 a1_4z a1_4)])] = (laws_FnExactVoteGood.f (k + 1) a0_0z a0_0 a1_0 a1_1 a1_2z a1_2 a1_3 a1_4z a1_4).map laws_FnExactVoteGood.enc := by
  refine (laws_FnExactVoteGood.s k a0_0z a0_0 a1_0 a1_1 a1_2z a1_2 a1_3 a1_4z a1_4).trans (Eq.trans ?_ (laws_FnExactVoteGood.b_nat laws_FnExactVoteGood.enc some k a0_0z a0_0 a1_0 a1_1 a1_2z a1_2 a1_3 a1_4z a1_4))
  simp only [Option.map_some]
theorem laws_FnExactVoteGood.sound (k : Nat) : SoundF Try.prog 8 (fun a => (laws_FnExactVoteGood.ans k a).val) := by
  intro args res h
  unfold laws_FnExactVoteGood.ans at h
  dsimp only at h
  split at h
  · cases k with
    | zero => cases h
    | succ k =>
      unfold Ans.val at h
      rw [← laws_FnExactVoteGood.eq] at h
      exact answer_sound mixed Try.func8 _ _ _ (k + 1) (fun j _ => tab_sound (tab_cons (laws_szTable.sound j) (tab_cons (laws_szVote.sound j) (tab_cons (laws_toTable.sound j) (tab_cons (laws_toVote.sound j) (tab_cons (spec_VoteGood.sound j) (tab_cons (impl_VoteGood.sound j) (tab_cons (laws_eqTable.sound j) (tab_cons (laws_eqVote.sound j) (tab_nil)))))))))) _ _ h
  · exact (Ans.no_val h).elim
end Go.Proofs.YtgmloaobmddmaaaG
