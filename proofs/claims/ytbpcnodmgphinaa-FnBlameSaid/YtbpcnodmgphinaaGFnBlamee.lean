/- What the functions compute, printed by a program of this repo; each is shown to be what the machine of values answers. No condition. -/
import Derived.Test.YtbpcnodmgphinaaProg
import Derived.KernelRfl
import Derived.Test.YtbpcnodmgphinaaGFnBlamed
namespace Go.Proofs.YtbpcnodmgphinaaG
open Go Go.Proofs.YtbpcnodmgphinaaRv Go.Proofs
set_option linter.unusedVariables false
set_option linter.unusedSimpArgs false
/-! loop.example/g00790/laws.FnBlame -/
def laws_FnBlame.b {R : Type} (ret : Bool → Option R) (k : Nat) (a0z : Bool) (a0 : List Int) : Option R :=
  cond (decide (((a0).length : Int) > 1048576)) (ret true) ((spec_MakeTable.f k a0z a0).bind fun t0 => (spec_MakeHash.f k a0z a0 1).bind fun t1 => (spec_MakeBits.f k a0z a0 t0.1 1).bind fun t2 => (impl_BuildQc.f k t0.1 t0.2.1 t0.2.2.1 t0.2.2.2.1 t0.2.2.2.2.1 t0.2.2.2.2.2.1 t0.2.2.2.2.2.2 3 2 t1.1 t1.2 t2.1 t2.2).bind fun t3 => (spec_MakeHash.f k a0z a0 2).bind fun t4 => (spec_MakeBits.f k a0z a0 t0.1 2).bind fun t5 => (impl_BuildQc.f k t0.1 t0.2.1 t0.2.2.1 t0.2.2.2.1 t0.2.2.2.2.1 t0.2.2.2.2.2.1 t0.2.2.2.2.2.2 3 2 t4.1 t4.2 t5.1 t5.2).bind fun t6 => (impl_Blame.f k t0.2.2.2.2.2.1 t0.2.2.2.2.2.2 t3.1 t3.2.1 t3.2.2.1 t3.2.2.2.1 t3.2.2.2.2.1 t3.2.2.2.2.2.1 t3.2.2.2.2.2.2.1 t3.2.2.2.2.2.2.2.1 t6.1 t6.2.1 t6.2.2.1 t6.2.2.2.1 t6.2.2.2.2.1 t6.2.2.2.2.2.1 t6.2.2.2.2.2.2.1 t6.2.2.2.2.2.2.2.1).bind fun t7 => (impl_QcVotes.f k t3.1 t3.2.1 t3.2.2.1 t3.2.2.2.1 t3.2.2.2.2.1 t3.2.2.2.2.2.1 t3.2.2.2.2.2.2.1 t3.2.2.2.2.2.2.2.1).bind fun t8 => (impl_QcVotes.f k t6.1 t6.2.1 t6.2.2.1 t6.2.2.2.1 t6.2.2.2.2.1 t6.2.2.2.2.2.1 t6.2.2.2.2.2.2.1 t6.2.2.2.2.2.2.2.1).bind fun t9 => cond (decide ((t8.2).length + (t9.2).length < 1954687338268)) ((impl_Twice.f k t0.2.2.2.2.2.1 t0.2.2.2.2.2.2 ((t9.2).isEmpty && t8.1) (t8.2 ++ t9.2)).bind fun t10 => (impl_BitsAnd.f k t3.2.2.2.2.1 t3.2.2.2.2.2.1 t6.2.2.2.2.1 t6.2.2.2.2.2.1).bind fun t11 => (impl_SameBytes.f k t7.1 t7.2 t11.1 t11.2).bind fun t12 => cond (!t12) (ret false) ((impl_SameBytes.f k t7.1 t7.2 t10.1 t10.2).bind fun t13 => cond (!t13) (ret false) ((impl_Blame.f k t0.2.2.2.2.2.1 t0.2.2.2.2.2.2 t3.1 t3.2.1 t3.2.2.1 t3.2.2.2.1 t3.2.2.2.2.1 t3.2.2.2.2.2.1 t3.2.2.2.2.2.2.1 t3.2.2.2.2.2.2.2.1 t3.1 t3.2.1 t3.2.2.1 t3.2.2.2.1 t3.2.2.2.2.1 t3.2.2.2.2.2.1 t3.2.2.2.2.2.2.1 t3.2.2.2.2.2.2.2.1).bind fun t14 => (impl_BitsCount.f k t14.1 t14.2).bind fun t15 => cond (!(decide (t15 = 0))) (ret false) ((impl_QcCode.f k t0.1 t0.2.1 t0.2.2.1 t0.2.2.2.1 t0.2.2.2.2.1 t0.2.2.2.2.2.1 t0.2.2.2.2.2.2 t3.1 t3.2.1 t3.2.2.1 t3.2.2.2.1 t3.2.2.2.2.1 t3.2.2.2.2.2.1 t3.2.2.2.2.2.2.1 t3.2.2.2.2.2.2.2.1).bind fun t16 => cond (!(decide (t16 = 0))) (ret true) ((impl_QcCode.f k t0.1 t0.2.1 t0.2.2.1 t0.2.2.2.1 t0.2.2.2.2.1 t0.2.2.2.2.2.1 t0.2.2.2.2.2.2 t6.1 t6.2.1 t6.2.2.1 t6.2.2.2.1 t6.2.2.2.2.1 t6.2.2.2.2.2.1 t6.2.2.2.2.2.2.1 t6.2.2.2.2.2.2.2.1).bind fun t17 => cond (!(decide (t17 = 0))) (ret true) ((impl_WeightOf.f k t0.2.2.2.2.2.1 t0.2.2.2.2.2.2 t7.1 t7.2).bind fun t18 => (impl_TotalOf.f k t0.2.2.2.2.2.1 t0.2.2.2.2.2.2).bind fun t19 => ret (decide ((RowKit.wrap64 ((3 : Int) * t18)) > t19)))))))) (none))
def laws_FnBlame.f : Nat → Bool → (List Int) → Option Bool
  | 0, _, _ => none
  | k + 1, a0z, a0 => laws_FnBlame.b some k a0z a0
def laws_FnBlame.enc (r : Bool) : Res := ⟨[.vals false [((.bool r), true)]], []⟩
def laws_FnBlame.ans (k : Nat) : List Arg → Ans
  | [.v (.nums 5 .u8 a0z a0)] => ⟨laws_FnBlame.f k a0z a0, laws_FnBlame.enc⟩
  | _ => Ans.no
def laws_FnBlame.Cs (k : Nat) : CallSem := tab [(12, spec_MakeTable.ans k), (14, spec_MakeHash.ans k), (22, spec_MakeBits.ans k), (23, impl_BuildQc.ans k), (25, impl_BitsCount.ans k), (46, impl_Blame.ans k), (32, impl_SameBytes.ans k), (24, impl_QcVotes.ans k), (47, impl_Twice.ans k), (48, impl_BitsAnd.ans k), (33, impl_QcCode.ans k), (49, impl_WeightOf.ans k), (50, impl_TotalOf.ans k)]
def laws_FnBlame.cuts : List (Nat × Keep) := []
theorem laws_FnBlame.s (k : Nat) (a0z : Bool) (a0 : List Int) : answer Try.prog laws_FnBlame.Cs 100000 laws_FnBlame.cuts [] Try.f8 (k + 1) [.v (.nums 5 .u8 a0z a0)] = laws_FnBlame.b (fun r => some (laws_FnBlame.enc r)) k a0z a0 := by kernel_rfl
theorem laws_FnBlame.b_nat {R R' : Type} (e : R → R') (ret : Bool → Option R) (k : Nat) (a0z : Bool) (a0 : List Int) : laws_FnBlame.b (fun r => (ret r).map e) k a0z a0 = (laws_FnBlame.b ret k a0z a0).map e := by
  unfold laws_FnBlame.b
  repeat' first | with_reducible refine nat_cond ?_ ?_ | with_reducible refine nat_bind fun _ => ?_ | rfl
theorem laws_FnBlame.eq (k : Nat) (a0z : Bool) (a0 : List Int) : answer Try.prog laws_FnBlame.Cs 100000 laws_FnBlame.cuts [] Try.f8 (k + 1) [.v (.nums 5 .u8 a0z a0)] = (laws_FnBlame.f (k + 1) a0z a0).map laws_FnBlame.enc := by
  refine (laws_FnBlame.s k a0z a0).trans (Eq.trans ?_ (laws_FnBlame.b_nat laws_FnBlame.enc some k a0z a0))
  simp only [Option.map_some]
theorem laws_FnBlame.sound (k : Nat) : SoundF Try.prog 8 (fun a => (laws_FnBlame.ans k a).val) := by
  refine sound_plain (fun args res h => ?_) (fun t n => rfl)
  unfold laws_FnBlame.ans at h
  dsimp only at h
  split at h
  · cases k with
    | zero => cases h
    | succ k =>
      unfold Ans.val at h
      rw [← laws_FnBlame.eq] at h
      exact answer_sound mixed Try.func8 _ _ _ (k + 1) (fun j _ => tab_sound (tab_cons (spec_MakeTable.sound j) (tab_cons (spec_MakeHash.sound j) (tab_cons (spec_MakeBits.sound j) (tab_cons (impl_BuildQc.sound j) (tab_cons (impl_BitsCount.sound j) (tab_cons (impl_Blame.sound j) (tab_cons (impl_SameBytes.sound j) (tab_cons (impl_QcVotes.sound j) (tab_cons (impl_Twice.sound j) (tab_cons (impl_BitsAnd.sound j) (tab_cons (impl_QcCode.sound j) (tab_cons (impl_WeightOf.sound j) (tab_cons (impl_TotalOf.sound j) (tab_nil))))))))))))))) _ _ h
  · exact (Ans.no_val h).elim
end Go.Proofs.YtbpcnodmgphinaaG
