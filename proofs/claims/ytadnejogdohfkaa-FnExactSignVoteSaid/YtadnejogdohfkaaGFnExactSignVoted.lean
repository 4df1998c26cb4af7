/- What the functions compute, printed by a program of this repo; each is shown to be what the machine of values answers. No condition. -/
import Derived.Test.YtadnejogdohfkaaProg
import Derived.KernelRfl
import Derived.Test.YtadnejogdohfkaaGFnExactSignVotec
namespace Go.Proofs.YtadnejogdohfkaaG
open Go Go.Proofs.YtadnejogdohfkaaRv Go.Proofs
set_option linter.unusedVariables false
set_option linter.unusedSimpArgs false
/-! loop.example/g00790/laws.heldVote -/
def laws_heldVote.b {R : Type} (ret : Int → Option R) (k : Nat) (a0_0 : Int) (a0_1 : Int) (a0_2z : Bool) (a0_2 : List Int) (a0_3 : Int) (a0_4z : Bool) (a0_4 : List Int) (a1 : Int) : Option R :=
  (laws_heldByteS.f k a0_2z a0_2 a1).bind fun t0 => cond (decide (t0 < 0)) (ret (-1)) ((laws_heldByteS.f k a0_4z a0_4 t0).bind fun t1 => cond (decide (t1 < 0)) (ret (-1)) (ret t1))
def laws_heldVote.f : Nat → Int → Int → Bool → (List Int) → Int → Bool → (List Int) → Int → Option Int
  | 0, _, _, _, _, _, _, _, _ => none
  | k + 1, a0_0, a0_1, a0_2z, a0_2, a0_3, a0_4z, a0_4, a1 => laws_heldVote.b some k a0_0 a0_1 a0_2z a0_2 a0_3 a0_4z a0_4 a1
def laws_heldVote.enc (r : Int) : Res := ⟨[.vals false [((.int .i64 r), true)]], []⟩
def laws_heldVote.ans (k : Nat) : List Arg → Ans
  | [.v (.agg [(.int .i64 a0_0), (.int .i64 a0_1), (.nums 5 .u8 a0_2z a0_2), (.int .i64 a0_3), (.nums 5 .u8 a0_4z a0_4)]), .v (.int .i64 a1)] => ⟨laws_heldVote.f k a0_0 a0_1 a0_2z a0_2 a0_3 a0_4z a0_4 a1, laws_heldVote.enc⟩
  | _ => Ans.no
def laws_heldVote.Cs (k : Nat) : CallSem := tab [(59, laws_heldByteS.ans k)]
def laws_heldVote.cuts : List (Nat × Keep) := []
theorem laws_heldVote.s (k : Nat) (a0_0 : Int) (a0_1 : Int) (a0_2z : Bool) (a0_2 : List Int) (a0_3 : Int) (a0_4z : Bool) (a0_4 : List Int) (a1 : Int) : answer Try.prog laws_heldVote.Cs 100000 laws_heldVote.cuts [] Try.f56 (k + 1) [.v (.agg [(.int .i64 a0_0), (.int .i64 a0_1), (.nums 5 .u8 a0_2z a0_2), (.int .i64 a0_3), (.nums 5 .u8 a0_4z a0_4)]), .v (.int .i64 a1)] = laws_heldVote.b (fun r => some (laws_heldVote.enc r)) k a0_0 a0_1 a0_2z a0_2 a0_3 a0_4z a0_4 a1 := by kernel_rfl
theorem laws_heldVote.b_nat {R R' : Type} (e : R → R') (ret : Int → Option R) (k : Nat) (a0_0 : Int) (a0_1 : Int) (a0_2z : Bool) (a0_2 : List Int) (a0_3 : Int) (a0_4z : Bool) (a0_4 : List Int) (a1 : Int) : laws_heldVote.b (fun r => (ret r).map e) k a0_0 a0_1 a0_2z a0_2 a0_3 a0_4z a0_4 a1 = (laws_heldVote.b ret k a0_0 a0_1 a0_2z a0_2 a0_3 a0_4z a0_4 a1).map e := by
  unfold laws_heldVote.b
  repeat' first | with_reducible refine nat_cond ?_ ?_ | with_reducible refine nat_bind fun _ => ?_ | rfl
theorem laws_heldVote.eq (k : Nat) (a0_0 : Int) (a0_1 : Int) (a0_2z : Bool) (a0_2 : List Int) (a0_3 : Int) (a0_4z : Bool) (a0_4 : List Int) (a1 : Int) : answer Try.prog laws_heldVote.Cs 100000 laws_heldVote.cuts [] Try.f56 (k + 1) [.v (.agg [(.int .i64 a0_0), (.int .i64 a0_1), (.nums 5 .u8 a0_2z a0_2), (.int .i64 a0_3), (.nums 5 .u8 a0_4z a0_4)]), .v (.int .i64 a1)] = (laws_heldVote.f (k + 1) a0_0 a0_1 a0_2z a0_2 a0_3 a0_4z a0_4 a1).map laws_heldVote.enc := by
  refine (laws_heldVote.s k a0_0 a0_1 a0_2z a0_2 a0_3 a0_4z a0_4 a1).trans (Eq.trans ?_ (laws_heldVote.b_nat laws_heldVote.enc some k a0_0 a0_1 a0_2z a0_2 a0_3 a0_4z a0_4 a1))
  simp only [Option.map_some]
theorem laws_heldVote.sound (k : Nat) : SoundF Try.prog 56 (fun a => (laws_heldVote.ans k a).val) := by
  refine sound_plain (fun args res h => ?_) (fun t n => rfl)
  unfold laws_heldVote.ans at h
  dsimp only at h
  split at h
  · cases k with
    | zero => cases h
    | succ k =>
      unfold Ans.val at h
      rw [← laws_heldVote.eq] at h
      exact answer_sound mixed Try.func56 _ _ _ (k + 1) (fun j _ => tab_sound (tab_cons (laws_heldByteS.sound j) (tab_nil))) _ _ h
  · exact (Ans.no_val h).elim

/-! loop.example/g00790/laws.FnExactSignVote -/
def laws_FnExactSignVote.b {R : Type} (ret : Bool → Option R) (k : Nat) (a0_0z : Bool) (a0_0 : List T) (a1 : Int) (a2 : Int) (a3z : Bool) (a3 : List Int) (a4 : Int) : Option R :=
  cond (decide (((a3).length : Int) > 1048576)) (ret true) ((laws_szTable.f k a0_0z a0_0 1048576).bind fun t0 => cond (decide (t0 < 0)) (ret true) ((laws_toTable.f k a0_0z a0_0).bind fun t1 => (laws_toByteS.f k a3z a3).bind fun t2 => (spec_SignVote.f k t1.1 t1.2 a1 a2 t2.1 t2.2 a4).bind fun t3 => (laws_toTable.f k a0_0z a0_0).bind fun t4 => (laws_toByteS.f k a3z a3).bind fun t5 => (impl_SignVote.f k t4.1 t4.2 a1 a2 t5.1 t5.2 a4).bind fun t6 => (laws_eqVote.f k t6.1 t6.2.1 t6.2.2.1 t6.2.2.2.1 t6.2.2.2.2.1 t6.2.2.2.2.2.1 t6.2.2.2.2.2.2.1 t3.1 t3.2.1 t3.2.2.1 t3.2.2.2.1 t3.2.2.2.2.1 t3.2.2.2.2.2.1 t3.2.2.2.2.2.2.1).bind fun t7 => cond (!t7) (ret false) (cond (!(t6.2.2.2.2.2.2.2 == t3.2.2.2.2.2.2.2)) (ret false) ((laws_toTable.f k a0_0z a0_0).bind fun t8 => (laws_eqTable.f k t4.1 t4.2 t8.1 t8.2).bind fun t9 => cond (!t9) (ret false) ((laws_toByteS.f k a3z a3).bind fun t10 => (laws_eqByteS.f k t5.1 t5.2 t10.1 t10.2).bind fun t11 => cond (!t11) (ret false) ((laws_markTable.f k t4.1 t4.2 1).bind fun t12 => (laws_markByteS.f k t5.1 t5.2 t12.1).bind fun t13 => cond (decide (t13.1 < 0)) (ret false) ((laws_eqVote.f k t6.1 t6.2.1 t6.2.2.1 t6.2.2.2.1 t6.2.2.2.2.1 t6.2.2.2.2.2.1 t6.2.2.2.2.2.2.1 t3.1 t3.2.1 t3.2.2.1 t3.2.2.2.1 t3.2.2.2.2.1 t3.2.2.2.2.2.1 t3.2.2.2.2.2.2.1).bind fun t14 => cond (!t14) (ret false) (cond (!(t6.2.2.2.2.2.2.2 == t3.2.2.2.2.2.2.2)) (ret false) ((laws_markVote.f k t6.1 t6.2.1 t6.2.2.1 t6.2.2.2.1 t6.2.2.2.2.1 t6.2.2.2.2.2.1 t6.2.2.2.2.2.2.1 1).bind fun t15 => (laws_heldVote.f k t6.1 t6.2.1 t15.2.2.2.1 t15.2.2.2.2.1 t6.2.2.2.2.1 t15.2.2.2.2.2.2.1 t15.2.2.2.2.2.2.2 1).bind fun t16 => cond (decide (t16 < 0)) (ret false) (cond (!(decide (t16 = t15.1))) (ret false) ((laws_toTable.f k a0_0z a0_0).bind fun t17 => (laws_toByteS.f k a3z a3).bind fun t18 => (impl_SignVote.f k t17.1 t17.2 a1 a2 t18.1 t18.2 a4).bind fun t19 => (laws_eqVote.f k t19.1 t19.2.1 t19.2.2.1 t19.2.2.2.1 t19.2.2.2.2.1 t19.2.2.2.2.2.1 t19.2.2.2.2.2.2.1 t3.1 t3.2.1 t3.2.2.1 t3.2.2.2.1 t3.2.2.2.2.1 t3.2.2.2.2.2.1 t3.2.2.2.2.2.2.1).bind fun t20 => cond (!t20) (ret false) (cond (!(t19.2.2.2.2.2.2.2 == t3.2.2.2.2.2.2.2)) (ret false) ((laws_heldVote.f k t6.1 t6.2.1 t15.2.2.2.1 t15.2.2.2.2.1 t6.2.2.2.2.1 t15.2.2.2.2.2.2.1 t15.2.2.2.2.2.2.2 1).bind fun t21 => cond (decide (t21 < 0)) (ret false) (cond (!(decide (t21 = t15.1))) (ret false) (ret true)))))))))))))))
def laws_FnExactSignVote.f : Nat → Bool → (List T) → Int → Int → Bool → (List Int) → Int → Option Bool
  | 0, _, _, _, _, _, _, _ => none
  | k + 1, a0_0z, a0_0, a1, a2, a3z, a3, a4 => laws_FnExactSignVote.b some k a0_0z a0_0 a1 a2 a3z a3 a4
def laws_FnExactSignVote.enc (r : Bool) : Res := ⟨[.vals false [((.bool r), true)]], []⟩
def laws_FnExactSignVote.ans (k : Nat) : List Arg → Ans
  | [.v (.agg [(.sl 187 a0_0z a0_0)]), .v (.int .i64 a1), .v (.int .i64 a2), .v (.nums 5 .u8 a3z a3), .v (.int .i64 a4)] => ⟨laws_FnExactSignVote.f k a0_0z a0_0 a1 a2 a3z a3 a4, laws_FnExactSignVote.enc⟩
  | _ => Ans.no
def laws_FnExactSignVote.Cs (k : Nat) : CallSem := tab [(30, laws_szTable.ans k), (33, laws_toTable.ans k), (50, laws_toByteS.ans k), (49, spec_SignVote.ans k), (51, impl_SignVote.ans k), (52, laws_eqVote.ans k), (53, laws_eqByteS.ans k), (36, laws_eqTable.ans k), (46, laws_markTable.ans k), (54, laws_markByteS.ans k), (55, laws_markVote.ans k), (56, laws_heldVote.ans k)]
def laws_FnExactSignVote.cuts : List (Nat × Keep) := []
theorem laws_FnExactSignVote.s (k : Nat) (a0_0z : Bool) (a0_0 : List T) (a1 : Int) (a2 : Int) (a3z : Bool) (a3 : List Int) (a4 : Int) : answer Try.prog laws_FnExactSignVote.Cs 100000 laws_FnExactSignVote.cuts [] Try.f9 (k + 1) [.v (.agg [(.sl 187 a0_0z a0_0)]), .v (.int .i64 a1), .v (.int .i64 a2), .v (.nums 5 .u8 a3z a3), .v (.int .i64 a4)] = laws_FnExactSignVote.b (fun r => some (laws_FnExactSignVote.enc r)) k a0_0z a0_0 a1 a2 a3z a3 a4 := by kernel_rfl
theorem laws_FnExactSignVote.b_nat {R R' : Type} (e : R → R') (ret : Bool → Option R) (k : Nat) (a0_0z : Bool) (a0_0 : List T) (a1 : Int) (a2 : Int) (a3z : Bool) (a3 : List Int) (a4 : Int) : laws_FnExactSignVote.b (fun r => (ret r).map e) k a0_0z a0_0 a1 a2 a3z a3 a4 = (laws_FnExactSignVote.b ret k a0_0z a0_0 a1 a2 a3z a3 a4).map e := by
  unfold laws_FnExactSignVote.b
  repeat' first | with_reducible refine nat_cond ?_ ?_ | with_reducible refine nat_bind fun _ => ?_ | rfl
theorem laws_FnExactSignVote.eq (k : Nat) (a0_0z : Bool) (a0_0 : List T) (a1 : Int) (a2 : Int) (a3z : Bool) (a3 : List Int) (a4 : Int) : answer Try.prog laws_FnExactSignVote.Cs 100000 laws_FnExactSignVote.cuts [] Try.f9 (k + 1) [.v (.agg [(.sl 187 a0_0z a0_0)]), .v (.int .i64 a1), .v (.int .i64 a2), .v (.nums 5 .u8 a3z a3), .v (.int .i64 a4)] = (laws_FnExactSignVote.f (k + 1) a0_0z a0_0 a1 a2 a3z a3 a4).map laws_FnExactSignVote.enc := by
  refine (laws_FnExactSignVote.s k a0_0z a0_0 a1 a2 a3z a3 a4).trans (Eq.trans ?_ (laws_FnExactSignVote.b_nat laws_FnExactSignVote.enc some k a0_0z a0_0 a1 a2 a3z a3 a4))
  simp only [Option.map_some]
theorem laws_FnExactSignVote.sound (k : Nat) : SoundF Try.prog 9 (fun a => (laws_FnExactSignVote.ans k a).val) := by
  refine sound_plain (fun args res h => ?_) (fun t n => rfl)
  unfold laws_FnExactSignVote.ans at h
  dsimp only at h
  split at h
  · cases k with
    | zero => cases h
    | succ k =>
      unfold Ans.val at h
      rw [← laws_FnExactSignVote.eq] at h
      exact answer_sound mixed Try.func9 _ _ _ (k + 1) (fun j _ => tab_sound (tab_cons (laws_szTable.sound j) (tab_cons (laws_toTable.sound j) (tab_cons (laws_toByteS.sound j) (tab_cons (spec_SignVote.sound j) (tab_cons (impl_SignVote.sound j) (tab_cons (laws_eqVote.sound j) (tab_cons (laws_eqByteS.sound j) (tab_cons (laws_eqTable.sound j) (tab_cons (laws_markTable.sound j) (tab_cons (laws_markByteS.sound j) (tab_cons (laws_markVote.sound j) (tab_cons (laws_heldVote.sound j) (tab_nil)))))))))))))) _ _ h
  · exact (Ans.no_val h).elim
end Go.Proofs.YtadnejogdohfkaaG
