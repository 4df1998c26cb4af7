/- What the functions compute, printed by a program of this repo; each is shown to be what the machine of values answers. No condition. -/
import Derived.Test.YtadnejogdohfkaaProg
import Derived.KernelRfl
import Derived.Test.YtadnejogdohfkaaGFnExactBuildTcd
namespace Go.Proofs.YtadnejogdohfkaaG
open Go Go.Proofs.YtadnejogdohfkaaRv Go.Proofs
set_option linter.unusedVariables false
set_option linter.unusedSimpArgs false
/-! loop.example/g00790/laws.FnExactBuildTc -/
def laws_FnExactBuildTc.b {R : Type} (ret : Bool → Option R) (k : Nat) (a0_0 : Int) (a0_1 : Int) (a0_2 : Int) (a0_3 : Int) (a0_4 : Int) (a1_0z : Bool) (a1_0 : List T) (a2 : Int) (a3 : Int) (a4z : Bool) (a4 : List Int) : Option R :=
  cond (decide (((a4).length : Int) > 1048576)) (ret true) ((laws_szTable.f k a1_0z a1_0 1048576).bind fun t0 => cond (decide (t0 < 0)) (ret true) ((laws_toLimits.f k a0_0 a0_1 a0_2 a0_3 a0_4).bind fun t1 => (laws_toTable.f k a1_0z a1_0).bind fun t2 => (laws_toByteS.f k a4z a4).bind fun t3 => (spec_BuildTc.f k t1.1 t1.2.1 t1.2.2.1 t1.2.2.2.1 t1.2.2.2.2 t2.1 t2.2 a2 a3 t3.1 t3.2).bind fun t4 => (laws_toTable.f k a1_0z a1_0).bind fun t5 => (laws_toByteS.f k a4z a4).bind fun t6 => (laws_toLimits.f k a0_0 a0_1 a0_2 a0_3 a0_4).bind fun t7 => (impl_BuildTc.f k t7.1 t7.2.1 t7.2.2.1 t7.2.2.2.1 t7.2.2.2.2 t5.1 t5.2 a2 a3 t6.1 t6.2).bind fun t8 => (laws_eqTc.f k t8.1 t8.2.1 t8.2.2.1 t4.1 t4.2.1 t4.2.2.1).bind fun t9 => cond (!t9) (ret false) (cond (!(t8.2.2.2 == t4.2.2.2)) (ret false) ((laws_toTable.f k a1_0z a1_0).bind fun t10 => (laws_eqTable.f k t5.1 t5.2 t10.1 t10.2).bind fun t11 => cond (!t11) (ret false) ((laws_toByteS.f k a4z a4).bind fun t12 => (laws_eqByteS.f k t6.1 t6.2 t12.1 t12.2).bind fun t13 => cond (!t13) (ret false) ((laws_markTable.f k t5.1 t5.2 1).bind fun t14 => (laws_markByteS.f k t6.1 t6.2 t14.1).bind fun t15 => cond (decide (t15.1 < 0)) (ret false) ((laws_eqTc.f k t8.1 t8.2.1 t8.2.2.1 t4.1 t4.2.1 t4.2.2.1).bind fun t16 => cond (!t16) (ret false) (cond (!(t8.2.2.2 == t4.2.2.2)) (ret false) ((laws_markTc.f k t8.1 t8.2.1 t8.2.2.1 1).bind fun t17 => (laws_heldTc.f k t8.1 t17.2.2.1 t17.2.2.2 1).bind fun t18 => cond (decide (t18 < 0)) (ret false) (cond (!(decide (t18 = t17.1))) (ret false) ((laws_toLimits.f k a0_0 a0_1 a0_2 a0_3 a0_4).bind fun t19 => (laws_toTable.f k a1_0z a1_0).bind fun t20 => (laws_toByteS.f k a4z a4).bind fun t21 => (impl_BuildTc.f k t19.1 t19.2.1 t19.2.2.1 t19.2.2.2.1 t19.2.2.2.2 t20.1 t20.2 a2 a3 t21.1 t21.2).bind fun t22 => (laws_eqTc.f k t22.1 t22.2.1 t22.2.2.1 t4.1 t4.2.1 t4.2.2.1).bind fun t23 => cond (!t23) (ret false) (cond (!(t22.2.2.2 == t4.2.2.2)) (ret false) ((laws_heldTc.f k t8.1 t17.2.2.1 t17.2.2.2 1).bind fun t24 => cond (decide (t24 < 0)) (ret false) (cond (!(decide (t24 = t17.1))) (ret false) (ret true)))))))))))))))
def laws_FnExactBuildTc.f : Nat → Int → Int → Int → Int → Int → Bool → (List T) → Int → Int → Bool → (List Int) → Option Bool
  | 0, _, _, _, _, _, _, _, _, _, _, _ => none
  | k + 1, a0_0, a0_1, a0_2, a0_3, a0_4, a1_0z, a1_0, a2, a3, a4z, a4 => laws_FnExactBuildTc.b some k a0_0 a0_1 a0_2 a0_3 a0_4 a1_0z a1_0 a2 a3 a4z a4
def laws_FnExactBuildTc.enc (r : Bool) : Res := ⟨[.vals false [((.bool r), true)]], []⟩
def laws_FnExactBuildTc.ans (k : Nat) : List Arg → Ans
  | [.v (.agg [(.int .i64 a0_0), (.int .i64 a0_1), (.int .i64 a0_2), (.int .i64 a0_3), (.int .i64 a0_4)]), .v (.agg [(.sl 187 a1_0z a1_0)]), .v (.int .i64 a2), .v (.int .i64 a3), .v (.nums 5 .u8 a4z a4)] => ⟨laws_FnExactBuildTc.f k a0_0 a0_1 a0_2 a0_3 a0_4 a1_0z a1_0 a2 a3 a4z a4, laws_FnExactBuildTc.enc⟩
  | _ => Ans.no
def laws_FnExactBuildTc.Cs (k : Nat) : CallSem := tab [(30, laws_szTable.ans k), (16, laws_toLimits.ans k), (33, laws_toTable.ans k), (50, laws_toByteS.ans k), (64, spec_BuildTc.ans k), (65, impl_BuildTc.ans k), (42, laws_eqTc.ans k), (53, laws_eqByteS.ans k), (36, laws_eqTable.ans k), (46, laws_markTable.ans k), (54, laws_markByteS.ans k), (66, laws_markTc.ans k), (67, laws_heldTc.ans k)]
def laws_FnExactBuildTc.cuts : List (Nat × Keep) := []
theorem laws_FnExactBuildTc.s (k : Nat) (a0_0 : Int) (a0_1 : Int) (a0_2 : Int) (a0_3 : Int) (a0_4 : Int) (a1_0z : Bool) (a1_0 : List T) (a2 : Int) (a3 : Int) (a4z : Bool) (a4 : List Int) : answer Try.prog laws_FnExactBuildTc.Cs 100000 laws_FnExactBuildTc.cuts [] Try.f12 (k + 1) [.v (.agg [(.int .i64 a0_0), (.int .i64 a0_1), (.int .i64 a0_2), (.int .i64 a0_3), (.int .i64 a0_4)]), .v (.agg [(.sl 187 a1_0z a1_0)]), .v (.int .i64 a2), .v (.int .i64 a3), .v (.nums 5 .u8 a4z a4)] = laws_FnExactBuildTc.b (fun r => some (laws_FnExactBuildTc.enc r)) k a0_0 a0_1 a0_2 a0_3 a0_4 a1_0z a1_0 a2 a3 a4z a4 := by kernel_rfl
theorem laws_FnExactBuildTc.b_nat {R R' : Type} (e : R → R') (ret : Bool → Option R) (k : Nat) (a0_0 : Int) (a0_1 : Int) (a0_2 : Int) (a0_3 : Int) (a0_4 : Int) (a1_0z : Bool) (a1_0 : List T) (a2 : Int) (a3 : Int) (a4z : Bool) (a4 : List Int) : laws_FnExactBuildTc.b (fun r => (ret r).map e) k a0_0 a0_1 a0_2 a0_3 a0_4 a1_0z a1_0 a2 a3 a4z a4 = (laws_FnExactBuildTc.b ret k a0_0 a0_1 a0_2 a0_3 a0_4 a1_0z a1_0 a2 a3 a4z a4).map e := by
  unfold laws_FnExactBuildTc.b
  repeat' first | with_reducible refine nat_cond ?_ ?_ | with_reducible refine nat_bind fun _ => ?_ | rfl
theorem laws_FnExactBuildTc.eq (k : Nat) (a0_0 : Int) (a0_1 : Int) (a0_2 : Int) (a0_3 : Int) (a0_4 : Int) (a1_0z : Bool) (a1_0 : List T) (a2 : Int) (a3 : Int) (a4z : Bool) (a4 : List Int) : answer Try.prog laws_FnExactBuildTc.Cs 100000 laws_FnExactBuildTc.cuts [] Try.f12 (k + 1) [.v (.agg [(.int .i64 a0_0), (.int .i64 a0_1), (.int .i64 a0_2), (.int .i64 a0_3), (.int .i64 a0_4)]), .v (.agg [(.sl 187 a1_0z a1_0)]), .v (.int .i64 a2), .v (.int .i64 a3), .v (.nums 5 .u8 a4z a4)] = (laws_FnExactBuildTc.f (k + 1) a0_0 a0_1 a0_2 a0_3 a0_4 a1_0z a1_0 a2 a3 a4z a4).map laws_FnExactBuildTc.enc := by
  refine (laws_FnExactBuildTc.s k a0_0 a0_1 a0_2 a0_3 a0_4 a1_0z a1_0 a2 a3 a4z a4).trans (Eq.trans ?_ (laws_FnExactBuildTc.b_nat laws_FnExactBuildTc.enc some k a0_0 a0_1 a0_2 a0_3 a0_4 a1_0z a1_0 a2 a3 a4z a4))
  simp only [Option.map_some]
theorem laws_FnExactBuildTc.sound (k : Nat) : SoundF Try.prog 12 (fun a => (laws_FnExactBuildTc.ans k a).val) := by
  refine sound_plain (fun args res h => ?_) (fun t n => rfl)
  unfold laws_FnExactBuildTc.ans at h
  dsimp only at h
  split at h
  · cases k with
    | zero => cases h
    | succ k =>
      unfold Ans.val at h
      rw [← laws_FnExactBuildTc.eq] at h
      exact answer_sound mixed Try.func12 _ _ _ (k + 1) (fun j _ => tab_sound (tab_cons (laws_szTable.sound j) (tab_cons (laws_toLimits.sound j) (tab_cons (laws_toTable.sound j) (tab_cons (laws_toByteS.sound j) (tab_cons (spec_BuildTc.sound j) (tab_cons (impl_BuildTc.sound j) (tab_cons (laws_eqTc.sound j) (tab_cons (laws_eqByteS.sound j) (tab_cons (laws_eqTable.sound j) (tab_cons (laws_markTable.sound j) (tab_cons (laws_markByteS.sound j) (tab_cons (laws_markTc.sound j) (tab_cons (laws_heldTc.sound j) (tab_nil))))))))))))))) _ _ h
  · exact (Ans.no_val h).elim
end Go.Proofs.YtadnejogdohfkaaG
