/- What the functions compute, printed by a program of this repo; each is shown to be what the machine of values answers. No condition. -/
import Derived.Test.YtjffolalgcmhaaaDoorProg
import Derived.KernelRfl
import Derived.Test.YtjffolalgcmhaaaDoorGFnExactHeadTexta
namespace Go.Proofs.YtjffolalgcmhaaaDoorG
open Go Go.Proofs.YtjffolalgcmhaaaDoorRv Go.Proofs
set_option linter.unusedVariables false
set_option linter.unusedSimpArgs false
/-! loop.example/g00790/laws.eqHead -/
def laws_eqHead.b {R : Type} (ret : Bool → Option R) (k : Nat) (a0_0 : Int) (a0_1 : Int) (a0_2 : Int) (a0_3z : Bool) (a0_3 : List Int) (a0_4z : Bool) (a0_4 : List Int) (a0_5 : Int) (a0_6 : Int) (a0_7z : Bool) (a0_7 : List Int) (a0_8z : Bool) (a0_8 : List Int) (a0_9z : Bool) (a0_9 : List T) (a1_0 : Int) (a1_1 : Int) (a1_2 : Int) (a1_3z : Bool) (a1_3 : List Int) (a1_4z : Bool) (a1_4 : List Int) (a1_5 : Int) (a1_6 : Int) (a1_7z : Bool) (a1_7 : List Int) (a1_8z : Bool) (a1_8 : List Int) (a1_9z : Bool) (a1_9 : List T) : Option R :=
  cond (!(decide (a0_0 = a1_0))) (ret false) (cond (!(decide (a0_1 = a1_1))) (ret false) (cond (!(decide (a0_2 = a1_2))) (ret false) ((laws_eqByteS.f k a0_3z a0_3 a1_3z a1_3).bind fun t0 => cond (!t0) (ret false) ((laws_eqByteS.f k a0_4z a0_4 a1_4z a1_4).bind fun t1 => cond (!t1) (ret false) ((laws_eqQc.f k a0_5 a0_6 a0_7z a0_7 a0_8z a0_8 a0_9z a0_9 a1_5 a1_6 a1_7z a1_7 a1_8z a1_8 a1_9z a1_9).bind fun t2 => cond (!t2) (ret false) (ret true))))))
def laws_eqHead.f : Nat → Int → Int → Int → Bool → (List Int) → Bool → (List Int) → Int → Int → Bool → (List Int) → Bool → (List Int) → Bool → (List T) → Int → Int → Int → Bool → (List Int) → Bool → (List Int) → Int → Int → Bool → (List Int) → Bool → (List Int) → Bool → (List T) → Option Bool
  | 0, _, _, _, _, _, _, _, _, _, _, _, _, _, _, _, _, _, _, _, _, _, _, _, _, _, _, _, _, _, _ => none
  | k + 1, a0_0, a0_1, a0_2, a0_3z, a0_3, a0_4z, a0_4, a0_5, a0_6, a0_7z, a0_7, a0_8z, a0_8, a0_9z, a0_9, a1_0, a1_1, a1_2, a1_3z, a1_3, a1_4z, a1_4, a1_5, a1_6, a1_7z, a1_7, a1_8z, a1_8, a1_9z, a1_9 => laws_eqHead.b some k a0_0 a0_1 a0_2 a0_3z a0_3 a0_4z a0_4 a0_5 a0_6 a0_7z a0_7 a0_8z a0_8 a0_9z a0_9 a1_0 a1_1 a1_2 a1_3z a1_3 a1_4z a1_4 a1_5 a1_6 a1_7z a1_7 a1_8z a1_8 a1_9z a1_9
def laws_eqHead.enc (r : Bool) : Res := ⟨[.vals false [((.bool r), true)]], []⟩
def laws_eqHead.ans (k : Nat) : List Arg → Ans
  | [.v (.agg [(.int .i64 a0_0), (.int .i64 a0_1), (.int .i64 a0_2), (.nums 5 .u8 a0_3z a0_3), (.nums 5 .u8 a0_4z a0_4), (.int .i64 a0_5), (.int .i64 a0_6), (.nums 5 .u8 a0_7z a0_7), (.nums 5 .u8 a0_8z a0_8), (.sl 28 a0_9z a0_9)]), .v (.agg [(.int .i64 a1_0), (.int .i64 a1_1), (.int .i64 a1_2), (.nums 5 .u8 a1_3z a1_3), (.nums 5 .u8 a1_4z a1_4), (.int .i64 a1_5), (.int .i64 a1_6), (.nums 5 .u8 a1_7z a1_7), (.nums 5 .u8 a1_8z a1_8), (.sl 28 a1_9z a1_9)])] => ⟨laws_eqHead.f k a0_0 a0_1 a0_2 a0_3z a0_3 a0_4z a0_4 a0_5 a0_6 a0_7z a0_7 a0_8z a0_8 a0_9z a0_9 a1_0 a1_1 a1_2 a1_3z a1_3 a1_4z a1_4 a1_5 a1_6 a1_7z a1_7 a1_8z a1_8 a1_9z a1_9, laws_eqHead.enc⟩
  | _ => Ans.no
def laws_eqHead.Cs (k : Nat) : CallSem := tab [(74, laws_eqByteS.ans k), (55, laws_eqQc.ans k)]
def laws_eqHead.cuts : List (Nat × Keep) := []
theorem laws_eqHead.s (k : Nat) (a0_0 : Int) (a0_1 : Int) (a0_2 : Int) (a0_3z : Bool) (a0_3 : List Int) (a0_4z : Bool) (a0_4 : List Int) (a0_5 : Int) (a0_6 : Int) (a0_7z : Bool) (a0_7 : List Int) (a0_8z : Bool) (a0_8 : List Int) (a0_9z : Bool) (a0_9 : List T) (a1_0 : Int) (a1_1 : Int) (a1_2 : Int) (a1_3z : Bool) (a1_3 : List Int) (a1_4z : Bool) (a1_4 : List Int) (a1_5 : Int) (a1_6 : Int) (a1_7z : Bool) (a1_7 : List Int) (a1_8z : Bool) (a1_8 : List Int) (a1_9z : Bool) (a1_9 : List T) : answer Tryd.prog laws_eqHead.Cs 100000 laws_eqHead.cuts [] Tryd.f30 (k + 1) [.v (.agg [(.int .i64 a0_0), (.int .i64 a0_1), (.int .i64 a0_2), (.nums 5 .u8 a0_3z a0_3), (.nums 5 .u8 a0_4z a0_4), (.int .i64 a0_5), (.int .i64 a0_6), (.nums 5 .u8 a0_7z a0_7), (.nums 5 .u8 a0_8z a0_8), (.sl 28 a0_9z a0_9)]), .v (.agg [(.int .i64 a1_0), (.int .i64 a1_1), (.int .i64 a1_2), (.nums 5 .u8 a1_3z a1_3), (.nums 5 .u8 a1_4z a1_4), (.int .i64 a1_5), (.int .i64 a1_6), (.nums 5 .u8 a1_7z a1_7), (.nums 5 .u8 a1_8z a1_8), (.sl 28 a1_9z a1_9)])] = laws_eqHead.b (fun r => some (laws_eqHead.enc r)) k a0_0 a0_1 a0_2 a0_3z a0_3 a0_4z a0_4 a0_5 a0_6 a0_7z a0_7 a0_8z a0_8 a0_9z a0_9 a1_0 a1_1 a1_2 a1_3z a1_3 a1_4z a1_4 a1_5 a1_6 a1_7z a1_7 a1_8z a1_8 a1_9z a1_9 := by kernel_rfl
theorem laws_eqHead.b_nat {R R' : Type} (e : R → R') (ret : Bool → Option R) (k : Nat) (a0_0 : Int) (a0_1 : Int) (a0_2 : Int) (a0_3z : Bool) (a0_3 : List Int) (a0_4z : Bool) (a0_4 : List Int) (a0_5 : Int) (a0_6 : Int) (a0_7z : Bool) (a0_7 : List Int) (a0_8z : Bool) (a0_8 : List Int) (a0_9z : Bool) (a0_9 : List T) (a1_0 : Int) (a1_1 : Int) (a1_2 : Int) (a1_3z : Bool) (a1_3 : List Int) (a1_4z : Bool) (a1_4 : List Int) (a1_5 : Int) (a1_6 : Int) (a1_7z : Bool) (a1_7 : List Int) (a1_8z : Bool) (a1_8 : List Int) (a1_9z : Bool) (a1_9 : List T) : laws_eqHead.b (fun r => (ret r).map e) k a0_0 a0_1 a0_2 a0_3z a0_3 a0_4z a0_4 a0_5 a0_6 a0_7z a0_7 a0_8z a0_8 a0_9z a0_9 a1_0 a1_1 a1_2 a1_3z a1_3 a1_4z a1_4 a1_5 a1_6 a1_7z a1_7 a1_8z a1_8 a1_9z a1_9 = (laws_eqHead.b ret k a0_0 a0_1 a0_2 a0_3z a0_3 a0_4z a0_4 a0_5 a0_6 a0_7z a0_7 a0_8z a0_8 a0_9z a0_9 a1_0 a1_1 a1_2 a1_3z a1_3 a1_4z a1_4 a1_5 a1_6 a1_7z a1_7 a1_8z a1_8 a1_9z a1_9).map e := by
  unfold laws_eqHead.b
  repeat' first | with_reducible refine nat_cond ?_ ?_ | with_reducible refine nat_bind fun _ => ?_ | rfl
theorem laws_eqHead.eq (k : Nat) (a0_0 : Int) (a0_1 : Int) (a0_2 : Int) (a0_3z : Bool) (a0_3 : List Int) (a0_4z : Bool) (a0_4 : List Int) (a0_5 : Int) (a0_6 : Int) (a0_7z : Bool) (a0_7 : List Int) (a0_8z : Bool) (a0_8 : List Int) (a0_9z : Bool) (a0_9 : List T) (a1_0 : Int) (a1_1 : Int) (a1_2 : Int) (a1_3z : Bool) (a1_3 : List Int) (a1_4z : Bool) (a1_4 : List Int) (a1_5 : Int) (a1_6 : Int) (a1_7z : Bool) (a1_7 : List Int) (a1_8z : Bool) (a1_8 : List Int) (a1_9z : Bool) (a1_9 : List T) : answer Tryd.prog laws_eqHead.Cs 100000 laws_eqHead.cuts [] Tryd.f30 (k + 1) [.v (.agg [(.int .i64 a0_0), (.int .i64 a0_1), (.int .i64 a0_2), (.nums 5 .u8 a0_3z a0_3), (.nums 5 .u8 a0_4z a0_4), (.int .i64 a0_5), (.int .i64 a0_6), (.nums 5 .u8 a0_7z a0_7), (.nums 5 .u8 a0_8z a0_8), (.sl 28 a0_9z a0_9)]), .v (.agg [(.int .i64 a1_0), (.int .i64 a1_1), (.int .i64 a1_2), (.nums 5 .u8 a1_3z a1_3), (.nums 5 .u8 a1_4z a1_4), (.int .i64 a1_5), (.int .i64 a1_6), (.nums 5 .u8 a1_7z a1_7), (.nums 5 .u8 a1_8z a1_8), (.sl 28 a1_9z a1_9)])] = (laws_eqHead.f (k + 1) a0_0 a0_1 a0_2 a0_3z a0_3 a0_4z a0_4 a0_5 a0_6 a0_7z a0_7 a0_8z a0_8 a0_9z a0_9 a1_0 a1_1 a1_2 a1_3z a1_3 a1_4z a1_4 a1_5 a1_6 a1_7z a1_7 a1_8z a1_8 a1_9z a1_9).map laws_eqHead.enc := by
  refine (laws_eqHead.s k a0_0 a0_1 a0_2 a0_3z a0_3 a0_4z a0_4 a0_5 a0_6 a0_7z a0_7 a0_8z a0_8 a0_9z a0_9 a1_0 a1_1 a1_2 a1_3z a1_3 a1_4z a1_4 a1_5 a1_6 a1_7z a1_7 a1_8z a1_8 a1_9z a1_9).trans (Eq.trans ?_ (laws_eqHead.b_nat laws_eqHead.enc some k a0_0 a0_1 a0_2 a0_3z a0_3 a0_4z a0_4 a0_5 a0_6 a0_7z a0_7 a0_8z a0_8 a0_9z a0_9 a1_0 a1_1 a1_2 a1_3z a1_3 a1_4z a1_4 a1_5 a1_6 a1_7z a1_7 a1_8z a1_8 a1_9z a1_9))
  simp only [Option.map_some]
theorem laws_eqHead.sound (k : Nat) : SoundF Tryd.prog 30 (fun a => (laws_eqHead.ans k a).val) := by
  refine sound_plain (fun args res h => ?_) (fun t n => rfl)
  unfold laws_eqHead.ans at h
  dsimp only at h
  split at h
  · cases k with
    | zero => cases h
    | succ k =>
      unfold Ans.val at h
      rw [← laws_eqHead.eq] at h
      exact answer_sound mixed Tryd.func30 _ _ _ (k + 1) (fun j _ => tab_sound (tab_cons (laws_eqByteS.sound j) (tab_cons (laws_eqQc.sound j) (tab_nil)))) _ _ h
  · exact (Ans.no_val h).elim

/-! loop.example/g00790/laws.FnExactHeadText -/
def laws_FnExactHeadText.b {R : Type} (ret : Bool → Option R) (k : Nat) (a0_0 : Int) (a0_1 : Int) (a0_2 : Int) (a0_3z : Bool) (a0_3 : List Int) (a0_4z : Bool) (a0_4 : List Int) (a0_5 : Int) (a0_6 : Int) (a0_7z : Bool) (a0_7 : List Int) (a0_8z : Bool) (a0_8 : List Int) (a0_9z : Bool) (a0_9 : List T) : Option R :=
  (laws_szHead.f k a0_0 a0_1 a0_2 a0_3z a0_3 a0_4z a0_4 a0_5 a0_6 a0_7z a0_7 a0_8z a0_8 a0_9z a0_9 1048576).bind fun t0 => cond (decide (t0 < 0)) (ret true) ((laws_toHead.f k a0_0 a0_1 a0_2 a0_3z a0_3 a0_4z a0_4 a0_5 a0_6 a0_7z a0_7 a0_8z a0_8 a0_9z a0_9).bind fun t1 => (spec_HeadText.f k t1.1 t1.2.1 t1.2.2.1 t1.2.2.2.1 t1.2.2.2.2.1 t1.2.2.2.2.2.1 t1.2.2.2.2.2.2.1 t1.2.2.2.2.2.2.2.1 t1.2.2.2.2.2.2.2.2.1 t1.2.2.2.2.2.2.2.2.2.1 t1.2.2.2.2.2.2.2.2.2.2.1 t1.2.2.2.2.2.2.2.2.2.2.2.1 t1.2.2.2.2.2.2.2.2.2.2.2.2.1 t1.2.2.2.2.2.2.2.2.2.2.2.2.2.1 t1.2.2.2.2.2.2.2.2.2.2.2.2.2.2).bind fun t2 => (laws_toHead.f k a0_0 a0_1 a0_2 a0_3z a0_3 a0_4z a0_4 a0_5 a0_6 a0_7z a0_7 a0_8z a0_8 a0_9z a0_9).bind fun t3 => (impl_HeadText.f k t3.1 t3.2.1 t3.2.2.1 t3.2.2.2.1 t3.2.2.2.2.1 t3.2.2.2.2.2.1 t3.2.2.2.2.2.2.1 t3.2.2.2.2.2.2.2.1 t3.2.2.2.2.2.2.2.2.1 t3.2.2.2.2.2.2.2.2.2.1 t3.2.2.2.2.2.2.2.2.2.2.1 t3.2.2.2.2.2.2.2.2.2.2.2.1 t3.2.2.2.2.2.2.2.2.2.2.2.2.1 t3.2.2.2.2.2.2.2.2.2.2.2.2.2.1 t3.2.2.2.2.2.2.2.2.2.2.2.2.2.2).bind fun t4 => cond (!decide (t4 = t2)) (ret false) ((laws_toHead.f k a0_0 a0_1 a0_2 a0_3z a0_3 a0_4z a0_4 a0_5 a0_6 a0_7z a0_7 a0_8z a0_8 a0_9z a0_9).bind fun t5 => (laws_eqHead.f k t3.1 t3.2.1 t3.2.2.1 t3.2.2.2.1 t3.2.2.2.2.1 t3.2.2.2.2.2.1 t3.2.2.2.2.2.2.1 t3.2.2.2.2.2.2.2.1 t3.2.2.2.2.2.2.2.2.1 t3.2.2.2.2.2.2.2.2.2.1 t3.2.2.2.2.2.2.2.2.2.2.1 t3.2.2.2.2.2.2.2.2.2.2.2.1 t3.2.2.2.2.2.2.2.2.2.2.2.2.1 t3.2.2.2.2.2.2.2.2.2.2.2.2.2.1 t3.2.2.2.2.2.2.2.2.2.2.2.2.2.2 t5.1 t5.2.1 t5.2.2.1 t5.2.2.2.1 t5.2.2.2.2.1 t5.2.2.2.2.2.1 t5.2.2.2.2.2.2.1 t5.2.2.2.2.2.2.2.1 t5.2.2.2.2.2.2.2.2.1 t5.2.2.2.2.2.2.2.2.2.1 t5.2.2.2.2.2.2.2.2.2.2.1 t5.2.2.2.2.2.2.2.2.2.2.2.1 t5.2.2.2.2.2.2.2.2.2.2.2.2.1 t5.2.2.2.2.2.2.2.2.2.2.2.2.2.1 t5.2.2.2.2.2.2.2.2.2.2.2.2.2.2).bind fun t6 => cond (!t6) (ret false) (ret true)))
def laws_FnExactHeadText.f : Nat → Int → Int → Int → Bool → (List Int) → Bool → (List Int) → Int → Int → Bool → (List Int) → Bool → (List Int) → Bool → (List T) → Option Bool
  | 0, _, _, _, _, _, _, _, _, _, _, _, _, _, _, _ => none
  | k + 1, a0_0, a0_1, a0_2, a0_3z, a0_3, a0_4z, a0_4, a0_5, a0_6, a0_7z, a0_7, a0_8z, a0_8, a0_9z, a0_9 => laws_FnExactHeadText.b some k a0_0 a0_1 a0_2 a0_3z a0_3 a0_4z a0_4 a0_5 a0_6 a0_7z a0_7 a0_8z a0_8 a0_9z a0_9
def laws_FnExactHeadText.enc (r : Bool) : Res := ⟨[.vals false [((.bool r), true)]], []⟩
def laws_FnExactHeadText.ans (k : Nat) : List Arg → Ans
  | [.v (.agg [(.int .i64 a0_0), (.int .i64 a0_1), (.int .i64 a0_2), (.nums 5 .u8 a0_3z a0_3), (.nums 5 .u8 a0_4z a0_4), (.int .i64 a0_5), (.int .i64 a0_6), (.nums 5 .u8 a0_7z a0_7), (.nums 5 .u8 a0_8z a0_8), (.sl 28 a0_9z a0_9)])] => ⟨laws_FnExactHeadText.f k a0_0 a0_1 a0_2 a0_3z a0_3 a0_4z a0_4 a0_5 a0_6 a0_7z a0_7 a0_8z a0_8 a0_9z a0_9, laws_FnExactHeadText.enc⟩
  | _ => Ans.no
def laws_FnExactHeadText.Cs (k : Nat) : CallSem := tab [(26, laws_szHead.ans k), (28, laws_toHead.ans k), (27, spec_HeadText.ans k), (29, impl_HeadText.ans k), (30, laws_eqHead.ans k)]
def laws_FnExactHeadText.cuts : List (Nat × Keep) := []
theorem laws_FnExactHeadText.s (k : Nat) (a0_0 : Int) (a0_1 : Int) (a0_2 : Int) (a0_3z : Bool) (a0_3 : List Int) (a0_4z : Bool) (a0_4 : List Int) (a0_5 : Int) (a0_6 : Int) (a0_7z : Bool) (a0_7 : List Int) (a0_8z : Bool) (a0_8 : List Int) (a0_9z : Bool) (a0_9 : List T) : answer Tryd.prog laws_FnExactHeadText.Cs 100000 laws_FnExactHeadText.cuts [] Tryd.f6 (k + 1) [.v (.agg [(.int .i64 a0_0), (.int .i64 a0_1), (.int .i64 a0_2), (.nums 5 .u8 a0_3z a0_3), (.nums 5 .u8 a0_4z a0_4), (.int .i64 a0_5), (.int .i64 a0_6), (.nums 5 .u8 a0_7z a0_7), (.nums 5 .u8 a0_8z a0_8), (.sl 28 a0_9z a0_9)])] = laws_FnExactHeadText.b (fun r => some (laws_FnExactHeadText.enc r)) k a0_0 a0_1 a0_2 a0_3z a0_3 a0_4z a0_4 a0_5 a0_6 a0_7z a0_7 a0_8z a0_8 a0_9z a0_9 := by kernel_rfl
theorem laws_FnExactHeadText.b_nat {R R' : Type} (e : R → R') (ret : Bool → Option R) (k : Nat) (a0_0 : Int) (a0_1 : Int) (a0_2 : Int) (a0_3z : Bool) (a0_3 : List Int) (a0_4z : Bool) (a0_4 : List Int) (a0_5 : Int) (a0_6 : Int) (a0_7z : Bool) (a0_7 : List Int) (a0_8z : Bool) (a0_8 : List Int) (a0_9z : Bool) (a0_9 : List T) : laws_FnExactHeadText.b (fun r => (ret r).map e) k a0_0 a0_1 a0_2 a0_3z a0_3 a0_4z a0_4 a0_5 a0_6 a0_7z a0_7 a0_8z a0_8 a0_9z a0_9 = (laws_FnExactHeadText.b ret k a0_0 a0_1 a0_2 a0_3z a0_3 a0_4z a0_4 a0_5 a0_6 a0_7z a0_7 a0_8z a0_8 a0_9z a0_9).map e := by
  unfold laws_FnExactHeadText.b
  repeat' first | with_reducible refine nat_cond ?_ ?_ | with_reducible refine nat_bind fun _ => ?_ | rfl
theorem laws_FnExactHeadText.eq (k : Nat) (a0_0 : Int) (a0_1 : Int) (a0_2 : Int) (a0_3z : Bool) (a0_3 : List Int) (a0_4z : Bool) (a0_4 : List Int) (a0_5 : Int) (a0_6 : Int) (a0_7z : Bool) (a0_7 : List Int) (a0_8z : Bool) (a0_8 : List Int) (a0_9z : Bool) (a0_9 : List T) : answer Tryd.prog laws_FnExactHeadText.Cs 100000 laws_FnExactHeadText.cuts [] Tryd.f6 (k + 1) [.v (.agg [(.int .i64 a0_0), (.int .i64 a0_1), (.int .i64 a0_2), (.nums 5 .u8 a0_3z a0_3), (.nums 5 .u8 a0_4z a0_4), (.int .i64 a0_5), (.int .i64 a0_6), (.nums 5 .u8 a0_7z a0_7), (.nums 5 .u8 a0_8z a0_8), (.sl 28 a0_9z a0_9)])] = (laws_FnExactHeadText.f (k + 1) a0_0 a0_1 a0_2 a0_3z a0_3 a0_4z a0_4 a0_5 a0_6 a0_7z a0_7 a0_8z a0_8 a0_9z a0_9).map laws_FnExactHeadText.enc := by
  refine (laws_FnExactHeadText.s k a0_0 a0_1 a0_2 a0_3z a0_3 a0_4z a0_4 a0_5 a0_6 a0_7z a0_7 a0_8z a0_8 a0_9z a0_9).trans (Eq.trans ?_ (laws_FnExactHeadText.b_nat laws_FnExactHeadText.enc some k a0_0 a0_1 a0_2 a0_3z a0_3 a0_4z a0_4 a0_5 a0_6 a0_7z a0_7 a0_8z a0_8 a0_9z a0_9))
  simp only [Option.map_some]
theorem laws_FnExactHeadText.sound (k : Nat) : SoundF Tryd.prog 6 (fun a => (laws_FnExactHeadText.ans k a).val) := by
  refine sound_plain (fun args res h => ?_) (fun t n => rfl)
  unfold laws_FnExactHeadText.ans at h
  dsimp only at h
  split at h
  · cases k with
    | zero => cases h
    | succ k =>
      unfold Ans.val at h
      rw [← laws_FnExactHeadText.eq] at h
      exact answer_sound mixed Tryd.func6 _ _ _ (k + 1) (fun j _ => tab_sound (tab_cons (laws_szHead.sound j) (tab_cons (laws_toHead.sound j) (tab_cons (spec_HeadText.sound j) (tab_cons (impl_HeadText.sound j) (tab_cons (laws_eqHead.sound j) (tab_nil))))))) _ _ h
  · exact (Ans.no_val h).elim
end Go.Proofs.YtjffolalgcmhaaaDoorG
