/- What the functions compute, printed by a program of this repo; each is shown to be what the machine of values answers. No condition. -/
import Derived.Test.YthocpcfjfgnkgaaDoorProg
import Derived.KernelRfl
import Derived.Test.YthocpcfjfgnkgaaDoorGFnTextsa
namespace Go.Proofs.YthocpcfjfgnkgaaDoorG
open Go Go.Proofs.YthocpcfjfgnkgaaDoorRv Go.Proofs
set_option linter.unusedVariables false
set_option linter.unusedSimpArgs false
/-! loop.example/g00790/laws.FnTexts -/
def laws_FnTexts.b {R : Type} (ret : Bool → Option R) (k : Nat) (a0z : Bool) (a0 : List Int) : Option R :=
  cond (decide (((a0).length : Int) > 1048576)) (ret true) ((spec_MakeTable.f k a0z a0).bind fun t0 => (impl_LimitsText.f k t0.1 t0.2.1 t0.2.2.1 t0.2.2.2.1 t0.2.2.2.2.1).bind fun t1 => (impl_TextLimits.f k t1).bind fun t2 => (impl_TableText.f k t0.2.2.2.2.2.1 t0.2.2.2.2.2.2).bind fun t3 => (impl_TextTable.f k t3).bind fun t4 => cond t2.2.2.2.2.2 (cond (decide (t2.1 = t0.1) && (decide (t2.2.1 = t0.2.1) && (decide (t2.2.2.1 = t0.2.2.1) && (decide (t2.2.2.2.1 = t0.2.2.2.1) && (decide (t2.2.2.2.2.1 = t0.2.2.2.2.1) && true))))) (cond t4.2.2 ((impl_TableSame.f k t4.1 t4.2.1 t0.2.2.2.2.2.1 t0.2.2.2.2.2.2).bind fun t5 => cond t5 ((impl_LimitsOk.f k t0.1 t0.2.1 t0.2.2.1 t0.2.2.2.1 t0.2.2.2.2.1).bind fun t6 => cond t6 ((impl_TableOk.f k t0.2.2.2.2.2.1 t0.2.2.2.2.2.2).bind fun t7 => ret t7) (ret false)) (ret false)) (ret false)) (ret false)) (ret false))
def laws_FnTexts.f : Nat → Bool → (List Int) → Option Bool
  | 0, _, _ => none
  | k + 1, a0z, a0 => laws_FnTexts.b some k a0z a0
def laws_FnTexts.enc (r : Bool) : Res := ⟨[.vals false [((.bool r), true)]], []⟩
def laws_FnTexts.ans (k : Nat) : List Arg → Ans
  | [.v (.nums 5 .u8 a0z a0)] => ⟨laws_FnTexts.f k a0z a0, laws_FnTexts.enc⟩
  | _ => Ans.no
def laws_FnTexts.Cs (k : Nat) : CallSem := tab [(4, spec_MakeTable.ans k), (6, impl_LimitsText.ans k), (10, impl_LimitsOk.ans k), (5, impl_TextLimits.ans k), (8, impl_TableText.ans k), (11, impl_TableOk.ans k), (7, impl_TextTable.ans k), (9, impl_TableSame.ans k)]
def laws_FnTexts.cuts : List (Nat × Keep) := []
theorem laws_FnTexts.s (k : Nat) (a0z : Bool) (a0 : List Int) : answer Tryd.prog laws_FnTexts.Cs 100000 laws_FnTexts.cuts [] Tryd.f3 (k + 1) [.v (.nums 5 .u8 a0z a0)] = laws_FnTexts.b (fun r => some (laws_FnTexts.enc r)) k a0z a0 := by kernel_rfl
theorem laws_FnTexts.b_nat {R R' : Type} (e : R → R') (ret : Bool → Option R) (k : Nat) (a0z : Bool) (a0 : List Int) : laws_FnTexts.b (fun r => (ret r).map e) k a0z a0 = (laws_FnTexts.b ret k a0z a0).map e := by
  unfold laws_FnTexts.b
  repeat' first | with_reducible refine nat_cond ?_ ?_ | with_reducible refine nat_bind fun _ => ?_ | rfl
theorem laws_FnTexts.eq (k : Nat) (a0z : Bool) (a0 : List Int) : answer Tryd.prog laws_FnTexts.Cs 100000 laws_FnTexts.cuts [] Tryd.f3 (k + 1) [.v (.nums 5 .u8 a0z a0)] = (laws_FnTexts.f (k + 1) a0z a0).map laws_FnTexts.enc := by
  refine (laws_FnTexts.s k a0z a0).trans (Eq.trans ?_ (laws_FnTexts.b_nat laws_FnTexts.enc some k a0z a0))
  simp only [Option.map_some]
theorem laws_FnTexts.sound (k : Nat) : SoundF Tryd.prog 3 (fun a => (laws_FnTexts.ans k a).val) := by
  refine sound_plain (fun args res h => ?_) (fun t n => rfl)
  unfold laws_FnTexts.ans at h
  dsimp only at h
  split at h
  · cases k with
    | zero => cases h
    | succ k =>
      unfold Ans.val at h
      rw [← laws_FnTexts.eq] at h
      exact answer_sound mixed Tryd.func3 _ _ _ (k + 1) (fun j _ => tab_sound (tab_cons (spec_MakeTable.sound j) (tab_cons (impl_LimitsText.sound j) (tab_cons (impl_LimitsOk.sound j) (tab_cons (impl_TextLimits.sound j) (tab_cons (impl_TableText.sound j) (tab_cons (impl_TableOk.sound j) (tab_cons (impl_TextTable.sound j) (tab_cons (impl_TableSame.sound j) (tab_nil)))))))))) _ _ h
  · exact (Ans.no_val h).elim
end Go.Proofs.YthocpcfjfgnkgaaDoorG
