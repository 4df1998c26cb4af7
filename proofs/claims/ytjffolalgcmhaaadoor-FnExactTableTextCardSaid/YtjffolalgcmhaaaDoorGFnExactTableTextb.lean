/- What the functions compute, printed by a program of this repo; each is shown to be what the machine of values answers. No condition. -/
import Derived.Test.YtjffolalgcmhaaaDoorProg
import Derived.KernelRfl
import Derived.Test.YtjffolalgcmhaaaDoorGFnExactTableTexta
namespace Go.Proofs.YtjffolalgcmhaaaDoorG
open Go Go.Proofs.YtjffolalgcmhaaaDoorRv Go.Proofs
set_option linter.unusedVariables false
set_option linter.unusedSimpArgs false
/-! loop.example/g00790/laws.eqTable -/
def laws_eqTable.b {R : Type} (ret : Bool → Option R) (k : Nat) (a0_0z : Bool) (a0_0 : List T) (a1_0z : Bool) (a1_0 : List T) : Option R :=
  (laws_eqRowS.f k a0_0z a0_0 a1_0z a1_0).bind fun t0 => cond (!t0) (ret false) (ret true)
def laws_eqTable.f : Nat → Bool → (List T) → Bool → (List T) → Option Bool
  | 0, _, _, _, _ => none
  | k + 1, a0_0z, a0_0, a1_0z, a1_0 => laws_eqTable.b some k a0_0z a0_0 a1_0z a1_0
def laws_eqTable.enc (r : Bool) : Res := ⟨[.vals false [((.bool r), true)]], []⟩
def laws_eqTable.ans (k : Nat) : List Arg → Ans
  | [.v (.agg [(.sl 140 a0_0z a0_0)]), .v (.agg [(.sl 140 a1_0z a1_0)])] => ⟨laws_eqTable.f k a0_0z a0_0 a1_0z a1_0, laws_eqTable.enc⟩
  | _ => Ans.no
def laws_eqTable.Cs (k : Nat) : CallSem := tab [(93, laws_eqRowS.ans k)]
def laws_eqTable.cuts : List (Nat × Keep) := []
theorem laws_eqTable.s (k : Nat) (a0_0z : Bool) (a0_0 : List T) (a1_0z : Bool) (a1_0 : List T) : answer Tryd.prog laws_eqTable.Cs 100000 laws_eqTable.cuts [] Tryd.f50 (k + 1) [.v (.agg [(.sl 140 a0_0z a0_0)]), .v (.agg [(.sl 140 a1_0z a1_0)])] = laws_eqTable.b (fun r => some (laws_eqTable.enc r)) k a0_0z a0_0 a1_0z a1_0 := by kernel_rfl
theorem laws_eqTable.b_nat {R R' : Type} (e : R → R') (ret : Bool → Option R) (k : Nat) (a0_0z : Bool) (a0_0 : List T) (a1_0z : Bool) (a1_0 : List T) : laws_eqTable.b (fun r => (ret r).map e) k a0_0z a0_0 a1_0z a1_0 = (laws_eqTable.b ret k a0_0z a0_0 a1_0z a1_0).map e := by
  unfold laws_eqTable.b
  repeat' first | with_reducible refine nat_cond ?_ ?_ | with_reducible refine nat_bind fun _ => ?_ | rfl
theorem laws_eqTable.eq (k : Nat) (a0_0z : Bool) (a0_0 : List T) (a1_0z : Bool) (a1_0 : List T) : answer Tryd.prog laws_eqTable.Cs 100000 laws_eqTable.cuts [] Tryd.f50 (k + 1) [.v (.agg [(.sl 140 a0_0z a0_0)]), .v (.agg [(.sl 140 a1_0z a1_0)])] = (laws_eqTable.f (k + 1) a0_0z a0_0 a1_0z a1_0).map laws_eqTable.enc := by
  refine (laws_eqTable.s k a0_0z a0_0 a1_0z a1_0).trans (Eq.trans ?_ (laws_eqTable.b_nat laws_eqTable.enc some k a0_0z a0_0 a1_0z a1_0))
  simp only [Option.map_some]
theorem laws_eqTable.sound (k : Nat) : SoundF Tryd.prog 50 (fun a => (laws_eqTable.ans k a).val) := by
  refine sound_plain (fun args res h => ?_) (fun t n => rfl)
  unfold laws_eqTable.ans at h
  dsimp only at h
  split at h
  · cases k with
    | zero => cases h
    | succ k =>
      unfold Ans.val at h
      rw [← laws_eqTable.eq] at h
      exact answer_sound mixed Tryd.func50 _ _ _ (k + 1) (fun j _ => tab_sound (tab_cons (laws_eqRowS.sound j) (tab_nil))) _ _ h
  · exact (Ans.no_val h).elim

/-! loop.example/g00790/laws.FnExactTableText -/
def laws_FnExactTableText.b {R : Type} (ret : Bool → Option R) (k : Nat) (a0_0z : Bool) (a0_0 : List T) : Option R :=
  (laws_szTable.f k a0_0z a0_0 1048576).bind fun t0 => cond (decide (t0 < 0)) (ret true) ((laws_toTable.f k a0_0z a0_0).bind fun t1 => (spec_TableText.f k t1.1 t1.2).bind fun t2 => (laws_toTable.f k a0_0z a0_0).bind fun t3 => (impl_TableText.f k t3.1 t3.2).bind fun t4 => cond (!decide (t4 = t2)) (ret false) ((laws_toTable.f k a0_0z a0_0).bind fun t5 => (laws_eqTable.f k t3.1 t3.2 t5.1 t5.2).bind fun t6 => cond (!t6) (ret false) (ret true)))
def laws_FnExactTableText.f : Nat → Bool → (List T) → Option Bool
  | 0, _, _ => none
  | k + 1, a0_0z, a0_0 => laws_FnExactTableText.b some k a0_0z a0_0
def laws_FnExactTableText.enc (r : Bool) : Res := ⟨[.vals false [((.bool r), true)]], []⟩
def laws_FnExactTableText.ans (k : Nat) : List Arg → Ans
  | [.v (.agg [(.sl 169 a0_0z a0_0)])] => ⟨laws_FnExactTableText.f k a0_0z a0_0, laws_FnExactTableText.enc⟩
  | _ => Ans.no
def laws_FnExactTableText.Cs (k : Nat) : CallSem := tab [(46, laws_szTable.ans k), (48, laws_toTable.ans k), (47, spec_TableText.ans k), (49, impl_TableText.ans k), (50, laws_eqTable.ans k)]
def laws_FnExactTableText.cuts : List (Nat × Keep) := []
theorem laws_FnExactTableText.s (k : Nat) (a0_0z : Bool) (a0_0 : List T) : answer Tryd.prog laws_FnExactTableText.Cs 100000 laws_FnExactTableText.cuts [] Tryd.f10 (k + 1) [.v (.agg [(.sl 169 a0_0z a0_0)])] = laws_FnExactTableText.b (fun r => some (laws_FnExactTableText.enc r)) k a0_0z a0_0 := by kernel_rfl
theorem laws_FnExactTableText.b_nat {R R' : Type} (e : R → R') (ret : Bool → Option R) (k : Nat) (a0_0z : Bool) (a0_0 : List T) : laws_FnExactTableText.b (fun r => (ret r).map e) k a0_0z a0_0 = (laws_FnExactTableText.b ret k a0_0z a0_0).map e := by
  unfold laws_FnExactTableText.b
  repeat' first | with_reducible refine nat_cond ?_ ?_ | with_reducible refine nat_bind fun _ => ?_ | rfl
theorem laws_FnExactTableText.eq (k : Nat) (a0_0z : Bool) (a0_0 : List T) : answer Tryd.prog laws_FnExactTableText.Cs 100000 laws_FnExactTableText.cuts [] Tryd.f10 (k + 1) [.v (.agg [(.sl 169 a0_0z a0_0)])] = (laws_FnExactTableText.f (k + 1) a0_0z a0_0).map laws_FnExactTableText.enc := by
  refine (laws_FnExactTableText.s k a0_0z a0_0).trans (Eq.trans ?_ (laws_FnExactTableText.b_nat laws_FnExactTableText.enc some k a0_0z a0_0))
  simp only [Option.map_some]
theorem laws_FnExactTableText.sound (k : Nat) : SoundF Tryd.prog 10 (fun a => (laws_FnExactTableText.ans k a).val) := by
  refine sound_plain (fun args res h => ?_) (fun t n => rfl)
  unfold laws_FnExactTableText.ans at h
  dsimp only at h
  split at h
  · cases k with
    | zero => cases h
    | succ k =>
      unfold Ans.val at h
      rw [← laws_FnExactTableText.eq] at h
      exact answer_sound mixed Tryd.func10 _ _ _ (k + 1) (fun j _ => tab_sound (tab_cons (laws_szTable.sound j) (tab_cons (laws_toTable.sound j) (tab_cons (spec_TableText.sound j) (tab_cons (impl_TableText.sound j) (tab_cons (laws_eqTable.sound j) (tab_nil))))))) _ _ h
  · exact (Ans.no_val h).elim
end Go.Proofs.YtjffolalgcmhaaaDoorG
