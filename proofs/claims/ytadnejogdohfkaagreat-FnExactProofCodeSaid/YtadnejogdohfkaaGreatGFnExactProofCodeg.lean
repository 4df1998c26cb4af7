/- What the functions compute, printed by a program of this repo; each is shown to be what the machine of values answers. No condition. -/
import Derived.Test.YtadnejogdohfkaaGreatProg
import Derived.KernelRfl
import Derived.Test.YtadnejogdohfkaaGreatGFnExactProofCodef
namespace Go.Proofs.YtadnejogdohfkaaGreatG
open Go Go.Proofs.YtadnejogdohfkaaGreatRv Go.Proofs
set_option linter.unusedVariables false
set_option linter.unusedSimpArgs false
def laws_eqProof.b {R : Type} (ret : Bool → Option R) (k : Nat) (a0_0z : Bool) (a0_0 : List T) (a0_1 a0_2 : Int) (a0_3z : Bool) (a0_3 : List Int) (a0_4z : Bool) (a0_4 : List Int) (a0_5z : Bool) (a0_5 : List T) (a1_0z : Bool) (a1_0 : List T) (a1_1 a1_2 : Int) (a1_3z : Bool) (a1_3 : List Int) (a1_4z : Bool) (a1_4 : List Int) (a1_5z : Bool) (a1_5 : List T) : Option R :=
  (laws_eqHeadS.f k a0_0z a0_0 a1_0z a1_0).bind fun t0 => cond (!t0) (ret false) ((laws_eqQc.f k a0_1 a0_2 a0_3z a0_3 a0_4z a0_4 a0_5z a0_5 a1_1 a1_2 a1_3z a1_3 a1_4z a1_4 a1_5z a1_5).bind fun t1 => cond (!t1) (ret false) (ret true))
def laws_eqProof.f : Nat → Bool → (List T) → Int → Int → Bool → (List Int) → Bool → (List Int) → Bool → (List T) → Bool → (List T) → Int → Int → Bool → (List Int) → Bool → (List Int) → Bool → (List T) → Option Bool
  | 0, _, _, _, _, _, _, _, _, _, _, _, _, _, _, _, _, _, _, _, _ => none
  | k + 1, a0_0z, a0_0, a0_1, a0_2, a0_3z, a0_3, a0_4z, a0_4, a0_5z, a0_5, a1_0z, a1_0, a1_1, a1_2, a1_3z, a1_3, a1_4z, a1_4, a1_5z, a1_5 => laws_eqProof.b some k a0_0z a0_0 a0_1 a0_2 a0_3z a0_3 a0_4z a0_4 a0_5z a0_5 a1_0z a1_0 a1_1 a1_2 a1_3z a1_3 a1_4z a1_4 a1_5z a1_5
def laws_eqProof.enc (r : Bool) : Res := ⟨[.vals false [((.bool r), true)]], []⟩
def laws_eqProof.ans (k : Nat) : List Arg → Ans
  | [.v (.agg [(.sl 60 a0_0z a0_0), (.int .i64 a0_1), (.int .i64 a0_2), (.nums 5 .u8 a0_3z a0_3), (.nums 5 .u8 a0_4z a0_4), (.sl 28 a0_5z a0_5)]), .v (.agg [(.sl 60 a1_0z a1_0), (.int .i64 a1_1), (.int .i64 a1_2), (.nums 5 .u8 a1_3z a1_3), (.nums 5 .u8 a1_4z a1_4), (.sl 28 a1_5z a1_5)])] => ⟨laws_eqProof.f k a0_0z a0_0 a0_1 a0_2 a0_3z a0_3 a0_4z a0_4 a0_5z a0_5 a1_0z a1_0 a1_1 a1_2 a1_3z a1_3 a1_4z a1_4 a1_5z a1_5, laws_eqProof.enc⟩
  | _ => Ans.no
def laws_eqProof.Cs (k : Nat) : CallSem := tab [(32, laws_eqHeadS.ans k), (33, laws_eqQc.ans k)]
theorem laws_eqProof.eq (k : Nat) (a0_0z : Bool) (a0_0 : List T) (a0_1 a0_2 : Int) (a0_3z : Bool) (a0_3 : List Int) (a0_4z : Bool) (a0_4 : List Int) (a0_5z : Bool) (a0_5 : List T) (a1_0z : Bool) (a1_0 : List T) (a1_1 a1_2 : Int) (a1_3z : Bool) (a1_3 : List Int) (a1_4z : Bool) (a1_4 : List Int) (a1_5z : Bool) (a1_5 : List T) : answer Tryz.prog laws_eqProof.Cs 100000 [] [] Tryz.f12 (k + 1) [.v (.agg [(.sl 60 a0_0z a0_0), (.int .i64 a0_1), (.int .i64 a0_2), (.nums 5 .u8 a0_3z a0_3), (.nums 5 .u8 a0_4z a0_4), (.sl 28 a0_5z a0_5)]), .v (.agg [(.sl 60 a1_0z a1_0), (.int .i64 a1_1), (.int .i64 a1_2), (.nums 5 .u8 a1_3z a1_3), (.nums 5 .u8 a1_4z a1_4), (.sl 28 a1_5z a1_5)])] = (laws_eqProof.f (k + 1) a0_0z a0_0 a0_1 a0_2 a0_3z a0_3 a0_4z a0_4 a0_5z a0_5 a1_0z a1_0 a1_1 a1_2 a1_3z a1_3 a1_4z a1_4 a1_5z a1_5).map laws_eqProof.enc := by
  refine Eq.trans (b := laws_eqProof.b (fun r => some (laws_eqProof.enc r)) k a0_0z a0_0 a0_1 a0_2 a0_3z a0_3 a0_4z a0_4 a0_5z a0_5 a1_0z a1_0 a1_1 a1_2 a1_3z a1_3 a1_4z a1_4 a1_5z a1_5) (by kernel_rfl) ?_
  show _ = (laws_eqProof.b some k a0_0z a0_0 a0_1 a0_2 a0_3z a0_3 a0_4z a0_4 a0_5z a0_5 a1_0z a1_0 a1_1 a1_2 a1_3z a1_3 a1_4z a1_4 a1_5z a1_5).map laws_eqProof.enc
  unfold laws_eqProof.b
  repeat' first | with_reducible refine nat_cond ?_ ?_ | with_reducible refine nat_bind fun _ => ?_ | rfl
theorem laws_eqProof.sound (k : Nat) : SoundF Tryz.prog 12 (fun a => (laws_eqProof.ans k a).val) := by
  refine sound_plain (fun args res h => ?_) (fun t n => rfl)
  unfold laws_eqProof.ans at h
  dsimp only at h
  split at h
  · cases k with
    | zero => cases h
    | succ k =>
      unfold Ans.val at h
      rw [← laws_eqProof.eq] at h
      exact answer_sound mixed Tryz.func12 _ _ _ (k + 1) (fun j _ => tab_sound (tab_cons (laws_eqHeadS.sound j) (tab_cons (laws_eqQc.sound j) (tab_nil)))) _ _ h
  · exact (Ans.no_val h).elim

def laws_FnExactProofCode.b {R : Type} (ret : Bool → Option R) (k : Nat) (a0_0 a0_1 : Int) (a0_2 a0_3 a0_4 : Int) (a1_0z : Bool) (a1_0 : List T) (a2_0z : Bool) (a2_0 : List T) (a2_1 a2_2 : Int) (a2_3z : Bool) (a2_3 : List Int) (a2_4z : Bool) (a2_4 : List Int) (a2_5z : Bool) (a2_5 : List T) : Option R :=
  (laws_szTable.f k a1_0z a1_0 1048576).bind fun t0 => cond (decide (t0 < 0)) (ret true) ((laws_szProof.f k a2_0z a2_0 a2_1 a2_2 a2_3z a2_3 a2_4z a2_4 a2_5z a2_5 t0).bind fun t1 => cond (decide (t1 < 0)) (ret true) ((laws_toLimits.f k a0_0 a0_1 a0_2 a0_3 a0_4).bind fun t2 => (laws_toTable.f k a1_0z a1_0).bind fun t3 => (laws_toProof.f k a2_0z a2_0 a2_1 a2_2 a2_3z a2_3 a2_4z a2_4 a2_5z a2_5).bind fun t4 => (spec_ProofCode.f k t2.1 t2.2.1 t2.2.2.1 t2.2.2.2.1 t2.2.2.2.2 t3.1 t3.2 t4.1 t4.2.1 t4.2.2.1 t4.2.2.2.1 t4.2.2.2.2.1 t4.2.2.2.2.2.1 t4.2.2.2.2.2.2.1 t4.2.2.2.2.2.2.2.1 t4.2.2.2.2.2.2.2.2.1 t4.2.2.2.2.2.2.2.2.2).bind fun t5 => (laws_toTable.f k a1_0z a1_0).bind fun t6 => (laws_toProof.f k a2_0z a2_0 a2_1 a2_2 a2_3z a2_3 a2_4z a2_4 a2_5z a2_5).bind fun t7 => (laws_toLimits.f k a0_0 a0_1 a0_2 a0_3 a0_4).bind fun t8 => (impl_ProofCode.f k t8.1 t8.2.1 t8.2.2.1 t8.2.2.2.1 t8.2.2.2.2 t6.1 t6.2 t7.1 t7.2.1 t7.2.2.1 t7.2.2.2.1 t7.2.2.2.2.1 t7.2.2.2.2.2.1 t7.2.2.2.2.2.2.1 t7.2.2.2.2.2.2.2.1 t7.2.2.2.2.2.2.2.2.1 t7.2.2.2.2.2.2.2.2.2).bind fun t9 => cond (!(decide (t9 = t5))) (ret false) ((laws_toTable.f k a1_0z a1_0).bind fun t10 => (laws_eqTable.f k t6.1 t6.2 t10.1 t10.2).bind fun t11 => cond (!t11) (ret false) ((laws_toProof.f k a2_0z a2_0 a2_1 a2_2 a2_3z a2_3 a2_4z a2_4 a2_5z a2_5).bind fun t12 => (laws_eqProof.f k t7.1 t7.2.1 t7.2.2.1 t7.2.2.2.1 t7.2.2.2.2.1 t7.2.2.2.2.2.1 t7.2.2.2.2.2.2.1 t7.2.2.2.2.2.2.2.1 t7.2.2.2.2.2.2.2.2.1 t7.2.2.2.2.2.2.2.2.2 t12.1 t12.2.1 t12.2.2.1 t12.2.2.2.1 t12.2.2.2.2.1 t12.2.2.2.2.2.1 t12.2.2.2.2.2.2.1 t12.2.2.2.2.2.2.2.1 t12.2.2.2.2.2.2.2.2.1 t12.2.2.2.2.2.2.2.2.2).bind fun t13 => cond (!t13) (ret false) (ret true)))))
def laws_FnExactProofCode.f : Nat → Int → Int → Int → Int → Int → Bool → (List T) → Bool → (List T) → Int → Int → Bool → (List Int) → Bool → (List Int) → Bool → (List T) → Option Bool
  | 0, _, _, _, _, _, _, _, _, _, _, _, _, _, _, _, _, _ => none
  | k + 1, a0_0, a0_1, a0_2, a0_3, a0_4, a1_0z, a1_0, a2_0z, a2_0, a2_1, a2_2, a2_3z, a2_3, a2_4z, a2_4, a2_5z, a2_5 => laws_FnExactProofCode.b some k a0_0 a0_1 a0_2 a0_3 a0_4 a1_0z a1_0 a2_0z a2_0 a2_1 a2_2 a2_3z a2_3 a2_4z a2_4 a2_5z a2_5
def laws_FnExactProofCode.enc (r : Bool) : Res := ⟨[.vals false [((.bool r), true)]], []⟩
def laws_FnExactProofCode.ans (k : Nat) : List Arg → Ans
  | [.v (.agg [(.int .i64 a0_0), (.int .i64 a0_1), (.int .i64 a0_2), (.int .i64 a0_3), (.int .i64 a0_4)]), .v (.agg [(.sl 70 a1_0z a1_0)]), .v (.agg [(.sl 73 a2_0z a2_0), (.int .i64 a2_1), (.int .i64 a2_2), (.nums 5 .u8 a2_3z a2_3), (.nums 5 .u8 a2_4z a2_4), (.sl 28 a2_5z a2_5)])] => ⟨laws_FnExactProofCode.f k a0_0 a0_1 a0_2 a0_3 a0_4 a1_0z a1_0 a2_0z a2_0 a2_1 a2_2 a2_3z a2_3 a2_4z a2_4 a2_5z a2_5, laws_FnExactProofCode.enc⟩
  | _ => Ans.no
def laws_FnExactProofCode.Cs (k : Nat) : CallSem := tab [(4, laws_szTable.ans k), (5, laws_szProof.ans k), (7, laws_toLimits.ans k), (8, laws_toTable.ans k), (9, laws_toProof.ans k), (6, spec_ProofCode.ans k), (10, impl_ProofCode.ans k), (11, laws_eqTable.ans k), (12, laws_eqProof.ans k)]
theorem laws_FnExactProofCode.eq (k : Nat) (a0_0 a0_1 : Int) (a0_2 a0_3 a0_4 : Int) (a1_0z : Bool) (a1_0 : List T) (a2_0z : Bool) (a2_0 : List T) (a2_1 a2_2 : Int) (a2_3z : Bool) (a2_3 : List Int) (a2_4z : Bool) (a2_4 : List Int) (a2_5z : Bool) (a2_5 : List T) : answer Tryz.prog laws_FnExactProofCode.Cs 100000 [] [] Tryz.f3 (k + 1) [.v (.agg [(.int .i64 a0_0), (.int .i64 a0_1), (.int .i64 a0_2), (.int .i64 a0_3), (.int .i64 a0_4)]), .v (.agg [(.sl 70 a1_0z a1_0)]), .v (.agg [(.sl 73 a2_0z a2_0), (.int .i64 a2_1), (.int .i64 a2_2), (.nums 5 .u8 a2_3z a2_3), (.nums 5 .u8 a2_4z a2_4), (.sl 28 a2_5z a2_5)])] = (laws_FnExactProofCode.f (k + 1) a0_0 a0_1 a0_2 a0_3 a0_4 a1_0z a1_0 a2_0z a2_0 a2_1 a2_2 a2_3z a2_3 a2_4z a2_4 a2_5z a2_5).map laws_FnExactProofCode.enc := by
  refine Eq.trans (b := laws_FnExactProofCode.b (fun r => some (laws_FnExactProofCode.enc r)) k a0_0 a0_1 a0_2 a0_3 a0_4 a1_0z a1_0 a2_0z a2_0 a2_1 a2_2 a2_3z a2_3 a2_4z a2_4 a2_5z a2_5) (by kernel_rfl) ?_
  show _ = (laws_FnExactProofCode.b some k a0_0 a0_1 a0_2 a0_3 a0_4 a1_0z a1_0 a2_0z a2_0 a2_1 a2_2 a2_3z a2_3 a2_4z a2_4 a2_5z a2_5).map laws_FnExactProofCode.enc
  unfold laws_FnExactProofCode.b
  repeat' first | with_reducible refine nat_cond ?_ ?_ | with_reducible refine nat_bind fun _ => ?_ | rfl
theorem laws_FnExactProofCode.sound (k : Nat) : SoundF Tryz.prog 3 (fun a => (laws_FnExactProofCode.ans k a).val) := by
  refine sound_plain (fun args res h => ?_) (fun t n => rfl)
  unfold laws_FnExactProofCode.ans at h
  dsimp only at h
  split at h
  · cases k with
    | zero => cases h
    | succ k =>
      unfold Ans.val at h
      rw [← laws_FnExactProofCode.eq] at h
      exact answer_sound mixed Tryz.func3 _ _ _ (k + 1) (fun j _ => tab_sound (tab_cons (laws_szTable.sound j) (tab_cons (laws_szProof.sound j) (tab_cons (laws_toLimits.sound j) (tab_cons (laws_toTable.sound j) (tab_cons (laws_toProof.sound j) (tab_cons (spec_ProofCode.sound j) (tab_cons (impl_ProofCode.sound j) (tab_cons (laws_eqTable.sound j) (tab_cons (laws_eqProof.sound j) (tab_nil))))))))))) _ _ h
  · exact (Ans.no_val h).elim
end Go.Proofs.YtadnejogdohfkaaGreatG
