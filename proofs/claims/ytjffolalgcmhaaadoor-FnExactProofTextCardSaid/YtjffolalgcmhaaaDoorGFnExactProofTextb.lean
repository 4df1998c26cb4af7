/- What the functions compute, printed by a program of this repo; each is shown to be what the machine of values answers. No condition. -/
import Derived.Test.YtjffolalgcmhaaaDoorProg
import Derived.KernelRfl
import Derived.Test.YtjffolalgcmhaaaDoorGFnExactProofTexta
namespace Go.Proofs.YtjffolalgcmhaaaDoorG
open Go Go.Proofs.YtjffolalgcmhaaaDoorRv Go.Proofs
set_option linter.unusedVariables false
set_option linter.unusedSimpArgs false
/-! loop.example/g00790/laws.eqQc -/
def laws_eqQc.b {R : Type} (ret : Bool → Option R) (k : Nat) (a0_0 : Int) (a0_1 : Int) (a0_2z : Bool) (a0_2 : List Int) (a0_3z : Bool) (a0_3 : List Int) (a0_4z : Bool) (a0_4 : List T) (a1_0 : Int) (a1_1 : Int) (a1_2z : Bool) (a1_2 : List Int) (a1_3z : Bool) (a1_3 : List Int) (a1_4z : Bool) (a1_4 : List T) : Option R :=
  cond (!(decide (a0_0 = a1_0))) (ret false) (cond (!(decide (a0_1 = a1_1))) (ret false) ((laws_eqByteS.f k a0_2z a0_2 a1_2z a1_2).bind fun t0 => cond (!t0) (ret false) ((laws_eqByteS.f k a0_3z a0_3 a1_3z a1_3).bind fun t1 => cond (!t1) (ret false) ((laws_eqByteSS.f k a0_4z a0_4 a1_4z a1_4).bind fun t2 => cond (!t2) (ret false) (ret true)))))
def laws_eqQc.f : Nat → Int → Int → Bool → (List Int) → Bool → (List Int) → Bool → (List T) → Int → Int → Bool → (List Int) → Bool → (List Int) → Bool → (List T) → Option Bool
  | 0, _, _, _, _, _, _, _, _, _, _, _, _, _, _, _, _ => none
  | k + 1, a0_0, a0_1, a0_2z, a0_2, a0_3z, a0_3, a0_4z, a0_4, a1_0, a1_1, a1_2z, a1_2, a1_3z, a1_3, a1_4z, a1_4 => laws_eqQc.b some k a0_0 a0_1 a0_2z a0_2 a0_3z a0_3 a0_4z a0_4 a1_0 a1_1 a1_2z a1_2 a1_3z a1_3 a1_4z a1_4
def laws_eqQc.enc (r : Bool) : Res := ⟨[.vals false [((.bool r), true)]], []⟩
def laws_eqQc.ans (k : Nat) : List Arg → Ans
  | [.v (.agg [(.int .i64 a0_0), (.int .i64 a0_1), (.nums 5 .u8 a0_2z a0_2), (.nums 5 .u8 a0_3z a0_3), (.sl 28 a0_4z a0_4)]), .v (.agg [(.int .i64 a1_0), (.int .i64 a1_1), (.nums 5 .u8 a1_2z a1_2), (.nums 5 .u8 a1_3z a1_3), (.sl 28 a1_4z a1_4)])] => ⟨laws_eqQc.f k a0_0 a0_1 a0_2z a0_2 a0_3z a0_3 a0_4z a0_4 a1_0 a1_1 a1_2z a1_2 a1_3z a1_3 a1_4z a1_4, laws_eqQc.enc⟩
  | _ => Ans.no
def laws_eqQc.Cs (k : Nat) : CallSem := tab [(74, laws_eqByteS.ans k), (80, laws_eqByteSS.ans k)]
def laws_eqQc.cuts : List (Nat × Keep) := []
theorem laws_eqQc.s (k : Nat) (a0_0 : Int) (a0_1 : Int) (a0_2z : Bool) (a0_2 : List Int) (a0_3z : Bool) (a0_3 : List Int) (a0_4z : Bool) (a0_4 : List T) (a1_0 : Int) (a1_1 : Int) (a1_2z : Bool) (a1_2 : List Int) (a1_3z : Bool) (a1_3 : List Int) (a1_4z : Bool) (a1_4 : List T) : answer Tryd.prog laws_eqQc.Cs 100000 laws_eqQc.cuts [] Tryd.f55 (k + 1) [.v (.agg [(.int .i64 a0_0), (.int .i64 a0_1), (.nums 5 .u8 a0_2z a0_2), (.nums 5 .u8 a0_3z a0_3), (.sl 28 a0_4z a0_4)]), .v (.agg [(.int .i64 a1_0), (.int .i64 a1_1), (.nums 5 .u8 a1_2z a1_2), (.nums 5 .u8 a1_3z a1_3), (.sl 28 a1_4z a1_4)])] = laws_eqQc.b (fun r => some (laws_eqQc.enc r)) k a0_0 a0_1 a0_2z a0_2 a0_3z a0_3 a0_4z a0_4 a1_0 a1_1 a1_2z a1_2 a1_3z a1_3 a1_4z a1_4 := by kernel_rfl
theorem laws_eqQc.b_nat {R R' : Type} (e : R → R') (ret : Bool → Option R) (k : Nat) (a0_0 : Int) (a0_1 : Int) (a0_2z : Bool) (a0_2 : List Int) (a0_3z : Bool) (a0_3 : List Int) (a0_4z : Bool) (a0_4 : List T) (a1_0 : Int) (a1_1 : Int) (a1_2z : Bool) (a1_2 : List Int) (a1_3z : Bool) (a1_3 : List Int) (a1_4z : Bool) (a1_4 : List T) : laws_eqQc.b (fun r => (ret r).map e) k a0_0 a0_1 a0_2z a0_2 a0_3z a0_3 a0_4z a0_4 a1_0 a1_1 a1_2z a1_2 a1_3z a1_3 a1_4z a1_4 = (laws_eqQc.b ret k a0_0 a0_1 a0_2z a0_2 a0_3z a0_3 a0_4z a0_4 a1_0 a1_1 a1_2z a1_2 a1_3z a1_3 a1_4z a1_4).map e := by
  unfold laws_eqQc.b
  repeat' first | with_reducible refine nat_cond ?_ ?_ | with_reducible refine nat_bind fun _ => ?_ | rfl
theorem laws_eqQc.eq (k : Nat) (a0_0 : Int) (a0_1 : Int) (a0_2z : Bool) (a0_2 : List Int) (a0_3z : Bool) (a0_3 : List Int) (a0_4z : Bool) (a0_4 : List T) (a1_0 : Int) (a1_1 : Int) (a1_2z : Bool) (a1_2 : List Int) (a1_3z : Bool) (a1_3 : List Int) (a1_4z : Bool) (a1_4 : List T) : answer Tryd.prog laws_eqQc.Cs 100000 laws_eqQc.cuts [] Tryd.f55 (k + 1) [.v (.agg [(.int .i64 a0_0), (.int .i64 a0_1), (.nums 5 .u8 a0_2z a0_2), (.nums 5 .u8 a0_3z a0_3), (.sl 28 a0_4z a0_4)]), .v (.agg [(.int .i64 a1_0), (.int .i64 a1_1), (.nums 5 .u8 a1_2z a1_2), (.nums 5 .u8 a1_3z a1_3), (.sl 28 a1_4z a1_4)])] = (laws_eqQc.f (k + 1) a0_0 a0_1 a0_2z a0_2 a0_3z a0_3 a0_4z a0_4 a1_0 a1_1 a1_2z a1_2 a1_3z a1_3 a1_4z a1_4).map laws_eqQc.enc := by
  refine (laws_eqQc.s k a0_0 a0_1 a0_2z a0_2 a0_3z a0_3 a0_4z a0_4 a1_0 a1_1 a1_2z a1_2 a1_3z a1_3 a1_4z a1_4).trans (Eq.trans ?_ (laws_eqQc.b_nat laws_eqQc.enc some k a0_0 a0_1 a0_2z a0_2 a0_3z a0_3 a0_4z a0_4 a1_0 a1_1 a1_2z a1_2 a1_3z a1_3 a1_4z a1_4))
  simp only [Option.map_some]
theorem laws_eqQc.sound (k : Nat) : SoundF Tryd.prog 55 (fun a => (laws_eqQc.ans k a).val) := by
  refine sound_plain (fun args res h => ?_) (fun t n => rfl)
  unfold laws_eqQc.ans at h
  dsimp only at h
  split at h
  · cases k with
    | zero => cases h
    | succ k =>
      unfold Ans.val at h
      rw [← laws_eqQc.eq] at h
      exact answer_sound mixed Tryd.func55 _ _ _ (k + 1) (fun j _ => tab_sound (tab_cons (laws_eqByteS.sound j) (tab_cons (laws_eqByteSS.sound j) (tab_nil)))) _ _ h
  · exact (Ans.no_val h).elim

/-! loop.example/g00790/laws.eqHead -/
def laws_eqHead.b {R : Type} (ret : Bool → Option R) (k : Nat) (a0_0 : Int) (a0_1 : Int) (a0_2 : Int) (a0_3z : Bool) (a0_3 : List Int) (a0_4z : Bool) (a0_4 : List Int) (a0_5 : Int) (a0_6 : Int) (a0_7z : Bool) (a0_7 : List Int) (a0_8z : Bool) (a0_8 : List Int) (a0_9z : Bool) (a0_9 : List T) (a1_0 : Int) (a1_1 : Int) (a1_2 : Int) (a1_3z : Bool) (a1_3 : List Int) (a1_4z : Bool) (a1_4 : List Int) (a1_5 : Int) (a1_6 : Int) (a1_7z : Bool) (a1_7 : List Int) (a1_8z : Bool) (a1_8 : List Int) (a1_9z : Bool) (a1_9 : List T) : Option R :=
  cond (!(decide (a0_0 = a1_0))) (ret false) (cond (!(decide (a0_1 = a1_1))) (ret false) (cond (!(decide (a0_2 = a1_2))) (ret false) ((laws_eqByteS.f k a0_3z a0_3 a1_3z a1_3).bind fun t0 => cond (!t0) (ret false) ((laws_eqByteS.f k a0_4z a0_4 a1_4z a1_4).bind fun t1 => cond (!t1) (ret false) ((laws_eqQc.f k a0_5 a0_6 a0_7z a0_7 a0_8z a0_8 a0_9z a0_9 a1_5 a1_6 a1_7z a1_7 a1_8z a1_8 a1_9z a1_9).bind fun t2 => cond (!t2) (ret false) (ret true))))))
def laws_eqHead.f : Nat → Int → Int → Int → Bool → (List Int) → Bool → (List Int) → Int → Int → Bool → (List Int) → Bool → (List Int) → Bool → (List T) → Int → Int → Int → Bool → (List Int) → Bool → (List Int) → Int → Int → Bool → (List Int) → Bool → (List Int) → Bool → (List T) → Option Bool
  | 0, _, _, _, _, _, _, _, _, _, _, _, _, _, _, _, _, _, _, _, _, _, _, _, _, _, _, _, _, _, _ => none
  | k + 1, a0_0, a0_1, a0_2, a0_3z, a0_3, a0_4z, a0_4, a0_5, a0_6, a0_7z, a0_7, a0_8z, a0_8, a0_9z, a0_9, a1_0, a1_1, a1_2, a1_3z, a1_3, a1_4z, a1_4, a1_5, a1_6, a1_7z, a1_7, a1_8z, a1_8, a1_9z, a1_9 => laws_eqHead.b some k a0_0 a0_1 a0_2 a0_3z a0_3 a0_4z a0_4 a0_5 a0_6 a0_7z a0_7 a0_8z a0_8 a0_9z a0_9 a1_0 a1_1 a1_2 a1_3z a1_3 a1_4z a1_4 a1_5 a1_6 a1_7z a1_7 a1_8z a1_8 a1_9z a1_9
def laws_eqHead.enc (r : Bool) : Res := ⟨[.vals false [((.bool r), true)]], []⟩
def laws_eqHead.ans (k : Nat) : List Arg → Ans
  | [.v (.agg [(.int .i64 a0_0), (.int .i64 a0_1), (.int .i64 a0_2), (.nums 5 .u8 a0_3z a0_3), (.nums 5 .u8 a0_4z a0_4), (.int .i64 a0_5), (.int .i64 a0_6), (.nums 5 .u8 a0_7z a0_7), (.nums 5 .u8 a0_8z a0_8), (.sl 28 a0_9z a0_9)]), .v (.agg [(.int .i64 a1_0), (.int .i64 a1_1), (.int .i64 a1_2), (.nums 5 .u8 a1_3z a1_3), (.nums 5 .u8 a1_4z a1_4), (.int .i64 a1_5), (.int .i64 a1_6), (.nums 5 .u8 a1_7z a1_7), (.nums 5 .u8 a1_8z a1_8), (.sl 28 a1_9z a1_9)])] => ⟨laws_eqHead.f k a0_0 a0_1 a0_2 a0_3z a0_3 a0_4z a0_4 a0_5 a0_6 a0_7z a0_7 a0_8z a0_8 a0_9z a0_9 a1_0 a1_1 a1_2 a1_3z a1_3 a1_4z a1_4 a1_5 a1_6 a1_7z a1_7 a1_8z a1_8 a1_9z a1_9, laws_eqHead.enc⟩
  | _ => Ans.no
def laws_eqHead.Cs (k : Nat) : CallSem := tab [(74, laws_eqByteS.ans k), (55, laws_eqQc.ans k)]
def laws_eqHead.cuts : List (Nat × Keep) := []
theorem laws_eqHead.s (k : Nat) (a0_0 : Int) (a0_1 : Int) (a0_2 : Int) (a0_3z : Bool) (a0_3 : List Int) (a0_4z : Bool) (a0_4 : List Int) (a0_5 : Int) (a0_6 : Int) (a0_7z : Bool) (a0_7 : List Int) (a0_8z : Bool) (a0_8 : List Int) (a0_9z : Bool) (a0_9 : List T) (a1_0 : Int) (a1_1 : Int) (a1_2 : Int) (a1_3z : Bool) (a1_3 : List Int) (a1_4z : Bool) (a1_4 : List Int) (a1_5 : Int) (a1_6 : Int) (a1_7z : Bool) (a1_7 : List Int) (a1_8z : Bool) (a1_8 : List Int) (a1_9z : Bool) (a1_9 : List T) : answer Tryd.prog laws_eqHead.Cs 100000 laws_eqHead.cuts [] Tryd.f30 (k + 1) [.v (.agg [(.int .i64 a0_0), (.int .i64 a0_1), (.int .i64 a0_2), (.nums 5 .u8 a0_3z a0_3), (.nums 5 .u8 a0_4z a0_4), (.int .i64 a0_5), (.int .i64 a0_6), (.nums 5 .u8 a0_7z a0_7), (.nums 5 .u8 a0_8z a0_8), (.sl 28 a0_9z a0_9)]), .v (.agg [(.int .i64 a1_0), (.int .i64 a1_1), (.int .i64 a1_2), (.nums 5 .u8 a1_3z a1_3), (.nums 5 .u8 a1_4z a1_4), (.int .i64 a1_5), (.int .i64 a1_6), (.nums 5 .u8 a1_7z a1_7), (.nums 5 .u8 a1_8z a1_8), (.sl 28 a1_9z a1_9)])] = laws_eqHead.b (fun r => some (laws_eqHead.enc r)) k a0_0 a0_1 a0_2 a0_3z a0_3 a0_4z a0_4 a0_5 a0_6 a0_7z a0_7 a0_8z a0_8 a0_9z a0_9 a1_0 a1_1 a1_2 a1_3z a1_3 a1_4z a1_4 a1_5 a1_6 a1_7z a1_7 a1_8z a1_8 a1_9z a1_9 := by kernel_rfl
theorem laws_eqHead.b_nat {R R' : Type} (e : R → R') (ret : Bool → Option R) (k : Nat) (a0_0 : Int) (a0_1 : Int) (a0_2 : Int) (a0_3z : Bool) (a0_3 : List Int) (a0_4z : Bool) (a0_4 : List Int) (a0_5 : Int) (a0_6 : Int) (a0_7z : Bool) (a0_7 : List Int) (a0_8z : Bool) (a0_8 : List Int) (a0_9z : Bool) (a0_9 : List T) (a1_0 : Int) (a1_1 : Int) (a1_2 : Int) (a1_3z : Bool) (a1_3 : List Int) (a1_4z : Bool) (a1_4 : List Int) (a1_5 : Int) (a1_6 : Int) (a1_7z : Bool) (a1_7 : List Int) (a1_8z : Bool) (a1_8 : List Int) (a1_9z : Bool) (a1_9 : List T) : laws_eqHead.b (fun r => (ret r).map e) k a0_0 a0_1 a0_2 a0_3z a0_3 a0_4z a0_4 a0_5 a0_6 a0_7z a0_7 a0_8z a0_8 a0_9z a0_9 a1_0 a1_1 a1_2 a1_3z a1_3 a1_4z a1_4 a1_5 a1_6 a1_7z a1_7 a1_8z a1_8 a1_9z a1_9 = (laws_eqHead.b ret k a0_0 a0_1 a0_2 a0_3z a0_3 a0_4z a0_4 a0_5 a0_6 a0_7z a0_7 a0_8z a0_8 a0_9z a0_9 a1_0 a1_1 a1_2 a1_3z a1_3 a1_4z a1_4 a1_5 a1_6 a1_7z a1_7 a1_8z a1_8 a1_9z a1_9).map e := by
  unfold laws_eqHead.b
  repeat' first | with_reducible refine nat_cond ?_ ?_ | with_reducible refine nat_bind fun _ => ?_ | rfl
theorem laws_eqHead.eq (k : Nat) (a0_0 : Int) (a0_1 : Int) (a0_2 : Int) (a0_3z : Bool) (a0_3 : List Int) (a0_4z : Bool) (a0_4 : List Int) (a0_5 : Int) (a0_6 : Int) (a0_7z : Bool) (a0_7 : List Int) (a0_8z : Bool) (a0_8 : List Int) (a0_9z : Bool) (a0_9 : List T) (a1_0 : Int) (a1_1 : Int) (a1_2 : Int) (a1_3z : Bool) (a1_3 : List Int) (a1_4z : Bool) (a1_4 : List Int) (a1_5 : Int) (a1_6 : Int) (a1_7z : Bool) (a1_7 : List Int) (a1_8z : Bool) (a1_8 : List Int) (a1_9z : Bool) (a1_9 : List T) : answer Tryd.prog laws_eqHead.Cs 100000 laws_eqHead.cuts [] Tryd.f30 (k + 1) [.v (.agg [(.int .i64 a0_0), (.int .i64 a0_1), (.int .i64 a0_2), (.nums 5 .u8 a0_3z a0_3), (.nums 5 .u8 a0_4z a0_4), (.int .i64 a0_5), (.int .i64 a0_6), (.nums 5 .u8 a0_7z a0_7), (.nums 5 .u8 a0_8z a0_8), (.sl 28 a0_9z a0_9)]), .v (.agg [(.int .i64 a1_0), (.int .i64 a1_1), (.int .i64 a1_2), (.nums 5 .u8 a1_3z a1_3), (.nums 5 .u8 a1_4z a1_4), (.int .i64 a1_5), (.int .i64 a1_6), (.nums 5 .u8 a1_7z a1_7), (.nums 5 .u8 a1_8z a1_8), (.sl 28 a1_9z a1_9)])] = (laws_eqHead.f (k + 1) a0_0 a0_1 a0_2 a0_3z a0_3 a0_4z a0_4 a0_5 a0_6 a0_7z a0_7 a0_8z a0_8 a0_9z a0_9 a1_0 a1_1 a1_2 a1_3z a1_3 a1_4z a1_4 a1_5 a1_6 a1_7z a1_7 a1_8z a1_8 a1_9z a1_9).map laws_eqHead.enc := by
  refine (laws_eqHead.s k a0_0 a0_1 a0_2 a0_3z a0_3 a0_4z a0_4 a0_5 a0_6 a0_7z a0_7 a0_8z a0_8 a0_9z a0_9 a1_0 a1_1 a1_2 a1_3z a1_3 a1_4z a1_4 a1_5 a1_6 a1_7z a1_7 a1_8z a1_8 a1_9z a1_9).trans (Eq.trans ?_ (laws_eqHead.b_nat laws_eqHead.enc some k a0_0 a0_1 a0_2 a0_3z a0_3 a0_4z a0_4 a0_5 a0_6 a0_7z a0_7 a0_8z a0_8 a0_9z a0_9 a1_0 a1_1 a1_2 a1_3z a1_3 a1_4z a1_4 a1_5 a1_6 a1_7z a1_7 a1_8z a1_8 a1_9z a1_9))
  simp only [Option.map_some]
theorem laws_eqHead.sound (k : Nat) : SoundF Tryd.prog 30 (fun a => (laws_eqHead.ans k a).val) := by
  refine sound_plain (fun args res h => ?_) (fun t n => rfl)
  unfold laws_eqHead.ans at h
  dsimp only at h
  split at h
  · cases k with
    | zero => cases h
    | succ k =>
      unfold Ans.val at h
      rw [← laws_eqHead.eq] at h
      exact answer_sound mixed Tryd.func30 _ _ _ (k + 1) (fun j _ => tab_sound (tab_cons (laws_eqByteS.sound j) (tab_cons (laws_eqQc.sound j) (tab_nil)))) _ _ h
  · exact (Ans.no_val h).elim

/-! loop.example/g00790/laws.eqHeadS -/
def laws_eqHeadS.b {R : Type} (ret : Bool → Option R) (j0 : Bool → (List T) → Bool → (List T) → Int → Option R) (k : Nat) (a0z : Bool) (a0 : List T) (a1z : Bool) (a1 : List T) : Option R :=
  cond (!(decide (((a0).length : Int) = ((a1).length : Int)))) (ret false) (j0 a0z a0 a1z a1 0)
def laws_eqHeadS.l0b {R : Type} (ret : Bool → Option R) (j0 : Bool → (List T) → Bool → (List T) → Int → Option R) (k : Nat) (x0z : Bool) (x0 : List T) (x1z : Bool) (x1 : List T) (x5 : Int) : Option R :=
  cond (decide (x5 < ((x0).length : Int))) (cond (decide ((0 : Int) ≤ x5)) (cond (decide (x5 < ((x0).length : Int))) (cond (decide ((0 : Int) ≤ x5)) (cond (decide (x5 < ((x1).length : Int))) ((laws_eqHead.f k (((((x0).getD (x5).toNat .bad).cells.getD 0 .bad)).toInt) (((((x0).getD (x5).toNat .bad).cells.getD 1 .bad)).toInt) (((((x0).getD (x5).toNat .bad).cells.getD 2 .bad)).toInt) (((((x0).getD (x5).toNat .bad).cells.getD 3 .bad)).isNil) (((((x0).getD (x5).toNat .bad).cells.getD 3 .bad)).toNums) (((((x0).getD (x5).toNat .bad).cells.getD 4 .bad)).isNil) (((((x0).getD (x5).toNat .bad).cells.getD 4 .bad)).toNums) (((((x0).getD (x5).toNat .bad).cells.getD 5 .bad)).toInt) (((((x0).getD (x5).toNat .bad).cells.getD 6 .bad)).toInt) (((((x0).getD (x5).toNat .bad).cells.getD 7 .bad)).isNil) (((((x0).getD (x5).toNat .bad).cells.getD 7 .bad)).toNums) (((((x0).getD (x5).toNat .bad).cells.getD 8 .bad)).isNil) (((((x0).getD (x5).toNat .bad).cells.getD 8 .bad)).toNums) (((((x0).getD (x5).toNat .bad).cells.getD 9 .bad)).isNil) (((((x0).getD (x5).toNat .bad).cells.getD 9 .bad)).toList) (((((x1).getD (x5).toNat .bad).cells.getD 0 .bad)).toInt) (((((x1).getD (x5).toNat .bad).cells.getD 1 .bad)).toInt) (((((x1).getD (x5).toNat .bad).cells.getD 2 .bad)).toInt) (((((x1).getD (x5).toNat .bad).cells.getD 3 .bad)).isNil) (((((x1).getD (x5).toNat .bad).cells.getD 3 .bad)).toNums) (((((x1).getD (x5).toNat .bad).cells.getD 4 .bad)).isNil) (((((x1).getD (x5).toNat .bad).cells.getD 4 .bad)).toNums) (((((x1).getD (x5).toNat .bad).cells.getD 5 .bad)).toInt) (((((x1).getD (x5).toNat .bad).cells.getD 6 .bad)).toInt) (((((x1).getD (x5).toNat .bad).cells.getD 7 .bad)).isNil) (((((x1).getD (x5).toNat .bad).cells.getD 7 .bad)).toNums) (((((x1).getD (x5).toNat .bad).cells.getD 8 .bad)).isNil) (((((x1).getD (x5).toNat .bad).cells.getD 8 .bad)).toNums) (((((x1).getD (x5).toNat .bad).cells.getD 9 .bad)).isNil) (((((x1).getD (x5).toNat .bad).cells.getD 9 .bad)).toList)).bind fun t0 => cond (!t0) (ret false) (j0 x0z x0 x1z x1 (RowKit.wrap64 (x5 + 1)))) (none)) (none)) (none)) (none)) (ret true)
def laws_eqHeadS.l0 : Nat → Bool → (List T) → Bool → (List T) → Int → Option Bool
  | 0, _, _, _, _, _ => none
  | k + 1, x0z, x0, x1z, x1, x5 => laws_eqHeadS.l0b some (laws_eqHeadS.l0 k) k x0z x0 x1z x1 x5
def laws_eqHeadS.f : Nat → Bool → (List T) → Bool → (List T) → Option Bool
  | 0, _, _, _, _ => none
  | k + 1, a0z, a0, a1z, a1 => laws_eqHeadS.b some (laws_eqHeadS.l0 k) k a0z a0 a1z a1
def laws_eqHeadS.enc (r : Bool) : Res := ⟨[.vals false [((.bool r), true)]], []⟩
def laws_eqHeadS.ans (k : Nat) : List Arg → Ans
  | [.v (.sl 54 a0z a0), .v (.sl 54 a1z a1)] => ⟨laws_eqHeadS.f k a0z a0 a1z a1, laws_eqHeadS.enc⟩
  | _ => Ans.no
def laws_eqHeadS.Cs (k : Nat) : CallSem := tab [(30, laws_eqHead.ans k)]
def laws_eqHeadS.cuts : List (Nat × Keep) := [(58, ⟨[(0, some []), (1, some []), (5, some [])], []⟩)]
noncomputable def laws_eqHeadS.K0 : List Fr := framesAt [true, true, false, true, false] (bodyOf Tryd.f88 laws_eqHeadS.cuts) []
def laws_eqHeadS.N0 (x0z : Bool) (x0 : List T) (x1z : Bool) (x1 : List T) (x5 : Int) : St := stOf 27 27 2 [(0, .val ⟨(.sl 54 x0z x0), [], false, none⟩), (1, .val ⟨(.sl 54 x1z x1), [], false, none⟩), (5, .val (V.s (.int .i64 x5)))] []
theorem laws_eqHeadS.s (k : Nat) (a0z : Bool) (a0 : List T) (a1z : Bool) (a1 : List T) : answer Tryd.prog laws_eqHeadS.Cs 100000 laws_eqHeadS.cuts [] Tryd.f88 (k + 1) [.v (.sl 54 a0z a0), .v (.sl 54 a1z a1)] = laws_eqHeadS.b (fun r => some (laws_eqHeadS.enc r)) (fun x0z x0 x1z x1 x5 => rounds Tryd.prog laws_eqHeadS.Cs (finish Tryd.prog [] Tryd.f88 [.v (.sl 54 a0z a0), .v (.sl 54 a1z a1)]) 100000 k laws_eqHeadS.K0 (laws_eqHeadS.N0 x0z x0 x1z x1 x5)) k a0z a0 a1z a1 := by kernel_rfl
theorem laws_eqHeadS.s0 (k : Nat) (G : List Fr → St → Option Res) (a0z : Bool) (a0 : List T) (a1z : Bool) (a1 : List T) (yx0z : Bool) (yx0 : List T) (yx1z : Bool) (yx1 : List T) (yx5 : Int) : resume Tryd.prog (laws_eqHeadS.Cs k) G (finish Tryd.prog [] Tryd.f88 [.v (.sl 54 a0z a0), .v (.sl 54 a1z a1)]) 100000 laws_eqHeadS.K0 (laws_eqHeadS.N0 yx0z yx0 yx1z yx1 yx5) = laws_eqHeadS.l0b (fun r => some (laws_eqHeadS.enc r)) (fun x0z x0 x1z x1 x5 => G laws_eqHeadS.K0 (laws_eqHeadS.N0 x0z x0 x1z x1 x5)) k yx0z yx0 yx1z yx1 yx5 := by kernel_rfl
theorem laws_eqHeadS.b_nat {R R' : Type} (e : R → R') (ret : Bool → Option R) (j0 : Bool → (List T) → Bool → (List T) → Int → Option R) (k : Nat) (a0z : Bool) (a0 : List T) (a1z : Bool) (a1 : List T) : laws_eqHeadS.b (fun r => (ret r).map e) (fun x0z x0 x1z x1 x5 => (j0 x0z x0 x1z x1 x5).map e) k a0z a0 a1z a1 = (laws_eqHeadS.b ret j0 k a0z a0 a1z a1).map e := by
  unfold laws_eqHeadS.b
  repeat' first | with_reducible refine nat_cond ?_ ?_ | with_reducible refine nat_bind fun _ => ?_ | rfl
theorem laws_eqHeadS.l0b_nat {R R' : Type} (e : R → R') (ret : Bool → Option R) (j0 : Bool → (List T) → Bool → (List T) → Int → Option R) (k : Nat) (x0z : Bool) (x0 : List T) (x1z : Bool) (x1 : List T) (x5 : Int) : laws_eqHeadS.l0b (fun r => (ret r).map e) (fun x0z x0 x1z x1 x5 => (j0 x0z x0 x1z x1 x5).map e) k x0z x0 x1z x1 x5 = (laws_eqHeadS.l0b ret j0 k x0z x0 x1z x1 x5).map e := by
  unfold laws_eqHeadS.l0b
  repeat' first | with_reducible refine nat_cond ?_ ?_ | with_reducible refine nat_bind fun _ => ?_ | rfl
theorem laws_eqHeadS.rounds_eq (a0z : Bool) (a0 : List T) (a1z : Bool) (a1 : List T) : ∀ k, (∀ (x0z : Bool) (x0 : List T) (x1z : Bool) (x1 : List T) (x5 : Int), rounds Tryd.prog laws_eqHeadS.Cs (finish Tryd.prog [] Tryd.f88 [.v (.sl 54 a0z a0), .v (.sl 54 a1z a1)]) 100000 k laws_eqHeadS.K0 (laws_eqHeadS.N0 x0z x0 x1z x1 x5) = (laws_eqHeadS.l0 k x0z x0 x1z x1 x5).map laws_eqHeadS.enc)
  | 0 => fun _ _ _ _ _ => rfl
  | k + 1 => by
    have ih := laws_eqHeadS.rounds_eq a0z a0 a1z a1 k
    refine fun _ _ _ _ _ => ?_
    · refine (laws_eqHeadS.s0 k _ a0z a0 a1z a1 _ _ _ _ _).trans (Eq.trans ?_ (laws_eqHeadS.l0b_nat laws_eqHeadS.enc some (laws_eqHeadS.l0 k) k _ _ _ _ _))
      simp only [ih, Option.map_some]
theorem laws_eqHeadS.eq (k : Nat) (a0z : Bool) (a0 : List T) (a1z : Bool) (a1 : List T) : answer Tryd.prog laws_eqHeadS.Cs 100000 laws_eqHeadS.cuts [] Tryd.f88 (k + 1) [.v (.sl 54 a0z a0), .v (.sl 54 a1z a1)] = (laws_eqHeadS.f (k + 1) a0z a0 a1z a1).map laws_eqHeadS.enc := by
  have ih := laws_eqHeadS.rounds_eq a0z a0 a1z a1 k
  refine (laws_eqHeadS.s k a0z a0 a1z a1).trans (Eq.trans ?_ (laws_eqHeadS.b_nat laws_eqHeadS.enc some (laws_eqHeadS.l0 k) k a0z a0 a1z a1))
  simp only [ih, Option.map_some]
theorem laws_eqHeadS.sound (k : Nat) : SoundF Tryd.prog 88 (fun a => (laws_eqHeadS.ans k a).val) := by
  refine sound_plain (fun args res h => ?_) (fun t n => rfl)
  unfold laws_eqHeadS.ans at h
  dsimp only at h
  split at h
  · cases k with
    | zero => cases h
    | succ k =>
      unfold Ans.val at h
      rw [← laws_eqHeadS.eq] at h
      exact answer_sound mixed Tryd.func88 _ _ _ (k + 1) (fun j _ => tab_sound (tab_cons (laws_eqHead.sound j) (tab_nil))) _ _ h
  · exact (Ans.no_val h).elim

/-! loop.example/g00790/laws.eqProof -/
def laws_eqProof.b {R : Type} (ret : Bool → Option R) (k : Nat) (a0_0z : Bool) (a0_0 : List T) (a0_1 : Int) (a0_2 : Int) (a0_3z : Bool) (a0_3 : List Int) (a0_4z : Bool) (a0_4 : List Int) (a0_5z : Bool) (a0_5 : List T) (a1_0z : Bool) (a1_0 : List T) (a1_1 : Int) (a1_2 : Int) (a1_3z : Bool) (a1_3 : List Int) (a1_4z : Bool) (a1_4 : List Int) (a1_5z : Bool) (a1_5 : List T) : Option R :=
  (laws_eqHeadS.f k a0_0z a0_0 a1_0z a1_0).bind fun t0 => cond (!t0) (ret false) ((laws_eqQc.f k a0_1 a0_2 a0_3z a0_3 a0_4z a0_4 a0_5z a0_5 a1_1 a1_2 a1_3z a1_3 a1_4z a1_4 a1_5z a1_5).bind fun t1 => cond (!t1) (ret false) (ret true))
def laws_eqProof.f : Nat → Bool → (List T) → Int → Int → Bool → (List Int) → Bool → (List Int) → Bool → (List T) → Bool → (List T) → Int → Int → Bool → (List Int) → Bool → (List Int) → Bool → (List T) → Option Bool
  | 0, _, _, _, _, _, _, _, _, _, _, _, _, _, _, _, _, _, _, _, _ => none
  | k + 1, a0_0z, a0_0, a0_1, a0_2, a0_3z, a0_3, a0_4z, a0_4, a0_5z, a0_5, a1_0z, a1_0, a1_1, a1_2, a1_3z, a1_3, a1_4z, a1_4, a1_5z, a1_5 => laws_eqProof.b some k a0_0z a0_0 a0_1 a0_2 a0_3z a0_3 a0_4z a0_4 a0_5z a0_5 a1_0z a1_0 a1_1 a1_2 a1_3z a1_3 a1_4z a1_4 a1_5z a1_5
def laws_eqProof.enc (r : Bool) : Res := ⟨[.vals false [((.bool r), true)]], []⟩
def laws_eqProof.ans (k : Nat) : List Arg → Ans
  | [.v (.agg [(.sl 54 a0_0z a0_0), (.int .i64 a0_1), (.int .i64 a0_2), (.nums 5 .u8 a0_3z a0_3), (.nums 5 .u8 a0_4z a0_4), (.sl 28 a0_5z a0_5)]), .v (.agg [(.sl 54 a1_0z a1_0), (.int .i64 a1_1), (.int .i64 a1_2), (.nums 5 .u8 a1_3z a1_3), (.nums 5 .u8 a1_4z a1_4), (.sl 28 a1_5z a1_5)])] => ⟨laws_eqProof.f k a0_0z a0_0 a0_1 a0_2 a0_3z a0_3 a0_4z a0_4 a0_5z a0_5 a1_0z a1_0 a1_1 a1_2 a1_3z a1_3 a1_4z a1_4 a1_5z a1_5, laws_eqProof.enc⟩
  | _ => Ans.no
def laws_eqProof.Cs (k : Nat) : CallSem := tab [(88, laws_eqHeadS.ans k), (55, laws_eqQc.ans k)]
def laws_eqProof.cuts : List (Nat × Keep) := []
theorem laws_eqProof.s (k : Nat) (a0_0z : Bool) (a0_0 : List T) (a0_1 : Int) (a0_2 : Int) (a0_3z : Bool) (a0_3 : List Int) (a0_4z : Bool) (a0_4 : List Int) (a0_5z : Bool) (a0_5 : List T) (a1_0z : Bool) (a1_0 : List T) (a1_1 : Int) (a1_2 : Int) (a1_3z : Bool) (a1_3 : List Int) (a1_4z : Bool) (a1_4 : List Int) (a1_5z : Bool) (a1_5 : List T) : answer Tryd.prog laws_eqProof.Cs 100000 laws_eqProof.cuts [] Tryd.f45 (k + 1) [.v (.agg [(.sl 54 a0_0z a0_0), (.int .i64 a0_1), (.int .i64 a0_2), (.nums 5 .u8 a0_3z a0_3), (.nums 5 .u8 a0_4z a0_4), (.sl 28 a0_5z a0_5)]), .v (.agg [(.sl 54 a1_0z a1_0), (.int .i64 a1_1), (.int .i64 a1_2), (.nums 5 .u8 a1_3z a1_3), (.nums 5 .u8 a1_4z a1_4), (.sl 28 a1_5z a1_5)])] = laws_eqProof.b (fun r => some (laws_eqProof.enc r)) k a0_0z a0_0 a0_1 a0_2 a0_3z a0_3 a0_4z a0_4 a0_5z a0_5 a1_0z a1_0 a1_1 a1_2 a1_3z a1_3 a1_4z a1_4 a1_5z a1_5 := by kernel_rfl
theorem laws_eqProof.b_nat {R R' : Type} (e : R → R') (ret : Bool → Option R) (k : Nat) (a0_0z : Bool) (a0_0 : List T) (a0_1 : Int) (a0_2 : Int) (a0_3z : Bool) (a0_3 : List Int) (a0_4z : Bool) (a0_4 : List Int) (a0_5z : Bool) (a0_5 : List T) (a1_0z : Bool) (a1_0 : List T) (a1_1 : Int) (a1_2 : Int) (a1_3z : Bool) (a1_3 : List Int) (a1_4z : Bool) (a1_4 : List Int) (a1_5z : Bool) (a1_5 : List T) : laws_eqProof.b (fun r => (ret r).map e) k a0_0z a0_0 a0_1 a0_2 a0_3z a0_3 a0_4z a0_4 a0_5z a0_5 a1_0z a1_0 a1_1 a1_2 a1_3z a1_3 a1_4z a1_4 a1_5z a1_5 = (laws_eqProof.b ret k a0_0z a0_0 a0_1 a0_2 a0_3z a0_3 a0_4z a0_4 a0_5z a0_5 a1_0z a1_0 a1_1 a1_2 a1_3z a1_3 a1_4z a1_4 a1_5z a1_5).map e := by
  unfold laws_eqProof.b
  repeat' first | with_reducible refine nat_cond ?_ ?_ | with_reducible refine nat_bind fun _ => ?_ | rfl
theorem laws_eqProof.eq (k : Nat) (a0_0z : Bool) (a0_0 : List T) (a0_1 : Int) (a0_2 : Int) (a0_3z : Bool) (a0_3 : List Int) (a0_4z : Bool) (a0_4 : List Int) (a0_5z : Bool) (a0_5 : List T) (a1_0z : Bool) (a1_0 : List T) (a1_1 : Int) (a1_2 : Int) (a1_3z : Bool) (a1_3 : List Int) (a1_4z : Bool) (a1_4 : List Int) (a1_5z : Bool) (a1_5 : List T) : answer Tryd.prog laws_eqProof.Cs 100000 laws_eqProof.cuts [] Tryd.f45 (k + 1) [.v (.agg [(.sl 54 a0_0z a0_0), (.int .i64 a0_1), (.int .i64 a0_2), (.nums 5 .u8 a0_3z a0_3), (.nums 5 .u8 a0_4z a0_4), (.sl 28 a0_5z a0_5)]), .v (.agg [(.sl 54 a1_0z a1_0), (.int .i64 a1_1), (.int .i64 a1_2), (.nums 5 .u8 a1_3z a1_3), (.nums 5 .u8 a1_4z a1_4), (.sl 28 a1_5z a1_5)])] = (laws_eqProof.f (k + 1) a0_0z a0_0 a0_1 a0_2 a0_3z a0_3 a0_4z a0_4 a0_5z a0_5 a1_0z a1_0 a1_1 a1_2 a1_3z a1_3 a1_4z a1_4 a1_5z a1_5).map laws_eqProof.enc := by
  refine (laws_eqProof.s k a0_0z a0_0 a0_1 a0_2 a0_3z a0_3 a0_4z a0_4 a0_5z a0_5 a1_0z a1_0 a1_1 a1_2 a1_3z a1_3 a1_4z a1_4 a1_5z a1_5).trans (Eq.trans ?_ (laws_eqProof.b_nat laws_eqProof.enc some k a0_0z a0_0 a0_1 a0_2 a0_3z a0_3 a0_4z a0_4 a0_5z a0_5 a1_0z a1_0 a1_1 a1_2 a1_3z a1_3 a1_4z a1_4 a1_5z a1_5))
  simp only [Option.map_some]
theorem laws_eqProof.sound (k : Nat) : SoundF Tryd.prog 45 (fun a => (laws_eqProof.ans k a).val) := by
  refine sound_plain (fun args res h => ?_) (fun t n => rfl)
  unfold laws_eqProof.ans at h
  dsimp only at h
  split at h
  · cases k with
    | zero => cases h
    | succ k =>
      unfold Ans.val at h
      rw [← laws_eqProof.eq] at h
      exact answer_sound mixed Tryd.func45 _ _ _ (k + 1) (fun j _ => tab_sound (tab_cons (laws_eqHeadS.sound j) (tab_cons (laws_eqQc.sound j) (tab_nil)))) _ _ h
  · exact (Ans.no_val h).elim

/-! loop.example/g00790/laws.FnExactProofText -/
def laws_FnExactProofText.b {R : Type} (ret : Bool → Option R) (k : Nat) (a0_0z : Bool) (a0_0 : List T) (a0_1 : Int) (a0_2 : Int) (a0_3z : Bool) (a0_3 : List Int) (a0_4z : Bool) (a0_4 : List Int) (a0_5z : Bool) (a0_5 : List T) : Option R :=
  (laws_szProof.f k a0_0z a0_0 a0_1 a0_2 a0_3z a0_3 a0_4z a0_4 a0_5z a0_5 1048576).bind fun t0 => cond (decide (t0 < 0)) (ret true) ((laws_toProof.f k a0_0z a0_0 a0_1 a0_2 a0_3z a0_3 a0_4z a0_4 a0_5z a0_5).bind fun t1 => (spec_ProofText.f k t1.1 t1.2.1 t1.2.2.1 t1.2.2.2.1 t1.2.2.2.2.1 t1.2.2.2.2.2.1 t1.2.2.2.2.2.2.1 t1.2.2.2.2.2.2.2.1 t1.2.2.2.2.2.2.2.2.1 t1.2.2.2.2.2.2.2.2.2).bind fun t2 => (laws_toProof.f k a0_0z a0_0 a0_1 a0_2 a0_3z a0_3 a0_4z a0_4 a0_5z a0_5).bind fun t3 => (impl_ProofText.f k t3.1 t3.2.1 t3.2.2.1 t3.2.2.2.1 t3.2.2.2.2.1 t3.2.2.2.2.2.1 t3.2.2.2.2.2.2.1 t3.2.2.2.2.2.2.2.1 t3.2.2.2.2.2.2.2.2.1 t3.2.2.2.2.2.2.2.2.2).bind fun t4 => cond (!decide (t4 = t2)) (ret false) ((laws_toProof.f k a0_0z a0_0 a0_1 a0_2 a0_3z a0_3 a0_4z a0_4 a0_5z a0_5).bind fun t5 => (laws_eqProof.f k t3.1 t3.2.1 t3.2.2.1 t3.2.2.2.1 t3.2.2.2.2.1 t3.2.2.2.2.2.1 t3.2.2.2.2.2.2.1 t3.2.2.2.2.2.2.2.1 t3.2.2.2.2.2.2.2.2.1 t3.2.2.2.2.2.2.2.2.2 t5.1 t5.2.1 t5.2.2.1 t5.2.2.2.1 t5.2.2.2.2.1 t5.2.2.2.2.2.1 t5.2.2.2.2.2.2.1 t5.2.2.2.2.2.2.2.1 t5.2.2.2.2.2.2.2.2.1 t5.2.2.2.2.2.2.2.2.2).bind fun t6 => cond (!t6) (ret false) (ret true)))
def laws_FnExactProofText.f : Nat → Bool → (List T) → Int → Int → Bool → (List Int) → Bool → (List Int) → Bool → (List T) → Option Bool
  | 0, _, _, _, _, _, _, _, _, _, _ => none
  | k + 1, a0_0z, a0_0, a0_1, a0_2, a0_3z, a0_3, a0_4z, a0_4, a0_5z, a0_5 => laws_FnExactProofText.b some k a0_0z a0_0 a0_1 a0_2 a0_3z a0_3 a0_4z a0_4 a0_5z a0_5
def laws_FnExactProofText.enc (r : Bool) : Res := ⟨[.vals false [((.bool r), true)]], []⟩
def laws_FnExactProofText.ans (k : Nat) : List Arg → Ans
  | [.v (.agg [(.sl 49 a0_0z a0_0), (.int .i64 a0_1), (.int .i64 a0_2), (.nums 5 .u8 a0_3z a0_3), (.nums 5 .u8 a0_4z a0_4), (.sl 28 a0_5z a0_5)])] => ⟨laws_FnExactProofText.f k a0_0z a0_0 a0_1 a0_2 a0_3z a0_3 a0_4z a0_4 a0_5z a0_5, laws_FnExactProofText.enc⟩
  | _ => Ans.no
def laws_FnExactProofText.Cs (k : Nat) : CallSem := tab [(41, laws_szProof.ans k), (43, laws_toProof.ans k), (42, spec_ProofText.ans k), (44, impl_ProofText.ans k), (45, laws_eqProof.ans k)]
def laws_FnExactProofText.cuts : List (Nat × Keep) := []
theorem laws_FnExactProofText.s (k : Nat) (a0_0z : Bool) (a0_0 : List T) (a0_1 : Int) (a0_2 : Int) (a0_3z : Bool) (a0_3 : List Int) (a0_4z : Bool) (a0_4 : List Int) (a0_5z : Bool) (a0_5 : List T) : answer Tryd.prog laws_FnExactProofText.Cs 100000 laws_FnExactProofText.cuts [] Tryd.f9 (k + 1) [.v (.agg [(.sl 49 a0_0z a0_0), (.int .i64 a0_1), (.int .i64 a0_2), (.nums 5 .u8 a0_3z a0_3), (.nums 5 .u8 a0_4z a0_4), (.sl 28 a0_5z a0_5)])] = laws_FnExactProofText.b (fun r => some (laws_FnExactProofText.enc r)) k a0_0z a0_0 a0_1 a0_2 a0_3z a0_3 a0_4z a0_4 a0_5z a0_5 := by kernel_rfl
theorem laws_FnExactProofText.b_nat {R R' : Type} (e : R → R') (ret : Bool → Option R) (k : Nat) (a0_0z : Bool) (a0_0 : List T) (a0_1 : Int) (a0_2 : Int) (a0_3z : Bool) (a0_3 : List Int) (a0_4z : Bool) (a0_4 : List Int) (a0_5z : Bool) (a0_5 : List T) : laws_FnExactProofText.b (fun r => (ret r).map e) k a0_0z a0_0 a0_1 a0_2 a0_3z a0_3 a0_4z a0_4 a0_5z a0_5 = (laws_FnExactProofText.b ret k a0_0z a0_0 a0_1 a0_2 a0_3z a0_3 a0_4z a0_4 a0_5z a0_5).map e := by
  unfold laws_FnExactProofText.b
  repeat' first | with_reducible refine nat_cond ?_ ?_ | with_reducible refine nat_bind fun _ => ?_ | rfl
theorem laws_FnExactProofText.eq (k : Nat) (a0_0z : Bool) (a0_0 : List T) (a0_1 : Int) (a0_2 : Int) (a0_3z : Bool) (a0_3 : List Int) (a0_4z : Bool) (a0_4 : List Int) (a0_5z : Bool) (a0_5 : List T) : answer Tryd.prog laws_FnExactProofText.Cs 100000 laws_FnExactProofText.cuts [] Tryd.f9 (k + 1) [.v (.agg [(.sl 49 a0_0z a0_0), (.int .i64 a0_1), (.int .i64 a0_2), (.nums 5 .u8 a0_3z a0_3), (.nums 5 .u8 a0_4z a0_4), (.sl 28 a0_5z a0_5)])] = (laws_FnExactProofText.f (k + 1) a0_0z a0_0 a0_1 a0_2 a0_3z a0_3 a0_4z a0_4 a0_5z a0_5).map laws_FnExactProofText.enc := by
  refine (laws_FnExactProofText.s k a0_0z a0_0 a0_1 a0_2 a0_3z a0_3 a0_4z a0_4 a0_5z a0_5).trans (Eq.trans ?_ (laws_FnExactProofText.b_nat laws_FnExactProofText.enc some k a0_0z a0_0 a0_1 a0_2 a0_3z a0_3 a0_4z a0_4 a0_5z a0_5))
  simp only [Option.map_some]
theorem laws_FnExactProofText.sound (k : Nat) : SoundF Tryd.prog 9 (fun a => (laws_FnExactProofText.ans k a).val) := by
  refine sound_plain (fun args res h => ?_) (fun t n => rfl)
  unfold laws_FnExactProofText.ans at h
  dsimp only at h
  split at h
  · cases k with
    | zero => cases h
    | succ k =>
      unfold Ans.val at h
      rw [← laws_FnExactProofText.eq] at h
      exact answer_sound mixed Tryd.func9 _ _ _ (k + 1) (fun j _ => tab_sound (tab_cons (laws_szProof.sound j) (tab_cons (laws_toProof.sound j) (tab_cons (spec_ProofText.sound j) (tab_cons (impl_ProofText.sound j) (tab_cons (laws_eqProof.sound j) (tab_nil))))))) _ _ h
  · exact (Ans.no_val h).elim
end Go.Proofs.YtjffolalgcmhaaaDoorG
