/- What the functions compute, printed by a program of this repo; each is shown to be what the machine of values answers. No condition. -/
import Derived.Test.YtbpcnodmgphinaaProg
import Derived.KernelRfl
import Derived.Test.YtbpcnodmgphinaaGFnExactTwicee
namespace Go.Proofs.YtbpcnodmgphinaaG
open Go Go.Proofs.YtbpcnodmgphinaaRv Go.Proofs
set_option linter.unusedVariables false
set_option linter.unusedSimpArgs false
/-! loop.example/g00790/laws.heldByteS -/
def laws_heldByteS.b {R : Type} (ret : Int → Option R) (j0 : Bool → (List Int) → Int → Int → Option R) (k : Nat) (a0z : Bool) (a0 : List Int) (a1 : Int) : Option R :=
  j0 a0z a0 a1 0
def laws_heldByteS.l0b {R : Type} (ret : Int → Option R) (j0 : Bool → (List Int) → Int → Int → Option R) (k : Nat) (x0z : Bool) (x0 : List Int) (x1 : Int) (x5 : Int) : Option R :=
  cond (decide (x5 < ((x0).length : Int))) (cond (decide ((0 : Int) ≤ x5)) (cond (decide (x5 < ((x0).length : Int))) (cond (!(decide ((rdI x0 x5) = ((x1) % 256)))) (ret (-1)) (j0 x0z x0 (RowKit.wrap64 (x1 + 1)) (RowKit.wrap64 (x5 + 1)))) (none)) (none)) (ret x1)
def laws_heldByteS.l0 : Nat → Bool → (List Int) → Int → Int → Option Int
  | 0, _, _, _, _ => none
  | k + 1, x0z, x0, x1, x5 => laws_heldByteS.l0b some (laws_heldByteS.l0 k) k x0z x0 x1 x5
def laws_heldByteS.f : Nat → Bool → (List Int) → Int → Option Int
  | 0, _, _, _ => none
  | k + 1, a0z, a0, a1 => laws_heldByteS.b some (laws_heldByteS.l0 k) k a0z a0 a1
def laws_heldByteS.enc (r : Int) : Res := ⟨[.vals false [((.int .i64 r), true)]], []⟩
def laws_heldByteS.ans (k : Nat) : List Arg → Ans
  | [.v (.nums 5 .u8 a0z a0), .v (.int .i64 a1)] => ⟨laws_heldByteS.f k a0z a0 a1, laws_heldByteS.enc⟩
  | _ => Ans.no
def laws_heldByteS.Cs (k : Nat) : CallSem := tab []
def laws_heldByteS.cuts : List (Nat × Keep) := [(26, ⟨[(0, some []), (1, some []), (5, some [])], []⟩)]
noncomputable def laws_heldByteS.K0 : List Fr := framesAt [true, false, true, false] (bodyOf Try.f73 laws_heldByteS.cuts) []
def laws_heldByteS.N0 (x0z : Bool) (x0 : List Int) (x1 : Int) (x5 : Int) : St := stOf 22 22 2 [(0, .val ⟨(.nums 5 .u8 x0z x0), [], false, none⟩), (1, .val (V.s (.int .i64 x1))), (5, .val (V.s (.int .i64 x5)))] []
theorem laws_heldByteS.s (k : Nat) (a0z : Bool) (a0 : List Int) (a1 : Int) : answer Try.prog laws_heldByteS.Cs 100000 laws_heldByteS.cuts [] Try.f73 (k + 1) [.v (.nums 5 .u8 a0z a0), .v (.int .i64 a1)] = laws_heldByteS.b (fun r => some (laws_heldByteS.enc r)) (fun x0z x0 x1 x5 => rounds Try.prog laws_heldByteS.Cs (finish Try.prog [] Try.f73 [.v (.nums 5 .u8 a0z a0), .v (.int .i64 a1)]) 100000 k laws_heldByteS.K0 (laws_heldByteS.N0 x0z x0 x1 x5)) k a0z a0 a1 := by kernel_rfl
theorem laws_heldByteS.s0 (k : Nat) (G : List Fr → St → Option Res) (a0z : Bool) (a0 : List Int) (a1 : Int) (yx0z : Bool) (yx0 : List Int) (yx1 : Int) (yx5 : Int) : resume Try.prog (laws_heldByteS.Cs k) G (finish Try.prog [] Try.f73 [.v (.nums 5 .u8 a0z a0), .v (.int .i64 a1)]) 100000 laws_heldByteS.K0 (laws_heldByteS.N0 yx0z yx0 yx1 yx5) = laws_heldByteS.l0b (fun r => some (laws_heldByteS.enc r)) (fun x0z x0 x1 x5 => G laws_heldByteS.K0 (laws_heldByteS.N0 x0z x0 x1 x5)) k yx0z yx0 yx1 yx5 := by kernel_rfl
theorem laws_heldByteS.b_nat {R R' : Type} (e : R → R') (ret : Int → Option R) (j0 : Bool → (List Int) → Int → Int → Option R) (k : Nat) (a0z : Bool) (a0 : List Int) (a1 : Int) : laws_heldByteS.b (fun r => (ret r).map e) (fun x0z x0 x1 x5 => (j0 x0z x0 x1 x5).map e) k a0z a0 a1 = (laws_heldByteS.b ret j0 k a0z a0 a1).map e := by
  unfold laws_heldByteS.b
  repeat' first | with_reducible refine nat_cond ?_ ?_ | with_reducible refine nat_bind fun _ => ?_ | rfl
theorem laws_heldByteS.l0b_nat {R R' : Type} (e : R → R') (ret : Int → Option R) (j0 : Bool → (List Int) → Int → Int → Option R) (k : Nat) (x0z : Bool) (x0 : List Int) (x1 : Int) (x5 : Int) : laws_heldByteS.l0b (fun r => (ret r).map e) (fun x0z x0 x1 x5 => (j0 x0z x0 x1 x5).map e) k x0z x0 x1 x5 = (laws_heldByteS.l0b ret j0 k x0z x0 x1 x5).map e := by
  unfold laws_heldByteS.l0b
  repeat' first | with_reducible refine nat_cond ?_ ?_ | with_reducible refine nat_bind fun _ => ?_ | rfl
theorem laws_heldByteS.rounds_eq (a0z : Bool) (a0 : List Int) (a1 : Int) : ∀ k, (∀ (x0z : Bool) (x0 : List Int) (x1 : Int) (x5 : Int), rounds Try.prog laws_heldByteS.Cs (finish Try.prog [] Try.f73 [.v (.nums 5 .u8 a0z a0), .v (.int .i64 a1)]) 100000 k laws_heldByteS.K0 (laws_heldByteS.N0 x0z x0 x1 x5) = (laws_heldByteS.l0 k x0z x0 x1 x5).map laws_heldByteS.enc)
  | 0 => fun _ _ _ _ => rfl
  | k + 1 => by
    have ih := laws_heldByteS.rounds_eq a0z a0 a1 k
    refine fun _ _ _ _ => ?_
    · refine (laws_heldByteS.s0 k _ a0z a0 a1 _ _ _ _).trans (Eq.trans ?_ (laws_heldByteS.l0b_nat laws_heldByteS.enc some (laws_heldByteS.l0 k) k _ _ _ _))
      simp only [ih, Option.map_some]
theorem laws_heldByteS.eq (k : Nat) (a0z : Bool) (a0 : List Int) (a1 : Int) : answer Try.prog laws_heldByteS.Cs 100000 laws_heldByteS.cuts [] Try.f73 (k + 1) [.v (.nums 5 .u8 a0z a0), .v (.int .i64 a1)] = (laws_heldByteS.f (k + 1) a0z a0 a1).map laws_heldByteS.enc := by
  have ih := laws_heldByteS.rounds_eq a0z a0 a1 k
  refine (laws_heldByteS.s k a0z a0 a1).trans (Eq.trans ?_ (laws_heldByteS.b_nat laws_heldByteS.enc some (laws_heldByteS.l0 k) k a0z a0 a1))
  simp only [ih, Option.map_some]
theorem laws_heldByteS.sound (k : Nat) : SoundF Try.prog 73 (fun a => (laws_heldByteS.ans k a).val) := by
  refine sound_plain (fun args res h => ?_) (fun t n => rfl)
  unfold laws_heldByteS.ans at h
  dsimp only at h
  split at h
  · cases k with
    | zero => cases h
    | succ k =>
      unfold Ans.val at h
      rw [← laws_heldByteS.eq] at h
      exact answer_sound mixed Try.func73 _ _ _ (k + 1) (fun j _ => tab_sound (tab_nil)) _ _ h
  · exact (Ans.no_val h).elim

/-! loop.example/g00790/laws.FnExactTwice -/
def laws_FnExactTwice.b {R : Type} (ret : Bool → Option R) (k : Nat) (a0_0z : Bool) (a0_0 : List T) (a1z : Bool) (a1 : List T) : Option R :=
  (laws_szTable.f k a0_0z a0_0 1048576).bind fun t0 => cond (decide (t0 < 0)) (ret true) ((laws_szVoteS.f k a1z a1 t0).bind fun t1 => cond (decide (t1 < 0)) (ret true) ((laws_toTable.f k a0_0z a0_0).bind fun t2 => (laws_toVoteS.f k a1z a1).bind fun t3 => (spec_Twice.f k t2.1 t2.2 t3.1 t3.2).bind fun t4 => (laws_toTable.f k a0_0z a0_0).bind fun t5 => (laws_toVoteS.f k a1z a1).bind fun t6 => (impl_Twice.f k t5.1 t5.2 t6.1 t6.2).bind fun t7 => (laws_eqByteS.f k t7.1 t7.2 t4.1 t4.2).bind fun t8 => cond (!t8) (ret false) ((laws_toTable.f k a0_0z a0_0).bind fun t9 => (laws_eqTable.f k t5.1 t5.2 t9.1 t9.2).bind fun t10 => cond (!t10) (ret false) ((laws_toVoteS.f k a1z a1).bind fun t11 => (laws_eqVoteS.f k t6.1 t6.2 t11.1 t11.2).bind fun t12 => cond (!t12) (ret false) ((laws_markTable.f k t5.1 t5.2 1).bind fun t13 => (laws_markVoteS.f k t6.1 t6.2 t13.1).bind fun t14 => cond (decide (t14.1 < 0)) (ret false) ((laws_eqByteS.f k t7.1 t7.2 t4.1 t4.2).bind fun t15 => cond (!t15) (ret false) ((laws_markByteS.f k t7.1 t7.2 1).bind fun t16 => (laws_heldByteS.f k t16.2.1 t16.2.2 1).bind fun t17 => cond (decide (t17 < 0)) (ret false) (cond (!(decide (t17 = t16.1))) (ret false) ((laws_toTable.f k a0_0z a0_0).bind fun t18 => (laws_toVoteS.f k a1z a1).bind fun t19 => (impl_Twice.f k t18.1 t18.2 t19.1 t19.2).bind fun t20 => (laws_eqByteS.f k t20.1 t20.2 t4.1 t4.2).bind fun t21 => cond (!t21) (ret false) ((laws_heldByteS.f k t16.2.1 t16.2.2 1).bind fun t22 => cond (decide (t22 < 0)) (ret false) (cond (!(decide (t22 = t16.1))) (ret false) (ret true))))))))))))
def laws_FnExactTwice.f : Nat → Bool → (List T) → Bool → (List T) → Option Bool
  | 0, _, _, _, _ => none
  | k + 1, a0_0z, a0_0, a1z, a1 => laws_FnExactTwice.b some k a0_0z a0_0 a1z a1
def laws_FnExactTwice.enc (r : Bool) : Res := ⟨[.vals false [((.bool r), true)]], []⟩
def laws_FnExactTwice.ans (k : Nat) : List Arg → Ans
  | [.v (.agg [(.sl 204 a0_0z a0_0)]), .v (.sl 171 a1z a1)] => ⟨laws_FnExactTwice.f k a0_0z a0_0 a1z a1, laws_FnExactTwice.enc⟩
  | _ => Ans.no
def laws_FnExactTwice.Cs (k : Nat) : CallSem := tab [(62, laws_szTable.ans k), (63, laws_szVoteS.ans k), (65, laws_toTable.ans k), (66, laws_toVoteS.ans k), (64, spec_Twice.ans k), (47, impl_Twice.ans k), (67, laws_eqByteS.ans k), (68, laws_eqTable.ans k), (69, laws_eqVoteS.ans k), (70, laws_markTable.ans k), (72, laws_markByteS.ans k), (71, laws_markVoteS.ans k), (73, laws_heldByteS.ans k)]
def laws_FnExactTwice.cuts : List (Nat × Keep) := []
theorem laws_FnExactTwice.s (k : Nat) (a0_0z : Bool) (a0_0 : List T) (a1z : Bool) (a1 : List T) : answer Try.prog laws_FnExactTwice.Cs 100000 laws_FnExactTwice.cuts [] Try.f11 (k + 1) [.v (.agg [(.sl 204 a0_0z a0_0)]), .v (.sl 171 a1z a1)] = laws_FnExactTwice.b (fun r => some (laws_FnExactTwice.enc r)) k a0_0z a0_0 a1z a1 := by kernel_rfl
theorem laws_FnExactTwice.b_nat {R R' : Type} (e : R → R') (ret : Bool → Option R) (k : Nat) (a0_0z : Bool) (a0_0 : List T) (a1z : Bool) (a1 : List T) : laws_FnExactTwice.b (fun r => (ret r).map e) k a0_0z a0_0 a1z a1 = (laws_FnExactTwice.b ret k a0_0z a0_0 a1z a1).map e := by
  unfold laws_FnExactTwice.b
  repeat' first | with_reducible refine nat_cond ?_ ?_ | with_reducible refine nat_bind fun _ => ?_ | rfl
theorem laws_FnExactTwice.eq (k : Nat) (a0_0z : Bool) (a0_0 : List T) (a1z : Bool) (a1 : List T) : answer Try.prog laws_FnExactTwice.Cs 100000 laws_FnExactTwice.cuts [] Try.f11 (k + 1) [.v (.agg [(.sl 204 a0_0z a0_0)]), .v (.sl 171 a1z a1)] = (laws_FnExactTwice.f (k + 1) a0_0z a0_0 a1z a1).map laws_FnExactTwice.enc := by
  refine (laws_FnExactTwice.s k a0_0z a0_0 a1z a1).trans (Eq.trans ?_ (laws_FnExactTwice.b_nat laws_FnExactTwice.enc some k a0_0z a0_0 a1z a1))
  simp only [Option.map_some]
theorem laws_FnExactTwice.sound (k : Nat) : SoundF Try.prog 11 (fun a => (laws_FnExactTwice.ans k a).val) := by
  refine sound_plain (fun args res h => ?_) (fun t n => rfl)
  unfold laws_FnExactTwice.ans at h
  dsimp only at h
  split at h
  · cases k with
    | zero => cases h
    | succ k =>
      unfold Ans.val at h
      rw [← laws_FnExactTwice.eq] at h
      exact answer_sound mixed Try.func11 _ _ _ (k + 1) (fun j _ => tab_sound (tab_cons (laws_szTable.sound j) (tab_cons (laws_szVoteS.sound j) (tab_cons (laws_toTable.sound j) (tab_cons (laws_toVoteS.sound j) (tab_cons (spec_Twice.sound j) (tab_cons (impl_Twice.sound j) (tab_cons (laws_eqByteS.sound j) (tab_cons (laws_eqTable.sound j) (tab_cons (laws_eqVoteS.sound j) (tab_cons (laws_markTable.sound j) (tab_cons (laws_markByteS.sound j) (tab_cons (laws_markVoteS.sound j) (tab_cons (laws_heldByteS.sound j) (tab_nil))))))))))))))) _ _ h
  · exact (Ans.no_val h).elim
end Go.Proofs.YtbpcnodmgphinaaG
