/- What the functions compute, printed by a program of this repo; each is shown to be what the machine of values answers. No condition. -/
import Derived.Test.YthocpcfjfgnkgaaProg
import Derived.KernelRfl
import Derived.Test.YthocpcfjfgnkgaaGFnExactViewsa
namespace Go.Proofs.YthocpcfjfgnkgaaG
open Go Go.Proofs.YthocpcfjfgnkgaaRv Go.Proofs
set_option linter.unusedVariables false
set_option linter.unusedSimpArgs false
/-! loop.example/g00790/laws.heldIntS -/
def laws_heldIntS.b {R : Type} (ret : Int → Option R) (j0 : Bool → (List Int) → Int → Int → Option R) (k : Nat) (a0z : Bool) (a0 : List Int) (a1 : Int) : Option R :=
  j0 a0z a0 a1 0
def laws_heldIntS.l0b {R : Type} (ret : Int → Option R) (j0 : Bool → (List Int) → Int → Int → Option R) (k : Nat) (x0z : Bool) (x0 : List Int) (x1 : Int) (x5 : Int) : Option R :=
  cond (decide (x5 < ((x0).length : Int))) (cond (decide ((0 : Int) ≤ x5)) (cond (decide (x5 < ((x0).length : Int))) (cond (!(decide ((rdI x0 x5) = x1))) (ret (-1)) (j0 x0z x0 (RowKit.wrap64 (x1 + 1)) (RowKit.wrap64 (x5 + 1)))) (none)) (none)) (ret x1)
def laws_heldIntS.l0 : Nat → Bool → (List Int) → Int → Int → Option Int
  | 0, _, _, _, _ => none
  | k + 1, x0z, x0, x1, x5 => laws_heldIntS.l0b some (laws_heldIntS.l0 k) k x0z x0 x1 x5
def laws_heldIntS.f : Nat → Bool → (List Int) → Int → Option Int
  | 0, _, _, _ => none
  | k + 1, a0z, a0, a1 => laws_heldIntS.b some (laws_heldIntS.l0 k) k a0z a0 a1
def laws_heldIntS.enc (r : Int) : Res := ⟨[.vals false [((.int .i64 r), true)]], []⟩
def laws_heldIntS.ans (k : Nat) : List Arg → Ans
  | [.v (.nums 3 .i64 a0z a0), .v (.int .i64 a1)] => ⟨laws_heldIntS.f k a0z a0 a1, laws_heldIntS.enc⟩
  | _ => Ans.no
def laws_heldIntS.Cs (k : Nat) : CallSem := tab []
def laws_heldIntS.cuts : List (Nat × Keep) := [(26, ⟨[(0, some []), (1, some []), (5, some [])], []⟩)]
noncomputable def laws_heldIntS.K0 : List Fr := framesAt [true, false, true, false] (bodyOf Try.f18 laws_heldIntS.cuts) []
def laws_heldIntS.N0 (x0z : Bool) (x0 : List Int) (x1 : Int) (x5 : Int) : St := stOf 21 21 2 [(0, .val ⟨(.nums 3 .i64 x0z x0), [], false, none⟩), (1, .val (V.s (.int .i64 x1))), (5, .val (V.s (.int .i64 x5)))] []
theorem laws_heldIntS.s (k : Nat) (a0z : Bool) (a0 : List Int) (a1 : Int) : answer Try.prog laws_heldIntS.Cs 100000 laws_heldIntS.cuts [] Try.f18 (k + 1) [.v (.nums 3 .i64 a0z a0), .v (.int .i64 a1)] = laws_heldIntS.b (fun r => some (laws_heldIntS.enc r)) (fun x0z x0 x1 x5 => rounds Try.prog laws_heldIntS.Cs (finish Try.prog [] Try.f18 [.v (.nums 3 .i64 a0z a0), .v (.int .i64 a1)]) 100000 k laws_heldIntS.K0 (laws_heldIntS.N0 x0z x0 x1 x5)) k a0z a0 a1 := by kernel_rfl
theorem laws_heldIntS.s0 (k : Nat) (G : List Fr → St → Option Res) (a0z : Bool) (a0 : List Int) (a1 : Int) (yx0z : Bool) (yx0 : List Int) (yx1 : Int) (yx5 : Int) : resume Try.prog (laws_heldIntS.Cs k) G (finish Try.prog [] Try.f18 [.v (.nums 3 .i64 a0z a0), .v (.int .i64 a1)]) 100000 laws_heldIntS.K0 (laws_heldIntS.N0 yx0z yx0 yx1 yx5) = laws_heldIntS.l0b (fun r => some (laws_heldIntS.enc r)) (fun x0z x0 x1 x5 => G laws_heldIntS.K0 (laws_heldIntS.N0 x0z x0 x1 x5)) k yx0z yx0 yx1 yx5 := by kernel_rfl
theorem laws_heldIntS.b_nat {R R' : Type} (e : R → R') (ret : Int → Option R) (j0 : Bool → (List Int) → Int → Int → Option R) (k : Nat) (a0z : Bool) (a0 : List Int) (a1 : Int) : laws_heldIntS.b (fun r => (ret r).map e) (fun x0z x0 x1 x5 => (j0 x0z x0 x1 x5).map e) k a0z a0 a1 = (laws_heldIntS.b ret j0 k a0z a0 a1).map e := by
  unfold laws_heldIntS.b
  repeat' first | with_reducible refine nat_cond ?_ ?_ | with_reducible refine nat_bind fun _ => ?_ | rfl
theorem laws_heldIntS.l0b_nat {R R' : Type} (e : R → R') (ret : Int → Option R) (j0 : Bool → (List Int) → Int → Int → Option R) (k : Nat) (x0z : Bool) (x0 : List Int) (x1 : Int) (x5 : Int) : laws_heldIntS.l0b (fun r => (ret r).map e) (fun x0z x0 x1 x5 => (j0 x0z x0 x1 x5).map e) k x0z x0 x1 x5 = (laws_heldIntS.l0b ret j0 k x0z x0 x1 x5).map e := by
  unfold laws_heldIntS.l0b
  repeat' first | with_reducible refine nat_cond ?_ ?_ | with_reducible refine nat_bind fun _ => ?_ | rfl
theorem laws_heldIntS.rounds_eq (a0z : Bool) (a0 : List Int) (a1 : Int) : ∀ k, (∀ (x0z : Bool) (x0 : List Int) (x1 : Int) (x5 : Int), rounds Try.prog laws_heldIntS.Cs (finish Try.prog [] Try.f18 [.v (.nums 3 .i64 a0z a0), .v (.int .i64 a1)]) 100000 k laws_heldIntS.K0 (laws_heldIntS.N0 x0z x0 x1 x5) = (laws_heldIntS.l0 k x0z x0 x1 x5).map laws_heldIntS.enc)
  | 0 => fun _ _ _ _ => rfl
  | k + 1 => by
    have ih := laws_heldIntS.rounds_eq a0z a0 a1 k
    refine fun _ _ _ _ => ?_
    · refine (laws_heldIntS.s0 k _ a0z a0 a1 _ _ _ _).trans (Eq.trans ?_ (laws_heldIntS.l0b_nat laws_heldIntS.enc some (laws_heldIntS.l0 k) k _ _ _ _))
      simp only [ih, Option.map_some]
theorem laws_heldIntS.eq (k : Nat) (a0z : Bool) (a0 : List Int) (a1 : Int) : answer Try.prog laws_heldIntS.Cs 100000 laws_heldIntS.cuts [] Try.f18 (k + 1) [.v (.nums 3 .i64 a0z a0), .v (.int .i64 a1)] = (laws_heldIntS.f (k + 1) a0z a0 a1).map laws_heldIntS.enc := by
  have ih := laws_heldIntS.rounds_eq a0z a0 a1 k
  refine (laws_heldIntS.s k a0z a0 a1).trans (Eq.trans ?_ (laws_heldIntS.b_nat laws_heldIntS.enc some (laws_heldIntS.l0 k) k a0z a0 a1))
  simp only [ih, Option.map_some]
theorem laws_heldIntS.sound (k : Nat) : SoundF Try.prog 18 (fun a => (laws_heldIntS.ans k a).val) := by
  refine sound_plain (fun args res h => ?_) (fun t n => rfl)
  unfold laws_heldIntS.ans at h
  dsimp only at h
  split at h
  · cases k with
    | zero => cases h
    | succ k =>
      unfold Ans.val at h
      rw [← laws_heldIntS.eq] at h
      exact answer_sound mixed Try.func18 _ _ _ (k + 1) (fun j _ => tab_sound (tab_nil)) _ _ h
  · exact (Ans.no_val h).elim

/-! loop.example/g00790/laws.FnExactViews -/
def laws_FnExactViews.b {R : Type} (ret : Bool → Option R) (k : Nat) (a0z : Bool) (a0 : List T) : Option R :=
  (laws_szVoteS.f k a0z a0 1048576).bind fun t0 => cond (decide (t0 < 0)) (ret true) ((laws_toVoteS.f k a0z a0).bind fun t1 => (spec_Views.f k t1.1 t1.2).bind fun t2 => (laws_toVoteS.f k a0z a0).bind fun t3 => (impl_Views.f k t3.1 t3.2).bind fun t4 => (laws_eqIntS.f k t4.1 t4.2 t2.1 t2.2).bind fun t5 => cond (!t5) (ret false) ((laws_toVoteS.f k a0z a0).bind fun t6 => (laws_eqVoteS.f k t3.1 t3.2 t6.1 t6.2).bind fun t7 => cond (!t7) (ret false) ((laws_markVoteS.f k t3.1 t3.2 1).bind fun t8 => cond (decide (t8.1 < 0)) (ret false) ((laws_eqIntS.f k t4.1 t4.2 t2.1 t2.2).bind fun t9 => cond (!t9) (ret false) ((laws_markIntS.f k t4.1 t4.2 1).bind fun t10 => (laws_heldIntS.f k t10.2.1 t10.2.2 1).bind fun t11 => cond (decide (t11 < 0)) (ret false) (cond (!(decide (t11 = t10.1))) (ret false) ((laws_toVoteS.f k a0z a0).bind fun t12 => (impl_Views.f k t12.1 t12.2).bind fun t13 => (laws_eqIntS.f k t13.1 t13.2 t2.1 t2.2).bind fun t14 => cond (!t14) (ret false) ((laws_heldIntS.f k t10.2.1 t10.2.2 1).bind fun t15 => cond (decide (t15 < 0)) (ret false) (cond (!(decide (t15 = t10.1))) (ret false) (ret true))))))))))
def laws_FnExactViews.f : Nat → Bool → (List T) → Option Bool
  | 0, _, _ => none
  | k + 1, a0z, a0 => laws_FnExactViews.b some k a0z a0
def laws_FnExactViews.enc (r : Bool) : Res := ⟨[.vals false [((.bool r), true)]], []⟩
def laws_FnExactViews.ans (k : Nat) : List Arg → Ans
  | [.v (.sl 64 a0z a0)] => ⟨laws_FnExactViews.f k a0z a0, laws_FnExactViews.enc⟩
  | _ => Ans.no
def laws_FnExactViews.Cs (k : Nat) : CallSem := tab [(11, laws_szVoteS.ans k), (13, laws_toVoteS.ans k), (12, spec_Views.ans k), (10, impl_Views.ans k), (14, laws_eqIntS.ans k), (15, laws_eqVoteS.ans k), (16, laws_markVoteS.ans k), (17, laws_markIntS.ans k), (18, laws_heldIntS.ans k)]
def laws_FnExactViews.cuts : List (Nat × Keep) := []
theorem laws_FnExactViews.s (k : Nat) (a0z : Bool) (a0 : List T) : answer Try.prog laws_FnExactViews.Cs 100000 laws_FnExactViews.cuts [] Try.f4 (k + 1) [.v (.sl 64 a0z a0)] = laws_FnExactViews.b (fun r => some (laws_FnExactViews.enc r)) k a0z a0 := by kernel_rfl
theorem laws_FnExactViews.b_nat {R R' : Type} (e : R → R') (ret : Bool → Option R) (k : Nat) (a0z : Bool) (a0 : List T) : laws_FnExactViews.b (fun r => (ret r).map e) k a0z a0 = (laws_FnExactViews.b ret k a0z a0).map e := by
  unfold laws_FnExactViews.b
  repeat' first | with_reducible refine nat_cond ?_ ?_ | with_reducible refine nat_bind fun _ => ?_ | rfl
theorem laws_FnExactViews.eq (k : Nat) (a0z : Bool) (a0 : List T) : answer Try.prog laws_FnExactViews.Cs 100000 laws_FnExactViews.cuts [] Try.f4 (k + 1) [.v (.sl 64 a0z a0)] = (laws_FnExactViews.f (k + 1) a0z a0).map laws_FnExactViews.enc := by
  refine (laws_FnExactViews.s k a0z a0).trans (Eq.trans ?_ (laws_FnExactViews.b_nat laws_FnExactViews.enc some k a0z a0))
  simp only [Option.map_some]
theorem laws_FnExactViews.sound (k : Nat) : SoundF Try.prog 4 (fun a => (laws_FnExactViews.ans k a).val) := by
  refine sound_plain (fun args res h => ?_) (fun t n => rfl)
  unfold laws_FnExactViews.ans at h
  dsimp only at h
  split at h
  · cases k with
    | zero => cases h
    | succ k =>
      unfold Ans.val at h
      rw [← laws_FnExactViews.eq] at h
      exact answer_sound mixed Try.func4 _ _ _ (k + 1) (fun j _ => tab_sound (tab_cons (laws_szVoteS.sound j) (tab_cons (laws_toVoteS.sound j) (tab_cons (spec_Views.sound j) (tab_cons (impl_Views.sound j) (tab_cons (laws_eqIntS.sound j) (tab_cons (laws_eqVoteS.sound j) (tab_cons (laws_markVoteS.sound j) (tab_cons (laws_markIntS.sound j) (tab_cons (laws_heldIntS.sound j) (tab_nil))))))))))) _ _ h
  · exact (Ans.no_val h).elim
end Go.Proofs.YthocpcfjfgnkgaaG
