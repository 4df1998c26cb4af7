/- What the functions compute, printed by a program of this repo; each is shown to be what the machine of values answers. No condition. -/
import Derived.Test.YtbpcnodmgphinaaProg
import Derived.KernelRfl
import Derived.Test.YtbpcnodmgphinaaGFnBuildc
namespace Go.Proofs.YtbpcnodmgphinaaG
open Go Go.Proofs.YtbpcnodmgphinaaRv Go.Proofs
set_option linter.unusedVariables false
set_option linter.unusedSimpArgs false
/-! loop.example/g00790/impl.QcCode -/
def impl_QcCode.b {R : Type} (ret : Int → Option R) (j0 : Bool → (List T) → Int → Int → Bool → (List T) → Int → Int → Bool → (List Int) → Bool → (List Int) → Bool → (List T) → Option R) (k : Nat) (a0_0 : Int) (a0_1 : Int) (a0_2 : Int) (a0_3 : Int) (a0_4 : Int) (a1_0z : Bool) (a1_0 : List T) (a2_0 : Int) (a2_1 : Int) (a2_2z : Bool) (a2_2 : List Int) (a2_3z : Bool) (a2_3 : List Int) (a2_4z : Bool) (a2_4 : List T) : Option R :=
  (impl_belongs.f k a0_0 a0_1 a0_2 a0_3 a0_4 a1_0z a1_0).bind fun t0 => cond (!t0) (ret 1) ((impl_QcOk.f k a0_0 a0_1 a0_2 a0_3 a0_4 a2_0 a2_1 a2_2z a2_2 a2_3z a2_3 a2_4z a2_4).bind fun t1 => cond (!t1) (ret 1) ((impl_QcVotes.f k a2_0 a2_1 a2_2z a2_2 a2_3z a2_3 a2_4z a2_4).bind fun t2 => j0 t2.1 t2.2 ((t2.2).length : Int) 0 a1_0z a1_0 a2_0 a2_1 a2_2z a2_2 a2_3z a2_3 a2_4z a2_4))
def impl_QcCode.l0b {R : Type} (ret : Int → Option R) (j0 : Bool → (List T) → Int → Int → Bool → (List T) → Int → Int → Bool → (List Int) → Bool → (List Int) → Bool → (List T) → Option R) (k : Nat) (x20z : Bool) (x20 : List T) (x21 : Int) (x22 : Int) (c4_0z : Bool) (c4_0 : List T) (c5_0 : Int) (c5_1 : Int) (c5_2z : Bool) (c5_2 : List Int) (c5_3z : Bool) (c5_3 : List Int) (c5_4z : Bool) (c5_4 : List T) : Option R :=
  cond (decide (x22 < x21)) (cond (decide ((0 : Int) ≤ x22)) (cond (decide (x22 < ((x20).length : Int))) ((impl_VoteGood.f k c4_0z c4_0 (((((x20).getD (x22).toNat .bad).cells.getD 0 .bad)).toInt) (((((x20).getD (x22).toNat .bad).cells.getD 1 .bad)).toInt) (((((x20).getD (x22).toNat .bad).cells.getD 2 .bad)).isNil) (((((x20).getD (x22).toNat .bad).cells.getD 2 .bad)).toNums) (((((x20).getD (x22).toNat .bad).cells.getD 3 .bad)).toInt) (((((x20).getD (x22).toNat .bad).cells.getD 4 .bad)).isNil) (((((x20).getD (x22).toNat .bad).cells.getD 4 .bad)).toNums)).bind fun t0 => cond (!t0) (ret 2) (j0 x20z x20 x21 (RowKit.wrap64 (x22 + 1)) c4_0z c4_0 c5_0 c5_1 c5_2z c5_2 c5_3z c5_3 c5_4z c5_4)) (none)) (none)) ((impl_IsQuorum.f k c4_0z c4_0 c5_3z c5_3).bind fun t0 => cond (!t0) (ret 3) (ret 0))
def impl_QcCode.l0 : Nat → Bool → (List T) → Int → Int → Bool → (List T) → Int → Int → Bool → (List Int) → Bool → (List Int) → Bool → (List T) → Option Int
  | 0, _, _, _, _, _, _, _, _, _, _, _, _, _, _ => none
  | k + 1, x20z, x20, x21, x22, c4_0z, c4_0, c5_0, c5_1, c5_2z, c5_2, c5_3z, c5_3, c5_4z, c5_4 => impl_QcCode.l0b some (impl_QcCode.l0 k) k x20z x20 x21 x22 c4_0z c4_0 c5_0 c5_1 c5_2z c5_2 c5_3z c5_3 c5_4z c5_4
def impl_QcCode.f : Nat → Int → Int → Int → Int → Int → Bool → (List T) → Int → Int → Bool → (List Int) → Bool → (List Int) → Bool → (List T) → Option Int
  | 0, _, _, _, _, _, _, _, _, _, _, _, _, _, _, _ => none
  | k + 1, a0_0, a0_1, a0_2, a0_3, a0_4, a1_0z, a1_0, a2_0, a2_1, a2_2z, a2_2, a2_3z, a2_3, a2_4z, a2_4 => impl_QcCode.b some (impl_QcCode.l0 k) k a0_0 a0_1 a0_2 a0_3 a0_4 a1_0z a1_0 a2_0 a2_1 a2_2z a2_2 a2_3z a2_3 a2_4z a2_4
def impl_QcCode.enc (r : Int) : Res := ⟨[.vals false [((.int .i64 r), true)]], []⟩
def impl_QcCode.ans (k : Nat) : List Arg → Ans
  | [.v (.agg [(.int .i64 a0_0), (.int .i64 a0_1), (.int .i64 a0_2), (.int .i64 a0_3), (.int .i64 a0_4)]), .v (.agg [(.sl 44 a1_0z a1_0)]), .v (.agg [(.int .i64 a2_0), (.int .i64 a2_1), (.nums 5 .u8 a2_2z a2_2), (.nums 5 .u8 a2_3z a2_3), (.sl 22 a2_4z a2_4)])] => ⟨impl_QcCode.f k a0_0 a0_1 a0_2 a0_3 a0_4 a1_0z a1_0 a2_0 a2_1 a2_2z a2_2 a2_3z a2_3 a2_4z a2_4, impl_QcCode.enc⟩
  | _ => Ans.no
def impl_QcCode.Cs (k : Nat) : CallSem := tab [(87, impl_belongs.ans k), (90, impl_QcOk.ans k), (31, impl_IsQuorum.ans k), (24, impl_QcVotes.ans k), (17, impl_VoteGood.ans k)]
def impl_QcCode.cuts : List (Nat × Keep) := [(58, ⟨[(4, some []), (5, some []), (20, none), (21, some []), (22, some [])], [(4, [some []]), (5, [some [], some [], some [], some [], some []])]⟩)]
noncomputable def impl_QcCode.K0 : List Fr := framesAt [true, true, false, true, false] (bodyOf Try.f33 impl_QcCode.cuts) []
def impl_QcCode.N0 (x20z : Bool) (x20 : List T) (x21 : Int) (x22 : Int) (c4_0z : Bool) (c4_0 : List T) (c5_0 : Int) (c5_1 : Int) (c5_2z : Bool) (c5_2 : List Int) (c5_3z : Bool) (c5_3 : List Int) (c5_4z : Bool) (c5_4 : List T) : St := stOf 36 36 3 [(4, .bp 4 0), (5, .bp 5 0), (20, .val ⟨(.sl 33 x20z x20), [.l 20 0], true, some (.l 20 0)⟩), (21, .val (V.s (.int .i64 x21))), (22, .val (V.s (.int .i64 x22)))] [(4, .cells [⟨(.sl 44 c4_0z c4_0), [], false, none⟩]), (5, .cells [V.s (.int .i64 c5_0), V.s (.int .i64 c5_1), ⟨(.nums 5 .u8 c5_2z c5_2), [], false, none⟩, ⟨(.nums 5 .u8 c5_3z c5_3), [], false, none⟩, ⟨(.sl 22 c5_4z c5_4), [], false, none⟩])]
theorem impl_QcCode.s (k : Nat) (a0_0 : Int) (a0_1 : Int) (a0_2 : Int) (a0_3 : Int) (a0_4 : Int) (a1_0z : Bool) (a1_0 : List T) (a2_0 : Int) (a2_1 : Int) (a2_2z : Bool) (a2_2 : List Int) (a2_3z : Bool) (a2_3 : List Int) (a2_4z : Bool) (a2_4 : List T) : answer Try.prog impl_QcCode.Cs 100000 impl_QcCode.cuts [] Try.f33 (k + 1) [.v (.agg [(.int .i64 a0_0), (.int .i64 a0_1), (.int .i64 a0_2), (.int .i64 a0_3), (.int .i64 a0_4)]), .v (.agg [(.sl 44 a1_0z a1_0)]), .v (.agg [(.int .i64 a2_0), (.int .i64 a2_1), (.nums 5 .u8 a2_2z a2_2), (.nums 5 .u8 a2_3z a2_3), (.sl 22 a2_4z a2_4)])] = impl_QcCode.b (fun r => some (impl_QcCode.enc r)) (fun x20z x20 x21 x22 c4_0z c4_0 c5_0 c5_1 c5_2z c5_2 c5_3z c5_3 c5_4z c5_4 => rounds Try.prog impl_QcCode.Cs (finish Try.prog [] Try.f33 [.v (.agg [(.int .i64 a0_0), (.int .i64 a0_1), (.int .i64 a0_2), (.int .i64 a0_3), (.int .i64 a0_4)]), .v (.agg [(.sl 44 a1_0z a1_0)]), .v (.agg [(.int .i64 a2_0), (.int .i64 a2_1), (.nums 5 .u8 a2_2z a2_2), (.nums 5 .u8 a2_3z a2_3), (.sl 22 a2_4z a2_4)])]) 100000 k impl_QcCode.K0 (impl_QcCode.N0 x20z x20 x21 x22 c4_0z c4_0 c5_0 c5_1 c5_2z c5_2 c5_3z c5_3 c5_4z c5_4)) k a0_0 a0_1 a0_2 a0_3 a0_4 a1_0z a1_0 a2_0 a2_1 a2_2z a2_2 a2_3z a2_3 a2_4z a2_4 := by kernel_rfl
theorem impl_QcCode.s0 (k : Nat) (G : List Fr → St → Option Res) (a0_0 : Int) (a0_1 : Int) (a0_2 : Int) (a0_3 : Int) (a0_4 : Int) (a1_0z : Bool) (a1_0 : List T) (a2_0 : Int) (a2_1 : Int) (a2_2z : Bool) (a2_2 : List Int) (a2_3z : Bool) (a2_3 : List Int) (a2_4z : Bool) (a2_4 : List T) (yx20z : Bool) (yx20 : List T) (yx21 : Int) (yx22 : Int) (yc4_0z : Bool) (yc4_0 : List T) (yc5_0 : Int) (yc5_1 : Int) (yc5_2z : Bool) (yc5_2 : List Int) (yc5_3z : Bool) (yc5_3 : List Int) (yc5_4z : Bool) (yc5_4 : List T) : resume Try.prog (impl_QcCode.Cs k) G (finish Try.prog [] Try.f33 [.v (.agg [(.int .i64 a0_0), (.int .i64 a0_1), (.int .i64 a0_2), (.int .i64 a0_3), (.int .i64 a0_4)]), .v (.agg [(.sl 44 a1_0z a1_0)]), .v (.agg [(.int .i64 a2_0), (.int .i64 a2_1), (.nums 5 .u8 a2_2z a2_2), (.nums 5 .u8 a2_3z a2_3), (.sl 22 a2_4z a2_4)])]) 100000 impl_QcCode.K0 (impl_QcCode.N0 yx20z yx20 yx21 yx22 yc4_0z yc4_0 yc5_0 yc5_1 yc5_2z yc5_2 yc5_3z yc5_3 yc5_4z yc5_4) = impl_QcCode.l0b (fun r => some (impl_QcCode.enc r)) (fun x20z x20 x21 x22 c4_0z c4_0 c5_0 c5_1 c5_2z c5_2 c5_3z c5_3 c5_4z c5_4 => G impl_QcCode.K0 (impl_QcCode.N0 x20z x20 x21 x22 c4_0z c4_0 c5_0 c5_1 c5_2z c5_2 c5_3z c5_3 c5_4z c5_4)) k yx20z yx20 yx21 yx22 yc4_0z yc4_0 yc5_0 yc5_1 yc5_2z yc5_2 yc5_3z yc5_3 yc5_4z yc5_4 := by kernel_rfl
theorem impl_QcCode.b_nat {R R' : Type} (e : R → R') (ret : Int → Option R) (j0 : Bool → (List T) → Int → Int → Bool → (List T) → Int → Int → Bool → (List Int) → Bool → (List Int) → Bool → (List T) → Option R) (k : Nat) (a0_0 : Int) (a0_1 : Int) (a0_2 : Int) (a0_3 : Int) (a0_4 : Int) (a1_0z : Bool) (a1_0 : List T) (a2_0 : Int) (a2_1 : Int) (a2_2z : Bool) (a2_2 : List Int) (a2_3z : Bool) (a2_3 : List Int) (a2_4z : Bool) (a2_4 : List T) : impl_QcCode.b (fun r => (ret r).map e) (fun x20z x20 x21 x22 c4_0z c4_0 c5_0 c5_1 c5_2z c5_2 c5_3z c5_3 c5_4z c5_4 => (j0 x20z x20 x21 x22 c4_0z c4_0 c5_0 c5_1 c5_2z c5_2 c5_3z c5_3 c5_4z c5_4).map e) k a0_0 a0_1 a0_2 a0_3 a0_4 a1_0z a1_0 a2_0 a2_1 a2_2z a2_2 a2_3z a2_3 a2_4z a2_4 = (impl_QcCode.b ret j0 k a0_0 a0_1 a0_2 a0_3 a0_4 a1_0z a1_0 a2_0 a2_1 a2_2z a2_2 a2_3z a2_3 a2_4z a2_4).map e := by
  unfold impl_QcCode.b
  repeat' first | with_reducible refine nat_cond ?_ ?_ | with_reducible refine nat_bind fun _ => ?_ | rfl
theorem impl_QcCode.l0b_nat {R R' : Type} (e : R → R') (ret : Int → Option R) (j0 : Bool → (List T) → Int → Int → Bool → (List T) → Int → Int → Bool → (List Int) → Bool → (List Int) → Bool → (List T) → Option R) (k : Nat) (x20z : Bool) (x20 : List T) (x21 : Int) (x22 : Int) (c4_0z : Bool) (c4_0 : List T) (c5_0 : Int) (c5_1 : Int) (c5_2z : Bool) (c5_2 : List Int) (c5_3z : Bool) (c5_3 : List Int) (c5_4z : Bool) (c5_4 : List T) : impl_QcCode.l0b (fun r => (ret r).map e) (fun x20z x20 x21 x22 c4_0z c4_0 c5_0 c5_1 c5_2z c5_2 c5_3z c5_3 c5_4z c5_4 => (j0 x20z x20 x21 x22 c4_0z c4_0 c5_0 c5_1 c5_2z c5_2 c5_3z c5_3 c5_4z c5_4).map e) k x20z x20 x21 x22 c4_0z c4_0 c5_0 c5_1 c5_2z c5_2 c5_3z c5_3 c5_4z c5_4 = (impl_QcCode.l0b ret j0 k x20z x20 x21 x22 c4_0z c4_0 c5_0 c5_1 c5_2z c5_2 c5_3z c5_3 c5_4z c5_4).map e := by
  unfold impl_QcCode.l0b
  repeat' first | with_reducible refine nat_cond ?_ ?_ | with_reducible refine nat_bind fun _ => ?_ | rfl
theorem impl_QcCode.rounds_eq (a0_0 : Int) (a0_1 : Int) (a0_2 : Int) (a0_3 : Int) (a0_4 : Int) (a1_0z : Bool) (a1_0 : List T) (a2_0 : Int) (a2_1 : Int) (a2_2z : Bool) (a2_2 : List Int) (a2_3z : Bool) (a2_3 : List Int) (a2_4z : Bool) (a2_4 : List T) : ∀ k, (∀ (x20z : Bool) (x20 : List T) (x21 : Int) (x22 : Int) (c4_0z : Bool) (c4_0 : List T) (c5_0 : Int) (c5_1 : Int) (c5_2z : Bool) (c5_2 : List Int) (c5_3z : Bool) (c5_3 : List Int) (c5_4z : Bool) (c5_4 : List T), rounds Try.prog impl_QcCode.Cs (finish Try.prog [] Try.f33 [.v (.agg [(.int .i64 a0_0), (.int .i64 a0_1), (.int .i64 a0_2), (.int .i64 a0_3), (.int .i64 a0_4)]), .v (.agg [(.sl 44 a1_0z a1_0)]), .v (.agg [(.int .i64 a2_0), (.int .i64 a2_1), (.nums 5 .u8 a2_2z a2_2), (.nums 5 .u8 a2_3z a2_3), (.sl 22 a2_4z a2_4)])]) 100000 k impl_QcCode.K0 (impl_QcCode.N0 x20z x20 x21 x22 c4_0z c4_0 c5_0 c5_1 c5_2z c5_2 c5_3z c5_3 c5_4z c5_4) = (impl_QcCode.l0 k x20z x20 x21 x22 c4_0z c4_0 c5_0 c5_1 c5_2z c5_2 c5_3z c5_3 c5_4z c5_4).map impl_QcCode.enc)
  | 0 => fun _ _ _ _ _ _ _ _ _ _ _ _ _ _ => rfl
  | k + 1 => by
    have ih := impl_QcCode.rounds_eq a0_0 a0_1 a0_2 a0_3 a0_4 a1_0z a1_0 a2_0 a2_1 a2_2z a2_2 a2_3z a2_3 a2_4z a2_4 k
    refine fun _ _ _ _ _ _ _ _ _ _ _ _ _ _ => ?_
    · refine (impl_QcCode.s0 k _ a0_0 a0_1 a0_2 a0_3 a0_4 a1_0z a1_0 a2_0 a2_1 a2_2z a2_2 a2_3z a2_3 a2_4z a2_4 _ _ _ _ _ _ _ _ _ _ _ _ _ _).trans (Eq.trans ?_ (impl_QcCode.l0b_nat impl_QcCode.enc some (impl_QcCode.l0 k) k _ _ _ _ _ _ _ _ _ _ _ _ _ _))
      simp only [ih, Option.map_some]
theorem impl_QcCode.eq (k : Nat) (a0_0 : Int) (a0_1 : Int) (a0_2 : Int) (a0_3 : Int) (a0_4 : Int) (a1_0z : Bool) (a1_0 : List T) (a2_0 : Int) (a2_1 : Int) (a2_2z : Bool) (a2_2 : List Int) (a2_3z : Bool) (a2_3 : List Int) (a2_4z : Bool) (a2_4 : List T) : answer Try.prog impl_QcCode.Cs 100000 impl_QcCode.cuts [] Try.f33 (k + 1) [.v (.agg [(.int .i64 a0_0), (.int .i64 a0_1), (.int .i64 a0_2), (.int .i64 a0_3), (.int .i64 a0_4)]), .v (.agg [(.sl 44 a1_0z a1_0)]), .v (.agg [(.int .i64 a2_0), (.int .i64 a2_1), (.nums 5 .u8 a2_2z a2_2), (.nums 5 .u8 a2_3z a2_3), (.sl 22 a2_4z a2_4)])] = (impl_QcCode.f (k + 1) a0_0 a0_1 a0_2 a0_3 a0_4 a1_0z a1_0 a2_0 a2_1 a2_2z a2_2 a2_3z a2_3 a2_4z a2_4).map impl_QcCode.enc := by
  have ih := impl_QcCode.rounds_eq a0_0 a0_1 a0_2 a0_3 a0_4 a1_0z a1_0 a2_0 a2_1 a2_2z a2_2 a2_3z a2_3 a2_4z a2_4 k
  refine (impl_QcCode.s k a0_0 a0_1 a0_2 a0_3 a0_4 a1_0z a1_0 a2_0 a2_1 a2_2z a2_2 a2_3z a2_3 a2_4z a2_4).trans (Eq.trans ?_ (impl_QcCode.b_nat impl_QcCode.enc some (impl_QcCode.l0 k) k a0_0 a0_1 a0_2 a0_3 a0_4 a1_0z a1_0 a2_0 a2_1 a2_2z a2_2 a2_3z a2_3 a2_4z a2_4))
  simp only [ih, Option.map_some]
theorem impl_QcCode.sound (k : Nat) : SoundF Try.prog 33 (fun a => (impl_QcCode.ans k a).val) := by
  refine sound_plain (fun args res h => ?_) (fun t n => rfl)
  unfold impl_QcCode.ans at h
  dsimp only at h
  split at h
  · cases k with
    | zero => cases h
    | succ k =>
      unfold Ans.val at h
      rw [← impl_QcCode.eq] at h
      exact answer_sound mixed Try.func33 _ _ _ (k + 1) (fun j _ => tab_sound (tab_cons (impl_belongs.sound j) (tab_cons (impl_QcOk.sound j) (tab_cons (impl_IsQuorum.sound j) (tab_cons (impl_QcVotes.sound j) (tab_cons (impl_VoteGood.sound j) (tab_nil))))))) _ _ h
  · exact (Ans.no_val h).elim

/-! loop.example/g00790/impl.entrySame -/
def impl_entrySame.b {R : Type} (ret : Bool → Option R) (k : Nat) (a0_0 : Int) (a0_1 : Int) (a0_2z : Bool) (a0_2 : List Int) (a1_0 : Int) (a1_1 : Int) (a1_2z : Bool) (a1_2 : List Int) : Option R :=
  cond (decide (a0_0 = a1_0)) (cond (decide (a0_1 = a1_1)) ((impl_SameBytes.f k a0_2z a0_2 a1_2z a1_2).bind fun t0 => ret t0) (ret false)) (ret false)
def impl_entrySame.f : Nat → Int → Int → Bool → (List Int) → Int → Int → Bool → (List Int) → Option Bool
  | 0, _, _, _, _, _, _, _, _ => none
  | k + 1, a0_0, a0_1, a0_2z, a0_2, a1_0, a1_1, a1_2z, a1_2 => impl_entrySame.b some k a0_0 a0_1 a0_2z a0_2 a1_0 a1_1 a1_2z a1_2
def impl_entrySame.enc (r : Bool) : Res := ⟨[.vals false [((.bool r), true)]], []⟩
def impl_entrySame.ans (k : Nat) : List Arg → Ans
  | [.v (.agg [(.int .i64 a0_0), (.int .i64 a0_1), (.nums 5 .u8 a0_2z a0_2)]), .v (.agg [(.int .i64 a1_0), (.int .i64 a1_1), (.nums 5 .u8 a1_2z a1_2)])] => ⟨impl_entrySame.f k a0_0 a0_1 a0_2z a0_2 a1_0 a1_1 a1_2z a1_2, impl_entrySame.enc⟩
  | _ => Ans.no
def impl_entrySame.Cs (k : Nat) : CallSem := tab [(32, impl_SameBytes.ans k)]
def impl_entrySame.cuts : List (Nat × Keep) := []
theorem impl_entrySame.s (k : Nat) (a0_0 : Int) (a0_1 : Int) (a0_2z : Bool) (a0_2 : List Int) (a1_0 : Int) (a1_1 : Int) (a1_2z : Bool) (a1_2 : List Int) : answer Try.prog impl_entrySame.Cs 100000 impl_entrySame.cuts [] Try.f83 (k + 1) [.v (.agg [(.int .i64 a0_0), (.int .i64 a0_1), (.nums 5 .u8 a0_2z a0_2)]), .v (.agg [(.int .i64 a1_0), (.int .i64 a1_1), (.nums 5 .u8 a1_2z a1_2)])] = impl_entrySame.b (fun r => some (impl_entrySame.enc r)) k a0_0 a0_1 a0_2z a0_2 a1_0 a1_1 a1_2z a1_2 := by kernel_rfl
theorem impl_entrySame.b_nat {R R' : Type} (e : R → R') (ret : Bool → Option R) (k : Nat) (a0_0 : Int) (a0_1 : Int) (a0_2z : Bool) (a0_2 : List Int) (a1_0 : Int) (a1_1 : Int) (a1_2z : Bool) (a1_2 : List Int) : impl_entrySame.b (fun r => (ret r).map e) k a0_0 a0_1 a0_2z a0_2 a1_0 a1_1 a1_2z a1_2 = (impl_entrySame.b ret k a0_0 a0_1 a0_2z a0_2 a1_0 a1_1 a1_2z a1_2).map e := by
  unfold impl_entrySame.b
  repeat' first | with_reducible refine nat_cond ?_ ?_ | with_reducible refine nat_bind fun _ => ?_ | rfl
theorem impl_entrySame.eq (k : Nat) (a0_0 : Int) (a0_1 : Int) (a0_2z : Bool) (a0_2 : List Int) (a1_0 : Int) (a1_1 : Int) (a1_2z : Bool) (a1_2 : List Int) : answer Try.prog impl_entrySame.Cs 100000 impl_entrySame.cuts [] Try.f83 (k + 1) [.v (.agg [(.int .i64 a0_0), (.int .i64 a0_1), (.nums 5 .u8 a0_2z a0_2)]), .v (.agg [(.int .i64 a1_0), (.int .i64 a1_1), (.nums 5 .u8 a1_2z a1_2)])] = (impl_entrySame.f (k + 1) a0_0 a0_1 a0_2z a0_2 a1_0 a1_1 a1_2z a1_2).map impl_entrySame.enc := by
  refine (impl_entrySame.s k a0_0 a0_1 a0_2z a0_2 a1_0 a1_1 a1_2z a1_2).trans (Eq.trans ?_ (impl_entrySame.b_nat impl_entrySame.enc some k a0_0 a0_1 a0_2z a0_2 a1_0 a1_1 a1_2z a1_2))
  simp only [Option.map_some]
theorem impl_entrySame.sound (k : Nat) : SoundF Try.prog 83 (fun a => (impl_entrySame.ans k a).val) := by
  refine sound_plain (fun args res h => ?_) (fun t n => rfl)
  unfold impl_entrySame.ans at h
  dsimp only at h
  split at h
  · cases k with
    | zero => cases h
    | succ k =>
      unfold Ans.val at h
      rw [← impl_entrySame.eq] at h
      exact answer_sound mixed Try.func83 _ _ _ (k + 1) (fun j _ => tab_sound (tab_cons (impl_SameBytes.sound j) (tab_nil))) _ _ h
  · exact (Ans.no_val h).elim

/-! loop.example/g00790/impl.EntryGood -/
def impl_EntryGood.b {R : Type} (ret : Bool → Option R) (k : Nat) (a0_0z : Bool) (a0_0 : List T) (a1 : Int) (a2_0 : Int) (a2_1 : Int) (a2_2z : Bool) (a2_2 : List Int) : Option R :=
  (impl_SignLeave.f k a0_0z a0_0 a1 a2_1 a2_0).bind fun t0 => cond t0.2.2.2.2 ((impl_entrySame.f k t0.1 t0.2.1 t0.2.2.1 t0.2.2.2.1 a2_0 a2_1 a2_2z a2_2).bind fun t1 => ret t1) (ret false)
def impl_EntryGood.f : Nat → Bool → (List T) → Int → Int → Int → Bool → (List Int) → Option Bool
  | 0, _, _, _, _, _, _, _ => none
  | k + 1, a0_0z, a0_0, a1, a2_0, a2_1, a2_2z, a2_2 => impl_EntryGood.b some k a0_0z a0_0 a1 a2_0 a2_1 a2_2z a2_2
def impl_EntryGood.enc (r : Bool) : Res := ⟨[.vals false [((.bool r), true)]], []⟩
def impl_EntryGood.ans (k : Nat) : List Arg → Ans
  | [.v (.agg [(.sl 44 a0_0z a0_0)]), .v (.int .i64 a1), .v (.agg [(.int .i64 a2_0), (.int .i64 a2_1), (.nums 5 .u8 a2_2z a2_2)])] => ⟨impl_EntryGood.f k a0_0z a0_0 a1 a2_0 a2_1 a2_2z a2_2, impl_EntryGood.enc⟩
  | _ => Ans.no
def impl_EntryGood.Cs (k : Nat) : CallSem := tab [(16, impl_SignLeave.ans k), (83, impl_entrySame.ans k)]
def impl_EntryGood.cuts : List (Nat × Keep) := []
theorem impl_EntryGood.s (k : Nat) (a0_0z : Bool) (a0_0 : List T) (a1 : Int) (a2_0 : Int) (a2_1 : Int) (a2_2z : Bool) (a2_2 : List Int) : answer Try.prog impl_EntryGood.Cs 100000 impl_EntryGood.cuts [] Try.f18 (k + 1) [.v (.agg [(.sl 44 a0_0z a0_0)]), .v (.int .i64 a1), .v (.agg [(.int .i64 a2_0), (.int .i64 a2_1), (.nums 5 .u8 a2_2z a2_2)])] = impl_EntryGood.b (fun r => some (impl_EntryGood.enc r)) k a0_0z a0_0 a1 a2_0 a2_1 a2_2z a2_2 := by kernel_rfl
theorem impl_EntryGood.b_nat {R R' : Type} (e : R → R') (ret : Bool → Option R) (k : Nat) (a0_0z : Bool) (a0_0 : List T) (a1 : Int) (a2_0 : Int) (a2_1 : Int) (a2_2z : Bool) (a2_2 : List Int) : impl_EntryGood.b (fun r => (ret r).map e) k a0_0z a0_0 a1 a2_0 a2_1 a2_2z a2_2 = (impl_EntryGood.b ret k a0_0z a0_0 a1 a2_0 a2_1 a2_2z a2_2).map e := by
  unfold impl_EntryGood.b
  repeat' first | with_reducible refine nat_cond ?_ ?_ | with_reducible refine nat_bind fun _ => ?_ | rfl
theorem impl_EntryGood.eq (k : Nat) (a0_0z : Bool) (a0_0 : List T) (a1 : Int) (a2_0 : Int) (a2_1 : Int) (a2_2z : Bool) (a2_2 : List Int) : answer Try.prog impl_EntryGood.Cs 100000 impl_EntryGood.cuts [] Try.f18 (k + 1) [.v (.agg [(.sl 44 a0_0z a0_0)]), .v (.int .i64 a1), .v (.agg [(.int .i64 a2_0), (.int .i64 a2_1), (.nums 5 .u8 a2_2z a2_2)])] = (impl_EntryGood.f (k + 1) a0_0z a0_0 a1 a2_0 a2_1 a2_2z a2_2).map impl_EntryGood.enc := by
  refine (impl_EntryGood.s k a0_0z a0_0 a1 a2_0 a2_1 a2_2z a2_2).trans (Eq.trans ?_ (impl_EntryGood.b_nat impl_EntryGood.enc some k a0_0z a0_0 a1 a2_0 a2_1 a2_2z a2_2))
  simp only [Option.map_some]
theorem impl_EntryGood.sound (k : Nat) : SoundF Try.prog 18 (fun a => (impl_EntryGood.ans k a).val) := by
  refine sound_plain (fun args res h => ?_) (fun t n => rfl)
  unfold impl_EntryGood.ans at h
  dsimp only at h
  split at h
  · cases k with
    | zero => cases h
    | succ k =>
      unfold Ans.val at h
      rw [← impl_EntryGood.eq] at h
      exact answer_sound mixed Try.func18 _ _ _ (k + 1) (fun j _ => tab_sound (tab_cons (impl_SignLeave.sound j) (tab_cons (impl_entrySame.sound j) (tab_nil)))) _ _ h
  · exact (Ans.no_val h).elim

/-! loop.example/g00790/impl.TcCode -/
def impl_TcCode.b {R : Type} (ret : Int → Option R) (j0 : Bool → (List T) → Int → Int → Int → Int → Int → Int → Int → Bool → (List T) → Int → Bool → (List T) → Option R) (k : Nat) (a0_0 : Int) (a0_1 : Int) (a0_2 : Int) (a0_3 : Int) (a0_4 : Int) (a1_0z : Bool) (a1_0 : List T) (a2_0 : Int) (a2_1z : Bool) (a2_1 : List T) : Option R :=
  (impl_belongs.f k a0_0 a0_1 a0_2 a0_3 a0_4 a1_0z a1_0).bind fun t0 => cond (!t0) (ret 1) ((impl_TcOk.f k a0_0 a0_1 a0_2 a0_3 a0_4 a2_0 a2_1z a2_1).bind fun t1 => cond (!t1) (ret 1) (j0 a2_1z a2_1 ((a2_1).length : Int) 0 a0_0 a0_1 a0_2 a0_3 a0_4 a1_0z a1_0 a2_0 a2_1z a2_1))
def impl_TcCode.l0b {R : Type} (ret : Int → Option R) (j0 : Bool → (List T) → Int → Int → Int → Int → Int → Int → Int → Bool → (List T) → Int → Bool → (List T) → Option R) (k : Nat) (x22z : Bool) (x22 : List T) (x23 : Int) (x24 : Int) (c3_0 : Int) (c3_1 : Int) (c3_2 : Int) (c3_3 : Int) (c3_4 : Int) (c4_0z : Bool) (c4_0 : List T) (c5_0 : Int) (c5_1z : Bool) (c5_1 : List T) : Option R :=
  cond (decide (x24 < x23)) (cond (decide ((0 : Int) ≤ x24)) (cond (decide (x24 < ((x22).length : Int))) ((impl_EntryGood.f k c4_0z c4_0 c5_0 (((((x22).getD (x24).toNat .bad).cells.getD 0 .bad)).toInt) (((((x22).getD (x24).toNat .bad).cells.getD 1 .bad)).toInt) (((((x22).getD (x24).toNat .bad).cells.getD 2 .bad)).isNil) (((((x22).getD (x24).toNat .bad).cells.getD 2 .bad)).toNums)).bind fun t0 => cond (!t0) (ret 2) (j0 x22z x22 x23 (RowKit.wrap64 (x24 + 1)) c3_0 c3_1 c3_2 c3_3 c3_4 c4_0z c4_0 c5_0 c5_1z c5_1)) (none)) (none)) ((impl_TcBits.f k c3_0 c3_1 c3_2 c3_3 c3_4 c5_0 c5_1z c5_1).bind fun t0 => (impl_IsQuorum.f k c4_0z c4_0 t0.1 t0.2.1).bind fun t1 => cond (!t1) (ret 3) (ret 0))
def impl_TcCode.l0 : Nat → Bool → (List T) → Int → Int → Int → Int → Int → Int → Int → Bool → (List T) → Int → Bool → (List T) → Option Int
  | 0, _, _, _, _, _, _, _, _, _, _, _, _, _, _ => none
  | k + 1, x22z, x22, x23, x24, c3_0, c3_1, c3_2, c3_3, c3_4, c4_0z, c4_0, c5_0, c5_1z, c5_1 => impl_TcCode.l0b some (impl_TcCode.l0 k) k x22z x22 x23 x24 c3_0 c3_1 c3_2 c3_3 c3_4 c4_0z c4_0 c5_0 c5_1z c5_1
def impl_TcCode.f : Nat → Int → Int → Int → Int → Int → Bool → (List T) → Int → Bool → (List T) → Option Int
  | 0, _, _, _, _, _, _, _, _, _, _ => none
  | k + 1, a0_0, a0_1, a0_2, a0_3, a0_4, a1_0z, a1_0, a2_0, a2_1z, a2_1 => impl_TcCode.b some (impl_TcCode.l0 k) k a0_0 a0_1 a0_2 a0_3 a0_4 a1_0z a1_0 a2_0 a2_1z a2_1
def impl_TcCode.enc (r : Int) : Res := ⟨[.vals false [((.int .i64 r), true)]], []⟩
def impl_TcCode.ans (k : Nat) : List Arg → Ans
  | [.v (.agg [(.int .i64 a0_0), (.int .i64 a0_1), (.int .i64 a0_2), (.int .i64 a0_3), (.int .i64 a0_4)]), .v (.agg [(.sl 44 a1_0z a1_0)]), .v (.agg [(.int .i64 a2_0), (.sl 37 a2_1z a2_1)])] => ⟨impl_TcCode.f k a0_0 a0_1 a0_2 a0_3 a0_4 a1_0z a1_0 a2_0 a2_1z a2_1, impl_TcCode.enc⟩
  | _ => Ans.no
def impl_TcCode.Cs (k : Nat) : CallSem := tab [(87, impl_belongs.ans k), (96, impl_TcOk.ans k), (30, impl_TcBits.ans k), (31, impl_IsQuorum.ans k), (18, impl_EntryGood.ans k)]
def impl_TcCode.cuts : List (Nat × Keep) := [(58, ⟨[(3, some []), (4, some []), (5, some []), (22, some []), (23, some []), (24, some [])], [(3, [some [], some [], some [], some [], some []]), (4, [some []]), (5, [some [], some []])]⟩)]
noncomputable def impl_TcCode.K0 : List Fr := framesAt [true, true, false, true, false] (bodyOf Try.f34 impl_TcCode.cuts) []
def impl_TcCode.N0 (x22z : Bool) (x22 : List T) (x23 : Int) (x24 : Int) (c3_0 : Int) (c3_1 : Int) (c3_2 : Int) (c3_3 : Int) (c3_4 : Int) (c4_0z : Bool) (c4_0 : List T) (c5_0 : Int) (c5_1z : Bool) (c5_1 : List T) : St := stOf 45 45 3 [(3, .bp 3 0), (4, .bp 4 0), (5, .bp 5 0), (22, .val ⟨(.sl 37 x22z x22), [], false, none⟩), (23, .val (V.s (.int .i64 x23))), (24, .val (V.s (.int .i64 x24)))] [(3, .cells [V.s (.int .i64 c3_0), V.s (.int .i64 c3_1), V.s (.int .i64 c3_2), V.s (.int .i64 c3_3), V.s (.int .i64 c3_4)]), (4, .cells [⟨(.sl 44 c4_0z c4_0), [], false, none⟩]), (5, .cells [V.s (.int .i64 c5_0), ⟨(.sl 37 c5_1z c5_1), [], false, none⟩])]
theorem impl_TcCode.s (k : Nat) (a0_0 : Int) (a0_1 : Int) (a0_2 : Int) (a0_3 : Int) (a0_4 : Int) (a1_0z : Bool) (a1_0 : List T) (a2_0 : Int) (a2_1z : Bool) (a2_1 : List T) : answer Try.prog impl_TcCode.Cs 100000 impl_TcCode.cuts [] Try.f34 (k + 1) [.v (.agg [(.int .i64 a0_0), (.int .i64 a0_1), (.int .i64 a0_2), (.int .i64 a0_3), (.int .i64 a0_4)]), .v (.agg [(.sl 44 a1_0z a1_0)]), .v (.agg [(.int .i64 a2_0), (.sl 37 a2_1z a2_1)])] = impl_TcCode.b (fun r => some (impl_TcCode.enc r)) (fun x22z x22 x23 x24 c3_0 c3_1 c3_2 c3_3 c3_4 c4_0z c4_0 c5_0 c5_1z c5_1 => rounds Try.prog impl_TcCode.Cs (finish Try.prog [] Try.f34 [.v (.agg [(.int .i64 a0_0), (.int .i64 a0_1), (.int .i64 a0_2), (.int .i64 a0_3), (.int .i64 a0_4)]), .v (.agg [(.sl 44 a1_0z a1_0)]), .v (.agg [(.int .i64 a2_0), (.sl 37 a2_1z a2_1)])]) 100000 k impl_TcCode.K0 (impl_TcCode.N0 x22z x22 x23 x24 c3_0 c3_1 c3_2 c3_3 c3_4 c4_0z c4_0 c5_0 c5_1z c5_1)) k a0_0 a0_1 a0_2 a0_3 a0_4 a1_0z a1_0 a2_0 a2_1z a2_1 := by kernel_rfl
theorem impl_TcCode.s0 (k : Nat) (G : List Fr → St → Option Res) (a0_0 : Int) (a0_1 : Int) (a0_2 : Int) (a0_3 : Int) (a0_4 : Int) (a1_0z : Bool) (a1_0 : List T) (a2_0 : Int) (a2_1z : Bool) (a2_1 : List T) (yx22z : Bool) (yx22 : List T) (yx23 : Int) (yx24 : Int) (yc3_0 : Int) (yc3_1 : Int) (yc3_2 : Int) (yc3_3 : Int) (yc3_4 : Int) (yc4_0z : Bool) (yc4_0 : List T) (yc5_0 : Int) (yc5_1z : Bool) (yc5_1 : List T) : resume Try.prog (impl_TcCode.Cs k) G (finish Try.prog [] Try.f34 [.v (.agg [(.int .i64 a0_0), (.int .i64 a0_1), (.int .i64 a0_2), (.int .i64 a0_3), (.int .i64 a0_4)]), .v (.agg [(.sl 44 a1_0z a1_0)]), .v (.agg [(.int .i64 a2_0), (.sl 37 a2_1z a2_1)])]) 100000 impl_TcCode.K0 (impl_TcCode.N0 yx22z yx22 yx23 yx24 yc3_0 yc3_1 yc3_2 yc3_3 yc3_4 yc4_0z yc4_0 yc5_0 yc5_1z yc5_1) = impl_TcCode.l0b (fun r => some (impl_TcCode.enc r)) (fun x22z x22 x23 x24 c3_0 c3_1 c3_2 c3_3 c3_4 c4_0z c4_0 c5_0 c5_1z c5_1 => G impl_TcCode.K0 (impl_TcCode.N0 x22z x22 x23 x24 c3_0 c3_1 c3_2 c3_3 c3_4 c4_0z c4_0 c5_0 c5_1z c5_1)) k yx22z yx22 yx23 yx24 yc3_0 yc3_1 yc3_2 yc3_3 yc3_4 yc4_0z yc4_0 yc5_0 yc5_1z yc5_1 := by kernel_rfl
theorem impl_TcCode.b_nat {R R' : Type} (e : R → R') (ret : Int → Option R) (j0 : Bool → (List T) → Int → Int → Int → Int → Int → Int → Int → Bool → (List T) → Int → Bool → (List T) → Option R) (k : Nat) (a0_0 : Int) (a0_1 : Int) (a0_2 : Int) (a0_3 : Int) (a0_4 : Int) (a1_0z : Bool) (a1_0 : List T) (a2_0 : Int) (a2_1z : Bool) (a2_1 : List T) : impl_TcCode.b (fun r => (ret r).map e) (fun x22z x22 x23 x24 c3_0 c3_1 c3_2 c3_3 c3_4 c4_0z c4_0 c5_0 c5_1z c5_1 => (j0 x22z x22 x23 x24 c3_0 c3_1 c3_2 c3_3 c3_4 c4_0z c4_0 c5_0 c5_1z c5_1).map e) k a0_0 a0_1 a0_2 a0_3 a0_4 a1_0z a1_0 a2_0 a2_1z a2_1 = (impl_TcCode.b ret j0 k a0_0 a0_1 a0_2 a0_3 a0_4 a1_0z a1_0 a2_0 a2_1z a2_1).map e := by
  unfold impl_TcCode.b
  repeat' first | with_reducible refine nat_cond ?_ ?_ | with_reducible refine nat_bind fun _ => ?_ | rfl
theorem impl_TcCode.l0b_nat {R R' : Type} (e : R → R') (ret : Int → Option R) (j0 : Bool → (List T) → Int → Int → Int → Int → Int → Int → Int → Bool → (List T) → Int → Bool → (List T) → Option R) (k : Nat) (x22z : Bool) (x22 : List T) (x23 : Int) (x24 : Int) (c3_0 : Int) (c3_1 : Int) (c3_2 : Int) (c3_3 : Int) (c3_4 : Int) (c4_0z : Bool) (c4_0 : List T) (c5_0 : Int) (c5_1z : Bool) (c5_1 : List T) : impl_TcCode.l0b (fun r => (ret r).map e) (fun x22z x22 x23 x24 c3_0 c3_1 c3_2 c3_3 c3_4 c4_0z c4_0 c5_0 c5_1z c5_1 => (j0 x22z x22 x23 x24 c3_0 c3_1 c3_2 c3_3 c3_4 c4_0z c4_0 c5_0 c5_1z c5_1).map e) k x22z x22 x23 x24 c3_0 c3_1 c3_2 c3_3 c3_4 c4_0z c4_0 c5_0 c5_1z c5_1 = (impl_TcCode.l0b ret j0 k x22z x22 x23 x24 c3_0 c3_1 c3_2 c3_3 c3_4 c4_0z c4_0 c5_0 c5_1z c5_1).map e := by
  unfold impl_TcCode.l0b
  repeat' first | with_reducible refine nat_cond ?_ ?_ | with_reducible refine nat_bind fun _ => ?_ | rfl
theorem impl_TcCode.rounds_eq (a0_0 : Int) (a0_1 : Int) (a0_2 : Int) (a0_3 : Int) (a0_4 : Int) (a1_0z : Bool) (a1_0 : List T) (a2_0 : Int) (a2_1z : Bool) (a2_1 : List T) : ∀ k, (∀ (x22z : Bool) (x22 : List T) (x23 : Int) (x24 : Int) (c3_0 : Int) (c3_1 : Int) (c3_2 : Int) (c3_3 : Int) (c3_4 : Int) (c4_0z : Bool) (c4_0 : List T) (c5_0 : Int) (c5_1z : Bool) (c5_1 : List T), rounds Try.prog impl_TcCode.Cs (finish Try.prog [] Try.f34 [.v (.agg [(.int .i64 a0_0), (.int .i64 a0_1), (.int .i64 a0_2), (.int .i64 a0_3), (.int .i64 a0_4)]), .v (.agg [(.sl 44 a1_0z a1_0)]), .v (.agg [(.int .i64 a2_0), (.sl 37 a2_1z a2_1)])]) 100000 k impl_TcCode.K0 (impl_TcCode.N0 x22z x22 x23 x24 c3_0 c3_1 c3_2 c3_3 c3_4 c4_0z c4_0 c5_0 c5_1z c5_1) = (impl_TcCode.l0 k x22z x22 x23 x24 c3_0 c3_1 c3_2 c3_3 c3_4 c4_0z c4_0 c5_0 c5_1z c5_1).map impl_TcCode.enc)
  | 0 => fun _ _ _ _ _ _ _ _ _ _ _ _ _ _ => rfl
  | k + 1 => by
    have ih := impl_TcCode.rounds_eq a0_0 a0_1 a0_2 a0_3 a0_4 a1_0z a1_0 a2_0 a2_1z a2_1 k
    refine fun _ _ _ _ _ _ _ _ _ _ _ _ _ _ => ?_
    · refine (impl_TcCode.s0 k _ a0_0 a0_1 a0_2 a0_3 a0_4 a1_0z a1_0 a2_0 a2_1z a2_1 _ _ _ _ _ _ _ _ _ _ _ _ _ _).trans (Eq.trans ?_ (impl_TcCode.l0b_nat impl_TcCode.enc some (impl_TcCode.l0 k) k _ _ _ _ _ _ _ _ _ _ _ _ _ _))
      simp only [ih, Option.map_some]
theorem impl_TcCode.eq (k : Nat) (a0_0 : Int) (a0_1 : Int) (a0_2 : Int) (a0_3 : Int) (a0_4 : Int) (a1_0z : Bool) (a1_0 : List T) (a2_0 : Int) (a2_1z : Bool) (a2_1 : List T) : answer Try.prog impl_TcCode.Cs 100000 impl_TcCode.cuts [] Try.f34 (k + 1) [.v (.agg [(.int .i64 a0_0), (.int .i64 a0_1), (.int .i64 a0_2), (.int .i64 a0_3), (.int .i64 a0_4)]), .v (.agg [(.sl 44 a1_0z a1_0)]), .v (.agg [(.int .i64 a2_0), (.sl 37 a2_1z a2_1)])] = (impl_TcCode.f (k + 1) a0_0 a0_1 a0_2 a0_3 a0_4 a1_0z a1_0 a2_0 a2_1z a2_1).map impl_TcCode.enc := by
  have ih := impl_TcCode.rounds_eq a0_0 a0_1 a0_2 a0_3 a0_4 a1_0z a1_0 a2_0 a2_1z a2_1 k
  refine (impl_TcCode.s k a0_0 a0_1 a0_2 a0_3 a0_4 a1_0z a1_0 a2_0 a2_1z a2_1).trans (Eq.trans ?_ (impl_TcCode.b_nat impl_TcCode.enc some (impl_TcCode.l0 k) k a0_0 a0_1 a0_2 a0_3 a0_4 a1_0z a1_0 a2_0 a2_1z a2_1))
  simp only [ih, Option.map_some]
theorem impl_TcCode.sound (k : Nat) : SoundF Try.prog 34 (fun a => (impl_TcCode.ans k a).val) := by
  refine sound_plain (fun args res h => ?_) (fun t n => rfl)
  unfold impl_TcCode.ans at h
  dsimp only at h
  split at h
  · cases k with
    | zero => cases h
    | succ k =>
      unfold Ans.val at h
      rw [← impl_TcCode.eq] at h
      exact answer_sound mixed Try.func34 _ _ _ (k + 1) (fun j _ => tab_sound (tab_cons (impl_belongs.sound j) (tab_cons (impl_TcOk.sound j) (tab_cons (impl_TcBits.sound j) (tab_cons (impl_IsQuorum.sound j) (tab_cons (impl_EntryGood.sound j) (tab_nil))))))) _ _ h
  · exact (Ans.no_val h).elim

/-! loop.example/g00790/impl.TcHigh -/
def impl_TcHigh.b {R : Type} (ret : Int → Option R) (j0 : Int → Bool → (List T) → Int → Int → Option R) (k : Nat) (a0_0 : Int) (a0_1z : Bool) (a0_1 : List T) : Option R :=
  j0 (-1) a0_1z a0_1 ((a0_1).length : Int) 0
def impl_TcHigh.l0b {R : Type} (ret : Int → Option R) (j0 : Int → Bool → (List T) → Int → Int → Option R) (k : Nat) (x3 : Int) (x7z : Bool) (x7 : List T) (x8 : Int) (x9 : Int) : Option R :=
  cond (decide (x9 < x8)) (cond (decide ((0 : Int) ≤ x9)) (cond (decide (x9 < ((x7).length : Int))) (cond (decide (x9 = 0)) (j0 (((((x7).getD (x9).toNat .bad).cells.getD 1 .bad)).toInt) x7z x7 x8 (RowKit.wrap64 (x9 + 1))) (cond (decide (((((x7).getD (x9).toNat .bad).cells.getD 1 .bad)).toInt > x3)) (j0 (((((x7).getD (x9).toNat .bad).cells.getD 1 .bad)).toInt) x7z x7 x8 (RowKit.wrap64 (x9 + 1))) (j0 x3 x7z x7 x8 (RowKit.wrap64 (x9 + 1))))) (none)) (none)) (ret x3)
def impl_TcHigh.l0 : Nat → Int → Bool → (List T) → Int → Int → Option Int
  | 0, _, _, _, _, _ => none
  | k + 1, x3, x7z, x7, x8, x9 => impl_TcHigh.l0b some (impl_TcHigh.l0 k) k x3 x7z x7 x8 x9
def impl_TcHigh.f : Nat → Int → Bool → (List T) → Option Int
  | 0, _, _, _ => none
  | k + 1, a0_0, a0_1z, a0_1 => impl_TcHigh.b some (impl_TcHigh.l0 k) k a0_0 a0_1z a0_1
def impl_TcHigh.enc (r : Int) : Res := ⟨[.vals false [((.int .i64 r), true)]], []⟩
def impl_TcHigh.ans (k : Nat) : List Arg → Ans
  | [.v (.agg [(.int .i64 a0_0), (.sl 37 a0_1z a0_1)])] => ⟨impl_TcHigh.f k a0_0 a0_1z a0_1, impl_TcHigh.enc⟩
  | _ => Ans.no
def impl_TcHigh.Cs (k : Nat) : CallSem := tab []
def impl_TcHigh.cuts : List (Nat × Keep) := [(58, ⟨[(3, some []), (7, some []), (8, some []), (9, some [])], []⟩)]
noncomputable def impl_TcHigh.K0 : List Fr := framesAt [true, true, false, true, false] (bodyOf Try.f35 impl_TcHigh.cuts) []
def impl_TcHigh.N0 (x3 : Int) (x7z : Bool) (x7 : List T) (x8 : Int) (x9 : Int) : St := stOf 26 26 1 [(3, .val (V.s (.int .i64 x3))), (7, .val ⟨(.sl 37 x7z x7), [], false, none⟩), (8, .val (V.s (.int .i64 x8))), (9, .val (V.s (.int .i64 x9)))] []
theorem impl_TcHigh.s (k : Nat) (a0_0 : Int) (a0_1z : Bool) (a0_1 : List T) : answer Try.prog impl_TcHigh.Cs 100000 impl_TcHigh.cuts [] Try.f35 (k + 1) [.v (.agg [(.int .i64 a0_0), (.sl 37 a0_1z a0_1)])] = impl_TcHigh.b (fun r => some (impl_TcHigh.enc r)) (fun x3 x7z x7 x8 x9 => rounds Try.prog impl_TcHigh.Cs (finish Try.prog [] Try.f35 [.v (.agg [(.int .i64 a0_0), (.sl 37 a0_1z a0_1)])]) 100000 k impl_TcHigh.K0 (impl_TcHigh.N0 x3 x7z x7 x8 x9)) k a0_0 a0_1z a0_1 := by kernel_rfl
theorem impl_TcHigh.s0 (k : Nat) (G : List Fr → St → Option Res) (a0_0 : Int) (a0_1z : Bool) (a0_1 : List T) (yx3 : Int) (yx7z : Bool) (yx7 : List T) (yx8 : Int) (yx9 : Int) : resume Try.prog (impl_TcHigh.Cs k) G (finish Try.prog [] Try.f35 [.v (.agg [(.int .i64 a0_0), (.sl 37 a0_1z a0_1)])]) 100000 impl_TcHigh.K0 (impl_TcHigh.N0 yx3 yx7z yx7 yx8 yx9) = impl_TcHigh.l0b (fun r => some (impl_TcHigh.enc r)) (fun x3 x7z x7 x8 x9 => G impl_TcHigh.K0 (impl_TcHigh.N0 x3 x7z x7 x8 x9)) k yx3 yx7z yx7 yx8 yx9 := by kernel_rfl
theorem impl_TcHigh.b_nat {R R' : Type} (e : R → R') (ret : Int → Option R) (j0 : Int → Bool → (List T) → Int → Int → Option R) (k : Nat) (a0_0 : Int) (a0_1z : Bool) (a0_1 : List T) : impl_TcHigh.b (fun r => (ret r).map e) (fun x3 x7z x7 x8 x9 => (j0 x3 x7z x7 x8 x9).map e) k a0_0 a0_1z a0_1 = (impl_TcHigh.b ret j0 k a0_0 a0_1z a0_1).map e := by
  unfold impl_TcHigh.b
  repeat' first | with_reducible refine nat_cond ?_ ?_ | with_reducible refine nat_bind fun _ => ?_ | rfl
theorem impl_TcHigh.l0b_nat {R R' : Type} (e : R → R') (ret : Int → Option R) (j0 : Int → Bool → (List T) → Int → Int → Option R) (k : Nat) (x3 : Int) (x7z : Bool) (x7 : List T) (x8 : Int) (x9 : Int) : impl_TcHigh.l0b (fun r => (ret r).map e) (fun x3 x7z x7 x8 x9 => (j0 x3 x7z x7 x8 x9).map e) k x3 x7z x7 x8 x9 = (impl_TcHigh.l0b ret j0 k x3 x7z x7 x8 x9).map e := by
  unfold impl_TcHigh.l0b
  repeat' first | with_reducible refine nat_cond ?_ ?_ | with_reducible refine nat_bind fun _ => ?_ | rfl
theorem impl_TcHigh.rounds_eq (a0_0 : Int) (a0_1z : Bool) (a0_1 : List T) : ∀ k, (∀ (x3 : Int) (x7z : Bool) (x7 : List T) (x8 : Int) (x9 : Int), rounds Try.prog impl_TcHigh.Cs (finish Try.prog [] Try.f35 [.v (.agg [(.int .i64 a0_0), (.sl 37 a0_1z a0_1)])]) 100000 k impl_TcHigh.K0 (impl_TcHigh.N0 x3 x7z x7 x8 x9) = (impl_TcHigh.l0 k x3 x7z x7 x8 x9).map impl_TcHigh.enc)
  | 0 => fun _ _ _ _ _ => rfl
  | k + 1 => by
    have ih := impl_TcHigh.rounds_eq a0_0 a0_1z a0_1 k
    refine fun _ _ _ _ _ => ?_
    · refine (impl_TcHigh.s0 k _ a0_0 a0_1z a0_1 _ _ _ _ _).trans (Eq.trans ?_ (impl_TcHigh.l0b_nat impl_TcHigh.enc some (impl_TcHigh.l0 k) k _ _ _ _ _))
      simp only [ih, Option.map_some]
theorem impl_TcHigh.eq (k : Nat) (a0_0 : Int) (a0_1z : Bool) (a0_1 : List T) : answer Try.prog impl_TcHigh.Cs 100000 impl_TcHigh.cuts [] Try.f35 (k + 1) [.v (.agg [(.int .i64 a0_0), (.sl 37 a0_1z a0_1)])] = (impl_TcHigh.f (k + 1) a0_0 a0_1z a0_1).map impl_TcHigh.enc := by
  have ih := impl_TcHigh.rounds_eq a0_0 a0_1z a0_1 k
  refine (impl_TcHigh.s k a0_0 a0_1z a0_1).trans (Eq.trans ?_ (impl_TcHigh.b_nat impl_TcHigh.enc some (impl_TcHigh.l0 k) k a0_0 a0_1z a0_1))
  simp only [ih, Option.map_some]
theorem impl_TcHigh.sound (k : Nat) : SoundF Try.prog 35 (fun a => (impl_TcHigh.ans k a).val) := by
  refine sound_plain (fun args res h => ?_) (fun t n => rfl)
  unfold impl_TcHigh.ans at h
  dsimp only at h
  split at h
  · cases k with
    | zero => cases h
    | succ k =>
      unfold Ans.val at h
      rw [← impl_TcHigh.eq] at h
      exact answer_sound mixed Try.func35 _ _ _ (k + 1) (fun j _ => tab_sound (tab_nil)) _ _ h
  · exact (Ans.no_val h).elim

/-! loop.example/g00790/impl.nameAt -/
def impl_nameAt.b {R : Type} (ret : ByteArray → Option R) (k : Nat) (a0 : Int) (a1z : Bool) (a1 : List T) : Option R :=
  (impl_within.f k a0 0 (RowKit.wrap64 (((a1).length : Int) - 1))).bind fun t0 => cond (!t0) (ret (⟨#[]⟩ : ByteArray)) (cond (decide ((0 : Int) ≤ a0)) (cond (decide (a0 < ((a1).length : Int))) (ret (((((a1).getD (a0).toNat .bad).cells.getD 0 .bad)).toStr)) (none)) (none))
def impl_nameAt.f : Nat → Int → Bool → (List T) → Option ByteArray
  | 0, _, _, _ => none
  | k + 1, a0, a1z, a1 => impl_nameAt.b some k a0 a1z a1
def impl_nameAt.enc (r : ByteArray) : Res := ⟨[.vals false [((.str r), true)]], []⟩
def impl_nameAt.ans (k : Nat) : List Arg → Ans
  | [.v (.int .i64 a0), .v (.sl 9 a1z a1)] => ⟨impl_nameAt.f k a0 a1z a1, impl_nameAt.enc⟩
  | _ => Ans.no
def impl_nameAt.Cs (k : Nat) : CallSem := tab [(79, impl_within.ans k)]
def impl_nameAt.cuts : List (Nat × Keep) := []
theorem impl_nameAt.s (k : Nat) (a0 : Int) (a1z : Bool) (a1 : List T) : answer Try.prog impl_nameAt.Cs 100000 impl_nameAt.cuts [] Try.f97 (k + 1) [.v (.int .i64 a0), .v (.sl 9 a1z a1)] = impl_nameAt.b (fun r => some (impl_nameAt.enc r)) k a0 a1z a1 := by kernel_rfl
theorem impl_nameAt.b_nat {R R' : Type} (e : R → R') (ret : ByteArray → Option R) (k : Nat) (a0 : Int) (a1z : Bool) (a1 : List T) : impl_nameAt.b (fun r => (ret r).map e) k a0 a1z a1 = (impl_nameAt.b ret k a0 a1z a1).map e := by
  unfold impl_nameAt.b
  repeat' first | with_reducible refine nat_cond ?_ ?_ | with_reducible refine nat_bind fun _ => ?_ | rfl
theorem impl_nameAt.eq (k : Nat) (a0 : Int) (a1z : Bool) (a1 : List T) : answer Try.prog impl_nameAt.Cs 100000 impl_nameAt.cuts [] Try.f97 (k + 1) [.v (.int .i64 a0), .v (.sl 9 a1z a1)] = (impl_nameAt.f (k + 1) a0 a1z a1).map impl_nameAt.enc := by
  refine (impl_nameAt.s k a0 a1z a1).trans (Eq.trans ?_ (impl_nameAt.b_nat impl_nameAt.enc some k a0 a1z a1))
  simp only [Option.map_some]
theorem impl_nameAt.sound (k : Nat) : SoundF Try.prog 97 (fun a => (impl_nameAt.ans k a).val) := by
  refine sound_plain (fun args res h => ?_) (fun t n => rfl)
  unfold impl_nameAt.ans at h
  dsimp only at h
  split at h
  · cases k with
    | zero => cases h
    | succ k =>
      unfold Ans.val at h
      rw [← impl_nameAt.eq] at h
      exact answer_sound mixed Try.func97 _ _ _ (k + 1) (fun j _ => tab_sound (tab_cons (impl_within.sound j) (tab_nil))) _ _ h
  · exact (Ans.no_val h).elim

/-! loop.example/g00790/impl.CeName -/
def impl_CeName.b {R : Type} (ret : ByteArray → Option R) (k : Nat) (a0 : Int) : Option R :=
  (impl_nameAt.f k a0 false ([(.str (⟨#[111, 107]⟩ : ByteArray)), (.str (⟨#[102, 111, 114, 109]⟩ : ByteArray)), (.str (⟨#[116, 97, 103]⟩ : ByteArray)), (.str (⟨#[119, 101, 105, 103, 104, 116]⟩ : ByteArray)), (.str (⟨#[108, 105, 110, 107]⟩ : ByteArray)), (.str (⟨#[118, 105, 101, 119]⟩ : ByteArray))] : List T)).bind fun t0 => ret t0
def impl_CeName.f : Nat → Int → Option ByteArray
  | 0, _ => none
  | k + 1, a0 => impl_CeName.b some k a0
def impl_CeName.enc (r : ByteArray) : Res := ⟨[.vals false [((.str r), true)]], []⟩
def impl_CeName.ans (k : Nat) : List Arg → Ans
  | [.v (.int .i64 a0)] => ⟨impl_CeName.f k a0, impl_CeName.enc⟩
  | _ => Ans.no
def impl_CeName.Cs (k : Nat) : CallSem := tab [(97, impl_nameAt.ans k)]
def impl_CeName.cuts : List (Nat × Keep) := []
theorem impl_CeName.s (k : Nat) (a0 : Int) : answer Try.prog impl_CeName.Cs 100000 impl_CeName.cuts [] Try.f36 (k + 1) [.v (.int .i64 a0)] = impl_CeName.b (fun r => some (impl_CeName.enc r)) k a0 := by kernel_rfl
theorem impl_CeName.b_nat {R R' : Type} (e : R → R') (ret : ByteArray → Option R) (k : Nat) (a0 : Int) : impl_CeName.b (fun r => (ret r).map e) k a0 = (impl_CeName.b ret k a0).map e := by
  unfold impl_CeName.b
  repeat' first | with_reducible refine nat_cond ?_ ?_ | with_reducible refine nat_bind fun _ => ?_ | rfl
theorem impl_CeName.eq (k : Nat) (a0 : Int) : answer Try.prog impl_CeName.Cs 100000 impl_CeName.cuts [] Try.f36 (k + 1) [.v (.int .i64 a0)] = (impl_CeName.f (k + 1) a0).map impl_CeName.enc := by
  refine (impl_CeName.s k a0).trans (Eq.trans ?_ (impl_CeName.b_nat impl_CeName.enc some k a0))
  simp only [Option.map_some]
theorem impl_CeName.sound (k : Nat) : SoundF Try.prog 36 (fun a => (impl_CeName.ans k a).val) := by
  refine sound_plain (fun args res h => ?_) (fun t n => rfl)
  unfold impl_CeName.ans at h
  dsimp only at h
  split at h
  · cases k with
    | zero => cases h
    | succ k =>
      unfold Ans.val at h
      rw [← impl_CeName.eq] at h
      exact answer_sound mixed Try.func36 _ _ _ (k + 1) (fun j _ => tab_sound (tab_cons (impl_nameAt.sound j) (tab_nil))) _ _ h
  · exact (Ans.no_val h).elim

/-! loop.example/g00790/laws.FnBuild -/
def laws_FnBuild.b {R : Type} (ret : Bool → Option R) (j0 : Bool → (List Int) → Int → Bool → Bool → Bool → (List Int) → Bool → Int → Int → Int → Int → Int → Int → Bool → (List T) → Int → Int → Bool → (List Int) → Bool → (List Int) → Bool → (List T) → Int → Bool → (List T) → Option R) (k : Nat) (a0z : Bool) (a0 : List Int) : Option R :=
  cond (decide (((a0).length : Int) > 1048576)) (ret true) ((spec_MakeTable.f k a0z a0).bind fun t0 => (spec_MakeBits.f k a0z a0 t0.1 1).bind fun t1 => (spec_MakeHash.f k a0z a0 1).bind fun t2 => (spec_MakeNum.f k a0z a0 9).bind fun t3 => (impl_BuildQc.f k t0.1 t0.2.1 t0.2.2.1 t0.2.2.2.1 t0.2.2.2.2.1 t0.2.2.2.2.2.1 t0.2.2.2.2.2.2 9 4 t2.1 t2.2 t1.1 t1.2).bind fun t4 => (impl_BuildTc.f k t0.1 t0.2.1 t0.2.2.1 t0.2.2.2.1 t0.2.2.2.2.1 t0.2.2.2.2.2.1 t0.2.2.2.2.2.2 9 t3 t1.1 t1.2).bind fun t5 => (impl_TcBits.f k t0.1 t0.2.1 t0.2.2.1 t0.2.2.2.1 t0.2.2.2.2.1 t5.1 t5.2.1 t5.2.2.1).bind fun t6 => (impl_IsQuorum.f k t0.2.2.2.2.2.1 t0.2.2.2.2.2.2 t1.1 t1.2).bind fun t7 => cond t7 (j0 t1.1 t1.2 t3 t4.2.2.2.2.2.2.2.2 t5.2.2.2 t6.1 t6.2.1 t6.2.2 0 t0.1 t0.2.1 t0.2.2.1 t0.2.2.2.1 t0.2.2.2.2.1 t0.2.2.2.2.2.1 t0.2.2.2.2.2.2 t4.1 t4.2.1 t4.2.2.1 t4.2.2.2.1 t4.2.2.2.2.1 t4.2.2.2.2.2.1 t4.2.2.2.2.2.2.1 t4.2.2.2.2.2.2.2.1 t5.1 t5.2.1 t5.2.2.1) (j0 t1.1 t1.2 t3 t4.2.2.2.2.2.2.2.2 t5.2.2.2 t6.1 t6.2.1 t6.2.2 3 t0.1 t0.2.1 t0.2.2.1 t0.2.2.2.1 t0.2.2.2.2.1 t0.2.2.2.2.2.1 t0.2.2.2.2.2.2 t4.1 t4.2.1 t4.2.2.1 t4.2.2.2.1 t4.2.2.2.2.1 t4.2.2.2.2.2.1 t4.2.2.2.2.2.2.1 t4.2.2.2.2.2.2.2.1 t5.1 t5.2.1 t5.2.2.1))
def laws_FnBuild.l0b {R : Type} (ret : Bool → Option R) (j0 : Bool → (List Int) → Int → Bool → Bool → Bool → (List Int) → Bool → Int → Int → Int → Int → Int → Int → Bool → (List T) → Int → Int → Bool → (List Int) → Bool → (List Int) → Bool → (List T) → Int → Bool → (List T) → Option R) (k : Nat) (x5z : Bool) (x5 : List Int) (x7 : Int) (x9 : Bool) (x11 : Bool) (x12z : Bool) (x12 : List Int) (x13 : Bool) (x14 : Int) (c3_0 : Int) (c3_1 : Int) (c3_2 : Int) (c3_3 : Int) (c3_4 : Int) (c4_0z : Bool) (c4_0 : List T) (c8_0 : Int) (c8_1 : Int) (c8_2z : Bool) (c8_2 : List Int) (c8_3z : Bool) (c8_3 : List Int) (c8_4z : Bool) (c8_4 : List T) (c10_0 : Int) (c10_1z : Bool) (c10_1 : List T) : Option R :=
  cond x9 (cond x11 (cond x13 ((impl_SameBytes.f k x12z x12 x5z x5).bind fun t0 => cond t0 ((impl_QcCode.f k c3_0 c3_1 c3_2 c3_3 c3_4 c4_0z c4_0 c8_0 c8_1 c8_2z c8_2 c8_3z c8_3 c8_4z c8_4).bind fun t1 => cond (decide (t1 = x14)) ((impl_TcCode.f k c3_0 c3_1 c3_2 c3_3 c3_4 c4_0z c4_0 c10_0 c10_1z c10_1).bind fun t2 => cond (decide (t2 = x14)) ((impl_TcHigh.f k c10_0 c10_1z c10_1).bind fun t3 => cond (decide (t3 = x7)) ((impl_CeName.f k x14).bind fun t4 => ret (!decide (t4 = (⟨#[]⟩ : ByteArray)))) (cond (decide (((c10_1).length : Int) = 0)) ((impl_TcHigh.f k c10_0 c10_1z c10_1).bind fun t4 => cond (decide (t4 = (-1))) ((impl_CeName.f k x14).bind fun t5 => ret (!decide (t5 = (⟨#[]⟩ : ByteArray)))) (ret false)) (ret false))) (ret false)) (ret false)) (ret false)) (ret false)) (ret false)) (ret false)
def laws_FnBuild.l0 : Nat → Bool → (List Int) → Int → Bool → Bool → Bool → (List Int) → Bool → Int → Int → Int → Int → Int → Int → Bool → (List T) → Int → Int → Bool → (List Int) → Bool → (List Int) → Bool → (List T) → Int → Bool → (List T) → Option Bool
  | 0, _, _, _, _, _, _, _, _, _, _, _, _, _, _, _, _, _, _, _, _, _, _, _, _, _, _, _ => none
  | k + 1, x5z, x5, x7, x9, x11, x12z, x12, x13, x14, c3_0, c3_1, c3_2, c3_3, c3_4, c4_0z, c4_0, c8_0, c8_1, c8_2z, c8_2, c8_3z, c8_3, c8_4z, c8_4, c10_0, c10_1z, c10_1 => laws_FnBuild.l0b some (laws_FnBuild.l0 k) k x5z x5 x7 x9 x11 x12z x12 x13 x14 c3_0 c3_1 c3_2 c3_3 c3_4 c4_0z c4_0 c8_0 c8_1 c8_2z c8_2 c8_3z c8_3 c8_4z c8_4 c10_0 c10_1z c10_1
def laws_FnBuild.f : Nat → Bool → (List Int) → Option Bool
  | 0, _, _ => none
  | k + 1, a0z, a0 => laws_FnBuild.b some (laws_FnBuild.l0 k) k a0z a0
def laws_FnBuild.enc (r : Bool) : Res := ⟨[.vals false [((.bool r), true)]], []⟩
def laws_FnBuild.ans (k : Nat) : List Arg → Ans
  | [.v (.nums 5 .u8 a0z a0)] => ⟨laws_FnBuild.f k a0z a0, laws_FnBuild.enc⟩
  | _ => Ans.no
def laws_FnBuild.Cs (k : Nat) : CallSem := tab [(12, spec_MakeTable.ans k), (22, spec_MakeBits.ans k), (14, spec_MakeHash.ans k), (13, spec_MakeNum.ans k), (23, impl_BuildQc.ans k), (29, impl_BuildTc.ans k), (30, impl_TcBits.ans k), (31, impl_IsQuorum.ans k), (32, impl_SameBytes.ans k), (33, impl_QcCode.ans k), (34, impl_TcCode.ans k), (35, impl_TcHigh.ans k), (36, impl_CeName.ans k)]
def laws_FnBuild.cuts : List (Nat × Keep) := [(2047, ⟨[(3, some []), (4, some []), (5, none), (7, some []), (8, some []), (9, some []), (10, some []), (11, some []), (12, none), (13, some []), (14, some [])], [(3, [some [], some [], some [], some [], some []]), (4, [none]), (8, [some [], some [], none, none, none]), (10, [some [], none])]⟩)]
noncomputable def laws_FnBuild.K0 : List Fr := framesAt [true, true, true, true, true, true, true, true, true, true] (bodyOf Try.f5 laws_FnBuild.cuts) []
def laws_FnBuild.N0 (x5z : Bool) (x5 : List Int) (x7 : Int) (x9 : Bool) (x11 : Bool) (x12z : Bool) (x12 : List Int) (x13 : Bool) (x14 : Int) (c3_0 : Int) (c3_1 : Int) (c3_2 : Int) (c3_3 : Int) (c3_4 : Int) (c4_0z : Bool) (c4_0 : List T) (c8_0 : Int) (c8_1 : Int) (c8_2z : Bool) (c8_2 : List Int) (c8_3z : Bool) (c8_3 : List Int) (c8_4z : Bool) (c8_4 : List T) (c10_0 : Int) (c10_1z : Bool) (c10_1 : List T) : St := stOf 106 106 1 [(3, .bp 3 0), (4, .bp 4 0), (5, .val ⟨(.nums 5 .u8 x5z x5), [.l 5 0], true, some (.l 5 0)⟩), (7, .val (V.s (.int .i64 x7))), (8, .bp 8 0), (9, .val (V.s (.bool x9))), (10, .bp 10 0), (11, .val (V.s (.bool x11))), (12, .val ⟨(.nums 5 .u8 x12z x12), [.l 12 0], true, some (.l 12 0)⟩), (13, .val (V.s (.bool x13))), (14, .val (V.s (.int .i64 x14)))] [(3, .cells [V.s (.int .i64 c3_0), V.s (.int .i64 c3_1), V.s (.int .i64 c3_2), V.s (.int .i64 c3_3), V.s (.int .i64 c3_4)]), (4, .cells [⟨(.sl 44 c4_0z c4_0), [.l 4 1], true, some (.l 4 1)⟩]), (8, .cells [V.s (.int .i64 c8_0), V.s (.int .i64 c8_1), ⟨(.nums 5 .u8 c8_2z c8_2), [.l 8 3], true, some (.l 8 3)⟩, ⟨(.nums 5 .u8 c8_3z c8_3), [.l 8 4], true, some (.l 8 4)⟩, ⟨(.sl 22 c8_4z c8_4), [.l 8 5], true, some (.l 8 5)⟩]), (10, .cells [V.s (.int .i64 c10_0), ⟨(.sl 37 c10_1z c10_1), [.l 10 2], true, some (.l 10 2)⟩])]
theorem laws_FnBuild.s (k : Nat) (a0z : Bool) (a0 : List Int) : answer Try.prog laws_FnBuild.Cs 100000 laws_FnBuild.cuts [] Try.f5 (k + 1) [.v (.nums 5 .u8 a0z a0)] = laws_FnBuild.b (fun r => some (laws_FnBuild.enc r)) (fun x5z x5 x7 x9 x11 x12z x12 x13 x14 c3_0 c3_1 c3_2 c3_3 c3_4 c4_0z c4_0 c8_0 c8_1 c8_2z c8_2 c8_3z c8_3 c8_4z c8_4 c10_0 c10_1z c10_1 => rounds Try.prog laws_FnBuild.Cs (finish Try.prog [] Try.f5 [.v (.nums 5 .u8 a0z a0)]) 100000 k laws_FnBuild.K0 (laws_FnBuild.N0 x5z x5 x7 x9 x11 x12z x12 x13 x14 c3_0 c3_1 c3_2 c3_3 c3_4 c4_0z c4_0 c8_0 c8_1 c8_2z c8_2 c8_3z c8_3 c8_4z c8_4 c10_0 c10_1z c10_1)) k a0z a0 := by kernel_rfl
theorem laws_FnBuild.s0 (k : Nat) (G : List Fr → St → Option Res) (a0z : Bool) (a0 : List Int) (yx5z : Bool) (yx5 : List Int) (yx7 : Int) (yx9 : Bool) (yx11 : Bool) (yx12z : Bool) (yx12 : List Int) (yx13 : Bool) (yx14 : Int) (yc3_0 : Int) (yc3_1 : Int) (yc3_2 : Int) (yc3_3 : Int) (yc3_4 : Int) (yc4_0z : Bool) (yc4_0 : List T) (yc8_0 : Int) (yc8_1 : Int) (yc8_2z : Bool) (yc8_2 : List Int) (yc8_3z : Bool) (yc8_3 : List Int) (yc8_4z : Bool) (yc8_4 : List T) (yc10_0 : Int) (yc10_1z : Bool) (yc10_1 : List T) : resume Try.prog (laws_FnBuild.Cs k) G (finish Try.prog [] Try.f5 [.v (.nums 5 .u8 a0z a0)]) 100000 laws_FnBuild.K0 (laws_FnBuild.N0 yx5z yx5 yx7 yx9 yx11 yx12z yx12 yx13 yx14 yc3_0 yc3_1 yc3_2 yc3_3 yc3_4 yc4_0z yc4_0 yc8_0 yc8_1 yc8_2z yc8_2 yc8_3z yc8_3 yc8_4z yc8_4 yc10_0 yc10_1z yc10_1) = laws_FnBuild.l0b (fun r => some (laws_FnBuild.enc r)) (fun x5z x5 x7 x9 x11 x12z x12 x13 x14 c3_0 c3_1 c3_2 c3_3 c3_4 c4_0z c4_0 c8_0 c8_1 c8_2z c8_2 c8_3z c8_3 c8_4z c8_4 c10_0 c10_1z c10_1 => G laws_FnBuild.K0 (laws_FnBuild.N0 x5z x5 x7 x9 x11 x12z x12 x13 x14 c3_0 c3_1 c3_2 c3_3 c3_4 c4_0z c4_0 c8_0 c8_1 c8_2z c8_2 c8_3z c8_3 c8_4z c8_4 c10_0 c10_1z c10_1)) k yx5z yx5 yx7 yx9 yx11 yx12z yx12 yx13 yx14 yc3_0 yc3_1 yc3_2 yc3_3 yc3_4 yc4_0z yc4_0 yc8_0 yc8_1 yc8_2z yc8_2 yc8_3z yc8_3 yc8_4z yc8_4 yc10_0 yc10_1z yc10_1 := by kernel_rfl
theorem laws_FnBuild.b_nat {R R' : Type} (e : R → R') (ret : Bool → Option R) (j0 : Bool → (List Int) → Int → Bool → Bool → Bool → (List Int) → Bool → Int → Int → Int → Int → Int → Int → Bool → (List T) → Int → Int → Bool → (List Int) → Bool → (List Int) → Bool → (List T) → Int → Bool → (List T) → Option R) (k : Nat) (a0z : Bool) (a0 : List Int) : laws_FnBuild.b (fun r => (ret r).map e) (fun x5z x5 x7 x9 x11 x12z x12 x13 x14 c3_0 c3_1 c3_2 c3_3 c3_4 c4_0z c4_0 c8_0 c8_1 c8_2z c8_2 c8_3z c8_3 c8_4z c8_4 c10_0 c10_1z c10_1 => (j0 x5z x5 x7 x9 x11 x12z x12 x13 x14 c3_0 c3_1 c3_2 c3_3 c3_4 c4_0z c4_0 c8_0 c8_1 c8_2z c8_2 c8_3z c8_3 c8_4z c8_4 c10_0 c10_1z c10_1).map e) k a0z a0 = (laws_FnBuild.b ret j0 k a0z a0).map e := by
  unfold laws_FnBuild.b
  repeat' first | with_reducible refine nat_cond ?_ ?_ | with_reducible refine nat_bind fun _ => ?_ | rfl
theorem laws_FnBuild.l0b_nat {R R' : Type} (e : R → R') (ret : Bool → Option R) (j0 : Bool → (List Int) → Int → Bool → Bool → Bool → (List Int) → Bool → Int → Int → Int → Int → Int → Int → Bool → (List T) → Int → Int → Bool → (List Int) → Bool → (List Int) → Bool → (List T) → Int → Bool → (List T) → Option R) (k : Nat) (x5z : Bool) (x5 : List Int) (x7 : Int) (x9 : Bool) (x11 : Bool) (x12z : Bool) (x12 : List Int) (x13 : Bool) (x14 : Int) (c3_0 : Int) (c3_1 : Int) (c3_2 : Int) (c3_3 : Int) (c3_4 : Int) (c4_0z : Bool) (c4_0 : List T) (c8_0 : Int) (c8_1 : Int) (c8_2z : Bool) (c8_2 : List Int) (c8_3z : Bool) (c8_3 : List Int) (c8_4z : Bool) (c8_4 : List T) (c10_0 : Int) (c10_1z : Bool) (c10_1 : List T) : laws_FnBuild.l0b (fun r => (ret r).map e) (fun x5z x5 x7 x9 x11 x12z x12 x13 x14 c3_0 c3_1 c3_2 c3_3 c3_4 c4_0z c4_0 c8_0 c8_1 c8_2z c8_2 c8_3z c8_3 c8_4z c8_4 c10_0 c10_1z c10_1 => (j0 x5z x5 x7 x9 x11 x12z x12 x13 x14 c3_0 c3_1 c3_2 c3_3 c3_4 c4_0z c4_0 c8_0 c8_1 c8_2z c8_2 c8_3z c8_3 c8_4z c8_4 c10_0 c10_1z c10_1).map e) k x5z x5 x7 x9 x11 x12z x12 x13 x14 c3_0 c3_1 c3_2 c3_3 c3_4 c4_0z c4_0 c8_0 c8_1 c8_2z c8_2 c8_3z c8_3 c8_4z c8_4 c10_0 c10_1z c10_1 = (laws_FnBuild.l0b ret j0 k x5z x5 x7 x9 x11 x12z x12 x13 x14 c3_0 c3_1 c3_2 c3_3 c3_4 c4_0z c4_0 c8_0 c8_1 c8_2z c8_2 c8_3z c8_3 c8_4z c8_4 c10_0 c10_1z c10_1).map e := by
  unfold laws_FnBuild.l0b
  repeat' first | with_reducible refine nat_cond ?_ ?_ | with_reducible refine nat_bind fun _ => ?_ | rfl
theorem laws_FnBuild.rounds_eq (a0z : Bool) (a0 : List Int) : ∀ k, (∀ (x5z : Bool) (x5 : List Int) (x7 : Int) (x9 : Bool) (x11 : Bool) (x12z : Bool) (x12 : List Int) (x13 : Bool) (x14 : Int) (c3_0 : Int) (c3_1 : Int) (c3_2 : Int) (c3_3 : Int) (c3_4 : Int) (c4_0z : Bool) (c4_0 : List T) (c8_0 : Int) (c8_1 : Int) (c8_2z : Bool) (c8_2 : List Int) (c8_3z : Bool) (c8_3 : List Int) (c8_4z : Bool) (c8_4 : List T) (c10_0 : Int) (c10_1z : Bool) (c10_1 : List T), rounds Try.prog laws_FnBuild.Cs (finish Try.prog [] Try.f5 [.v (.nums 5 .u8 a0z a0)]) 100000 k laws_FnBuild.K0 (laws_FnBuild.N0 x5z x5 x7 x9 x11 x12z x12 x13 x14 c3_0 c3_1 c3_2 c3_3 c3_4 c4_0z c4_0 c8_0 c8_1 c8_2z c8_2 c8_3z c8_3 c8_4z c8_4 c10_0 c10_1z c10_1) = (laws_FnBuild.l0 k x5z x5 x7 x9 x11 x12z x12 x13 x14 c3_0 c3_1 c3_2 c3_3 c3_4 c4_0z c4_0 c8_0 c8_1 c8_2z c8_2 c8_3z c8_3 c8_4z c8_4 c10_0 c10_1z c10_1).map laws_FnBuild.enc)
  | 0 => fun _ _ _ _ _ _ _ _ _ _ _ _ _ _ _ _ _ _ _ _ _ _ _ _ _ _ _ => rfl
  | k + 1 => by
    have ih := laws_FnBuild.rounds_eq a0z a0 k
    refine fun _ _ _ _ _ _ _ _ _ _ _ _ _ _ _ _ _ _ _ _ _ _ _ _ _ _ _ => ?_
    · refine (laws_FnBuild.s0 k _ a0z a0 _ _ _ _ _ _ _ _ _ _ _ _ _ _ _ _ _ _ _ _ _ _ _ _ _ _ _).trans (Eq.trans ?_ (laws_FnBuild.l0b_nat laws_FnBuild.enc some (laws_FnBuild.l0 k) k _ _ _ _ _ _ _ _ _ _ _ _ _ _ _ _ _ _ _ _ _ _ _ _ _ _ _))
      simp only [ih, Option.map_some]
theorem laws_FnBuild.eq (k : Nat) (a0z : Bool) (a0 : List Int) : answer Try.prog laws_FnBuild.Cs 100000 laws_FnBuild.cuts [] Try.f5 (k + 1) [.v (.nums 5 .u8 a0z a0)] = (laws_FnBuild.f (k + 1) a0z a0).map laws_FnBuild.enc := by
  have ih := laws_FnBuild.rounds_eq a0z a0 k
  refine (laws_FnBuild.s k a0z a0).trans (Eq.trans ?_ (laws_FnBuild.b_nat laws_FnBuild.enc some (laws_FnBuild.l0 k) k a0z a0))
  simp only [ih, Option.map_some]
theorem laws_FnBuild.sound (k : Nat) : SoundF Try.prog 5 (fun a => (laws_FnBuild.ans k a).val) := by
  refine sound_plain (fun args res h => ?_) (fun t n => rfl)
  unfold laws_FnBuild.ans at h
  dsimp only at h
  split at h
  · cases k with
    | zero => cases h
    | succ k =>
      unfold Ans.val at h
      rw [← laws_FnBuild.eq] at h
      exact answer_sound mixed Try.func5 _ _ _ (k + 1) (fun j _ => tab_sound (tab_cons (spec_MakeTable.sound j) (tab_cons (spec_MakeBits.sound j) (tab_cons (spec_MakeHash.sound j) (tab_cons (spec_MakeNum.sound j) (tab_cons (impl_BuildQc.sound j) (tab_cons (impl_BuildTc.sound j) (tab_cons (impl_TcBits.sound j) (tab_cons (impl_IsQuorum.sound j) (tab_cons (impl_SameBytes.sound j) (tab_cons (impl_QcCode.sound j) (tab_cons (impl_TcCode.sound j) (tab_cons (impl_TcHigh.sound j) (tab_cons (impl_CeName.sound j) (tab_nil))))))))))))))) _ _ h
  · exact (Ans.no_val h).elim
end Go.Proofs.YtbpcnodmgphinaaG
