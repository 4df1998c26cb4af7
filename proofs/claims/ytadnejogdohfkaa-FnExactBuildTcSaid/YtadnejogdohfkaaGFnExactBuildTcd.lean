/- What the functions compute, printed by a program of this repo; each is shown to be what the machine of values answers. No condition. -/
import Derived.Test.YtadnejogdohfkaaProg
import Derived.KernelRfl
import Derived.Test.YtadnejogdohfkaaGFnExactBuildTcc
namespace Go.Proofs.YtadnejogdohfkaaG
open Go Go.Proofs.YtadnejogdohfkaaRv Go.Proofs
set_option linter.unusedVariables false
set_option linter.unusedSimpArgs false
/-! loop.example/g00790/impl.areHashes -/
def impl_areHashes.b {R : Type} (ret : Bool → Option R) (j0 : Bool → (List T) → Int → Int → Option R) (k : Nat) (a0z : Bool) (a0 : List T) : Option R :=
  j0 a0z a0 ((a0).length : Int) 0
def impl_areHashes.l0b {R : Type} (ret : Bool → Option R) (j0 : Bool → (List T) → Int → Int → Option R) (k : Nat) (x5z : Bool) (x5 : List T) (x6 : Int) (x7 : Int) : Option R :=
  cond (decide (x7 < x6)) (cond (decide ((0 : Int) ≤ x7)) (cond (decide (x7 < ((x5).length : Int))) (cond (!(decide (((((((x5).getD (x7).toNat .bad).cells.getD 0 .bad)).toNums).length : Int) = 32))) (ret false) (j0 x5z x5 x6 (RowKit.wrap64 (x7 + 1)))) (none)) (none)) (ret true)
def impl_areHashes.l0 : Nat → Bool → (List T) → Int → Int → Option Bool
  | 0, _, _, _, _ => none
  | k + 1, x5z, x5, x6, x7 => impl_areHashes.l0b some (impl_areHashes.l0 k) k x5z x5 x6 x7
def impl_areHashes.f : Nat → Bool → (List T) → Option Bool
  | 0, _, _ => none
  | k + 1, a0z, a0 => impl_areHashes.b some (impl_areHashes.l0 k) k a0z a0
def impl_areHashes.enc (r : Bool) : Res := ⟨[.vals false [((.bool r), true)]], []⟩
def impl_areHashes.ans (k : Nat) : List Arg → Ans
  | [.v (.sl 45 a0z a0)] => ⟨impl_areHashes.f k a0z a0, impl_areHashes.enc⟩
  | _ => Ans.no
def impl_areHashes.Cs (k : Nat) : CallSem := tab []
def impl_areHashes.cuts : List (Nat × Keep) := [(26, ⟨[(5, some []), (6, some []), (7, some [])], []⟩)]
noncomputable def impl_areHashes.K0 : List Fr := framesAt [true, false, true, false] (bodyOf Try.f162 impl_areHashes.cuts) []
def impl_areHashes.N0 (x5z : Bool) (x5 : List T) (x6 : Int) (x7 : Int) : St := stOf 15 15 1 [(5, .val ⟨(.sl 45 x5z x5), [], false, none⟩), (6, .val (V.s (.int .i64 x6))), (7, .val (V.s (.int .i64 x7)))] []
theorem impl_areHashes.s (k : Nat) (a0z : Bool) (a0 : List T) : answer Try.prog impl_areHashes.Cs 100000 impl_areHashes.cuts [] Try.f162 (k + 1) [.v (.sl 45 a0z a0)] = impl_areHashes.b (fun r => some (impl_areHashes.enc r)) (fun x5z x5 x6 x7 => rounds Try.prog impl_areHashes.Cs (finish Try.prog [] Try.f162 [.v (.sl 45 a0z a0)]) 100000 k impl_areHashes.K0 (impl_areHashes.N0 x5z x5 x6 x7)) k a0z a0 := by kernel_rfl
theorem impl_areHashes.s0 (k : Nat) (G : List Fr → St → Option Res) (a0z : Bool) (a0 : List T) (yx5z : Bool) (yx5 : List T) (yx6 : Int) (yx7 : Int) : resume Try.prog (impl_areHashes.Cs k) G (finish Try.prog [] Try.f162 [.v (.sl 45 a0z a0)]) 100000 impl_areHashes.K0 (impl_areHashes.N0 yx5z yx5 yx6 yx7) = impl_areHashes.l0b (fun r => some (impl_areHashes.enc r)) (fun x5z x5 x6 x7 => G impl_areHashes.K0 (impl_areHashes.N0 x5z x5 x6 x7)) k yx5z yx5 yx6 yx7 := by kernel_rfl
theorem impl_areHashes.b_nat {R R' : Type} (e : R → R') (ret : Bool → Option R) (j0 : Bool → (List T) → Int → Int → Option R) (k : Nat) (a0z : Bool) (a0 : List T) : impl_areHashes.b (fun r => (ret r).map e) (fun x5z x5 x6 x7 => (j0 x5z x5 x6 x7).map e) k a0z a0 = (impl_areHashes.b ret j0 k a0z a0).map e := by
  unfold impl_areHashes.b
  repeat' first | with_reducible refine nat_cond ?_ ?_ | with_reducible refine nat_bind fun _ => ?_ | rfl
theorem impl_areHashes.l0b_nat {R R' : Type} (e : R → R') (ret : Bool → Option R) (j0 : Bool → (List T) → Int → Int → Option R) (k : Nat) (x5z : Bool) (x5 : List T) (x6 : Int) (x7 : Int) : impl_areHashes.l0b (fun r => (ret r).map e) (fun x5z x5 x6 x7 => (j0 x5z x5 x6 x7).map e) k x5z x5 x6 x7 = (impl_areHashes.l0b ret j0 k x5z x5 x6 x7).map e := by
  unfold impl_areHashes.l0b
  repeat' first | with_reducible refine nat_cond ?_ ?_ | with_reducible refine nat_bind fun _ => ?_ | rfl
theorem impl_areHashes.rounds_eq (a0z : Bool) (a0 : List T) : ∀ k, (∀ (x5z : Bool) (x5 : List T) (x6 : Int) (x7 : Int), rounds Try.prog impl_areHashes.Cs (finish Try.prog [] Try.f162 [.v (.sl 45 a0z a0)]) 100000 k impl_areHashes.K0 (impl_areHashes.N0 x5z x5 x6 x7) = (impl_areHashes.l0 k x5z x5 x6 x7).map impl_areHashes.enc)
  | 0 => fun _ _ _ _ => rfl
  | k + 1 => by
    have ih := impl_areHashes.rounds_eq a0z a0 k
    refine fun _ _ _ _ => ?_
    · refine (impl_areHashes.s0 k _ a0z a0 _ _ _ _).trans (Eq.trans ?_ (impl_areHashes.l0b_nat impl_areHashes.enc some (impl_areHashes.l0 k) k _ _ _ _))
      simp only [ih, Option.map_some]
theorem impl_areHashes.eq (k : Nat) (a0z : Bool) (a0 : List T) : answer Try.prog impl_areHashes.Cs 100000 impl_areHashes.cuts [] Try.f162 (k + 1) [.v (.sl 45 a0z a0)] = (impl_areHashes.f (k + 1) a0z a0).map impl_areHashes.enc := by
  have ih := impl_areHashes.rounds_eq a0z a0 k
  refine (impl_areHashes.s k a0z a0).trans (Eq.trans ?_ (impl_areHashes.b_nat impl_areHashes.enc some (impl_areHashes.l0 k) k a0z a0))
  simp only [ih, Option.map_some]
theorem impl_areHashes.sound (k : Nat) : SoundF Try.prog 162 (fun a => (impl_areHashes.ans k a).val) := by
  refine sound_plain (fun args res h => ?_) (fun t n => rfl)
  unfold impl_areHashes.ans at h
  dsimp only at h
  split at h
  · cases k with
    | zero => cases h
    | succ k =>
      unfold Ans.val at h
      rw [← impl_areHashes.eq] at h
      exact answer_sound mixed Try.func162 _ _ _ (k + 1) (fun j _ => tab_sound (tab_nil)) _ _ h
  · exact (Ans.no_val h).elim

/-! loop.example/g00790/impl.TcOk -/
def impl_TcOk.b {R : Type} (ret : Bool → Option R) (j0 : Bool → (List T) → Int → Int → Int → Int → Int → Int → Int → Int → Bool → (List T) → Option R) (k : Nat) (a0_0 : Int) (a0_1 : Int) (a0_2 : Int) (a0_3 : Int) (a0_4 : Int) (a1_0 : Int) (a1_1z : Bool) (a1_1 : List T) : Option R :=
  j0 a1_1z a1_1 ((a1_1).length : Int) 0 a0_0 a0_1 a0_2 a0_3 a0_4 a1_0 a1_1z a1_1
def impl_TcOk.l0b {R : Type} (ret : Bool → Option R) (j0 : Bool → (List T) → Int → Int → Int → Int → Int → Int → Int → Int → Bool → (List T) → Option R) (k : Nat) (x8z : Bool) (x8 : List T) (x9 : Int) (x10 : Int) (c2_0 : Int) (c2_1 : Int) (c2_2 : Int) (c2_3 : Int) (c2_4 : Int) (c3_0 : Int) (c3_1z : Bool) (c3_1 : List T) : Option R :=
  cond (decide (x10 < x9)) (cond (decide ((0 : Int) ≤ x10)) (cond (decide (x10 < ((x8).length : Int))) ((impl_within.f k (((((x8).getD (x10).toNat .bad).cells.getD 0 .bad)).toInt) 0 (RowKit.wrap64 (c2_0 - 1))).bind fun t0 => cond (!t0) (ret false) (cond (decide (x10 > 0)) (cond (decide ((0 : Int) ≤ (RowKit.wrap64 (x10 - 1)))) (cond (decide ((RowKit.wrap64 (x10 - 1)) < ((c3_1).length : Int))) (cond (decide (((((x8).getD (x10).toNat .bad).cells.getD 0 .bad)).toInt ≤ ((((c3_1).getD ((RowKit.wrap64 (x10 - 1))).toNat .bad).cells.getD 0 .bad)).toInt)) (ret false) ((impl_within.f k (((((x8).getD (x10).toNat .bad).cells.getD 1 .bad)).toInt) 0 (RowKit.wrap64 (c3_0 - 1))).bind fun t1 => cond (!t1) (ret false) ((impl_areHashes.f k false ([(.nums 5 .u8 ((((x8).getD (x10).toNat .bad).cells.getD 2 .bad)).isNil ((((x8).getD (x10).toNat .bad).cells.getD 2 .bad)).toNums)] : List T)).bind fun t2 => cond (!t2) (ret false) (j0 x8z x8 x9 (RowKit.wrap64 (x10 + 1)) c2_0 c2_1 c2_2 c2_3 c2_4 c3_0 c3_1z c3_1)))) (none)) (none)) ((impl_within.f k (((((x8).getD (x10).toNat .bad).cells.getD 1 .bad)).toInt) 0 (RowKit.wrap64 (c3_0 - 1))).bind fun t1 => cond (!t1) (ret false) ((impl_areHashes.f k false ([(.nums 5 .u8 ((((x8).getD (x10).toNat .bad).cells.getD 2 .bad)).isNil ((((x8).getD (x10).toNat .bad).cells.getD 2 .bad)).toNums)] : List T)).bind fun t2 => cond (!t2) (ret false) (j0 x8z x8 x9 (RowKit.wrap64 (x10 + 1)) c2_0 c2_1 c2_2 c2_3 c2_4 c3_0 c3_1z c3_1))))) (none)) (none)) ((impl_LimitsOk.f k c2_0 c2_1 c2_2 c2_3 c2_4).bind fun t0 => cond t0 ((impl_isNum.f k c3_0).bind fun t1 => cond t1 (ret (decide (((c3_1).length : Int) ≤ c2_0))) (ret false)) (ret false))
def impl_TcOk.l0 : Nat → Bool → (List T) → Int → Int → Int → Int → Int → Int → Int → Int → Bool → (List T) → Option Bool
  | 0, _, _, _, _, _, _, _, _, _, _, _, _ => none
  | k + 1, x8z, x8, x9, x10, c2_0, c2_1, c2_2, c2_3, c2_4, c3_0, c3_1z, c3_1 => impl_TcOk.l0b some (impl_TcOk.l0 k) k x8z x8 x9 x10 c2_0 c2_1 c2_2 c2_3 c2_4 c3_0 c3_1z c3_1
def impl_TcOk.f : Nat → Int → Int → Int → Int → Int → Int → Bool → (List T) → Option Bool
  | 0, _, _, _, _, _, _, _, _ => none
  | k + 1, a0_0, a0_1, a0_2, a0_3, a0_4, a1_0, a1_1z, a1_1 => impl_TcOk.b some (impl_TcOk.l0 k) k a0_0 a0_1 a0_2 a0_3 a0_4 a1_0 a1_1z a1_1
def impl_TcOk.enc (r : Bool) : Res := ⟨[.vals false [((.bool r), true)]], []⟩
def impl_TcOk.ans (k : Nat) : List Arg → Ans
  | [.v (.agg [(.int .i64 a0_0), (.int .i64 a0_1), (.int .i64 a0_2), (.int .i64 a0_3), (.int .i64 a0_4)]), .v (.agg [(.int .i64 a1_0), (.sl 85 a1_1z a1_1)])] => ⟨impl_TcOk.f k a0_0 a0_1 a0_2 a0_3 a0_4 a1_0 a1_1z a1_1, impl_TcOk.enc⟩
  | _ => Ans.no
def impl_TcOk.Cs (k : Nat) : CallSem := tab [(86, impl_LimitsOk.ans k), (126, impl_within.ans k), (161, impl_isNum.ans k), (162, impl_areHashes.ans k)]
def impl_TcOk.cuts : List (Nat × Keep) := [(26, ⟨[(2, some []), (3, some []), (8, some []), (9, some []), (10, some [])], [(2, [some [], some [], some [], some [], some []]), (3, [some [], some []])]⟩)]
noncomputable def impl_TcOk.K0 : List Fr := framesAt [true, false, true, false] (bodyOf Try.f116 impl_TcOk.cuts) []
def impl_TcOk.N0 (x8z : Bool) (x8 : List T) (x9 : Int) (x10 : Int) (c2_0 : Int) (c2_1 : Int) (c2_2 : Int) (c2_3 : Int) (c2_4 : Int) (c3_0 : Int) (c3_1z : Bool) (c3_1 : List T) : St := stOf 70 70 2 [(2, .bp 2 0), (3, .bp 3 0), (8, .val ⟨(.sl 85 x8z x8), [], false, none⟩), (9, .val (V.s (.int .i64 x9))), (10, .val (V.s (.int .i64 x10)))] [(2, .cells [V.s (.int .i64 c2_0), V.s (.int .i64 c2_1), V.s (.int .i64 c2_2), V.s (.int .i64 c2_3), V.s (.int .i64 c2_4)]), (3, .cells [V.s (.int .i64 c3_0), ⟨(.sl 85 c3_1z c3_1), [], false, none⟩])]
theorem impl_TcOk.s (k : Nat) (a0_0 : Int) (a0_1 : Int) (a0_2 : Int) (a0_3 : Int) (a0_4 : Int) (a1_0 : Int) (a1_1z : Bool) (a1_1 : List T) : answer Try.prog impl_TcOk.Cs 100000 impl_TcOk.cuts [] Try.f116 (k + 1) [.v (.agg [(.int .i64 a0_0), (.int .i64 a0_1), (.int .i64 a0_2), (.int .i64 a0_3), (.int .i64 a0_4)]), .v (.agg [(.int .i64 a1_0), (.sl 85 a1_1z a1_1)])] = impl_TcOk.b (fun r => some (impl_TcOk.enc r)) (fun x8z x8 x9 x10 c2_0 c2_1 c2_2 c2_3 c2_4 c3_0 c3_1z c3_1 => rounds Try.prog impl_TcOk.Cs (finish Try.prog [] Try.f116 [.v (.agg [(.int .i64 a0_0), (.int .i64 a0_1), (.int .i64 a0_2), (.int .i64 a0_3), (.int .i64 a0_4)]), .v (.agg [(.int .i64 a1_0), (.sl 85 a1_1z a1_1)])]) 100000 k impl_TcOk.K0 (impl_TcOk.N0 x8z x8 x9 x10 c2_0 c2_1 c2_2 c2_3 c2_4 c3_0 c3_1z c3_1)) k a0_0 a0_1 a0_2 a0_3 a0_4 a1_0 a1_1z a1_1 := by kernel_rfl
theorem impl_TcOk.s0 (k : Nat) (G : List Fr → St → Option Res) (a0_0 : Int) (a0_1 : Int) (a0_2 : Int) (a0_3 : Int) (a0_4 : Int) (a1_0 : Int) (a1_1z : Bool) (a1_1 : List T) (yx8z : Bool) (yx8 : List T) (yx9 : Int) (yx10 : Int) (yc2_0 : Int) (yc2_1 : Int) (yc2_2 : Int) (yc2_3 : Int) (yc2_4 : Int) (yc3_0 : Int) (yc3_1z : Bool) (yc3_1 : List T) : resume Try.prog (impl_TcOk.Cs k) G (finish Try.prog [] Try.f116 [.v (.agg [(.int .i64 a0_0), (.int .i64 a0_1), (.int .i64 a0_2), (.int .i64 a0_3), (.int .i64 a0_4)]), .v (.agg [(.int .i64 a1_0), (.sl 85 a1_1z a1_1)])]) 100000 impl_TcOk.K0 (impl_TcOk.N0 yx8z yx8 yx9 yx10 yc2_0 yc2_1 yc2_2 yc2_3 yc2_4 yc3_0 yc3_1z yc3_1) = impl_TcOk.l0b (fun r => some (impl_TcOk.enc r)) (fun x8z x8 x9 x10 c2_0 c2_1 c2_2 c2_3 c2_4 c3_0 c3_1z c3_1 => G impl_TcOk.K0 (impl_TcOk.N0 x8z x8 x9 x10 c2_0 c2_1 c2_2 c2_3 c2_4 c3_0 c3_1z c3_1)) k yx8z yx8 yx9 yx10 yc2_0 yc2_1 yc2_2 yc2_3 yc2_4 yc3_0 yc3_1z yc3_1 := by kernel_rfl
theorem impl_TcOk.b_nat {R R' : Type} (e : R → R') (ret : Bool → Option R) (j0 : Bool → (List T) → Int → Int → Int → Int → Int → Int → Int → Int → Bool → (List T) → Option R) (k : Nat) (a0_0 : Int) (a0_1 : Int) (a0_2 : Int) (a0_3 : Int) (a0_4 : Int) (a1_0 : Int) (a1_1z : Bool) (a1_1 : List T) : impl_TcOk.b (fun r => (ret r).map e) (fun x8z x8 x9 x10 c2_0 c2_1 c2_2 c2_3 c2_4 c3_0 c3_1z c3_1 => (j0 x8z x8 x9 x10 c2_0 c2_1 c2_2 c2_3 c2_4 c3_0 c3_1z c3_1).map e) k a0_0 a0_1 a0_2 a0_3 a0_4 a1_0 a1_1z a1_1 = (impl_TcOk.b ret j0 k a0_0 a0_1 a0_2 a0_3 a0_4 a1_0 a1_1z a1_1).map e := by
  unfold impl_TcOk.b
  repeat' first | with_reducible refine nat_cond ?_ ?_ | with_reducible refine nat_bind fun _ => ?_ | rfl
theorem impl_TcOk.l0b_nat {R R' : Type} (e : R → R') (ret : Bool → Option R) (j0 : Bool → (List T) → Int → Int → Int → Int → Int → Int → Int → Int → Bool → (List T) → Option R) (k : Nat) (x8z : Bool) (x8 : List T) (x9 : Int) (x10 : Int) (c2_0 : Int) (c2_1 : Int) (c2_2 : Int) (c2_3 : Int) (c2_4 : Int) (c3_0 : Int) (c3_1z : Bool) (c3_1 : List T) : impl_TcOk.l0b (fun r => (ret r).map e) (fun x8z x8 x9 x10 c2_0 c2_1 c2_2 c2_3 c2_4 c3_0 c3_1z c3_1 => (j0 x8z x8 x9 x10 c2_0 c2_1 c2_2 c2_3 c2_4 c3_0 c3_1z c3_1).map e) k x8z x8 x9 x10 c2_0 c2_1 c2_2 c2_3 c2_4 c3_0 c3_1z c3_1 = (impl_TcOk.l0b ret j0 k x8z x8 x9 x10 c2_0 c2_1 c2_2 c2_3 c2_4 c3_0 c3_1z c3_1).map e := by
  unfold impl_TcOk.l0b
  repeat' first | with_reducible refine nat_cond ?_ ?_ | with_reducible refine nat_bind fun _ => ?_ | rfl
theorem impl_TcOk.rounds_eq (a0_0 : Int) (a0_1 : Int) (a0_2 : Int) (a0_3 : Int) (a0_4 : Int) (a1_0 : Int) (a1_1z : Bool) (a1_1 : List T) : ∀ k, (∀ (x8z : Bool) (x8 : List T) (x9 : Int) (x10 : Int) (c2_0 : Int) (c2_1 : Int) (c2_2 : Int) (c2_3 : Int) (c2_4 : Int) (c3_0 : Int) (c3_1z : Bool) (c3_1 : List T), rounds Try.prog impl_TcOk.Cs (finish Try.prog [] Try.f116 [.v (.agg [(.int .i64 a0_0), (.int .i64 a0_1), (.int .i64 a0_2), (.int .i64 a0_3), (.int .i64 a0_4)]), .v (.agg [(.int .i64 a1_0), (.sl 85 a1_1z a1_1)])]) 100000 k impl_TcOk.K0 (impl_TcOk.N0 x8z x8 x9 x10 c2_0 c2_1 c2_2 c2_3 c2_4 c3_0 c3_1z c3_1) = (impl_TcOk.l0 k x8z x8 x9 x10 c2_0 c2_1 c2_2 c2_3 c2_4 c3_0 c3_1z c3_1).map impl_TcOk.enc)
  | 0 => fun _ _ _ _ _ _ _ _ _ _ _ _ => rfl
  | k + 1 => by
    have ih := impl_TcOk.rounds_eq a0_0 a0_1 a0_2 a0_3 a0_4 a1_0 a1_1z a1_1 k
    refine fun _ _ _ _ _ _ _ _ _ _ _ _ => ?_
    · refine (impl_TcOk.s0 k _ a0_0 a0_1 a0_2 a0_3 a0_4 a1_0 a1_1z a1_1 _ _ _ _ _ _ _ _ _ _ _ _).trans (Eq.trans ?_ (impl_TcOk.l0b_nat impl_TcOk.enc some (impl_TcOk.l0 k) k _ _ _ _ _ _ _ _ _ _ _ _))
      simp only [ih, Option.map_some]
theorem impl_TcOk.eq (k : Nat) (a0_0 : Int) (a0_1 : Int) (a0_2 : Int) (a0_3 : Int) (a0_4 : Int) (a1_0 : Int) (a1_1z : Bool) (a1_1 : List T) : answer Try.prog impl_TcOk.Cs 100000 impl_TcOk.cuts [] Try.f116 (k + 1) [.v (.agg [(.int .i64 a0_0), (.int .i64 a0_1), (.int .i64 a0_2), (.int .i64 a0_3), (.int .i64 a0_4)]), .v (.agg [(.int .i64 a1_0), (.sl 85 a1_1z a1_1)])] = (impl_TcOk.f (k + 1) a0_0 a0_1 a0_2 a0_3 a0_4 a1_0 a1_1z a1_1).map impl_TcOk.enc := by
  have ih := impl_TcOk.rounds_eq a0_0 a0_1 a0_2 a0_3 a0_4 a1_0 a1_1z a1_1 k
  refine (impl_TcOk.s k a0_0 a0_1 a0_2 a0_3 a0_4 a1_0 a1_1z a1_1).trans (Eq.trans ?_ (impl_TcOk.b_nat impl_TcOk.enc some (impl_TcOk.l0 k) k a0_0 a0_1 a0_2 a0_3 a0_4 a1_0 a1_1z a1_1))
  simp only [ih, Option.map_some]
theorem impl_TcOk.sound (k : Nat) : SoundF Try.prog 116 (fun a => (impl_TcOk.ans k a).val) := by
  refine sound_plain (fun args res h => ?_) (fun t n => rfl)
  unfold impl_TcOk.ans at h
  dsimp only at h
  split at h
  · cases k with
    | zero => cases h
    | succ k =>
      unfold Ans.val at h
      rw [← impl_TcOk.eq] at h
      exact answer_sound mixed Try.func116 _ _ _ (k + 1) (fun j _ => tab_sound (tab_cons (impl_LimitsOk.sound j) (tab_cons (impl_within.sound j) (tab_cons (impl_isNum.sound j) (tab_cons (impl_areHashes.sound j) (tab_nil)))))) _ _ h
  · exact (Ans.no_val h).elim

/-! loop.example/g00790/impl.BuildTc -/
def impl_BuildTc.b {R : Type} (ret : Int × Bool × (List T) × Bool → Option R) (j0 : Int → Int → Bool → (List Int) → Int → Int → Int → Int → Int → Int → Int → Bool → (List T) → Int → Bool → (List T) → Option R) (k : Nat) (a0_0 : Int) (a0_1 : Int) (a0_2 : Int) (a0_3 : Int) (a0_4 : Int) (a1_0z : Bool) (a1_0 : List T) (a2 : Int) (a3 : Int) (a4z : Bool) (a4 : List Int) : Option R :=
  (impl_belongs.f k a0_0 a0_1 a0_2 a0_3 a0_4 a1_0z a1_0).bind fun t0 => cond (!t0) (ret (0, true, ([] : List T), false)) ((impl_BitsOk.f k a4z a4 a0_0).bind fun t1 => cond (!t1) (ret (0, true, ([] : List T), false)) ((impl_BitsList.f k a4z a4).bind fun t2 => j0 a2 a3 t2.1 t2.2 ((t2.2).length : Int) 0 a0_0 a0_1 a0_2 a0_3 a0_4 a1_0z a1_0 a2 true ([] : List T)))
def impl_BuildTc.l0b {R : Type} (ret : Int × Bool × (List T) × Bool → Option R) (j0 : Int → Int → Bool → (List Int) → Int → Int → Int → Int → Int → Int → Int → Bool → (List T) → Int → Bool → (List T) → Option R) (k : Nat) (x2 : Int) (x3 : Int) (x32z : Bool) (x32 : List Int) (x33 : Int) (x34 : Int) (c5_0 : Int) (c5_1 : Int) (c5_2 : Int) (c5_3 : Int) (c5_4 : Int) (c6_0z : Bool) (c6_0 : List T) (c12_0 : Int) (c12_1z : Bool) (c12_1 : List T) : Option R :=
  cond (decide (x34 < x33)) (cond (decide ((0 : Int) ≤ x34)) (cond (decide (x34 < ((x32).length : Int))) ((impl_SignLeave.f k c6_0z c6_0 x2 x3 (rdI x32 x34)).bind fun t0 => cond (!t0.2.2.2.2) (ret (0, true, ([] : List T), false)) (cond (decide ((c12_1).length + 1 < 3518437208883)) (j0 x2 x3 x32z x32 x33 (RowKit.wrap64 (x34 + 1)) c5_0 c5_1 c5_2 c5_3 c5_4 c6_0z c6_0 c12_0 false (c12_1 ++ ([(.agg [(.int .i64 t0.1), (.int .i64 t0.2.1), (.nums 5 .u8 t0.2.2.1 t0.2.2.2.1)])] : List T))) (none))) (none)) (none)) ((impl_TcOk.f k c5_0 c5_1 c5_2 c5_3 c5_4 c12_0 c12_1z c12_1).bind fun t0 => cond (!t0) (ret (0, true, ([] : List T), false)) (ret (c12_0, c12_1z, c12_1, true)))
def impl_BuildTc.l0 : Nat → Int → Int → Bool → (List Int) → Int → Int → Int → Int → Int → Int → Int → Bool → (List T) → Int → Bool → (List T) → Option (Int × Bool × (List T) × Bool)
  | 0, _, _, _, _, _, _, _, _, _, _, _, _, _, _, _, _ => none
  | k + 1, x2, x3, x32z, x32, x33, x34, c5_0, c5_1, c5_2, c5_3, c5_4, c6_0z, c6_0, c12_0, c12_1z, c12_1 => impl_BuildTc.l0b some (impl_BuildTc.l0 k) k x2 x3 x32z x32 x33 x34 c5_0 c5_1 c5_2 c5_3 c5_4 c6_0z c6_0 c12_0 c12_1z c12_1
def impl_BuildTc.f : Nat → Int → Int → Int → Int → Int → Bool → (List T) → Int → Int → Bool → (List Int) → Option (Int × Bool × (List T) × Bool)
  | 0, _, _, _, _, _, _, _, _, _, _, _ => none
  | k + 1, a0_0, a0_1, a0_2, a0_3, a0_4, a1_0z, a1_0, a2, a3, a4z, a4 => impl_BuildTc.b some (impl_BuildTc.l0 k) k a0_0 a0_1 a0_2 a0_3 a0_4 a1_0z a1_0 a2 a3 a4z a4
def impl_BuildTc.enc (r : Int × Bool × (List T) × Bool) : Res := ⟨[.vals true [((.int .i64 r.1), true), ((.sl 85 r.2.1 r.2.2.1), true)], .vals false [((.bool r.2.2.2), true)]], []⟩
def impl_BuildTc.ans (k : Nat) : List Arg → Ans
  | [.v (.agg [(.int .i64 a0_0), (.int .i64 a0_1), (.int .i64 a0_2), (.int .i64 a0_3), (.int .i64 a0_4)]), .v (.agg [(.sl 160 a1_0z a1_0)]), .v (.int .i64 a2), .v (.int .i64 a3), .v (.nums 5 .u8 a4z a4)] => ⟨impl_BuildTc.f k a0_0 a0_1 a0_2 a0_3 a0_4 a1_0z a1_0 a2 a3 a4z a4, impl_BuildTc.enc⟩
  | _ => Ans.no
def impl_BuildTc.Cs (k : Nat) : CallSem := tab [(93, impl_belongs.ans k), (139, impl_BitsOk.ans k), (140, impl_BitsList.ans k), (44, impl_SignLeave.ans k), (116, impl_TcOk.ans k)]
def impl_BuildTc.cuts : List (Nat × Keep) := [(122, ⟨[(2, some []), (3, some []), (5, some []), (6, some []), (10, some []), (12, some []), (32, none), (33, some []), (34, some [])], [(5, [some [], some [], some [], some [], some []]), (6, [some []]), (10, [some [], none]), (12, [some [], none])]⟩)]
noncomputable def impl_BuildTc.K0 : List Fr := framesAt [true, true, true, false, true, false] (bodyOf Try.f65 impl_BuildTc.cuts) []
def impl_BuildTc.N0 (x2 : Int) (x3 : Int) (x32z : Bool) (x32 : List Int) (x33 : Int) (x34 : Int) (c5_0 : Int) (c5_1 : Int) (c5_2 : Int) (c5_3 : Int) (c5_4 : Int) (c6_0z : Bool) (c6_0 : List T) (c12_0 : Int) (c12_1z : Bool) (c12_1 : List T) : St := stOf 62 62 5 [(2, .val (V.s (.int .i64 x2))), (3, .val (V.s (.int .i64 x3))), (5, .bp 5 0), (6, .bp 6 0), (10, .bp 10 0), (12, .bp 12 0), (32, .val ⟨(.nums 3 .i64 x32z x32), [.l 32 0], true, some (.l 32 0)⟩), (33, .val (V.s (.int .i64 x33))), (34, .val (V.s (.int .i64 x34)))] [(5, .cells [V.s (.int .i64 c5_0), V.s (.int .i64 c5_1), V.s (.int .i64 c5_2), V.s (.int .i64 c5_3), V.s (.int .i64 c5_4)]), (6, .cells [⟨(.sl 160 c6_0z c6_0), [], false, none⟩]), (10, .cells [V.s (.int .i64 0), ⟨(.sl 85 true ([] : List T)), [.l 10 2], true, some (.l 10 2)⟩]), (12, .cells [V.s (.int .i64 c12_0), ⟨(.sl 85 c12_1z c12_1), [.l 12 2], true, some (.l 12 2)⟩])]
theorem impl_BuildTc.s (k : Nat) (a0_0 : Int) (a0_1 : Int) (a0_2 : Int) (a0_3 : Int) (a0_4 : Int) (a1_0z : Bool) (a1_0 : List T) (a2 : Int) (a3 : Int) (a4z : Bool) (a4 : List Int) : answer Try.prog impl_BuildTc.Cs 100000 impl_BuildTc.cuts [] Try.f65 (k + 1) [.v (.agg [(.int .i64 a0_0), (.int .i64 a0_1), (.int .i64 a0_2), (.int .i64 a0_3), (.int .i64 a0_4)]), .v (.agg [(.sl 160 a1_0z a1_0)]), .v (.int .i64 a2), .v (.int .i64 a3), .v (.nums 5 .u8 a4z a4)] = impl_BuildTc.b (fun r => some (impl_BuildTc.enc r)) (fun x2 x3 x32z x32 x33 x34 c5_0 c5_1 c5_2 c5_3 c5_4 c6_0z c6_0 c12_0 c12_1z c12_1 => rounds Try.prog impl_BuildTc.Cs (finish Try.prog [] Try.f65 [.v (.agg [(.int .i64 a0_0), (.int .i64 a0_1), (.int .i64 a0_2), (.int .i64 a0_3), (.int .i64 a0_4)]), .v (.agg [(.sl 160 a1_0z a1_0)]), .v (.int .i64 a2), .v (.int .i64 a3), .v (.nums 5 .u8 a4z a4)]) 100000 k impl_BuildTc.K0 (impl_BuildTc.N0 x2 x3 x32z x32 x33 x34 c5_0 c5_1 c5_2 c5_3 c5_4 c6_0z c6_0 c12_0 c12_1z c12_1)) k a0_0 a0_1 a0_2 a0_3 a0_4 a1_0z a1_0 a2 a3 a4z a4 := by kernel_rfl
theorem impl_BuildTc.s0 (k : Nat) (G : List Fr → St → Option Res) (a0_0 : Int) (a0_1 : Int) (a0_2 : Int) (a0_3 : Int) (a0_4 : Int) (a1_0z : Bool) (a1_0 : List T) (a2 : Int) (a3 : Int) (a4z : Bool) (a4 : List Int) (yx2 : Int) (yx3 : Int) (yx32z : Bool) (yx32 : List Int) (yx33 : Int) (yx34 : Int) (yc5_0 : Int) (yc5_1 : Int) (yc5_2 : Int) (yc5_3 : Int) (yc5_4 : Int) (yc6_0z : Bool) (yc6_0 : List T) (yc12_0 : Int) (yc12_1z : Bool) (yc12_1 : List T) : resume Try.prog (impl_BuildTc.Cs k) G (finish Try.prog [] Try.f65 [.v (.agg [(.int .i64 a0_0), (.int .i64 a0_1), (.int .i64 a0_2), (.int .i64 a0_3), (.int .i64 a0_4)]), .v (.agg [(.sl 160 a1_0z a1_0)]), .v (.int .i64 a2), .v (.int .i64 a3), .v (.nums 5 .u8 a4z a4)]) 100000 impl_BuildTc.K0 (impl_BuildTc.N0 yx2 yx3 yx32z yx32 yx33 yx34 yc5_0 yc5_1 yc5_2 yc5_3 yc5_4 yc6_0z yc6_0 yc12_0 yc12_1z yc12_1) = impl_BuildTc.l0b (fun r => some (impl_BuildTc.enc r)) (fun x2 x3 x32z x32 x33 x34 c5_0 c5_1 c5_2 c5_3 c5_4 c6_0z c6_0 c12_0 c12_1z c12_1 => G impl_BuildTc.K0 (impl_BuildTc.N0 x2 x3 x32z x32 x33 x34 c5_0 c5_1 c5_2 c5_3 c5_4 c6_0z c6_0 c12_0 c12_1z c12_1)) k yx2 yx3 yx32z yx32 yx33 yx34 yc5_0 yc5_1 yc5_2 yc5_3 yc5_4 yc6_0z yc6_0 yc12_0 yc12_1z yc12_1 := by kernel_rfl
theorem impl_BuildTc.b_nat {R R' : Type} (e : R → R') (ret : Int × Bool × (List T) × Bool → Option R) (j0 : Int → Int → Bool → (List Int) → Int → Int → Int → Int → Int → Int → Int → Bool → (List T) → Int → Bool → (List T) → Option R) (k : Nat) (a0_0 : Int) (a0_1 : Int) (a0_2 : Int) (a0_3 : Int) (a0_4 : Int) (a1_0z : Bool) (a1_0 : List T) (a2 : Int) (a3 : Int) (a4z : Bool) (a4 : List Int) : impl_BuildTc.b (fun r => (ret r).map e) (fun x2 x3 x32z x32 x33 x34 c5_0 c5_1 c5_2 c5_3 c5_4 c6_0z c6_0 c12_0 c12_1z c12_1 => (j0 x2 x3 x32z x32 x33 x34 c5_0 c5_1 c5_2 c5_3 c5_4 c6_0z c6_0 c12_0 c12_1z c12_1).map e) k a0_0 a0_1 a0_2 a0_3 a0_4 a1_0z a1_0 a2 a3 a4z a4 = (impl_BuildTc.b ret j0 k a0_0 a0_1 a0_2 a0_3 a0_4 a1_0z a1_0 a2 a3 a4z a4).map e := by
  unfold impl_BuildTc.b
  repeat' first | with_reducible refine nat_cond ?_ ?_ | with_reducible refine nat_bind fun _ => ?_ | rfl
theorem impl_BuildTc.l0b_nat {R R' : Type} (e : R → R') (ret : Int × Bool × (List T) × Bool → Option R) (j0 : Int → Int → Bool → (List Int) → Int → Int → Int → Int → Int → Int → Int → Bool → (List T) → Int → Bool → (List T) → Option R) (k : Nat) (x2 : Int) (x3 : Int) (x32z : Bool) (x32 : List Int) (x33 : Int) (x34 : Int) (c5_0 : Int) (c5_1 : Int) (c5_2 : Int) (c5_3 : Int) (c5_4 : Int) (c6_0z : Bool) (c6_0 : List T) (c12_0 : Int) (c12_1z : Bool) (c12_1 : List T) : impl_BuildTc.l0b (fun r => (ret r).map e) (fun x2 x3 x32z x32 x33 x34 c5_0 c5_1 c5_2 c5_3 c5_4 c6_0z c6_0 c12_0 c12_1z c12_1 => (j0 x2 x3 x32z x32 x33 x34 c5_0 c5_1 c5_2 c5_3 c5_4 c6_0z c6_0 c12_0 c12_1z c12_1).map e) k x2 x3 x32z x32 x33 x34 c5_0 c5_1 c5_2 c5_3 c5_4 c6_0z c6_0 c12_0 c12_1z c12_1 = (impl_BuildTc.l0b ret j0 k x2 x3 x32z x32 x33 x34 c5_0 c5_1 c5_2 c5_3 c5_4 c6_0z c6_0 c12_0 c12_1z c12_1).map e := by
  unfold impl_BuildTc.l0b
  repeat' first | with_reducible refine nat_cond ?_ ?_ | with_reducible refine nat_bind fun _ => ?_ | rfl
theorem impl_BuildTc.rounds_eq (a0_0 : Int) (a0_1 : Int) (a0_2 : Int) (a0_3 : Int) (a0_4 : Int) (a1_0z : Bool) (a1_0 : List T) (a2 : Int) (a3 : Int) (a4z : Bool) (a4 : List Int) : ∀ k, (∀ (x2 : Int) (x3 : Int) (x32z : Bool) (x32 : List Int) (x33 : Int) (x34 : Int) (c5_0 : Int) (c5_1 : Int) (c5_2 : Int) (c5_3 : Int) (c5_4 : Int) (c6_0z : Bool) (c6_0 : List T) (c12_0 : Int) (c12_1z : Bool) (c12_1 : List T), rounds Try.prog impl_BuildTc.Cs (finish Try.prog [] Try.f65 [.v (.agg [(.int .i64 a0_0), (.int .i64 a0_1), (.int .i64 a0_2), (.int .i64 a0_3), (.int .i64 a0_4)]), .v (.agg [(.sl 160 a1_0z a1_0)]), .v (.int .i64 a2), .v (.int .i64 a3), .v (.nums 5 .u8 a4z a4)]) 100000 k impl_BuildTc.K0 (impl_BuildTc.N0 x2 x3 x32z x32 x33 x34 c5_0 c5_1 c5_2 c5_3 c5_4 c6_0z c6_0 c12_0 c12_1z c12_1) = (impl_BuildTc.l0 k x2 x3 x32z x32 x33 x34 c5_0 c5_1 c5_2 c5_3 c5_4 c6_0z c6_0 c12_0 c12_1z c12_1).map impl_BuildTc.enc)
  | 0 => fun _ _ _ _ _ _ _ _ _ _ _ _ _ _ _ _ => rfl
  | k + 1 => by
    have ih := impl_BuildTc.rounds_eq a0_0 a0_1 a0_2 a0_3 a0_4 a1_0z a1_0 a2 a3 a4z a4 k
    refine fun _ _ _ _ _ _ _ _ _ _ _ _ _ _ _ _ => ?_
    · refine (impl_BuildTc.s0 k _ a0_0 a0_1 a0_2 a0_3 a0_4 a1_0z a1_0 a2 a3 a4z a4 _ _ _ _ _ _ _ _ _ _ _ _ _ _ _ _).trans (Eq.trans ?_ (impl_BuildTc.l0b_nat impl_BuildTc.enc some (impl_BuildTc.l0 k) k _ _ _ _ _ _ _ _ _ _ _ _ _ _ _ _))
      simp only [ih, Option.map_some]
theorem impl_BuildTc.eq (k : Nat) (a0_0 : Int) (a0_1 : Int) (a0_2 : Int) (a0_3 : Int) (a0_4 : Int) (a1_0z : Bool) (a1_0 : List T) (a2 : Int) (a3 : Int) (a4z : Bool) (a4 : List Int) : answer Try.prog impl_BuildTc.Cs 100000 impl_BuildTc.cuts [] Try.f65 (k + 1) [.v (.agg [(.int .i64 a0_0), (.int .i64 a0_1), (.int .i64 a0_2), (.int .i64 a0_3), (.int .i64 a0_4)]), .v (.agg [(.sl 160 a1_0z a1_0)]), .v (.int .i64 a2), .v (.int .i64 a3), .v (.nums 5 .u8 a4z a4)] = (impl_BuildTc.f (k + 1) a0_0 a0_1 a0_2 a0_3 a0_4 a1_0z a1_0 a2 a3 a4z a4).map impl_BuildTc.enc := by
  have ih := impl_BuildTc.rounds_eq a0_0 a0_1 a0_2 a0_3 a0_4 a1_0z a1_0 a2 a3 a4z a4 k
  refine (impl_BuildTc.s k a0_0 a0_1 a0_2 a0_3 a0_4 a1_0z a1_0 a2 a3 a4z a4).trans (Eq.trans ?_ (impl_BuildTc.b_nat impl_BuildTc.enc some (impl_BuildTc.l0 k) k a0_0 a0_1 a0_2 a0_3 a0_4 a1_0z a1_0 a2 a3 a4z a4))
  simp only [ih, Option.map_some]
theorem impl_BuildTc.sound (k : Nat) : SoundF Try.prog 65 (fun a => (impl_BuildTc.ans k a).val) := by
  refine sound_plain (fun args res h => ?_) (fun t n => rfl)
  unfold impl_BuildTc.ans at h
  dsimp only at h
  split at h
  · cases k with
    | zero => cases h
    | succ k =>
      unfold Ans.val at h
      rw [← impl_BuildTc.eq] at h
      exact answer_sound mixed Try.func65 _ _ _ (k + 1) (fun j _ => tab_sound (tab_cons (impl_belongs.sound j) (tab_cons (impl_BitsOk.sound j) (tab_cons (impl_BitsList.sound j) (tab_cons (impl_SignLeave.sound j) (tab_cons (impl_TcOk.sound j) (tab_nil))))))) _ _ h
  · exact (Ans.no_val h).elim

/-! loop.example/g00790/laws.eqByteS -/
def laws_eqByteS.b {R : Type} (ret : Bool → Option R) (j0 : Bool → (List Int) → Bool → (List Int) → Int → Option R) (k : Nat) (a0z : Bool) (a0 : List Int) (a1z : Bool) (a1 : List Int) : Option R :=
  cond (!(decide (((a0).length : Int) = ((a1).length : Int)))) (ret false) (j0 a0z a0 a1z a1 0)
def laws_eqByteS.l0b {R : Type} (ret : Bool → Option R) (j0 : Bool → (List Int) → Bool → (List Int) → Int → Option R) (k : Nat) (x0z : Bool) (x0 : List Int) (x1z : Bool) (x1 : List Int) (x5 : Int) : Option R :=
  cond (decide (x5 < ((x0).length : Int))) (cond (decide ((0 : Int) ≤ x5)) (cond (decide (x5 < ((x0).length : Int))) (cond (decide ((0 : Int) ≤ x5)) (cond (decide (x5 < ((x1).length : Int))) (cond (!(decide ((rdI x0 x5) = (rdI x1 x5)))) (ret false) (j0 x0z x0 x1z x1 (RowKit.wrap64 (x5 + 1)))) (none)) (none)) (none)) (none)) (ret true)
def laws_eqByteS.l0 : Nat → Bool → (List Int) → Bool → (List Int) → Int → Option Bool
  | 0, _, _, _, _, _ => none
  | k + 1, x0z, x0, x1z, x1, x5 => laws_eqByteS.l0b some (laws_eqByteS.l0 k) k x0z x0 x1z x1 x5
def laws_eqByteS.f : Nat → Bool → (List Int) → Bool → (List Int) → Option Bool
  | 0, _, _, _, _ => none
  | k + 1, a0z, a0, a1z, a1 => laws_eqByteS.b some (laws_eqByteS.l0 k) k a0z a0 a1z a1
def laws_eqByteS.enc (r : Bool) : Res := ⟨[.vals false [((.bool r), true)]], []⟩
def laws_eqByteS.ans (k : Nat) : List Arg → Ans
  | [.v (.nums 5 .u8 a0z a0), .v (.nums 5 .u8 a1z a1)] => ⟨laws_eqByteS.f k a0z a0 a1z a1, laws_eqByteS.enc⟩
  | _ => Ans.no
def laws_eqByteS.Cs (k : Nat) : CallSem := tab []
def laws_eqByteS.cuts : List (Nat × Keep) := [(58, ⟨[(0, some []), (1, some []), (5, some [])], []⟩)]
noncomputable def laws_eqByteS.K0 : List Fr := framesAt [true, true, false, true, false] (bodyOf Try.f53 laws_eqByteS.cuts) []
def laws_eqByteS.N0 (x0z : Bool) (x0 : List Int) (x1z : Bool) (x1 : List Int) (x5 : Int) : St := stOf 26 26 2 [(0, .val ⟨(.nums 5 .u8 x0z x0), [], false, none⟩), (1, .val ⟨(.nums 5 .u8 x1z x1), [], false, none⟩), (5, .val (V.s (.int .i64 x5)))] []
theorem laws_eqByteS.s (k : Nat) (a0z : Bool) (a0 : List Int) (a1z : Bool) (a1 : List Int) : answer Try.prog laws_eqByteS.Cs 100000 laws_eqByteS.cuts [] Try.f53 (k + 1) [.v (.nums 5 .u8 a0z a0), .v (.nums 5 .u8 a1z a1)] = laws_eqByteS.b (fun r => some (laws_eqByteS.enc r)) (fun x0z x0 x1z x1 x5 => rounds Try.prog laws_eqByteS.Cs (finish Try.prog [] Try.f53 [.v (.nums 5 .u8 a0z a0), .v (.nums 5 .u8 a1z a1)]) 100000 k laws_eqByteS.K0 (laws_eqByteS.N0 x0z x0 x1z x1 x5)) k a0z a0 a1z a1 := by kernel_rfl
theorem laws_eqByteS.s0 (k : Nat) (G : List Fr → St → Option Res) (a0z : Bool) (a0 : List Int) (a1z : Bool) (a1 : List Int) (yx0z : Bool) (yx0 : List Int) (yx1z : Bool) (yx1 : List Int) (yx5 : Int) : resume Try.prog (laws_eqByteS.Cs k) G (finish Try.prog [] Try.f53 [.v (.nums 5 .u8 a0z a0), .v (.nums 5 .u8 a1z a1)]) 100000 laws_eqByteS.K0 (laws_eqByteS.N0 yx0z yx0 yx1z yx1 yx5) = laws_eqByteS.l0b (fun r => some (laws_eqByteS.enc r)) (fun x0z x0 x1z x1 x5 => G laws_eqByteS.K0 (laws_eqByteS.N0 x0z x0 x1z x1 x5)) k yx0z yx0 yx1z yx1 yx5 := by kernel_rfl
theorem laws_eqByteS.b_nat {R R' : Type} (e : R → R') (ret : Bool → Option R) (j0 : Bool → (List Int) → Bool → (List Int) → Int → Option R) (k : Nat) (a0z : Bool) (a0 : List Int) (a1z : Bool) (a1 : List Int) : laws_eqByteS.b (fun r => (ret r).map e) (fun x0z x0 x1z x1 x5 => (j0 x0z x0 x1z x1 x5).map e) k a0z a0 a1z a1 = (laws_eqByteS.b ret j0 k a0z a0 a1z a1).map e := by
  unfold laws_eqByteS.b
  repeat' first | with_reducible refine nat_cond ?_ ?_ | with_reducible refine nat_bind fun _ => ?_ | rfl
theorem laws_eqByteS.l0b_nat {R R' : Type} (e : R → R') (ret : Bool → Option R) (j0 : Bool → (List Int) → Bool → (List Int) → Int → Option R) (k : Nat) (x0z : Bool) (x0 : List Int) (x1z : Bool) (x1 : List Int) (x5 : Int) : laws_eqByteS.l0b (fun r => (ret r).map e) (fun x0z x0 x1z x1 x5 => (j0 x0z x0 x1z x1 x5).map e) k x0z x0 x1z x1 x5 = (laws_eqByteS.l0b ret j0 k x0z x0 x1z x1 x5).map e := by
  unfold laws_eqByteS.l0b
  repeat' first | with_reducible refine nat_cond ?_ ?_ | with_reducible refine nat_bind fun _ => ?_ | rfl
theorem laws_eqByteS.rounds_eq (a0z : Bool) (a0 : List Int) (a1z : Bool) (a1 : List Int) : ∀ k, (∀ (x0z : Bool) (x0 : List Int) (x1z : Bool) (x1 : List Int) (x5 : Int), rounds Try.prog laws_eqByteS.Cs (finish Try.prog [] Try.f53 [.v (.nums 5 .u8 a0z a0), .v (.nums 5 .u8 a1z a1)]) 100000 k laws_eqByteS.K0 (laws_eqByteS.N0 x0z x0 x1z x1 x5) = (laws_eqByteS.l0 k x0z x0 x1z x1 x5).map laws_eqByteS.enc)
  | 0 => fun _ _ _ _ _ => rfl
  | k + 1 => by
    have ih := laws_eqByteS.rounds_eq a0z a0 a1z a1 k
    refine fun _ _ _ _ _ => ?_
    · refine (laws_eqByteS.s0 k _ a0z a0 a1z a1 _ _ _ _ _).trans (Eq.trans ?_ (laws_eqByteS.l0b_nat laws_eqByteS.enc some (laws_eqByteS.l0 k) k _ _ _ _ _))
      simp only [ih, Option.map_some]
theorem laws_eqByteS.eq (k : Nat) (a0z : Bool) (a0 : List Int) (a1z : Bool) (a1 : List Int) : answer Try.prog laws_eqByteS.Cs 100000 laws_eqByteS.cuts [] Try.f53 (k + 1) [.v (.nums 5 .u8 a0z a0), .v (.nums 5 .u8 a1z a1)] = (laws_eqByteS.f (k + 1) a0z a0 a1z a1).map laws_eqByteS.enc := by
  have ih := laws_eqByteS.rounds_eq a0z a0 a1z a1 k
  refine (laws_eqByteS.s k a0z a0 a1z a1).trans (Eq.trans ?_ (laws_eqByteS.b_nat laws_eqByteS.enc some (laws_eqByteS.l0 k) k a0z a0 a1z a1))
  simp only [ih, Option.map_some]
theorem laws_eqByteS.sound (k : Nat) : SoundF Try.prog 53 (fun a => (laws_eqByteS.ans k a).val) := by
  refine sound_plain (fun args res h => ?_) (fun t n => rfl)
  unfold laws_eqByteS.ans at h
  dsimp only at h
  split at h
  · cases k with
    | zero => cases h
    | succ k =>
      unfold Ans.val at h
      rw [← laws_eqByteS.eq] at h
      exact answer_sound mixed Try.func53 _ _ _ (k + 1) (fun j _ => tab_sound (tab_nil)) _ _ h
  · exact (Ans.no_val h).elim

/-! loop.example/g00790/laws.eqEntry -/
def laws_eqEntry.b {R : Type} (ret : Bool → Option R) (k : Nat) (a0_0 : Int) (a0_1 : Int) (a0_2z : Bool) (a0_2 : List Int) (a1_0 : Int) (a1_1 : Int) (a1_2z : Bool) (a1_2 : List Int) : Option R :=
  cond (!(decide (a0_0 = a1_0))) (ret false) (cond (!(decide (a0_1 = a1_1))) (ret false) ((laws_eqByteS.f k a0_2z a0_2 a1_2z a1_2).bind fun t0 => cond (!t0) (ret false) (ret true)))
def laws_eqEntry.f : Nat → Int → Int → Bool → (List Int) → Int → Int → Bool → (List Int) → Option Bool
  | 0, _, _, _, _, _, _, _, _ => none
  | k + 1, a0_0, a0_1, a0_2z, a0_2, a1_0, a1_1, a1_2z, a1_2 => laws_eqEntry.b some k a0_0 a0_1 a0_2z a0_2 a1_0 a1_1 a1_2z a1_2
def laws_eqEntry.enc (r : Bool) : Res := ⟨[.vals false [((.bool r), true)]], []⟩
def laws_eqEntry.ans (k : Nat) : List Arg → Ans
  | [.v (.agg [(.int .i64 a0_0), (.int .i64 a0_1), (.nums 5 .u8 a0_2z a0_2)]), .v (.agg [(.int .i64 a1_0), (.int .i64 a1_1), (.nums 5 .u8 a1_2z a1_2)])] => ⟨laws_eqEntry.f k a0_0 a0_1 a0_2z a0_2 a1_0 a1_1 a1_2z a1_2, laws_eqEntry.enc⟩
  | _ => Ans.no
def laws_eqEntry.Cs (k : Nat) : CallSem := tab [(53, laws_eqByteS.ans k)]
def laws_eqEntry.cuts : List (Nat × Keep) := []
theorem laws_eqEntry.s (k : Nat) (a0_0 : Int) (a0_1 : Int) (a0_2z : Bool) (a0_2 : List Int) (a1_0 : Int) (a1_1 : Int) (a1_2z : Bool) (a1_2 : List Int) : answer Try.prog laws_eqEntry.Cs 100000 laws_eqEntry.cuts [] Try.f45 (k + 1) [.v (.agg [(.int .i64 a0_0), (.int .i64 a0_1), (.nums 5 .u8 a0_2z a0_2)]), .v (.agg [(.int .i64 a1_0), (.int .i64 a1_1), (.nums 5 .u8 a1_2z a1_2)])] = laws_eqEntry.b (fun r => some (laws_eqEntry.enc r)) k a0_0 a0_1 a0_2z a0_2 a1_0 a1_1 a1_2z a1_2 := by kernel_rfl
theorem laws_eqEntry.b_nat {R R' : Type} (e : R → R') (ret : Bool → Option R) (k : Nat) (a0_0 : Int) (a0_1 : Int) (a0_2z : Bool) (a0_2 : List Int) (a1_0 : Int) (a1_1 : Int) (a1_2z : Bool) (a1_2 : List Int) : laws_eqEntry.b (fun r => (ret r).map e) k a0_0 a0_1 a0_2z a0_2 a1_0 a1_1 a1_2z a1_2 = (laws_eqEntry.b ret k a0_0 a0_1 a0_2z a0_2 a1_0 a1_1 a1_2z a1_2).map e := by
  unfold laws_eqEntry.b
  repeat' first | with_reducible refine nat_cond ?_ ?_ | with_reducible refine nat_bind fun _ => ?_ | rfl
theorem laws_eqEntry.eq (k : Nat) (a0_0 : Int) (a0_1 : Int) (a0_2z : Bool) (a0_2 : List Int) (a1_0 : Int) (a1_1 : Int) (a1_2z : Bool) (a1_2 : List Int) : answer Try.prog laws_eqEntry.Cs 100000 laws_eqEntry.cuts [] Try.f45 (k + 1) [.v (.agg [(.int .i64 a0_0), (.int .i64 a0_1), (.nums 5 .u8 a0_2z a0_2)]), .v (.agg [(.int .i64 a1_0), (.int .i64 a1_1), (.nums 5 .u8 a1_2z a1_2)])] = (laws_eqEntry.f (k + 1) a0_0 a0_1 a0_2z a0_2 a1_0 a1_1 a1_2z a1_2).map laws_eqEntry.enc := by
  refine (laws_eqEntry.s k a0_0 a0_1 a0_2z a0_2 a1_0 a1_1 a1_2z a1_2).trans (Eq.trans ?_ (laws_eqEntry.b_nat laws_eqEntry.enc some k a0_0 a0_1 a0_2z a0_2 a1_0 a1_1 a1_2z a1_2))
  simp only [Option.map_some]
theorem laws_eqEntry.sound (k : Nat) : SoundF Try.prog 45 (fun a => (laws_eqEntry.ans k a).val) := by
  refine sound_plain (fun args res h => ?_) (fun t n => rfl)
  unfold laws_eqEntry.ans at h
  dsimp only at h
  split at h
  · cases k with
    | zero => cases h
    | succ k =>
      unfold Ans.val at h
      rw [← laws_eqEntry.eq] at h
      exact answer_sound mixed Try.func45 _ _ _ (k + 1) (fun j _ => tab_sound (tab_cons (laws_eqByteS.sound j) (tab_nil))) _ _ h
  · exact (Ans.no_val h).elim

/-! loop.example/g00790/laws.eqEntryS -/
def laws_eqEntryS.b {R : Type} (ret : Bool → Option R) (j0 : Bool → (List T) → Bool → (List T) → Int → Option R) (k : Nat) (a0z : Bool) (a0 : List T) (a1z : Bool) (a1 : List T) : Option R :=
  cond (!(decide (((a0).length : Int) = ((a1).length : Int)))) (ret false) (j0 a0z a0 a1z a1 0)
def laws_eqEntryS.l0b {R : Type} (ret : Bool → Option R) (j0 : Bool → (List T) → Bool → (List T) → Int → Option R) (k : Nat) (x0z : Bool) (x0 : List T) (x1z : Bool) (x1 : List T) (x5 : Int) : Option R :=
  cond (decide (x5 < ((x0).length : Int))) (cond (decide ((0 : Int) ≤ x5)) (cond (decide (x5 < ((x0).length : Int))) (cond (decide ((0 : Int) ≤ x5)) (cond (decide (x5 < ((x1).length : Int))) ((laws_eqEntry.f k (((((x0).getD (x5).toNat .bad).cells.getD 0 .bad)).toInt) (((((x0).getD (x5).toNat .bad).cells.getD 1 .bad)).toInt) (((((x0).getD (x5).toNat .bad).cells.getD 2 .bad)).isNil) (((((x0).getD (x5).toNat .bad).cells.getD 2 .bad)).toNums) (((((x1).getD (x5).toNat .bad).cells.getD 0 .bad)).toInt) (((((x1).getD (x5).toNat .bad).cells.getD 1 .bad)).toInt) (((((x1).getD (x5).toNat .bad).cells.getD 2 .bad)).isNil) (((((x1).getD (x5).toNat .bad).cells.getD 2 .bad)).toNums)).bind fun t0 => cond (!t0) (ret false) (j0 x0z x0 x1z x1 (RowKit.wrap64 (x5 + 1)))) (none)) (none)) (none)) (none)) (ret true)
def laws_eqEntryS.l0 : Nat → Bool → (List T) → Bool → (List T) → Int → Option Bool
  | 0, _, _, _, _, _ => none
  | k + 1, x0z, x0, x1z, x1, x5 => laws_eqEntryS.l0b some (laws_eqEntryS.l0 k) k x0z x0 x1z x1 x5
def laws_eqEntryS.f : Nat → Bool → (List T) → Bool → (List T) → Option Bool
  | 0, _, _, _, _ => none
  | k + 1, a0z, a0, a1z, a1 => laws_eqEntryS.b some (laws_eqEntryS.l0 k) k a0z a0 a1z a1
def laws_eqEntryS.enc (r : Bool) : Res := ⟨[.vals false [((.bool r), true)]], []⟩
def laws_eqEntryS.ans (k : Nat) : List Arg → Ans
  | [.v (.sl 85 a0z a0), .v (.sl 85 a1z a1)] => ⟨laws_eqEntryS.f k a0z a0 a1z a1, laws_eqEntryS.enc⟩
  | _ => Ans.no
def laws_eqEntryS.Cs (k : Nat) : CallSem := tab [(45, laws_eqEntry.ans k)]
def laws_eqEntryS.cuts : List (Nat × Keep) := [(58, ⟨[(0, some []), (1, some []), (5, some [])], []⟩)]
noncomputable def laws_eqEntryS.K0 : List Fr := framesAt [true, true, false, true, false] (bodyOf Try.f119 laws_eqEntryS.cuts) []
def laws_eqEntryS.N0 (x0z : Bool) (x0 : List T) (x1z : Bool) (x1 : List T) (x5 : Int) : St := stOf 27 27 2 [(0, .val ⟨(.sl 85 x0z x0), [], false, none⟩), (1, .val ⟨(.sl 85 x1z x1), [], false, none⟩), (5, .val (V.s (.int .i64 x5)))] []
theorem laws_eqEntryS.s (k : Nat) (a0z : Bool) (a0 : List T) (a1z : Bool) (a1 : List T) : answer Try.prog laws_eqEntryS.Cs 100000 laws_eqEntryS.cuts [] Try.f119 (k + 1) [.v (.sl 85 a0z a0), .v (.sl 85 a1z a1)] = laws_eqEntryS.b (fun r => some (laws_eqEntryS.enc r)) (fun x0z x0 x1z x1 x5 => rounds Try.prog laws_eqEntryS.Cs (finish Try.prog [] Try.f119 [.v (.sl 85 a0z a0), .v (.sl 85 a1z a1)]) 100000 k laws_eqEntryS.K0 (laws_eqEntryS.N0 x0z x0 x1z x1 x5)) k a0z a0 a1z a1 := by kernel_rfl
theorem laws_eqEntryS.s0 (k : Nat) (G : List Fr → St → Option Res) (a0z : Bool) (a0 : List T) (a1z : Bool) (a1 : List T) (yx0z : Bool) (yx0 : List T) (yx1z : Bool) (yx1 : List T) (yx5 : Int) : resume Try.prog (laws_eqEntryS.Cs k) G (finish Try.prog [] Try.f119 [.v (.sl 85 a0z a0), .v (.sl 85 a1z a1)]) 100000 laws_eqEntryS.K0 (laws_eqEntryS.N0 yx0z yx0 yx1z yx1 yx5) = laws_eqEntryS.l0b (fun r => some (laws_eqEntryS.enc r)) (fun x0z x0 x1z x1 x5 => G laws_eqEntryS.K0 (laws_eqEntryS.N0 x0z x0 x1z x1 x5)) k yx0z yx0 yx1z yx1 yx5 := by kernel_rfl
theorem laws_eqEntryS.b_nat {R R' : Type} (e : R → R') (ret : Bool → Option R) (j0 : Bool → (List T) → Bool → (List T) → Int → Option R) (k : Nat) (a0z : Bool) (a0 : List T) (a1z : Bool) (a1 : List T) : laws_eqEntryS.b (fun r => (ret r).map e) (fun x0z x0 x1z x1 x5 => (j0 x0z x0 x1z x1 x5).map e) k a0z a0 a1z a1 = (laws_eqEntryS.b ret j0 k a0z a0 a1z a1).map e := by
  unfold laws_eqEntryS.b
  repeat' first | with_reducible refine nat_cond ?_ ?_ | with_reducible refine nat_bind fun _ => ?_ | rfl
theorem laws_eqEntryS.l0b_nat {R R' : Type} (e : R → R') (ret : Bool → Option R) (j0 : Bool → (List T) → Bool → (List T) → Int → Option R) (k : Nat) (x0z : Bool) (x0 : List T) (x1z : Bool) (x1 : List T) (x5 : Int) : laws_eqEntryS.l0b (fun r => (ret r).map e) (fun x0z x0 x1z x1 x5 => (j0 x0z x0 x1z x1 x5).map e) k x0z x0 x1z x1 x5 = (laws_eqEntryS.l0b ret j0 k x0z x0 x1z x1 x5).map e := by
  unfold laws_eqEntryS.l0b
  repeat' first | with_reducible refine nat_cond ?_ ?_ | with_reducible refine nat_bind fun _ => ?_ | rfl
theorem laws_eqEntryS.rounds_eq (a0z : Bool) (a0 : List T) (a1z : Bool) (a1 : List T) : ∀ k, (∀ (x0z : Bool) (x0 : List T) (x1z : Bool) (x1 : List T) (x5 : Int), rounds Try.prog laws_eqEntryS.Cs (finish Try.prog [] Try.f119 [.v (.sl 85 a0z a0), .v (.sl 85 a1z a1)]) 100000 k laws_eqEntryS.K0 (laws_eqEntryS.N0 x0z x0 x1z x1 x5) = (laws_eqEntryS.l0 k x0z x0 x1z x1 x5).map laws_eqEntryS.enc)
  | 0 => fun _ _ _ _ _ => rfl
  | k + 1 => by
    have ih := laws_eqEntryS.rounds_eq a0z a0 a1z a1 k
    refine fun _ _ _ _ _ => ?_
    · refine (laws_eqEntryS.s0 k _ a0z a0 a1z a1 _ _ _ _ _).trans (Eq.trans ?_ (laws_eqEntryS.l0b_nat laws_eqEntryS.enc some (laws_eqEntryS.l0 k) k _ _ _ _ _))
      simp only [ih, Option.map_some]
theorem laws_eqEntryS.eq (k : Nat) (a0z : Bool) (a0 : List T) (a1z : Bool) (a1 : List T) : answer Try.prog laws_eqEntryS.Cs 100000 laws_eqEntryS.cuts [] Try.f119 (k + 1) [.v (.sl 85 a0z a0), .v (.sl 85 a1z a1)] = (laws_eqEntryS.f (k + 1) a0z a0 a1z a1).map laws_eqEntryS.enc := by
  have ih := laws_eqEntryS.rounds_eq a0z a0 a1z a1 k
  refine (laws_eqEntryS.s k a0z a0 a1z a1).trans (Eq.trans ?_ (laws_eqEntryS.b_nat laws_eqEntryS.enc some (laws_eqEntryS.l0 k) k a0z a0 a1z a1))
  simp only [ih, Option.map_some]
theorem laws_eqEntryS.sound (k : Nat) : SoundF Try.prog 119 (fun a => (laws_eqEntryS.ans k a).val) := by
  refine sound_plain (fun args res h => ?_) (fun t n => rfl)
  unfold laws_eqEntryS.ans at h
  dsimp only at h
  split at h
  · cases k with
    | zero => cases h
    | succ k =>
      unfold Ans.val at h
      rw [← laws_eqEntryS.eq] at h
      exact answer_sound mixed Try.func119 _ _ _ (k + 1) (fun j _ => tab_sound (tab_cons (laws_eqEntry.sound j) (tab_nil))) _ _ h
  · exact (Ans.no_val h).elim

/-! loop.example/g00790/laws.eqTc -/
def laws_eqTc.b {R : Type} (ret : Bool → Option R) (k : Nat) (a0_0 : Int) (a0_1z : Bool) (a0_1 : List T) (a1_0 : Int) (a1_1z : Bool) (a1_1 : List T) : Option R :=
  cond (!(decide (a0_0 = a1_0))) (ret false) ((laws_eqEntryS.f k a0_1z a0_1 a1_1z a1_1).bind fun t0 => cond (!t0) (ret false) (ret true))
def laws_eqTc.f : Nat → Int → Bool → (List T) → Int → Bool → (List T) → Option Bool
  | 0, _, _, _, _, _, _ => none
  | k + 1, a0_0, a0_1z, a0_1, a1_0, a1_1z, a1_1 => laws_eqTc.b some k a0_0 a0_1z a0_1 a1_0 a1_1z a1_1
def laws_eqTc.enc (r : Bool) : Res := ⟨[.vals false [((.bool r), true)]], []⟩
def laws_eqTc.ans (k : Nat) : List Arg → Ans
  | [.v (.agg [(.int .i64 a0_0), (.sl 85 a0_1z a0_1)]), .v (.agg [(.int .i64 a1_0), (.sl 85 a1_1z a1_1)])] => ⟨laws_eqTc.f k a0_0 a0_1z a0_1 a1_0 a1_1z a1_1, laws_eqTc.enc⟩
  | _ => Ans.no
def laws_eqTc.Cs (k : Nat) : CallSem := tab [(119, laws_eqEntryS.ans k)]
def laws_eqTc.cuts : List (Nat × Keep) := []
theorem laws_eqTc.s (k : Nat) (a0_0 : Int) (a0_1z : Bool) (a0_1 : List T) (a1_0 : Int) (a1_1z : Bool) (a1_1 : List T) : answer Try.prog laws_eqTc.Cs 100000 laws_eqTc.cuts [] Try.f42 (k + 1) [.v (.agg [(.int .i64 a0_0), (.sl 85 a0_1z a0_1)]), .v (.agg [(.int .i64 a1_0), (.sl 85 a1_1z a1_1)])] = laws_eqTc.b (fun r => some (laws_eqTc.enc r)) k a0_0 a0_1z a0_1 a1_0 a1_1z a1_1 := by kernel_rfl
theorem laws_eqTc.b_nat {R R' : Type} (e : R → R') (ret : Bool → Option R) (k : Nat) (a0_0 : Int) (a0_1z : Bool) (a0_1 : List T) (a1_0 : Int) (a1_1z : Bool) (a1_1 : List T) : laws_eqTc.b (fun r => (ret r).map e) k a0_0 a0_1z a0_1 a1_0 a1_1z a1_1 = (laws_eqTc.b ret k a0_0 a0_1z a0_1 a1_0 a1_1z a1_1).map e := by
  unfold laws_eqTc.b
  repeat' first | with_reducible refine nat_cond ?_ ?_ | with_reducible refine nat_bind fun _ => ?_ | rfl
theorem laws_eqTc.eq (k : Nat) (a0_0 : Int) (a0_1z : Bool) (a0_1 : List T) (a1_0 : Int) (a1_1z : Bool) (a1_1 : List T) : answer Try.prog laws_eqTc.Cs 100000 laws_eqTc.cuts [] Try.f42 (k + 1) [.v (.agg [(.int .i64 a0_0), (.sl 85 a0_1z a0_1)]), .v (.agg [(.int .i64 a1_0), (.sl 85 a1_1z a1_1)])] = (laws_eqTc.f (k + 1) a0_0 a0_1z a0_1 a1_0 a1_1z a1_1).map laws_eqTc.enc := by
  refine (laws_eqTc.s k a0_0 a0_1z a0_1 a1_0 a1_1z a1_1).trans (Eq.trans ?_ (laws_eqTc.b_nat laws_eqTc.enc some k a0_0 a0_1z a0_1 a1_0 a1_1z a1_1))
  simp only [Option.map_some]
theorem laws_eqTc.sound (k : Nat) : SoundF Try.prog 42 (fun a => (laws_eqTc.ans k a).val) := by
  refine sound_plain (fun args res h => ?_) (fun t n => rfl)
  unfold laws_eqTc.ans at h
  dsimp only at h
  split at h
  · cases k with
    | zero => cases h
    | succ k =>
      unfold Ans.val at h
      rw [← laws_eqTc.eq] at h
      exact answer_sound mixed Try.func42 _ _ _ (k + 1) (fun j _ => tab_sound (tab_cons (laws_eqEntryS.sound j) (tab_nil))) _ _ h
  · exact (Ans.no_val h).elim

/-! loop.example/g00790/laws.eqRow -/
def laws_eqRow.b {R : Type} (ret : Bool → Option R) (k : Nat) (a0_0 : Int) (a0_1z : Bool) (a0_1 : List Int) (a1_0 : Int) (a1_1z : Bool) (a1_1 : List Int) : Option R :=
  cond (!(decide (a0_0 = a1_0))) (ret false) ((laws_eqByteS.f k a0_1z a0_1 a1_1z a1_1).bind fun t0 => cond (!t0) (ret false) (ret true))
def laws_eqRow.f : Nat → Int → Bool → (List Int) → Int → Bool → (List Int) → Option Bool
  | 0, _, _, _, _, _, _ => none
  | k + 1, a0_0, a0_1z, a0_1, a1_0, a1_1z, a1_1 => laws_eqRow.b some k a0_0 a0_1z a0_1 a1_0 a1_1z a1_1
def laws_eqRow.enc (r : Bool) : Res := ⟨[.vals false [((.bool r), true)]], []⟩
def laws_eqRow.ans (k : Nat) : List Arg → Ans
  | [.v (.agg [(.int .i64 a0_0), (.nums 5 .u8 a0_1z a0_1)]), .v (.agg [(.int .i64 a1_0), (.nums 5 .u8 a1_1z a1_1)])] => ⟨laws_eqRow.f k a0_0 a0_1z a0_1 a1_0 a1_1z a1_1, laws_eqRow.enc⟩
  | _ => Ans.no
def laws_eqRow.Cs (k : Nat) : CallSem := tab [(53, laws_eqByteS.ans k)]
def laws_eqRow.cuts : List (Nat × Keep) := []
theorem laws_eqRow.s (k : Nat) (a0_0 : Int) (a0_1z : Bool) (a0_1 : List Int) (a1_0 : Int) (a1_1z : Bool) (a1_1 : List Int) : answer Try.prog laws_eqRow.Cs 100000 laws_eqRow.cuts [] Try.f176 (k + 1) [.v (.agg [(.int .i64 a0_0), (.nums 5 .u8 a0_1z a0_1)]), .v (.agg [(.int .i64 a1_0), (.nums 5 .u8 a1_1z a1_1)])] = laws_eqRow.b (fun r => some (laws_eqRow.enc r)) k a0_0 a0_1z a0_1 a1_0 a1_1z a1_1 := by kernel_rfl
theorem laws_eqRow.b_nat {R R' : Type} (e : R → R') (ret : Bool → Option R) (k : Nat) (a0_0 : Int) (a0_1z : Bool) (a0_1 : List Int) (a1_0 : Int) (a1_1z : Bool) (a1_1 : List Int) : laws_eqRow.b (fun r => (ret r).map e) k a0_0 a0_1z a0_1 a1_0 a1_1z a1_1 = (laws_eqRow.b ret k a0_0 a0_1z a0_1 a1_0 a1_1z a1_1).map e := by
  unfold laws_eqRow.b
  repeat' first | with_reducible refine nat_cond ?_ ?_ | with_reducible refine nat_bind fun _ => ?_ | rfl
theorem laws_eqRow.eq (k : Nat) (a0_0 : Int) (a0_1z : Bool) (a0_1 : List Int) (a1_0 : Int) (a1_1z : Bool) (a1_1 : List Int) : answer Try.prog laws_eqRow.Cs 100000 laws_eqRow.cuts [] Try.f176 (k + 1) [.v (.agg [(.int .i64 a0_0), (.nums 5 .u8 a0_1z a0_1)]), .v (.agg [(.int .i64 a1_0), (.nums 5 .u8 a1_1z a1_1)])] = (laws_eqRow.f (k + 1) a0_0 a0_1z a0_1 a1_0 a1_1z a1_1).map laws_eqRow.enc := by
  refine (laws_eqRow.s k a0_0 a0_1z a0_1 a1_0 a1_1z a1_1).trans (Eq.trans ?_ (laws_eqRow.b_nat laws_eqRow.enc some k a0_0 a0_1z a0_1 a1_0 a1_1z a1_1))
  simp only [Option.map_some]
theorem laws_eqRow.sound (k : Nat) : SoundF Try.prog 176 (fun a => (laws_eqRow.ans k a).val) := by
  refine sound_plain (fun args res h => ?_) (fun t n => rfl)
  unfold laws_eqRow.ans at h
  dsimp only at h
  split at h
  · cases k with
    | zero => cases h
    | succ k =>
      unfold Ans.val at h
      rw [← laws_eqRow.eq] at h
      exact answer_sound mixed Try.func176 _ _ _ (k + 1) (fun j _ => tab_sound (tab_cons (laws_eqByteS.sound j) (tab_nil))) _ _ h
  · exact (Ans.no_val h).elim

/-! loop.example/g00790/laws.eqRowS -/
def laws_eqRowS.b {R : Type} (ret : Bool → Option R) (j0 : Bool → (List T) → Bool → (List T) → Int → Option R) (k : Nat) (a0z : Bool) (a0 : List T) (a1z : Bool) (a1 : List T) : Option R :=
  cond (!(decide (((a0).length : Int) = ((a1).length : Int)))) (ret false) (j0 a0z a0 a1z a1 0)
def laws_eqRowS.l0b {R : Type} (ret : Bool → Option R) (j0 : Bool → (List T) → Bool → (List T) → Int → Option R) (k : Nat) (x0z : Bool) (x0 : List T) (x1z : Bool) (x1 : List T) (x5 : Int) : Option R :=
  cond (decide (x5 < ((x0).length : Int))) (cond (decide ((0 : Int) ≤ x5)) (cond (decide (x5 < ((x0).length : Int))) (cond (decide ((0 : Int) ≤ x5)) (cond (decide (x5 < ((x1).length : Int))) ((laws_eqRow.f k (((((x0).getD (x5).toNat .bad).cells.getD 0 .bad)).toInt) (((((x0).getD (x5).toNat .bad).cells.getD 1 .bad)).isNil) (((((x0).getD (x5).toNat .bad).cells.getD 1 .bad)).toNums) (((((x1).getD (x5).toNat .bad).cells.getD 0 .bad)).toInt) (((((x1).getD (x5).toNat .bad).cells.getD 1 .bad)).isNil) (((((x1).getD (x5).toNat .bad).cells.getD 1 .bad)).toNums)).bind fun t0 => cond (!t0) (ret false) (j0 x0z x0 x1z x1 (RowKit.wrap64 (x5 + 1)))) (none)) (none)) (none)) (none)) (ret true)
def laws_eqRowS.l0 : Nat → Bool → (List T) → Bool → (List T) → Int → Option Bool
  | 0, _, _, _, _, _ => none
  | k + 1, x0z, x0, x1z, x1, x5 => laws_eqRowS.l0b some (laws_eqRowS.l0 k) k x0z x0 x1z x1 x5
def laws_eqRowS.f : Nat → Bool → (List T) → Bool → (List T) → Option Bool
  | 0, _, _, _, _ => none
  | k + 1, a0z, a0, a1z, a1 => laws_eqRowS.b some (laws_eqRowS.l0 k) k a0z a0 a1z a1
def laws_eqRowS.enc (r : Bool) : Res := ⟨[.vals false [((.bool r), true)]], []⟩
def laws_eqRowS.ans (k : Nat) : List Arg → Ans
  | [.v (.sl 160 a0z a0), .v (.sl 160 a1z a1)] => ⟨laws_eqRowS.f k a0z a0 a1z a1, laws_eqRowS.enc⟩
  | _ => Ans.no
def laws_eqRowS.Cs (k : Nat) : CallSem := tab [(176, laws_eqRow.ans k)]
def laws_eqRowS.cuts : List (Nat × Keep) := [(58, ⟨[(0, some []), (1, some []), (5, some [])], []⟩)]
noncomputable def laws_eqRowS.K0 : List Fr := framesAt [true, true, false, true, false] (bodyOf Try.f109 laws_eqRowS.cuts) []
def laws_eqRowS.N0 (x0z : Bool) (x0 : List T) (x1z : Bool) (x1 : List T) (x5 : Int) : St := stOf 27 27 2 [(0, .val ⟨(.sl 160 x0z x0), [], false, none⟩), (1, .val ⟨(.sl 160 x1z x1), [], false, none⟩), (5, .val (V.s (.int .i64 x5)))] []
theorem laws_eqRowS.s (k : Nat) (a0z : Bool) (a0 : List T) (a1z : Bool) (a1 : List T) : answer Try.prog laws_eqRowS.Cs 100000 laws_eqRowS.cuts [] Try.f109 (k + 1) [.v (.sl 160 a0z a0), .v (.sl 160 a1z a1)] = laws_eqRowS.b (fun r => some (laws_eqRowS.enc r)) (fun x0z x0 x1z x1 x5 => rounds Try.prog laws_eqRowS.Cs (finish Try.prog [] Try.f109 [.v (.sl 160 a0z a0), .v (.sl 160 a1z a1)]) 100000 k laws_eqRowS.K0 (laws_eqRowS.N0 x0z x0 x1z x1 x5)) k a0z a0 a1z a1 := by kernel_rfl
theorem laws_eqRowS.s0 (k : Nat) (G : List Fr → St → Option Res) (a0z : Bool) (a0 : List T) (a1z : Bool) (a1 : List T) (yx0z : Bool) (yx0 : List T) (yx1z : Bool) (yx1 : List T) (yx5 : Int) : resume Try.prog (laws_eqRowS.Cs k) G (finish Try.prog [] Try.f109 [.v (.sl 160 a0z a0), .v (.sl 160 a1z a1)]) 100000 laws_eqRowS.K0 (laws_eqRowS.N0 yx0z yx0 yx1z yx1 yx5) = laws_eqRowS.l0b (fun r => some (laws_eqRowS.enc r)) (fun x0z x0 x1z x1 x5 => G laws_eqRowS.K0 (laws_eqRowS.N0 x0z x0 x1z x1 x5)) k yx0z yx0 yx1z yx1 yx5 := by kernel_rfl
theorem laws_eqRowS.b_nat {R R' : Type} (e : R → R') (ret : Bool → Option R) (j0 : Bool → (List T) → Bool → (List T) → Int → Option R) (k : Nat) (a0z : Bool) (a0 : List T) (a1z : Bool) (a1 : List T) : laws_eqRowS.b (fun r => (ret r).map e) (fun x0z x0 x1z x1 x5 => (j0 x0z x0 x1z x1 x5).map e) k a0z a0 a1z a1 = (laws_eqRowS.b ret j0 k a0z a0 a1z a1).map e := by
  unfold laws_eqRowS.b
  repeat' first | with_reducible refine nat_cond ?_ ?_ | with_reducible refine nat_bind fun _ => ?_ | rfl
theorem laws_eqRowS.l0b_nat {R R' : Type} (e : R → R') (ret : Bool → Option R) (j0 : Bool → (List T) → Bool → (List T) → Int → Option R) (k : Nat) (x0z : Bool) (x0 : List T) (x1z : Bool) (x1 : List T) (x5 : Int) : laws_eqRowS.l0b (fun r => (ret r).map e) (fun x0z x0 x1z x1 x5 => (j0 x0z x0 x1z x1 x5).map e) k x0z x0 x1z x1 x5 = (laws_eqRowS.l0b ret j0 k x0z x0 x1z x1 x5).map e := by
  unfold laws_eqRowS.l0b
  repeat' first | with_reducible refine nat_cond ?_ ?_ | with_reducible refine nat_bind fun _ => ?_ | rfl
theorem laws_eqRowS.rounds_eq (a0z : Bool) (a0 : List T) (a1z : Bool) (a1 : List T) : ∀ k, (∀ (x0z : Bool) (x0 : List T) (x1z : Bool) (x1 : List T) (x5 : Int), rounds Try.prog laws_eqRowS.Cs (finish Try.prog [] Try.f109 [.v (.sl 160 a0z a0), .v (.sl 160 a1z a1)]) 100000 k laws_eqRowS.K0 (laws_eqRowS.N0 x0z x0 x1z x1 x5) = (laws_eqRowS.l0 k x0z x0 x1z x1 x5).map laws_eqRowS.enc)
  | 0 => fun _ _ _ _ _ => rfl
  | k + 1 => by
    have ih := laws_eqRowS.rounds_eq a0z a0 a1z a1 k
    refine fun _ _ _ _ _ => ?_
    · refine (laws_eqRowS.s0 k _ a0z a0 a1z a1 _ _ _ _ _).trans (Eq.trans ?_ (laws_eqRowS.l0b_nat laws_eqRowS.enc some (laws_eqRowS.l0 k) k _ _ _ _ _))
      simp only [ih, Option.map_some]
theorem laws_eqRowS.eq (k : Nat) (a0z : Bool) (a0 : List T) (a1z : Bool) (a1 : List T) : answer Try.prog laws_eqRowS.Cs 100000 laws_eqRowS.cuts [] Try.f109 (k + 1) [.v (.sl 160 a0z a0), .v (.sl 160 a1z a1)] = (laws_eqRowS.f (k + 1) a0z a0 a1z a1).map laws_eqRowS.enc := by
  have ih := laws_eqRowS.rounds_eq a0z a0 a1z a1 k
  refine (laws_eqRowS.s k a0z a0 a1z a1).trans (Eq.trans ?_ (laws_eqRowS.b_nat laws_eqRowS.enc some (laws_eqRowS.l0 k) k a0z a0 a1z a1))
  simp only [ih, Option.map_some]
theorem laws_eqRowS.sound (k : Nat) : SoundF Try.prog 109 (fun a => (laws_eqRowS.ans k a).val) := by
  refine sound_plain (fun args res h => ?_) (fun t n => rfl)
  unfold laws_eqRowS.ans at h
  dsimp only at h
  split at h
  · cases k with
    | zero => cases h
    | succ k =>
      unfold Ans.val at h
      rw [← laws_eqRowS.eq] at h
      exact answer_sound mixed Try.func109 _ _ _ (k + 1) (fun j _ => tab_sound (tab_cons (laws_eqRow.sound j) (tab_nil))) _ _ h
  · exact (Ans.no_val h).elim

/-! loop.example/g00790/laws.eqTable -/
def laws_eqTable.b {R : Type} (ret : Bool → Option R) (k : Nat) (a0_0z : Bool) (a0_0 : List T) (a1_0z : Bool) (a1_0 : List T) : Option R :=
  (laws_eqRowS.f k a0_0z a0_0 a1_0z a1_0).bind fun t0 => cond (!t0) (ret false) (ret true)
def laws_eqTable.f : Nat → Bool → (List T) → Bool → (List T) → Option Bool
  | 0, _, _, _, _ => none
  | k + 1, a0_0z, a0_0, a1_0z, a1_0 => laws_eqTable.b some k a0_0z a0_0 a1_0z a1_0
def laws_eqTable.enc (r : Bool) : Res := ⟨[.vals false [((.bool r), true)]], []⟩
def laws_eqTable.ans (k : Nat) : List Arg → Ans
  | [.v (.agg [(.sl 160 a0_0z a0_0)]), .v (.agg [(.sl 160 a1_0z a1_0)])] => ⟨laws_eqTable.f k a0_0z a0_0 a1_0z a1_0, laws_eqTable.enc⟩
  | _ => Ans.no
def laws_eqTable.Cs (k : Nat) : CallSem := tab [(109, laws_eqRowS.ans k)]
def laws_eqTable.cuts : List (Nat × Keep) := []
theorem laws_eqTable.s (k : Nat) (a0_0z : Bool) (a0_0 : List T) (a1_0z : Bool) (a1_0 : List T) : answer Try.prog laws_eqTable.Cs 100000 laws_eqTable.cuts [] Try.f36 (k + 1) [.v (.agg [(.sl 160 a0_0z a0_0)]), .v (.agg [(.sl 160 a1_0z a1_0)])] = laws_eqTable.b (fun r => some (laws_eqTable.enc r)) k a0_0z a0_0 a1_0z a1_0 := by kernel_rfl
theorem laws_eqTable.b_nat {R R' : Type} (e : R → R') (ret : Bool → Option R) (k : Nat) (a0_0z : Bool) (a0_0 : List T) (a1_0z : Bool) (a1_0 : List T) : laws_eqTable.b (fun r => (ret r).map e) k a0_0z a0_0 a1_0z a1_0 = (laws_eqTable.b ret k a0_0z a0_0 a1_0z a1_0).map e := by
  unfold laws_eqTable.b
  repeat' first | with_reducible refine nat_cond ?_ ?_ | with_reducible refine nat_bind fun _ => ?_ | rfl
theorem laws_eqTable.eq (k : Nat) (a0_0z : Bool) (a0_0 : List T) (a1_0z : Bool) (a1_0 : List T) : answer Try.prog laws_eqTable.Cs 100000 laws_eqTable.cuts [] Try.f36 (k + 1) [.v (.agg [(.sl 160 a0_0z a0_0)]), .v (.agg [(.sl 160 a1_0z a1_0)])] = (laws_eqTable.f (k + 1) a0_0z a0_0 a1_0z a1_0).map laws_eqTable.enc := by
  refine (laws_eqTable.s k a0_0z a0_0 a1_0z a1_0).trans (Eq.trans ?_ (laws_eqTable.b_nat laws_eqTable.enc some k a0_0z a0_0 a1_0z a1_0))
  simp only [Option.map_some]
theorem laws_eqTable.sound (k : Nat) : SoundF Try.prog 36 (fun a => (laws_eqTable.ans k a).val) := by
  refine sound_plain (fun args res h => ?_) (fun t n => rfl)
  unfold laws_eqTable.ans at h
  dsimp only at h
  split at h
  · cases k with
    | zero => cases h
    | succ k =>
      unfold Ans.val at h
      rw [← laws_eqTable.eq] at h
      exact answer_sound mixed Try.func36 _ _ _ (k + 1) (fun j _ => tab_sound (tab_cons (laws_eqRowS.sound j) (tab_nil))) _ _ h
  · exact (Ans.no_val h).elim

/-! loop.example/g00790/laws.markByteS -/
def laws_markByteS.b {R : Type} (ret : Int × Bool × List Int → Option R) (j0 : Bool → (List Int) → Int → Int → Option R) (k : Nat) (a0z : Bool) (a0 : List Int) (a1 : Int) : Option R :=
  j0 a0z a0 a1 0
def laws_markByteS.l0b {R : Type} (ret : Int × Bool × List Int → Option R) (j0 : Bool → (List Int) → Int → Int → Option R) (k : Nat) (x0z : Bool) (x0 : List Int) (x1 : Int) (x5 : Int) : Option R :=
  cond (decide (x5 < ((x0).length : Int))) (cond (decide ((0 : Int) ≤ x5)) (cond (decide (x5 < ((x0).length : Int))) (j0 x0z ((x0).set (x5).toNat ((x1) % 256)) (RowKit.wrap64 (x1 + 1)) (RowKit.wrap64 (x5 + 1))) (none)) (none)) (ret (x1, x0z, x0))
def laws_markByteS.l0 : Nat → Bool → (List Int) → Int → Int → Option (Int × Bool × List Int)
  | 0, _, _, _, _ => none
  | k + 1, x0z, x0, x1, x5 => laws_markByteS.l0b some (laws_markByteS.l0 k) k x0z x0 x1 x5
def laws_markByteS.f : Nat → Bool → (List Int) → Int → Option (Int × Bool × List Int)
  | 0, _, _, _ => none
  | k + 1, a0z, a0, a1 => laws_markByteS.b some (laws_markByteS.l0 k) k a0z a0 a1
def laws_markByteS.enc (r : Int × Bool × List Int) : Res := ⟨[.vals false [((.int .i64 r.1), true)]], [[((.nums 5 .u8 r.2.1 r.2.2), true)]]⟩
def laws_markByteS.ans (k : Nat) : List Arg → Ans
  | [.own (.nums 5 .u8 a0z a0), .v (.int .i64 a1)] => ⟨laws_markByteS.f k a0z a0 a1, laws_markByteS.enc⟩
  | _ => Ans.no
def laws_markByteS.Cs (k : Nat) : CallSem := tab []
def laws_markByteS.cuts : List (Nat × Keep) := [(26, ⟨[(0, none), (1, some []), (5, some [])], []⟩)]
noncomputable def laws_markByteS.K0 : List Fr := framesAt [true, false, true, false] (bodyOf Try.f54 laws_markByteS.cuts) []
def laws_markByteS.N0 (x0z : Bool) (x0 : List Int) (x1 : Int) (x5 : Int) : St := stOf 20 20 2 [(0, .val ⟨(.nums 5 .u8 x0z x0), [.h 0], true, some (.h 0)⟩), (1, .val (V.s (.int .i64 x1))), (5, .val (V.s (.int .i64 x5)))] []
theorem laws_markByteS.s (k : Nat) (a0z : Bool) (a0 : List Int) (a1 : Int) : answerM Try.prog laws_markByteS.Cs 100000 laws_markByteS.cuts Try.f54 (k + 1) [.own (.nums 5 .u8 a0z a0), .v (.int .i64 a1)] = laws_markByteS.b (fun r => some (laws_markByteS.enc r)) (fun x0z x0 x1 x5 => rounds Try.prog laws_markByteS.Cs (finishM Try.prog Try.f54 (.nums 5 .u8 a0z a0)) 100000 k laws_markByteS.K0 (laws_markByteS.N0 x0z x0 x1 x5)) k a0z a0 a1 := by kernel_rfl
theorem laws_markByteS.s0 (k : Nat) (G : List Fr → St → Option Res) (a0z : Bool) (a0 : List Int) (a1 : Int) (yx0z : Bool) (yx0 : List Int) (yx1 : Int) (yx5 : Int) : resume Try.prog (laws_markByteS.Cs k) G (finishM Try.prog Try.f54 (.nums 5 .u8 a0z a0)) 100000 laws_markByteS.K0 (laws_markByteS.N0 yx0z yx0 yx1 yx5) = laws_markByteS.l0b (fun r => some (laws_markByteS.enc r)) (fun x0z x0 x1 x5 => G laws_markByteS.K0 (laws_markByteS.N0 x0z x0 x1 x5)) k yx0z yx0 yx1 yx5 := by kernel_rfl
theorem laws_markByteS.b_nat {R R' : Type} (e : R → R') (ret : Int × Bool × List Int → Option R) (j0 : Bool → (List Int) → Int → Int → Option R) (k : Nat) (a0z : Bool) (a0 : List Int) (a1 : Int) : laws_markByteS.b (fun r => (ret r).map e) (fun x0z x0 x1 x5 => (j0 x0z x0 x1 x5).map e) k a0z a0 a1 = (laws_markByteS.b ret j0 k a0z a0 a1).map e := by
  unfold laws_markByteS.b
  repeat' first | with_reducible refine nat_cond ?_ ?_ | with_reducible refine nat_bind fun _ => ?_ | rfl
theorem laws_markByteS.l0b_nat {R R' : Type} (e : R → R') (ret : Int × Bool × List Int → Option R) (j0 : Bool → (List Int) → Int → Int → Option R) (k : Nat) (x0z : Bool) (x0 : List Int) (x1 : Int) (x5 : Int) : laws_markByteS.l0b (fun r => (ret r).map e) (fun x0z x0 x1 x5 => (j0 x0z x0 x1 x5).map e) k x0z x0 x1 x5 = (laws_markByteS.l0b ret j0 k x0z x0 x1 x5).map e := by
  unfold laws_markByteS.l0b
  repeat' first | with_reducible refine nat_cond ?_ ?_ | with_reducible refine nat_bind fun _ => ?_ | rfl
theorem laws_markByteS.rounds_eq (a0z : Bool) (a0 : List Int) (a1 : Int) : ∀ k, (∀ (x0z : Bool) (x0 : List Int) (x1 : Int) (x5 : Int), rounds Try.prog laws_markByteS.Cs (finishM Try.prog Try.f54 (.nums 5 .u8 a0z a0)) 100000 k laws_markByteS.K0 (laws_markByteS.N0 x0z x0 x1 x5) = (laws_markByteS.l0 k x0z x0 x1 x5).map laws_markByteS.enc)
  | 0 => fun _ _ _ _ => rfl
  | k + 1 => by
    have ih := laws_markByteS.rounds_eq a0z a0 a1 k
    refine fun _ _ _ _ => ?_
    · refine (laws_markByteS.s0 k _ a0z a0 a1 _ _ _ _).trans (Eq.trans ?_ (laws_markByteS.l0b_nat laws_markByteS.enc some (laws_markByteS.l0 k) k _ _ _ _))
      simp only [ih, Option.map_some]
theorem laws_markByteS.eq (k : Nat) (a0z : Bool) (a0 : List Int) (a1 : Int) : answerM Try.prog laws_markByteS.Cs 100000 laws_markByteS.cuts Try.f54 (k + 1) [.own (.nums 5 .u8 a0z a0), .v (.int .i64 a1)] = (laws_markByteS.f (k + 1) a0z a0 a1).map laws_markByteS.enc := by
  have ih := laws_markByteS.rounds_eq a0z a0 a1 k
  refine (laws_markByteS.s k a0z a0 a1).trans (Eq.trans ?_ (laws_markByteS.b_nat laws_markByteS.enc some (laws_markByteS.l0 k) k a0z a0 a1))
  simp only [ih, Option.map_some]
theorem laws_markByteS.sound (k : Nat) : SoundF Try.prog 54 (fun a => (laws_markByteS.ans k a).val) := by
  refine sound_mark (fun args hne => ?_) (fun t n l m h => ?_)
  · unfold laws_markByteS.ans
    split
    · exact (hne _ _ rfl).elim
    · rfl
  unfold laws_markByteS.ans at h
  dsimp only at h
  split at h
  · rename_i heq
    cases heq
    cases k with
    | zero => cases h
    | succ k =>
      unfold Ans.val at h
      rw [← laws_markByteS.eq] at h
      exact answerM_sound (Cs := laws_markByteS.Cs) mixed Try.func54 100000 laws_markByteS.cuts (k + 1) (fun j _ => tab_sound (tab_nil)) _ _ _ _ h
  · exact (Ans.no_val h).elim

/-! loop.example/g00790/laws.markRowS -/
def laws_markRowS.b {R : Type} (ret : Int × Bool × List T → Option R) (j0 : Bool → (List T) → Int → Int → Option R) (k : Nat) (a0z : Bool) (a0 : List T) (a1 : Int) : Option R :=
  j0 a0z a0 a1 0
def laws_markRowS.l0b {R : Type} (ret : Int × Bool × List T → Option R) (j0 : Bool → (List T) → Int → Int → Option R) (k : Nat) (x0z : Bool) (x0 : List T) (x1 : Int) (x5 : Int) : Option R :=
  cond (decide (x5 < ((x0).length : Int))) (cond (decide ((0 : Int) ≤ x5)) (cond (decide (x5 < ((x0).length : Int))) (cond (decide ((0 : Int) ≤ x5)) (cond (decide (x5 < ((((x0).set (x5).toNat (.agg [(.int .i64 x1), (.nums 5 .u8 ((((x0).getD (x5).toNat .bad).cells.getD 1 .bad)).isNil ((((x0).getD (x5).toNat .bad).cells.getD 1 .bad)).toNums)]))).length : Int))) ((laws_markByteS.f k (((((((x0).set (x5).toNat (.agg [(.int .i64 x1), (.nums 5 .u8 ((((x0).getD (x5).toNat .bad).cells.getD 1 .bad)).isNil ((((x0).getD (x5).toNat .bad).cells.getD 1 .bad)).toNums)]))).getD (x5).toNat .bad).cells.getD 1 .bad)).isNil) (((((((x0).set (x5).toNat (.agg [(.int .i64 x1), (.nums 5 .u8 ((((x0).getD (x5).toNat .bad).cells.getD 1 .bad)).isNil ((((x0).getD (x5).toNat .bad).cells.getD 1 .bad)).toNums)]))).getD (x5).toNat .bad).cells.getD 1 .bad)).toNums) (RowKit.wrap64 (x1 + 1))).bind fun t0 => j0 x0z ((((x0).set (x5).toNat (.agg [(.int .i64 x1), (.nums 5 .u8 ((((x0).getD (x5).toNat .bad).cells.getD 1 .bad)).isNil ((((x0).getD (x5).toNat .bad).cells.getD 1 .bad)).toNums)]))).set (x5).toNat (.agg [(.int .i64 ((((((x0).set (x5).toNat (.agg [(.int .i64 x1), (.nums 5 .u8 ((((x0).getD (x5).toNat .bad).cells.getD 1 .bad)).isNil ((((x0).getD (x5).toNat .bad).cells.getD 1 .bad)).toNums)]))).getD (x5).toNat .bad).cells.getD 0 .bad)).toInt), (.nums 5 .u8 t0.2.1 t0.2.2)])) t0.1 (RowKit.wrap64 (x5 + 1))) (none)) (none)) (none)) (none)) (ret (x1, x0z, x0))
def laws_markRowS.l0 : Nat → Bool → (List T) → Int → Int → Option (Int × Bool × List T)
  | 0, _, _, _, _ => none
  | k + 1, x0z, x0, x1, x5 => laws_markRowS.l0b some (laws_markRowS.l0 k) k x0z x0 x1 x5
def laws_markRowS.f : Nat → Bool → (List T) → Int → Option (Int × Bool × List T)
  | 0, _, _, _ => none
  | k + 1, a0z, a0, a1 => laws_markRowS.b some (laws_markRowS.l0 k) k a0z a0 a1
def laws_markRowS.enc (r : Int × Bool × List T) : Res := ⟨[.vals false [((.int .i64 r.1), true)]], [[((.sl 160 r.2.1 r.2.2), true)]]⟩
def laws_markRowS.ans (k : Nat) : List Arg → Ans
  | [.own (.sl 160 a0z a0), .v (.int .i64 a1)] => ⟨laws_markRowS.f k a0z a0 a1, laws_markRowS.enc⟩
  | _ => Ans.no
def laws_markRowS.Cs (k : Nat) : CallSem := tab [(54, laws_markByteS.ans k)]
def laws_markRowS.cuts : List (Nat × Keep) := [(26, ⟨[(0, none), (1, some []), (5, some [])], []⟩)]
noncomputable def laws_markRowS.K0 : List Fr := framesAt [true, false, true, false] (bodyOf Try.f128 laws_markRowS.cuts) []
def laws_markRowS.N0 (x0z : Bool) (x0 : List T) (x1 : Int) (x5 : Int) : St := stOf 27 27 2 [(0, .val ⟨(.sl 160 x0z x0), [.h 0], true, some (.h 0)⟩), (1, .val (V.s (.int .i64 x1))), (5, .val (V.s (.int .i64 x5)))] []
theorem laws_markRowS.s (k : Nat) (a0z : Bool) (a0 : List T) (a1 : Int) : answerM Try.prog laws_markRowS.Cs 100000 laws_markRowS.cuts Try.f128 (k + 1) [.own (.sl 160 a0z a0), .v (.int .i64 a1)] = laws_markRowS.b (fun r => some (laws_markRowS.enc r)) (fun x0z x0 x1 x5 => rounds Try.prog laws_markRowS.Cs (finishM Try.prog Try.f128 (.sl 160 a0z a0)) 100000 k laws_markRowS.K0 (laws_markRowS.N0 x0z x0 x1 x5)) k a0z a0 a1 := by kernel_rfl
theorem laws_markRowS.s0 (k : Nat) (G : List Fr → St → Option Res) (a0z : Bool) (a0 : List T) (a1 : Int) (yx0z : Bool) (yx0 : List T) (yx1 : Int) (yx5 : Int) : resume Try.prog (laws_markRowS.Cs k) G (finishM Try.prog Try.f128 (.sl 160 a0z a0)) 100000 laws_markRowS.K0 (laws_markRowS.N0 yx0z yx0 yx1 yx5) = laws_markRowS.l0b (fun r => some (laws_markRowS.enc r)) (fun x0z x0 x1 x5 => G laws_markRowS.K0 (laws_markRowS.N0 x0z x0 x1 x5)) k yx0z yx0 yx1 yx5 := by kernel_rfl
theorem laws_markRowS.b_nat {R R' : Type} (e : R → R') (ret : Int × Bool × List T → Option R) (j0 : Bool → (List T) → Int → Int → Option R) (k : Nat) (a0z : Bool) (a0 : List T) (a1 : Int) : laws_markRowS.b (fun r => (ret r).map e) (fun x0z x0 x1 x5 => (j0 x0z x0 x1 x5).map e) k a0z a0 a1 = (laws_markRowS.b ret j0 k a0z a0 a1).map e := by
  unfold laws_markRowS.b
  repeat' first | with_reducible refine nat_cond ?_ ?_ | with_reducible refine nat_bind fun _ => ?_ | rfl
theorem laws_markRowS.l0b_nat {R R' : Type} (e : R → R') (ret : Int × Bool × List T → Option R) (j0 : Bool → (List T) → Int → Int → Option R) (k : Nat) (x0z : Bool) (x0 : List T) (x1 : Int) (x5 : Int) : laws_markRowS.l0b (fun r => (ret r).map e) (fun x0z x0 x1 x5 => (j0 x0z x0 x1 x5).map e) k x0z x0 x1 x5 = (laws_markRowS.l0b ret j0 k x0z x0 x1 x5).map e := by
  unfold laws_markRowS.l0b
  repeat' first | with_reducible refine nat_cond ?_ ?_ | with_reducible refine nat_bind fun _ => ?_ | rfl
theorem laws_markRowS.rounds_eq (a0z : Bool) (a0 : List T) (a1 : Int) : ∀ k, (∀ (x0z : Bool) (x0 : List T) (x1 : Int) (x5 : Int), rounds Try.prog laws_markRowS.Cs (finishM Try.prog Try.f128 (.sl 160 a0z a0)) 100000 k laws_markRowS.K0 (laws_markRowS.N0 x0z x0 x1 x5) = (laws_markRowS.l0 k x0z x0 x1 x5).map laws_markRowS.enc)
  | 0 => fun _ _ _ _ => rfl
  | k + 1 => by
    have ih := laws_markRowS.rounds_eq a0z a0 a1 k
    refine fun _ _ _ _ => ?_
    · refine (laws_markRowS.s0 k _ a0z a0 a1 _ _ _ _).trans (Eq.trans ?_ (laws_markRowS.l0b_nat laws_markRowS.enc some (laws_markRowS.l0 k) k _ _ _ _))
      simp only [ih, Option.map_some]
theorem laws_markRowS.eq (k : Nat) (a0z : Bool) (a0 : List T) (a1 : Int) : answerM Try.prog laws_markRowS.Cs 100000 laws_markRowS.cuts Try.f128 (k + 1) [.own (.sl 160 a0z a0), .v (.int .i64 a1)] = (laws_markRowS.f (k + 1) a0z a0 a1).map laws_markRowS.enc := by
  have ih := laws_markRowS.rounds_eq a0z a0 a1 k
  refine (laws_markRowS.s k a0z a0 a1).trans (Eq.trans ?_ (laws_markRowS.b_nat laws_markRowS.enc some (laws_markRowS.l0 k) k a0z a0 a1))
  simp only [ih, Option.map_some]
theorem laws_markRowS.sound (k : Nat) : SoundF Try.prog 128 (fun a => (laws_markRowS.ans k a).val) := by
  refine sound_mark (fun args hne => ?_) (fun t n l m h => ?_)
  · unfold laws_markRowS.ans
    split
    · exact (hne _ _ rfl).elim
    · rfl
  unfold laws_markRowS.ans at h
  dsimp only at h
  split at h
  · rename_i heq
    cases heq
    cases k with
    | zero => cases h
    | succ k =>
      unfold Ans.val at h
      rw [← laws_markRowS.eq] at h
      exact answerM_sound (Cs := laws_markRowS.Cs) mixed Try.func128 100000 laws_markRowS.cuts (k + 1) (fun j _ => tab_sound (tab_cons (laws_markByteS.sound j) (tab_nil))) _ _ _ _ h
  · exact (Ans.no_val h).elim

/-! loop.example/g00790/laws.markTable -/
def laws_markTable.b {R : Type} (ret : Int × Bool × List T → Option R) (k : Nat) (a0_0z : Bool) (a0_0 : List T) (a1 : Int) : Option R :=
  (laws_markRowS.f k a0_0z a0_0 a1).bind fun t0 => ret (t0.1, t0.2.1, t0.2.2)
def laws_markTable.f : Nat → Bool → (List T) → Int → Option (Int × Bool × List T)
  | 0, _, _, _ => none
  | k + 1, a0_0z, a0_0, a1 => laws_markTable.b some k a0_0z a0_0 a1
def laws_markTable.enc (r : Int × Bool × List T) : Res := ⟨[.vals false [((.int .i64 r.1), true)]], [[((.sl 160 r.2.1 r.2.2), true)]]⟩
def laws_markTable.ans (k : Nat) : List Arg → Ans
  | [.own (.agg [(.sl 160 a0_0z a0_0)]), .v (.int .i64 a1)] => ⟨laws_markTable.f k a0_0z a0_0 a1, laws_markTable.enc⟩
  | _ => Ans.no
def laws_markTable.Cs (k : Nat) : CallSem := tab [(128, laws_markRowS.ans k)]
def laws_markTable.cuts : List (Nat × Keep) := []
theorem laws_markTable.s (k : Nat) (a0_0z : Bool) (a0_0 : List T) (a1 : Int) : answerM Try.prog laws_markTable.Cs 100000 laws_markTable.cuts Try.f46 (k + 1) [.own (.agg [(.sl 160 a0_0z a0_0)]), .v (.int .i64 a1)] = laws_markTable.b (fun r => some (laws_markTable.enc r)) k a0_0z a0_0 a1 := by kernel_rfl
theorem laws_markTable.b_nat {R R' : Type} (e : R → R') (ret : Int × Bool × List T → Option R) (k : Nat) (a0_0z : Bool) (a0_0 : List T) (a1 : Int) : laws_markTable.b (fun r => (ret r).map e) k a0_0z a0_0 a1 = (laws_markTable.b ret k a0_0z a0_0 a1).map e := by
  unfold laws_markTable.b
  repeat' first | with_reducible refine nat_cond ?_ ?_ | with_reducible refine nat_bind fun _ => ?_ | rfl
theorem laws_markTable.eq (k : Nat) (a0_0z : Bool) (a0_0 : List T) (a1 : Int) : answerM Try.prog laws_markTable.Cs 100000 laws_markTable.cuts Try.f46 (k + 1) [.own (.agg [(.sl 160 a0_0z a0_0)]), .v (.int .i64 a1)] = (laws_markTable.f (k + 1) a0_0z a0_0 a1).map laws_markTable.enc := by
  refine (laws_markTable.s k a0_0z a0_0 a1).trans (Eq.trans ?_ (laws_markTable.b_nat laws_markTable.enc some k a0_0z a0_0 a1))
  simp only [Option.map_some]
theorem laws_markTable.sound (k : Nat) : SoundF Try.prog 46 (fun a => (laws_markTable.ans k a).val) := by
  refine sound_mark (fun args hne => ?_) (fun t n l m h => ?_)
  · unfold laws_markTable.ans
    split
    · exact (hne _ _ rfl).elim
    · rfl
  unfold laws_markTable.ans at h
  dsimp only at h
  split at h
  · rename_i heq
    cases heq
    cases k with
    | zero => cases h
    | succ k =>
      unfold Ans.val at h
      rw [← laws_markTable.eq] at h
      exact answerM_sound (Cs := laws_markTable.Cs) mixed Try.func46 100000 laws_markTable.cuts (k + 1) (fun j _ => tab_sound (tab_cons (laws_markRowS.sound j) (tab_nil))) _ _ _ _ h
  · exact (Ans.no_val h).elim

/-! loop.example/g00790/laws.markEntryS -/
def laws_markEntryS.b {R : Type} (ret : Int × Bool × List T → Option R) (j0 : Bool → (List T) → Int → Int → Option R) (k : Nat) (a0z : Bool) (a0 : List T) (a1 : Int) : Option R :=
  j0 a0z a0 a1 0
def laws_markEntryS.l0b {R : Type} (ret : Int × Bool × List T → Option R) (j0 : Bool → (List T) → Int → Int → Option R) (k : Nat) (x0z : Bool) (x0 : List T) (x1 : Int) (x5 : Int) : Option R :=
  cond (decide (x5 < ((x0).length : Int))) (cond (decide ((0 : Int) ≤ x5)) (cond (decide (x5 < ((x0).length : Int))) (cond (decide ((0 : Int) ≤ x5)) (cond (decide (x5 < ((((x0).set (x5).toNat (.agg [(.int .i64 x1), (.int .i64 ((((x0).getD (x5).toNat .bad).cells.getD 1 .bad)).toInt), (.nums 5 .u8 ((((x0).getD (x5).toNat .bad).cells.getD 2 .bad)).isNil ((((x0).getD (x5).toNat .bad).cells.getD 2 .bad)).toNums)]))).length : Int))) (cond (decide ((0 : Int) ≤ x5)) (cond (decide (x5 < ((((((x0).set (x5).toNat (.agg [(.int .i64 x1), (.int .i64 ((((x0).getD (x5).toNat .bad).cells.getD 1 .bad)).toInt), (.nums 5 .u8 ((((x0).getD (x5).toNat .bad).cells.getD 2 .bad)).isNil ((((x0).getD (x5).toNat .bad).cells.getD 2 .bad)).toNums)]))).set (x5).toNat (.agg [(.int .i64 ((((((x0).set (x5).toNat (.agg [(.int .i64 x1), (.int .i64 ((((x0).getD (x5).toNat .bad).cells.getD 1 .bad)).toInt), (.nums 5 .u8 ((((x0).getD (x5).toNat .bad).cells.getD 2 .bad)).isNil ((((x0).getD (x5).toNat .bad).cells.getD 2 .bad)).toNums)]))).getD (x5).toNat .bad).cells.getD 0 .bad)).toInt), (.int .i64 (RowKit.wrap64 (x1 + 1))), (.nums 5 .u8 ((((((x0).set (x5).toNat (.agg [(.int .i64 x1), (.int .i64 ((((x0).getD (x5).toNat .bad).cells.getD 1 .bad)).toInt), (.nums 5 .u8 ((((x0).getD (x5).toNat .bad).cells.getD 2 .bad)).isNil ((((x0).getD (x5).toNat .bad).cells.getD 2 .bad)).toNums)]))).getD (x5).toNat .bad).cells.getD 2 .bad)).isNil ((((((x0).set (x5).toNat (.agg [(.int .i64 x1), (.int .i64 ((((x0).getD (x5).toNat .bad).cells.getD 1 .bad)).toInt), (.nums 5 .u8 ((((x0).getD (x5).toNat .bad).cells.getD 2 .bad)).isNil ((((x0).getD (x5).toNat .bad).cells.getD 2 .bad)).toNums)]))).getD (x5).toNat .bad).cells.getD 2 .bad)).toNums)]))).length : Int))) ((laws_markByteS.f k (((((((((x0).set (x5).toNat (.agg [(.int .i64 x1), (.int .i64 ((((x0).getD (x5).toNat .bad).cells.getD 1 .bad)).toInt), (.nums 5 .u8 ((((x0).getD (x5).toNat .bad).cells.getD 2 .bad)).isNil ((((x0).getD (x5).toNat .bad).cells.getD 2 .bad)).toNums)]))).set (x5).toNat (.agg [(.int .i64 ((((((x0).set (x5).toNat (.agg [(.int .i64 x1), (.int .i64 ((((x0).getD (x5).toNat .bad).cells.getD 1 .bad)).toInt), (.nums 5 .u8 ((((x0).getD (x5).toNat .bad).cells.getD 2 .bad)).isNil ((((x0).getD (x5).toNat .bad).cells.getD 2 .bad)).toNums)]))).getD (x5).toNat .bad).cells.getD 0 .bad)).toInt), (.int .i64 (RowKit.wrap64 (x1 + 1))), (.nums 5 .u8 ((((((x0).set (x5).toNat (.agg [(.int .i64 x1), (.int .i64 ((((x0).getD (x5).toNat .bad).cells.getD 1 .bad)).toInt), (.nums 5 .u8 ((((x0).getD (x5).toNat .bad).cells.getD 2 .bad)).isNil ((((x0).getD (x5).toNat .bad).cells.getD 2 .bad)).toNums)]))).getD (x5).toNat .bad).cells.getD 2 .bad)).isNil ((((((x0).set (x5).toNat (.agg [(.int .i64 x1), (.int .i64 ((((x0).getD (x5).toNat .bad).cells.getD 1 .bad)).toInt), (.nums 5 .u8 ((((x0).getD (x5).toNat .bad).cells.getD 2 .bad)).isNil ((((x0).getD (x5).toNat .bad).cells.getD 2 .bad)).toNums)]))).getD (x5).toNat .bad).cells.getD 2 .bad)).toNums)]))).getD (x5).toNat .bad).cells.getD 2 .bad)).isNil) (((((((((x0).set (x5).toNat (.agg [(.int .i64 x1), (.int .i64 ((((x0).getD (x5).toNat .bad).cells.getD 1 .bad)).toInt), (.nums 5 .u8 ((((x0).getD (x5).toNat .bad).cells.getD 2 .bad)).isNil ((((x0).getD (x5).toNat .bad).cells.getD 2 .bad)).toNums)]))).set (x5).toNat (.agg [(.int .i64 ((((((x0).set (x5).toNat (.agg [(.int .i64 x1), (.int .i64 ((((x0).getD (x5).toNat .bad).cells.getD 1 .bad)).toInt), (.nums 5 .u8 ((((x0).getD (x5).toNat .bad).cells.getD 2 .bad)).isNil ((((x0).getD (x5).toNat .bad).cells.getD 2 .bad)).toNums)]))).getD (x5).toNat .bad).cells.getD 0 .bad)).toInt), (.int .i64 (RowKit.wrap64 (x1 + 1))), (.nums 5 .u8 ((((((x0).set (x5).toNat (.agg [(.int .i64 x1), (.int .i64 ((((x0).getD (x5).toNat .bad).cells.getD 1 .bad)).toInt), (.nums 5 .u8 ((((x0).getD (x5).toNat .bad).cells.getD 2 .bad)).isNil ((((x0).getD (x5).toNat .bad).cells.getD 2 .bad)).toNums)]))).getD (x5).toNat .bad).cells.getD 2 .bad)).isNil ((((((x0).set (x5).toNat (.agg [(.int .i64 x1), (.int .i64 ((((x0).getD (x5).toNat .bad).cells.getD 1 .bad)).toInt), (.nums 5 .u8 ((((x0).getD (x5).toNat .bad).cells.getD 2 .bad)).isNil ((((x0).getD (x5).toNat .bad).cells.getD 2 .bad)).toNums)]))).getD (x5).toNat .bad).cells.getD 2 .bad)).toNums)]))).getD (x5).toNat .bad).cells.getD 2 .bad)).toNums) (RowKit.wrap64 ((RowKit.wrap64 (x1 + 1)) + 1))).bind fun t0 => j0 x0z ((((((x0).set (x5).toNat (.agg [(.int .i64 x1), (.int .i64 ((((x0).getD (x5).toNat .bad).cells.getD 1 .bad)).toInt), (.nums 5 .u8 ((((x0).getD (x5).toNat .bad).cells.getD 2 .bad)).isNil ((((x0).getD (x5).toNat .bad).cells.getD 2 .bad)).toNums)]))).set (x5).toNat (.agg [(.int .i64 ((((((x0).set (x5).toNat (.agg [(.int .i64 x1), (.int .i64 ((((x0).getD (x5).toNat .bad).cells.getD 1 .bad)).toInt), (.nums 5 .u8 ((((x0).getD (x5).toNat .bad).cells.getD 2 .bad)).isNil ((((x0).getD (x5).toNat .bad).cells.getD 2 .bad)).toNums)]))).getD (x5).toNat .bad).cells.getD 0 .bad)).toInt), (.int .i64 (RowKit.wrap64 (x1 + 1))), (.nums 5 .u8 ((((((x0).set (x5).toNat (.agg [(.int .i64 x1), (.int .i64 ((((x0).getD (x5).toNat .bad).cells.getD 1 .bad)).toInt), (.nums 5 .u8 ((((x0).getD (x5).toNat .bad).cells.getD 2 .bad)).isNil ((((x0).getD (x5).toNat .bad).cells.getD 2 .bad)).toNums)]))).getD (x5).toNat .bad).cells.getD 2 .bad)).isNil ((((((x0).set (x5).toNat (.agg [(.int .i64 x1), (.int .i64 ((((x0).getD (x5).toNat .bad).cells.getD 1 .bad)).toInt), (.nums 5 .u8 ((((x0).getD (x5).toNat .bad).cells.getD 2 .bad)).isNil ((((x0).getD (x5).toNat .bad).cells.getD 2 .bad)).toNums)]))).getD (x5).toNat .bad).cells.getD 2 .bad)).toNums)]))).set (x5).toNat (.agg [(.int .i64 ((((((((x0).set (x5).toNat (.agg [(.int .i64 x1), (.int .i64 ((((x0).getD (x5).toNat .bad).cells.getD 1 .bad)).toInt), (.nums 5 .u8 ((((x0).getD (x5).toNat .bad).cells.getD 2 .bad)).isNil ((((x0).getD (x5).toNat .bad).cells.getD 2 .bad)).toNums)]))).set (x5).toNat (.agg [(.int .i64 ((((((x0).set (x5).toNat (.agg [(.int .i64 x1), (.int .i64 ((((x0).getD (x5).toNat .bad).cells.getD 1 .bad)).toInt), (.nums 5 .u8 ((((x0).getD (x5).toNat .bad).cells.getD 2 .bad)).isNil ((((x0).getD (x5).toNat .bad).cells.getD 2 .bad)).toNums)]))).getD (x5).toNat .bad).cells.getD 0 .bad)).toInt), (.int .i64 (RowKit.wrap64 (x1 + 1))), (.nums 5 .u8 ((((((x0).set (x5).toNat (.agg [(.int .i64 x1), (.int .i64 ((((x0).getD (x5).toNat .bad).cells.getD 1 .bad)).toInt), (.nums 5 .u8 ((((x0).getD (x5).toNat .bad).cells.getD 2 .bad)).isNil ((((x0).getD (x5).toNat .bad).cells.getD 2 .bad)).toNums)]))).getD (x5).toNat .bad).cells.getD 2 .bad)).isNil ((((((x0).set (x5).toNat (.agg [(.int .i64 x1), (.int .i64 ((((x0).getD (x5).toNat .bad).cells.getD 1 .bad)).toInt), (.nums 5 .u8 ((((x0).getD (x5).toNat .bad).cells.getD 2 .bad)).isNil ((((x0).getD (x5).toNat .bad).cells.getD 2 .bad)).toNums)]))).getD (x5).toNat .bad).cells.getD 2 .bad)).toNums)]))).getD (x5).toNat .bad).cells.getD 0 .bad)).toInt), (.int .i64 ((((((((x0).set (x5).toNat (.agg [(.int .i64 x1), (.int .i64 ((((x0).getD (x5).toNat .bad).cells.getD 1 .bad)).toInt), (.nums 5 .u8 ((((x0).getD (x5).toNat .bad).cells.getD 2 .bad)).isNil ((((x0).getD (x5).toNat .bad).cells.getD 2 .bad)).toNums)]))).set (x5).toNat (.agg [(.int .i64 ((((((x0).set (x5).toNat (.agg [(.int .i64 x1), (.int .i64 ((((x0).getD (x5).toNat .bad).cells.getD 1 .bad)).toInt), (.nums 5 .u8 ((((x0).getD (x5).toNat .bad).cells.getD 2 .bad)).isNil ((((x0).getD (x5).toNat .bad).cells.getD 2 .bad)).toNums)]))).getD (x5).toNat .bad).cells.getD 0 .bad)).toInt), (.int .i64 (RowKit.wrap64 (x1 + 1))), (.nums 5 .u8 ((((((x0).set (x5).toNat (.agg [(.int .i64 x1), (.int .i64 ((((x0).getD (x5).toNat .bad).cells.getD 1 .bad)).toInt), (.nums 5 .u8 ((((x0).getD (x5).toNat .bad).cells.getD 2 .bad)).isNil ((((x0).getD (x5).toNat .bad).cells.getD 2 .bad)).toNums)]))).getD (x5).toNat .bad).cells.getD 2 .bad)).isNil ((((((x0).set (x5).toNat (.agg [(.int .i64 x1), (.int .i64 ((((x0).getD (x5).toNat .bad).cells.getD 1 .bad)).toInt), (.nums 5 .u8 ((((x0).getD (x5).toNat .bad).cells.getD 2 .bad)).isNil ((((x0).getD (x5).toNat .bad).cells.getD 2 .bad)).toNums)]))).getD (x5).toNat .bad).cells.getD 2 .bad)).toNums)]))).getD (x5).toNat .bad).cells.getD 1 .bad)).toInt), (.nums 5 .u8 t0.2.1 t0.2.2)])) t0.1 (RowKit.wrap64 (x5 + 1))) (none)) (none)) (none)) (none)) (none)) (none)) (ret (x1, x0z, x0))
def laws_markEntryS.l0 : Nat → Bool → (List T) → Int → Int → Option (Int × Bool × List T)
  | 0, _, _, _, _ => none
  | k + 1, x0z, x0, x1, x5 => laws_markEntryS.l0b some (laws_markEntryS.l0 k) k x0z x0 x1 x5
def laws_markEntryS.f : Nat → Bool → (List T) → Int → Option (Int × Bool × List T)
  | 0, _, _, _ => none
  | k + 1, a0z, a0, a1 => laws_markEntryS.b some (laws_markEntryS.l0 k) k a0z a0 a1
def laws_markEntryS.enc (r : Int × Bool × List T) : Res := ⟨[.vals false [((.int .i64 r.1), true)]], [[((.sl 85 r.2.1 r.2.2), true)]]⟩
def laws_markEntryS.ans (k : Nat) : List Arg → Ans
  | [.own (.sl 85 a0z a0), .v (.int .i64 a1)] => ⟨laws_markEntryS.f k a0z a0 a1, laws_markEntryS.enc⟩
  | _ => Ans.no
def laws_markEntryS.Cs (k : Nat) : CallSem := tab [(54, laws_markByteS.ans k)]
def laws_markEntryS.cuts : List (Nat × Keep) := [(26, ⟨[(0, none), (1, some []), (5, some [])], []⟩)]
noncomputable def laws_markEntryS.K0 : List Fr := framesAt [true, false, true, false] (bodyOf Try.f143 laws_markEntryS.cuts) []
def laws_markEntryS.N0 (x0z : Bool) (x0 : List T) (x1 : Int) (x5 : Int) : St := stOf 34 34 2 [(0, .val ⟨(.sl 85 x0z x0), [.h 0], true, some (.h 0)⟩), (1, .val (V.s (.int .i64 x1))), (5, .val (V.s (.int .i64 x5)))] []
theorem laws_markEntryS.s (k : Nat) (a0z : Bool) (a0 : List T) (a1 : Int) : answerM Try.prog laws_markEntryS.Cs 100000 laws_markEntryS.cuts Try.f143 (k + 1) [.own (.sl 85 a0z a0), .v (.int .i64 a1)] = laws_markEntryS.b (fun r => some (laws_markEntryS.enc r)) (fun x0z x0 x1 x5 => rounds Try.prog laws_markEntryS.Cs (finishM Try.prog Try.f143 (.sl 85 a0z a0)) 100000 k laws_markEntryS.K0 (laws_markEntryS.N0 x0z x0 x1 x5)) k a0z a0 a1 := by kernel_rfl
theorem laws_markEntryS.s0 (k : Nat) (G : List Fr → St → Option Res) (a0z : Bool) (a0 : List T) (a1 : Int) (yx0z : Bool) (yx0 : List T) (yx1 : Int) (yx5 : Int) : resume Try.prog (laws_markEntryS.Cs k) G (finishM Try.prog Try.f143 (.sl 85 a0z a0)) 100000 laws_markEntryS.K0 (laws_markEntryS.N0 yx0z yx0 yx1 yx5) = laws_markEntryS.l0b (fun r => some (laws_markEntryS.enc r)) (fun x0z x0 x1 x5 => G laws_markEntryS.K0 (laws_markEntryS.N0 x0z x0 x1 x5)) k yx0z yx0 yx1 yx5 := by kernel_rfl
theorem laws_markEntryS.b_nat {R R' : Type} (e : R → R') (ret : Int × Bool × List T → Option R) (j0 : Bool → (List T) → Int → Int → Option R) (k : Nat) (a0z : Bool) (a0 : List T) (a1 : Int) : laws_markEntryS.b (fun r => (ret r).map e) (fun x0z x0 x1 x5 => (j0 x0z x0 x1 x5).map e) k a0z a0 a1 = (laws_markEntryS.b ret j0 k a0z a0 a1).map e := by
  unfold laws_markEntryS.b
  repeat' first | with_reducible refine nat_cond ?_ ?_ | with_reducible refine nat_bind fun _ => ?_ | rfl
theorem laws_markEntryS.l0b_nat {R R' : Type} (e : R → R') (ret : Int × Bool × List T → Option R) (j0 : Bool → (List T) → Int → Int → Option R) (k : Nat) (x0z : Bool) (x0 : List T) (x1 : Int) (x5 : Int) : laws_markEntryS.l0b (fun r => (ret r).map e) (fun x0z x0 x1 x5 => (j0 x0z x0 x1 x5).map e) k x0z x0 x1 x5 = (laws_markEntryS.l0b ret j0 k x0z x0 x1 x5).map e := by
  unfold laws_markEntryS.l0b
  repeat' first | with_reducible refine nat_cond ?_ ?_ | with_reducible refine nat_bind fun _ => ?_ | rfl
theorem laws_markEntryS.rounds_eq (a0z : Bool) (a0 : List T) (a1 : Int) : ∀ k, (∀ (x0z : Bool) (x0 : List T) (x1 : Int) (x5 : Int), rounds Try.prog laws_markEntryS.Cs (finishM Try.prog Try.f143 (.sl 85 a0z a0)) 100000 k laws_markEntryS.K0 (laws_markEntryS.N0 x0z x0 x1 x5) = (laws_markEntryS.l0 k x0z x0 x1 x5).map laws_markEntryS.enc)
  | 0 => fun _ _ _ _ => rfl
  | k + 1 => by
    have ih := laws_markEntryS.rounds_eq a0z a0 a1 k
    refine fun _ _ _ _ => ?_
    · refine (laws_markEntryS.s0 k _ a0z a0 a1 _ _ _ _).trans (Eq.trans ?_ (laws_markEntryS.l0b_nat laws_markEntryS.enc some (laws_markEntryS.l0 k) k _ _ _ _))
      simp only [ih, Option.map_some]
theorem laws_markEntryS.eq (k : Nat) (a0z : Bool) (a0 : List T) (a1 : Int) : answerM Try.prog laws_markEntryS.Cs 100000 laws_markEntryS.cuts Try.f143 (k + 1) [.own (.sl 85 a0z a0), .v (.int .i64 a1)] = (laws_markEntryS.f (k + 1) a0z a0 a1).map laws_markEntryS.enc := by
  have ih := laws_markEntryS.rounds_eq a0z a0 a1 k
  refine (laws_markEntryS.s k a0z a0 a1).trans (Eq.trans ?_ (laws_markEntryS.b_nat laws_markEntryS.enc some (laws_markEntryS.l0 k) k a0z a0 a1))
  simp only [ih, Option.map_some]
theorem laws_markEntryS.sound (k : Nat) : SoundF Try.prog 143 (fun a => (laws_markEntryS.ans k a).val) := by
  refine sound_mark (fun args hne => ?_) (fun t n l m h => ?_)
  · unfold laws_markEntryS.ans
    split
    · exact (hne _ _ rfl).elim
    · rfl
  unfold laws_markEntryS.ans at h
  dsimp only at h
  split at h
  · rename_i heq
    cases heq
    cases k with
    | zero => cases h
    | succ k =>
      unfold Ans.val at h
      rw [← laws_markEntryS.eq] at h
      exact answerM_sound (Cs := laws_markEntryS.Cs) mixed Try.func143 100000 laws_markEntryS.cuts (k + 1) (fun j _ => tab_sound (tab_cons (laws_markByteS.sound j) (tab_nil))) _ _ _ _ h
  · exact (Ans.no_val h).elim

/-! loop.example/g00790/laws.markTc -/
def laws_markTc.b {R : Type} (ret : Int × Int × Bool × List T → Option R) (k : Nat) (a0_0 : Int) (a0_1z : Bool) (a0_1 : List T) (a1 : Int) : Option R :=
  (laws_markEntryS.f k a0_1z a0_1 a1).bind fun t0 => ret (t0.1, a0_0, t0.2.1, t0.2.2)
def laws_markTc.f : Nat → Int → Bool → (List T) → Int → Option (Int × Int × Bool × List T)
  | 0, _, _, _, _ => none
  | k + 1, a0_0, a0_1z, a0_1, a1 => laws_markTc.b some k a0_0 a0_1z a0_1 a1
def laws_markTc.enc (r : Int × Int × Bool × List T) : Res := ⟨[.vals false [((.int .i64 r.1), true)]], [[((.int .i64 r.2.1), true), ((.sl 85 r.2.2.1 r.2.2.2), true)]]⟩
def laws_markTc.ans (k : Nat) : List Arg → Ans
  | [.own (.agg [(.int .i64 a0_0), (.sl 85 a0_1z a0_1)]), .v (.int .i64 a1)] => ⟨laws_markTc.f k a0_0 a0_1z a0_1 a1, laws_markTc.enc⟩
  | _ => Ans.no
def laws_markTc.Cs (k : Nat) : CallSem := tab [(143, laws_markEntryS.ans k)]
def laws_markTc.cuts : List (Nat × Keep) := []
theorem laws_markTc.s (k : Nat) (a0_0 : Int) (a0_1z : Bool) (a0_1 : List T) (a1 : Int) : answerM Try.prog laws_markTc.Cs 100000 laws_markTc.cuts Try.f66 (k + 1) [.own (.agg [(.int .i64 a0_0), (.sl 85 a0_1z a0_1)]), .v (.int .i64 a1)] = laws_markTc.b (fun r => some (laws_markTc.enc r)) k a0_0 a0_1z a0_1 a1 := by kernel_rfl
theorem laws_markTc.b_nat {R R' : Type} (e : R → R') (ret : Int × Int × Bool × List T → Option R) (k : Nat) (a0_0 : Int) (a0_1z : Bool) (a0_1 : List T) (a1 : Int) : laws_markTc.b (fun r => (ret r).map e) k a0_0 a0_1z a0_1 a1 = (laws_markTc.b ret k a0_0 a0_1z a0_1 a1).map e := by
  unfold laws_markTc.b
  repeat' first | with_reducible refine nat_cond ?_ ?_ | with_reducible refine nat_bind fun _ => ?_ | rfl
theorem laws_markTc.eq (k : Nat) (a0_0 : Int) (a0_1z : Bool) (a0_1 : List T) (a1 : Int) : answerM Try.prog laws_markTc.Cs 100000 laws_markTc.cuts Try.f66 (k + 1) [.own (.agg [(.int .i64 a0_0), (.sl 85 a0_1z a0_1)]), .v (.int .i64 a1)] = (laws_markTc.f (k + 1) a0_0 a0_1z a0_1 a1).map laws_markTc.enc := by
  refine (laws_markTc.s k a0_0 a0_1z a0_1 a1).trans (Eq.trans ?_ (laws_markTc.b_nat laws_markTc.enc some k a0_0 a0_1z a0_1 a1))
  simp only [Option.map_some]
theorem laws_markTc.sound (k : Nat) : SoundF Try.prog 66 (fun a => (laws_markTc.ans k a).val) := by
  refine sound_mark (fun args hne => ?_) (fun t n l m h => ?_)
  · unfold laws_markTc.ans
    split
    · exact (hne _ _ rfl).elim
    · rfl
  unfold laws_markTc.ans at h
  dsimp only at h
  split at h
  · rename_i heq
    cases heq
    cases k with
    | zero => cases h
    | succ k =>
      unfold Ans.val at h
      rw [← laws_markTc.eq] at h
      exact answerM_sound (Cs := laws_markTc.Cs) mixed Try.func66 100000 laws_markTc.cuts (k + 1) (fun j _ => tab_sound (tab_cons (laws_markEntryS.sound j) (tab_nil))) _ _ _ _ h
  · exact (Ans.no_val h).elim

/-! loop.example/g00790/laws.heldByteS -/
def laws_heldByteS.b {R : Type} (ret : Int → Option R) (j0 : Bool → (List Int) → Int → Int → Option R) (k : Nat) (a0z : Bool) (a0 : List Int) (a1 : Int) : Option R :=
  j0 a0z a0 a1 0
def laws_heldByteS.l0b {R : Type} (ret : Int → Option R) (j0 : Bool → (List Int) → Int → Int → Option R) (k : Nat) (x0z : Bool) (x0 : List Int) (x1 : Int) (x5 : Int) : Option R :=
  cond (decide (x5 < ((x0).length : Int))) (cond (decide ((0 : Int) ≤ x5)) (cond (decide (x5 < ((x0).length : Int))) (cond (!(decide ((rdI x0 x5) = ((x1) % 256)))) (ret (-1)) (j0 x0z x0 (RowKit.wrap64 (x1 + 1)) (RowKit.wrap64 (x5 + 1)))) (none)) (none)) (ret x1)
def laws_heldByteS.l0 : Nat → Bool → (List Int) → Int → Int → Option Int
  | 0, _, _, _, _ => none
  | k + 1, x0z, x0, x1, x5 => laws_heldByteS.l0b some (laws_heldByteS.l0 k) k x0z x0 x1 x5
def laws_heldByteS.f : Nat → Bool → (List Int) → Int → Option Int
  | 0, _, _, _ => none
  | k + 1, a0z, a0, a1 => laws_heldByteS.b some (laws_heldByteS.l0 k) k a0z a0 a1
def laws_heldByteS.enc (r : Int) : Res := ⟨[.vals false [((.int .i64 r), true)]], []⟩
def laws_heldByteS.ans (k : Nat) : List Arg → Ans
  | [.v (.nums 5 .u8 a0z a0), .v (.int .i64 a1)] => ⟨laws_heldByteS.f k a0z a0 a1, laws_heldByteS.enc⟩
  | _ => Ans.no
def laws_heldByteS.Cs (k : Nat) : CallSem := tab []
def laws_heldByteS.cuts : List (Nat × Keep) := [(26, ⟨[(0, some []), (1, some []), (5, some [])], []⟩)]
noncomputable def laws_heldByteS.K0 : List Fr := framesAt [true, false, true, false] (bodyOf Try.f59 laws_heldByteS.cuts) []
def laws_heldByteS.N0 (x0z : Bool) (x0 : List Int) (x1 : Int) (x5 : Int) : St := stOf 22 22 2 [(0, .val ⟨(.nums 5 .u8 x0z x0), [], false, none⟩), (1, .val (V.s (.int .i64 x1))), (5, .val (V.s (.int .i64 x5)))] []
theorem laws_heldByteS.s (k : Nat) (a0z : Bool) (a0 : List Int) (a1 : Int) : answer Try.prog laws_heldByteS.Cs 100000 laws_heldByteS.cuts [] Try.f59 (k + 1) [.v (.nums 5 .u8 a0z a0), .v (.int .i64 a1)] = laws_heldByteS.b (fun r => some (laws_heldByteS.enc r)) (fun x0z x0 x1 x5 => rounds Try.prog laws_heldByteS.Cs (finish Try.prog [] Try.f59 [.v (.nums 5 .u8 a0z a0), .v (.int .i64 a1)]) 100000 k laws_heldByteS.K0 (laws_heldByteS.N0 x0z x0 x1 x5)) k a0z a0 a1 := by kernel_rfl
theorem laws_heldByteS.s0 (k : Nat) (G : List Fr → St → Option Res) (a0z : Bool) (a0 : List Int) (a1 : Int) (yx0z : Bool) (yx0 : List Int) (yx1 : Int) (yx5 : Int) : resume Try.prog (laws_heldByteS.Cs k) G (finish Try.prog [] Try.f59 [.v (.nums 5 .u8 a0z a0), .v (.int .i64 a1)]) 100000 laws_heldByteS.K0 (laws_heldByteS.N0 yx0z yx0 yx1 yx5) = laws_heldByteS.l0b (fun r => some (laws_heldByteS.enc r)) (fun x0z x0 x1 x5 => G laws_heldByteS.K0 (laws_heldByteS.N0 x0z x0 x1 x5)) k yx0z yx0 yx1 yx5 := by kernel_rfl
theorem laws_heldByteS.b_nat {R R' : Type} (e : R → R') (ret : Int → Option R) (j0 : Bool → (List Int) → Int → Int → Option R) (k : Nat) (a0z : Bool) (a0 : List Int) (a1 : Int) : laws_heldByteS.b (fun r => (ret r).map e) (fun x0z x0 x1 x5 => (j0 x0z x0 x1 x5).map e) k a0z a0 a1 = (laws_heldByteS.b ret j0 k a0z a0 a1).map e := by
  unfold laws_heldByteS.b
  repeat' first | with_reducible refine nat_cond ?_ ?_ | with_reducible refine nat_bind fun _ => ?_ | rfl
theorem laws_heldByteS.l0b_nat {R R' : Type} (e : R → R') (ret : Int → Option R) (j0 : Bool → (List Int) → Int → Int → Option R) (k : Nat) (x0z : Bool) (x0 : List Int) (x1 : Int) (x5 : Int) : laws_heldByteS.l0b (fun r => (ret r).map e) (fun x0z x0 x1 x5 => (j0 x0z x0 x1 x5).map e) k x0z x0 x1 x5 = (laws_heldByteS.l0b ret j0 k x0z x0 x1 x5).map e := by
  unfold laws_heldByteS.l0b
  repeat' first | with_reducible refine nat_cond ?_ ?_ | with_reducible refine nat_bind fun _ => ?_ | rfl
theorem laws_heldByteS.rounds_eq (a0z : Bool) (a0 : List Int) (a1 : Int) : ∀ k, (∀ (x0z : Bool) (x0 : List Int) (x1 : Int) (x5 : Int), rounds Try.prog laws_heldByteS.Cs (finish Try.prog [] Try.f59 [.v (.nums 5 .u8 a0z a0), .v (.int .i64 a1)]) 100000 k laws_heldByteS.K0 (laws_heldByteS.N0 x0z x0 x1 x5) = (laws_heldByteS.l0 k x0z x0 x1 x5).map laws_heldByteS.enc)
  | 0 => fun _ _ _ _ => rfl
  | k + 1 => by
    have ih := laws_heldByteS.rounds_eq a0z a0 a1 k
    refine fun _ _ _ _ => ?_
    · refine (laws_heldByteS.s0 k _ a0z a0 a1 _ _ _ _).trans (Eq.trans ?_ (laws_heldByteS.l0b_nat laws_heldByteS.enc some (laws_heldByteS.l0 k) k _ _ _ _))
      simp only [ih, Option.map_some]
theorem laws_heldByteS.eq (k : Nat) (a0z : Bool) (a0 : List Int) (a1 : Int) : answer Try.prog laws_heldByteS.Cs 100000 laws_heldByteS.cuts [] Try.f59 (k + 1) [.v (.nums 5 .u8 a0z a0), .v (.int .i64 a1)] = (laws_heldByteS.f (k + 1) a0z a0 a1).map laws_heldByteS.enc := by
  have ih := laws_heldByteS.rounds_eq a0z a0 a1 k
  refine (laws_heldByteS.s k a0z a0 a1).trans (Eq.trans ?_ (laws_heldByteS.b_nat laws_heldByteS.enc some (laws_heldByteS.l0 k) k a0z a0 a1))
  simp only [ih, Option.map_some]
theorem laws_heldByteS.sound (k : Nat) : SoundF Try.prog 59 (fun a => (laws_heldByteS.ans k a).val) := by
  refine sound_plain (fun args res h => ?_) (fun t n => rfl)
  unfold laws_heldByteS.ans at h
  dsimp only at h
  split at h
  · cases k with
    | zero => cases h
    | succ k =>
      unfold Ans.val at h
      rw [← laws_heldByteS.eq] at h
      exact answer_sound mixed Try.func59 _ _ _ (k + 1) (fun j _ => tab_sound (tab_nil)) _ _ h
  · exact (Ans.no_val h).elim

/-! loop.example/g00790/laws.heldEntryS -/
def laws_heldEntryS.b {R : Type} (ret : Int → Option R) (j0 : Bool → (List T) → Int → Int → Option R) (k : Nat) (a0z : Bool) (a0 : List T) (a1 : Int) : Option R :=
  j0 a0z a0 a1 0
def laws_heldEntryS.l0b {R : Type} (ret : Int → Option R) (j0 : Bool → (List T) → Int → Int → Option R) (k : Nat) (x0z : Bool) (x0 : List T) (x1 : Int) (x5 : Int) : Option R :=
  cond (decide (x5 < ((x0).length : Int))) (cond (decide ((0 : Int) ≤ x5)) (cond (decide (x5 < ((x0).length : Int))) (cond (!(decide (((((x0).getD (x5).toNat .bad).cells.getD 0 .bad)).toInt = x1))) (ret (-1)) (cond (decide ((0 : Int) ≤ x5)) (cond (decide (x5 < ((x0).length : Int))) (cond (!(decide (((((x0).getD (x5).toNat .bad).cells.getD 1 .bad)).toInt = (RowKit.wrap64 (x1 + 1))))) (ret (-1)) (cond (decide ((0 : Int) ≤ x5)) (cond (decide (x5 < ((x0).length : Int))) ((laws_heldByteS.f k (((((x0).getD (x5).toNat .bad).cells.getD 2 .bad)).isNil) (((((x0).getD (x5).toNat .bad).cells.getD 2 .bad)).toNums) (RowKit.wrap64 ((RowKit.wrap64 (x1 + 1)) + 1))).bind fun t0 => cond (decide (t0 < 0)) (ret (-1)) (j0 x0z x0 t0 (RowKit.wrap64 (x5 + 1)))) (none)) (none))) (none)) (none))) (none)) (none)) (ret x1)
def laws_heldEntryS.l0 : Nat → Bool → (List T) → Int → Int → Option Int
  | 0, _, _, _, _ => none
  | k + 1, x0z, x0, x1, x5 => laws_heldEntryS.l0b some (laws_heldEntryS.l0 k) k x0z x0 x1 x5
def laws_heldEntryS.f : Nat → Bool → (List T) → Int → Option Int
  | 0, _, _, _ => none
  | k + 1, a0z, a0, a1 => laws_heldEntryS.b some (laws_heldEntryS.l0 k) k a0z a0 a1
def laws_heldEntryS.enc (r : Int) : Res := ⟨[.vals false [((.int .i64 r), true)]], []⟩
def laws_heldEntryS.ans (k : Nat) : List Arg → Ans
  | [.v (.sl 85 a0z a0), .v (.int .i64 a1)] => ⟨laws_heldEntryS.f k a0z a0 a1, laws_heldEntryS.enc⟩
  | _ => Ans.no
def laws_heldEntryS.Cs (k : Nat) : CallSem := tab [(59, laws_heldByteS.ans k)]
def laws_heldEntryS.cuts : List (Nat × Keep) := [(26, ⟨[(0, some []), (1, some []), (5, some [])], []⟩)]
noncomputable def laws_heldEntryS.K0 : List Fr := framesAt [true, false, true, false] (bodyOf Try.f144 laws_heldEntryS.cuts) []
def laws_heldEntryS.N0 (x0z : Bool) (x0 : List T) (x1 : Int) (x5 : Int) : St := stOf 40 40 2 [(0, .val ⟨(.sl 85 x0z x0), [], false, none⟩), (1, .val (V.s (.int .i64 x1))), (5, .val (V.s (.int .i64 x5)))] []
theorem laws_heldEntryS.s (k : Nat) (a0z : Bool) (a0 : List T) (a1 : Int) : answer Try.prog laws_heldEntryS.Cs 100000 laws_heldEntryS.cuts [] Try.f144 (k + 1) [.v (.sl 85 a0z a0), .v (.int .i64 a1)] = laws_heldEntryS.b (fun r => some (laws_heldEntryS.enc r)) (fun x0z x0 x1 x5 => rounds Try.prog laws_heldEntryS.Cs (finish Try.prog [] Try.f144 [.v (.sl 85 a0z a0), .v (.int .i64 a1)]) 100000 k laws_heldEntryS.K0 (laws_heldEntryS.N0 x0z x0 x1 x5)) k a0z a0 a1 := by kernel_rfl
theorem laws_heldEntryS.s0 (k : Nat) (G : List Fr → St → Option Res) (a0z : Bool) (a0 : List T) (a1 : Int) (yx0z : Bool) (yx0 : List T) (yx1 : Int) (yx5 : Int) : resume Try.prog (laws_heldEntryS.Cs k) G (finish Try.prog [] Try.f144 [.v (.sl 85 a0z a0), .v (.int .i64 a1)]) 100000 laws_heldEntryS.K0 (laws_heldEntryS.N0 yx0z yx0 yx1 yx5) = laws_heldEntryS.l0b (fun r => some (laws_heldEntryS.enc r)) (fun x0z x0 x1 x5 => G laws_heldEntryS.K0 (laws_heldEntryS.N0 x0z x0 x1 x5)) k yx0z yx0 yx1 yx5 := by kernel_rfl
theorem laws_heldEntryS.b_nat {R R' : Type} (e : R → R') (ret : Int → Option R) (j0 : Bool → (List T) → Int → Int → Option R) (k : Nat) (a0z : Bool) (a0 : List T) (a1 : Int) : laws_heldEntryS.b (fun r => (ret r).map e) (fun x0z x0 x1 x5 => (j0 x0z x0 x1 x5).map e) k a0z a0 a1 = (laws_heldEntryS.b ret j0 k a0z a0 a1).map e := by
  unfold laws_heldEntryS.b
  repeat' first | with_reducible refine nat_cond ?_ ?_ | with_reducible refine nat_bind fun _ => ?_ | rfl
theorem laws_heldEntryS.l0b_nat {R R' : Type} (e : R → R') (ret : Int → Option R) (j0 : Bool → (List T) → Int → Int → Option R) (k : Nat) (x0z : Bool) (x0 : List T) (x1 : Int) (x5 : Int) : laws_heldEntryS.l0b (fun r => (ret r).map e) (fun x0z x0 x1 x5 => (j0 x0z x0 x1 x5).map e) k x0z x0 x1 x5 = (laws_heldEntryS.l0b ret j0 k x0z x0 x1 x5).map e := by
  unfold laws_heldEntryS.l0b
  repeat' first | with_reducible refine nat_cond ?_ ?_ | with_reducible refine nat_bind fun _ => ?_ | rfl
theorem laws_heldEntryS.rounds_eq (a0z : Bool) (a0 : List T) (a1 : Int) : ∀ k, (∀ (x0z : Bool) (x0 : List T) (x1 : Int) (x5 : Int), rounds Try.prog laws_heldEntryS.Cs (finish Try.prog [] Try.f144 [.v (.sl 85 a0z a0), .v (.int .i64 a1)]) 100000 k laws_heldEntryS.K0 (laws_heldEntryS.N0 x0z x0 x1 x5) = (laws_heldEntryS.l0 k x0z x0 x1 x5).map laws_heldEntryS.enc)
  | 0 => fun _ _ _ _ => rfl
  | k + 1 => by
    have ih := laws_heldEntryS.rounds_eq a0z a0 a1 k
    refine fun _ _ _ _ => ?_
    · refine (laws_heldEntryS.s0 k _ a0z a0 a1 _ _ _ _).trans (Eq.trans ?_ (laws_heldEntryS.l0b_nat laws_heldEntryS.enc some (laws_heldEntryS.l0 k) k _ _ _ _))
      simp only [ih, Option.map_some]
theorem laws_heldEntryS.eq (k : Nat) (a0z : Bool) (a0 : List T) (a1 : Int) : answer Try.prog laws_heldEntryS.Cs 100000 laws_heldEntryS.cuts [] Try.f144 (k + 1) [.v (.sl 85 a0z a0), .v (.int .i64 a1)] = (laws_heldEntryS.f (k + 1) a0z a0 a1).map laws_heldEntryS.enc := by
  have ih := laws_heldEntryS.rounds_eq a0z a0 a1 k
  refine (laws_heldEntryS.s k a0z a0 a1).trans (Eq.trans ?_ (laws_heldEntryS.b_nat laws_heldEntryS.enc some (laws_heldEntryS.l0 k) k a0z a0 a1))
  simp only [ih, Option.map_some]
theorem laws_heldEntryS.sound (k : Nat) : SoundF Try.prog 144 (fun a => (laws_heldEntryS.ans k a).val) := by
  refine sound_plain (fun args res h => ?_) (fun t n => rfl)
  unfold laws_heldEntryS.ans at h
  dsimp only at h
  split at h
  · cases k with
    | zero => cases h
    | succ k =>
      unfold Ans.val at h
      rw [← laws_heldEntryS.eq] at h
      exact answer_sound mixed Try.func144 _ _ _ (k + 1) (fun j _ => tab_sound (tab_cons (laws_heldByteS.sound j) (tab_nil))) _ _ h
  · exact (Ans.no_val h).elim

/-! loop.example/g00790/laws.heldTc -/
def laws_heldTc.b {R : Type} (ret : Int → Option R) (k : Nat) (a0_0 : Int) (a0_1z : Bool) (a0_1 : List T) (a1 : Int) : Option R :=
  (laws_heldEntryS.f k a0_1z a0_1 a1).bind fun t0 => cond (decide (t0 < 0)) (ret (-1)) (ret t0)
def laws_heldTc.f : Nat → Int → Bool → (List T) → Int → Option Int
  | 0, _, _, _, _ => none
  | k + 1, a0_0, a0_1z, a0_1, a1 => laws_heldTc.b some k a0_0 a0_1z a0_1 a1
def laws_heldTc.enc (r : Int) : Res := ⟨[.vals false [((.int .i64 r), true)]], []⟩
def laws_heldTc.ans (k : Nat) : List Arg → Ans
  | [.v (.agg [(.int .i64 a0_0), (.sl 85 a0_1z a0_1)]), .v (.int .i64 a1)] => ⟨laws_heldTc.f k a0_0 a0_1z a0_1 a1, laws_heldTc.enc⟩
  | _ => Ans.no
def laws_heldTc.Cs (k : Nat) : CallSem := tab [(144, laws_heldEntryS.ans k)]
def laws_heldTc.cuts : List (Nat × Keep) := []
theorem laws_heldTc.s (k : Nat) (a0_0 : Int) (a0_1z : Bool) (a0_1 : List T) (a1 : Int) : answer Try.prog laws_heldTc.Cs 100000 laws_heldTc.cuts [] Try.f67 (k + 1) [.v (.agg [(.int .i64 a0_0), (.sl 85 a0_1z a0_1)]), .v (.int .i64 a1)] = laws_heldTc.b (fun r => some (laws_heldTc.enc r)) k a0_0 a0_1z a0_1 a1 := by kernel_rfl
theorem laws_heldTc.b_nat {R R' : Type} (e : R → R') (ret : Int → Option R) (k : Nat) (a0_0 : Int) (a0_1z : Bool) (a0_1 : List T) (a1 : Int) : laws_heldTc.b (fun r => (ret r).map e) k a0_0 a0_1z a0_1 a1 = (laws_heldTc.b ret k a0_0 a0_1z a0_1 a1).map e := by
  unfold laws_heldTc.b
  repeat' first | with_reducible refine nat_cond ?_ ?_ | with_reducible refine nat_bind fun _ => ?_ | rfl
theorem laws_heldTc.eq (k : Nat) (a0_0 : Int) (a0_1z : Bool) (a0_1 : List T) (a1 : Int) : answer Try.prog laws_heldTc.Cs 100000 laws_heldTc.cuts [] Try.f67 (k + 1) [.v (.agg [(.int .i64 a0_0), (.sl 85 a0_1z a0_1)]), .v (.int .i64 a1)] = (laws_heldTc.f (k + 1) a0_0 a0_1z a0_1 a1).map laws_heldTc.enc := by
  refine (laws_heldTc.s k a0_0 a0_1z a0_1 a1).trans (Eq.trans ?_ (laws_heldTc.b_nat laws_heldTc.enc some k a0_0 a0_1z a0_1 a1))
  simp only [Option.map_some]
theorem laws_heldTc.sound (k : Nat) : SoundF Try.prog 67 (fun a => (laws_heldTc.ans k a).val) := by
  refine sound_plain (fun args res h => ?_) (fun t n => rfl)
  unfold laws_heldTc.ans at h
  dsimp only at h
  split at h
  · cases k with
    | zero => cases h
    | succ k =>
      unfold Ans.val at h
      rw [← laws_heldTc.eq] at h
      exact answer_sound mixed Try.func67 _ _ _ (k + 1) (fun j _ => tab_sound (tab_cons (laws_heldEntryS.sound j) (tab_nil))) _ _ h
  · exact (Ans.no_val h).elim

end Go.Proofs.YtadnejogdohfkaaG
