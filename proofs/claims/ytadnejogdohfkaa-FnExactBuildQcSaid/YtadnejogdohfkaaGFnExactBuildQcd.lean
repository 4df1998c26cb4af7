/- What the functions compute, printed by a program of this repo; each is shown to be what the machine of values answers. No condition. -/
import Derived.Test.YtadnejogdohfkaaProg
import Derived.KernelRfl
import Derived.Test.YtadnejogdohfkaaGFnExactBuildQcc
namespace Go.Proofs.YtadnejogdohfkaaG
open Go Go.Proofs.YtadnejogdohfkaaRv Go.Proofs
set_option linter.unusedVariables false
set_option linter.unusedSimpArgs false
/-! loop.example/g00790/impl.SignVote -/
def impl_SignVote.b {R : Type} (ret : Int × Int × Bool × (List Int) × Int × Bool × (List Int) × Bool → Option R) (k : Nat) (a0_0z : Bool) (a0_0 : List T) (a1 : Int) (a2 : Int) (a3z : Bool) (a3 : List Int) (a4 : Int) : Option R :=
  (impl_VoteBytes.f k a1 a2 a3z a3).bind fun t0 => (impl_TableOk.f k a0_0z a0_0).bind fun t1 => cond (!t1) (ret (0, 0, true, ([] : List Int), 0, true, ([] : List Int), false)) (cond t0.1 (ret (0, 0, true, ([] : List Int), 0, true, ([] : List Int), false)) ((impl_within.f k a4 0 (RowKit.wrap64 (((a0_0).length : Int) - 1))).bind fun t2 => cond (!t2) (ret (0, 0, true, ([] : List Int), 0, true, ([] : List Int), false)) ((impl_copyBytes.f k a3z a3).bind fun t3 => cond (decide ((0 : Int) ≤ a4)) (cond (decide (a4 < ((a0_0).length : Int))) ((impl_Mac.f k (((((a0_0).getD (a4).toNat .bad).cells.getD 1 .bad)).isNil) (((((a0_0).getD (a4).toNat .bad).cells.getD 1 .bad)).toNums) t0.1 t0.2).bind fun t4 => ret (a1, a2, t3.1, t3.2, a4, t4.1, t4.2, true)) (none)) (none))))
def impl_SignVote.f : Nat → Bool → (List T) → Int → Int → Bool → (List Int) → Int → Option (Int × Int × Bool × (List Int) × Int × Bool × (List Int) × Bool)
  | 0, _, _, _, _, _, _, _ => none
  | k + 1, a0_0z, a0_0, a1, a2, a3z, a3, a4 => impl_SignVote.b some k a0_0z a0_0 a1 a2 a3z a3 a4
def impl_SignVote.enc (r : Int × Int × Bool × (List Int) × Int × Bool × (List Int) × Bool) : Res := ⟨[.vals true [((.int .i64 r.1), true), ((.int .i64 r.2.1), true), ((.nums 5 .u8 r.2.2.1 r.2.2.2.1), true), ((.int .i64 r.2.2.2.2.1), true), ((.nums 5 .u8 r.2.2.2.2.2.1 r.2.2.2.2.2.2.1), true)], .vals false [((.bool r.2.2.2.2.2.2.2), true)]], []⟩
def impl_SignVote.ans (k : Nat) : List Arg → Ans
  | [.v (.agg [(.sl 160 a0_0z a0_0)]), .v (.int .i64 a1), .v (.int .i64 a2), .v (.nums 5 .u8 a3z a3), .v (.int .i64 a4)] => ⟨impl_SignVote.f k a0_0z a0_0 a1 a2 a3z a3 a4, impl_SignVote.enc⟩
  | _ => Ans.no
def impl_SignVote.Cs (k : Nat) : CallSem := tab [(126, impl_within.ans k), (125, impl_TableOk.ans k), (132, impl_copyBytes.ans k), (131, impl_VoteBytes.ans k), (127, impl_Mac.ans k)]
def impl_SignVote.cuts : List (Nat × Keep) := []
theorem impl_SignVote.s (k : Nat) (a0_0z : Bool) (a0_0 : List T) (a1 : Int) (a2 : Int) (a3z : Bool) (a3 : List Int) (a4 : Int) : answer Try.prog impl_SignVote.Cs 100000 impl_SignVote.cuts [] Try.f51 (k + 1) [.v (.agg [(.sl 160 a0_0z a0_0)]), .v (.int .i64 a1), .v (.int .i64 a2), .v (.nums 5 .u8 a3z a3), .v (.int .i64 a4)] = impl_SignVote.b (fun r => some (impl_SignVote.enc r)) k a0_0z a0_0 a1 a2 a3z a3 a4 := by kernel_rfl
theorem impl_SignVote.b_nat {R R' : Type} (e : R → R') (ret : Int × Int × Bool × (List Int) × Int × Bool × (List Int) × Bool → Option R) (k : Nat) (a0_0z : Bool) (a0_0 : List T) (a1 : Int) (a2 : Int) (a3z : Bool) (a3 : List Int) (a4 : Int) : impl_SignVote.b (fun r => (ret r).map e) k a0_0z a0_0 a1 a2 a3z a3 a4 = (impl_SignVote.b ret k a0_0z a0_0 a1 a2 a3z a3 a4).map e := by
  unfold impl_SignVote.b
  repeat' first | with_reducible refine nat_cond ?_ ?_ | with_reducible refine nat_bind fun _ => ?_ | rfl
theorem impl_SignVote.eq (k : Nat) (a0_0z : Bool) (a0_0 : List T) (a1 : Int) (a2 : Int) (a3z : Bool) (a3 : List Int) (a4 : Int) : answer Try.prog impl_SignVote.Cs 100000 impl_SignVote.cuts [] Try.f51 (k + 1) [.v (.agg [(.sl 160 a0_0z a0_0)]), .v (.int .i64 a1), .v (.int .i64 a2), .v (.nums 5 .u8 a3z a3), .v (.int .i64 a4)] = (impl_SignVote.f (k + 1) a0_0z a0_0 a1 a2 a3z a3 a4).map impl_SignVote.enc := by
  refine (impl_SignVote.s k a0_0z a0_0 a1 a2 a3z a3 a4).trans (Eq.trans ?_ (impl_SignVote.b_nat impl_SignVote.enc some k a0_0z a0_0 a1 a2 a3z a3 a4))
  simp only [Option.map_some]
theorem impl_SignVote.sound (k : Nat) : SoundF Try.prog 51 (fun a => (impl_SignVote.ans k a).val) := by
  refine sound_plain (fun args res h => ?_) (fun t n => rfl)
  unfold impl_SignVote.ans at h
  dsimp only at h
  split at h
  · cases k with
    | zero => cases h
    | succ k =>
      unfold Ans.val at h
      rw [← impl_SignVote.eq] at h
      exact answer_sound mixed Try.func51 _ _ _ (k + 1) (fun j _ => tab_sound (tab_cons (impl_within.sound j) (tab_cons (impl_TableOk.sound j) (tab_cons (impl_copyBytes.sound j) (tab_cons (impl_VoteBytes.sound j) (tab_cons (impl_Mac.sound j) (tab_nil))))))) _ _ h
  · exact (Ans.no_val h).elim

/-! math/bits.OnesCount8 -/
def bits_OnesCount8.b {R : Type} (ret : Int → Option R) (k : Nat) (a0 : Int) : Option R :=
  cond (decide ((0 : Int) ≤ a0)) (cond (decide (a0 < (((⟨#[0, 1, 1, 2, 1, 2, 2, 3, 1, 2, 2, 3, 2, 3, 3, 4, 1, 2, 2, 3, 2, 3, 3, 4, 2, 3, 3, 4, 3, 4, 4, 5, 1, 2, 2, 3, 2, 3, 3, 4, 2, 3, 3, 4, 3, 4, 4, 5, 2, 3, 3, 4, 3, 4, 4, 5, 3, 4, 4, 5, 4, 5, 5, 6, 1, 2, 2, 3, 2, 3, 3, 4, 2, 3, 3, 4, 3, 4, 4, 5, 2, 3, 3, 4, 3, 4, 4, 5, 3, 4, 4, 5, 4, 5, 5, 6, 2, 3, 3, 4, 3, 4, 4, 5, 3, 4, 4, 5, 4, 5, 5, 6, 3, 4, 4, 5, 4, 5, 5, 6, 4, 5, 5, 6, 5, 6, 6, 7, 1, 2, 2, 3, 2, 3, 3, 4, 2, 3, 3, 4, 3, 4, 4, 5, 2, 3, 3, 4, 3, 4, 4, 5, 3, 4, 4, 5, 4, 5, 5, 6, 2, 3, 3, 4, 3, 4, 4, 5, 3, 4, 4, 5, 4, 5, 5, 6, 3, 4, 4, 5, 4, 5, 5, 6, 4, 5, 5, 6, 5, 6, 6, 7, 2, 3, 3, 4, 3, 4, 4, 5, 3, 4, 4, 5, 4, 5, 5, 6, 3, 4, 4, 5, 4, 5, 5, 6, 4, 5, 5, 6, 5, 6, 6, 7, 3, 4, 4, 5, 4, 5, 5, 6, 4, 5, 5, 6, 5, 6, 6, 7, 4, 5, 5, 6, 5, 6, 6, 7, 5, 6, 6, 7, 6, 7, 7, 8]⟩ : ByteArray)).size : Int))) (ret (RowKit.wrap64 ((btI (⟨#[0, 1, 1, 2, 1, 2, 2, 3, 1, 2, 2, 3, 2, 3, 3, 4, 1, 2, 2, 3, 2, 3, 3, 4, 2, 3, 3, 4, 3, 4, 4, 5, 1, 2, 2, 3, 2, 3, 3, 4, 2, 3, 3, 4, 3, 4, 4, 5, 2, 3, 3, 4, 3, 4, 4, 5, 3, 4, 4, 5, 4, 5, 5, 6, 1, 2, 2, 3, 2, 3, 3, 4, 2, 3, 3, 4, 3, 4, 4, 5, 2, 3, 3, 4, 3, 4, 4, 5, 3, 4, 4, 5, 4, 5, 5, 6, 2, 3, 3, 4, 3, 4, 4, 5, 3, 4, 4, 5, 4, 5, 5, 6, 3, 4, 4, 5, 4, 5, 5, 6, 4, 5, 5, 6, 5, 6, 6, 7, 1, 2, 2, 3, 2, 3, 3, 4, 2, 3, 3, 4, 3, 4, 4, 5, 2, 3, 3, 4, 3, 4, 4, 5, 3, 4, 4, 5, 4, 5, 5, 6, 2, 3, 3, 4, 3, 4, 4, 5, 3, 4, 4, 5, 4, 5, 5, 6, 3, 4, 4, 5, 4, 5, 5, 6, 4, 5, 5, 6, 5, 6, 6, 7, 2, 3, 3, 4, 3, 4, 4, 5, 3, 4, 4, 5, 4, 5, 5, 6, 3, 4, 4, 5, 4, 5, 5, 6, 4, 5, 5, 6, 5, 6, 6, 7, 3, 4, 4, 5, 4, 5, 5, 6, 4, 5, 5, 6, 5, 6, 6, 7, 4, 5, 5, 6, 5, 6, 6, 7, 5, 6, 6, 7, 6, 7, 7, 8]⟩ : ByteArray) a0)))) (none)) (none)
def bits_OnesCount8.f : Nat → Int → Option Int
  | 0, _ => none
  | k + 1, a0 => bits_OnesCount8.b some k a0
def bits_OnesCount8.enc (r : Int) : Res := ⟨[.vals false [((.int .i64 r), true)]], []⟩
def bits_OnesCount8.ans (k : Nat) : List Arg → Ans
  | [.v (.int .u8 a0)] => ⟨bits_OnesCount8.f k a0, bits_OnesCount8.enc⟩
  | _ => Ans.no
def bits_OnesCount8.Cs (k : Nat) : CallSem := tab []
def bits_OnesCount8.cuts : List (Nat × Keep) := []
theorem bits_OnesCount8.s (k : Nat) (a0 : Int) : answer Try.prog bits_OnesCount8.Cs 100000 bits_OnesCount8.cuts [] Try.f205 (k + 1) [.v (.int .u8 a0)] = bits_OnesCount8.b (fun r => some (bits_OnesCount8.enc r)) k a0 := by kernel_rfl
theorem bits_OnesCount8.b_nat {R R' : Type} (e : R → R') (ret : Int → Option R) (k : Nat) (a0 : Int) : bits_OnesCount8.b (fun r => (ret r).map e) k a0 = (bits_OnesCount8.b ret k a0).map e := by
  unfold bits_OnesCount8.b
  repeat' first | with_reducible refine nat_cond ?_ ?_ | with_reducible refine nat_bind fun _ => ?_ | rfl
theorem bits_OnesCount8.eq (k : Nat) (a0 : Int) : answer Try.prog bits_OnesCount8.Cs 100000 bits_OnesCount8.cuts [] Try.f205 (k + 1) [.v (.int .u8 a0)] = (bits_OnesCount8.f (k + 1) a0).map bits_OnesCount8.enc := by
  refine (bits_OnesCount8.s k a0).trans (Eq.trans ?_ (bits_OnesCount8.b_nat bits_OnesCount8.enc some k a0))
  simp only [Option.map_some]
theorem bits_OnesCount8.sound (k : Nat) : SoundF Try.prog 205 (fun a => (bits_OnesCount8.ans k a).val) := by
  refine sound_plain (fun args res h => ?_) (fun t n => rfl)
  unfold bits_OnesCount8.ans at h
  dsimp only at h
  split at h
  · cases k with
    | zero => cases h
    | succ k =>
      unfold Ans.val at h
      rw [← bits_OnesCount8.eq] at h
      exact answer_sound mixed Try.func205 _ _ _ (k + 1) (fun j _ => tab_sound (tab_nil)) _ _ h
  · exact (Ans.no_val h).elim

/-! loop.example/g00790/impl.BitsCount -/
def impl_BitsCount.b {R : Type} (ret : Int → Option R) (j0 : Int → Bool → (List Int) → Int → Int → Option R) (k : Nat) (a0z : Bool) (a0 : List Int) : Option R :=
  j0 0 a0z a0 ((a0).length : Int) 0
def impl_BitsCount.l0b {R : Type} (ret : Int → Option R) (j0 : Int → Bool → (List Int) → Int → Int → Option R) (k : Nat) (x3 : Int) (x6z : Bool) (x6 : List Int) (x7 : Int) (x8 : Int) : Option R :=
  cond (decide (x8 < x7)) (cond (decide ((0 : Int) ≤ x8)) (cond (decide (x8 < ((x6).length : Int))) ((bits_OnesCount8.f k (rdI x6 x8)).bind fun t0 => j0 (RowKit.wrap64 (x3 + t0)) x6z x6 x7 (RowKit.wrap64 (x8 + 1))) (none)) (none)) (ret x3)
def impl_BitsCount.l0 : Nat → Int → Bool → (List Int) → Int → Int → Option Int
  | 0, _, _, _, _, _ => none
  | k + 1, x3, x6z, x6, x7, x8 => impl_BitsCount.l0b some (impl_BitsCount.l0 k) k x3 x6z x6 x7 x8
def impl_BitsCount.f : Nat → Bool → (List Int) → Option Int
  | 0, _, _ => none
  | k + 1, a0z, a0 => impl_BitsCount.b some (impl_BitsCount.l0 k) k a0z a0
def impl_BitsCount.enc (r : Int) : Res := ⟨[.vals false [((.int .i64 r), true)]], []⟩
def impl_BitsCount.ans (k : Nat) : List Arg → Ans
  | [.v (.nums 5 .u8 a0z a0)] => ⟨impl_BitsCount.f k a0z a0, impl_BitsCount.enc⟩
  | _ => Ans.no
def impl_BitsCount.Cs (k : Nat) : CallSem := tab [(205, bits_OnesCount8.ans k)]
def impl_BitsCount.cuts : List (Nat × Keep) := [(58, ⟨[(3, some []), (6, some []), (7, some []), (8, some [])], []⟩)]
noncomputable def impl_BitsCount.K0 : List Fr := framesAt [true, true, false, true, false] (bodyOf Try.f172 impl_BitsCount.cuts) []
def impl_BitsCount.N0 (x3 : Int) (x6z : Bool) (x6 : List Int) (x7 : Int) (x8 : Int) : St := stOf 18 18 1 [(3, .val (V.s (.int .i64 x3))), (6, .val ⟨(.nums 5 .u8 x6z x6), [], false, none⟩), (7, .val (V.s (.int .i64 x7))), (8, .val (V.s (.int .i64 x8)))] []
theorem impl_BitsCount.s (k : Nat) (a0z : Bool) (a0 : List Int) : answer Try.prog impl_BitsCount.Cs 100000 impl_BitsCount.cuts [] Try.f172 (k + 1) [.v (.nums 5 .u8 a0z a0)] = impl_BitsCount.b (fun r => some (impl_BitsCount.enc r)) (fun x3 x6z x6 x7 x8 => rounds Try.prog impl_BitsCount.Cs (finish Try.prog [] Try.f172 [.v (.nums 5 .u8 a0z a0)]) 100000 k impl_BitsCount.K0 (impl_BitsCount.N0 x3 x6z x6 x7 x8)) k a0z a0 := by kernel_rfl
theorem impl_BitsCount.s0 (k : Nat) (G : List Fr → St → Option Res) (a0z : Bool) (a0 : List Int) (yx3 : Int) (yx6z : Bool) (yx6 : List Int) (yx7 : Int) (yx8 : Int) : resume Try.prog (impl_BitsCount.Cs k) G (finish Try.prog [] Try.f172 [.v (.nums 5 .u8 a0z a0)]) 100000 impl_BitsCount.K0 (impl_BitsCount.N0 yx3 yx6z yx6 yx7 yx8) = impl_BitsCount.l0b (fun r => some (impl_BitsCount.enc r)) (fun x3 x6z x6 x7 x8 => G impl_BitsCount.K0 (impl_BitsCount.N0 x3 x6z x6 x7 x8)) k yx3 yx6z yx6 yx7 yx8 := by kernel_rfl
theorem impl_BitsCount.b_nat {R R' : Type} (e : R → R') (ret : Int → Option R) (j0 : Int → Bool → (List Int) → Int → Int → Option R) (k : Nat) (a0z : Bool) (a0 : List Int) : impl_BitsCount.b (fun r => (ret r).map e) (fun x3 x6z x6 x7 x8 => (j0 x3 x6z x6 x7 x8).map e) k a0z a0 = (impl_BitsCount.b ret j0 k a0z a0).map e := by
  unfold impl_BitsCount.b
  repeat' first | with_reducible refine nat_cond ?_ ?_ | with_reducible refine nat_bind fun _ => ?_ | rfl
theorem impl_BitsCount.l0b_nat {R R' : Type} (e : R → R') (ret : Int → Option R) (j0 : Int → Bool → (List Int) → Int → Int → Option R) (k : Nat) (x3 : Int) (x6z : Bool) (x6 : List Int) (x7 : Int) (x8 : Int) : impl_BitsCount.l0b (fun r => (ret r).map e) (fun x3 x6z x6 x7 x8 => (j0 x3 x6z x6 x7 x8).map e) k x3 x6z x6 x7 x8 = (impl_BitsCount.l0b ret j0 k x3 x6z x6 x7 x8).map e := by
  unfold impl_BitsCount.l0b
  repeat' first | with_reducible refine nat_cond ?_ ?_ | with_reducible refine nat_bind fun _ => ?_ | rfl
theorem impl_BitsCount.rounds_eq (a0z : Bool) (a0 : List Int) : ∀ k, (∀ (x3 : Int) (x6z : Bool) (x6 : List Int) (x7 : Int) (x8 : Int), rounds Try.prog impl_BitsCount.Cs (finish Try.prog [] Try.f172 [.v (.nums 5 .u8 a0z a0)]) 100000 k impl_BitsCount.K0 (impl_BitsCount.N0 x3 x6z x6 x7 x8) = (impl_BitsCount.l0 k x3 x6z x6 x7 x8).map impl_BitsCount.enc)
  | 0 => fun _ _ _ _ _ => rfl
  | k + 1 => by
    have ih := impl_BitsCount.rounds_eq a0z a0 k
    refine fun _ _ _ _ _ => ?_
    · refine (impl_BitsCount.s0 k _ a0z a0 _ _ _ _ _).trans (Eq.trans ?_ (impl_BitsCount.l0b_nat impl_BitsCount.enc some (impl_BitsCount.l0 k) k _ _ _ _ _))
      simp only [ih, Option.map_some]
theorem impl_BitsCount.eq (k : Nat) (a0z : Bool) (a0 : List Int) : answer Try.prog impl_BitsCount.Cs 100000 impl_BitsCount.cuts [] Try.f172 (k + 1) [.v (.nums 5 .u8 a0z a0)] = (impl_BitsCount.f (k + 1) a0z a0).map impl_BitsCount.enc := by
  have ih := impl_BitsCount.rounds_eq a0z a0 k
  refine (impl_BitsCount.s k a0z a0).trans (Eq.trans ?_ (impl_BitsCount.b_nat impl_BitsCount.enc some (impl_BitsCount.l0 k) k a0z a0))
  simp only [ih, Option.map_some]
theorem impl_BitsCount.sound (k : Nat) : SoundF Try.prog 172 (fun a => (impl_BitsCount.ans k a).val) := by
  refine sound_plain (fun args res h => ?_) (fun t n => rfl)
  unfold impl_BitsCount.ans at h
  dsimp only at h
  split at h
  · cases k with
    | zero => cases h
    | succ k =>
      unfold Ans.val at h
      rw [← impl_BitsCount.eq] at h
      exact answer_sound mixed Try.func172 _ _ _ (k + 1) (fun j _ => tab_sound (tab_cons (bits_OnesCount8.sound j) (tab_nil))) _ _ h
  · exact (Ans.no_val h).elim

/-! loop.example/g00790/impl.QcOk -/
def impl_QcOk.b {R : Type} (ret : Bool → Option R) (k : Nat) (a0_0 : Int) (a0_1 : Int) (a0_2 : Int) (a0_3 : Int) (a0_4 : Int) (a1_0 : Int) (a1_1 : Int) (a1_2z : Bool) (a1_2 : List Int) (a1_3z : Bool) (a1_3 : List Int) (a1_4z : Bool) (a1_4 : List T) : Option R :=
  (impl_LimitsOk.f k a0_0 a0_1 a0_2 a0_3 a0_4).bind fun t0 => cond t0 ((impl_isNum.f k a1_0).bind fun t1 => cond t1 ((impl_isNum.f k a1_1).bind fun t2 => cond t2 ((impl_areHashes.f k false ([(.nums 5 .u8 a1_2z a1_2)] : List T)).bind fun t3 => cond t3 ((impl_BitsOk.f k a1_3z a1_3 a0_0).bind fun t4 => cond t4 ((impl_BitsCount.f k a1_3z a1_3).bind fun t5 => cond (decide (((a1_4).length : Int) = t5)) ((impl_areHashes.f k a1_4z a1_4).bind fun t6 => ret t6) (ret false)) (ret false)) (ret false)) (ret false)) (ret false)) (ret false)
def impl_QcOk.f : Nat → Int → Int → Int → Int → Int → Int → Int → Bool → (List Int) → Bool → (List Int) → Bool → (List T) → Option Bool
  | 0, _, _, _, _, _, _, _, _, _, _, _, _, _ => none
  | k + 1, a0_0, a0_1, a0_2, a0_3, a0_4, a1_0, a1_1, a1_2z, a1_2, a1_3z, a1_3, a1_4z, a1_4 => impl_QcOk.b some k a0_0 a0_1 a0_2 a0_3 a0_4 a1_0 a1_1 a1_2z a1_2 a1_3z a1_3 a1_4z a1_4
def impl_QcOk.enc (r : Bool) : Res := ⟨[.vals false [((.bool r), true)]], []⟩
def impl_QcOk.ans (k : Nat) : List Arg → Ans
  | [.v (.agg [(.int .i64 a0_0), (.int .i64 a0_1), (.int .i64 a0_2), (.int .i64 a0_3), (.int .i64 a0_4)]), .v (.agg [(.int .i64 a1_0), (.int .i64 a1_1), (.nums 5 .u8 a1_2z a1_2), (.nums 5 .u8 a1_3z a1_3), (.sl 45 a1_4z a1_4)])] => ⟨impl_QcOk.f k a0_0 a0_1 a0_2 a0_3 a0_4 a1_0 a1_1 a1_2z a1_2 a1_3z a1_3 a1_4z a1_4, impl_QcOk.enc⟩
  | _ => Ans.no
def impl_QcOk.Cs (k : Nat) : CallSem := tab [(86, impl_LimitsOk.ans k), (139, impl_BitsOk.ans k), (161, impl_isNum.ans k), (162, impl_areHashes.ans k), (172, impl_BitsCount.ans k)]
def impl_QcOk.cuts : List (Nat × Keep) := []
theorem impl_QcOk.s (k : Nat) (a0_0 : Int) (a0_1 : Int) (a0_2 : Int) (a0_3 : Int) (a0_4 : Int) (a1_0 : Int) (a1_1 : Int) (a1_2z : Bool) (a1_2 : List Int) (a1_3z : Bool) (a1_3 : List Int) (a1_4z : Bool) (a1_4 : List T) : answer Try.prog impl_QcOk.Cs 100000 impl_QcOk.cuts [] Try.f105 (k + 1) [.v (.agg [(.int .i64 a0_0), (.int .i64 a0_1), (.int .i64 a0_2), (.int .i64 a0_3), (.int .i64 a0_4)]), .v (.agg [(.int .i64 a1_0), (.int .i64 a1_1), (.nums 5 .u8 a1_2z a1_2), (.nums 5 .u8 a1_3z a1_3), (.sl 45 a1_4z a1_4)])] = impl_QcOk.b (fun r => some (impl_QcOk.enc r)) k a0_0 a0_1 a0_2 a0_3 a0_4 a1_0 a1_1 a1_2z a1_2 a1_3z a1_3 a1_4z a1_4 := by kernel_rfl
theorem impl_QcOk.b_nat {R R' : Type} (e : R → R') (ret : Bool → Option R) (k : Nat) (a0_0 : Int) (a0_1 : Int) (a0_2 : Int) (a0_3 : Int) (a0_4 : Int) (a1_0 : Int) (a1_1 : Int) (a1_2z : Bool) (a1_2 : List Int) (a1_3z : Bool) (a1_3 : List Int) (a1_4z : Bool) (a1_4 : List T) : impl_QcOk.b (fun r => (ret r).map e) k a0_0 a0_1 a0_2 a0_3 a0_4 a1_0 a1_1 a1_2z a1_2 a1_3z a1_3 a1_4z a1_4 = (impl_QcOk.b ret k a0_0 a0_1 a0_2 a0_3 a0_4 a1_0 a1_1 a1_2z a1_2 a1_3z a1_3 a1_4z a1_4).map e := by
  unfold impl_QcOk.b
  repeat' first | with_reducible refine nat_cond ?_ ?_ | with_reducible refine nat_bind fun _ => ?_ | rfl
theorem impl_QcOk.eq (k : Nat) (a0_0 : Int) (a0_1 : Int) (a0_2 : Int) (a0_3 : Int) (a0_4 : Int) (a1_0 : Int) (a1_1 : Int) (a1_2z : Bool) (a1_2 : List Int) (a1_3z : Bool) (a1_3 : List Int) (a1_4z : Bool) (a1_4 : List T) : answer Try.prog impl_QcOk.Cs 100000 impl_QcOk.cuts [] Try.f105 (k + 1) [.v (.agg [(.int .i64 a0_0), (.int .i64 a0_1), (.int .i64 a0_2), (.int .i64 a0_3), (.int .i64 a0_4)]), .v (.agg [(.int .i64 a1_0), (.int .i64 a1_1), (.nums 5 .u8 a1_2z a1_2), (.nums 5 .u8 a1_3z a1_3), (.sl 45 a1_4z a1_4)])] = (impl_QcOk.f (k + 1) a0_0 a0_1 a0_2 a0_3 a0_4 a1_0 a1_1 a1_2z a1_2 a1_3z a1_3 a1_4z a1_4).map impl_QcOk.enc := by
  refine (impl_QcOk.s k a0_0 a0_1 a0_2 a0_3 a0_4 a1_0 a1_1 a1_2z a1_2 a1_3z a1_3 a1_4z a1_4).trans (Eq.trans ?_ (impl_QcOk.b_nat impl_QcOk.enc some k a0_0 a0_1 a0_2 a0_3 a0_4 a1_0 a1_1 a1_2z a1_2 a1_3z a1_3 a1_4z a1_4))
  simp only [Option.map_some]
theorem impl_QcOk.sound (k : Nat) : SoundF Try.prog 105 (fun a => (impl_QcOk.ans k a).val) := by
  refine sound_plain (fun args res h => ?_) (fun t n => rfl)
  unfold impl_QcOk.ans at h
  dsimp only at h
  split at h
  · cases k with
    | zero => cases h
    | succ k =>
      unfold Ans.val at h
      rw [← impl_QcOk.eq] at h
      exact answer_sound mixed Try.func105 _ _ _ (k + 1) (fun j _ => tab_sound (tab_cons (impl_LimitsOk.sound j) (tab_cons (impl_BitsOk.sound j) (tab_cons (impl_isNum.sound j) (tab_cons (impl_areHashes.sound j) (tab_cons (impl_BitsCount.sound j) (tab_nil))))))) _ _ h
  · exact (Ans.no_val h).elim

/-! loop.example/g00790/impl.BuildQc -/
def impl_BuildQc.b {R : Type} (ret : Int × Int × Bool × (List Int) × Bool × (List Int) × Bool × (List T) × Bool → Option R) (j0 : Int → Int → Bool → (List Int) → Bool → (List Int) → Int → Int → Int → Int → Int → Int → Int → Bool → (List T) → Int → Int → Bool → (List Int) → Bool → (List Int) → Bool → (List T) → Option R) (k : Nat) (a0_0 : Int) (a0_1 : Int) (a0_2 : Int) (a0_3 : Int) (a0_4 : Int) (a1_0z : Bool) (a1_0 : List T) (a2 : Int) (a3 : Int) (a4z : Bool) (a4 : List Int) (a5z : Bool) (a5 : List Int) : Option R :=
  (impl_belongs.f k a0_0 a0_1 a0_2 a0_3 a0_4 a1_0z a1_0).bind fun t0 => cond (!t0) (ret (0, 0, true, ([] : List Int), true, ([] : List Int), true, ([] : List T), false)) ((impl_BitsOk.f k a5z a5 a0_0).bind fun t1 => cond (!t1) (ret (0, 0, true, ([] : List Int), true, ([] : List Int), true, ([] : List T), false)) ((impl_copyBytes.f k a4z a4).bind fun t2 => (impl_copyBytes.f k a5z a5).bind fun t3 => (impl_BitsList.f k a5z a5).bind fun t4 => j0 a2 a3 a4z a4 t4.1 t4.2 ((t4.2).length : Int) 0 a0_0 a0_1 a0_2 a0_3 a0_4 a1_0z a1_0 a2 a3 t2.1 t2.2 t3.1 t3.2 true ([] : List T)))
def impl_BuildQc.l0b {R : Type} (ret : Int × Int × Bool × (List Int) × Bool × (List Int) × Bool × (List T) × Bool → Option R) (j0 : Int → Int → Bool → (List Int) → Bool → (List Int) → Int → Int → Int → Int → Int → Int → Int → Bool → (List T) → Int → Int → Bool → (List Int) → Bool → (List Int) → Bool → (List T) → Option R) (k : Nat) (x2 : Int) (x3 : Int) (x4z : Bool) (x4 : List Int) (x39z : Bool) (x39 : List Int) (x40 : Int) (x41 : Int) (c6_0 : Int) (c6_1 : Int) (c6_2 : Int) (c6_3 : Int) (c6_4 : Int) (c7_0z : Bool) (c7_0 : List T) (c14_0 : Int) (c14_1 : Int) (c14_2z : Bool) (c14_2 : List Int) (c14_3z : Bool) (c14_3 : List Int) (c14_4z : Bool) (c14_4 : List T) : Option R :=
  cond (decide (x41 < x40)) (cond (decide ((0 : Int) ≤ x41)) (cond (decide (x41 < ((x39).length : Int))) ((impl_SignVote.f k c7_0z c7_0 x2 x3 x4z x4 (rdI x39 x41)).bind fun t0 => cond (decide ((c14_4).length + 1 < 5864062014805)) (j0 x2 x3 x4z x4 x39z x39 x40 (RowKit.wrap64 (x41 + 1)) c6_0 c6_1 c6_2 c6_3 c6_4 c7_0z c7_0 c14_0 c14_1 c14_2z c14_2 c14_3z c14_3 false (c14_4 ++ ([(.nums 5 .u8 t0.2.2.2.2.2.1 t0.2.2.2.2.2.2.1)] : List T))) (none)) (none)) (none)) ((impl_QcOk.f k c6_0 c6_1 c6_2 c6_3 c6_4 c14_0 c14_1 c14_2z c14_2 c14_3z c14_3 c14_4z c14_4).bind fun t0 => cond (!t0) (ret (0, 0, true, ([] : List Int), true, ([] : List Int), true, ([] : List T), false)) (ret (c14_0, c14_1, c14_2z, c14_2, c14_3z, c14_3, c14_4z, c14_4, true)))
def impl_BuildQc.l0 : Nat → Int → Int → Bool → (List Int) → Bool → (List Int) → Int → Int → Int → Int → Int → Int → Int → Bool → (List T) → Int → Int → Bool → (List Int) → Bool → (List Int) → Bool → (List T) → Option (Int × Int × Bool × (List Int) × Bool × (List Int) × Bool × (List T) × Bool)
  | 0, _, _, _, _, _, _, _, _, _, _, _, _, _, _, _, _, _, _, _, _, _, _, _ => none
  | k + 1, x2, x3, x4z, x4, x39z, x39, x40, x41, c6_0, c6_1, c6_2, c6_3, c6_4, c7_0z, c7_0, c14_0, c14_1, c14_2z, c14_2, c14_3z, c14_3, c14_4z, c14_4 => impl_BuildQc.l0b some (impl_BuildQc.l0 k) k x2 x3 x4z x4 x39z x39 x40 x41 c6_0 c6_1 c6_2 c6_3 c6_4 c7_0z c7_0 c14_0 c14_1 c14_2z c14_2 c14_3z c14_3 c14_4z c14_4
def impl_BuildQc.f : Nat → Int → Int → Int → Int → Int → Bool → (List T) → Int → Int → Bool → (List Int) → Bool → (List Int) → Option (Int × Int × Bool × (List Int) × Bool × (List Int) × Bool × (List T) × Bool)
  | 0, _, _, _, _, _, _, _, _, _, _, _, _, _ => none
  | k + 1, a0_0, a0_1, a0_2, a0_3, a0_4, a1_0z, a1_0, a2, a3, a4z, a4, a5z, a5 => impl_BuildQc.b some (impl_BuildQc.l0 k) k a0_0 a0_1 a0_2 a0_3 a0_4 a1_0z a1_0 a2 a3 a4z a4 a5z a5
def impl_BuildQc.enc (r : Int × Int × Bool × (List Int) × Bool × (List Int) × Bool × (List T) × Bool) : Res := ⟨[.vals true [((.int .i64 r.1), true), ((.int .i64 r.2.1), true), ((.nums 5 .u8 r.2.2.1 r.2.2.2.1), true), ((.nums 5 .u8 r.2.2.2.2.1 r.2.2.2.2.2.1), true), ((.sl 45 r.2.2.2.2.2.2.1 r.2.2.2.2.2.2.2.1), true)], .vals false [((.bool r.2.2.2.2.2.2.2.2), true)]], []⟩
def impl_BuildQc.ans (k : Nat) : List Arg → Ans
  | [.v (.agg [(.int .i64 a0_0), (.int .i64 a0_1), (.int .i64 a0_2), (.int .i64 a0_3), (.int .i64 a0_4)]), .v (.agg [(.sl 160 a1_0z a1_0)]), .v (.int .i64 a2), .v (.int .i64 a3), .v (.nums 5 .u8 a4z a4), .v (.nums 5 .u8 a5z a5)] => ⟨impl_BuildQc.f k a0_0 a0_1 a0_2 a0_3 a0_4 a1_0z a1_0 a2 a3 a4z a4 a5z a5, impl_BuildQc.enc⟩
  | _ => Ans.no
def impl_BuildQc.Cs (k : Nat) : CallSem := tab [(93, impl_belongs.ans k), (139, impl_BitsOk.ans k), (140, impl_BitsList.ans k), (132, impl_copyBytes.ans k), (51, impl_SignVote.ans k), (105, impl_QcOk.ans k)]
def impl_BuildQc.cuts : List (Nat × Keep) := [(122, ⟨[(2, some []), (3, some []), (4, some []), (6, some []), (7, some []), (12, some []), (14, some []), (39, none), (40, some []), (41, some [])], [(6, [some [], some [], some [], some [], some []]), (7, [some []]), (12, [some [], some [], none, none, none]), (14, [some [], some [], none, none, none])]⟩)]
noncomputable def impl_BuildQc.K0 : List Fr := framesAt [true, true, true, false, true, false] (bodyOf Try.f61 impl_BuildQc.cuts) []
def impl_BuildQc.N0 (x2 : Int) (x3 : Int) (x4z : Bool) (x4 : List Int) (x39z : Bool) (x39 : List Int) (x40 : Int) (x41 : Int) (c6_0 : Int) (c6_1 : Int) (c6_2 : Int) (c6_3 : Int) (c6_4 : Int) (c7_0z : Bool) (c7_0 : List T) (c14_0 : Int) (c14_1 : Int) (c14_2z : Bool) (c14_2 : List Int) (c14_3z : Bool) (c14_3 : List Int) (c14_4z : Bool) (c14_4 : List T) : St := stOf 68 68 6 [(2, .val (V.s (.int .i64 x2))), (3, .val (V.s (.int .i64 x3))), (4, .val ⟨(.nums 5 .u8 x4z x4), [], false, none⟩), (6, .bp 6 0), (7, .bp 7 0), (12, .bp 12 0), (14, .bp 14 0), (39, .val ⟨(.nums 3 .i64 x39z x39), [.l 39 0], true, some (.l 39 0)⟩), (40, .val (V.s (.int .i64 x40))), (41, .val (V.s (.int .i64 x41)))] [(6, .cells [V.s (.int .i64 c6_0), V.s (.int .i64 c6_1), V.s (.int .i64 c6_2), V.s (.int .i64 c6_3), V.s (.int .i64 c6_4)]), (7, .cells [⟨(.sl 160 c7_0z c7_0), [], false, none⟩]), (12, .cells [V.s (.int .i64 0), V.s (.int .i64 0), ⟨(.nums 5 .u8 true ([] : List Int)), [.l 12 3], true, some (.l 12 3)⟩, ⟨(.nums 5 .u8 true ([] : List Int)), [.l 12 4], true, some (.l 12 4)⟩, ⟨(.sl 45 true ([] : List T)), [.l 12 5], true, some (.l 12 5)⟩]), (14, .cells [V.s (.int .i64 c14_0), V.s (.int .i64 c14_1), ⟨(.nums 5 .u8 c14_2z c14_2), [.l 14 3], true, some (.l 14 3)⟩, ⟨(.nums 5 .u8 c14_3z c14_3), [.l 14 4], true, some (.l 14 4)⟩, ⟨(.sl 45 c14_4z c14_4), [.l 14 5], true, some (.l 14 5)⟩])]
theorem impl_BuildQc.s (k : Nat) (a0_0 : Int) (a0_1 : Int) (a0_2 : Int) (a0_3 : Int) (a0_4 : Int) (a1_0z : Bool) (a1_0 : List T) (a2 : Int) (a3 : Int) (a4z : Bool) (a4 : List Int) (a5z : Bool) (a5 : List Int) : answer Try.prog impl_BuildQc.Cs 100000 impl_BuildQc.cuts [] Try.f61 (k + 1) [.v (.agg [(.int .i64 a0_0), (.int .i64 a0_1), (.int .i64 a0_2), (.int .i64 a0_3), (.int .i64 a0_4)]), .v (.agg [(.sl 160 a1_0z a1_0)]), .v (.int .i64 a2), .v (.int .i64 a3), .v (.nums 5 .u8 a4z a4), .v (.nums 5 .u8 a5z a5)] = impl_BuildQc.b (fun r => some (impl_BuildQc.enc r)) (fun x2 x3 x4z x4 x39z x39 x40 x41 c6_0 c6_1 c6_2 c6_3 c6_4 c7_0z c7_0 c14_0 c14_1 c14_2z c14_2 c14_3z c14_3 c14_4z c14_4 => rounds Try.prog impl_BuildQc.Cs (finish Try.prog [] Try.f61 [.v (.agg [(.int .i64 a0_0), (.int .i64 a0_1), (.int .i64 a0_2), (.int .i64 a0_3), (.int .i64 a0_4)]), .v (.agg [(.sl 160 a1_0z a1_0)]), .v (.int .i64 a2), .v (.int .i64 a3), .v (.nums 5 .u8 a4z a4), .v (.nums 5 .u8 a5z a5)]) 100000 k impl_BuildQc.K0 (impl_BuildQc.N0 x2 x3 x4z x4 x39z x39 x40 x41 c6_0 c6_1 c6_2 c6_3 c6_4 c7_0z c7_0 c14_0 c14_1 c14_2z c14_2 c14_3z c14_3 c14_4z c14_4)) k a0_0 a0_1 a0_2 a0_3 a0_4 a1_0z a1_0 a2 a3 a4z a4 a5z a5 := by kernel_rfl
theorem impl_BuildQc.s0 (k : Nat) (G : List Fr → St → Option Res) (a0_0 : Int) (a0_1 : Int) (a0_2 : Int) (a0_3 : Int) (a0_4 : Int) (a1_0z : Bool) (a1_0 : List T) (a2 : Int) (a3 : Int) (a4z : Bool) (a4 : List Int) (a5z : Bool) (a5 : List Int) (yx2 : Int) (yx3 : Int) (yx4z : Bool) (yx4 : List Int) (yx39z : Bool) (yx39 : List Int) (yx40 : Int) (yx41 : Int) (yc6_0 : Int) (yc6_1 : Int) (yc6_2 : Int) (yc6_3 : Int) (yc6_4 : Int) (yc7_0z : Bool) (yc7_0 : List T) (yc14_0 : Int) (yc14_1 : Int) (yc14_2z : Bool) (yc14_2 : List Int) (yc14_3z : Bool) (yc14_3 : List Int) (yc14_4z : Bool) (yc14_4 : List T) : resume Try.prog (impl_BuildQc.Cs k) G (finish Try.prog [] Try.f61 [.v (.agg [(.int .i64 a0_0), (.int .i64 a0_1), (.int .i64 a0_2), (.int .i64 a0_3), (.int .i64 a0_4)]), .v (.agg [(.sl 160 a1_0z a1_0)]), .v (.int .i64 a2), .v (.int .i64 a3), .v (.nums 5 .u8 a4z a4), .v (.nums 5 .u8 a5z a5)]) 100000 impl_BuildQc.K0 (impl_BuildQc.N0 yx2 yx3 yx4z yx4 yx39z yx39 yx40 yx41 yc6_0 yc6_1 yc6_2 yc6_3 yc6_4 yc7_0z yc7_0 yc14_0 yc14_1 yc14_2z yc14_2 yc14_3z yc14_3 yc14_4z yc14_4) = impl_BuildQc.l0b (fun r => some (impl_BuildQc.enc r)) (fun x2 x3 x4z x4 x39z x39 x40 x41 c6_0 c6_1 c6_2 c6_3 c6_4 c7_0z c7_0 c14_0 c14_1 c14_2z c14_2 c14_3z c14_3 c14_4z c14_4 => G impl_BuildQc.K0 (impl_BuildQc.N0 x2 x3 x4z x4 x39z x39 x40 x41 c6_0 c6_1 c6_2 c6_3 c6_4 c7_0z c7_0 c14_0 c14_1 c14_2z c14_2 c14_3z c14_3 c14_4z c14_4)) k yx2 yx3 yx4z yx4 yx39z yx39 yx40 yx41 yc6_0 yc6_1 yc6_2 yc6_3 yc6_4 yc7_0z yc7_0 yc14_0 yc14_1 yc14_2z yc14_2 yc14_3z yc14_3 yc14_4z yc14_4 := by kernel_rfl
theorem impl_BuildQc.b_nat {R R' : Type} (e : R → R') (ret : Int × Int × Bool × (List Int) × Bool × (List Int) × Bool × (List T) × Bool → Option R) (j0 : Int → Int → Bool → (List Int) → Bool → (List Int) → Int → Int → Int → Int → Int → Int → Int → Bool → (List T) → Int → Int → Bool → (List Int) → Bool → (List Int) → Bool → (List T) → Option R) (k : Nat) (a0_0 : Int) (a0_1 : Int) (a0_2 : Int) (a0_3 : Int) (a0_4 : Int) (a1_0z : Bool) (a1_0 : List T) (a2 : Int) (a3 : Int) (a4z : Bool) (a4 : List Int) (a5z : Bool) (a5 : List Int) : impl_BuildQc.b (fun r => (ret r).map e) (fun x2 x3 x4z x4 x39z x39 x40 x41 c6_0 c6_1 c6_2 c6_3 c6_4 c7_0z c7_0 c14_0 c14_1 c14_2z c14_2 c14_3z c14_3 c14_4z c14_4 => (j0 x2 x3 x4z x4 x39z x39 x40 x41 c6_0 c6_1 c6_2 c6_3 c6_4 c7_0z c7_0 c14_0 c14_1 c14_2z c14_2 c14_3z c14_3 c14_4z c14_4).map e) k a0_0 a0_1 a0_2 a0_3 a0_4 a1_0z a1_0 a2 a3 a4z a4 a5z a5 = (impl_BuildQc.b ret j0 k a0_0 a0_1 a0_2 a0_3 a0_4 a1_0z a1_0 a2 a3 a4z a4 a5z a5).map e := by
  unfold impl_BuildQc.b
  repeat' first | with_reducible refine nat_cond ?_ ?_ | with_reducible refine nat_bind fun _ => ?_ | rfl
theorem impl_BuildQc.l0b_nat {R R' : Type} (e : R → R') (ret : Int × Int × Bool × (List Int) × Bool × (List Int) × Bool × (List T) × Bool → Option R) (j0 : Int → Int → Bool → (List Int) → Bool → (List Int) → Int → Int → Int → Int → Int → Int → Int → Bool → (List T) → Int → Int → Bool → (List Int) → Bool → (List Int) → Bool → (List T) → Option R) (k : Nat) (x2 : Int) (x3 : Int) (x4z : Bool) (x4 : List Int) (x39z : Bool) (x39 : List Int) (x40 : Int) (x41 : Int) (c6_0 : Int) (c6_1 : Int) (c6_2 : Int) (c6_3 : Int) (c6_4 : Int) (c7_0z : Bool) (c7_0 : List T) (c14_0 : Int) (c14_1 : Int) (c14_2z : Bool) (c14_2 : List Int) (c14_3z : Bool) (c14_3 : List Int) (c14_4z : Bool) (c14_4 : List T) : impl_BuildQc.l0b (fun r => (ret r).map e) (fun x2 x3 x4z x4 x39z x39 x40 x41 c6_0 c6_1 c6_2 c6_3 c6_4 c7_0z c7_0 c14_0 c14_1 c14_2z c14_2 c14_3z c14_3 c14_4z c14_4 => (j0 x2 x3 x4z x4 x39z x39 x40 x41 c6_0 c6_1 c6_2 c6_3 c6_4 c7_0z c7_0 c14_0 c14_1 c14_2z c14_2 c14_3z c14_3 c14_4z c14_4).map e) k x2 x3 x4z x4 x39z x39 x40 x41 c6_0 c6_1 c6_2 c6_3 c6_4 c7_0z c7_0 c14_0 c14_1 c14_2z c14_2 c14_3z c14_3 c14_4z c14_4 = (impl_BuildQc.l0b ret j0 k x2 x3 x4z x4 x39z x39 x40 x41 c6_0 c6_1 c6_2 c6_3 c6_4 c7_0z c7_0 c14_0 c14_1 c14_2z c14_2 c14_3z c14_3 c14_4z c14_4).map e := by
  unfold impl_BuildQc.l0b
  repeat' first | with_reducible refine nat_cond ?_ ?_ | with_reducible refine nat_bind fun _ => ?_ | rfl
theorem impl_BuildQc.rounds_eq (a0_0 : Int) (a0_1 : Int) (a0_2 : Int) (a0_3 : Int) (a0_4 : Int) (a1_0z : Bool) (a1_0 : List T) (a2 : Int) (a3 : Int) (a4z : Bool) (a4 : List Int) (a5z : Bool) (a5 : List Int) : ∀ k, (∀ (x2 : Int) (x3 : Int) (x4z : Bool) (x4 : List Int) (x39z : Bool) (x39 : List Int) (x40 : Int) (x41 : Int) (c6_0 : Int) (c6_1 : Int) (c6_2 : Int) (c6_3 : Int) (c6_4 : Int) (c7_0z : Bool) (c7_0 : List T) (c14_0 : Int) (c14_1 : Int) (c14_2z : Bool) (c14_2 : List Int) (c14_3z : Bool) (c14_3 : List Int) (c14_4z : Bool) (c14_4 : List T), rounds Try.prog impl_BuildQc.Cs (finish Try.prog [] Try.f61 [.v (.agg [(.int .i64 a0_0), (.int .i64 a0_1), (.int .i64 a0_2), (.int .i64 a0_3), (.int .i64 a0_4)]), .v (.agg [(.sl 160 a1_0z a1_0)]), .v (.int .i64 a2), .v (.int .i64 a3), .v (.nums 5 .u8 a4z a4), .v (.nums 5 .u8 a5z a5)]) 100000 k impl_BuildQc.K0 (impl_BuildQc.N0 x2 x3 x4z x4 x39z x39 x40 x41 c6_0 c6_1 c6_2 c6_3 c6_4 c7_0z c7_0 c14_0 c14_1 c14_2z c14_2 c14_3z c14_3 c14_4z c14_4) = (impl_BuildQc.l0 k x2 x3 x4z x4 x39z x39 x40 x41 c6_0 c6_1 c6_2 c6_3 c6_4 c7_0z c7_0 c14_0 c14_1 c14_2z c14_2 c14_3z c14_3 c14_4z c14_4).map impl_BuildQc.enc)
  | 0 => fun _ _ _ _ _ _ _ _ _ _ _ _ _ _ _ _ _ _ _ _ _ _ _ => rfl
  | k + 1 => by
    have ih := impl_BuildQc.rounds_eq a0_0 a0_1 a0_2 a0_3 a0_4 a1_0z a1_0 a2 a3 a4z a4 a5z a5 k
    refine fun _ _ _ _ _ _ _ _ _ _ _ _ _ _ _ _ _ _ _ _ _ _ _ => ?_
    · refine (impl_BuildQc.s0 k _ a0_0 a0_1 a0_2 a0_3 a0_4 a1_0z a1_0 a2 a3 a4z a4 a5z a5 _ _ _ _ _ _ _ _ _ _ _ _ _ _ _ _ _ _ _ _ _ _ _).trans (Eq.trans ?_ (impl_BuildQc.l0b_nat impl_BuildQc.enc some (impl_BuildQc.l0 k) k _ _ _ _ _ _ _ _ _ _ _ _ _ _ _ _ _ _ _ _ _ _ _))
      simp only [ih, Option.map_some]
theorem impl_BuildQc.eq (k : Nat) (a0_0 : Int) (a0_1 : Int) (a0_2 : Int) (a0_3 : Int) (a0_4 : Int) (a1_0z : Bool) (a1_0 : List T) (a2 : Int) (a3 : Int) (a4z : Bool) (a4 : List Int) (a5z : Bool) (a5 : List Int) : answer Try.prog impl_BuildQc.Cs 100000 impl_BuildQc.cuts [] Try.f61 (k + 1) [.v (.agg [(.int .i64 a0_0), (.int .i64 a0_1), (.int .i64 a0_2), (.int .i64 a0_3), (.int .i64 a0_4)]), .v (.agg [(.sl 160 a1_0z a1_0)]), .v (.int .i64 a2), .v (.int .i64 a3), .v (.nums 5 .u8 a4z a4), .v (.nums 5 .u8 a5z a5)] = (impl_BuildQc.f (k + 1) a0_0 a0_1 a0_2 a0_3 a0_4 a1_0z a1_0 a2 a3 a4z a4 a5z a5).map impl_BuildQc.enc := by
  have ih := impl_BuildQc.rounds_eq a0_0 a0_1 a0_2 a0_3 a0_4 a1_0z a1_0 a2 a3 a4z a4 a5z a5 k
  refine (impl_BuildQc.s k a0_0 a0_1 a0_2 a0_3 a0_4 a1_0z a1_0 a2 a3 a4z a4 a5z a5).trans (Eq.trans ?_ (impl_BuildQc.b_nat impl_BuildQc.enc some (impl_BuildQc.l0 k) k a0_0 a0_1 a0_2 a0_3 a0_4 a1_0z a1_0 a2 a3 a4z a4 a5z a5))
  simp only [ih, Option.map_some]
theorem impl_BuildQc.sound (k : Nat) : SoundF Try.prog 61 (fun a => (impl_BuildQc.ans k a).val) := by
  refine sound_plain (fun args res h => ?_) (fun t n => rfl)
  unfold impl_BuildQc.ans at h
  dsimp only at h
  split at h
  · cases k with
    | zero => cases h
    | succ k =>
      unfold Ans.val at h
      rw [← impl_BuildQc.eq] at h
      exact answer_sound mixed Try.func61 _ _ _ (k + 1) (fun j _ => tab_sound (tab_cons (impl_belongs.sound j) (tab_cons (impl_BitsOk.sound j) (tab_cons (impl_BitsList.sound j) (tab_cons (impl_copyBytes.sound j) (tab_cons (impl_SignVote.sound j) (tab_cons (impl_QcOk.sound j) (tab_nil)))))))) _ _ h
  · exact (Ans.no_val h).elim

/-! loop.example/g00790/laws.eqByteS -/
def laws_eqByteS.b {R : Type} (ret : Bool → Option R) (j0 : Bool → (List Int) → Bool → (List Int) → Int → Option R) (k : Nat) (a0z : Bool) (a0 : List Int) (a1z : Bool) (a1 : List Int) : Option R :=
  cond (!(decide (((a0).length : Int) = ((a1).length : Int)))) (ret false) (j0 a0z a0 a1z a1 0)
def laws_eqByteS.l0b {R : Type} (ret : Bool → Option R) (j0 : Bool → (List Int) → Bool → (List Int) → Int → Option R) (k : Nat) (x0z : Bool) (x0 : List Int) (x1z : Bool) (x1 : List Int) (x5 : Int) : Option R :=
  cond (decide (x5 < ((x0).length : Int))) (cond (decide ((0 : Int) ≤ x5)) (cond (decide (x5 < ((x0).length : Int))) (cond (decide ((0 : Int) ≤ x5)) (cond (decide (x5 < ((x1).length : Int))) (cond (!(decide ((rdI x0 x5) = (rdI x1 x5)))) (ret false) (j0 x0z x0 x1z x1 (RowKit.wrap64 (x5 + 1)))) (none)) (none)) (none)) (none)) (ret true)
def laws_eqByteS.l0 : Nat → Bool → (List Int) → Bool → (List Int) → Int → Option Bool
  | 0, _, _, _, _, _ => none
  | k + 1, x0z, x0, x1z, x1, x5 => laws_eqByteS.l0b some (laws_eqByteS.l0 k) k x0z x0 x1z x1 x5
def laws_eqByteS.f : Nat → Bool → (List Int) → Bool → (List Int) → Option Bool
  | 0, _, _, _, _ => none
  | k + 1, a0z, a0, a1z, a1 => laws_eqByteS.b some (laws_eqByteS.l0 k) k a0z a0 a1z a1
def laws_eqByteS.enc (r : Bool) : Res := ⟨[.vals false [((.bool r), true)]], []⟩
def laws_eqByteS.ans (k : Nat) : List Arg → Ans
  | [.v (.nums 5 .u8 a0z a0), .v (.nums 5 .u8 a1z a1)] => ⟨laws_eqByteS.f k a0z a0 a1z a1, laws_eqByteS.enc⟩
  | _ => Ans.no
def laws_eqByteS.Cs (k : Nat) : CallSem := tab []
def laws_eqByteS.cuts : List (Nat × Keep) := [(58, ⟨[(0, some []), (1, some []), (5, some [])], []⟩)]
noncomputable def laws_eqByteS.K0 : List Fr := framesAt [true, true, false, true, false] (bodyOf Try.f53 laws_eqByteS.cuts) []
def laws_eqByteS.N0 (x0z : Bool) (x0 : List Int) (x1z : Bool) (x1 : List Int) (x5 : Int) : St := stOf 26 26 2 [(0, .val ⟨(.nums 5 .u8 x0z x0), [], false, none⟩), (1, .val ⟨(.nums 5 .u8 x1z x1), [], false, none⟩), (5, .val (V.s (.int .i64 x5)))] []
theorem laws_eqByteS.s (k : Nat) (a0z : Bool) (a0 : List Int) (a1z : Bool) (a1 : List Int) : answer Try.prog laws_eqByteS.Cs 100000 laws_eqByteS.cuts [] Try.f53 (k + 1) [.v (.nums 5 .u8 a0z a0), .v (.nums 5 .u8 a1z a1)] = laws_eqByteS.b (fun r => some (laws_eqByteS.enc r)) (fun x0z x0 x1z x1 x5 => rounds Try.prog laws_eqByteS.Cs (finish Try.prog [] Try.f53 [.v (.nums 5 .u8 a0z a0), .v (.nums 5 .u8 a1z a1)]) 100000 k laws_eqByteS.K0 (laws_eqByteS.N0 x0z x0 x1z x1 x5)) k a0z a0 a1z a1 := by kernel_rfl
theorem laws_eqByteS.s0 (k : Nat) (G : List Fr → St → Option Res) (a0z : Bool) (a0 : List Int) (a1z : Bool) (a1 : List Int) (yx0z : Bool) (yx0 : List Int) (yx1z : Bool) (yx1 : List Int) (yx5 : Int) : resume Try.prog (laws_eqByteS.Cs k) G (finish Try.prog [] Try.f53 [.v (.nums 5 .u8 a0z a0), .v (.nums 5 .u8 a1z a1)]) 100000 laws_eqByteS.K0 (laws_eqByteS.N0 yx0z yx0 yx1z yx1 yx5) = laws_eqByteS.l0b (fun r => some (laws_eqByteS.enc r)) (fun x0z x0 x1z x1 x5 => G laws_eqByteS.K0 (laws_eqByteS.N0 x0z x0 x1z x1 x5)) k yx0z yx0 yx1z yx1 yx5 := by kernel_rfl
theorem laws_eqByteS.b_nat {R R' : Type} (e : R → R') (ret : Bool → Option R) (j0 : Bool → (List Int) → Bool → (List Int) → Int → Option R) (k : Nat) (a0z : Bool) (a0 : List Int) (a1z : Bool) (a1 : List Int) : laws_eqByteS.b (fun r => (ret r).map e) (fun x0z x0 x1z x1 x5 => (j0 x0z x0 x1z x1 x5).map e) k a0z a0 a1z a1 = (laws_eqByteS.b ret j0 k a0z a0 a1z a1).map e := by
  unfold laws_eqByteS.b
  repeat' first | with_reducible refine nat_cond ?_ ?_ | with_reducible refine nat_bind fun _ => ?_ | rfl
theorem laws_eqByteS.l0b_nat {R R' : Type} (e : R → R') (ret : Bool → Option R) (j0 : Bool → (List Int) → Bool → (List Int) → Int → Option R) (k : Nat) (x0z : Bool) (x0 : List Int) (x1z : Bool) (x1 : List Int) (x5 : Int) : laws_eqByteS.l0b (fun r => (ret r).map e) (fun x0z x0 x1z x1 x5 => (j0 x0z x0 x1z x1 x5).map e) k x0z x0 x1z x1 x5 = (laws_eqByteS.l0b ret j0 k x0z x0 x1z x1 x5).map e := by
  unfold laws_eqByteS.l0b
  repeat' first | with_reducible refine nat_cond ?_ ?_ | with_reducible refine nat_bind fun _ => ?_ | rfl
theorem laws_eqByteS.rounds_eq (a0z : Bool) (a0 : List Int) (a1z : Bool) (a1 : List Int) : ∀ k, (∀ (x0z : Bool) (x0 : List Int) (x1z : Bool) (x1 : List Int) (x5 : Int), rounds Try.prog laws_eqByteS.Cs (finish Try.prog [] Try.f53 [.v (.nums 5 .u8 a0z a0), .v (.nums 5 .u8 a1z a1)]) 100000 k laws_eqByteS.K0 (laws_eqByteS.N0 x0z x0 x1z x1 x5) = (laws_eqByteS.l0 k x0z x0 x1z x1 x5).map laws_eqByteS.enc)
  | 0 => fun _ _ _ _ _ => rfl
  | k + 1 => by
    have ih := laws_eqByteS.rounds_eq a0z a0 a1z a1 k
    refine fun _ _ _ _ _ => ?_
    · refine (laws_eqByteS.s0 k _ a0z a0 a1z a1 _ _ _ _ _).trans (Eq.trans ?_ (laws_eqByteS.l0b_nat laws_eqByteS.enc some (laws_eqByteS.l0 k) k _ _ _ _ _))
      simp only [ih, Option.map_some]
theorem laws_eqByteS.eq (k : Nat) (a0z : Bool) (a0 : List Int) (a1z : Bool) (a1 : List Int) : answer Try.prog laws_eqByteS.Cs 100000 laws_eqByteS.cuts [] Try.f53 (k + 1) [.v (.nums 5 .u8 a0z a0), .v (.nums 5 .u8 a1z a1)] = (laws_eqByteS.f (k + 1) a0z a0 a1z a1).map laws_eqByteS.enc := by
  have ih := laws_eqByteS.rounds_eq a0z a0 a1z a1 k
  refine (laws_eqByteS.s k a0z a0 a1z a1).trans (Eq.trans ?_ (laws_eqByteS.b_nat laws_eqByteS.enc some (laws_eqByteS.l0 k) k a0z a0 a1z a1))
  simp only [ih, Option.map_some]
theorem laws_eqByteS.sound (k : Nat) : SoundF Try.prog 53 (fun a => (laws_eqByteS.ans k a).val) := by
  refine sound_plain (fun args res h => ?_) (fun t n => rfl)
  unfold laws_eqByteS.ans at h
  dsimp only at h
  split at h
  · cases k with
    | zero => cases h
    | succ k =>
      unfold Ans.val at h
      rw [← laws_eqByteS.eq] at h
      exact answer_sound mixed Try.func53 _ _ _ (k + 1) (fun j _ => tab_sound (tab_nil)) _ _ h
  · exact (Ans.no_val h).elim

/-! loop.example/g00790/laws.eqByteSS -/
def laws_eqByteSS.b {R : Type} (ret : Bool → Option R) (j0 : Bool → (List T) → Bool → (List T) → Int → Option R) (k : Nat) (a0z : Bool) (a0 : List T) (a1z : Bool) (a1 : List T) : Option R :=
  cond (!(decide (((a0).length : Int) = ((a1).length : Int)))) (ret false) (j0 a0z a0 a1z a1 0)
def laws_eqByteSS.l0b {R : Type} (ret : Bool → Option R) (j0 : Bool → (List T) → Bool → (List T) → Int → Option R) (k : Nat) (x0z : Bool) (x0 : List T) (x1z : Bool) (x1 : List T) (x5 : Int) : Option R :=
  cond (decide (x5 < ((x0).length : Int))) (cond (decide ((0 : Int) ≤ x5)) (cond (decide (x5 < ((x0).length : Int))) (cond (decide ((0 : Int) ≤ x5)) (cond (decide (x5 < ((x1).length : Int))) ((laws_eqByteS.f k (((((x0).getD (x5).toNat .bad).cells.getD 0 .bad)).isNil) (((((x0).getD (x5).toNat .bad).cells.getD 0 .bad)).toNums) (((((x1).getD (x5).toNat .bad).cells.getD 0 .bad)).isNil) (((((x1).getD (x5).toNat .bad).cells.getD 0 .bad)).toNums)).bind fun t0 => cond (!t0) (ret false) (j0 x0z x0 x1z x1 (RowKit.wrap64 (x5 + 1)))) (none)) (none)) (none)) (none)) (ret true)
def laws_eqByteSS.l0 : Nat → Bool → (List T) → Bool → (List T) → Int → Option Bool
  | 0, _, _, _, _, _ => none
  | k + 1, x0z, x0, x1z, x1, x5 => laws_eqByteSS.l0b some (laws_eqByteSS.l0 k) k x0z x0 x1z x1 x5
def laws_eqByteSS.f : Nat → Bool → (List T) → Bool → (List T) → Option Bool
  | 0, _, _, _, _ => none
  | k + 1, a0z, a0, a1z, a1 => laws_eqByteSS.b some (laws_eqByteSS.l0 k) k a0z a0 a1z a1
def laws_eqByteSS.enc (r : Bool) : Res := ⟨[.vals false [((.bool r), true)]], []⟩
def laws_eqByteSS.ans (k : Nat) : List Arg → Ans
  | [.v (.sl 45 a0z a0), .v (.sl 45 a1z a1)] => ⟨laws_eqByteSS.f k a0z a0 a1z a1, laws_eqByteSS.enc⟩
  | _ => Ans.no
def laws_eqByteSS.Cs (k : Nat) : CallSem := tab [(53, laws_eqByteS.ans k)]
def laws_eqByteSS.cuts : List (Nat × Keep) := [(58, ⟨[(0, some []), (1, some []), (5, some [])], []⟩)]
noncomputable def laws_eqByteSS.K0 : List Fr := framesAt [true, true, false, true, false] (bodyOf Try.f110 laws_eqByteSS.cuts) []
def laws_eqByteSS.N0 (x0z : Bool) (x0 : List T) (x1z : Bool) (x1 : List T) (x5 : Int) : St := stOf 27 27 2 [(0, .val ⟨(.sl 45 x0z x0), [], false, none⟩), (1, .val ⟨(.sl 45 x1z x1), [], false, none⟩), (5, .val (V.s (.int .i64 x5)))] []
theorem laws_eqByteSS.s (k : Nat) (a0z : Bool) (a0 : List T) (a1z : Bool) (a1 : List T) : answer Try.prog laws_eqByteSS.Cs 100000 laws_eqByteSS.cuts [] Try.f110 (k + 1) [.v (.sl 45 a0z a0), .v (.sl 45 a1z a1)] = laws_eqByteSS.b (fun r => some (laws_eqByteSS.enc r)) (fun x0z x0 x1z x1 x5 => rounds Try.prog laws_eqByteSS.Cs (finish Try.prog [] Try.f110 [.v (.sl 45 a0z a0), .v (.sl 45 a1z a1)]) 100000 k laws_eqByteSS.K0 (laws_eqByteSS.N0 x0z x0 x1z x1 x5)) k a0z a0 a1z a1 := by kernel_rfl
theorem laws_eqByteSS.s0 (k : Nat) (G : List Fr → St → Option Res) (a0z : Bool) (a0 : List T) (a1z : Bool) (a1 : List T) (yx0z : Bool) (yx0 : List T) (yx1z : Bool) (yx1 : List T) (yx5 : Int) : resume Try.prog (laws_eqByteSS.Cs k) G (finish Try.prog [] Try.f110 [.v (.sl 45 a0z a0), .v (.sl 45 a1z a1)]) 100000 laws_eqByteSS.K0 (laws_eqByteSS.N0 yx0z yx0 yx1z yx1 yx5) = laws_eqByteSS.l0b (fun r => some (laws_eqByteSS.enc r)) (fun x0z x0 x1z x1 x5 => G laws_eqByteSS.K0 (laws_eqByteSS.N0 x0z x0 x1z x1 x5)) k yx0z yx0 yx1z yx1 yx5 := by kernel_rfl
theorem laws_eqByteSS.b_nat {R R' : Type} (e : R → R') (ret : Bool → Option R) (j0 : Bool → (List T) → Bool → (List T) → Int → Option R) (k : Nat) (a0z : Bool) (a0 : List T) (a1z : Bool) (a1 : List T) : laws_eqByteSS.b (fun r => (ret r).map e) (fun x0z x0 x1z x1 x5 => (j0 x0z x0 x1z x1 x5).map e) k a0z a0 a1z a1 = (laws_eqByteSS.b ret j0 k a0z a0 a1z a1).map e := by
  unfold laws_eqByteSS.b
  repeat' first | with_reducible refine nat_cond ?_ ?_ | with_reducible refine nat_bind fun _ => ?_ | rfl
theorem laws_eqByteSS.l0b_nat {R R' : Type} (e : R → R') (ret : Bool → Option R) (j0 : Bool → (List T) → Bool → (List T) → Int → Option R) (k : Nat) (x0z : Bool) (x0 : List T) (x1z : Bool) (x1 : List T) (x5 : Int) : laws_eqByteSS.l0b (fun r => (ret r).map e) (fun x0z x0 x1z x1 x5 => (j0 x0z x0 x1z x1 x5).map e) k x0z x0 x1z x1 x5 = (laws_eqByteSS.l0b ret j0 k x0z x0 x1z x1 x5).map e := by
  unfold laws_eqByteSS.l0b
  repeat' first | with_reducible refine nat_cond ?_ ?_ | with_reducible refine nat_bind fun _ => ?_ | rfl
theorem laws_eqByteSS.rounds_eq (a0z : Bool) (a0 : List T) (a1z : Bool) (a1 : List T) : ∀ k, (∀ (x0z : Bool) (x0 : List T) (x1z : Bool) (x1 : List T) (x5 : Int), rounds Try.prog laws_eqByteSS.Cs (finish Try.prog [] Try.f110 [.v (.sl 45 a0z a0), .v (.sl 45 a1z a1)]) 100000 k laws_eqByteSS.K0 (laws_eqByteSS.N0 x0z x0 x1z x1 x5) = (laws_eqByteSS.l0 k x0z x0 x1z x1 x5).map laws_eqByteSS.enc)
  | 0 => fun _ _ _ _ _ => rfl
  | k + 1 => by
    have ih := laws_eqByteSS.rounds_eq a0z a0 a1z a1 k
    refine fun _ _ _ _ _ => ?_
    · refine (laws_eqByteSS.s0 k _ a0z a0 a1z a1 _ _ _ _ _).trans (Eq.trans ?_ (laws_eqByteSS.l0b_nat laws_eqByteSS.enc some (laws_eqByteSS.l0 k) k _ _ _ _ _))
      simp only [ih, Option.map_some]
theorem laws_eqByteSS.eq (k : Nat) (a0z : Bool) (a0 : List T) (a1z : Bool) (a1 : List T) : answer Try.prog laws_eqByteSS.Cs 100000 laws_eqByteSS.cuts [] Try.f110 (k + 1) [.v (.sl 45 a0z a0), .v (.sl 45 a1z a1)] = (laws_eqByteSS.f (k + 1) a0z a0 a1z a1).map laws_eqByteSS.enc := by
  have ih := laws_eqByteSS.rounds_eq a0z a0 a1z a1 k
  refine (laws_eqByteSS.s k a0z a0 a1z a1).trans (Eq.trans ?_ (laws_eqByteSS.b_nat laws_eqByteSS.enc some (laws_eqByteSS.l0 k) k a0z a0 a1z a1))
  simp only [ih, Option.map_some]
theorem laws_eqByteSS.sound (k : Nat) : SoundF Try.prog 110 (fun a => (laws_eqByteSS.ans k a).val) := by
  refine sound_plain (fun args res h => ?_) (fun t n => rfl)
  unfold laws_eqByteSS.ans at h
  dsimp only at h
  split at h
  · cases k with
    | zero => cases h
    | succ k =>
      unfold Ans.val at h
      rw [← laws_eqByteSS.eq] at h
      exact answer_sound mixed Try.func110 _ _ _ (k + 1) (fun j _ => tab_sound (tab_cons (laws_eqByteS.sound j) (tab_nil))) _ _ h
  · exact (Ans.no_val h).elim

/-! loop.example/g00790/laws.eqQc -/
def laws_eqQc.b {R : Type} (ret : Bool → Option R) (k : Nat) (a0_0 : Int) (a0_1 : Int) (a0_2z : Bool) (a0_2 : List Int) (a0_3z : Bool) (a0_3 : List Int) (a0_4z : Bool) (a0_4 : List T) (a1_0 : Int) (a1_1 : Int) (a1_2z : Bool) (a1_2 : List Int) (a1_3z : Bool) (a1_3 : List Int) (a1_4z : Bool) (a1_4 : List T) : Option R :=
  cond (!(decide (a0_0 = a1_0))) (ret false) (cond (!(decide (a0_1 = a1_1))) (ret false) ((laws_eqByteS.f k a0_2z a0_2 a1_2z a1_2).bind fun t0 => cond (!t0) (ret false) ((laws_eqByteS.f k a0_3z a0_3 a1_3z a1_3).bind fun t1 => cond (!t1) (ret false) ((laws_eqByteSS.f k a0_4z a0_4 a1_4z a1_4).bind fun t2 => cond (!t2) (ret false) (ret true)))))
def laws_eqQc.f : Nat → Int → Int → Bool → (List Int) → Bool → (List Int) → Bool → (List T) → Int → Int → Bool → (List Int) → Bool → (List Int) → Bool → (List T) → Option Bool
  | 0, _, _, _, _, _, _, _, _, _, _, _, _, _, _, _, _ => none
  | k + 1, a0_0, a0_1, a0_2z, a0_2, a0_3z, a0_3, a0_4z, a0_4, a1_0, a1_1, a1_2z, a1_2, a1_3z, a1_3, a1_4z, a1_4 => laws_eqQc.b some k a0_0 a0_1 a0_2z a0_2 a0_3z a0_3 a0_4z a0_4 a1_0 a1_1 a1_2z a1_2 a1_3z a1_3 a1_4z a1_4
def laws_eqQc.enc (r : Bool) : Res := ⟨[.vals false [((.bool r), true)]], []⟩
def laws_eqQc.ans (k : Nat) : List Arg → Ans
  | [.v (.agg [(.int .i64 a0_0), (.int .i64 a0_1), (.nums 5 .u8 a0_2z a0_2), (.nums 5 .u8 a0_3z a0_3), (.sl 45 a0_4z a0_4)]), .v (.agg [(.int .i64 a1_0), (.int .i64 a1_1), (.nums 5 .u8 a1_2z a1_2), (.nums 5 .u8 a1_3z a1_3), (.sl 45 a1_4z a1_4)])] => ⟨laws_eqQc.f k a0_0 a0_1 a0_2z a0_2 a0_3z a0_3 a0_4z a0_4 a1_0 a1_1 a1_2z a1_2 a1_3z a1_3 a1_4z a1_4, laws_eqQc.enc⟩
  | _ => Ans.no
def laws_eqQc.Cs (k : Nat) : CallSem := tab [(53, laws_eqByteS.ans k), (110, laws_eqByteSS.ans k)]
def laws_eqQc.cuts : List (Nat × Keep) := []
theorem laws_eqQc.s (k : Nat) (a0_0 : Int) (a0_1 : Int) (a0_2z : Bool) (a0_2 : List Int) (a0_3z : Bool) (a0_3 : List Int) (a0_4z : Bool) (a0_4 : List T) (a1_0 : Int) (a1_1 : Int) (a1_2z : Bool) (a1_2 : List Int) (a1_3z : Bool) (a1_3 : List Int) (a1_4z : Bool) (a1_4 : List T) : answer Try.prog laws_eqQc.Cs 100000 laws_eqQc.cuts [] Try.f37 (k + 1) [.v (.agg [(.int .i64 a0_0), (.int .i64 a0_1), (.nums 5 .u8 a0_2z a0_2), (.nums 5 .u8 a0_3z a0_3), (.sl 45 a0_4z a0_4)]), .v (.agg [(.int .i64 a1_0), (.int .i64 a1_1), (.nums 5 .u8 a1_2z a1_2), (.nums 5 .u8 a1_3z a1_3), (.sl 45 a1_4z a1_4)])] = laws_eqQc.b (fun r => some (laws_eqQc.enc r)) k a0_0 a0_1 a0_2z a0_2 a0_3z a0_3 a0_4z a0_4 a1_0 a1_1 a1_2z a1_2 a1_3z a1_3 a1_4z a1_4 := by kernel_rfl
theorem laws_eqQc.b_nat {R R' : Type} (e : R → R') (ret : Bool → Option R) (k : Nat) (a0_0 : Int) (a0_1 : Int) (a0_2z : Bool) (a0_2 : List Int) (a0_3z : Bool) (a0_3 : List Int) (a0_4z : Bool) (a0_4 : List T) (a1_0 : Int) (a1_1 : Int) (a1_2z : Bool) (a1_2 : List Int) (a1_3z : Bool) (a1_3 : List Int) (a1_4z : Bool) (a1_4 : List T) : laws_eqQc.b (fun r => (ret r).map e) k a0_0 a0_1 a0_2z a0_2 a0_3z a0_3 a0_4z a0_4 a1_0 a1_1 a1_2z a1_2 a1_3z a1_3 a1_4z a1_4 = (laws_eqQc.b ret k a0_0 a0_1 a0_2z a0_2 a0_3z a0_3 a0_4z a0_4 a1_0 a1_1 a1_2z a1_2 a1_3z a1_3 a1_4z a1_4).map e := by
  unfold laws_eqQc.b
  repeat' first | with_reducible refine nat_cond ?_ ?_ | with_reducible refine nat_bind fun _ => ?_ | rfl
theorem laws_eqQc.eq (k : Nat) (a0_0 : Int) (a0_1 : Int) (a0_2z : Bool) (a0_2 : List Int) (a0_3z : Bool) (a0_3 : List Int) (a0_4z : Bool) (a0_4 : List T) (a1_0 : Int) (a1_1 : Int) (a1_2z : Bool) (a1_2 : List Int) (a1_3z : Bool) (a1_3 : List Int) (a1_4z : Bool) (a1_4 : List T) : answer Try.prog laws_eqQc.Cs 100000 laws_eqQc.cuts [] Try.f37 (k + 1) [.v (.agg [(.int .i64 a0_0), (.int .i64 a0_1), (.nums 5 .u8 a0_2z a0_2), (.nums 5 .u8 a0_3z a0_3), (.sl 45 a0_4z a0_4)]), .v (.agg [(.int .i64 a1_0), (.int .i64 a1_1), (.nums 5 .u8 a1_2z a1_2), (.nums 5 .u8 a1_3z a1_3), (.sl 45 a1_4z a1_4)])] = (laws_eqQc.f (k + 1) a0_0 a0_1 a0_2z a0_2 a0_3z a0_3 a0_4z a0_4 a1_0 a1_1 a1_2z a1_2 a1_3z a1_3 a1_4z a1_4).map laws_eqQc.enc := by
  refine (laws_eqQc.s k a0_0 a0_1 a0_2z a0_2 a0_3z a0_3 a0_4z a0_4 a1_0 a1_1 a1_2z a1_2 a1_3z a1_3 a1_4z a1_4).trans (Eq.trans ?_ (laws_eqQc.b_nat laws_eqQc.enc some k a0_0 a0_1 a0_2z a0_2 a0_3z a0_3 a0_4z a0_4 a1_0 a1_1 a1_2z a1_2 a1_3z a1_3 a1_4z a1_4))
  simp only [Option.map_some]
theorem laws_eqQc.sound (k : Nat) : SoundF Try.prog 37 (fun a => (laws_eqQc.ans k a).val) := by
  refine sound_plain (fun args res h => ?_) (fun t n => rfl)
  unfold laws_eqQc.ans at h
  dsimp only at h
  split at h
  · cases k with
    | zero => cases h
    | succ k =>
      unfold Ans.val at h
      rw [← laws_eqQc.eq] at h
      exact answer_sound mixed Try.func37 _ _ _ (k + 1) (fun j _ => tab_sound (tab_cons (laws_eqByteS.sound j) (tab_cons (laws_eqByteSS.sound j) (tab_nil)))) _ _ h
  · exact (Ans.no_val h).elim

/-! loop.example/g00790/laws.eqRow -/
def laws_eqRow.b {R : Type} (ret : Bool → Option R) (k : Nat) (a0_0 : Int) (a0_1z : Bool) (a0_1 : List Int) (a1_0 : Int) (a1_1z : Bool) (a1_1 : List Int) : Option R :=
  cond (!(decide (a0_0 = a1_0))) (ret false) ((laws_eqByteS.f k a0_1z a0_1 a1_1z a1_1).bind fun t0 => cond (!t0) (ret false) (ret true))
def laws_eqRow.f : Nat → Int → Bool → (List Int) → Int → Bool → (List Int) → Option Bool
  | 0, _, _, _, _, _, _ => none
  | k + 1, a0_0, a0_1z, a0_1, a1_0, a1_1z, a1_1 => laws_eqRow.b some k a0_0 a0_1z a0_1 a1_0 a1_1z a1_1
def laws_eqRow.enc (r : Bool) : Res := ⟨[.vals false [((.bool r), true)]], []⟩
def laws_eqRow.ans (k : Nat) : List Arg → Ans
  | [.v (.agg [(.int .i64 a0_0), (.nums 5 .u8 a0_1z a0_1)]), .v (.agg [(.int .i64 a1_0), (.nums 5 .u8 a1_1z a1_1)])] => ⟨laws_eqRow.f k a0_0 a0_1z a0_1 a1_0 a1_1z a1_1, laws_eqRow.enc⟩
  | _ => Ans.no
def laws_eqRow.Cs (k : Nat) : CallSem := tab [(53, laws_eqByteS.ans k)]
def laws_eqRow.cuts : List (Nat × Keep) := []
theorem laws_eqRow.s (k : Nat) (a0_0 : Int) (a0_1z : Bool) (a0_1 : List Int) (a1_0 : Int) (a1_1z : Bool) (a1_1 : List Int) : answer Try.prog laws_eqRow.Cs 100000 laws_eqRow.cuts [] Try.f176 (k + 1) [.v (.agg [(.int .i64 a0_0), (.nums 5 .u8 a0_1z a0_1)]), .v (.agg [(.int .i64 a1_0), (.nums 5 .u8 a1_1z a1_1)])] = laws_eqRow.b (fun r => some (laws_eqRow.enc r)) k a0_0 a0_1z a0_1 a1_0 a1_1z a1_1 := by kernel_rfl
theorem laws_eqRow.b_nat {R R' : Type} (e : R → R') (ret : Bool → Option R) (k : Nat) (a0_0 : Int) (a0_1z : Bool) (a0_1 : List Int) (a1_0 : Int) (a1_1z : Bool) (a1_1 : List Int) : laws_eqRow.b (fun r => (ret r).map e) k a0_0 a0_1z a0_1 a1_0 a1_1z a1_1 = (laws_eqRow.b ret k a0_0 a0_1z a0_1 a1_0 a1_1z a1_1).map e := by
  unfold laws_eqRow.b
  repeat' first | with_reducible refine nat_cond ?_ ?_ | with_reducible refine nat_bind fun _ => ?_ | rfl
theorem laws_eqRow.eq (k : Nat) (a0_0 : Int) (a0_1z : Bool) (a0_1 : List Int) (a1_0 : Int) (a1_1z : Bool) (a1_1 : List Int) : answer Try.prog laws_eqRow.Cs 100000 laws_eqRow.cuts [] Try.f176 (k + 1) [.v (.agg [(.int .i64 a0_0), (.nums 5 .u8 a0_1z a0_1)]), .v (.agg [(.int .i64 a1_0), (.nums 5 .u8 a1_1z a1_1)])] = (laws_eqRow.f (k + 1) a0_0 a0_1z a0_1 a1_0 a1_1z a1_1).map laws_eqRow.enc := by
  refine (laws_eqRow.s k a0_0 a0_1z a0_1 a1_0 a1_1z a1_1).trans (Eq.trans ?_ (laws_eqRow.b_nat laws_eqRow.enc some k a0_0 a0_1z a0_1 a1_0 a1_1z a1_1))
  simp only [Option.map_some]
theorem laws_eqRow.sound (k : Nat) : SoundF Try.prog 176 (fun a => (laws_eqRow.ans k a).val) := by
  refine sound_plain (fun args res h => ?_) (fun t n => rfl)
  unfold laws_eqRow.ans at h
  dsimp only at h
  split at h
  · cases k with
    | zero => cases h
    | succ k =>
      unfold Ans.val at h
      rw [← laws_eqRow.eq] at h
      exact answer_sound mixed Try.func176 _ _ _ (k + 1) (fun j _ => tab_sound (tab_cons (laws_eqByteS.sound j) (tab_nil))) _ _ h
  · exact (Ans.no_val h).elim

/-! loop.example/g00790/laws.eqRowS -/
def laws_eqRowS.b {R : Type} (ret : Bool → Option R) (j0 : Bool → (List T) → Bool → (List T) → Int → Option R) (k : Nat) (a0z : Bool) (a0 : List T) (a1z : Bool) (a1 : List T) : Option R :=
  cond (!(decide (((a0).length : Int) = ((a1).length : Int)))) (ret false) (j0 a0z a0 a1z a1 0)
def laws_eqRowS.l0b {R : Type} (ret : Bool → Option R) (j0 : Bool → (List T) → Bool → (List T) → Int → Option R) (k : Nat) (x0z : Bool) (x0 : List T) (x1z : Bool) (x1 : List T) (x5 : Int) : Option R :=
  cond (decide (x5 < ((x0).length : Int))) (cond (decide ((0 : Int) ≤ x5)) (cond (decide (x5 < ((x0).length : Int))) (cond (decide ((0 : Int) ≤ x5)) (cond (decide (x5 < ((x1).length : Int))) ((laws_eqRow.f k (((((x0).getD (x5).toNat .bad).cells.getD 0 .bad)).toInt) (((((x0).getD (x5).toNat .bad).cells.getD 1 .bad)).isNil) (((((x0).getD (x5).toNat .bad).cells.getD 1 .bad)).toNums) (((((x1).getD (x5).toNat .bad).cells.getD 0 .bad)).toInt) (((((x1).getD (x5).toNat .bad).cells.getD 1 .bad)).isNil) (((((x1).getD (x5).toNat .bad).cells.getD 1 .bad)).toNums)).bind fun t0 => cond (!t0) (ret false) (j0 x0z x0 x1z x1 (RowKit.wrap64 (x5 + 1)))) (none)) (none)) (none)) (none)) (ret true)
def laws_eqRowS.l0 : Nat → Bool → (List T) → Bool → (List T) → Int → Option Bool
  | 0, _, _, _, _, _ => none
  | k + 1, x0z, x0, x1z, x1, x5 => laws_eqRowS.l0b some (laws_eqRowS.l0 k) k x0z x0 x1z x1 x5
def laws_eqRowS.f : Nat → Bool → (List T) → Bool → (List T) → Option Bool
  | 0, _, _, _, _ => none
  | k + 1, a0z, a0, a1z, a1 => laws_eqRowS.b some (laws_eqRowS.l0 k) k a0z a0 a1z a1
def laws_eqRowS.enc (r : Bool) : Res := ⟨[.vals false [((.bool r), true)]], []⟩
def laws_eqRowS.ans (k : Nat) : List Arg → Ans
  | [.v (.sl 160 a0z a0), .v (.sl 160 a1z a1)] => ⟨laws_eqRowS.f k a0z a0 a1z a1, laws_eqRowS.enc⟩
  | _ => Ans.no
def laws_eqRowS.Cs (k : Nat) : CallSem := tab [(176, laws_eqRow.ans k)]
def laws_eqRowS.cuts : List (Nat × Keep) := [(58, ⟨[(0, some []), (1, some []), (5, some [])], []⟩)]
noncomputable def laws_eqRowS.K0 : List Fr := framesAt [true, true, false, true, false] (bodyOf Try.f109 laws_eqRowS.cuts) []
def laws_eqRowS.N0 (x0z : Bool) (x0 : List T) (x1z : Bool) (x1 : List T) (x5 : Int) : St := stOf 27 27 2 [(0, .val ⟨(.sl 160 x0z x0), [], false, none⟩), (1, .val ⟨(.sl 160 x1z x1), [], false, none⟩), (5, .val (V.s (.int .i64 x5)))] []
theorem laws_eqRowS.s (k : Nat) (a0z : Bool) (a0 : List T) (a1z : Bool) (a1 : List T) : answer Try.prog laws_eqRowS.Cs 100000 laws_eqRowS.cuts [] Try.f109 (k + 1) [.v (.sl 160 a0z a0), .v (.sl 160 a1z a1)] = laws_eqRowS.b (fun r => some (laws_eqRowS.enc r)) (fun x0z x0 x1z x1 x5 => rounds Try.prog laws_eqRowS.Cs (finish Try.prog [] Try.f109 [.v (.sl 160 a0z a0), .v (.sl 160 a1z a1)]) 100000 k laws_eqRowS.K0 (laws_eqRowS.N0 x0z x0 x1z x1 x5)) k a0z a0 a1z a1 := by kernel_rfl
theorem laws_eqRowS.s0 (k : Nat) (G : List Fr → St → Option Res) (a0z : Bool) (a0 : List T) (a1z : Bool) (a1 : List T) (yx0z : Bool) (yx0 : List T) (yx1z : Bool) (yx1 : List T) (yx5 : Int) : resume Try.prog (laws_eqRowS.Cs k) G (finish Try.prog [] Try.f109 [.v (.sl 160 a0z a0), .v (.sl 160 a1z a1)]) 100000 laws_eqRowS.K0 (laws_eqRowS.N0 yx0z yx0 yx1z yx1 yx5) = laws_eqRowS.l0b (fun r => some (laws_eqRowS.enc r)) (fun x0z x0 x1z x1 x5 => G laws_eqRowS.K0 (laws_eqRowS.N0 x0z x0 x1z x1 x5)) k yx0z yx0 yx1z yx1 yx5 := by kernel_rfl
theorem laws_eqRowS.b_nat {R R' : Type} (e : R → R') (ret : Bool → Option R) (j0 : Bool → (List T) → Bool → (List T) → Int → Option R) (k : Nat) (a0z : Bool) (a0 : List T) (a1z : Bool) (a1 : List T) : laws_eqRowS.b (fun r => (ret r).map e) (fun x0z x0 x1z x1 x5 => (j0 x0z x0 x1z x1 x5).map e) k a0z a0 a1z a1 = (laws_eqRowS.b ret j0 k a0z a0 a1z a1).map e := by
  unfold laws_eqRowS.b
  repeat' first | with_reducible refine nat_cond ?_ ?_ | with_reducible refine nat_bind fun _ => ?_ | rfl
theorem laws_eqRowS.l0b_nat {R R' : Type} (e : R → R') (ret : Bool → Option R) (j0 : Bool → (List T) → Bool → (List T) → Int → Option R) (k : Nat) (x0z : Bool) (x0 : List T) (x1z : Bool) (x1 : List T) (x5 : Int) : laws_eqRowS.l0b (fun r => (ret r).map e) (fun x0z x0 x1z x1 x5 => (j0 x0z x0 x1z x1 x5).map e) k x0z x0 x1z x1 x5 = (laws_eqRowS.l0b ret j0 k x0z x0 x1z x1 x5).map e := by
  unfold laws_eqRowS.l0b
  repeat' first | with_reducible refine nat_cond ?_ ?_ | with_reducible refine nat_bind fun _ => ?_ | rfl
theorem laws_eqRowS.rounds_eq (a0z : Bool) (a0 : List T) (a1z : Bool) (a1 : List T) : ∀ k, (∀ (x0z : Bool) (x0 : List T) (x1z : Bool) (x1 : List T) (x5 : Int), rounds Try.prog laws_eqRowS.Cs (finish Try.prog [] Try.f109 [.v (.sl 160 a0z a0), .v (.sl 160 a1z a1)]) 100000 k laws_eqRowS.K0 (laws_eqRowS.N0 x0z x0 x1z x1 x5) = (laws_eqRowS.l0 k x0z x0 x1z x1 x5).map laws_eqRowS.enc)
  | 0 => fun _ _ _ _ _ => rfl
  | k + 1 => by
    have ih := laws_eqRowS.rounds_eq a0z a0 a1z a1 k
    refine fun _ _ _ _ _ => ?_
    · refine (laws_eqRowS.s0 k _ a0z a0 a1z a1 _ _ _ _ _).trans (Eq.trans ?_ (laws_eqRowS.l0b_nat laws_eqRowS.enc some (laws_eqRowS.l0 k) k _ _ _ _ _))
      simp only [ih, Option.map_some]
theorem laws_eqRowS.eq (k : Nat) (a0z : Bool) (a0 : List T) (a1z : Bool) (a1 : List T) : answer Try.prog laws_eqRowS.Cs 100000 laws_eqRowS.cuts [] Try.f109 (k + 1) [.v (.sl 160 a0z a0), .v (.sl 160 a1z a1)] = (laws_eqRowS.f (k + 1) a0z a0 a1z a1).map laws_eqRowS.enc := by
  have ih := laws_eqRowS.rounds_eq a0z a0 a1z a1 k
  refine (laws_eqRowS.s k a0z a0 a1z a1).trans (Eq.trans ?_ (laws_eqRowS.b_nat laws_eqRowS.enc some (laws_eqRowS.l0 k) k a0z a0 a1z a1))
  simp only [ih, Option.map_some]
theorem laws_eqRowS.sound (k : Nat) : SoundF Try.prog 109 (fun a => (laws_eqRowS.ans k a).val) := by
  refine sound_plain (fun args res h => ?_) (fun t n => rfl)
  unfold laws_eqRowS.ans at h
  dsimp only at h
  split at h
  · cases k with
    | zero => cases h
    | succ k =>
      unfold Ans.val at h
      rw [← laws_eqRowS.eq] at h
      exact answer_sound mixed Try.func109 _ _ _ (k + 1) (fun j _ => tab_sound (tab_cons (laws_eqRow.sound j) (tab_nil))) _ _ h
  · exact (Ans.no_val h).elim

/-! loop.example/g00790/laws.eqTable -/
def laws_eqTable.b {R : Type} (ret : Bool → Option R) (k : Nat) (a0_0z : Bool) (a0_0 : List T) (a1_0z : Bool) (a1_0 : List T) : Option R :=
  (laws_eqRowS.f k a0_0z a0_0 a1_0z a1_0).bind fun t0 => cond (!t0) (ret false) (ret true)
def laws_eqTable.f : Nat → Bool → (List T) → Bool → (List T) → Option Bool
  | 0, _, _, _, _ => none
  | k + 1, a0_0z, a0_0, a1_0z, a1_0 => laws_eqTable.b some k a0_0z a0_0 a1_0z a1_0
def laws_eqTable.enc (r : Bool) : Res := ⟨[.vals false [((.bool r), true)]], []⟩
def laws_eqTable.ans (k : Nat) : List Arg → Ans
  | [.v (.agg [(.sl 160 a0_0z a0_0)]), .v (.agg [(.sl 160 a1_0z a1_0)])] => ⟨laws_eqTable.f k a0_0z a0_0 a1_0z a1_0, laws_eqTable.enc⟩
  | _ => Ans.no
def laws_eqTable.Cs (k : Nat) : CallSem := tab [(109, laws_eqRowS.ans k)]
def laws_eqTable.cuts : List (Nat × Keep) := []
theorem laws_eqTable.s (k : Nat) (a0_0z : Bool) (a0_0 : List T) (a1_0z : Bool) (a1_0 : List T) : answer Try.prog laws_eqTable.Cs 100000 laws_eqTable.cuts [] Try.f36 (k + 1) [.v (.agg [(.sl 160 a0_0z a0_0)]), .v (.agg [(.sl 160 a1_0z a1_0)])] = laws_eqTable.b (fun r => some (laws_eqTable.enc r)) k a0_0z a0_0 a1_0z a1_0 := by kernel_rfl
theorem laws_eqTable.b_nat {R R' : Type} (e : R → R') (ret : Bool → Option R) (k : Nat) (a0_0z : Bool) (a0_0 : List T) (a1_0z : Bool) (a1_0 : List T) : laws_eqTable.b (fun r => (ret r).map e) k a0_0z a0_0 a1_0z a1_0 = (laws_eqTable.b ret k a0_0z a0_0 a1_0z a1_0).map e := by
  unfold laws_eqTable.b
  repeat' first | with_reducible refine nat_cond ?_ ?_ | with_reducible refine nat_bind fun _ => ?_ | rfl
theorem laws_eqTable.eq (k : Nat) (a0_0z : Bool) (a0_0 : List T) (a1_0z : Bool) (a1_0 : List T) : answer Try.prog laws_eqTable.Cs 100000 laws_eqTable.cuts [] Try.f36 (k + 1) [.v (.agg [(.sl 160 a0_0z a0_0)]), .v (.agg [(.sl 160 a1_0z a1_0)])] = (laws_eqTable.f (k + 1) a0_0z a0_0 a1_0z a1_0).map laws_eqTable.enc := by
  refine (laws_eqTable.s k a0_0z a0_0 a1_0z a1_0).trans (Eq.trans ?_ (laws_eqTable.b_nat laws_eqTable.enc some k a0_0z a0_0 a1_0z a1_0))
  simp only [Option.map_some]
theorem laws_eqTable.sound (k : Nat) : SoundF Try.prog 36 (fun a => (laws_eqTable.ans k a).val) := by
  refine sound_plain (fun args res h => ?_) (fun t n => rfl)
  unfold laws_eqTable.ans at h
  dsimp only at h
  split at h
  · cases k with
    | zero => cases h
    | succ k =>
      unfold Ans.val at h
      rw [← laws_eqTable.eq] at h
      exact answer_sound mixed Try.func36 _ _ _ (k + 1) (fun j _ => tab_sound (tab_cons (laws_eqRowS.sound j) (tab_nil))) _ _ h
  · exact (Ans.no_val h).elim

/-! loop.example/g00790/laws.markByteS -/
def laws_markByteS.b {R : Type} (ret : Int × Bool × List Int → Option R) (j0 : Bool → (List Int) → Int → Int → Option R) (k : Nat) (a0z : Bool) (a0 : List Int) (a1 : Int) : Option R :=
  j0 a0z a0 a1 0
def laws_markByteS.l0b {R : Type} (ret : Int × Bool × List Int → Option R) (j0 : Bool → (List Int) → Int → Int → Option R) (k : Nat) (x0z : Bool) (x0 : List Int) (x1 : Int) (x5 : Int) : Option R :=
  cond (decide (x5 < ((x0).length : Int))) (cond (decide ((0 : Int) ≤ x5)) (cond (decide (x5 < ((x0).length : Int))) (j0 x0z ((x0).set (x5).toNat ((x1) % 256)) (RowKit.wrap64 (x1 + 1)) (RowKit.wrap64 (x5 + 1))) (none)) (none)) (ret (x1, x0z, x0))
def laws_markByteS.l0 : Nat → Bool → (List Int) → Int → Int → Option (Int × Bool × List Int)
  | 0, _, _, _, _ => none
  | k + 1, x0z, x0, x1, x5 => laws_markByteS.l0b some (laws_markByteS.l0 k) k x0z x0 x1 x5
def laws_markByteS.f : Nat → Bool → (List Int) → Int → Option (Int × Bool × List Int)
  | 0, _, _, _ => none
  | k + 1, a0z, a0, a1 => laws_markByteS.b some (laws_markByteS.l0 k) k a0z a0 a1
def laws_markByteS.enc (r : Int × Bool × List Int) : Res := ⟨[.vals false [((.int .i64 r.1), true)]], [[((.nums 5 .u8 r.2.1 r.2.2), true)]]⟩
def laws_markByteS.ans (k : Nat) : List Arg → Ans
  | [.own (.nums 5 .u8 a0z a0), .v (.int .i64 a1)] => ⟨laws_markByteS.f k a0z a0 a1, laws_markByteS.enc⟩
  | _ => Ans.no
def laws_markByteS.Cs (k : Nat) : CallSem := tab []
def laws_markByteS.cuts : List (Nat × Keep) := [(26, ⟨[(0, none), (1, some []), (5, some [])], []⟩)]
noncomputable def laws_markByteS.K0 : List Fr := framesAt [true, false, true, false] (bodyOf Try.f54 laws_markByteS.cuts) []
def laws_markByteS.N0 (x0z : Bool) (x0 : List Int) (x1 : Int) (x5 : Int) : St := stOf 20 20 2 [(0, .val ⟨(.nums 5 .u8 x0z x0), [.h 0], true, some (.h 0)⟩), (1, .val (V.s (.int .i64 x1))), (5, .val (V.s (.int .i64 x5)))] []
theorem laws_markByteS.s (k : Nat) (a0z : Bool) (a0 : List Int) (a1 : Int) : answerM Try.prog laws_markByteS.Cs 100000 laws_markByteS.cuts Try.f54 (k + 1) [.own (.nums 5 .u8 a0z a0), .v (.int .i64 a1)] = laws_markByteS.b (fun r => some (laws_markByteS.enc r)) (fun x0z x0 x1 x5 => rounds Try.prog laws_markByteS.Cs (finishM Try.prog Try.f54 (.nums 5 .u8 a0z a0)) 100000 k laws_markByteS.K0 (laws_markByteS.N0 x0z x0 x1 x5)) k a0z a0 a1 := by kernel_rfl
theorem laws_markByteS.s0 (k : Nat) (G : List Fr → St → Option Res) (a0z : Bool) (a0 : List Int) (a1 : Int) (yx0z : Bool) (yx0 : List Int) (yx1 : Int) (yx5 : Int) : resume Try.prog (laws_markByteS.Cs k) G (finishM Try.prog Try.f54 (.nums 5 .u8 a0z a0)) 100000 laws_markByteS.K0 (laws_markByteS.N0 yx0z yx0 yx1 yx5) = laws_markByteS.l0b (fun r => some (laws_markByteS.enc r)) (fun x0z x0 x1 x5 => G laws_markByteS.K0 (laws_markByteS.N0 x0z x0 x1 x5)) k yx0z yx0 yx1 yx5 := by kernel_rfl
theorem laws_markByteS.b_nat {R R' : Type} (e : R → R') (ret : Int × Bool × List Int → Option R) (j0 : Bool → (List Int) → Int → Int → Option R) (k : Nat) (a0z : Bool) (a0 : List Int) (a1 : Int) : laws_markByteS.b (fun r => (ret r).map e) (fun x0z x0 x1 x5 => (j0 x0z x0 x1 x5).map e) k a0z a0 a1 = (laws_markByteS.b ret j0 k a0z a0 a1).map e := by
  unfold laws_markByteS.b
  repeat' first | with_reducible refine nat_cond ?_ ?_ | with_reducible refine nat_bind fun _ => ?_ | rfl
theorem laws_markByteS.l0b_nat {R R' : Type} (e : R → R') (ret : Int × Bool × List Int → Option R) (j0 : Bool → (List Int) → Int → Int → Option R) (k : Nat) (x0z : Bool) (x0 : List Int) (x1 : Int) (x5 : Int) : laws_markByteS.l0b (fun r => (ret r).map e) (fun x0z x0 x1 x5 => (j0 x0z x0 x1 x5).map e) k x0z x0 x1 x5 = (laws_markByteS.l0b ret j0 k x0z x0 x1 x5).map e := by
  unfold laws_markByteS.l0b
  repeat' first | with_reducible refine nat_cond ?_ ?_ | with_reducible refine nat_bind fun _ => ?_ | rfl
theorem laws_markByteS.rounds_eq (a0z : Bool) (a0 : List Int) (a1 : Int) : ∀ k, (∀ (x0z : Bool) (x0 : List Int) (x1 : Int) (x5 : Int), rounds Try.prog laws_markByteS.Cs (finishM Try.prog Try.f54 (.nums 5 .u8 a0z a0)) 100000 k laws_markByteS.K0 (laws_markByteS.N0 x0z x0 x1 x5) = (laws_markByteS.l0 k x0z x0 x1 x5).map laws_markByteS.enc)
  | 0 => fun _ _ _ _ => rfl
  | k + 1 => by
    have ih := laws_markByteS.rounds_eq a0z a0 a1 k
    refine fun _ _ _ _ => ?_
    · refine (laws_markByteS.s0 k _ a0z a0 a1 _ _ _ _).trans (Eq.trans ?_ (laws_markByteS.l0b_nat laws_markByteS.enc some (laws_markByteS.l0 k) k _ _ _ _))
      simp only [ih, Option.map_some]
theorem laws_markByteS.eq (k : Nat) (a0z : Bool) (a0 : List Int) (a1 : Int) : answerM Try.prog laws_markByteS.Cs 100000 laws_markByteS.cuts Try.f54 (k + 1) [.own (.nums 5 .u8 a0z a0), .v (.int .i64 a1)] = (laws_markByteS.f (k + 1) a0z a0 a1).map laws_markByteS.enc := by
  have ih := laws_markByteS.rounds_eq a0z a0 a1 k
  refine (laws_markByteS.s k a0z a0 a1).trans (Eq.trans ?_ (laws_markByteS.b_nat laws_markByteS.enc some (laws_markByteS.l0 k) k a0z a0 a1))
  simp only [ih, Option.map_some]
theorem laws_markByteS.sound (k : Nat) : SoundF Try.prog 54 (fun a => (laws_markByteS.ans k a).val) := by
  refine sound_mark (fun args hne => ?_) (fun t n l m h => ?_)
  · unfold laws_markByteS.ans
    split
    · exact (hne _ _ rfl).elim
    · rfl
  unfold laws_markByteS.ans at h
  dsimp only at h
  split at h
  · rename_i heq
    cases heq
    cases k with
    | zero => cases h
    | succ k =>
      unfold Ans.val at h
      rw [← laws_markByteS.eq] at h
      exact answerM_sound (Cs := laws_markByteS.Cs) mixed Try.func54 100000 laws_markByteS.cuts (k + 1) (fun j _ => tab_sound (tab_nil)) _ _ _ _ h
  · exact (Ans.no_val h).elim

/-! loop.example/g00790/laws.markRowS -/
def laws_markRowS.b {R : Type} (ret : Int × Bool × List T → Option R) (j0 : Bool → (List T) → Int → Int → Option R) (k : Nat) (a0z : Bool) (a0 : List T) (a1 : Int) : Option R :=
  j0 a0z a0 a1 0
def laws_markRowS.l0b {R : Type} (ret : Int × Bool × List T → Option R) (j0 : Bool → (List T) → Int → Int → Option R) (k : Nat) (x0z : Bool) (x0 : List T) (x1 : Int) (x5 : Int) : Option R :=
  cond (decide (x5 < ((x0).length : Int))) (cond (decide ((0 : Int) ≤ x5)) (cond (decide (x5 < ((x0).length : Int))) (cond (decide ((0 : Int) ≤ x5)) (cond (decide (x5 < ((((x0).set (x5).toNat (.agg [(.int .i64 x1), (.nums 5 .u8 ((((x0).getD (x5).toNat .bad).cells.getD 1 .bad)).isNil ((((x0).getD (x5).toNat .bad).cells.getD 1 .bad)).toNums)]))).length : Int))) ((laws_markByteS.f k (((((((x0).set (x5).toNat (.agg [(.int .i64 x1), (.nums 5 .u8 ((((x0).getD (x5).toNat .bad).cells.getD 1 .bad)).isNil ((((x0).getD (x5).toNat .bad).cells.getD 1 .bad)).toNums)]))).getD (x5).toNat .bad).cells.getD 1 .bad)).isNil) (((((((x0).set (x5).toNat (.agg [(.int .i64 x1), (.nums 5 .u8 ((((x0).getD (x5).toNat .bad).cells.getD 1 .bad)).isNil ((((x0).getD (x5).toNat .bad).cells.getD 1 .bad)).toNums)]))).getD (x5).toNat .bad).cells.getD 1 .bad)).toNums) (RowKit.wrap64 (x1 + 1))).bind fun t0 => j0 x0z ((((x0).set (x5).toNat (.agg [(.int .i64 x1), (.nums 5 .u8 ((((x0).getD (x5).toNat .bad).cells.getD 1 .bad)).isNil ((((x0).getD (x5).toNat .bad).cells.getD 1 .bad)).toNums)]))).set (x5).toNat (.agg [(.int .i64 ((((((x0).set (x5).toNat (.agg [(.int .i64 x1), (.nums 5 .u8 ((((x0).getD (x5).toNat .bad).cells.getD 1 .bad)).isNil ((((x0).getD (x5).toNat .bad).cells.getD 1 .bad)).toNums)]))).getD (x5).toNat .bad).cells.getD 0 .bad)).toInt), (.nums 5 .u8 t0.2.1 t0.2.2)])) t0.1 (RowKit.wrap64 (x5 + 1))) (none)) (none)) (none)) (none)) (ret (x1, x0z, x0))
def laws_markRowS.l0 : Nat → Bool → (List T) → Int → Int → Option (Int × Bool × List T)
  | 0, _, _, _, _ => none
  | k + 1, x0z, x0, x1, x5 => laws_markRowS.l0b some (laws_markRowS.l0 k) k x0z x0 x1 x5
def laws_markRowS.f : Nat → Bool → (List T) → Int → Option (Int × Bool × List T)
  | 0, _, _, _ => none
  | k + 1, a0z, a0, a1 => laws_markRowS.b some (laws_markRowS.l0 k) k a0z a0 a1
def laws_markRowS.enc (r : Int × Bool × List T) : Res := ⟨[.vals false [((.int .i64 r.1), true)]], [[((.sl 160 r.2.1 r.2.2), true)]]⟩
def laws_markRowS.ans (k : Nat) : List Arg → Ans
  | [.own (.sl 160 a0z a0), .v (.int .i64 a1)] => ⟨laws_markRowS.f k a0z a0 a1, laws_markRowS.enc⟩
  | _ => Ans.no
def laws_markRowS.Cs (k : Nat) : CallSem := tab [(54, laws_markByteS.ans k)]
def laws_markRowS.cuts : List (Nat × Keep) := [(26, ⟨[(0, none), (1, some []), (5, some [])], []⟩)]
noncomputable def laws_markRowS.K0 : List Fr := framesAt [true, false, true, false] (bodyOf Try.f128 laws_markRowS.cuts) []
def laws_markRowS.N0 (x0z : Bool) (x0 : List T) (x1 : Int) (x5 : Int) : St := stOf 27 27 2 [(0, .val ⟨(.sl 160 x0z x0), [.h 0], true, some (.h 0)⟩), (1, .val (V.s (.int .i64 x1))), (5, .val (V.s (.int .i64 x5)))] []
theorem laws_markRowS.s (k : Nat) (a0z : Bool) (a0 : List T) (a1 : Int) : answerM Try.prog laws_markRowS.Cs 100000 laws_markRowS.cuts Try.f128 (k + 1) [.own (.sl 160 a0z a0), .v (.int .i64 a1)] = laws_markRowS.b (fun r => some (laws_markRowS.enc r)) (fun x0z x0 x1 x5 => rounds Try.prog laws_markRowS.Cs (finishM Try.prog Try.f128 (.sl 160 a0z a0)) 100000 k laws_markRowS.K0 (laws_markRowS.N0 x0z x0 x1 x5)) k a0z a0 a1 := by kernel_rfl
theorem laws_markRowS.s0 (k : Nat) (G : List Fr → St → Option Res) (a0z : Bool) (a0 : List T) (a1 : Int) (yx0z : Bool) (yx0 : List T) (yx1 : Int) (yx5 : Int) : resume Try.prog (laws_markRowS.Cs k) G (finishM Try.prog Try.f128 (.sl 160 a0z a0)) 100000 laws_markRowS.K0 (laws_markRowS.N0 yx0z yx0 yx1 yx5) = laws_markRowS.l0b (fun r => some (laws_markRowS.enc r)) (fun x0z x0 x1 x5 => G laws_markRowS.K0 (laws_markRowS.N0 x0z x0 x1 x5)) k yx0z yx0 yx1 yx5 := by kernel_rfl
theorem laws_markRowS.b_nat {R R' : Type} (e : R → R') (ret : Int × Bool × List T → Option R) (j0 : Bool → (List T) → Int → Int → Option R) (k : Nat) (a0z : Bool) (a0 : List T) (a1 : Int) : laws_markRowS.b (fun r => (ret r).map e) (fun x0z x0 x1 x5 => (j0 x0z x0 x1 x5).map e) k a0z a0 a1 = (laws_markRowS.b ret j0 k a0z a0 a1).map e := by
  unfold laws_markRowS.b
  repeat' first | with_reducible refine nat_cond ?_ ?_ | with_reducible refine nat_bind fun _ => ?_ | rfl
theorem laws_markRowS.l0b_nat {R R' : Type} (e : R → R') (ret : Int × Bool × List T → Option R) (j0 : Bool → (List T) → Int → Int → Option R) (k : Nat) (x0z : Bool) (x0 : List T) (x1 : Int) (x5 : Int) : laws_markRowS.l0b (fun r => (ret r).map e) (fun x0z x0 x1 x5 => (j0 x0z x0 x1 x5).map e) k x0z x0 x1 x5 = (laws_markRowS.l0b ret j0 k x0z x0 x1 x5).map e := by
  unfold laws_markRowS.l0b
  repeat' first | with_reducible refine nat_cond ?_ ?_ | with_reducible refine nat_bind fun _ => ?_ | rfl
theorem laws_markRowS.rounds_eq (a0z : Bool) (a0 : List T) (a1 : Int) : ∀ k, (∀ (x0z : Bool) (x0 : List T) (x1 : Int) (x5 : Int), rounds Try.prog laws_markRowS.Cs (finishM Try.prog Try.f128 (.sl 160 a0z a0)) 100000 k laws_markRowS.K0 (laws_markRowS.N0 x0z x0 x1 x5) = (laws_markRowS.l0 k x0z x0 x1 x5).map laws_markRowS.enc)
  | 0 => fun _ _ _ _ => rfl
  | k + 1 => by
    have ih := laws_markRowS.rounds_eq a0z a0 a1 k
    refine fun _ _ _ _ => ?_
    · refine (laws_markRowS.s0 k _ a0z a0 a1 _ _ _ _).trans (Eq.trans ?_ (laws_markRowS.l0b_nat laws_markRowS.enc some (laws_markRowS.l0 k) k _ _ _ _))
      simp only [ih, Option.map_some]
theorem laws_markRowS.eq (k : Nat) (a0z : Bool) (a0 : List T) (a1 : Int) : answerM Try.prog laws_markRowS.Cs 100000 laws_markRowS.cuts Try.f128 (k + 1) [.own (.sl 160 a0z a0), .v (.int .i64 a1)] = (laws_markRowS.f (k + 1) a0z a0 a1).map laws_markRowS.enc := by
  have ih := laws_markRowS.rounds_eq a0z a0 a1 k
  refine (laws_markRowS.s k a0z a0 a1).trans (Eq.trans ?_ (laws_markRowS.b_nat laws_markRowS.enc some (laws_markRowS.l0 k) k a0z a0 a1))
  simp only [ih, Option.map_some]
theorem laws_markRowS.sound (k : Nat) : SoundF Try.prog 128 (fun a => (laws_markRowS.ans k a).val) := by
  refine sound_mark (fun args hne => ?_) (fun t n l m h => ?_)
  · unfold laws_markRowS.ans
    split
    · exact (hne _ _ rfl).elim
    · rfl
  unfold laws_markRowS.ans at h
  dsimp only at h
  split at h
  · rename_i heq
    cases heq
    cases k with
    | zero => cases h
    | succ k =>
      unfold Ans.val at h
      rw [← laws_markRowS.eq] at h
      exact answerM_sound (Cs := laws_markRowS.Cs) mixed Try.func128 100000 laws_markRowS.cuts (k + 1) (fun j _ => tab_sound (tab_cons (laws_markByteS.sound j) (tab_nil))) _ _ _ _ h
  · exact (Ans.no_val h).elim

/-! loop.example/g00790/laws.markTable -/
def laws_markTable.b {R : Type} (ret : Int × Bool × List T → Option R) (k : Nat) (a0_0z : Bool) (a0_0 : List T) (a1 : Int) : Option R :=
  (laws_markRowS.f k a0_0z a0_0 a1).bind fun t0 => ret (t0.1, t0.2.1, t0.2.2)
def laws_markTable.f : Nat → Bool → (List T) → Int → Option (Int × Bool × List T)
  | 0, _, _, _ => none
  | k + 1, a0_0z, a0_0, a1 => laws_markTable.b some k a0_0z a0_0 a1
def laws_markTable.enc (r : Int × Bool × List T) : Res := ⟨[.vals false [((.int .i64 r.1), true)]], [[((.sl 160 r.2.1 r.2.2), true)]]⟩
def laws_markTable.ans (k : Nat) : List Arg → Ans
  | [.own (.agg [(.sl 160 a0_0z a0_0)]), .v (.int .i64 a1)] => ⟨laws_markTable.f k a0_0z a0_0 a1, laws_markTable.enc⟩
  | _ => Ans.no
def laws_markTable.Cs (k : Nat) : CallSem := tab [(128, laws_markRowS.ans k)]
def laws_markTable.cuts : List (Nat × Keep) := []
theorem laws_markTable.s (k : Nat) (a0_0z : Bool) (a0_0 : List T) (a1 : Int) : answerM Try.prog laws_markTable.Cs 100000 laws_markTable.cuts Try.f46 (k + 1) [.own (.agg [(.sl 160 a0_0z a0_0)]), .v (.int .i64 a1)] = laws_markTable.b (fun r => some (laws_markTable.enc r)) k a0_0z a0_0 a1 := by kernel_rfl
theorem laws_markTable.b_nat {R R' : Type} (e : R → R') (ret : Int × Bool × List T → Option R) (k : Nat) (a0_0z : Bool) (a0_0 : List T) (a1 : Int) : laws_markTable.b (fun r => (ret r).map e) k a0_0z a0_0 a1 = (laws_markTable.b ret k a0_0z a0_0 a1).map e := by
  unfold laws_markTable.b
  repeat' first | with_reducible refine nat_cond ?_ ?_ | with_reducible refine nat_bind fun _ => ?_ | rfl
theorem laws_markTable.eq (k : Nat) (a0_0z : Bool) (a0_0 : List T) (a1 : Int) : answerM Try.prog laws_markTable.Cs 100000 laws_markTable.cuts Try.f46 (k + 1) [.own (.agg [(.sl 160 a0_0z a0_0)]), .v (.int .i64 a1)] = (laws_markTable.f (k + 1) a0_0z a0_0 a1).map laws_markTable.enc := by
  refine (laws_markTable.s k a0_0z a0_0 a1).trans (Eq.trans ?_ (laws_markTable.b_nat laws_markTable.enc some k a0_0z a0_0 a1))
  simp only [Option.map_some]
theorem laws_markTable.sound (k : Nat) : SoundF Try.prog 46 (fun a => (laws_markTable.ans k a).val) := by
  refine sound_mark (fun args hne => ?_) (fun t n l m h => ?_)
  · unfold laws_markTable.ans
    split
    · exact (hne _ _ rfl).elim
    · rfl
  unfold laws_markTable.ans at h
  dsimp only at h
  split at h
  · rename_i heq
    cases heq
    cases k with
    | zero => cases h
    | succ k =>
      unfold Ans.val at h
      rw [← laws_markTable.eq] at h
      exact answerM_sound (Cs := laws_markTable.Cs) mixed Try.func46 100000 laws_markTable.cuts (k + 1) (fun j _ => tab_sound (tab_cons (laws_markRowS.sound j) (tab_nil))) _ _ _ _ h
  · exact (Ans.no_val h).elim

/-! loop.example/g00790/laws.markByteSS -/
def laws_markByteSS.b {R : Type} (ret : Int × Bool × List T → Option R) (j0 : Bool → (List T) → Int → Int → Option R) (k : Nat) (a0z : Bool) (a0 : List T) (a1 : Int) : Option R :=
  j0 a0z a0 a1 0
def laws_markByteSS.l0b {R : Type} (ret : Int × Bool × List T → Option R) (j0 : Bool → (List T) → Int → Int → Option R) (k : Nat) (x0z : Bool) (x0 : List T) (x1 : Int) (x5 : Int) : Option R :=
  cond (decide (x5 < ((x0).length : Int))) (cond (decide ((0 : Int) ≤ x5)) (cond (decide (x5 < ((x0).length : Int))) ((laws_markByteS.f k (((((x0).getD (x5).toNat .bad).cells.getD 0 .bad)).isNil) (((((x0).getD (x5).toNat .bad).cells.getD 0 .bad)).toNums) x1).bind fun t0 => j0 x0z ((x0).set (x5).toNat (.nums 5 .u8 t0.2.1 t0.2.2)) t0.1 (RowKit.wrap64 (x5 + 1))) (none)) (none)) (ret (x1, x0z, x0))
def laws_markByteSS.l0 : Nat → Bool → (List T) → Int → Int → Option (Int × Bool × List T)
  | 0, _, _, _, _ => none
  | k + 1, x0z, x0, x1, x5 => laws_markByteSS.l0b some (laws_markByteSS.l0 k) k x0z x0 x1 x5
def laws_markByteSS.f : Nat → Bool → (List T) → Int → Option (Int × Bool × List T)
  | 0, _, _, _ => none
  | k + 1, a0z, a0, a1 => laws_markByteSS.b some (laws_markByteSS.l0 k) k a0z a0 a1
def laws_markByteSS.enc (r : Int × Bool × List T) : Res := ⟨[.vals false [((.int .i64 r.1), true)]], [[((.sl 45 r.2.1 r.2.2), true)]]⟩
def laws_markByteSS.ans (k : Nat) : List Arg → Ans
  | [.own (.sl 45 a0z a0), .v (.int .i64 a1)] => ⟨laws_markByteSS.f k a0z a0 a1, laws_markByteSS.enc⟩
  | _ => Ans.no
def laws_markByteSS.Cs (k : Nat) : CallSem := tab [(54, laws_markByteS.ans k)]
def laws_markByteSS.cuts : List (Nat × Keep) := [(26, ⟨[(0, none), (1, some []), (5, some [])], []⟩)]
noncomputable def laws_markByteSS.K0 : List Fr := framesAt [true, false, true, false] (bodyOf Try.f141 laws_markByteSS.cuts) []
def laws_markByteSS.N0 (x0z : Bool) (x0 : List T) (x1 : Int) (x5 : Int) : St := stOf 19 19 2 [(0, .val ⟨(.sl 45 x0z x0), [.h 0], true, some (.h 0)⟩), (1, .val (V.s (.int .i64 x1))), (5, .val (V.s (.int .i64 x5)))] []
theorem laws_markByteSS.s (k : Nat) (a0z : Bool) (a0 : List T) (a1 : Int) : answerM Try.prog laws_markByteSS.Cs 100000 laws_markByteSS.cuts Try.f141 (k + 1) [.own (.sl 45 a0z a0), .v (.int .i64 a1)] = laws_markByteSS.b (fun r => some (laws_markByteSS.enc r)) (fun x0z x0 x1 x5 => rounds Try.prog laws_markByteSS.Cs (finishM Try.prog Try.f141 (.sl 45 a0z a0)) 100000 k laws_markByteSS.K0 (laws_markByteSS.N0 x0z x0 x1 x5)) k a0z a0 a1 := by kernel_rfl
theorem laws_markByteSS.s0 (k : Nat) (G : List Fr → St → Option Res) (a0z : Bool) (a0 : List T) (a1 : Int) (yx0z : Bool) (yx0 : List T) (yx1 : Int) (yx5 : Int) : resume Try.prog (laws_markByteSS.Cs k) G (finishM Try.prog Try.f141 (.sl 45 a0z a0)) 100000 laws_markByteSS.K0 (laws_markByteSS.N0 yx0z yx0 yx1 yx5) = laws_markByteSS.l0b (fun r => some (laws_markByteSS.enc r)) (fun x0z x0 x1 x5 => G laws_markByteSS.K0 (laws_markByteSS.N0 x0z x0 x1 x5)) k yx0z yx0 yx1 yx5 := by kernel_rfl
theorem laws_markByteSS.b_nat {R R' : Type} (e : R → R') (ret : Int × Bool × List T → Option R) (j0 : Bool → (List T) → Int → Int → Option R) (k : Nat) (a0z : Bool) (a0 : List T) (a1 : Int) : laws_markByteSS.b (fun r => (ret r).map e) (fun x0z x0 x1 x5 => (j0 x0z x0 x1 x5).map e) k a0z a0 a1 = (laws_markByteSS.b ret j0 k a0z a0 a1).map e := by
  unfold laws_markByteSS.b
  repeat' first | with_reducible refine nat_cond ?_ ?_ | with_reducible refine nat_bind fun _ => ?_ | rfl
theorem laws_markByteSS.l0b_nat {R R' : Type} (e : R → R') (ret : Int × Bool × List T → Option R) (j0 : Bool → (List T) → Int → Int → Option R) (k : Nat) (x0z : Bool) (x0 : List T) (x1 : Int) (x5 : Int) : laws_markByteSS.l0b (fun r => (ret r).map e) (fun x0z x0 x1 x5 => (j0 x0z x0 x1 x5).map e) k x0z x0 x1 x5 = (laws_markByteSS.l0b ret j0 k x0z x0 x1 x5).map e := by
  unfold laws_markByteSS.l0b
  repeat' first | with_reducible refine nat_cond ?_ ?_ | with_reducible refine nat_bind fun _ => ?_ | rfl
theorem laws_markByteSS.rounds_eq (a0z : Bool) (a0 : List T) (a1 : Int) : ∀ k, (∀ (x0z : Bool) (x0 : List T) (x1 : Int) (x5 : Int), rounds Try.prog laws_markByteSS.Cs (finishM Try.prog Try.f141 (.sl 45 a0z a0)) 100000 k laws_markByteSS.K0 (laws_markByteSS.N0 x0z x0 x1 x5) = (laws_markByteSS.l0 k x0z x0 x1 x5).map laws_markByteSS.enc)
  | 0 => fun _ _ _ _ => rfl
  | k + 1 => by
    have ih := laws_markByteSS.rounds_eq a0z a0 a1 k
    refine fun _ _ _ _ => ?_
    · refine (laws_markByteSS.s0 k _ a0z a0 a1 _ _ _ _).trans (Eq.trans ?_ (laws_markByteSS.l0b_nat laws_markByteSS.enc some (laws_markByteSS.l0 k) k _ _ _ _))
      simp only [ih, Option.map_some]
theorem laws_markByteSS.eq (k : Nat) (a0z : Bool) (a0 : List T) (a1 : Int) : answerM Try.prog laws_markByteSS.Cs 100000 laws_markByteSS.cuts Try.f141 (k + 1) [.own (.sl 45 a0z a0), .v (.int .i64 a1)] = (laws_markByteSS.f (k + 1) a0z a0 a1).map laws_markByteSS.enc := by
  have ih := laws_markByteSS.rounds_eq a0z a0 a1 k
  refine (laws_markByteSS.s k a0z a0 a1).trans (Eq.trans ?_ (laws_markByteSS.b_nat laws_markByteSS.enc some (laws_markByteSS.l0 k) k a0z a0 a1))
  simp only [ih, Option.map_some]
theorem laws_markByteSS.sound (k : Nat) : SoundF Try.prog 141 (fun a => (laws_markByteSS.ans k a).val) := by
  refine sound_mark (fun args hne => ?_) (fun t n l m h => ?_)
  · unfold laws_markByteSS.ans
    split
    · exact (hne _ _ rfl).elim
    · rfl
  unfold laws_markByteSS.ans at h
  dsimp only at h
  split at h
  · rename_i heq
    cases heq
    cases k with
    | zero => cases h
    | succ k =>
      unfold Ans.val at h
      rw [← laws_markByteSS.eq] at h
      exact answerM_sound (Cs := laws_markByteSS.Cs) mixed Try.func141 100000 laws_markByteSS.cuts (k + 1) (fun j _ => tab_sound (tab_cons (laws_markByteS.sound j) (tab_nil))) _ _ _ _ h
  · exact (Ans.no_val h).elim

/-! loop.example/g00790/laws.markQc -/
def laws_markQc.b {R : Type} (ret : Int × Int × Int × Bool × (List Int) × Bool × (List Int) × Bool × List T → Option R) (k : Nat) (a0_0 : Int) (a0_1 : Int) (a0_2z : Bool) (a0_2 : List Int) (a0_3z : Bool) (a0_3 : List Int) (a0_4z : Bool) (a0_4 : List T) (a1 : Int) : Option R :=
  (laws_markByteS.f k a0_2z a0_2 a1).bind fun t0 => (laws_markByteS.f k a0_3z a0_3 t0.1).bind fun t1 => (laws_markByteSS.f k a0_4z a0_4 t1.1).bind fun t2 => ret (t2.1, a0_0, a0_1, t0.2.1, t0.2.2, t1.2.1, t1.2.2, t2.2.1, t2.2.2)
def laws_markQc.f : Nat → Int → Int → Bool → (List Int) → Bool → (List Int) → Bool → (List T) → Int → Option (Int × Int × Int × Bool × (List Int) × Bool × (List Int) × Bool × List T)
  | 0, _, _, _, _, _, _, _, _, _ => none
  | k + 1, a0_0, a0_1, a0_2z, a0_2, a0_3z, a0_3, a0_4z, a0_4, a1 => laws_markQc.b some k a0_0 a0_1 a0_2z a0_2 a0_3z a0_3 a0_4z a0_4 a1
def laws_markQc.enc (r : Int × Int × Int × Bool × (List Int) × Bool × (List Int) × Bool × List T) : Res := ⟨[.vals false [((.int .i64 r.1), true)]], [[((.int .i64 r.2.1), true), ((.int .i64 r.2.2.1), true), ((.nums 5 .u8 r.2.2.2.1 r.2.2.2.2.1), true), ((.nums 5 .u8 r.2.2.2.2.2.1 r.2.2.2.2.2.2.1), true), ((.sl 45 r.2.2.2.2.2.2.2.1 r.2.2.2.2.2.2.2.2), true)]]⟩
def laws_markQc.ans (k : Nat) : List Arg → Ans
  | [.own (.agg [(.int .i64 a0_0), (.int .i64 a0_1), (.nums 5 .u8 a0_2z a0_2), (.nums 5 .u8 a0_3z a0_3), (.sl 45 a0_4z a0_4)]), .v (.int .i64 a1)] => ⟨laws_markQc.f k a0_0 a0_1 a0_2z a0_2 a0_3z a0_3 a0_4z a0_4 a1, laws_markQc.enc⟩
  | _ => Ans.no
def laws_markQc.Cs (k : Nat) : CallSem := tab [(54, laws_markByteS.ans k), (141, laws_markByteSS.ans k)]
def laws_markQc.cuts : List (Nat × Keep) := []
theorem laws_markQc.s (k : Nat) (a0_0 : Int) (a0_1 : Int) (a0_2z : Bool) (a0_2 : List Int) (a0_3z : Bool) (a0_3 : List Int) (a0_4z : Bool) (a0_4 : List T) (a1 : Int) : answerM Try.prog laws_markQc.Cs 100000 laws_markQc.cuts Try.f62 (k + 1) [.own (.agg [(.int .i64 a0_0), (.int .i64 a0_1), (.nums 5 .u8 a0_2z a0_2), (.nums 5 .u8 a0_3z a0_3), (.sl 45 a0_4z a0_4)]), .v (.int .i64 a1)] = laws_markQc.b (fun r => some (laws_markQc.enc r)) k a0_0 a0_1 a0_2z a0_2 a0_3z a0_3 a0_4z a0_4 a1 := by kernel_rfl
theorem laws_markQc.b_nat {R R' : Type} (e : R → R') (ret : Int × Int × Int × Bool × (List Int) × Bool × (List Int) × Bool × List T → Option R) (k : Nat) (a0_0 : Int) (a0_1 : Int) (a0_2z : Bool) (a0_2 : List Int) (a0_3z : Bool) (a0_3 : List Int) (a0_4z : Bool) (a0_4 : List T) (a1 : Int) : laws_markQc.b (fun r => (ret r).map e) k a0_0 a0_1 a0_2z a0_2 a0_3z a0_3 a0_4z a0_4 a1 = (laws_markQc.b ret k a0_0 a0_1 a0_2z a0_2 a0_3z a0_3 a0_4z a0_4 a1).map e := by
  unfold laws_markQc.b
  repeat' first | with_reducible refine nat_cond ?_ ?_ | with_reducible refine nat_bind fun _ => ?_ | rfl
theorem laws_markQc.eq (k : Nat) (a0_0 : Int) (a0_1 : Int) (a0_2z : Bool) (a0_2 : List Int) (a0_3z : Bool) (a0_3 : List Int) (a0_4z : Bool) (a0_4 : List T) (a1 : Int) : answerM Try.prog laws_markQc.Cs 100000 laws_markQc.cuts Try.f62 (k + 1) [.own (.agg [(.int .i64 a0_0), (.int .i64 a0_1), (.nums 5 .u8 a0_2z a0_2), (.nums 5 .u8 a0_3z a0_3), (.sl 45 a0_4z a0_4)]), .v (.int .i64 a1)] = (laws_markQc.f (k + 1) a0_0 a0_1 a0_2z a0_2 a0_3z a0_3 a0_4z a0_4 a1).map laws_markQc.enc := by
  refine (laws_markQc.s k a0_0 a0_1 a0_2z a0_2 a0_3z a0_3 a0_4z a0_4 a1).trans (Eq.trans ?_ (laws_markQc.b_nat laws_markQc.enc some k a0_0 a0_1 a0_2z a0_2 a0_3z a0_3 a0_4z a0_4 a1))
  simp only [Option.map_some]
theorem laws_markQc.sound (k : Nat) : SoundF Try.prog 62 (fun a => (laws_markQc.ans k a).val) := by
  refine sound_mark (fun args hne => ?_) (fun t n l m h => ?_)
  · unfold laws_markQc.ans
    split
    · exact (hne _ _ rfl).elim
    · rfl
  unfold laws_markQc.ans at h
  dsimp only at h
  split at h
  · rename_i heq
    cases heq
    cases k with
    | zero => cases h
    | succ k =>
      unfold Ans.val at h
      rw [← laws_markQc.eq] at h
      exact answerM_sound (Cs := laws_markQc.Cs) mixed Try.func62 100000 laws_markQc.cuts (k + 1) (fun j _ => tab_sound (tab_cons (laws_markByteS.sound j) (tab_cons (laws_markByteSS.sound j) (tab_nil)))) _ _ _ _ h
  · exact (Ans.no_val h).elim

/-! loop.example/g00790/laws.heldByteS -/
def laws_heldByteS.b {R : Type} (ret : Int → Option R) (j0 : Bool → (List Int) → Int → Int → Option R) (k : Nat) (a0z : Bool) (a0 : List Int) (a1 : Int) : Option R :=
  j0 a0z a0 a1 0
def laws_heldByteS.l0b {R : Type} (ret : Int → Option R) (j0 : Bool → (List Int) → Int → Int → Option R) (k : Nat) (x0z : Bool) (x0 : List Int) (x1 : Int) (x5 : Int) : Option R :=
  cond (decide (x5 < ((x0).length : Int))) (cond (decide ((0 : Int) ≤ x5)) (cond (decide (x5 < ((x0).length : Int))) (cond (!(decide ((rdI x0 x5) = ((x1) % 256)))) (ret (-1)) (j0 x0z x0 (RowKit.wrap64 (x1 + 1)) (RowKit.wrap64 (x5 + 1)))) (none)) (none)) (ret x1)
def laws_heldByteS.l0 : Nat → Bool → (List Int) → Int → Int → Option Int
  | 0, _, _, _, _ => none
  | k + 1, x0z, x0, x1, x5 => laws_heldByteS.l0b some (laws_heldByteS.l0 k) k x0z x0 x1 x5
def laws_heldByteS.f : Nat → Bool → (List Int) → Int → Option Int
  | 0, _, _, _ => none
  | k + 1, a0z, a0, a1 => laws_heldByteS.b some (laws_heldByteS.l0 k) k a0z a0 a1
def laws_heldByteS.enc (r : Int) : Res := ⟨[.vals false [((.int .i64 r), true)]], []⟩
def laws_heldByteS.ans (k : Nat) : List Arg → Ans
  | [.v (.nums 5 .u8 a0z a0), .v (.int .i64 a1)] => ⟨laws_heldByteS.f k a0z a0 a1, laws_heldByteS.enc⟩
  | _ => Ans.no
def laws_heldByteS.Cs (k : Nat) : CallSem := tab []
def laws_heldByteS.cuts : List (Nat × Keep) := [(26, ⟨[(0, some []), (1, some []), (5, some [])], []⟩)]
noncomputable def laws_heldByteS.K0 : List Fr := framesAt [true, false, true, false] (bodyOf Try.f59 laws_heldByteS.cuts) []
def laws_heldByteS.N0 (x0z : Bool) (x0 : List Int) (x1 : Int) (x5 : Int) : St := stOf 22 22 2 [(0, .val ⟨(.nums 5 .u8 x0z x0), [], false, none⟩), (1, .val (V.s (.int .i64 x1))), (5, .val (V.s (.int .i64 x5)))] []
theorem laws_heldByteS.s (k : Nat) (a0z : Bool) (a0 : List Int) (a1 : Int) : answer Try.prog laws_heldByteS.Cs 100000 laws_heldByteS.cuts [] Try.f59 (k + 1) [.v (.nums 5 .u8 a0z a0), .v (.int .i64 a1)] = laws_heldByteS.b (fun r => some (laws_heldByteS.enc r)) (fun x0z x0 x1 x5 => rounds Try.prog laws_heldByteS.Cs (finish Try.prog [] Try.f59 [.v (.nums 5 .u8 a0z a0), .v (.int .i64 a1)]) 100000 k laws_heldByteS.K0 (laws_heldByteS.N0 x0z x0 x1 x5)) k a0z a0 a1 := by kernel_rfl
theorem laws_heldByteS.s0 (k : Nat) (G : List Fr → St → Option Res) (a0z : Bool) (a0 : List Int) (a1 : Int) (yx0z : Bool) (yx0 : List Int) (yx1 : Int) (yx5 : Int) : resume Try.prog (laws_heldByteS.Cs k) G (finish Try.prog [] Try.f59 [.v (.nums 5 .u8 a0z a0), .v (.int .i64 a1)]) 100000 laws_heldByteS.K0 (laws_heldByteS.N0 yx0z yx0 yx1 yx5) = laws_heldByteS.l0b (fun r => some (laws_heldByteS.enc r)) (fun x0z x0 x1 x5 => G laws_heldByteS.K0 (laws_heldByteS.N0 x0z x0 x1 x5)) k yx0z yx0 yx1 yx5 := by kernel_rfl
theorem laws_heldByteS.b_nat {R R' : Type} (e : R → R') (ret : Int → Option R) (j0 : Bool → (List Int) → Int → Int → Option R) (k : Nat) (a0z : Bool) (a0 : List Int) (a1 : Int) : laws_heldByteS.b (fun r => (ret r).map e) (fun x0z x0 x1 x5 => (j0 x0z x0 x1 x5).map e) k a0z a0 a1 = (laws_heldByteS.b ret j0 k a0z a0 a1).map e := by
  unfold laws_heldByteS.b
  repeat' first | with_reducible refine nat_cond ?_ ?_ | with_reducible refine nat_bind fun _ => ?_ | rfl
theorem laws_heldByteS.l0b_nat {R R' : Type} (e : R → R') (ret : Int → Option R) (j0 : Bool → (List Int) → Int → Int → Option R) (k : Nat) (x0z : Bool) (x0 : List Int) (x1 : Int) (x5 : Int) : laws_heldByteS.l0b (fun r => (ret r).map e) (fun x0z x0 x1 x5 => (j0 x0z x0 x1 x5).map e) k x0z x0 x1 x5 = (laws_heldByteS.l0b ret j0 k x0z x0 x1 x5).map e := by
  unfold laws_heldByteS.l0b
  repeat' first | with_reducible refine nat_cond ?_ ?_ | with_reducible refine nat_bind fun _ => ?_ | rfl
theorem laws_heldByteS.rounds_eq (a0z : Bool) (a0 : List Int) (a1 : Int) : ∀ k, (∀ (x0z : Bool) (x0 : List Int) (x1 : Int) (x5 : Int), rounds Try.prog laws_heldByteS.Cs (finish Try.prog [] Try.f59 [.v (.nums 5 .u8 a0z a0), .v (.int .i64 a1)]) 100000 k laws_heldByteS.K0 (laws_heldByteS.N0 x0z x0 x1 x5) = (laws_heldByteS.l0 k x0z x0 x1 x5).map laws_heldByteS.enc)
  | 0 => fun _ _ _ _ => rfl
  | k + 1 => by
    have ih := laws_heldByteS.rounds_eq a0z a0 a1 k
    refine fun _ _ _ _ => ?_
    · refine (laws_heldByteS.s0 k _ a0z a0 a1 _ _ _ _).trans (Eq.trans ?_ (laws_heldByteS.l0b_nat laws_heldByteS.enc some (laws_heldByteS.l0 k) k _ _ _ _))
      simp only [ih, Option.map_some]
theorem laws_heldByteS.eq (k : Nat) (a0z : Bool) (a0 : List Int) (a1 : Int) : answer Try.prog laws_heldByteS.Cs 100000 laws_heldByteS.cuts [] Try.f59 (k + 1) [.v (.nums 5 .u8 a0z a0), .v (.int .i64 a1)] = (laws_heldByteS.f (k + 1) a0z a0 a1).map laws_heldByteS.enc := by
  have ih := laws_heldByteS.rounds_eq a0z a0 a1 k
  refine (laws_heldByteS.s k a0z a0 a1).trans (Eq.trans ?_ (laws_heldByteS.b_nat laws_heldByteS.enc some (laws_heldByteS.l0 k) k a0z a0 a1))
  simp only [ih, Option.map_some]
theorem laws_heldByteS.sound (k : Nat) : SoundF Try.prog 59 (fun a => (laws_heldByteS.ans k a).val) := by
  refine sound_plain (fun args res h => ?_) (fun t n => rfl)
  unfold laws_heldByteS.ans at h
  dsimp only at h
  split at h
  · cases k with
    | zero => cases h
    | succ k =>
      unfold Ans.val at h
      rw [← laws_heldByteS.eq] at h
      exact answer_sound mixed Try.func59 _ _ _ (k + 1) (fun j _ => tab_sound (tab_nil)) _ _ h
  · exact (Ans.no_val h).elim

/-! loop.example/g00790/laws.heldByteSS -/
def laws_heldByteSS.b {R : Type} (ret : Int → Option R) (j0 : Bool → (List T) → Int → Int → Option R) (k : Nat) (a0z : Bool) (a0 : List T) (a1 : Int) : Option R :=
  j0 a0z a0 a1 0
def laws_heldByteSS.l0b {R : Type} (ret : Int → Option R) (j0 : Bool → (List T) → Int → Int → Option R) (k : Nat) (x0z : Bool) (x0 : List T) (x1 : Int) (x5 : Int) : Option R :=
  cond (decide (x5 < ((x0).length : Int))) (cond (decide ((0 : Int) ≤ x5)) (cond (decide (x5 < ((x0).length : Int))) ((laws_heldByteS.f k (((((x0).getD (x5).toNat .bad).cells.getD 0 .bad)).isNil) (((((x0).getD (x5).toNat .bad).cells.getD 0 .bad)).toNums) x1).bind fun t0 => cond (decide (t0 < 0)) (ret (-1)) (j0 x0z x0 t0 (RowKit.wrap64 (x5 + 1)))) (none)) (none)) (ret x1)
def laws_heldByteSS.l0 : Nat → Bool → (List T) → Int → Int → Option Int
  | 0, _, _, _, _ => none
  | k + 1, x0z, x0, x1, x5 => laws_heldByteSS.l0b some (laws_heldByteSS.l0 k) k x0z x0 x1 x5
def laws_heldByteSS.f : Nat → Bool → (List T) → Int → Option Int
  | 0, _, _, _ => none
  | k + 1, a0z, a0, a1 => laws_heldByteSS.b some (laws_heldByteSS.l0 k) k a0z a0 a1
def laws_heldByteSS.enc (r : Int) : Res := ⟨[.vals false [((.int .i64 r), true)]], []⟩
def laws_heldByteSS.ans (k : Nat) : List Arg → Ans
  | [.v (.sl 45 a0z a0), .v (.int .i64 a1)] => ⟨laws_heldByteSS.f k a0z a0 a1, laws_heldByteSS.enc⟩
  | _ => Ans.no
def laws_heldByteSS.Cs (k : Nat) : CallSem := tab [(59, laws_heldByteS.ans k)]
def laws_heldByteSS.cuts : List (Nat × Keep) := [(26, ⟨[(0, some []), (1, some []), (5, some [])], []⟩)]
noncomputable def laws_heldByteSS.K0 : List Fr := framesAt [true, false, true, false] (bodyOf Try.f142 laws_heldByteSS.cuts) []
def laws_heldByteSS.N0 (x0z : Bool) (x0 : List T) (x1 : Int) (x5 : Int) : St := stOf 21 21 2 [(0, .val ⟨(.sl 45 x0z x0), [], false, none⟩), (1, .val (V.s (.int .i64 x1))), (5, .val (V.s (.int .i64 x5)))] []
theorem laws_heldByteSS.s (k : Nat) (a0z : Bool) (a0 : List T) (a1 : Int) : answer Try.prog laws_heldByteSS.Cs 100000 laws_heldByteSS.cuts [] Try.f142 (k + 1) [.v (.sl 45 a0z a0), .v (.int .i64 a1)] = laws_heldByteSS.b (fun r => some (laws_heldByteSS.enc r)) (fun x0z x0 x1 x5 => rounds Try.prog laws_heldByteSS.Cs (finish Try.prog [] Try.f142 [.v (.sl 45 a0z a0), .v (.int .i64 a1)]) 100000 k laws_heldByteSS.K0 (laws_heldByteSS.N0 x0z x0 x1 x5)) k a0z a0 a1 := by kernel_rfl
theorem laws_heldByteSS.s0 (k : Nat) (G : List Fr → St → Option Res) (a0z : Bool) (a0 : List T) (a1 : Int) (yx0z : Bool) (yx0 : List T) (yx1 : Int) (yx5 : Int) : resume Try.prog (laws_heldByteSS.Cs k) G (finish Try.prog [] Try.f142 [.v (.sl 45 a0z a0), .v (.int .i64 a1)]) 100000 laws_heldByteSS.K0 (laws_heldByteSS.N0 yx0z yx0 yx1 yx5) = laws_heldByteSS.l0b (fun r => some (laws_heldByteSS.enc r)) (fun x0z x0 x1 x5 => G laws_heldByteSS.K0 (laws_heldByteSS.N0 x0z x0 x1 x5)) k yx0z yx0 yx1 yx5 := by kernel_rfl
theorem laws_heldByteSS.b_nat {R R' : Type} (e : R → R') (ret : Int → Option R) (j0 : Bool → (List T) → Int → Int → Option R) (k : Nat) (a0z : Bool) (a0 : List T) (a1 : Int) : laws_heldByteSS.b (fun r => (ret r).map e) (fun x0z x0 x1 x5 => (j0 x0z x0 x1 x5).map e) k a0z a0 a1 = (laws_heldByteSS.b ret j0 k a0z a0 a1).map e := by
  unfold laws_heldByteSS.b
  repeat' first | with_reducible refine nat_cond ?_ ?_ | with_reducible refine nat_bind fun _ => ?_ | rfl
theorem laws_heldByteSS.l0b_nat {R R' : Type} (e : R → R') (ret : Int → Option R) (j0 : Bool → (List T) → Int → Int → Option R) (k : Nat) (x0z : Bool) (x0 : List T) (x1 : Int) (x5 : Int) : laws_heldByteSS.l0b (fun r => (ret r).map e) (fun x0z x0 x1 x5 => (j0 x0z x0 x1 x5).map e) k x0z x0 x1 x5 = (laws_heldByteSS.l0b ret j0 k x0z x0 x1 x5).map e := by
  unfold laws_heldByteSS.l0b
  repeat' first | with_reducible refine nat_cond ?_ ?_ | with_reducible refine nat_bind fun _ => ?_ | rfl
theorem laws_heldByteSS.rounds_eq (a0z : Bool) (a0 : List T) (a1 : Int) : ∀ k, (∀ (x0z : Bool) (x0 : List T) (x1 : Int) (x5 : Int), rounds Try.prog laws_heldByteSS.Cs (finish Try.prog [] Try.f142 [.v (.sl 45 a0z a0), .v (.int .i64 a1)]) 100000 k laws_heldByteSS.K0 (laws_heldByteSS.N0 x0z x0 x1 x5) = (laws_heldByteSS.l0 k x0z x0 x1 x5).map laws_heldByteSS.enc)
  | 0 => fun _ _ _ _ => rfl
  | k + 1 => by
    have ih := laws_heldByteSS.rounds_eq a0z a0 a1 k
    refine fun _ _ _ _ => ?_
    · refine (laws_heldByteSS.s0 k _ a0z a0 a1 _ _ _ _).trans (Eq.trans ?_ (laws_heldByteSS.l0b_nat laws_heldByteSS.enc some (laws_heldByteSS.l0 k) k _ _ _ _))
      simp only [ih, Option.map_some]
theorem laws_heldByteSS.eq (k : Nat) (a0z : Bool) (a0 : List T) (a1 : Int) : answer Try.prog laws_heldByteSS.Cs 100000 laws_heldByteSS.cuts [] Try.f142 (k + 1) [.v (.sl 45 a0z a0), .v (.int .i64 a1)] = (laws_heldByteSS.f (k + 1) a0z a0 a1).map laws_heldByteSS.enc := by
  have ih := laws_heldByteSS.rounds_eq a0z a0 a1 k
  refine (laws_heldByteSS.s k a0z a0 a1).trans (Eq.trans ?_ (laws_heldByteSS.b_nat laws_heldByteSS.enc some (laws_heldByteSS.l0 k) k a0z a0 a1))
  simp only [ih, Option.map_some]
theorem laws_heldByteSS.sound (k : Nat) : SoundF Try.prog 142 (fun a => (laws_heldByteSS.ans k a).val) := by
  refine sound_plain (fun args res h => ?_) (fun t n => rfl)
  unfold laws_heldByteSS.ans at h
  dsimp only at h
  split at h
  · cases k with
    | zero => cases h
    | succ k =>
      unfold Ans.val at h
      rw [← laws_heldByteSS.eq] at h
      exact answer_sound mixed Try.func142 _ _ _ (k + 1) (fun j _ => tab_sound (tab_cons (laws_heldByteS.sound j) (tab_nil))) _ _ h
  · exact (Ans.no_val h).elim

/-! loop.example/g00790/laws.heldQc -/
def laws_heldQc.b {R : Type} (ret : Int → Option R) (k : Nat) (a0_0 : Int) (a0_1 : Int) (a0_2z : Bool) (a0_2 : List Int) (a0_3z : Bool) (a0_3 : List Int) (a0_4z : Bool) (a0_4 : List T) (a1 : Int) : Option R :=
  (laws_heldByteS.f k a0_2z a0_2 a1).bind fun t0 => cond (decide (t0 < 0)) (ret (-1)) ((laws_heldByteS.f k a0_3z a0_3 t0).bind fun t1 => cond (decide (t1 < 0)) (ret (-1)) ((laws_heldByteSS.f k a0_4z a0_4 t1).bind fun t2 => cond (decide (t2 < 0)) (ret (-1)) (ret t2)))
def laws_heldQc.f : Nat → Int → Int → Bool → (List Int) → Bool → (List Int) → Bool → (List T) → Int → Option Int
  | 0, _, _, _, _, _, _, _, _, _ => none
  | k + 1, a0_0, a0_1, a0_2z, a0_2, a0_3z, a0_3, a0_4z, a0_4, a1 => laws_heldQc.b some k a0_0 a0_1 a0_2z a0_2 a0_3z a0_3 a0_4z a0_4 a1
def laws_heldQc.enc (r : Int) : Res := ⟨[.vals false [((.int .i64 r), true)]], []⟩
def laws_heldQc.ans (k : Nat) : List Arg → Ans
  | [.v (.agg [(.int .i64 a0_0), (.int .i64 a0_1), (.nums 5 .u8 a0_2z a0_2), (.nums 5 .u8 a0_3z a0_3), (.sl 45 a0_4z a0_4)]), .v (.int .i64 a1)] => ⟨laws_heldQc.f k a0_0 a0_1 a0_2z a0_2 a0_3z a0_3 a0_4z a0_4 a1, laws_heldQc.enc⟩
  | _ => Ans.no
def laws_heldQc.Cs (k : Nat) : CallSem := tab [(59, laws_heldByteS.ans k), (142, laws_heldByteSS.ans k)]
def laws_heldQc.cuts : List (Nat × Keep) := []
theorem laws_heldQc.s (k : Nat) (a0_0 : Int) (a0_1 : Int) (a0_2z : Bool) (a0_2 : List Int) (a0_3z : Bool) (a0_3 : List Int) (a0_4z : Bool) (a0_4 : List T) (a1 : Int) : answer Try.prog laws_heldQc.Cs 100000 laws_heldQc.cuts [] Try.f63 (k + 1) [.v (.agg [(.int .i64 a0_0), (.int .i64 a0_1), (.nums 5 .u8 a0_2z a0_2), (.nums 5 .u8 a0_3z a0_3), (.sl 45 a0_4z a0_4)]), .v (.int .i64 a1)] = laws_heldQc.b (fun r => some (laws_heldQc.enc r)) k a0_0 a0_1 a0_2z a0_2 a0_3z a0_3 a0_4z a0_4 a1 := by kernel_rfl
theorem laws_heldQc.b_nat {R R' : Type} (e : R → R') (ret : Int → Option R) (k : Nat) (a0_0 : Int) (a0_1 : Int) (a0_2z : Bool) (a0_2 : List Int) (a0_3z : Bool) (a0_3 : List Int) (a0_4z : Bool) (a0_4 : List T) (a1 : Int) : laws_heldQc.b (fun r => (ret r).map e) k a0_0 a0_1 a0_2z a0_2 a0_3z a0_3 a0_4z a0_4 a1 = (laws_heldQc.b ret k a0_0 a0_1 a0_2z a0_2 a0_3z a0_3 a0_4z a0_4 a1).map e := by
  unfold laws_heldQc.b
  repeat' first | with_reducible refine nat_cond ?_ ?_ | with_reducible refine nat_bind fun _ => ?_ | rfl
theorem laws_heldQc.eq (k : Nat) (a0_0 : Int) (a0_1 : Int) (a0_2z : Bool) (a0_2 : List Int) (a0_3z : Bool) (a0_3 : List Int) (a0_4z : Bool) (a0_4 : List T) (a1 : Int) : answer Try.prog laws_heldQc.Cs 100000 laws_heldQc.cuts [] Try.f63 (k + 1) [.v (.agg [(.int .i64 a0_0), (.int .i64 a0_1), (.nums 5 .u8 a0_2z a0_2), (.nums 5 .u8 a0_3z a0_3), (.sl 45 a0_4z a0_4)]), .v (.int .i64 a1)] = (laws_heldQc.f (k + 1) a0_0 a0_1 a0_2z a0_2 a0_3z a0_3 a0_4z a0_4 a1).map laws_heldQc.enc := by
  refine (laws_heldQc.s k a0_0 a0_1 a0_2z a0_2 a0_3z a0_3 a0_4z a0_4 a1).trans (Eq.trans ?_ (laws_heldQc.b_nat laws_heldQc.enc some k a0_0 a0_1 a0_2z a0_2 a0_3z a0_3 a0_4z a0_4 a1))
  simp only [Option.map_some]
theorem laws_heldQc.sound (k : Nat) : SoundF Try.prog 63 (fun a => (laws_heldQc.ans k a).val) := by
  refine sound_plain (fun args res h => ?_) (fun t n => rfl)
  unfold laws_heldQc.ans at h
  dsimp only at h
  split at h
  · cases k with
    | zero => cases h
    | succ k =>
      unfold Ans.val at h
      rw [← laws_heldQc.eq] at h
      exact answer_sound mixed Try.func63 _ _ _ (k + 1) (fun j _ => tab_sound (tab_cons (laws_heldByteS.sound j) (tab_cons (laws_heldByteSS.sound j) (tab_nil)))) _ _ h
  · exact (Ans.no_val h).elim

end Go.Proofs.YtadnejogdohfkaaG
