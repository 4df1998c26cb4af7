/- What the functions compute, printed by a program of this repo; each is shown to be what the machine of values answers. No condition. -/
import Derived.Test.YtbpcnodmgphinaaProg
import Derived.KernelRfl
import Derived.Test.YtbpcnodmgphinaaGFnChaind
namespace Go.Proofs.YtbpcnodmgphinaaG
open Go Go.Proofs.YtbpcnodmgphinaaRv Go.Proofs
set_option linter.unusedVariables false
set_option linter.unusedSimpArgs false
def impl_masked.b {R : Type} (ret : Bool × List Int → Option R) (j0 : Int → (List Int) → Bool → (List Int) → Int → Int → Option R) (k : Nat) (a0z : Bool) (a0 : List Int) (a1 : Int) : Option R :=
  j0 a1 ([] : List Int) a0z a0 ((a0).length : Int) 0
def impl_masked.l0b {R : Type} (ret : Bool × List Int → Option R) (j0 : Int → (List Int) → Bool → (List Int) → Int → Int → Option R) (k : Nat) (x1 : Int) (x5 : List Int) (x9z : Bool) (x9 : List Int) (x10 x11 : Int) : Option R :=
  cond (decide (x11 < x10)) (cond (decide ((0 : Int) ≤ x11)) (cond (decide (x11 < ((x9).length : Int))) (cond (decide ((x5).length + 1 < 140737488355328)) (j0 x1 (x5 ++ ([(Go.bits .xor .u8 (rdI x9 x11) x1)] : List Int)) x9z x9 x10 (RowKit.wrap64 (x11 + 1))) (none)) (none)) (none)) (ret (false, x5))
def impl_masked.l0 : Nat → Int → (List Int) → Bool → (List Int) → Int → Int → Option (Bool × List Int)
  | 0, _, _, _, _, _, _ => none
  | k + 1, x1, x5, x9z, x9, x10, x11 => impl_masked.l0b some (impl_masked.l0 k) k x1 x5 x9z x9 x10 x11
def impl_masked.f : Nat → Bool → (List Int) → Int → Option (Bool × List Int)
  | 0, _, _, _ => none
  | k + 1, a0z, a0, a1 => impl_masked.b some (impl_masked.l0 k) k a0z a0 a1
def impl_masked.enc (r : Bool × List Int) : Res := ⟨[.vals false [((.nums 5 .u8 r.1 r.2), true)]], []⟩
def impl_masked.ans (k : Nat) : List Arg → Ans
  | [.v (.nums 5 .u8 a0z a0), .v (.int .u8 a1)] => ⟨impl_masked.f k a0z a0 a1, impl_masked.enc⟩
  | _ => Ans.no
def impl_masked.Cs (k : Nat) : CallSem := tab []
def impl_masked.cuts : List (Nat × Keep) := [(58, ⟨[(1, some []), (5, none), (9, some []), (10, some []), (11, some [])], []⟩)]
noncomputable def impl_masked.K0 : List Fr := framesAt [true, true, false, true, false] (bodyOf Try.f149 impl_masked.cuts) []
def impl_masked.N0 (x1 : Int) (x5 : List Int) (x9z : Bool) (x9 : List Int) (x10 x11 : Int) : St := stOf 23 23 2 [(1, .val (V.s (.int .u8 x1))), (5, .val ⟨(.nums 5 .u8 false x5), [.l 5 0], true, some (.l 5 0)⟩), (9, .val ⟨(.nums 5 .u8 x9z x9), [], false, none⟩), (10, .val (V.s (.int .i64 x10))), (11, .val (V.s (.int .i64 x11)))] []
theorem impl_masked.s0 (k : Nat) (G : List Fr → St → Option Res) (a0z : Bool) (a0 : List Int) (a1 yx1 : Int) (yx5 : List Int) (yx9z : Bool) (yx9 : List Int) (yx10 yx11 : Int) : resume Try.prog (impl_masked.Cs k) G (finish Try.prog [] Try.f149 [.v (.nums 5 .u8 a0z a0), .v (.int .u8 a1)]) 100000 impl_masked.K0 (impl_masked.N0 yx1 yx5 yx9z yx9 yx10 yx11) = impl_masked.l0b (fun r => some (impl_masked.enc r)) (fun x1 x5 x9z x9 x10 x11 => G impl_masked.K0 (impl_masked.N0 x1 x5 x9z x9 x10 x11)) k yx1 yx5 yx9z yx9 yx10 yx11 := by kernel_rfl
theorem impl_masked.bn {R R' : Type} (e : R → R') (ret : Bool × List Int → Option R) (j0 : Int → (List Int) → Bool → (List Int) → Int → Int → Option R) (k : Nat) (a0z : Bool) (a0 : List Int) (a1 : Int) : impl_masked.b (fun r => (ret r).map e) (fun x1 x5 x9z x9 x10 x11 => (j0 x1 x5 x9z x9 x10 x11).map e) k a0z a0 a1 = (impl_masked.b ret j0 k a0z a0 a1).map e := by
  unfold impl_masked.b
  repeat' first | with_reducible refine nat_cond ?_ ?_ | with_reducible refine nat_bind fun _ => ?_ | rfl
theorem impl_masked.l0n {R R' : Type} (e : R → R') (ret : Bool × List Int → Option R) (j0 : Int → (List Int) → Bool → (List Int) → Int → Int → Option R) (k : Nat) (x1 : Int) (x5 : List Int) (x9z : Bool) (x9 : List Int) (x10 x11 : Int) : impl_masked.l0b (fun r => (ret r).map e) (fun x1 x5 x9z x9 x10 x11 => (j0 x1 x5 x9z x9 x10 x11).map e) k x1 x5 x9z x9 x10 x11 = (impl_masked.l0b ret j0 k x1 x5 x9z x9 x10 x11).map e := by
  unfold impl_masked.l0b
  repeat' first | with_reducible refine nat_cond ?_ ?_ | with_reducible refine nat_bind fun _ => ?_ | rfl
theorem impl_masked.rq (a0z : Bool) (a0 : List Int) (a1 : Int) : ∀ k, (∀ (x1 : Int) (x5 : List Int) (x9z : Bool) (x9 : List Int) (x10 x11 : Int), rounds Try.prog impl_masked.Cs (finish Try.prog [] Try.f149 [.v (.nums 5 .u8 a0z a0), .v (.int .u8 a1)]) 100000 k impl_masked.K0 (impl_masked.N0 x1 x5 x9z x9 x10 x11) = (impl_masked.l0 k x1 x5 x9z x9 x10 x11).map impl_masked.enc)
  | 0 => fun _ _ _ _ _ _ => rfl
  | k + 1 => by
    have ih := impl_masked.rq a0z a0 a1 k
    refine fun _ _ _ _ _ _ => ?_
    · refine (impl_masked.s0 k _ a0z a0 a1 _ _ _ _ _ _).trans (Eq.trans ?_ (impl_masked.l0n impl_masked.enc some (impl_masked.l0 k) k _ _ _ _ _ _))
      simp only [ih, Option.map_some]
theorem impl_masked.eq (k : Nat) (a0z : Bool) (a0 : List Int) (a1 : Int) : answer Try.prog impl_masked.Cs 100000 impl_masked.cuts [] Try.f149 (k + 1) [.v (.nums 5 .u8 a0z a0), .v (.int .u8 a1)] = (impl_masked.f (k + 1) a0z a0 a1).map impl_masked.enc := by
  have ih := impl_masked.rq a0z a0 a1 k
  refine Eq.trans (b := impl_masked.b (fun r => some (impl_masked.enc r)) (fun x1 x5 x9z x9 x10 x11 => rounds Try.prog impl_masked.Cs (finish Try.prog [] Try.f149 [.v (.nums 5 .u8 a0z a0), .v (.int .u8 a1)]) 100000 k impl_masked.K0 (impl_masked.N0 x1 x5 x9z x9 x10 x11)) k a0z a0 a1) (by kernel_rfl) (Eq.trans ?_ (impl_masked.bn impl_masked.enc some (impl_masked.l0 k) k a0z a0 a1))
  simp only [ih, Option.map_some]
theorem impl_masked.sound (k : Nat) : SoundF Try.prog 149 (fun a => (impl_masked.ans k a).val) := by
  refine sound_plain (fun args res h => ?_) (fun t n => rfl)
  unfold impl_masked.ans at h
  dsimp only at h
  split at h
  · cases k with
    | zero => cases h
    | succ k =>
      unfold Ans.val at h
      rw [← impl_masked.eq] at h
      exact answer_sound mixed Try.func149 _ _ _ (k + 1) (fun j _ => tab_sound (tab_nil)) _ _ h
  · exact (Ans.no_val h).elim

def impl_Mac.b {R : Type} (ret : Bool × List Int → Option R) (k : Nat) (a0z : Bool) (a0 : List Int) (a1z : Bool) (a1 : List Int) : Option R :=
  (impl_MacKey.f k a0z a0).bind fun t0 => (impl_masked.f k t0.1 t0.2 92).bind fun t1 => (impl_masked.f k t0.1 t0.2 54).bind fun t2 => cond (decide ((t2.2).length + (a1).length < 140737488355328)) ((impl_Sha.f k ((a1).isEmpty && t2.1) (t2.2 ++ a1)).bind fun t3 => cond (decide ((t1.2).length + (t3.2).length < 140737488355328)) ((impl_Sha.f k ((t3.2).isEmpty && t1.1) (t1.2 ++ t3.2)).bind fun t4 => ret (t4.1, t4.2)) (none)) (none)
def impl_Mac.f : Nat → Bool → (List Int) → Bool → (List Int) → Option (Bool × List Int)
  | 0, _, _, _, _ => none
  | k + 1, a0z, a0, a1z, a1 => impl_Mac.b some k a0z a0 a1z a1
def impl_Mac.enc (r : Bool × List Int) : Res := ⟨[.vals false [((.nums 5 .u8 r.1 r.2), true)]], []⟩
def impl_Mac.ans (k : Nat) : List Arg → Ans
  | [.v (.nums 5 .u8 a0z a0), .v (.nums 5 .u8 a1z a1)] => ⟨impl_Mac.f k a0z a0 a1z a1, impl_Mac.enc⟩
  | _ => Ans.no
def impl_Mac.Cs (k : Nat) : CallSem := tab [(104, impl_Sha.ans k), (148, impl_MacKey.ans k), (149, impl_masked.ans k)]
theorem impl_Mac.eq (k : Nat) (a0z : Bool) (a0 : List Int) (a1z : Bool) (a1 : List Int) : answer Try.prog impl_Mac.Cs 100000 [] [] Try.f81 (k + 1) [.v (.nums 5 .u8 a0z a0), .v (.nums 5 .u8 a1z a1)] = (impl_Mac.f (k + 1) a0z a0 a1z a1).map impl_Mac.enc := by
  refine Eq.trans (b := impl_Mac.b (fun r => some (impl_Mac.enc r)) k a0z a0 a1z a1) (by kernel_rfl) ?_
  show _ = (impl_Mac.b some k a0z a0 a1z a1).map impl_Mac.enc
  unfold impl_Mac.b
  repeat' first | with_reducible refine nat_cond ?_ ?_ | with_reducible refine nat_bind fun _ => ?_ | rfl
theorem impl_Mac.sound (k : Nat) : SoundF Try.prog 81 (fun a => (impl_Mac.ans k a).val) := by
  refine sound_plain (fun args res h => ?_) (fun t n => rfl)
  unfold impl_Mac.ans at h
  dsimp only at h
  split at h
  · cases k with
    | zero => cases h
    | succ k =>
      unfold Ans.val at h
      rw [← impl_Mac.eq] at h
      exact answer_sound mixed Try.func81 _ _ _ (k + 1) (fun j _ => tab_sound (tab_cons (impl_Sha.sound j) (tab_cons (impl_MacKey.sound j) (tab_cons (impl_masked.sound j) (tab_nil))))) _ _ h
  · exact (Ans.no_val h).elim

def impl_SignVote.b {R : Type} (ret : Int × Int × Bool × (List Int) × Int × Bool × (List Int) × Bool → Option R) (k : Nat) (a0_0z : Bool) (a0_0 : List T) (a1 a2 : Int) (a3z : Bool) (a3 : List Int) (a4 : Int) : Option R :=
  (impl_VoteBytes.f k a1 a2 a3z a3).bind fun t0 => (impl_TableOk.f k a0_0z a0_0).bind fun t1 => cond (!t1) (ret (0, 0, true, ([] : List Int), 0, true, ([] : List Int), false)) (cond t0.1 (ret (0, 0, true, ([] : List Int), 0, true, ([] : List Int), false)) ((impl_within.f k a4 0 (RowKit.wrap64 (((a0_0).length : Int) - 1))).bind fun t2 => cond (!t2) (ret (0, 0, true, ([] : List Int), 0, true, ([] : List Int), false)) ((impl_copyBytes.f k a3z a3).bind fun t3 => cond (decide ((0 : Int) ≤ a4)) (cond (decide (a4 < ((a0_0).length : Int))) ((impl_Mac.f k (((((a0_0).getD (a4).toNat .bad).cells.getD 1 .bad)).isNil) (((((a0_0).getD (a4).toNat .bad).cells.getD 1 .bad)).toNums) t0.1 t0.2).bind fun t4 => ret (a1, a2, t3.1, t3.2, a4, t4.1, t4.2, true)) (none)) (none))))
def impl_SignVote.f : Nat → Bool → (List T) → Int → Int → Bool → (List Int) → Int → Option (Int × Int × Bool × (List Int) × Int × Bool × (List Int) × Bool)
  | 0, _, _, _, _, _, _, _ => none
  | k + 1, a0_0z, a0_0, a1, a2, a3z, a3, a4 => impl_SignVote.b some k a0_0z a0_0 a1 a2 a3z a3 a4
def impl_SignVote.enc (r : Int × Int × Bool × (List Int) × Int × Bool × (List Int) × Bool) : Res := ⟨[.vals true [((.int .i64 r.1), true), ((.int .i64 r.2.1), true), ((.nums 5 .u8 r.2.2.1 r.2.2.2.1), true), ((.int .i64 r.2.2.2.2.1), true), ((.nums 5 .u8 r.2.2.2.2.2.1 r.2.2.2.2.2.2.1), true)], .vals false [((.bool r.2.2.2.2.2.2.2), true)]], []⟩
def impl_SignVote.ans (k : Nat) : List Arg → Ans
  | [.v (.agg [(.sl 44 a0_0z a0_0)]), .v (.int .i64 a1), .v (.int .i64 a2), .v (.nums 5 .u8 a3z a3), .v (.int .i64 a4)] => ⟨impl_SignVote.f k a0_0z a0_0 a1 a2 a3z a3 a4, impl_SignVote.enc⟩
  | _ => Ans.no
def impl_SignVote.Cs (k : Nat) : CallSem := tab [(79, impl_within.ans k), (80, impl_copyBytes.ans k), (78, impl_TableOk.ans k), (20, impl_VoteBytes.ans k), (81, impl_Mac.ans k)]
theorem impl_SignVote.eq (k : Nat) (a0_0z : Bool) (a0_0 : List T) (a1 a2 : Int) (a3z : Bool) (a3 : List Int) (a4 : Int) : answer Try.prog impl_SignVote.Cs 100000 [] [] Try.f15 (k + 1) [.v (.agg [(.sl 44 a0_0z a0_0)]), .v (.int .i64 a1), .v (.int .i64 a2), .v (.nums 5 .u8 a3z a3), .v (.int .i64 a4)] = (impl_SignVote.f (k + 1) a0_0z a0_0 a1 a2 a3z a3 a4).map impl_SignVote.enc := by
  refine Eq.trans (b := impl_SignVote.b (fun r => some (impl_SignVote.enc r)) k a0_0z a0_0 a1 a2 a3z a3 a4) (by kernel_rfl) ?_
  show _ = (impl_SignVote.b some k a0_0z a0_0 a1 a2 a3z a3 a4).map impl_SignVote.enc
  unfold impl_SignVote.b
  repeat' first | with_reducible refine nat_cond ?_ ?_ | with_reducible refine nat_bind fun _ => ?_ | rfl
theorem impl_SignVote.sound (k : Nat) : SoundF Try.prog 15 (fun a => (impl_SignVote.ans k a).val) := by
  refine sound_plain (fun args res h => ?_) (fun t n => rfl)
  unfold impl_SignVote.ans at h
  dsimp only at h
  split at h
  · cases k with
    | zero => cases h
    | succ k =>
      unfold Ans.val at h
      rw [← impl_SignVote.eq] at h
      exact answer_sound mixed Try.func15 _ _ _ (k + 1) (fun j _ => tab_sound (tab_cons (impl_within.sound j) (tab_cons (impl_copyBytes.sound j) (tab_cons (impl_TableOk.sound j) (tab_cons (impl_VoteBytes.sound j) (tab_cons (impl_Mac.sound j) (tab_nil))))))) _ _ h
  · exact (Ans.no_val h).elim

def impl_VoteSame.b {R : Type} (ret : Bool → Option R) (k : Nat) (a0_0 a0_1 : Int) (a0_2z : Bool) (a0_2 : List Int) (a0_3 : Int) (a0_4z : Bool) (a0_4 : List Int) (a1_0 a1_1 : Int) (a1_2z : Bool) (a1_2 : List Int) (a1_3 : Int) (a1_4z : Bool) (a1_4 : List Int) : Option R :=
  cond (decide (a0_0 = a1_0)) (cond (decide (a0_1 = a1_1)) (cond (decide (a0_3 = a1_3)) ((impl_SameBytes.f k a0_2z a0_2 a1_2z a1_2).bind fun t0 => cond t0 ((impl_SameBytes.f k a0_4z a0_4 a1_4z a1_4).bind fun t1 => ret t1) (ret false)) (ret false)) (ret false)) (ret false)
def impl_VoteSame.f : Nat → Int → Int → Bool → (List Int) → Int → Bool → (List Int) → Int → Int → Bool → (List Int) → Int → Bool → (List Int) → Option Bool
  | 0, _, _, _, _, _, _, _, _, _, _, _, _, _, _ => none
  | k + 1, a0_0, a0_1, a0_2z, a0_2, a0_3, a0_4z, a0_4, a1_0, a1_1, a1_2z, a1_2, a1_3, a1_4z, a1_4 => impl_VoteSame.b some k a0_0 a0_1 a0_2z a0_2 a0_3 a0_4z a0_4 a1_0 a1_1 a1_2z a1_2 a1_3 a1_4z a1_4
def impl_VoteSame.enc (r : Bool) : Res := ⟨[.vals false [((.bool r), true)]], []⟩
def impl_VoteSame.ans (k : Nat) : List Arg → Ans
  | [.v (.agg [(.int .i64 a0_0), (.int .i64 a0_1), (.nums 5 .u8 a0_2z a0_2), (.int .i64 a0_3), (.nums 5 .u8 a0_4z a0_4)]), .v (.agg [(.int .i64 a1_0), (.int .i64 a1_1), (.nums 5 .u8 a1_2z a1_2), (.int .i64 a1_3), (.nums 5 .u8 a1_4z a1_4)])] => ⟨impl_VoteSame.f k a0_0 a0_1 a0_2z a0_2 a0_3 a0_4z a0_4 a1_0 a1_1 a1_2z a1_2 a1_3 a1_4z a1_4, impl_VoteSame.enc⟩
  | _ => Ans.no
def impl_VoteSame.Cs (k : Nat) : CallSem := tab [(32, impl_SameBytes.ans k)]
theorem impl_VoteSame.eq (k : Nat) (a0_0 a0_1 : Int) (a0_2z : Bool) (a0_2 : List Int) (a0_3 : Int) (a0_4z : Bool) (a0_4 : List Int) (a1_0 a1_1 : Int) (a1_2z : Bool) (a1_2 : List Int) (a1_3 : Int) (a1_4z : Bool) (a1_4 : List Int) : answer Try.prog impl_VoteSame.Cs 100000 [] [] Try.f82 (k + 1) [.v (.agg [(.int .i64 a0_0), (.int .i64 a0_1), (.nums 5 .u8 a0_2z a0_2), (.int .i64 a0_3), (.nums 5 .u8 a0_4z a0_4)]), .v (.agg [(.int .i64 a1_0), (.int .i64 a1_1), (.nums 5 .u8 a1_2z a1_2), (.int .i64 a1_3), (.nums 5 .u8 a1_4z a1_4)])] = (impl_VoteSame.f (k + 1) a0_0 a0_1 a0_2z a0_2 a0_3 a0_4z a0_4 a1_0 a1_1 a1_2z a1_2 a1_3 a1_4z a1_4).map impl_VoteSame.enc := by
  refine Eq.trans (b := impl_VoteSame.b (fun r => some (impl_VoteSame.enc r)) k a0_0 a0_1 a0_2z a0_2 a0_3 a0_4z a0_4 a1_0 a1_1 a1_2z a1_2 a1_3 a1_4z a1_4) (by kernel_rfl) ?_
  show _ = (impl_VoteSame.b some k a0_0 a0_1 a0_2z a0_2 a0_3 a0_4z a0_4 a1_0 a1_1 a1_2z a1_2 a1_3 a1_4z a1_4).map impl_VoteSame.enc
  unfold impl_VoteSame.b
  repeat' first | with_reducible refine nat_cond ?_ ?_ | with_reducible refine nat_bind fun _ => ?_ | rfl
theorem impl_VoteSame.sound (k : Nat) : SoundF Try.prog 82 (fun a => (impl_VoteSame.ans k a).val) := by
  refine sound_plain (fun args res h => ?_) (fun t n => rfl)
  unfold impl_VoteSame.ans at h
  dsimp only at h
  split at h
  · cases k with
    | zero => cases h
    | succ k =>
      unfold Ans.val at h
      rw [← impl_VoteSame.eq] at h
      exact answer_sound mixed Try.func82 _ _ _ (k + 1) (fun j _ => tab_sound (tab_cons (impl_SameBytes.sound j) (tab_nil))) _ _ h
  · exact (Ans.no_val h).elim

def impl_VoteGood.b {R : Type} (ret : Bool → Option R) (k : Nat) (a0_0z : Bool) (a0_0 : List T) (a1_0 a1_1 : Int) (a1_2z : Bool) (a1_2 : List Int) (a1_3 : Int) (a1_4z : Bool) (a1_4 : List Int) : Option R :=
  (impl_SignVote.f k a0_0z a0_0 a1_0 a1_1 a1_2z a1_2 a1_3).bind fun t0 => cond t0.2.2.2.2.2.2.2 ((impl_VoteSame.f k t0.1 t0.2.1 t0.2.2.1 t0.2.2.2.1 t0.2.2.2.2.1 t0.2.2.2.2.2.1 t0.2.2.2.2.2.2.1 a1_0 a1_1 a1_2z a1_2 a1_3 a1_4z a1_4).bind fun t1 => ret t1) (ret false)
def impl_VoteGood.f : Nat → Bool → (List T) → Int → Int → Bool → (List Int) → Int → Bool → (List Int) → Option Bool
  | 0, _, _, _, _, _, _, _, _, _ => none
  | k + 1, a0_0z, a0_0, a1_0, a1_1, a1_2z, a1_2, a1_3, a1_4z, a1_4 => impl_VoteGood.b some k a0_0z a0_0 a1_0 a1_1 a1_2z a1_2 a1_3 a1_4z a1_4
def impl_VoteGood.enc (r : Bool) : Res := ⟨[.vals false [((.bool r), true)]], []⟩
def impl_VoteGood.ans (k : Nat) : List Arg → Ans
  | [.v (.agg [(.sl 44 a0_0z a0_0)]), .v (.agg [(.int .i64 a1_0), (.int .i64 a1_1), (.nums 5 .u8 a1_2z a1_2), (.int .i64 a1_3), (.nums 5 .u8 a1_4z a1_4)])] => ⟨impl_VoteGood.f k a0_0z a0_0 a1_0 a1_1 a1_2z a1_2 a1_3 a1_4z a1_4, impl_VoteGood.enc⟩
  | _ => Ans.no
def impl_VoteGood.Cs (k : Nat) : CallSem := tab [(15, impl_SignVote.ans k), (82, impl_VoteSame.ans k)]
theorem impl_VoteGood.eq (k : Nat) (a0_0z : Bool) (a0_0 : List T) (a1_0 a1_1 : Int) (a1_2z : Bool) (a1_2 : List Int) (a1_3 : Int) (a1_4z : Bool) (a1_4 : List Int) : answer Try.prog impl_VoteGood.Cs 100000 [] [] Try.f17 (k + 1) [.v (.agg [(.sl 44 a0_0z a0_0)]), .v (.agg [(.int .i64 a1_0), (.int .i64 a1_1), (.nums 5 .u8 a1_2z a1_2), (.int .i64 a1_3), (.nums 5 .u8 a1_4z a1_4)])] = (impl_VoteGood.f (k + 1) a0_0z a0_0 a1_0 a1_1 a1_2z a1_2 a1_3 a1_4z a1_4).map impl_VoteGood.enc := by
  refine Eq.trans (b := impl_VoteGood.b (fun r => some (impl_VoteGood.enc r)) k a0_0z a0_0 a1_0 a1_1 a1_2z a1_2 a1_3 a1_4z a1_4) (by kernel_rfl) ?_
  show _ = (impl_VoteGood.b some k a0_0z a0_0 a1_0 a1_1 a1_2z a1_2 a1_3 a1_4z a1_4).map impl_VoteGood.enc
  unfold impl_VoteGood.b
  repeat' first | with_reducible refine nat_cond ?_ ?_ | with_reducible refine nat_bind fun _ => ?_ | rfl
theorem impl_VoteGood.sound (k : Nat) : SoundF Try.prog 17 (fun a => (impl_VoteGood.ans k a).val) := by
  refine sound_plain (fun args res h => ?_) (fun t n => rfl)
  unfold impl_VoteGood.ans at h
  dsimp only at h
  split at h
  · cases k with
    | zero => cases h
    | succ k =>
      unfold Ans.val at h
      rw [← impl_VoteGood.eq] at h
      exact answer_sound mixed Try.func17 _ _ _ (k + 1) (fun j _ => tab_sound (tab_cons (impl_SignVote.sound j) (tab_cons (impl_VoteSame.sound j) (tab_nil)))) _ _ h
  · exact (Ans.no_val h).elim

def impl_WeightOf.b {R : Type} (ret : Int → Option R) (j0 : Int → Bool → (List Int) → Int → Int → Bool → (List T) → Option R) (k : Nat) (a0_0z : Bool) (a0_0 : List T) (a1z : Bool) (a1 : List Int) : Option R :=
  (impl_TableOk.f k a0_0z a0_0).bind fun t0 => cond (!t0) (ret 0) ((impl_BitsOk.f k a1z a1 ((a0_0).length : Int)).bind fun t1 => cond (!t1) (ret 0) ((impl_BitsList.f k a1z a1).bind fun t2 => j0 0 t2.1 t2.2 ((t2.2).length : Int) 0 a0_0z a0_0))
def impl_WeightOf.l0b {R : Type} (ret : Int → Option R) (j0 : Int → Bool → (List Int) → Int → Int → Bool → (List T) → Option R) (k : Nat) (x5 : Int) (x20z : Bool) (x20 : List Int) (x21 x22 : Int) (c2_0z : Bool) (c2_0 : List T) : Option R :=
  cond (decide (x22 < x21)) (cond (decide ((0 : Int) ≤ x22)) (cond (decide (x22 < ((x20).length : Int))) (cond (decide ((0 : Int) ≤ (rdI x20 x22))) (cond (decide ((rdI x20 x22) < ((c2_0).length : Int))) (j0 (RowKit.wrap64 (x5 + ((((c2_0).getD ((rdI x20 x22)).toNat .bad).cells.getD 0 .bad)).toInt)) x20z x20 x21 (RowKit.wrap64 (x22 + 1)) c2_0z c2_0) (none)) (none)) (none)) (none)) (ret x5)
def impl_WeightOf.l0 : Nat → Int → Bool → (List Int) → Int → Int → Bool → (List T) → Option Int
  | 0, _, _, _, _, _, _, _ => none
  | k + 1, x5, x20z, x20, x21, x22, c2_0z, c2_0 => impl_WeightOf.l0b some (impl_WeightOf.l0 k) k x5 x20z x20 x21 x22 c2_0z c2_0
def impl_WeightOf.f : Nat → Bool → (List T) → Bool → (List Int) → Option Int
  | 0, _, _, _, _ => none
  | k + 1, a0_0z, a0_0, a1z, a1 => impl_WeightOf.b some (impl_WeightOf.l0 k) k a0_0z a0_0 a1z a1
def impl_WeightOf.enc (r : Int) : Res := ⟨[.vals false [((.int .i64 r), true)]], []⟩
def impl_WeightOf.ans (k : Nat) : List Arg → Ans
  | [.v (.agg [(.sl 44 a0_0z a0_0)]), .v (.nums 5 .u8 a1z a1)] => ⟨impl_WeightOf.f k a0_0z a0_0 a1z a1, impl_WeightOf.enc⟩
  | _ => Ans.no
def impl_WeightOf.Cs (k : Nat) : CallSem := tab [(88, impl_BitsOk.ans k), (89, impl_BitsList.ans k), (78, impl_TableOk.ans k)]
def impl_WeightOf.cuts : List (Nat × Keep) := [(122, ⟨[(2, some []), (5, some []), (20, none), (21, some []), (22, some [])], [(2, [some []])]⟩)]
noncomputable def impl_WeightOf.K0 : List Fr := framesAt [true, true, true, false, true, false] (bodyOf Try.f49 impl_WeightOf.cuts) []
def impl_WeightOf.N0 (x5 : Int) (x20z : Bool) (x20 : List Int) (x21 x22 : Int) (c2_0z : Bool) (c2_0 : List T) : St := stOf 36 36 2 [(2, .bp 2 0), (5, .val (V.s (.int .i64 x5))), (20, .val ⟨(.nums 3 .i64 x20z x20), [.l 20 0], true, some (.l 20 0)⟩), (21, .val (V.s (.int .i64 x21))), (22, .val (V.s (.int .i64 x22)))] [(2, .cells [⟨(.sl 44 c2_0z c2_0), [], false, none⟩])]
theorem impl_WeightOf.s0 (k : Nat) (G : List Fr → St → Option Res) (a0_0z : Bool) (a0_0 : List T) (a1z : Bool) (a1 : List Int) (yx5 : Int) (yx20z : Bool) (yx20 : List Int) (yx21 yx22 : Int) (yc2_0z : Bool) (yc2_0 : List T) : resume Try.prog (impl_WeightOf.Cs k) G (finish Try.prog [] Try.f49 [.v (.agg [(.sl 44 a0_0z a0_0)]), .v (.nums 5 .u8 a1z a1)]) 100000 impl_WeightOf.K0 (impl_WeightOf.N0 yx5 yx20z yx20 yx21 yx22 yc2_0z yc2_0) = impl_WeightOf.l0b (fun r => some (impl_WeightOf.enc r)) (fun x5 x20z x20 x21 x22 c2_0z c2_0 => G impl_WeightOf.K0 (impl_WeightOf.N0 x5 x20z x20 x21 x22 c2_0z c2_0)) k yx5 yx20z yx20 yx21 yx22 yc2_0z yc2_0 := by kernel_rfl
theorem impl_WeightOf.bn {R R' : Type} (e : R → R') (ret : Int → Option R) (j0 : Int → Bool → (List Int) → Int → Int → Bool → (List T) → Option R) (k : Nat) (a0_0z : Bool) (a0_0 : List T) (a1z : Bool) (a1 : List Int) : impl_WeightOf.b (fun r => (ret r).map e) (fun x5 x20z x20 x21 x22 c2_0z c2_0 => (j0 x5 x20z x20 x21 x22 c2_0z c2_0).map e) k a0_0z a0_0 a1z a1 = (impl_WeightOf.b ret j0 k a0_0z a0_0 a1z a1).map e := by
  unfold impl_WeightOf.b
  repeat' first | with_reducible refine nat_cond ?_ ?_ | with_reducible refine nat_bind fun _ => ?_ | rfl
theorem impl_WeightOf.l0n {R R' : Type} (e : R → R') (ret : Int → Option R) (j0 : Int → Bool → (List Int) → Int → Int → Bool → (List T) → Option R) (k : Nat) (x5 : Int) (x20z : Bool) (x20 : List Int) (x21 x22 : Int) (c2_0z : Bool) (c2_0 : List T) : impl_WeightOf.l0b (fun r => (ret r).map e) (fun x5 x20z x20 x21 x22 c2_0z c2_0 => (j0 x5 x20z x20 x21 x22 c2_0z c2_0).map e) k x5 x20z x20 x21 x22 c2_0z c2_0 = (impl_WeightOf.l0b ret j0 k x5 x20z x20 x21 x22 c2_0z c2_0).map e := by
  unfold impl_WeightOf.l0b
  repeat' first | with_reducible refine nat_cond ?_ ?_ | with_reducible refine nat_bind fun _ => ?_ | rfl
theorem impl_WeightOf.rq (a0_0z : Bool) (a0_0 : List T) (a1z : Bool) (a1 : List Int) : ∀ k, (∀ (x5 : Int) (x20z : Bool) (x20 : List Int) (x21 x22 : Int) (c2_0z : Bool) (c2_0 : List T), rounds Try.prog impl_WeightOf.Cs (finish Try.prog [] Try.f49 [.v (.agg [(.sl 44 a0_0z a0_0)]), .v (.nums 5 .u8 a1z a1)]) 100000 k impl_WeightOf.K0 (impl_WeightOf.N0 x5 x20z x20 x21 x22 c2_0z c2_0) = (impl_WeightOf.l0 k x5 x20z x20 x21 x22 c2_0z c2_0).map impl_WeightOf.enc)
  | 0 => fun _ _ _ _ _ _ _ => rfl
  | k + 1 => by
    have ih := impl_WeightOf.rq a0_0z a0_0 a1z a1 k
    refine fun _ _ _ _ _ _ _ => ?_
    · refine (impl_WeightOf.s0 k _ a0_0z a0_0 a1z a1 _ _ _ _ _ _ _).trans (Eq.trans ?_ (impl_WeightOf.l0n impl_WeightOf.enc some (impl_WeightOf.l0 k) k _ _ _ _ _ _ _))
      simp only [ih, Option.map_some]
theorem impl_WeightOf.eq (k : Nat) (a0_0z : Bool) (a0_0 : List T) (a1z : Bool) (a1 : List Int) : answer Try.prog impl_WeightOf.Cs 100000 impl_WeightOf.cuts [] Try.f49 (k + 1) [.v (.agg [(.sl 44 a0_0z a0_0)]), .v (.nums 5 .u8 a1z a1)] = (impl_WeightOf.f (k + 1) a0_0z a0_0 a1z a1).map impl_WeightOf.enc := by
  have ih := impl_WeightOf.rq a0_0z a0_0 a1z a1 k
  refine Eq.trans (b := impl_WeightOf.b (fun r => some (impl_WeightOf.enc r)) (fun x5 x20z x20 x21 x22 c2_0z c2_0 => rounds Try.prog impl_WeightOf.Cs (finish Try.prog [] Try.f49 [.v (.agg [(.sl 44 a0_0z a0_0)]), .v (.nums 5 .u8 a1z a1)]) 100000 k impl_WeightOf.K0 (impl_WeightOf.N0 x5 x20z x20 x21 x22 c2_0z c2_0)) k a0_0z a0_0 a1z a1) (by kernel_rfl) (Eq.trans ?_ (impl_WeightOf.bn impl_WeightOf.enc some (impl_WeightOf.l0 k) k a0_0z a0_0 a1z a1))
  simp only [ih, Option.map_some]
theorem impl_WeightOf.sound (k : Nat) : SoundF Try.prog 49 (fun a => (impl_WeightOf.ans k a).val) := by
  refine sound_plain (fun args res h => ?_) (fun t n => rfl)
  unfold impl_WeightOf.ans at h
  dsimp only at h
  split at h
  · cases k with
    | zero => cases h
    | succ k =>
      unfold Ans.val at h
      rw [← impl_WeightOf.eq] at h
      exact answer_sound mixed Try.func49 _ _ _ (k + 1) (fun j _ => tab_sound (tab_cons (impl_BitsOk.sound j) (tab_cons (impl_BitsList.sound j) (tab_cons (impl_TableOk.sound j) (tab_nil))))) _ _ h
  · exact (Ans.no_val h).elim

def impl_TotalOf.b {R : Type} (ret : Int → Option R) (j0 : Int → Bool → (List T) → Int → Int → Bool → (List T) → Option R) (k : Nat) (a0_0z : Bool) (a0_0 : List T) : Option R :=
  j0 0 a0_0z a0_0 ((a0_0).length : Int) 0 a0_0z a0_0
def impl_TotalOf.l0b {R : Type} (ret : Int → Option R) (j0 : Int → Bool → (List T) → Int → Int → Bool → (List T) → Option R) (k : Nat) (x3 : Int) (x7z : Bool) (x7 : List T) (x8 x9 : Int) (c1_0z : Bool) (c1_0 : List T) : Option R :=
  cond (decide (x9 < x8)) (cond (decide ((0 : Int) ≤ x9)) (cond (decide (x9 < ((x7).length : Int))) ((impl_TableOk.f k c1_0z c1_0).bind fun t0 => cond t0 (j0 (RowKit.wrap64 (x3 + ((((x7).getD (x9).toNat .bad).cells.getD 0 .bad)).toInt)) x7z x7 x8 (RowKit.wrap64 (x9 + 1)) c1_0z c1_0) (j0 x3 x7z x7 x8 (RowKit.wrap64 (x9 + 1)) c1_0z c1_0)) (none)) (none)) (ret x3)
def impl_TotalOf.l0 : Nat → Int → Bool → (List T) → Int → Int → Bool → (List T) → Option Int
  | 0, _, _, _, _, _, _, _ => none
  | k + 1, x3, x7z, x7, x8, x9, c1_0z, c1_0 => impl_TotalOf.l0b some (impl_TotalOf.l0 k) k x3 x7z x7 x8 x9 c1_0z c1_0
def impl_TotalOf.f : Nat → Bool → (List T) → Option Int
  | 0, _, _ => none
  | k + 1, a0_0z, a0_0 => impl_TotalOf.b some (impl_TotalOf.l0 k) k a0_0z a0_0
def impl_TotalOf.enc (r : Int) : Res := ⟨[.vals false [((.int .i64 r), true)]], []⟩
def impl_TotalOf.ans (k : Nat) : List Arg → Ans
  | [.v (.agg [(.sl 44 a0_0z a0_0)])] => ⟨impl_TotalOf.f k a0_0z a0_0, impl_TotalOf.enc⟩
  | _ => Ans.no
def impl_TotalOf.Cs (k : Nat) : CallSem := tab [(78, impl_TableOk.ans k)]
def impl_TotalOf.cuts : List (Nat × Keep) := [(58, ⟨[(1, some []), (3, some []), (7, some []), (8, some []), (9, some [])], [(1, [some []])]⟩)]
noncomputable def impl_TotalOf.K0 : List Fr := framesAt [true, true, false, true, false] (bodyOf Try.f50 impl_TotalOf.cuts) []
def impl_TotalOf.N0 (x3 : Int) (x7z : Bool) (x7 : List T) (x8 x9 : Int) (c1_0z : Bool) (c1_0 : List T) : St := stOf 21 21 1 [(1, .bp 1 0), (3, .val (V.s (.int .i64 x3))), (7, .val ⟨(.sl 44 x7z x7), [], false, none⟩), (8, .val (V.s (.int .i64 x8))), (9, .val (V.s (.int .i64 x9)))] [(1, .cells [⟨(.sl 44 c1_0z c1_0), [], false, none⟩])]
theorem impl_TotalOf.s0 (k : Nat) (G : List Fr → St → Option Res) (a0_0z : Bool) (a0_0 : List T) (yx3 : Int) (yx7z : Bool) (yx7 : List T) (yx8 yx9 : Int) (yc1_0z : Bool) (yc1_0 : List T) : resume Try.prog (impl_TotalOf.Cs k) G (finish Try.prog [] Try.f50 [.v (.agg [(.sl 44 a0_0z a0_0)])]) 100000 impl_TotalOf.K0 (impl_TotalOf.N0 yx3 yx7z yx7 yx8 yx9 yc1_0z yc1_0) = impl_TotalOf.l0b (fun r => some (impl_TotalOf.enc r)) (fun x3 x7z x7 x8 x9 c1_0z c1_0 => G impl_TotalOf.K0 (impl_TotalOf.N0 x3 x7z x7 x8 x9 c1_0z c1_0)) k yx3 yx7z yx7 yx8 yx9 yc1_0z yc1_0 := by kernel_rfl
theorem impl_TotalOf.bn {R R' : Type} (e : R → R') (ret : Int → Option R) (j0 : Int → Bool → (List T) → Int → Int → Bool → (List T) → Option R) (k : Nat) (a0_0z : Bool) (a0_0 : List T) : impl_TotalOf.b (fun r => (ret r).map e) (fun x3 x7z x7 x8 x9 c1_0z c1_0 => (j0 x3 x7z x7 x8 x9 c1_0z c1_0).map e) k a0_0z a0_0 = (impl_TotalOf.b ret j0 k a0_0z a0_0).map e := by
  unfold impl_TotalOf.b
  repeat' first | with_reducible refine nat_cond ?_ ?_ | with_reducible refine nat_bind fun _ => ?_ | rfl
theorem impl_TotalOf.l0n {R R' : Type} (e : R → R') (ret : Int → Option R) (j0 : Int → Bool → (List T) → Int → Int → Bool → (List T) → Option R) (k : Nat) (x3 : Int) (x7z : Bool) (x7 : List T) (x8 x9 : Int) (c1_0z : Bool) (c1_0 : List T) : impl_TotalOf.l0b (fun r => (ret r).map e) (fun x3 x7z x7 x8 x9 c1_0z c1_0 => (j0 x3 x7z x7 x8 x9 c1_0z c1_0).map e) k x3 x7z x7 x8 x9 c1_0z c1_0 = (impl_TotalOf.l0b ret j0 k x3 x7z x7 x8 x9 c1_0z c1_0).map e := by
  unfold impl_TotalOf.l0b
  repeat' first | with_reducible refine nat_cond ?_ ?_ | with_reducible refine nat_bind fun _ => ?_ | rfl
theorem impl_TotalOf.rq (a0_0z : Bool) (a0_0 : List T) : ∀ k, (∀ (x3 : Int) (x7z : Bool) (x7 : List T) (x8 x9 : Int) (c1_0z : Bool) (c1_0 : List T), rounds Try.prog impl_TotalOf.Cs (finish Try.prog [] Try.f50 [.v (.agg [(.sl 44 a0_0z a0_0)])]) 100000 k impl_TotalOf.K0 (impl_TotalOf.N0 x3 x7z x7 x8 x9 c1_0z c1_0) = (impl_TotalOf.l0 k x3 x7z x7 x8 x9 c1_0z c1_0).map impl_TotalOf.enc)
  | 0 => fun _ _ _ _ _ _ _ => rfl
  | k + 1 => by
    have ih := impl_TotalOf.rq a0_0z a0_0 k
    refine fun _ _ _ _ _ _ _ => ?_
    · refine (impl_TotalOf.s0 k _ a0_0z a0_0 _ _ _ _ _ _ _).trans (Eq.trans ?_ (impl_TotalOf.l0n impl_TotalOf.enc some (impl_TotalOf.l0 k) k _ _ _ _ _ _ _))
      simp only [ih, Option.map_some]
theorem impl_TotalOf.eq (k : Nat) (a0_0z : Bool) (a0_0 : List T) : answer Try.prog impl_TotalOf.Cs 100000 impl_TotalOf.cuts [] Try.f50 (k + 1) [.v (.agg [(.sl 44 a0_0z a0_0)])] = (impl_TotalOf.f (k + 1) a0_0z a0_0).map impl_TotalOf.enc := by
  have ih := impl_TotalOf.rq a0_0z a0_0 k
  refine Eq.trans (b := impl_TotalOf.b (fun r => some (impl_TotalOf.enc r)) (fun x3 x7z x7 x8 x9 c1_0z c1_0 => rounds Try.prog impl_TotalOf.Cs (finish Try.prog [] Try.f50 [.v (.agg [(.sl 44 a0_0z a0_0)])]) 100000 k impl_TotalOf.K0 (impl_TotalOf.N0 x3 x7z x7 x8 x9 c1_0z c1_0)) k a0_0z a0_0) (by kernel_rfl) (Eq.trans ?_ (impl_TotalOf.bn impl_TotalOf.enc some (impl_TotalOf.l0 k) k a0_0z a0_0))
  simp only [ih, Option.map_some]
theorem impl_TotalOf.sound (k : Nat) : SoundF Try.prog 50 (fun a => (impl_TotalOf.ans k a).val) := by
  refine sound_plain (fun args res h => ?_) (fun t n => rfl)
  unfold impl_TotalOf.ans at h
  dsimp only at h
  split at h
  · cases k with
    | zero => cases h
    | succ k =>
      unfold Ans.val at h
      rw [← impl_TotalOf.eq] at h
      exact answer_sound mixed Try.func50 _ _ _ (k + 1) (fun j _ => tab_sound (tab_cons (impl_TableOk.sound j) (tab_nil))) _ _ h
  · exact (Ans.no_val h).elim

def impl_IsQuorum.b {R : Type} (ret : Bool → Option R) (k : Nat) (a0_0z : Bool) (a0_0 : List T) (a1z : Bool) (a1 : List Int) : Option R :=
  (impl_TableOk.f k a0_0z a0_0).bind fun t0 => cond t0 ((impl_WeightOf.f k a0_0z a0_0 a1z a1).bind fun t1 => (impl_TotalOf.f k a0_0z a0_0).bind fun t2 => ret (decide ((RowKit.wrap64 ((3 : Int) * t1)) > (RowKit.wrap64 ((2 : Int) * t2))))) (ret false)
def impl_IsQuorum.f : Nat → Bool → (List T) → Bool → (List Int) → Option Bool
  | 0, _, _, _, _ => none
  | k + 1, a0_0z, a0_0, a1z, a1 => impl_IsQuorum.b some k a0_0z a0_0 a1z a1
def impl_IsQuorum.enc (r : Bool) : Res := ⟨[.vals false [((.bool r), true)]], []⟩
def impl_IsQuorum.ans (k : Nat) : List Arg → Ans
  | [.v (.agg [(.sl 44 a0_0z a0_0)]), .v (.nums 5 .u8 a1z a1)] => ⟨impl_IsQuorum.f k a0_0z a0_0 a1z a1, impl_IsQuorum.enc⟩
  | _ => Ans.no
def impl_IsQuorum.Cs (k : Nat) : CallSem := tab [(78, impl_TableOk.ans k), (49, impl_WeightOf.ans k), (50, impl_TotalOf.ans k)]
theorem impl_IsQuorum.eq (k : Nat) (a0_0z : Bool) (a0_0 : List T) (a1z : Bool) (a1 : List Int) : answer Try.prog impl_IsQuorum.Cs 100000 [] [] Try.f31 (k + 1) [.v (.agg [(.sl 44 a0_0z a0_0)]), .v (.nums 5 .u8 a1z a1)] = (impl_IsQuorum.f (k + 1) a0_0z a0_0 a1z a1).map impl_IsQuorum.enc := by
  refine Eq.trans (b := impl_IsQuorum.b (fun r => some (impl_IsQuorum.enc r)) k a0_0z a0_0 a1z a1) (by kernel_rfl) ?_
  show _ = (impl_IsQuorum.b some k a0_0z a0_0 a1z a1).map impl_IsQuorum.enc
  unfold impl_IsQuorum.b
  repeat' first | with_reducible refine nat_cond ?_ ?_ | with_reducible refine nat_bind fun _ => ?_ | rfl
theorem impl_IsQuorum.sound (k : Nat) : SoundF Try.prog 31 (fun a => (impl_IsQuorum.ans k a).val) := by
  refine sound_plain (fun args res h => ?_) (fun t n => rfl)
  unfold impl_IsQuorum.ans at h
  dsimp only at h
  split at h
  · cases k with
    | zero => cases h
    | succ k =>
      unfold Ans.val at h
      rw [← impl_IsQuorum.eq] at h
      exact answer_sound mixed Try.func31 _ _ _ (k + 1) (fun j _ => tab_sound (tab_cons (impl_TableOk.sound j) (tab_cons (impl_WeightOf.sound j) (tab_cons (impl_TotalOf.sound j) (tab_nil))))) _ _ h
  · exact (Ans.no_val h).elim

def impl_QcCode.b {R : Type} (ret : Int → Option R) (j0 : Bool → (List T) → Int → Int → Bool → (List T) → Int → Int → Bool → (List Int) → Bool → (List Int) → Bool → (List T) → Option R) (k : Nat) (a0_0 a0_1 : Int) (a0_2 a0_3 a0_4 : Int) (a1_0z : Bool) (a1_0 : List T) (a2_0 a2_1 : Int) (a2_2z : Bool) (a2_2 : List Int) (a2_3z : Bool) (a2_3 : List Int) (a2_4z : Bool) (a2_4 : List T) : Option R :=
  (impl_belongs.f k a0_0 a0_1 a0_2 a0_3 a0_4 a1_0z a1_0).bind fun t0 => cond (!t0) (ret 1) ((impl_QcOk.f k a0_0 a0_1 a0_2 a0_3 a0_4 a2_0 a2_1 a2_2z a2_2 a2_3z a2_3 a2_4z a2_4).bind fun t1 => cond (!t1) (ret 1) ((impl_QcVotes.f k a2_0 a2_1 a2_2z a2_2 a2_3z a2_3 a2_4z a2_4).bind fun t2 => j0 t2.1 t2.2 ((t2.2).length : Int) 0 a1_0z a1_0 a2_0 a2_1 a2_2z a2_2 a2_3z a2_3 a2_4z a2_4))
def impl_QcCode.l0b {R : Type} (ret : Int → Option R) (j0 : Bool → (List T) → Int → Int → Bool → (List T) → Int → Int → Bool → (List Int) → Bool → (List Int) → Bool → (List T) → Option R) (k : Nat) (x20z : Bool) (x20 : List T) (x21 x22 : Int) (c4_0z : Bool) (c4_0 : List T) (c5_0 c5_1 : Int) (c5_2z : Bool) (c5_2 : List Int) (c5_3z : Bool) (c5_3 : List Int) (c5_4z : Bool) (c5_4 : List T) : Option R :=
  cond (decide (x22 < x21)) (cond (decide ((0 : Int) ≤ x22)) (cond (decide (x22 < ((x20).length : Int))) ((impl_VoteGood.f k c4_0z c4_0 (((((x20).getD (x22).toNat .bad).cells.getD 0 .bad)).toInt) (((((x20).getD (x22).toNat .bad).cells.getD 1 .bad)).toInt) (((((x20).getD (x22).toNat .bad).cells.getD 2 .bad)).isNil) (((((x20).getD (x22).toNat .bad).cells.getD 2 .bad)).toNums) (((((x20).getD (x22).toNat .bad).cells.getD 3 .bad)).toInt) (((((x20).getD (x22).toNat .bad).cells.getD 4 .bad)).isNil) (((((x20).getD (x22).toNat .bad).cells.getD 4 .bad)).toNums)).bind fun t0 => cond (!t0) (ret 2) (j0 x20z x20 x21 (RowKit.wrap64 (x22 + 1)) c4_0z c4_0 c5_0 c5_1 c5_2z c5_2 c5_3z c5_3 c5_4z c5_4)) (none)) (none)) ((impl_IsQuorum.f k c4_0z c4_0 c5_3z c5_3).bind fun t0 => cond (!t0) (ret 3) (ret 0))
def impl_QcCode.l0 : Nat → Bool → (List T) → Int → Int → Bool → (List T) → Int → Int → Bool → (List Int) → Bool → (List Int) → Bool → (List T) → Option Int
  | 0, _, _, _, _, _, _, _, _, _, _, _, _, _, _ => none
  | k + 1, x20z, x20, x21, x22, c4_0z, c4_0, c5_0, c5_1, c5_2z, c5_2, c5_3z, c5_3, c5_4z, c5_4 => impl_QcCode.l0b some (impl_QcCode.l0 k) k x20z x20 x21 x22 c4_0z c4_0 c5_0 c5_1 c5_2z c5_2 c5_3z c5_3 c5_4z c5_4
def impl_QcCode.f : Nat → Int → Int → Int → Int → Int → Bool → (List T) → Int → Int → Bool → (List Int) → Bool → (List Int) → Bool → (List T) → Option Int
  | 0, _, _, _, _, _, _, _, _, _, _, _, _, _, _, _ => none
  | k + 1, a0_0, a0_1, a0_2, a0_3, a0_4, a1_0z, a1_0, a2_0, a2_1, a2_2z, a2_2, a2_3z, a2_3, a2_4z, a2_4 => impl_QcCode.b some (impl_QcCode.l0 k) k a0_0 a0_1 a0_2 a0_3 a0_4 a1_0z a1_0 a2_0 a2_1 a2_2z a2_2 a2_3z a2_3 a2_4z a2_4
def impl_QcCode.enc (r : Int) : Res := ⟨[.vals false [((.int .i64 r), true)]], []⟩
def impl_QcCode.ans (k : Nat) : List Arg → Ans
  | [.v (.agg [(.int .i64 a0_0), (.int .i64 a0_1), (.int .i64 a0_2), (.int .i64 a0_3), (.int .i64 a0_4)]), .v (.agg [(.sl 44 a1_0z a1_0)]), .v (.agg [(.int .i64 a2_0), (.int .i64 a2_1), (.nums 5 .u8 a2_2z a2_2), (.nums 5 .u8 a2_3z a2_3), (.sl 22 a2_4z a2_4)])] => ⟨impl_QcCode.f k a0_0 a0_1 a0_2 a0_3 a0_4 a1_0z a1_0 a2_0 a2_1 a2_2z a2_2 a2_3z a2_3 a2_4z a2_4, impl_QcCode.enc⟩
  | _ => Ans.no
def impl_QcCode.Cs (k : Nat) : CallSem := tab [(90, impl_QcOk.ans k), (87, impl_belongs.ans k), (24, impl_QcVotes.ans k), (17, impl_VoteGood.ans k), (31, impl_IsQuorum.ans k)]
def impl_QcCode.cuts : List (Nat × Keep) := [(58, ⟨[(4, some []), (5, some []), (20, none), (21, some []), (22, some [])], [(4, [some []]), (5, [some [], some [], some [], some [], some []])]⟩)]
noncomputable def impl_QcCode.K0 : List Fr := framesAt [true, true, false, true, false] (bodyOf Try.f33 impl_QcCode.cuts) []
def impl_QcCode.N0 (x20z : Bool) (x20 : List T) (x21 x22 : Int) (c4_0z : Bool) (c4_0 : List T) (c5_0 c5_1 : Int) (c5_2z : Bool) (c5_2 : List Int) (c5_3z : Bool) (c5_3 : List Int) (c5_4z : Bool) (c5_4 : List T) : St := stOf 36 36 3 [(4, .bp 4 0), (5, .bp 5 0), (20, .val ⟨(.sl 33 x20z x20), [.l 20 0], true, some (.l 20 0)⟩), (21, .val (V.s (.int .i64 x21))), (22, .val (V.s (.int .i64 x22)))] [(4, .cells [⟨(.sl 44 c4_0z c4_0), [], false, none⟩]), (5, .cells [V.s (.int .i64 c5_0), V.s (.int .i64 c5_1), ⟨(.nums 5 .u8 c5_2z c5_2), [], false, none⟩, ⟨(.nums 5 .u8 c5_3z c5_3), [], false, none⟩, ⟨(.sl 22 c5_4z c5_4), [], false, none⟩])]
theorem impl_QcCode.s0 (k : Nat) (G : List Fr → St → Option Res) (a0_0 a0_1 : Int) (a0_2 a0_3 a0_4 : Int) (a1_0z : Bool) (a1_0 : List T) (a2_0 a2_1 : Int) (a2_2z : Bool) (a2_2 : List Int) (a2_3z : Bool) (a2_3 : List Int) (a2_4z : Bool) (a2_4 : List T) (yx20z : Bool) (yx20 : List T) (yx21 yx22 : Int) (yc4_0z : Bool) (yc4_0 : List T) (yc5_0 yc5_1 : Int) (yc5_2z : Bool) (yc5_2 : List Int) (yc5_3z : Bool) (yc5_3 : List Int) (yc5_4z : Bool) (yc5_4 : List T) : resume Try.prog (impl_QcCode.Cs k) G (finish Try.prog [] Try.f33 [.v (.agg [(.int .i64 a0_0), (.int .i64 a0_1), (.int .i64 a0_2), (.int .i64 a0_3), (.int .i64 a0_4)]), .v (.agg [(.sl 44 a1_0z a1_0)]), .v (.agg [(.int .i64 a2_0), (.int .i64 a2_1), (.nums 5 .u8 a2_2z a2_2), (.nums 5 .u8 a2_3z a2_3), (.sl 22 a2_4z a2_4)])]) 100000 impl_QcCode.K0 (impl_QcCode.N0 yx20z yx20 yx21 yx22 yc4_0z yc4_0 yc5_0 yc5_1 yc5_2z yc5_2 yc5_3z yc5_3 yc5_4z yc5_4) = impl_QcCode.l0b (fun r => some (impl_QcCode.enc r)) (fun x20z x20 x21 x22 c4_0z c4_0 c5_0 c5_1 c5_2z c5_2 c5_3z c5_3 c5_4z c5_4 => G impl_QcCode.K0 (impl_QcCode.N0 x20z x20 x21 x22 c4_0z c4_0 c5_0 c5_1 c5_2z c5_2 c5_3z c5_3 c5_4z c5_4)) k yx20z yx20 yx21 yx22 yc4_0z yc4_0 yc5_0 yc5_1 yc5_2z yc5_2 yc5_3z yc5_3 yc5_4z yc5_4 := by kernel_rfl
theorem impl_QcCode.bn {R R' : Type} (e : R → R') (ret : Int → Option R) (j0 : Bool → (List T) → Int → Int → Bool → (List T) → Int → Int → Bool → (List Int) → Bool → (List Int) → Bool → (List T) → Option R) (k : Nat) (a0_0 a0_1 : Int) (a0_2 a0_3 a0_4 : Int) (a1_0z : Bool) (a1_0 : List T) (a2_0 a2_1 : Int) (a2_2z : Bool) (a2_2 : List Int) (a2_3z : Bool) (a2_3 : List Int) (a2_4z : Bool) (a2_4 : List T) : impl_QcCode.b (fun r => (ret r).map e) (fun x20z x20 x21 x22 c4_0z c4_0 c5_0 c5_1 c5_2z c5_2 c5_3z c5_3 c5_4z c5_4 => (j0 x20z x20 x21 x22 c4_0z c4_0 c5_0 c5_1 c5_2z c5_2 c5_3z c5_3 c5_4z c5_4).map e) k a0_0 a0_1 a0_2 a0_3 a0_4 a1_0z a1_0 a2_0 a2_1 a2_2z a2_2 a2_3z a2_3 a2_4z a2_4 = (impl_QcCode.b ret j0 k a0_0 a0_1 a0_2 a0_3 a0_4 a1_0z a1_0 a2_0 a2_1 a2_2z a2_2 a2_3z a2_3 a2_4z a2_4).map e := by
  unfold impl_QcCode.b
  repeat' first | with_reducible refine nat_cond ?_ ?_ | with_reducible refine nat_bind fun _ => ?_ | rfl
theorem impl_QcCode.l0n {R R' : Type} (e : R → R') (ret : Int → Option R) (j0 : Bool → (List T) → Int → Int → Bool → (List T) → Int → Int → Bool → (List Int) → Bool → (List Int) → Bool → (List T) → Option R) (k : Nat) (x20z : Bool) (x20 : List T) (x21 x22 : Int) (c4_0z : Bool) (c4_0 : List T) (c5_0 c5_1 : Int) (c5_2z : Bool) (c5_2 : List Int) (c5_3z : Bool) (c5_3 : List Int) (c5_4z : Bool) (c5_4 : List T) : impl_QcCode.l0b (fun r => (ret r).map e) (fun x20z x20 x21 x22 c4_0z c4_0 c5_0 c5_1 c5_2z c5_2 c5_3z c5_3 c5_4z c5_4 => (j0 x20z x20 x21 x22 c4_0z c4_0 c5_0 c5_1 c5_2z c5_2 c5_3z c5_3 c5_4z c5_4).map e) k x20z x20 x21 x22 c4_0z c4_0 c5_0 c5_1 c5_2z c5_2 c5_3z c5_3 c5_4z c5_4 = (impl_QcCode.l0b ret j0 k x20z x20 x21 x22 c4_0z c4_0 c5_0 c5_1 c5_2z c5_2 c5_3z c5_3 c5_4z c5_4).map e := by
  unfold impl_QcCode.l0b
  repeat' first | with_reducible refine nat_cond ?_ ?_ | with_reducible refine nat_bind fun _ => ?_ | rfl
theorem impl_QcCode.rq (a0_0 a0_1 : Int) (a0_2 a0_3 a0_4 : Int) (a1_0z : Bool) (a1_0 : List T) (a2_0 a2_1 : Int) (a2_2z : Bool) (a2_2 : List Int) (a2_3z : Bool) (a2_3 : List Int) (a2_4z : Bool) (a2_4 : List T) : ∀ k, (∀ (x20z : Bool) (x20 : List T) (x21 x22 : Int) (c4_0z : Bool) (c4_0 : List T) (c5_0 c5_1 : Int) (c5_2z : Bool) (c5_2 : List Int) (c5_3z : Bool) (c5_3 : List Int) (c5_4z : Bool) (c5_4 : List T), rounds Try.prog impl_QcCode.Cs (finish Try.prog [] Try.f33 [.v (.agg [(.int .i64 a0_0), (.int .i64 a0_1), (.int .i64 a0_2), (.int .i64 a0_3), (.int .i64 a0_4)]), .v (.agg [(.sl 44 a1_0z a1_0)]), .v (.agg [(.int .i64 a2_0), (.int .i64 a2_1), (.nums 5 .u8 a2_2z a2_2), (.nums 5 .u8 a2_3z a2_3), (.sl 22 a2_4z a2_4)])]) 100000 k impl_QcCode.K0 (impl_QcCode.N0 x20z x20 x21 x22 c4_0z c4_0 c5_0 c5_1 c5_2z c5_2 c5_3z c5_3 c5_4z c5_4) = (impl_QcCode.l0 k x20z x20 x21 x22 c4_0z c4_0 c5_0 c5_1 c5_2z c5_2 c5_3z c5_3 c5_4z c5_4).map impl_QcCode.enc)
  | 0 => fun _ _ _ _ _ _ _ _ _ _ _ _ _ _ => rfl
  | k + 1 => by
    have ih := impl_QcCode.rq a0_0 a0_1 a0_2 a0_3 a0_4 a1_0z a1_0 a2_0 a2_1 a2_2z a2_2 a2_3z a2_3 a2_4z a2_4 k
    refine fun _ _ _ _ _ _ _ _ _ _ _ _ _ _ => ?_
    · refine (impl_QcCode.s0 k _ a0_0 a0_1 a0_2 a0_3 a0_4 a1_0z a1_0 a2_0 a2_1 a2_2z a2_2 a2_3z a2_3 a2_4z a2_4 _ _ _ _ _ _ _ _ _ _ _ _ _ _).trans (Eq.trans ?_ (impl_QcCode.l0n impl_QcCode.enc some (impl_QcCode.l0 k) k _ _ _ _ _ _ _ _ _ _ _ _ _ _))
      simp only [ih, Option.map_some]
theorem impl_QcCode.eq (k : Nat) (a0_0 a0_1 : Int) (a0_2 a0_3 a0_4 : Int) (a1_0z : Bool) (a1_0 : List T) (a2_0 a2_1 : Int) (a2_2z : Bool) (a2_2 : List Int) (a2_3z : Bool) (a2_3 : List Int) (a2_4z : Bool) (a2_4 : List T) : answer Try.prog impl_QcCode.Cs 100000 impl_QcCode.cuts [] Try.f33 (k + 1) [.v (.agg [(.int .i64 a0_0), (.int .i64 a0_1), (.int .i64 a0_2), (.int .i64 a0_3), (.int .i64 a0_4)]), .v (.agg [(.sl 44 a1_0z a1_0)]), .v (.agg [(.int .i64 a2_0), (.int .i64 a2_1), (.nums 5 .u8 a2_2z a2_2), (.nums 5 .u8 a2_3z a2_3), (.sl 22 a2_4z a2_4)])] = (impl_QcCode.f (k + 1) a0_0 a0_1 a0_2 a0_3 a0_4 a1_0z a1_0 a2_0 a2_1 a2_2z a2_2 a2_3z a2_3 a2_4z a2_4).map impl_QcCode.enc := by
  have ih := impl_QcCode.rq a0_0 a0_1 a0_2 a0_3 a0_4 a1_0z a1_0 a2_0 a2_1 a2_2z a2_2 a2_3z a2_3 a2_4z a2_4 k
  refine Eq.trans (b := impl_QcCode.b (fun r => some (impl_QcCode.enc r)) (fun x20z x20 x21 x22 c4_0z c4_0 c5_0 c5_1 c5_2z c5_2 c5_3z c5_3 c5_4z c5_4 => rounds Try.prog impl_QcCode.Cs (finish Try.prog [] Try.f33 [.v (.agg [(.int .i64 a0_0), (.int .i64 a0_1), (.int .i64 a0_2), (.int .i64 a0_3), (.int .i64 a0_4)]), .v (.agg [(.sl 44 a1_0z a1_0)]), .v (.agg [(.int .i64 a2_0), (.int .i64 a2_1), (.nums 5 .u8 a2_2z a2_2), (.nums 5 .u8 a2_3z a2_3), (.sl 22 a2_4z a2_4)])]) 100000 k impl_QcCode.K0 (impl_QcCode.N0 x20z x20 x21 x22 c4_0z c4_0 c5_0 c5_1 c5_2z c5_2 c5_3z c5_3 c5_4z c5_4)) k a0_0 a0_1 a0_2 a0_3 a0_4 a1_0z a1_0 a2_0 a2_1 a2_2z a2_2 a2_3z a2_3 a2_4z a2_4) (by kernel_rfl) (Eq.trans ?_ (impl_QcCode.bn impl_QcCode.enc some (impl_QcCode.l0 k) k a0_0 a0_1 a0_2 a0_3 a0_4 a1_0z a1_0 a2_0 a2_1 a2_2z a2_2 a2_3z a2_3 a2_4z a2_4))
  simp only [ih, Option.map_some]
theorem impl_QcCode.sound (k : Nat) : SoundF Try.prog 33 (fun a => (impl_QcCode.ans k a).val) := by
  refine sound_plain (fun args res h => ?_) (fun t n => rfl)
  unfold impl_QcCode.ans at h
  dsimp only at h
  split at h
  · cases k with
    | zero => cases h
    | succ k =>
      unfold Ans.val at h
      rw [← impl_QcCode.eq] at h
      exact answer_sound mixed Try.func33 _ _ _ (k + 1) (fun j _ => tab_sound (tab_cons (impl_QcOk.sound j) (tab_cons (impl_belongs.sound j) (tab_cons (impl_QcVotes.sound j) (tab_cons (impl_VoteGood.sound j) (tab_cons (impl_IsQuorum.sound j) (tab_nil))))))) _ _ h
  · exact (Ans.no_val h).elim

def laws_FnChain.b {R : Type} (ret : Bool → Option R) (j0 : Bool → (List T) → Int → Int → Int → Int → Int → Int → Bool → (List T) → Option R) (k : Nat) (a0z : Bool) (a0 : List Int) : Option R :=
  cond (decide (((a0).length : Int) > 1048576)) (ret true) ((spec_MakeChain.f k a0z a0 4).bind fun t0 => (impl_ChainCode.f k t0.1 t0.2.1 t0.2.2.1 t0.2.2.2.1 t0.2.2.2.2.1 t0.2.2.2.2.2.2.2.1 t0.2.2.2.2.2.2.2.2).bind fun t1 => cond (!(decide (t1 = 0))) (ret false) (j0 t0.2.2.2.2.2.2.2.1 t0.2.2.2.2.2.2.2.2 1 t0.1 t0.2.1 t0.2.2.1 t0.2.2.2.1 t0.2.2.2.2.1 t0.2.2.2.2.2.1 t0.2.2.2.2.2.2.1))
def laws_FnChain.l0b {R : Type} (ret : Bool → Option R) (j0 : Bool → (List T) → Int → Int → Int → Int → Int → Int → Bool → (List T) → Option R) (k : Nat) (x5z : Bool) (x5 : List T) (x6 c3_0 : Int) (c3_1 c3_2 : Int) (c3_3 c3_4 : Int) (c4_0z : Bool) (c4_0 : List T) : Option R :=
  cond (decide (x6 < ((x5).length : Int))) (cond (decide ((0 : Int) ≤ (RowKit.wrap64 (x6 - 1)))) (cond (decide ((RowKit.wrap64 (x6 - 1)) < ((x5).length : Int))) (cond (decide ((0 : Int) ≤ x6)) (cond (decide (x6 < ((x5).length : Int))) ((impl_Links.f k c3_0 c3_1 c3_2 c3_3 c3_4 (((((x5).getD ((RowKit.wrap64 (x6 - 1))).toNat .bad).cells.getD 0 .bad)).toInt) (((((x5).getD ((RowKit.wrap64 (x6 - 1))).toNat .bad).cells.getD 1 .bad)).toInt) (((((x5).getD ((RowKit.wrap64 (x6 - 1))).toNat .bad).cells.getD 2 .bad)).toInt) (((((x5).getD ((RowKit.wrap64 (x6 - 1))).toNat .bad).cells.getD 3 .bad)).isNil) (((((x5).getD ((RowKit.wrap64 (x6 - 1))).toNat .bad).cells.getD 3 .bad)).toNums) (((((x5).getD ((RowKit.wrap64 (x6 - 1))).toNat .bad).cells.getD 4 .bad)).isNil) (((((x5).getD ((RowKit.wrap64 (x6 - 1))).toNat .bad).cells.getD 4 .bad)).toNums) (((((x5).getD ((RowKit.wrap64 (x6 - 1))).toNat .bad).cells.getD 5 .bad)).toInt) (((((x5).getD ((RowKit.wrap64 (x6 - 1))).toNat .bad).cells.getD 6 .bad)).toInt) (((((x5).getD ((RowKit.wrap64 (x6 - 1))).toNat .bad).cells.getD 7 .bad)).isNil) (((((x5).getD ((RowKit.wrap64 (x6 - 1))).toNat .bad).cells.getD 7 .bad)).toNums) (((((x5).getD ((RowKit.wrap64 (x6 - 1))).toNat .bad).cells.getD 8 .bad)).isNil) (((((x5).getD ((RowKit.wrap64 (x6 - 1))).toNat .bad).cells.getD 8 .bad)).toNums) (((((x5).getD ((RowKit.wrap64 (x6 - 1))).toNat .bad).cells.getD 9 .bad)).isNil) (((((x5).getD ((RowKit.wrap64 (x6 - 1))).toNat .bad).cells.getD 9 .bad)).toList) (((((x5).getD (x6).toNat .bad).cells.getD 0 .bad)).toInt) (((((x5).getD (x6).toNat .bad).cells.getD 1 .bad)).toInt) (((((x5).getD (x6).toNat .bad).cells.getD 2 .bad)).toInt) (((((x5).getD (x6).toNat .bad).cells.getD 3 .bad)).isNil) (((((x5).getD (x6).toNat .bad).cells.getD 3 .bad)).toNums) (((((x5).getD (x6).toNat .bad).cells.getD 4 .bad)).isNil) (((((x5).getD (x6).toNat .bad).cells.getD 4 .bad)).toNums) (((((x5).getD (x6).toNat .bad).cells.getD 5 .bad)).toInt) (((((x5).getD (x6).toNat .bad).cells.getD 6 .bad)).toInt) (((((x5).getD (x6).toNat .bad).cells.getD 7 .bad)).isNil) (((((x5).getD (x6).toNat .bad).cells.getD 7 .bad)).toNums) (((((x5).getD (x6).toNat .bad).cells.getD 8 .bad)).isNil) (((((x5).getD (x6).toNat .bad).cells.getD 8 .bad)).toNums) (((((x5).getD (x6).toNat .bad).cells.getD 9 .bad)).isNil) (((((x5).getD (x6).toNat .bad).cells.getD 9 .bad)).toList)).bind fun t0 => cond (!t0) (ret false) (cond (decide ((0 : Int) ≤ x6)) (cond (decide (x6 < ((x5).length : Int))) (cond (decide ((0 : Int) ≤ (RowKit.wrap64 (x6 - 1)))) (cond (decide ((RowKit.wrap64 (x6 - 1)) < ((x5).length : Int))) ((impl_HeadHash.f k c3_0 c3_1 c3_2 c3_3 c3_4 (((((x5).getD ((RowKit.wrap64 (x6 - 1))).toNat .bad).cells.getD 0 .bad)).toInt) (((((x5).getD ((RowKit.wrap64 (x6 - 1))).toNat .bad).cells.getD 1 .bad)).toInt) (((((x5).getD ((RowKit.wrap64 (x6 - 1))).toNat .bad).cells.getD 2 .bad)).toInt) (((((x5).getD ((RowKit.wrap64 (x6 - 1))).toNat .bad).cells.getD 3 .bad)).isNil) (((((x5).getD ((RowKit.wrap64 (x6 - 1))).toNat .bad).cells.getD 3 .bad)).toNums) (((((x5).getD ((RowKit.wrap64 (x6 - 1))).toNat .bad).cells.getD 4 .bad)).isNil) (((((x5).getD ((RowKit.wrap64 (x6 - 1))).toNat .bad).cells.getD 4 .bad)).toNums) (((((x5).getD ((RowKit.wrap64 (x6 - 1))).toNat .bad).cells.getD 5 .bad)).toInt) (((((x5).getD ((RowKit.wrap64 (x6 - 1))).toNat .bad).cells.getD 6 .bad)).toInt) (((((x5).getD ((RowKit.wrap64 (x6 - 1))).toNat .bad).cells.getD 7 .bad)).isNil) (((((x5).getD ((RowKit.wrap64 (x6 - 1))).toNat .bad).cells.getD 7 .bad)).toNums) (((((x5).getD ((RowKit.wrap64 (x6 - 1))).toNat .bad).cells.getD 8 .bad)).isNil) (((((x5).getD ((RowKit.wrap64 (x6 - 1))).toNat .bad).cells.getD 8 .bad)).toNums) (((((x5).getD ((RowKit.wrap64 (x6 - 1))).toNat .bad).cells.getD 9 .bad)).isNil) (((((x5).getD ((RowKit.wrap64 (x6 - 1))).toNat .bad).cells.getD 9 .bad)).toList)).bind fun t1 => (impl_SameBytes.f k (((((x5).getD (x6).toNat .bad).cells.getD 3 .bad)).isNil) (((((x5).getD (x6).toNat .bad).cells.getD 3 .bad)).toNums) t1.1 t1.2).bind fun t2 => cond (!t2) (ret false) (cond (decide ((0 : Int) ≤ x6)) (cond (decide (x6 < ((x5).length : Int))) (cond (decide ((0 : Int) ≤ (RowKit.wrap64 (x6 - 1)))) (cond (decide ((RowKit.wrap64 (x6 - 1)) < ((x5).length : Int))) (cond (!(decide (((((x5).getD (x6).toNat .bad).cells.getD 1 .bad)).toInt = (RowKit.wrap64 (((((x5).getD ((RowKit.wrap64 (x6 - 1))).toNat .bad).cells.getD 1 .bad)).toInt + 1))))) (ret false) (cond (decide ((0 : Int) ≤ x6)) (cond (decide (x6 < ((x5).length : Int))) ((impl_QcCode.f k c3_0 c3_1 c3_2 c3_3 c3_4 c4_0z c4_0 (((((x5).getD (x6).toNat .bad).cells.getD 5 .bad)).toInt) (((((x5).getD (x6).toNat .bad).cells.getD 6 .bad)).toInt) (((((x5).getD (x6).toNat .bad).cells.getD 7 .bad)).isNil) (((((x5).getD (x6).toNat .bad).cells.getD 7 .bad)).toNums) (((((x5).getD (x6).toNat .bad).cells.getD 8 .bad)).isNil) (((((x5).getD (x6).toNat .bad).cells.getD 8 .bad)).toNums) (((((x5).getD (x6).toNat .bad).cells.getD 9 .bad)).isNil) (((((x5).getD (x6).toNat .bad).cells.getD 9 .bad)).toList)).bind fun t3 => cond (!(decide (t3 = 0))) (ret false) (j0 x5z x5 (RowKit.wrap64 (x6 + 1)) c3_0 c3_1 c3_2 c3_3 c3_4 c4_0z c4_0)) (none)) (none))) (none)) (none)) (none)) (none))) (none)) (none)) (none)) (none))) (none)) (none)) (none)) (none)) (cond (decide ((0 : Int) < ((x5).length : Int))) (cond (decide ((2 : Int) < ((x5).length : Int))) ((impl_ChainCode.f k c3_0 c3_1 c3_2 c3_3 c3_4 false ([(.agg [(.int .i64 ((((x5).getD 0 .bad).cells.getD 0 .bad)).toInt), (.int .i64 ((((x5).getD 0 .bad).cells.getD 1 .bad)).toInt), (.int .i64 ((((x5).getD 0 .bad).cells.getD 2 .bad)).toInt), (.nums 5 .u8 ((((x5).getD 0 .bad).cells.getD 3 .bad)).isNil ((((x5).getD 0 .bad).cells.getD 3 .bad)).toNums), (.nums 5 .u8 ((((x5).getD 0 .bad).cells.getD 4 .bad)).isNil ((((x5).getD 0 .bad).cells.getD 4 .bad)).toNums), (.int .i64 ((((x5).getD 0 .bad).cells.getD 5 .bad)).toInt), (.int .i64 ((((x5).getD 0 .bad).cells.getD 6 .bad)).toInt), (.nums 5 .u8 ((((x5).getD 0 .bad).cells.getD 7 .bad)).isNil ((((x5).getD 0 .bad).cells.getD 7 .bad)).toNums), (.nums 5 .u8 ((((x5).getD 0 .bad).cells.getD 8 .bad)).isNil ((((x5).getD 0 .bad).cells.getD 8 .bad)).toNums), (.sl 22 ((((x5).getD 0 .bad).cells.getD 9 .bad)).isNil ((((x5).getD 0 .bad).cells.getD 9 .bad)).toList)]), (.agg [(.int .i64 ((((x5).getD 2 .bad).cells.getD 0 .bad)).toInt), (.int .i64 ((((x5).getD 2 .bad).cells.getD 1 .bad)).toInt), (.int .i64 ((((x5).getD 2 .bad).cells.getD 2 .bad)).toInt), (.nums 5 .u8 ((((x5).getD 2 .bad).cells.getD 3 .bad)).isNil ((((x5).getD 2 .bad).cells.getD 3 .bad)).toNums), (.nums 5 .u8 ((((x5).getD 2 .bad).cells.getD 4 .bad)).isNil ((((x5).getD 2 .bad).cells.getD 4 .bad)).toNums), (.int .i64 ((((x5).getD 2 .bad).cells.getD 5 .bad)).toInt), (.int .i64 ((((x5).getD 2 .bad).cells.getD 6 .bad)).toInt), (.nums 5 .u8 ((((x5).getD 2 .bad).cells.getD 7 .bad)).isNil ((((x5).getD 2 .bad).cells.getD 7 .bad)).toNums), (.nums 5 .u8 ((((x5).getD 2 .bad).cells.getD 8 .bad)).isNil ((((x5).getD 2 .bad).cells.getD 8 .bad)).toNums), (.sl 22 ((((x5).getD 2 .bad).cells.getD 9 .bad)).isNil ((((x5).getD 2 .bad).cells.getD 9 .bad)).toList)])] : List T)).bind fun t0 => cond (decide (t0 = 4)) ((impl_ChainCode.f k c3_0 c3_1 c3_2 c3_3 c3_4 true ([] : List T)).bind fun t1 => ret (decide (t1 = 1))) (ret false)) (none)) (none))
def laws_FnChain.l0 : Nat → Bool → (List T) → Int → Int → Int → Int → Int → Int → Bool → (List T) → Option Bool
  | 0, _, _, _, _, _, _, _, _, _, _ => none
  | k + 1, x5z, x5, x6, c3_0, c3_1, c3_2, c3_3, c3_4, c4_0z, c4_0 => laws_FnChain.l0b some (laws_FnChain.l0 k) k x5z x5 x6 c3_0 c3_1 c3_2 c3_3 c3_4 c4_0z c4_0
def laws_FnChain.f : Nat → Bool → (List Int) → Option Bool
  | 0, _, _ => none
  | k + 1, a0z, a0 => laws_FnChain.b some (laws_FnChain.l0 k) k a0z a0
def laws_FnChain.enc (r : Bool) : Res := ⟨[.vals false [((.bool r), true)]], []⟩
def laws_FnChain.ans (k : Nat) : List Arg → Ans
  | [.v (.nums 5 .u8 a0z a0)] => ⟨laws_FnChain.f k a0z a0, laws_FnChain.enc⟩
  | _ => Ans.no
def laws_FnChain.Cs (k : Nat) : CallSem := tab [(37, spec_MakeChain.ans k), (38, impl_ChainCode.ans k), (32, impl_SameBytes.ans k), (39, impl_Links.ans k), (40, impl_HeadHash.ans k), (33, impl_QcCode.ans k)]
def laws_FnChain.cuts : List (Nat × Keep) := [(250, ⟨[(3, some []), (4, some []), (5, none), (6, some [])], [(3, [some [], some [], some [], some [], some []]), (4, [none])]⟩)]
noncomputable def laws_FnChain.K0 : List Fr := framesAt [true, true, true, true, false, true, false] (bodyOf Try.f6 laws_FnChain.cuts) []
def laws_FnChain.N0 (x5z : Bool) (x5 : List T) (x6 c3_0 : Int) (c3_1 c3_2 : Int) (c3_3 c3_4 : Int) (c4_0z : Bool) (c4_0 : List T) : St := stOf 95 95 1 [(3, .bp 3 0), (4, .bp 4 0), (5, .val ⟨(.sl 79 x5z x5), [.l 5 0], true, some (.l 5 0)⟩), (6, .val (V.s (.int .i64 x6)))] [(3, .cells [V.s (.int .i64 c3_0), V.s (.int .i64 c3_1), V.s (.int .i64 c3_2), V.s (.int .i64 c3_3), V.s (.int .i64 c3_4)]), (4, .cells [⟨(.sl 44 c4_0z c4_0), [.l 4 1], true, some (.l 4 1)⟩])]
theorem laws_FnChain.s0 (k : Nat) (G : List Fr → St → Option Res) (a0z : Bool) (a0 : List Int) (yx5z : Bool) (yx5 : List T) (yx6 yc3_0 : Int) (yc3_1 yc3_2 : Int) (yc3_3 yc3_4 : Int) (yc4_0z : Bool) (yc4_0 : List T) : resume Try.prog (laws_FnChain.Cs k) G (finish Try.prog [] Try.f6 [.v (.nums 5 .u8 a0z a0)]) 100000 laws_FnChain.K0 (laws_FnChain.N0 yx5z yx5 yx6 yc3_0 yc3_1 yc3_2 yc3_3 yc3_4 yc4_0z yc4_0) = laws_FnChain.l0b (fun r => some (laws_FnChain.enc r)) (fun x5z x5 x6 c3_0 c3_1 c3_2 c3_3 c3_4 c4_0z c4_0 => G laws_FnChain.K0 (laws_FnChain.N0 x5z x5 x6 c3_0 c3_1 c3_2 c3_3 c3_4 c4_0z c4_0)) k yx5z yx5 yx6 yc3_0 yc3_1 yc3_2 yc3_3 yc3_4 yc4_0z yc4_0 := by kernel_rfl
theorem laws_FnChain.bn {R R' : Type} (e : R → R') (ret : Bool → Option R) (j0 : Bool → (List T) → Int → Int → Int → Int → Int → Int → Bool → (List T) → Option R) (k : Nat) (a0z : Bool) (a0 : List Int) : laws_FnChain.b (fun r => (ret r).map e) (fun x5z x5 x6 c3_0 c3_1 c3_2 c3_3 c3_4 c4_0z c4_0 => (j0 x5z x5 x6 c3_0 c3_1 c3_2 c3_3 c3_4 c4_0z c4_0).map e) k a0z a0 = (laws_FnChain.b ret j0 k a0z a0).map e := by
  unfold laws_FnChain.b
  repeat' first | with_reducible refine nat_cond ?_ ?_ | with_reducible refine nat_bind fun _ => ?_ | rfl
theorem laws_FnChain.l0n {R R' : Type} (e : R → R') (ret : Bool → Option R) (j0 : Bool → (List T) → Int → Int → Int → Int → Int → Int → Bool → (List T) → Option R) (k : Nat) (x5z : Bool) (x5 : List T) (x6 c3_0 : Int) (c3_1 c3_2 : Int) (c3_3 c3_4 : Int) (c4_0z : Bool) (c4_0 : List T) : laws_FnChain.l0b (fun r => (ret r).map e) (fun x5z x5 x6 c3_0 c3_1 c3_2 c3_3 c3_4 c4_0z c4_0 => (j0 x5z x5 x6 c3_0 c3_1 c3_2 c3_3 c3_4 c4_0z c4_0).map e) k x5z x5 x6 c3_0 c3_1 c3_2 c3_3 c3_4 c4_0z c4_0 = (laws_FnChain.l0b ret j0 k x5z x5 x6 c3_0 c3_1 c3_2 c3_3 c3_4 c4_0z c4_0).map e := by
  unfold laws_FnChain.l0b
  repeat' first | with_reducible refine nat_cond ?_ ?_ | with_reducible refine nat_bind fun _ => ?_ | rfl
theorem laws_FnChain.rq (a0z : Bool) (a0 : List Int) : ∀ k, (∀ (x5z : Bool) (x5 : List T) (x6 c3_0 : Int) (c3_1 c3_2 : Int) (c3_3 c3_4 : Int) (c4_0z : Bool) (c4_0 : List T), rounds Try.prog laws_FnChain.Cs (finish Try.prog [] Try.f6 [.v (.nums 5 .u8 a0z a0)]) 100000 k laws_FnChain.K0 (laws_FnChain.N0 x5z x5 x6 c3_0 c3_1 c3_2 c3_3 c3_4 c4_0z c4_0) = (laws_FnChain.l0 k x5z x5 x6 c3_0 c3_1 c3_2 c3_3 c3_4 c4_0z c4_0).map laws_FnChain.enc)
  | 0 => fun _ _ _ _ _ _ _ _ _ _ => rfl
  | k + 1 => by
    have ih := laws_FnChain.rq a0z a0 k
    refine fun _ _ _ _ _ _ _ _ _ _ => ?_
    · refine (laws_FnChain.s0 k _ a0z a0 _ _ _ _ _ _ _ _ _ _).trans (Eq.trans ?_ (laws_FnChain.l0n laws_FnChain.enc some (laws_FnChain.l0 k) k _ _ _ _ _ _ _ _ _ _))
      simp only [ih, Option.map_some]
theorem laws_FnChain.eq (k : Nat) (a0z : Bool) (a0 : List Int) : answer Try.prog laws_FnChain.Cs 100000 laws_FnChain.cuts [] Try.f6 (k + 1) [.v (.nums 5 .u8 a0z a0)] = (laws_FnChain.f (k + 1) a0z a0).map laws_FnChain.enc := by
  have ih := laws_FnChain.rq a0z a0 k
  refine Eq.trans (b := laws_FnChain.b (fun r => some (laws_FnChain.enc r)) (fun x5z x5 x6 c3_0 c3_1 c3_2 c3_3 c3_4 c4_0z c4_0 => rounds Try.prog laws_FnChain.Cs (finish Try.prog [] Try.f6 [.v (.nums 5 .u8 a0z a0)]) 100000 k laws_FnChain.K0 (laws_FnChain.N0 x5z x5 x6 c3_0 c3_1 c3_2 c3_3 c3_4 c4_0z c4_0)) k a0z a0) (by kernel_rfl) (Eq.trans ?_ (laws_FnChain.bn laws_FnChain.enc some (laws_FnChain.l0 k) k a0z a0))
  simp only [ih, Option.map_some]
theorem laws_FnChain.sound (k : Nat) : SoundF Try.prog 6 (fun a => (laws_FnChain.ans k a).val) := by
  refine sound_plain (fun args res h => ?_) (fun t n => rfl)
  unfold laws_FnChain.ans at h
  dsimp only at h
  split at h
  · cases k with
    | zero => cases h
    | succ k =>
      unfold Ans.val at h
      rw [← laws_FnChain.eq] at h
      exact answer_sound mixed Try.func6 _ _ _ (k + 1) (fun j _ => tab_sound (tab_cons (spec_MakeChain.sound j) (tab_cons (impl_ChainCode.sound j) (tab_cons (impl_SameBytes.sound j) (tab_cons (impl_Links.sound j) (tab_cons (impl_HeadHash.sound j) (tab_cons (impl_QcCode.sound j) (tab_nil)))))))) _ _ h
  · exact (Ans.no_val h).elim
end Go.Proofs.YtbpcnodmgphinaaG
