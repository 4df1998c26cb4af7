/- What the functions compute, printed by a program of this repo; each is shown to be what the machine of values answers. No condition. -/
import Derived.Test.YtbpcnodmgphinaaGreatProg
import Derived.KernelRfl
import Derived.Test.YtbpcnodmgphinaaGreatGFnExactGatherd
namespace Go.Proofs.YtbpcnodmgphinaaGreatG
open Go Go.Proofs.YtbpcnodmgphinaaGreatRv Go.Proofs Go.RowKit
set_option linter.unusedVariables false
set_option linter.unusedSimpArgs false
def impl_BitsCount.b {R : Type} (ret : Int → Option R) (j0 : Int → Bool → (List Int) → Int → Int → Option R) (k : Nat) (a0z : Bool) (a0 : List Int) : Option R :=
  j0 0 a0z a0 ((a0).length : Int) 0
def impl_BitsCount.l0b {R : Type} (ret : Int → Option R) (j0 : Int → Bool → (List Int) → Int → Int → Option R) (k : Nat) (x3 : Int) (x6z : Bool) (x6 : List Int) (x7 x8 : Int) : Option R :=
  cond (decide (x8 < x7)) (cond (decide (0 ≤ x8)) (cond (decide (x8 < ((x6).length : Int))) ((bits_OnesCount8.f k (rdI x6 x8)).bind fun t0 => j0 (wrap64 (x3 + t0)) x6z x6 x7 (wrap64 (x8 + 1))) (none)) (none)) (ret x3)
def impl_BitsCount.l0 : Nat → Int → Bool → (List Int) → Int → Int → Option Int
  | 0, _, _, _, _, _ => none
  | k + 1, x3, x6z, x6, x7, x8 => impl_BitsCount.l0b some (impl_BitsCount.l0 k) k x3 x6z x6 x7 x8
def impl_BitsCount.f : Nat → Bool → (List Int) → Option Int
  | 0, _, _ => none
  | k + 1, a0z, a0 => impl_BitsCount.b some (impl_BitsCount.l0 k) k a0z a0
def impl_BitsCount.enc (r : Int) : Res := ⟨[.vals false [((.int .i64 r), true)]], []⟩
def impl_BitsCount.ans (k : Nat) : List Arg → Ans
  | [.v (.nums 5 .u8 a0z a0)] => ⟨impl_BitsCount.f k a0z a0, impl_BitsCount.enc⟩
  | _ => Ans.no
def impl_BitsCount.Cs (k : Nat) : CallSem := tab [(100, bits_OnesCount8.ans k)]
def impl_BitsCount.cuts : List (Nat × Keep) := [(58, ⟨[(3, some []), (6, some []), (7, some []), (8, some [])], []⟩)]
noncomputable def impl_BitsCount.K0 : List Fr := framesAt [true, true, false, true, false] (bodyOf Tryz.f87 impl_BitsCount.cuts) []
def impl_BitsCount.N0 (x3 : Int) (x6z : Bool) (x6 : List Int) (x7 x8 : Int) : St := stOf 18 18 1 [(3, .val (V.s (.int .i64 x3))), (6, .val ⟨(.nums 5 .u8 x6z x6), [], false, none⟩), (7, .val (V.s (.int .i64 x7))), (8, .val (V.s (.int .i64 x8)))] []
theorem impl_BitsCount.s0 (k : Nat) (G : List Fr → St → Option Res) (a0z : Bool) (a0 : List Int) (yx3 : Int) (yx6z : Bool) (yx6 : List Int) (yx7 yx8 : Int) : resume Tryz.prog (impl_BitsCount.Cs k) G (finish Tryz.prog [] Tryz.f87 [.v (.nums 5 .u8 a0z a0)]) 100000 impl_BitsCount.K0 (impl_BitsCount.N0 yx3 yx6z yx6 yx7 yx8) = impl_BitsCount.l0b (fun r => some (impl_BitsCount.enc r)) (fun x3 x6z x6 x7 x8 => G impl_BitsCount.K0 (impl_BitsCount.N0 x3 x6z x6 x7 x8)) k yx3 yx6z yx6 yx7 yx8 := by kernel_rfl
theorem impl_BitsCount.bn {R R' : Type} (e : R → R') (ret : Int → Option R) (j0 : Int → Bool → (List Int) → Int → Int → Option R) (k : Nat) (a0z : Bool) (a0 : List Int) : impl_BitsCount.b (fun r => (ret r).map e) (fun x3 x6z x6 x7 x8 => (j0 x3 x6z x6 x7 x8).map e) k a0z a0 = (impl_BitsCount.b ret j0 k a0z a0).map e := by
  unfold impl_BitsCount.b
  repeat' first | with_reducible refine nat_cond ?_ ?_ | with_reducible refine nat_bind fun _ => ?_ | rfl
theorem impl_BitsCount.l0n {R R' : Type} (e : R → R') (ret : Int → Option R) (j0 : Int → Bool → (List Int) → Int → Int → Option R) (k : Nat) (x3 : Int) (x6z : Bool) (x6 : List Int) (x7 x8 : Int) : impl_BitsCount.l0b (fun r => (ret r).map e) (fun x3 x6z x6 x7 x8 => (j0 x3 x6z x6 x7 x8).map e) k x3 x6z x6 x7 x8 = (impl_BitsCount.l0b ret j0 k x3 x6z x6 x7 x8).map e := by
  unfold impl_BitsCount.l0b
  repeat' first | with_reducible refine nat_cond ?_ ?_ | with_reducible refine nat_bind fun _ => ?_ | rfl
theorem impl_BitsCount.rq (a0z : Bool) (a0 : List Int) : ∀ k, (∀ (x3 : Int) (x6z : Bool) (x6 : List Int) (x7 x8 : Int), rounds Tryz.prog impl_BitsCount.Cs (finish Tryz.prog [] Tryz.f87 [.v (.nums 5 .u8 a0z a0)]) 100000 k impl_BitsCount.K0 (impl_BitsCount.N0 x3 x6z x6 x7 x8) = (impl_BitsCount.l0 k x3 x6z x6 x7 x8).map impl_BitsCount.enc)
  | 0 => fun _ _ _ _ _ => rfl
  | k + 1 => by
    have ih := impl_BitsCount.rq a0z a0 k
    refine fun _ _ _ _ _ => ?_
    · refine (impl_BitsCount.s0 k _ a0z a0 _ _ _ _ _).trans (Eq.trans ?_ (impl_BitsCount.l0n impl_BitsCount.enc some (impl_BitsCount.l0 k) k _ _ _ _ _))
      simp only [ih, Option.map_some]
theorem impl_BitsCount.eq (k : Nat) (a0z : Bool) (a0 : List Int) : answer Tryz.prog impl_BitsCount.Cs 100000 impl_BitsCount.cuts [] Tryz.f87 (k + 1) [.v (.nums 5 .u8 a0z a0)] = (impl_BitsCount.f (k + 1) a0z a0).map impl_BitsCount.enc := by
  have ih := impl_BitsCount.rq a0z a0 k
  refine Eq.trans (b := impl_BitsCount.b (fun r => some (impl_BitsCount.enc r)) (fun x3 x6z x6 x7 x8 => rounds Tryz.prog impl_BitsCount.Cs (finish Tryz.prog [] Tryz.f87 [.v (.nums 5 .u8 a0z a0)]) 100000 k impl_BitsCount.K0 (impl_BitsCount.N0 x3 x6z x6 x7 x8)) k a0z a0) (by kernel_rfl) (Eq.trans ?_ (impl_BitsCount.bn impl_BitsCount.enc some (impl_BitsCount.l0 k) k a0z a0))
  simp only [ih, Option.map_some]
theorem impl_BitsCount.sound (k : Nat) : SoundF Tryz.prog 87 (fun a => (impl_BitsCount.ans k a).val) := by
  refine sound_plain (fun args res h => ?_) (fun t n => rfl)
  unfold impl_BitsCount.ans at h
  dsimp only at h
  split at h
  · cases k with
    | zero => cases h
    | succ k =>
      unfold Ans.val at h
      rw [← impl_BitsCount.eq] at h
      exact answer_sound mixed Tryz.func87 _ _ _ (k + 1) (fun j _ => tab_sound (tab_cons (bits_OnesCount8.sound j) (tab_nil))) _ _ h
  · exact (Ans.no_val h).elim

def impl_QcOk.b {R : Type} (ret : Bool → Option R) (k : Nat) (a0_0 a0_1 : Int) (a0_2 a0_3 : Int) (a0_4 a1_0 a1_1 : Int) (a1_2z : Bool) (a1_2 : List Int) (a1_3z : Bool) (a1_3 : List Int) (a1_4z : Bool) (a1_4 : List T) : Option R :=
  (impl_LimitsOk.f k a0_0 a0_1 a0_2 a0_3 a0_4).bind fun t0 => cond t0 ((impl_isNum.f k a1_0).bind fun t1 => cond t1 ((impl_isNum.f k a1_1).bind fun t2 => cond t2 ((impl_areHashes.f k false ([(.nums 5 .u8 a1_2z a1_2)] : List T)).bind fun t3 => cond t3 ((impl_BitsOk.f k a1_3z a1_3 a0_0).bind fun t4 => cond t4 ((impl_BitsCount.f k a1_3z a1_3).bind fun t5 => cond (decide (((a1_4).length : Int) = t5)) ((impl_areHashes.f k a1_4z a1_4).bind fun t6 => ret t6) (ret false)) (ret false)) (ret false)) (ret false)) (ret false)) (ret false)
def impl_QcOk.f : Nat → Int → Int → Int → Int → Int → Int → Int → Bool → (List Int) → Bool → (List Int) → Bool → (List T) → Option Bool
  | 0, _, _, _, _, _, _, _, _, _, _, _, _, _ => none
  | k + 1, a0_0, a0_1, a0_2, a0_3, a0_4, a1_0, a1_1, a1_2z, a1_2, a1_3z, a1_3, a1_4z, a1_4 => impl_QcOk.b some k a0_0 a0_1 a0_2 a0_3 a0_4 a1_0 a1_1 a1_2z a1_2 a1_3z a1_3 a1_4z a1_4
def impl_QcOk.enc (r : Bool) : Res := ⟨[.vals false [((.bool r), true)]], []⟩
def impl_QcOk.ans (k : Nat) : List Arg → Ans
  | [.v (.agg [(.int .i64 a0_0), (.int .i64 a0_1), (.int .i64 a0_2), (.int .i64 a0_3), (.int .i64 a0_4)]), .v (.agg [(.int .i64 a1_0), (.int .i64 a1_1), (.nums 5 .u8 a1_2z a1_2), (.nums 5 .u8 a1_3z a1_3), (.sl 28 a1_4z a1_4)])] => ⟨impl_QcOk.f k a0_0 a0_1 a0_2 a0_3 a0_4 a1_0 a1_1 a1_2z a1_2 a1_3z a1_3 a1_4z a1_4, impl_QcOk.enc⟩
  | _ => Ans.no
def impl_QcOk.Cs (k : Nat) : CallSem := tab [(57, impl_LimitsOk.ans k), (84, impl_isNum.ans k), (85, impl_areHashes.ans k), (86, impl_BitsOk.ans k), (87, impl_BitsCount.ans k)]
theorem impl_QcOk.eq (k : Nat) (a0_0 a0_1 : Int) (a0_2 a0_3 : Int) (a0_4 a1_0 a1_1 : Int) (a1_2z : Bool) (a1_2 : List Int) (a1_3z : Bool) (a1_3 : List Int) (a1_4z : Bool) (a1_4 : List T) : answer Tryz.prog impl_QcOk.Cs 100000 [] [] Tryz.f63 (k + 1) [.v (.agg [(.int .i64 a0_0), (.int .i64 a0_1), (.int .i64 a0_2), (.int .i64 a0_3), (.int .i64 a0_4)]), .v (.agg [(.int .i64 a1_0), (.int .i64 a1_1), (.nums 5 .u8 a1_2z a1_2), (.nums 5 .u8 a1_3z a1_3), (.sl 28 a1_4z a1_4)])] = (impl_QcOk.f (k + 1) a0_0 a0_1 a0_2 a0_3 a0_4 a1_0 a1_1 a1_2z a1_2 a1_3z a1_3 a1_4z a1_4).map impl_QcOk.enc := by
  refine Eq.trans (b := impl_QcOk.b (fun r => some (impl_QcOk.enc r)) k a0_0 a0_1 a0_2 a0_3 a0_4 a1_0 a1_1 a1_2z a1_2 a1_3z a1_3 a1_4z a1_4) (by kernel_rfl) ?_
  show _ = (impl_QcOk.b some k a0_0 a0_1 a0_2 a0_3 a0_4 a1_0 a1_1 a1_2z a1_2 a1_3z a1_3 a1_4z a1_4).map impl_QcOk.enc
  unfold impl_QcOk.b
  repeat' first | with_reducible refine nat_cond ?_ ?_ | with_reducible refine nat_bind fun _ => ?_ | rfl
theorem impl_QcOk.sound (k : Nat) : SoundF Tryz.prog 63 (fun a => (impl_QcOk.ans k a).val) := by
  refine sound_plain (fun args res h => ?_) (fun t n => rfl)
  unfold impl_QcOk.ans at h
  dsimp only at h
  split at h
  · cases k with
    | zero => cases h
    | succ k =>
      unfold Ans.val at h
      rw [← impl_QcOk.eq] at h
      exact answer_sound mixed Tryz.func63 _ _ _ (k + 1) (fun j _ => tab_sound (tab_cons (impl_LimitsOk.sound j) (tab_cons (impl_isNum.sound j) (tab_cons (impl_areHashes.sound j) (tab_cons (impl_BitsOk.sound j) (tab_cons (impl_BitsCount.sound j) (tab_nil))))))) _ _ h
  · exact (Ans.no_val h).elim

def impl_QcVotes.b {R : Type} (ret : Bool × List T → Option R) (j0 : (List T) → Bool → (List Int) → Int → Int → Int → Int → Bool → (List Int) → Bool → (List Int) → Bool → (List T) → Option R) (k : Nat) (a0_0 a0_1 : Int) (a0_2z : Bool) (a0_2 : List Int) (a0_3z : Bool) (a0_3 : List Int) (a0_4z : Bool) (a0_4 : List T) : Option R :=
  (impl_BitsCount.f k a0_3z a0_3).bind fun t0 => cond (!(decide (((a0_4).length : Int) = t0))) (ret (true, ([] : List T))) ((impl_BitsList.f k a0_3z a0_3).bind fun t1 => j0 ([] : List T) t1.1 t1.2 ((t1.2).length : Int) 0 a0_0 a0_1 a0_2z a0_2 a0_3z a0_3 a0_4z a0_4)
def impl_QcVotes.l0b {R : Type} (ret : Bool × List T → Option R) (j0 : (List T) → Bool → (List Int) → Int → Int → Int → Int → Bool → (List Int) → Bool → (List Int) → Bool → (List T) → Option R) (k : Nat) (x3 : List T) (x16z : Bool) (x16 : List Int) (x17 x18 : Int) (c1_0 c1_1 : Int) (c1_2z : Bool) (c1_2 : List Int) (c1_3z : Bool) (c1_3 : List Int) (c1_4z : Bool) (c1_4 : List T) : Option R :=
  cond (decide (x18 < x17)) (cond (decide (0 ≤ x18)) (cond (decide (x18 < ((x16).length : Int))) ((impl_copyBytes.f k c1_2z c1_2).bind fun t0 => cond (decide (0 ≤ x18)) (cond (decide (x18 < ((c1_4).length : Int))) ((impl_copyBytes.f k (((((c1_4).getD (x18).toNat .bad).cells.getD 0 .bad)).isNil) (((((c1_4).getD (x18).toNat .bad).cells.getD 0 .bad)).toNums)).bind fun t1 => cond (decide ((x3).length + 1 < 1954687338268)) (j0 (x3 ++ ([(.agg [(.int .i64 c1_0), (.int .i64 c1_1), (.nums 5 .u8 t0.1 t0.2), (.int .i64 (rdI x16 x18)), (.nums 5 .u8 t1.1 t1.2)])] : List T)) x16z x16 x17 (wrap64 (x18 + 1)) c1_0 c1_1 c1_2z c1_2 c1_3z c1_3 c1_4z c1_4) (none)) (none)) (none)) (none)) (none)) (ret (false, x3))
def impl_QcVotes.l0 : Nat → (List T) → Bool → (List Int) → Int → Int → Int → Int → Bool → (List Int) → Bool → (List Int) → Bool → (List T) → Option (Bool × List T)
  | 0, _, _, _, _, _, _, _, _, _, _, _, _, _ => none
  | k + 1, x3, x16z, x16, x17, x18, c1_0, c1_1, c1_2z, c1_2, c1_3z, c1_3, c1_4z, c1_4 => impl_QcVotes.l0b some (impl_QcVotes.l0 k) k x3 x16z x16 x17 x18 c1_0 c1_1 c1_2z c1_2 c1_3z c1_3 c1_4z c1_4
def impl_QcVotes.f : Nat → Int → Int → Bool → (List Int) → Bool → (List Int) → Bool → (List T) → Option (Bool × List T)
  | 0, _, _, _, _, _, _, _, _ => none
  | k + 1, a0_0, a0_1, a0_2z, a0_2, a0_3z, a0_3, a0_4z, a0_4 => impl_QcVotes.b some (impl_QcVotes.l0 k) k a0_0 a0_1 a0_2z a0_2 a0_3z a0_3 a0_4z a0_4
def impl_QcVotes.enc (r : Bool × List T) : Res := ⟨[.vals false [((.sl 59 r.1 r.2), true)]], []⟩
def impl_QcVotes.ans (k : Nat) : List Arg → Ans
  | [.v (.agg [(.int .i64 a0_0), (.int .i64 a0_1), (.nums 5 .u8 a0_2z a0_2), (.nums 5 .u8 a0_3z a0_3), (.sl 28 a0_4z a0_4)])] => ⟨impl_QcVotes.f k a0_0 a0_1 a0_2z a0_2 a0_3z a0_3 a0_4z a0_4, impl_QcVotes.enc⟩
  | _ => Ans.no
def impl_QcVotes.Cs (k : Nat) : CallSem := tab [(31, impl_copyBytes.ans k), (88, impl_BitsList.ans k), (87, impl_BitsCount.ans k)]
def impl_QcVotes.cuts : List (Nat × Keep) := [(122, ⟨[(1, some []), (3, none), (16, none), (17, some []), (18, some [])], [(1, [some [], some [], some [], some [], some []])]⟩)]
noncomputable def impl_QcVotes.K0 : List Fr := framesAt [true, true, true, false, true, false] (bodyOf Tryz.f64 impl_QcVotes.cuts) []
def impl_QcVotes.N0 (x3 : List T) (x16z : Bool) (x16 : List Int) (x17 x18 : Int) (c1_0 c1_1 : Int) (c1_2z : Bool) (c1_2 : List Int) (c1_3z : Bool) (c1_3 : List Int) (c1_4z : Bool) (c1_4 : List T) : St := stOf 43 43 1 [(1, .bp 1 0), (3, .val ⟨(.sl 59 false x3), [.l 3 0], true, some (.l 3 0)⟩), (16, .val ⟨(.nums 3 .i64 x16z x16), [.l 16 0], true, some (.l 16 0)⟩), (17, .val (V.s (.int .i64 x17))), (18, .val (V.s (.int .i64 x18)))] [(1, .cells [V.s (.int .i64 c1_0), V.s (.int .i64 c1_1), ⟨(.nums 5 .u8 c1_2z c1_2), [], false, none⟩, ⟨(.nums 5 .u8 c1_3z c1_3), [], false, none⟩, ⟨(.sl 28 c1_4z c1_4), [], false, none⟩])]
theorem impl_QcVotes.s0 (k : Nat) (G : List Fr → St → Option Res) (a0_0 a0_1 : Int) (a0_2z : Bool) (a0_2 : List Int) (a0_3z : Bool) (a0_3 : List Int) (a0_4z : Bool) (a0_4 yx3 : List T) (yx16z : Bool) (yx16 : List Int) (yx17 yx18 : Int) (yc1_0 yc1_1 : Int) (yc1_2z : Bool) (yc1_2 : List Int) (yc1_3z : Bool) (yc1_3 : List Int) (yc1_4z : Bool) (yc1_4 : List T) : resume Tryz.prog (impl_QcVotes.Cs k) G (finish Tryz.prog [] Tryz.f64 [.v (.agg [(.int .i64 a0_0), (.int .i64 a0_1), (.nums 5 .u8 a0_2z a0_2), (.nums 5 .u8 a0_3z a0_3), (.sl 28 a0_4z a0_4)])]) 100000 impl_QcVotes.K0 (impl_QcVotes.N0 yx3 yx16z yx16 yx17 yx18 yc1_0 yc1_1 yc1_2z yc1_2 yc1_3z yc1_3 yc1_4z yc1_4) = impl_QcVotes.l0b (fun r => some (impl_QcVotes.enc r)) (fun x3 x16z x16 x17 x18 c1_0 c1_1 c1_2z c1_2 c1_3z c1_3 c1_4z c1_4 => G impl_QcVotes.K0 (impl_QcVotes.N0 x3 x16z x16 x17 x18 c1_0 c1_1 c1_2z c1_2 c1_3z c1_3 c1_4z c1_4)) k yx3 yx16z yx16 yx17 yx18 yc1_0 yc1_1 yc1_2z yc1_2 yc1_3z yc1_3 yc1_4z yc1_4 := by kernel_rfl
theorem impl_QcVotes.bn {R R' : Type} (e : R → R') (ret : Bool × List T → Option R) (j0 : (List T) → Bool → (List Int) → Int → Int → Int → Int → Bool → (List Int) → Bool → (List Int) → Bool → (List T) → Option R) (k : Nat) (a0_0 a0_1 : Int) (a0_2z : Bool) (a0_2 : List Int) (a0_3z : Bool) (a0_3 : List Int) (a0_4z : Bool) (a0_4 : List T) : impl_QcVotes.b (fun r => (ret r).map e) (fun x3 x16z x16 x17 x18 c1_0 c1_1 c1_2z c1_2 c1_3z c1_3 c1_4z c1_4 => (j0 x3 x16z x16 x17 x18 c1_0 c1_1 c1_2z c1_2 c1_3z c1_3 c1_4z c1_4).map e) k a0_0 a0_1 a0_2z a0_2 a0_3z a0_3 a0_4z a0_4 = (impl_QcVotes.b ret j0 k a0_0 a0_1 a0_2z a0_2 a0_3z a0_3 a0_4z a0_4).map e := by
  unfold impl_QcVotes.b
  repeat' first | with_reducible refine nat_cond ?_ ?_ | with_reducible refine nat_bind fun _ => ?_ | rfl
theorem impl_QcVotes.l0n {R R' : Type} (e : R → R') (ret : Bool × List T → Option R) (j0 : (List T) → Bool → (List Int) → Int → Int → Int → Int → Bool → (List Int) → Bool → (List Int) → Bool → (List T) → Option R) (k : Nat) (x3 : List T) (x16z : Bool) (x16 : List Int) (x17 x18 : Int) (c1_0 c1_1 : Int) (c1_2z : Bool) (c1_2 : List Int) (c1_3z : Bool) (c1_3 : List Int) (c1_4z : Bool) (c1_4 : List T) : impl_QcVotes.l0b (fun r => (ret r).map e) (fun x3 x16z x16 x17 x18 c1_0 c1_1 c1_2z c1_2 c1_3z c1_3 c1_4z c1_4 => (j0 x3 x16z x16 x17 x18 c1_0 c1_1 c1_2z c1_2 c1_3z c1_3 c1_4z c1_4).map e) k x3 x16z x16 x17 x18 c1_0 c1_1 c1_2z c1_2 c1_3z c1_3 c1_4z c1_4 = (impl_QcVotes.l0b ret j0 k x3 x16z x16 x17 x18 c1_0 c1_1 c1_2z c1_2 c1_3z c1_3 c1_4z c1_4).map e := by
  unfold impl_QcVotes.l0b
  repeat' first | with_reducible refine nat_cond ?_ ?_ | with_reducible refine nat_bind fun _ => ?_ | rfl
theorem impl_QcVotes.rq (a0_0 a0_1 : Int) (a0_2z : Bool) (a0_2 : List Int) (a0_3z : Bool) (a0_3 : List Int) (a0_4z : Bool) (a0_4 : List T) : ∀ k, (∀ (x3 : List T) (x16z : Bool) (x16 : List Int) (x17 x18 : Int) (c1_0 c1_1 : Int) (c1_2z : Bool) (c1_2 : List Int) (c1_3z : Bool) (c1_3 : List Int) (c1_4z : Bool) (c1_4 : List T), rounds Tryz.prog impl_QcVotes.Cs (finish Tryz.prog [] Tryz.f64 [.v (.agg [(.int .i64 a0_0), (.int .i64 a0_1), (.nums 5 .u8 a0_2z a0_2), (.nums 5 .u8 a0_3z a0_3), (.sl 28 a0_4z a0_4)])]) 100000 k impl_QcVotes.K0 (impl_QcVotes.N0 x3 x16z x16 x17 x18 c1_0 c1_1 c1_2z c1_2 c1_3z c1_3 c1_4z c1_4) = (impl_QcVotes.l0 k x3 x16z x16 x17 x18 c1_0 c1_1 c1_2z c1_2 c1_3z c1_3 c1_4z c1_4).map impl_QcVotes.enc)
  | 0 => fun _ _ _ _ _ _ _ _ _ _ _ _ _ => rfl
  | k + 1 => by
    have ih := impl_QcVotes.rq a0_0 a0_1 a0_2z a0_2 a0_3z a0_3 a0_4z a0_4 k
    refine fun _ _ _ _ _ _ _ _ _ _ _ _ _ => ?_
    · refine (impl_QcVotes.s0 k _ a0_0 a0_1 a0_2z a0_2 a0_3z a0_3 a0_4z a0_4 _ _ _ _ _ _ _ _ _ _ _ _ _).trans (Eq.trans ?_ (impl_QcVotes.l0n impl_QcVotes.enc some (impl_QcVotes.l0 k) k _ _ _ _ _ _ _ _ _ _ _ _ _))
      simp only [ih, Option.map_some]
theorem impl_QcVotes.eq (k : Nat) (a0_0 a0_1 : Int) (a0_2z : Bool) (a0_2 : List Int) (a0_3z : Bool) (a0_3 : List Int) (a0_4z : Bool) (a0_4 : List T) : answer Tryz.prog impl_QcVotes.Cs 100000 impl_QcVotes.cuts [] Tryz.f64 (k + 1) [.v (.agg [(.int .i64 a0_0), (.int .i64 a0_1), (.nums 5 .u8 a0_2z a0_2), (.nums 5 .u8 a0_3z a0_3), (.sl 28 a0_4z a0_4)])] = (impl_QcVotes.f (k + 1) a0_0 a0_1 a0_2z a0_2 a0_3z a0_3 a0_4z a0_4).map impl_QcVotes.enc := by
  have ih := impl_QcVotes.rq a0_0 a0_1 a0_2z a0_2 a0_3z a0_3 a0_4z a0_4 k
  refine Eq.trans (b := impl_QcVotes.b (fun r => some (impl_QcVotes.enc r)) (fun x3 x16z x16 x17 x18 c1_0 c1_1 c1_2z c1_2 c1_3z c1_3 c1_4z c1_4 => rounds Tryz.prog impl_QcVotes.Cs (finish Tryz.prog [] Tryz.f64 [.v (.agg [(.int .i64 a0_0), (.int .i64 a0_1), (.nums 5 .u8 a0_2z a0_2), (.nums 5 .u8 a0_3z a0_3), (.sl 28 a0_4z a0_4)])]) 100000 k impl_QcVotes.K0 (impl_QcVotes.N0 x3 x16z x16 x17 x18 c1_0 c1_1 c1_2z c1_2 c1_3z c1_3 c1_4z c1_4)) k a0_0 a0_1 a0_2z a0_2 a0_3z a0_3 a0_4z a0_4) (by kernel_rfl) (Eq.trans ?_ (impl_QcVotes.bn impl_QcVotes.enc some (impl_QcVotes.l0 k) k a0_0 a0_1 a0_2z a0_2 a0_3z a0_3 a0_4z a0_4))
  simp only [ih, Option.map_some]
theorem impl_QcVotes.sound (k : Nat) : SoundF Tryz.prog 64 (fun a => (impl_QcVotes.ans k a).val) := by
  refine sound_plain (fun args res h => ?_) (fun t n => rfl)
  unfold impl_QcVotes.ans at h
  dsimp only at h
  split at h
  · cases k with
    | zero => cases h
    | succ k =>
      unfold Ans.val at h
      rw [← impl_QcVotes.eq] at h
      exact answer_sound mixed Tryz.func64 _ _ _ (k + 1) (fun j _ => tab_sound (tab_cons (impl_copyBytes.sound j) (tab_cons (impl_BitsList.sound j) (tab_cons (impl_BitsCount.sound j) (tab_nil))))) _ _ h
  · exact (Ans.no_val h).elim

def impl_WeightOf.b {R : Type} (ret : Int → Option R) (j0 : Int → Bool → (List Int) → Int → Int → Bool → (List T) → Option R) (k : Nat) (a0_0z : Bool) (a0_0 : List T) (a1z : Bool) (a1 : List Int) : Option R :=
  (impl_TableOk.f k a0_0z a0_0).bind fun t0 => cond (!t0) (ret 0) ((impl_BitsOk.f k a1z a1 ((a0_0).length : Int)).bind fun t1 => cond (!t1) (ret 0) ((impl_BitsList.f k a1z a1).bind fun t2 => j0 0 t2.1 t2.2 ((t2.2).length : Int) 0 a0_0z a0_0))
def impl_WeightOf.l0b {R : Type} (ret : Int → Option R) (j0 : Int → Bool → (List Int) → Int → Int → Bool → (List T) → Option R) (k : Nat) (x5 : Int) (x20z : Bool) (x20 : List Int) (x21 x22 : Int) (c2_0z : Bool) (c2_0 : List T) : Option R :=
  cond (decide (x22 < x21)) (cond (decide (0 ≤ x22)) (cond (decide (x22 < ((x20).length : Int))) (cond (decide (0 ≤ (rdI x20 x22))) (cond (decide ((rdI x20 x22) < ((c2_0).length : Int))) (j0 (wrap64 (x5 + ((((c2_0).getD ((rdI x20 x22)).toNat .bad).cells.getD 0 .bad)).toInt)) x20z x20 x21 (wrap64 (x22 + 1)) c2_0z c2_0) (none)) (none)) (none)) (none)) (ret x5)
def impl_WeightOf.l0 : Nat → Int → Bool → (List Int) → Int → Int → Bool → (List T) → Option Int
  | 0, _, _, _, _, _, _, _ => none
  | k + 1, x5, x20z, x20, x21, x22, c2_0z, c2_0 => impl_WeightOf.l0b some (impl_WeightOf.l0 k) k x5 x20z x20 x21 x22 c2_0z c2_0
def impl_WeightOf.f : Nat → Bool → (List T) → Bool → (List Int) → Option Int
  | 0, _, _, _, _ => none
  | k + 1, a0_0z, a0_0, a1z, a1 => impl_WeightOf.b some (impl_WeightOf.l0 k) k a0_0z a0_0 a1z a1
def impl_WeightOf.enc (r : Int) : Res := ⟨[.vals false [((.int .i64 r), true)]], []⟩
def impl_WeightOf.ans (k : Nat) : List Arg → Ans
  | [.v (.agg [(.sl 85 a0_0z a0_0)]), .v (.nums 5 .u8 a1z a1)] => ⟨impl_WeightOf.f k a0_0z a0_0 a1z a1, impl_WeightOf.enc⟩
  | _ => Ans.no
def impl_WeightOf.Cs (k : Nat) : CallSem := tab [(58, impl_TableOk.ans k), (86, impl_BitsOk.ans k), (88, impl_BitsList.ans k)]
def impl_WeightOf.cuts : List (Nat × Keep) := [(122, ⟨[(2, some []), (5, some []), (20, none), (21, some []), (22, some [])], [(2, [some []])]⟩)]
noncomputable def impl_WeightOf.K0 : List Fr := framesAt [true, true, true, false, true, false] (bodyOf Tryz.f89 impl_WeightOf.cuts) []
def impl_WeightOf.N0 (x5 : Int) (x20z : Bool) (x20 : List Int) (x21 x22 : Int) (c2_0z : Bool) (c2_0 : List T) : St := stOf 36 36 2 [(2, .bp 2 0), (5, .val (V.s (.int .i64 x5))), (20, .val ⟨(.nums 3 .i64 x20z x20), [.l 20 0], true, some (.l 20 0)⟩), (21, .val (V.s (.int .i64 x21))), (22, .val (V.s (.int .i64 x22)))] [(2, .cells [⟨(.sl 85 c2_0z c2_0), [], false, none⟩])]
theorem impl_WeightOf.s0 (k : Nat) (G : List Fr → St → Option Res) (a0_0z : Bool) (a0_0 : List T) (a1z : Bool) (a1 : List Int) (yx5 : Int) (yx20z : Bool) (yx20 : List Int) (yx21 yx22 : Int) (yc2_0z : Bool) (yc2_0 : List T) : resume Tryz.prog (impl_WeightOf.Cs k) G (finish Tryz.prog [] Tryz.f89 [.v (.agg [(.sl 85 a0_0z a0_0)]), .v (.nums 5 .u8 a1z a1)]) 100000 impl_WeightOf.K0 (impl_WeightOf.N0 yx5 yx20z yx20 yx21 yx22 yc2_0z yc2_0) = impl_WeightOf.l0b (fun r => some (impl_WeightOf.enc r)) (fun x5 x20z x20 x21 x22 c2_0z c2_0 => G impl_WeightOf.K0 (impl_WeightOf.N0 x5 x20z x20 x21 x22 c2_0z c2_0)) k yx5 yx20z yx20 yx21 yx22 yc2_0z yc2_0 := by kernel_rfl
theorem impl_WeightOf.bn {R R' : Type} (e : R → R') (ret : Int → Option R) (j0 : Int → Bool → (List Int) → Int → Int → Bool → (List T) → Option R) (k : Nat) (a0_0z : Bool) (a0_0 : List T) (a1z : Bool) (a1 : List Int) : impl_WeightOf.b (fun r => (ret r).map e) (fun x5 x20z x20 x21 x22 c2_0z c2_0 => (j0 x5 x20z x20 x21 x22 c2_0z c2_0).map e) k a0_0z a0_0 a1z a1 = (impl_WeightOf.b ret j0 k a0_0z a0_0 a1z a1).map e := by
  unfold impl_WeightOf.b
  repeat' first | with_reducible refine nat_cond ?_ ?_ | with_reducible refine nat_bind fun _ => ?_ | rfl
theorem impl_WeightOf.l0n {R R' : Type} (e : R → R') (ret : Int → Option R) (j0 : Int → Bool → (List Int) → Int → Int → Bool → (List T) → Option R) (k : Nat) (x5 : Int) (x20z : Bool) (x20 : List Int) (x21 x22 : Int) (c2_0z : Bool) (c2_0 : List T) : impl_WeightOf.l0b (fun r => (ret r).map e) (fun x5 x20z x20 x21 x22 c2_0z c2_0 => (j0 x5 x20z x20 x21 x22 c2_0z c2_0).map e) k x5 x20z x20 x21 x22 c2_0z c2_0 = (impl_WeightOf.l0b ret j0 k x5 x20z x20 x21 x22 c2_0z c2_0).map e := by
  unfold impl_WeightOf.l0b
  repeat' first | with_reducible refine nat_cond ?_ ?_ | with_reducible refine nat_bind fun _ => ?_ | rfl
theorem impl_WeightOf.rq (a0_0z : Bool) (a0_0 : List T) (a1z : Bool) (a1 : List Int) : ∀ k, (∀ (x5 : Int) (x20z : Bool) (x20 : List Int) (x21 x22 : Int) (c2_0z : Bool) (c2_0 : List T), rounds Tryz.prog impl_WeightOf.Cs (finish Tryz.prog [] Tryz.f89 [.v (.agg [(.sl 85 a0_0z a0_0)]), .v (.nums 5 .u8 a1z a1)]) 100000 k impl_WeightOf.K0 (impl_WeightOf.N0 x5 x20z x20 x21 x22 c2_0z c2_0) = (impl_WeightOf.l0 k x5 x20z x20 x21 x22 c2_0z c2_0).map impl_WeightOf.enc)
  | 0 => fun _ _ _ _ _ _ _ => rfl
  | k + 1 => by
    have ih := impl_WeightOf.rq a0_0z a0_0 a1z a1 k
    refine fun _ _ _ _ _ _ _ => ?_
    · refine (impl_WeightOf.s0 k _ a0_0z a0_0 a1z a1 _ _ _ _ _ _ _).trans (Eq.trans ?_ (impl_WeightOf.l0n impl_WeightOf.enc some (impl_WeightOf.l0 k) k _ _ _ _ _ _ _))
      simp only [ih, Option.map_some]
theorem impl_WeightOf.eq (k : Nat) (a0_0z : Bool) (a0_0 : List T) (a1z : Bool) (a1 : List Int) : answer Tryz.prog impl_WeightOf.Cs 100000 impl_WeightOf.cuts [] Tryz.f89 (k + 1) [.v (.agg [(.sl 85 a0_0z a0_0)]), .v (.nums 5 .u8 a1z a1)] = (impl_WeightOf.f (k + 1) a0_0z a0_0 a1z a1).map impl_WeightOf.enc := by
  have ih := impl_WeightOf.rq a0_0z a0_0 a1z a1 k
  refine Eq.trans (b := impl_WeightOf.b (fun r => some (impl_WeightOf.enc r)) (fun x5 x20z x20 x21 x22 c2_0z c2_0 => rounds Tryz.prog impl_WeightOf.Cs (finish Tryz.prog [] Tryz.f89 [.v (.agg [(.sl 85 a0_0z a0_0)]), .v (.nums 5 .u8 a1z a1)]) 100000 k impl_WeightOf.K0 (impl_WeightOf.N0 x5 x20z x20 x21 x22 c2_0z c2_0)) k a0_0z a0_0 a1z a1) (by kernel_rfl) (Eq.trans ?_ (impl_WeightOf.bn impl_WeightOf.enc some (impl_WeightOf.l0 k) k a0_0z a0_0 a1z a1))
  simp only [ih, Option.map_some]
theorem impl_WeightOf.sound (k : Nat) : SoundF Tryz.prog 89 (fun a => (impl_WeightOf.ans k a).val) := by
  refine sound_plain (fun args res h => ?_) (fun t n => rfl)
  unfold impl_WeightOf.ans at h
  dsimp only at h
  split at h
  · cases k with
    | zero => cases h
    | succ k =>
      unfold Ans.val at h
      rw [← impl_WeightOf.eq] at h
      exact answer_sound mixed Tryz.func89 _ _ _ (k + 1) (fun j _ => tab_sound (tab_cons (impl_TableOk.sound j) (tab_cons (impl_BitsOk.sound j) (tab_cons (impl_BitsList.sound j) (tab_nil))))) _ _ h
  · exact (Ans.no_val h).elim

def impl_TotalOf.b {R : Type} (ret : Int → Option R) (j0 : Int → Bool → (List T) → Int → Int → Bool → (List T) → Option R) (k : Nat) (a0_0z : Bool) (a0_0 : List T) : Option R :=
  j0 0 a0_0z a0_0 ((a0_0).length : Int) 0 a0_0z a0_0
def impl_TotalOf.l0b {R : Type} (ret : Int → Option R) (j0 : Int → Bool → (List T) → Int → Int → Bool → (List T) → Option R) (k : Nat) (x3 : Int) (x7z : Bool) (x7 : List T) (x8 x9 : Int) (c1_0z : Bool) (c1_0 : List T) : Option R :=
  cond (decide (x9 < x8)) (cond (decide (0 ≤ x9)) (cond (decide (x9 < ((x7).length : Int))) ((impl_TableOk.f k c1_0z c1_0).bind fun t0 => cond t0 (j0 (wrap64 (x3 + ((((x7).getD (x9).toNat .bad).cells.getD 0 .bad)).toInt)) x7z x7 x8 (wrap64 (x9 + 1)) c1_0z c1_0) (j0 x3 x7z x7 x8 (wrap64 (x9 + 1)) c1_0z c1_0)) (none)) (none)) (ret x3)
def impl_TotalOf.l0 : Nat → Int → Bool → (List T) → Int → Int → Bool → (List T) → Option Int
  | 0, _, _, _, _, _, _, _ => none
  | k + 1, x3, x7z, x7, x8, x9, c1_0z, c1_0 => impl_TotalOf.l0b some (impl_TotalOf.l0 k) k x3 x7z x7 x8 x9 c1_0z c1_0
def impl_TotalOf.f : Nat → Bool → (List T) → Option Int
  | 0, _, _ => none
  | k + 1, a0_0z, a0_0 => impl_TotalOf.b some (impl_TotalOf.l0 k) k a0_0z a0_0
def impl_TotalOf.enc (r : Int) : Res := ⟨[.vals false [((.int .i64 r), true)]], []⟩
def impl_TotalOf.ans (k : Nat) : List Arg → Ans
  | [.v (.agg [(.sl 85 a0_0z a0_0)])] => ⟨impl_TotalOf.f k a0_0z a0_0, impl_TotalOf.enc⟩
  | _ => Ans.no
def impl_TotalOf.Cs (k : Nat) : CallSem := tab [(58, impl_TableOk.ans k)]
def impl_TotalOf.cuts : List (Nat × Keep) := [(58, ⟨[(1, some []), (3, some []), (7, some []), (8, some []), (9, some [])], [(1, [some []])]⟩)]
noncomputable def impl_TotalOf.K0 : List Fr := framesAt [true, true, false, true, false] (bodyOf Tryz.f90 impl_TotalOf.cuts) []
def impl_TotalOf.N0 (x3 : Int) (x7z : Bool) (x7 : List T) (x8 x9 : Int) (c1_0z : Bool) (c1_0 : List T) : St := stOf 21 21 1 [(1, .bp 1 0), (3, .val (V.s (.int .i64 x3))), (7, .val ⟨(.sl 85 x7z x7), [], false, none⟩), (8, .val (V.s (.int .i64 x8))), (9, .val (V.s (.int .i64 x9)))] [(1, .cells [⟨(.sl 85 c1_0z c1_0), [], false, none⟩])]
theorem impl_TotalOf.s0 (k : Nat) (G : List Fr → St → Option Res) (a0_0z : Bool) (a0_0 : List T) (yx3 : Int) (yx7z : Bool) (yx7 : List T) (yx8 yx9 : Int) (yc1_0z : Bool) (yc1_0 : List T) : resume Tryz.prog (impl_TotalOf.Cs k) G (finish Tryz.prog [] Tryz.f90 [.v (.agg [(.sl 85 a0_0z a0_0)])]) 100000 impl_TotalOf.K0 (impl_TotalOf.N0 yx3 yx7z yx7 yx8 yx9 yc1_0z yc1_0) = impl_TotalOf.l0b (fun r => some (impl_TotalOf.enc r)) (fun x3 x7z x7 x8 x9 c1_0z c1_0 => G impl_TotalOf.K0 (impl_TotalOf.N0 x3 x7z x7 x8 x9 c1_0z c1_0)) k yx3 yx7z yx7 yx8 yx9 yc1_0z yc1_0 := by kernel_rfl
theorem impl_TotalOf.bn {R R' : Type} (e : R → R') (ret : Int → Option R) (j0 : Int → Bool → (List T) → Int → Int → Bool → (List T) → Option R) (k : Nat) (a0_0z : Bool) (a0_0 : List T) : impl_TotalOf.b (fun r => (ret r).map e) (fun x3 x7z x7 x8 x9 c1_0z c1_0 => (j0 x3 x7z x7 x8 x9 c1_0z c1_0).map e) k a0_0z a0_0 = (impl_TotalOf.b ret j0 k a0_0z a0_0).map e := by
  unfold impl_TotalOf.b
  repeat' first | with_reducible refine nat_cond ?_ ?_ | with_reducible refine nat_bind fun _ => ?_ | rfl
theorem impl_TotalOf.l0n {R R' : Type} (e : R → R') (ret : Int → Option R) (j0 : Int → Bool → (List T) → Int → Int → Bool → (List T) → Option R) (k : Nat) (x3 : Int) (x7z : Bool) (x7 : List T) (x8 x9 : Int) (c1_0z : Bool) (c1_0 : List T) : impl_TotalOf.l0b (fun r => (ret r).map e) (fun x3 x7z x7 x8 x9 c1_0z c1_0 => (j0 x3 x7z x7 x8 x9 c1_0z c1_0).map e) k x3 x7z x7 x8 x9 c1_0z c1_0 = (impl_TotalOf.l0b ret j0 k x3 x7z x7 x8 x9 c1_0z c1_0).map e := by
  unfold impl_TotalOf.l0b
  repeat' first | with_reducible refine nat_cond ?_ ?_ | with_reducible refine nat_bind fun _ => ?_ | rfl
theorem impl_TotalOf.rq (a0_0z : Bool) (a0_0 : List T) : ∀ k, (∀ (x3 : Int) (x7z : Bool) (x7 : List T) (x8 x9 : Int) (c1_0z : Bool) (c1_0 : List T), rounds Tryz.prog impl_TotalOf.Cs (finish Tryz.prog [] Tryz.f90 [.v (.agg [(.sl 85 a0_0z a0_0)])]) 100000 k impl_TotalOf.K0 (impl_TotalOf.N0 x3 x7z x7 x8 x9 c1_0z c1_0) = (impl_TotalOf.l0 k x3 x7z x7 x8 x9 c1_0z c1_0).map impl_TotalOf.enc)
  | 0 => fun _ _ _ _ _ _ _ => rfl
  | k + 1 => by
    have ih := impl_TotalOf.rq a0_0z a0_0 k
    refine fun _ _ _ _ _ _ _ => ?_
    · refine (impl_TotalOf.s0 k _ a0_0z a0_0 _ _ _ _ _ _ _).trans (Eq.trans ?_ (impl_TotalOf.l0n impl_TotalOf.enc some (impl_TotalOf.l0 k) k _ _ _ _ _ _ _))
      simp only [ih, Option.map_some]
theorem impl_TotalOf.eq (k : Nat) (a0_0z : Bool) (a0_0 : List T) : answer Tryz.prog impl_TotalOf.Cs 100000 impl_TotalOf.cuts [] Tryz.f90 (k + 1) [.v (.agg [(.sl 85 a0_0z a0_0)])] = (impl_TotalOf.f (k + 1) a0_0z a0_0).map impl_TotalOf.enc := by
  have ih := impl_TotalOf.rq a0_0z a0_0 k
  refine Eq.trans (b := impl_TotalOf.b (fun r => some (impl_TotalOf.enc r)) (fun x3 x7z x7 x8 x9 c1_0z c1_0 => rounds Tryz.prog impl_TotalOf.Cs (finish Tryz.prog [] Tryz.f90 [.v (.agg [(.sl 85 a0_0z a0_0)])]) 100000 k impl_TotalOf.K0 (impl_TotalOf.N0 x3 x7z x7 x8 x9 c1_0z c1_0)) k a0_0z a0_0) (by kernel_rfl) (Eq.trans ?_ (impl_TotalOf.bn impl_TotalOf.enc some (impl_TotalOf.l0 k) k a0_0z a0_0))
  simp only [ih, Option.map_some]
theorem impl_TotalOf.sound (k : Nat) : SoundF Tryz.prog 90 (fun a => (impl_TotalOf.ans k a).val) := by
  refine sound_plain (fun args res h => ?_) (fun t n => rfl)
  unfold impl_TotalOf.ans at h
  dsimp only at h
  split at h
  · cases k with
    | zero => cases h
    | succ k =>
      unfold Ans.val at h
      rw [← impl_TotalOf.eq] at h
      exact answer_sound mixed Tryz.func90 _ _ _ (k + 1) (fun j _ => tab_sound (tab_cons (impl_TableOk.sound j) (tab_nil))) _ _ h
  · exact (Ans.no_val h).elim

def impl_IsQuorum.b {R : Type} (ret : Bool → Option R) (k : Nat) (a0_0z : Bool) (a0_0 : List T) (a1z : Bool) (a1 : List Int) : Option R :=
  (impl_TableOk.f k a0_0z a0_0).bind fun t0 => cond t0 ((impl_WeightOf.f k a0_0z a0_0 a1z a1).bind fun t1 => (impl_TotalOf.f k a0_0z a0_0).bind fun t2 => ret (decide ((wrap64 ((3 : Int) * t1)) > (wrap64 ((2 : Int) * t2))))) (ret false)
def impl_IsQuorum.f : Nat → Bool → (List T) → Bool → (List Int) → Option Bool
  | 0, _, _, _, _ => none
  | k + 1, a0_0z, a0_0, a1z, a1 => impl_IsQuorum.b some k a0_0z a0_0 a1z a1
def impl_IsQuorum.enc (r : Bool) : Res := ⟨[.vals false [((.bool r), true)]], []⟩
def impl_IsQuorum.ans (k : Nat) : List Arg → Ans
  | [.v (.agg [(.sl 85 a0_0z a0_0)]), .v (.nums 5 .u8 a1z a1)] => ⟨impl_IsQuorum.f k a0_0z a0_0 a1z a1, impl_IsQuorum.enc⟩
  | _ => Ans.no
def impl_IsQuorum.Cs (k : Nat) : CallSem := tab [(58, impl_TableOk.ans k), (89, impl_WeightOf.ans k), (90, impl_TotalOf.ans k)]
theorem impl_IsQuorum.eq (k : Nat) (a0_0z : Bool) (a0_0 : List T) (a1z : Bool) (a1 : List Int) : answer Tryz.prog impl_IsQuorum.Cs 100000 [] [] Tryz.f65 (k + 1) [.v (.agg [(.sl 85 a0_0z a0_0)]), .v (.nums 5 .u8 a1z a1)] = (impl_IsQuorum.f (k + 1) a0_0z a0_0 a1z a1).map impl_IsQuorum.enc := by
  refine Eq.trans (b := impl_IsQuorum.b (fun r => some (impl_IsQuorum.enc r)) k a0_0z a0_0 a1z a1) (by kernel_rfl) ?_
  show _ = (impl_IsQuorum.b some k a0_0z a0_0 a1z a1).map impl_IsQuorum.enc
  unfold impl_IsQuorum.b
  repeat' first | with_reducible refine nat_cond ?_ ?_ | with_reducible refine nat_bind fun _ => ?_ | rfl
theorem impl_IsQuorum.sound (k : Nat) : SoundF Tryz.prog 65 (fun a => (impl_IsQuorum.ans k a).val) := by
  refine sound_plain (fun args res h => ?_) (fun t n => rfl)
  unfold impl_IsQuorum.ans at h
  dsimp only at h
  split at h
  · cases k with
    | zero => cases h
    | succ k =>
      unfold Ans.val at h
      rw [← impl_IsQuorum.eq] at h
      exact answer_sound mixed Tryz.func65 _ _ _ (k + 1) (fun j _ => tab_sound (tab_cons (impl_TableOk.sound j) (tab_cons (impl_WeightOf.sound j) (tab_cons (impl_TotalOf.sound j) (tab_nil))))) _ _ h
  · exact (Ans.no_val h).elim

def impl_QcCode.b {R : Type} (ret : Int → Option R) (j0 : Bool → (List T) → Int → Int → Bool → (List T) → Int → Int → Bool → (List Int) → Bool → (List Int) → Bool → (List T) → Option R) (k : Nat) (a0_0 a0_1 : Int) (a0_2 a0_3 a0_4 : Int) (a1_0z : Bool) (a1_0 : List T) (a2_0 a2_1 : Int) (a2_2z : Bool) (a2_2 : List Int) (a2_3z : Bool) (a2_3 : List Int) (a2_4z : Bool) (a2_4 : List T) : Option R :=
  (impl_belongs.f k a0_0 a0_1 a0_2 a0_3 a0_4 a1_0z a1_0).bind fun t0 => cond (!t0) (ret 1) ((impl_QcOk.f k a0_0 a0_1 a0_2 a0_3 a0_4 a2_0 a2_1 a2_2z a2_2 a2_3z a2_3 a2_4z a2_4).bind fun t1 => cond (!t1) (ret 1) ((impl_QcVotes.f k a2_0 a2_1 a2_2z a2_2 a2_3z a2_3 a2_4z a2_4).bind fun t2 => j0 t2.1 t2.2 ((t2.2).length : Int) 0 a1_0z a1_0 a2_0 a2_1 a2_2z a2_2 a2_3z a2_3 a2_4z a2_4))
def impl_QcCode.l0b {R : Type} (ret : Int → Option R) (j0 : Bool → (List T) → Int → Int → Bool → (List T) → Int → Int → Bool → (List Int) → Bool → (List Int) → Bool → (List T) → Option R) (k : Nat) (x20z : Bool) (x20 : List T) (x21 x22 : Int) (c4_0z : Bool) (c4_0 : List T) (c5_0 c5_1 : Int) (c5_2z : Bool) (c5_2 : List Int) (c5_3z : Bool) (c5_3 : List Int) (c5_4z : Bool) (c5_4 : List T) : Option R :=
  cond (decide (x22 < x21)) (cond (decide (0 ≤ x22)) (cond (decide (x22 < ((x20).length : Int))) ((impl_VoteGood.f k c4_0z c4_0 (((((x20).getD (x22).toNat .bad).cells.getD 0 .bad)).toInt) (((((x20).getD (x22).toNat .bad).cells.getD 1 .bad)).toInt) (((((x20).getD (x22).toNat .bad).cells.getD 2 .bad)).isNil) (((((x20).getD (x22).toNat .bad).cells.getD 2 .bad)).toNums) (((((x20).getD (x22).toNat .bad).cells.getD 3 .bad)).toInt) (((((x20).getD (x22).toNat .bad).cells.getD 4 .bad)).isNil) (((((x20).getD (x22).toNat .bad).cells.getD 4 .bad)).toNums)).bind fun t0 => cond (!t0) (ret 2) (j0 x20z x20 x21 (wrap64 (x22 + 1)) c4_0z c4_0 c5_0 c5_1 c5_2z c5_2 c5_3z c5_3 c5_4z c5_4)) (none)) (none)) ((impl_IsQuorum.f k c4_0z c4_0 c5_3z c5_3).bind fun t0 => cond (!t0) (ret 3) (ret 0))
def impl_QcCode.l0 : Nat → Bool → (List T) → Int → Int → Bool → (List T) → Int → Int → Bool → (List Int) → Bool → (List Int) → Bool → (List T) → Option Int
  | 0, _, _, _, _, _, _, _, _, _, _, _, _, _, _ => none
  | k + 1, x20z, x20, x21, x22, c4_0z, c4_0, c5_0, c5_1, c5_2z, c5_2, c5_3z, c5_3, c5_4z, c5_4 => impl_QcCode.l0b some (impl_QcCode.l0 k) k x20z x20 x21 x22 c4_0z c4_0 c5_0 c5_1 c5_2z c5_2 c5_3z c5_3 c5_4z c5_4
def impl_QcCode.f : Nat → Int → Int → Int → Int → Int → Bool → (List T) → Int → Int → Bool → (List Int) → Bool → (List Int) → Bool → (List T) → Option Int
  | 0, _, _, _, _, _, _, _, _, _, _, _, _, _, _, _ => none
  | k + 1, a0_0, a0_1, a0_2, a0_3, a0_4, a1_0z, a1_0, a2_0, a2_1, a2_2z, a2_2, a2_3z, a2_3, a2_4z, a2_4 => impl_QcCode.b some (impl_QcCode.l0 k) k a0_0 a0_1 a0_2 a0_3 a0_4 a1_0z a1_0 a2_0 a2_1 a2_2z a2_2 a2_3z a2_3 a2_4z a2_4
def impl_QcCode.enc (r : Int) : Res := ⟨[.vals false [((.int .i64 r), true)]], []⟩
def impl_QcCode.ans (k : Nat) : List Arg → Ans
  | [.v (.agg [(.int .i64 a0_0), (.int .i64 a0_1), (.int .i64 a0_2), (.int .i64 a0_3), (.int .i64 a0_4)]), .v (.agg [(.sl 85 a1_0z a1_0)]), .v (.agg [(.int .i64 a2_0), (.int .i64 a2_1), (.nums 5 .u8 a2_2z a2_2), (.nums 5 .u8 a2_3z a2_3), (.sl 28 a2_4z a2_4)])] => ⟨impl_QcCode.f k a0_0 a0_1 a0_2 a0_3 a0_4 a1_0z a1_0 a2_0 a2_1 a2_2z a2_2 a2_3z a2_3 a2_4z a2_4, impl_QcCode.enc⟩
  | _ => Ans.no
def impl_QcCode.Cs (k : Nat) : CallSem := tab [(30, impl_belongs.ans k), (35, impl_VoteGood.ans k), (63, impl_QcOk.ans k), (64, impl_QcVotes.ans k), (65, impl_IsQuorum.ans k)]
def impl_QcCode.cuts : List (Nat × Keep) := [(58, ⟨[(4, some []), (5, some []), (20, none), (21, some []), (22, some [])], [(4, [some []]), (5, [some [], some [], some [], some [], some []])]⟩)]
noncomputable def impl_QcCode.K0 : List Fr := framesAt [true, true, false, true, false] (bodyOf Tryz.f37 impl_QcCode.cuts) []
def impl_QcCode.N0 (x20z : Bool) (x20 : List T) (x21 x22 : Int) (c4_0z : Bool) (c4_0 : List T) (c5_0 c5_1 : Int) (c5_2z : Bool) (c5_2 : List Int) (c5_3z : Bool) (c5_3 : List Int) (c5_4z : Bool) (c5_4 : List T) : St := stOf 36 36 3 [(4, .bp 4 0), (5, .bp 5 0), (20, .val ⟨(.sl 59 x20z x20), [.l 20 0], true, some (.l 20 0)⟩), (21, .val (V.s (.int .i64 x21))), (22, .val (V.s (.int .i64 x22)))] [(4, .cells [⟨(.sl 85 c4_0z c4_0), [], false, none⟩]), (5, .cells [V.s (.int .i64 c5_0), V.s (.int .i64 c5_1), ⟨(.nums 5 .u8 c5_2z c5_2), [], false, none⟩, ⟨(.nums 5 .u8 c5_3z c5_3), [], false, none⟩, ⟨(.sl 28 c5_4z c5_4), [], false, none⟩])]
theorem impl_QcCode.s0 (k : Nat) (G : List Fr → St → Option Res) (a0_0 a0_1 : Int) (a0_2 a0_3 a0_4 : Int) (a1_0z : Bool) (a1_0 : List T) (a2_0 a2_1 : Int) (a2_2z : Bool) (a2_2 : List Int) (a2_3z : Bool) (a2_3 : List Int) (a2_4z : Bool) (a2_4 : List T) (yx20z : Bool) (yx20 : List T) (yx21 yx22 : Int) (yc4_0z : Bool) (yc4_0 : List T) (yc5_0 yc5_1 : Int) (yc5_2z : Bool) (yc5_2 : List Int) (yc5_3z : Bool) (yc5_3 : List Int) (yc5_4z : Bool) (yc5_4 : List T) : resume Tryz.prog (impl_QcCode.Cs k) G (finish Tryz.prog [] Tryz.f37 [.v (.agg [(.int .i64 a0_0), (.int .i64 a0_1), (.int .i64 a0_2), (.int .i64 a0_3), (.int .i64 a0_4)]), .v (.agg [(.sl 85 a1_0z a1_0)]), .v (.agg [(.int .i64 a2_0), (.int .i64 a2_1), (.nums 5 .u8 a2_2z a2_2), (.nums 5 .u8 a2_3z a2_3), (.sl 28 a2_4z a2_4)])]) 100000 impl_QcCode.K0 (impl_QcCode.N0 yx20z yx20 yx21 yx22 yc4_0z yc4_0 yc5_0 yc5_1 yc5_2z yc5_2 yc5_3z yc5_3 yc5_4z yc5_4) = impl_QcCode.l0b (fun r => some (impl_QcCode.enc r)) (fun x20z x20 x21 x22 c4_0z c4_0 c5_0 c5_1 c5_2z c5_2 c5_3z c5_3 c5_4z c5_4 => G impl_QcCode.K0 (impl_QcCode.N0 x20z x20 x21 x22 c4_0z c4_0 c5_0 c5_1 c5_2z c5_2 c5_3z c5_3 c5_4z c5_4)) k yx20z yx20 yx21 yx22 yc4_0z yc4_0 yc5_0 yc5_1 yc5_2z yc5_2 yc5_3z yc5_3 yc5_4z yc5_4 := by kernel_rfl
theorem impl_QcCode.bn {R R' : Type} (e : R → R') (ret : Int → Option R) (j0 : Bool → (List T) → Int → Int → Bool → (List T) → Int → Int → Bool → (List Int) → Bool → (List Int) → Bool → (List T) → Option R) (k : Nat) (a0_0 a0_1 : Int) (a0_2 a0_3 a0_4 : Int) (a1_0z : Bool) (a1_0 : List T) (a2_0 a2_1 : Int) (a2_2z : Bool) (a2_2 : List Int) (a2_3z : Bool) (a2_3 : List Int) (a2_4z : Bool) (a2_4 : List T) : impl_QcCode.b (fun r => (ret r).map e) (fun x20z x20 x21 x22 c4_0z c4_0 c5_0 c5_1 c5_2z c5_2 c5_3z c5_3 c5_4z c5_4 => (j0 x20z x20 x21 x22 c4_0z c4_0 c5_0 c5_1 c5_2z c5_2 c5_3z c5_3 c5_4z c5_4).map e) k a0_0 a0_1 a0_2 a0_3 a0_4 a1_0z a1_0 a2_0 a2_1 a2_2z a2_2 a2_3z a2_3 a2_4z a2_4 = (impl_QcCode.b ret j0 k a0_0 a0_1 a0_2 a0_3 a0_4 a1_0z a1_0 a2_0 a2_1 a2_2z a2_2 a2_3z a2_3 a2_4z a2_4).map e := by
  unfold impl_QcCode.b
  repeat' first | with_reducible refine nat_cond ?_ ?_ | with_reducible refine nat_bind fun _ => ?_ | rfl
theorem impl_QcCode.l0n {R R' : Type} (e : R → R') (ret : Int → Option R) (j0 : Bool → (List T) → Int → Int → Bool → (List T) → Int → Int → Bool → (List Int) → Bool → (List Int) → Bool → (List T) → Option R) (k : Nat) (x20z : Bool) (x20 : List T) (x21 x22 : Int) (c4_0z : Bool) (c4_0 : List T) (c5_0 c5_1 : Int) (c5_2z : Bool) (c5_2 : List Int) (c5_3z : Bool) (c5_3 : List Int) (c5_4z : Bool) (c5_4 : List T) : impl_QcCode.l0b (fun r => (ret r).map e) (fun x20z x20 x21 x22 c4_0z c4_0 c5_0 c5_1 c5_2z c5_2 c5_3z c5_3 c5_4z c5_4 => (j0 x20z x20 x21 x22 c4_0z c4_0 c5_0 c5_1 c5_2z c5_2 c5_3z c5_3 c5_4z c5_4).map e) k x20z x20 x21 x22 c4_0z c4_0 c5_0 c5_1 c5_2z c5_2 c5_3z c5_3 c5_4z c5_4 = (impl_QcCode.l0b ret j0 k x20z x20 x21 x22 c4_0z c4_0 c5_0 c5_1 c5_2z c5_2 c5_3z c5_3 c5_4z c5_4).map e := by
  unfold impl_QcCode.l0b
  repeat' first | with_reducible refine nat_cond ?_ ?_ | with_reducible refine nat_bind fun _ => ?_ | rfl
theorem impl_QcCode.rq (a0_0 a0_1 : Int) (a0_2 a0_3 a0_4 : Int) (a1_0z : Bool) (a1_0 : List T) (a2_0 a2_1 : Int) (a2_2z : Bool) (a2_2 : List Int) (a2_3z : Bool) (a2_3 : List Int) (a2_4z : Bool) (a2_4 : List T) : ∀ k, (∀ (x20z : Bool) (x20 : List T) (x21 x22 : Int) (c4_0z : Bool) (c4_0 : List T) (c5_0 c5_1 : Int) (c5_2z : Bool) (c5_2 : List Int) (c5_3z : Bool) (c5_3 : List Int) (c5_4z : Bool) (c5_4 : List T), rounds Tryz.prog impl_QcCode.Cs (finish Tryz.prog [] Tryz.f37 [.v (.agg [(.int .i64 a0_0), (.int .i64 a0_1), (.int .i64 a0_2), (.int .i64 a0_3), (.int .i64 a0_4)]), .v (.agg [(.sl 85 a1_0z a1_0)]), .v (.agg [(.int .i64 a2_0), (.int .i64 a2_1), (.nums 5 .u8 a2_2z a2_2), (.nums 5 .u8 a2_3z a2_3), (.sl 28 a2_4z a2_4)])]) 100000 k impl_QcCode.K0 (impl_QcCode.N0 x20z x20 x21 x22 c4_0z c4_0 c5_0 c5_1 c5_2z c5_2 c5_3z c5_3 c5_4z c5_4) = (impl_QcCode.l0 k x20z x20 x21 x22 c4_0z c4_0 c5_0 c5_1 c5_2z c5_2 c5_3z c5_3 c5_4z c5_4).map impl_QcCode.enc)
  | 0 => fun _ _ _ _ _ _ _ _ _ _ _ _ _ _ => rfl
  | k + 1 => by
    have ih := impl_QcCode.rq a0_0 a0_1 a0_2 a0_3 a0_4 a1_0z a1_0 a2_0 a2_1 a2_2z a2_2 a2_3z a2_3 a2_4z a2_4 k
    refine fun _ _ _ _ _ _ _ _ _ _ _ _ _ _ => ?_
    · refine (impl_QcCode.s0 k _ a0_0 a0_1 a0_2 a0_3 a0_4 a1_0z a1_0 a2_0 a2_1 a2_2z a2_2 a2_3z a2_3 a2_4z a2_4 _ _ _ _ _ _ _ _ _ _ _ _ _ _).trans (Eq.trans ?_ (impl_QcCode.l0n impl_QcCode.enc some (impl_QcCode.l0 k) k _ _ _ _ _ _ _ _ _ _ _ _ _ _))
      simp only [ih, Option.map_some]
theorem impl_QcCode.eq (k : Nat) (a0_0 a0_1 : Int) (a0_2 a0_3 a0_4 : Int) (a1_0z : Bool) (a1_0 : List T) (a2_0 a2_1 : Int) (a2_2z : Bool) (a2_2 : List Int) (a2_3z : Bool) (a2_3 : List Int) (a2_4z : Bool) (a2_4 : List T) : answer Tryz.prog impl_QcCode.Cs 100000 impl_QcCode.cuts [] Tryz.f37 (k + 1) [.v (.agg [(.int .i64 a0_0), (.int .i64 a0_1), (.int .i64 a0_2), (.int .i64 a0_3), (.int .i64 a0_4)]), .v (.agg [(.sl 85 a1_0z a1_0)]), .v (.agg [(.int .i64 a2_0), (.int .i64 a2_1), (.nums 5 .u8 a2_2z a2_2), (.nums 5 .u8 a2_3z a2_3), (.sl 28 a2_4z a2_4)])] = (impl_QcCode.f (k + 1) a0_0 a0_1 a0_2 a0_3 a0_4 a1_0z a1_0 a2_0 a2_1 a2_2z a2_2 a2_3z a2_3 a2_4z a2_4).map impl_QcCode.enc := by
  have ih := impl_QcCode.rq a0_0 a0_1 a0_2 a0_3 a0_4 a1_0z a1_0 a2_0 a2_1 a2_2z a2_2 a2_3z a2_3 a2_4z a2_4 k
  refine Eq.trans (b := impl_QcCode.b (fun r => some (impl_QcCode.enc r)) (fun x20z x20 x21 x22 c4_0z c4_0 c5_0 c5_1 c5_2z c5_2 c5_3z c5_3 c5_4z c5_4 => rounds Tryz.prog impl_QcCode.Cs (finish Tryz.prog [] Tryz.f37 [.v (.agg [(.int .i64 a0_0), (.int .i64 a0_1), (.int .i64 a0_2), (.int .i64 a0_3), (.int .i64 a0_4)]), .v (.agg [(.sl 85 a1_0z a1_0)]), .v (.agg [(.int .i64 a2_0), (.int .i64 a2_1), (.nums 5 .u8 a2_2z a2_2), (.nums 5 .u8 a2_3z a2_3), (.sl 28 a2_4z a2_4)])]) 100000 k impl_QcCode.K0 (impl_QcCode.N0 x20z x20 x21 x22 c4_0z c4_0 c5_0 c5_1 c5_2z c5_2 c5_3z c5_3 c5_4z c5_4)) k a0_0 a0_1 a0_2 a0_3 a0_4 a1_0z a1_0 a2_0 a2_1 a2_2z a2_2 a2_3z a2_3 a2_4z a2_4) (by kernel_rfl) (Eq.trans ?_ (impl_QcCode.bn impl_QcCode.enc some (impl_QcCode.l0 k) k a0_0 a0_1 a0_2 a0_3 a0_4 a1_0z a1_0 a2_0 a2_1 a2_2z a2_2 a2_3z a2_3 a2_4z a2_4))
  simp only [ih, Option.map_some]
theorem impl_QcCode.sound (k : Nat) : SoundF Tryz.prog 37 (fun a => (impl_QcCode.ans k a).val) := by
  refine sound_plain (fun args res h => ?_) (fun t n => rfl)
  unfold impl_QcCode.ans at h
  dsimp only at h
  split at h
  · cases k with
    | zero => cases h
    | succ k =>
      unfold Ans.val at h
      rw [← impl_QcCode.eq] at h
      exact answer_sound mixed Tryz.func37 _ _ _ (k + 1) (fun j _ => tab_sound (tab_cons (impl_belongs.sound j) (tab_cons (impl_VoteGood.sound j) (tab_cons (impl_QcOk.sound j) (tab_cons (impl_QcVotes.sound j) (tab_cons (impl_IsQuorum.sound j) (tab_nil))))))) _ _ h
  · exact (Ans.no_val h).elim

def impl_Gather.b {R : Type} (ret : Int × Int × Bool × (List Int) × Bool × (List Int) × Bool × (List T) × Bool → Option R) (j0 : Bool → (List T) → (List Int) → Int → Int → Int → Int → Int → Int → Int → Bool → (List T) → Int → Int → Bool → (List Int) → Int → Int → Bool → (List Int) → Bool → (List T) → Option R) (k : Nat) (a0_0 a0_1 : Int) (a0_2 a0_3 a0_4 : Int) (a1_0z : Bool) (a1_0 : List T) (a2z : Bool) (a2 : List T) (a3 a4 : Int) (a5z : Bool) (a5 : List Int) : Option R :=
  (impl_belongs.f k a0_0 a0_1 a0_2 a0_3 a0_4 a1_0z a1_0).bind fun t0 => cond (!t0) (ret (0, 0, true, ([] : List Int), true, ([] : List Int), true, ([] : List T), false)) ((impl_copyBytes.f k a5z a5).bind fun t1 => j0 a2z a2 ([] : List Int) ((a1_0).length : Int) 0 a0_0 a0_1 a0_2 a0_3 a0_4 a1_0z a1_0 a3 a4 a5z a5 a3 a4 t1.1 t1.2 true ([] : List T))
def impl_Gather.l0b {R : Type} (ret : Int × Int × Bool × (List Int) × Bool × (List Int) × Bool × (List T) × Bool → Option R) (j0 : Bool → (List T) → (List Int) → Int → Int → Int → Int → Int → Int → Int → Bool → (List T) → Int → Int → Bool → (List Int) → Int → Int → Bool → (List Int) → Bool → (List T) → Option R) (k : Nat) (x2z : Bool) (x2 : List T) (x15 : List Int) (x31 x32 : Int) (c6_0 c6_1 : Int) (c6_2 c6_3 c6_4 : Int) (c7_0z : Bool) (c7_0 : List T) (c9_0 c10_0 : Int) (c11_0z : Bool) (c11_0 : List Int) (c14_0 c14_1 : Int) (c14_2z : Bool) (c14_2 : List Int) (c14_4z : Bool) (c14_4 : List T) : Option R :=
  cond (decide (x32 < x31)) ((impl_Vote.f k x2z x2 x32 c9_0 c10_0 c11_0z c11_0 c7_0z c7_0).bind fun t0 => cond (decide (t0 ≥ 0)) (cond (decide ((x15).length + 1 < 17592186044416)) (cond (decide (0 ≤ t0)) (cond (decide (t0 < ((x2).length : Int))) ((impl_copyBytes.f k (((((x2).getD (t0).toNat .bad).cells.getD 4 .bad)).isNil) (((((x2).getD (t0).toNat .bad).cells.getD 4 .bad)).toNums)).bind fun t1 => cond (decide ((c14_4).length + 1 < 5864062014805)) (j0 x2z x2 (x15 ++ ([x32] : List Int)) x31 (wrap64 (x32 + 1)) c6_0 c6_1 c6_2 c6_3 c6_4 c7_0z c7_0 c9_0 c10_0 c11_0z c11_0 c14_0 c14_1 c14_2z c14_2 false (c14_4 ++ ([(.nums 5 .u8 t1.1 t1.2)] : List T))) (none)) (none)) (none)) (none)) (j0 x2z x2 x15 x31 (wrap64 (x32 + 1)) c6_0 c6_1 c6_2 c6_3 c6_4 c7_0z c7_0 c9_0 c10_0 c11_0z c11_0 c14_0 c14_1 c14_2z c14_2 c14_4z c14_4)) ((impl_BitsOf.f k false x15 c6_0).bind fun t0 => (impl_QcCode.f k c6_0 c6_1 c6_2 c6_3 c6_4 c7_0z c7_0 c14_0 c14_1 c14_2z c14_2 t0.1 t0.2.1 c14_4z c14_4).bind fun t1 => cond (!(decide (t1 = 0))) (ret (0, 0, true, ([] : List Int), true, ([] : List Int), true, ([] : List T), false)) (ret (c14_0, c14_1, c14_2z, c14_2, t0.1, t0.2.1, c14_4z, c14_4, true)))
def impl_Gather.l0 : Nat → Bool → (List T) → (List Int) → Int → Int → Int → Int → Int → Int → Int → Bool → (List T) → Int → Int → Bool → (List Int) → Int → Int → Bool → (List Int) → Bool → (List T) → Option (Int × Int × Bool × (List Int) × Bool × (List Int) × Bool × (List T) × Bool)
  | 0, _, _, _, _, _, _, _, _, _, _, _, _, _, _, _, _, _, _, _, _, _, _ => none
  | k + 1, x2z, x2, x15, x31, x32, c6_0, c6_1, c6_2, c6_3, c6_4, c7_0z, c7_0, c9_0, c10_0, c11_0z, c11_0, c14_0, c14_1, c14_2z, c14_2, c14_4z, c14_4 => impl_Gather.l0b some (impl_Gather.l0 k) k x2z x2 x15 x31 x32 c6_0 c6_1 c6_2 c6_3 c6_4 c7_0z c7_0 c9_0 c10_0 c11_0z c11_0 c14_0 c14_1 c14_2z c14_2 c14_4z c14_4
def impl_Gather.f : Nat → Int → Int → Int → Int → Int → Bool → (List T) → Bool → (List T) → Int → Int → Bool → (List Int) → Option (Int × Int × Bool × (List Int) × Bool × (List Int) × Bool × (List T) × Bool)
  | 0, _, _, _, _, _, _, _, _, _, _, _, _, _ => none
  | k + 1, a0_0, a0_1, a0_2, a0_3, a0_4, a1_0z, a1_0, a2z, a2, a3, a4, a5z, a5 => impl_Gather.b some (impl_Gather.l0 k) k a0_0 a0_1 a0_2 a0_3 a0_4 a1_0z a1_0 a2z a2 a3 a4 a5z a5
def impl_Gather.enc (r : Int × Int × Bool × (List Int) × Bool × (List Int) × Bool × (List T) × Bool) : Res := ⟨[.vals true [((.int .i64 r.1), true), ((.int .i64 r.2.1), true), ((.nums 5 .u8 r.2.2.1 r.2.2.2.1), true), ((.nums 5 .u8 r.2.2.2.2.1 r.2.2.2.2.2.1), true), ((.sl 28 r.2.2.2.2.2.2.1 r.2.2.2.2.2.2.2.1), true)], .vals false [((.bool r.2.2.2.2.2.2.2.2), true)]], []⟩
def impl_Gather.ans (k : Nat) : List Arg → Ans
  | [.v (.agg [(.int .i64 a0_0), (.int .i64 a0_1), (.int .i64 a0_2), (.int .i64 a0_3), (.int .i64 a0_4)]), .v (.agg [(.sl 85 a1_0z a1_0)]), .v (.sl 59 a2z a2), .v (.int .i64 a3), .v (.int .i64 a4), .v (.nums 5 .u8 a5z a5)] => ⟨impl_Gather.f k a0_0 a0_1 a0_2 a0_3 a0_4 a1_0z a1_0 a2z a2 a3 a4 a5z a5, impl_Gather.enc⟩
  | _ => Ans.no
def impl_Gather.Cs (k : Nat) : CallSem := tab [(30, impl_belongs.ans k), (31, impl_copyBytes.ans k), (32, impl_Vote.ans k), (36, impl_BitsOf.ans k), (37, impl_QcCode.ans k)]
def impl_Gather.cuts : List (Nat × Keep) := [(122, ⟨[(2, some []), (6, some []), (7, some []), (9, some []), (10, some []), (11, some []), (12, some []), (14, some []), (15, none), (31, some []), (32, some [])], [(6, [some [], some [], some [], some [], some []]), (7, [some []]), (9, [some []]), (10, [some []]), (11, [some []]), (12, [some [], some [], none, none, none]), (14, [some [], some [], none, none, none])]⟩)]
noncomputable def impl_Gather.K0 : List Fr := framesAt [true, true, true, false, true, false] (bodyOf Tryz.f11 impl_Gather.cuts) []
def impl_Gather.N0 (x2z : Bool) (x2 : List T) (x15 : List Int) (x31 x32 : Int) (c6_0 c6_1 : Int) (c6_2 c6_3 c6_4 : Int) (c7_0z : Bool) (c7_0 : List T) (c9_0 c10_0 : Int) (c11_0z : Bool) (c11_0 : List Int) (c14_0 c14_1 : Int) (c14_2z : Bool) (c14_2 : List Int) (c14_4z : Bool) (c14_4 : List T) : St := stOf 71 71 6 [(2, .val ⟨(.sl 59 x2z x2), [], false, none⟩), (6, .bp 6 0), (7, .bp 7 0), (9, .bp 9 0), (10, .bp 10 0), (11, .bp 11 0), (12, .bp 12 0), (14, .bp 14 0), (15, .val ⟨(.nums 3 .i64 false x15), [.l 15 0], true, some (.l 15 0)⟩), (31, .val (V.s (.int .i64 x31))), (32, .val (V.s (.int .i64 x32)))] [(6, .cells [V.s (.int .i64 c6_0), V.s (.int .i64 c6_1), V.s (.int .i64 c6_2), V.s (.int .i64 c6_3), V.s (.int .i64 c6_4)]), (7, .cells [⟨(.sl 85 c7_0z c7_0), [], false, none⟩]), (9, .cells [V.s (.int .i64 c9_0)]), (10, .cells [V.s (.int .i64 c10_0)]), (11, .cells [⟨(.nums 5 .u8 c11_0z c11_0), [], false, none⟩]), (12, .cells [V.s (.int .i64 0), V.s (.int .i64 0), ⟨(.nums 5 .u8 true ([] : List Int)), [.l 12 3], true, some (.l 12 3)⟩, ⟨(.nums 5 .u8 true ([] : List Int)), [.l 12 4], true, some (.l 12 4)⟩, ⟨(.sl 28 true ([] : List T)), [.l 12 5], true, some (.l 12 5)⟩]), (14, .cells [V.s (.int .i64 c14_0), V.s (.int .i64 c14_1), ⟨(.nums 5 .u8 c14_2z c14_2), [.l 14 3], true, some (.l 14 3)⟩, ⟨(.nums 5 .u8 true ([] : List Int)), [.l 14 4], true, some (.l 14 4)⟩, ⟨(.sl 28 c14_4z c14_4), [.l 14 5], true, some (.l 14 5)⟩])]
theorem impl_Gather.s0 (k : Nat) (G : List Fr → St → Option Res) (a0_0 a0_1 : Int) (a0_2 a0_3 a0_4 : Int) (a1_0z : Bool) (a1_0 : List T) (a2z : Bool) (a2 : List T) (a3 a4 : Int) (a5z : Bool) (a5 : List Int) (yx2z : Bool) (yx2 : List T) (yx15 : List Int) (yx31 yx32 : Int) (yc6_0 yc6_1 : Int) (yc6_2 yc6_3 yc6_4 : Int) (yc7_0z : Bool) (yc7_0 : List T) (yc9_0 yc10_0 : Int) (yc11_0z : Bool) (yc11_0 : List Int) (yc14_0 yc14_1 : Int) (yc14_2z : Bool) (yc14_2 : List Int) (yc14_4z : Bool) (yc14_4 : List T) : resume Tryz.prog (impl_Gather.Cs k) G (finish Tryz.prog [] Tryz.f11 [.v (.agg [(.int .i64 a0_0), (.int .i64 a0_1), (.int .i64 a0_2), (.int .i64 a0_3), (.int .i64 a0_4)]), .v (.agg [(.sl 85 a1_0z a1_0)]), .v (.sl 59 a2z a2), .v (.int .i64 a3), .v (.int .i64 a4), .v (.nums 5 .u8 a5z a5)]) 100000 impl_Gather.K0 (impl_Gather.N0 yx2z yx2 yx15 yx31 yx32 yc6_0 yc6_1 yc6_2 yc6_3 yc6_4 yc7_0z yc7_0 yc9_0 yc10_0 yc11_0z yc11_0 yc14_0 yc14_1 yc14_2z yc14_2 yc14_4z yc14_4) = impl_Gather.l0b (fun r => some (impl_Gather.enc r)) (fun x2z x2 x15 x31 x32 c6_0 c6_1 c6_2 c6_3 c6_4 c7_0z c7_0 c9_0 c10_0 c11_0z c11_0 c14_0 c14_1 c14_2z c14_2 c14_4z c14_4 => G impl_Gather.K0 (impl_Gather.N0 x2z x2 x15 x31 x32 c6_0 c6_1 c6_2 c6_3 c6_4 c7_0z c7_0 c9_0 c10_0 c11_0z c11_0 c14_0 c14_1 c14_2z c14_2 c14_4z c14_4)) k yx2z yx2 yx15 yx31 yx32 yc6_0 yc6_1 yc6_2 yc6_3 yc6_4 yc7_0z yc7_0 yc9_0 yc10_0 yc11_0z yc11_0 yc14_0 yc14_1 yc14_2z yc14_2 yc14_4z yc14_4 := by kernel_rfl
theorem impl_Gather.bn {R R' : Type} (e : R → R') (ret : Int × Int × Bool × (List Int) × Bool × (List Int) × Bool × (List T) × Bool → Option R) (j0 : Bool → (List T) → (List Int) → Int → Int → Int → Int → Int → Int → Int → Bool → (List T) → Int → Int → Bool → (List Int) → Int → Int → Bool → (List Int) → Bool → (List T) → Option R) (k : Nat) (a0_0 a0_1 : Int) (a0_2 a0_3 a0_4 : Int) (a1_0z : Bool) (a1_0 : List T) (a2z : Bool) (a2 : List T) (a3 a4 : Int) (a5z : Bool) (a5 : List Int) : impl_Gather.b (fun r => (ret r).map e) (fun x2z x2 x15 x31 x32 c6_0 c6_1 c6_2 c6_3 c6_4 c7_0z c7_0 c9_0 c10_0 c11_0z c11_0 c14_0 c14_1 c14_2z c14_2 c14_4z c14_4 => (j0 x2z x2 x15 x31 x32 c6_0 c6_1 c6_2 c6_3 c6_4 c7_0z c7_0 c9_0 c10_0 c11_0z c11_0 c14_0 c14_1 c14_2z c14_2 c14_4z c14_4).map e) k a0_0 a0_1 a0_2 a0_3 a0_4 a1_0z a1_0 a2z a2 a3 a4 a5z a5 = (impl_Gather.b ret j0 k a0_0 a0_1 a0_2 a0_3 a0_4 a1_0z a1_0 a2z a2 a3 a4 a5z a5).map e := by
  unfold impl_Gather.b
  repeat' first | with_reducible refine nat_cond ?_ ?_ | with_reducible refine nat_bind fun _ => ?_ | rfl
theorem impl_Gather.l0n {R R' : Type} (e : R → R') (ret : Int × Int × Bool × (List Int) × Bool × (List Int) × Bool × (List T) × Bool → Option R) (j0 : Bool → (List T) → (List Int) → Int → Int → Int → Int → Int → Int → Int → Bool → (List T) → Int → Int → Bool → (List Int) → Int → Int → Bool → (List Int) → Bool → (List T) → Option R) (k : Nat) (x2z : Bool) (x2 : List T) (x15 : List Int) (x31 x32 : Int) (c6_0 c6_1 : Int) (c6_2 c6_3 c6_4 : Int) (c7_0z : Bool) (c7_0 : List T) (c9_0 c10_0 : Int) (c11_0z : Bool) (c11_0 : List Int) (c14_0 c14_1 : Int) (c14_2z : Bool) (c14_2 : List Int) (c14_4z : Bool) (c14_4 : List T) : impl_Gather.l0b (fun r => (ret r).map e) (fun x2z x2 x15 x31 x32 c6_0 c6_1 c6_2 c6_3 c6_4 c7_0z c7_0 c9_0 c10_0 c11_0z c11_0 c14_0 c14_1 c14_2z c14_2 c14_4z c14_4 => (j0 x2z x2 x15 x31 x32 c6_0 c6_1 c6_2 c6_3 c6_4 c7_0z c7_0 c9_0 c10_0 c11_0z c11_0 c14_0 c14_1 c14_2z c14_2 c14_4z c14_4).map e) k x2z x2 x15 x31 x32 c6_0 c6_1 c6_2 c6_3 c6_4 c7_0z c7_0 c9_0 c10_0 c11_0z c11_0 c14_0 c14_1 c14_2z c14_2 c14_4z c14_4 = (impl_Gather.l0b ret j0 k x2z x2 x15 x31 x32 c6_0 c6_1 c6_2 c6_3 c6_4 c7_0z c7_0 c9_0 c10_0 c11_0z c11_0 c14_0 c14_1 c14_2z c14_2 c14_4z c14_4).map e := by
  unfold impl_Gather.l0b
  repeat' first | with_reducible refine nat_cond ?_ ?_ | with_reducible refine nat_bind fun _ => ?_ | rfl
theorem impl_Gather.rq (a0_0 a0_1 : Int) (a0_2 a0_3 a0_4 : Int) (a1_0z : Bool) (a1_0 : List T) (a2z : Bool) (a2 : List T) (a3 a4 : Int) (a5z : Bool) (a5 : List Int) : ∀ k, (∀ (x2z : Bool) (x2 : List T) (x15 : List Int) (x31 x32 : Int) (c6_0 c6_1 : Int) (c6_2 c6_3 c6_4 : Int) (c7_0z : Bool) (c7_0 : List T) (c9_0 c10_0 : Int) (c11_0z : Bool) (c11_0 : List Int) (c14_0 c14_1 : Int) (c14_2z : Bool) (c14_2 : List Int) (c14_4z : Bool) (c14_4 : List T), rounds Tryz.prog impl_Gather.Cs (finish Tryz.prog [] Tryz.f11 [.v (.agg [(.int .i64 a0_0), (.int .i64 a0_1), (.int .i64 a0_2), (.int .i64 a0_3), (.int .i64 a0_4)]), .v (.agg [(.sl 85 a1_0z a1_0)]), .v (.sl 59 a2z a2), .v (.int .i64 a3), .v (.int .i64 a4), .v (.nums 5 .u8 a5z a5)]) 100000 k impl_Gather.K0 (impl_Gather.N0 x2z x2 x15 x31 x32 c6_0 c6_1 c6_2 c6_3 c6_4 c7_0z c7_0 c9_0 c10_0 c11_0z c11_0 c14_0 c14_1 c14_2z c14_2 c14_4z c14_4) = (impl_Gather.l0 k x2z x2 x15 x31 x32 c6_0 c6_1 c6_2 c6_3 c6_4 c7_0z c7_0 c9_0 c10_0 c11_0z c11_0 c14_0 c14_1 c14_2z c14_2 c14_4z c14_4).map impl_Gather.enc)
  | 0 => fun _ _ _ _ _ _ _ _ _ _ _ _ _ _ _ _ _ _ _ _ _ _ => rfl
  | k + 1 => by
    have ih := impl_Gather.rq a0_0 a0_1 a0_2 a0_3 a0_4 a1_0z a1_0 a2z a2 a3 a4 a5z a5 k
    refine fun _ _ _ _ _ _ _ _ _ _ _ _ _ _ _ _ _ _ _ _ _ _ => ?_
    · refine (impl_Gather.s0 k _ a0_0 a0_1 a0_2 a0_3 a0_4 a1_0z a1_0 a2z a2 a3 a4 a5z a5 _ _ _ _ _ _ _ _ _ _ _ _ _ _ _ _ _ _ _ _ _ _).trans (Eq.trans ?_ (impl_Gather.l0n impl_Gather.enc some (impl_Gather.l0 k) k _ _ _ _ _ _ _ _ _ _ _ _ _ _ _ _ _ _ _ _ _ _))
      simp only [ih, Option.map_some]
theorem impl_Gather.eq (k : Nat) (a0_0 a0_1 : Int) (a0_2 a0_3 a0_4 : Int) (a1_0z : Bool) (a1_0 : List T) (a2z : Bool) (a2 : List T) (a3 a4 : Int) (a5z : Bool) (a5 : List Int) : answer Tryz.prog impl_Gather.Cs 100000 impl_Gather.cuts [] Tryz.f11 (k + 1) [.v (.agg [(.int .i64 a0_0), (.int .i64 a0_1), (.int .i64 a0_2), (.int .i64 a0_3), (.int .i64 a0_4)]), .v (.agg [(.sl 85 a1_0z a1_0)]), .v (.sl 59 a2z a2), .v (.int .i64 a3), .v (.int .i64 a4), .v (.nums 5 .u8 a5z a5)] = (impl_Gather.f (k + 1) a0_0 a0_1 a0_2 a0_3 a0_4 a1_0z a1_0 a2z a2 a3 a4 a5z a5).map impl_Gather.enc := by
  have ih := impl_Gather.rq a0_0 a0_1 a0_2 a0_3 a0_4 a1_0z a1_0 a2z a2 a3 a4 a5z a5 k
  refine Eq.trans (b := impl_Gather.b (fun r => some (impl_Gather.enc r)) (fun x2z x2 x15 x31 x32 c6_0 c6_1 c6_2 c6_3 c6_4 c7_0z c7_0 c9_0 c10_0 c11_0z c11_0 c14_0 c14_1 c14_2z c14_2 c14_4z c14_4 => rounds Tryz.prog impl_Gather.Cs (finish Tryz.prog [] Tryz.f11 [.v (.agg [(.int .i64 a0_0), (.int .i64 a0_1), (.int .i64 a0_2), (.int .i64 a0_3), (.int .i64 a0_4)]), .v (.agg [(.sl 85 a1_0z a1_0)]), .v (.sl 59 a2z a2), .v (.int .i64 a3), .v (.int .i64 a4), .v (.nums 5 .u8 a5z a5)]) 100000 k impl_Gather.K0 (impl_Gather.N0 x2z x2 x15 x31 x32 c6_0 c6_1 c6_2 c6_3 c6_4 c7_0z c7_0 c9_0 c10_0 c11_0z c11_0 c14_0 c14_1 c14_2z c14_2 c14_4z c14_4)) k a0_0 a0_1 a0_2 a0_3 a0_4 a1_0z a1_0 a2z a2 a3 a4 a5z a5) (by kernel_rfl) (Eq.trans ?_ (impl_Gather.bn impl_Gather.enc some (impl_Gather.l0 k) k a0_0 a0_1 a0_2 a0_3 a0_4 a1_0z a1_0 a2z a2 a3 a4 a5z a5))
  simp only [ih, Option.map_some]
theorem impl_Gather.sound (k : Nat) : SoundF Tryz.prog 11 (fun a => (impl_Gather.ans k a).val) := by
  refine sound_plain (fun args res h => ?_) (fun t n => rfl)
  unfold impl_Gather.ans at h
  dsimp only at h
  split at h
  · cases k with
    | zero => cases h
    | succ k =>
      unfold Ans.val at h
      rw [← impl_Gather.eq] at h
      exact answer_sound mixed Tryz.func11 _ _ _ (k + 1) (fun j _ => tab_sound (tab_cons (impl_belongs.sound j) (tab_cons (impl_copyBytes.sound j) (tab_cons (impl_Vote.sound j) (tab_cons (impl_BitsOf.sound j) (tab_cons (impl_QcCode.sound j) (tab_nil))))))) _ _ h
  · exact (Ans.no_val h).elim

def laws_eqByteS.b {R : Type} (ret : Bool → Option R) (j0 : Bool → (List Int) → Bool → (List Int) → Int → Option R) (k : Nat) (a0z : Bool) (a0 : List Int) (a1z : Bool) (a1 : List Int) : Option R :=
  cond (!(decide (((a0).length : Int) = ((a1).length : Int)))) (ret false) (j0 a0z a0 a1z a1 0)
def laws_eqByteS.l0b {R : Type} (ret : Bool → Option R) (j0 : Bool → (List Int) → Bool → (List Int) → Int → Option R) (k : Nat) (x0z : Bool) (x0 : List Int) (x1z : Bool) (x1 : List Int) (x5 : Int) : Option R :=
  cond (decide (x5 < ((x0).length : Int))) (cond (decide (0 ≤ x5)) (cond (decide (x5 < ((x0).length : Int))) (cond (decide (0 ≤ x5)) (cond (decide (x5 < ((x1).length : Int))) (cond (!(decide ((rdI x0 x5) = (rdI x1 x5)))) (ret false) (j0 x0z x0 x1z x1 (wrap64 (x5 + 1)))) (none)) (none)) (none)) (none)) (ret true)
def laws_eqByteS.l0 : Nat → Bool → (List Int) → Bool → (List Int) → Int → Option Bool
  | 0, _, _, _, _, _ => none
  | k + 1, x0z, x0, x1z, x1, x5 => laws_eqByteS.l0b some (laws_eqByteS.l0 k) k x0z x0 x1z x1 x5
def laws_eqByteS.f : Nat → Bool → (List Int) → Bool → (List Int) → Option Bool
  | 0, _, _, _, _ => none
  | k + 1, a0z, a0, a1z, a1 => laws_eqByteS.b some (laws_eqByteS.l0 k) k a0z a0 a1z a1
def laws_eqByteS.enc (r : Bool) : Res := ⟨[.vals false [((.bool r), true)]], []⟩
def laws_eqByteS.ans (k : Nat) : List Arg → Ans
  | [.v (.nums 5 .u8 a0z a0), .v (.nums 5 .u8 a1z a1)] => ⟨laws_eqByteS.f k a0z a0 a1z a1, laws_eqByteS.enc⟩
  | _ => Ans.no
def laws_eqByteS.Cs (k : Nat) : CallSem := tab []
def laws_eqByteS.cuts : List (Nat × Keep) := [(58, ⟨[(0, some []), (1, some []), (5, some [])], []⟩)]
noncomputable def laws_eqByteS.K0 : List Fr := framesAt [true, true, false, true, false] (bodyOf Tryz.f15 laws_eqByteS.cuts) []
def laws_eqByteS.N0 (x0z : Bool) (x0 : List Int) (x1z : Bool) (x1 : List Int) (x5 : Int) : St := stOf 26 26 2 [(0, .val ⟨(.nums 5 .u8 x0z x0), [], false, none⟩), (1, .val ⟨(.nums 5 .u8 x1z x1), [], false, none⟩), (5, .val (V.s (.int .i64 x5)))] []
theorem laws_eqByteS.s0 (k : Nat) (G : List Fr → St → Option Res) (a0z : Bool) (a0 : List Int) (a1z : Bool) (a1 : List Int) (yx0z : Bool) (yx0 : List Int) (yx1z : Bool) (yx1 : List Int) (yx5 : Int) : resume Tryz.prog (laws_eqByteS.Cs k) G (finish Tryz.prog [] Tryz.f15 [.v (.nums 5 .u8 a0z a0), .v (.nums 5 .u8 a1z a1)]) 100000 laws_eqByteS.K0 (laws_eqByteS.N0 yx0z yx0 yx1z yx1 yx5) = laws_eqByteS.l0b (fun r => some (laws_eqByteS.enc r)) (fun x0z x0 x1z x1 x5 => G laws_eqByteS.K0 (laws_eqByteS.N0 x0z x0 x1z x1 x5)) k yx0z yx0 yx1z yx1 yx5 := by kernel_rfl
theorem laws_eqByteS.bn {R R' : Type} (e : R → R') (ret : Bool → Option R) (j0 : Bool → (List Int) → Bool → (List Int) → Int → Option R) (k : Nat) (a0z : Bool) (a0 : List Int) (a1z : Bool) (a1 : List Int) : laws_eqByteS.b (fun r => (ret r).map e) (fun x0z x0 x1z x1 x5 => (j0 x0z x0 x1z x1 x5).map e) k a0z a0 a1z a1 = (laws_eqByteS.b ret j0 k a0z a0 a1z a1).map e := by
  unfold laws_eqByteS.b
  repeat' first | with_reducible refine nat_cond ?_ ?_ | with_reducible refine nat_bind fun _ => ?_ | rfl
theorem laws_eqByteS.l0n {R R' : Type} (e : R → R') (ret : Bool → Option R) (j0 : Bool → (List Int) → Bool → (List Int) → Int → Option R) (k : Nat) (x0z : Bool) (x0 : List Int) (x1z : Bool) (x1 : List Int) (x5 : Int) : laws_eqByteS.l0b (fun r => (ret r).map e) (fun x0z x0 x1z x1 x5 => (j0 x0z x0 x1z x1 x5).map e) k x0z x0 x1z x1 x5 = (laws_eqByteS.l0b ret j0 k x0z x0 x1z x1 x5).map e := by
  unfold laws_eqByteS.l0b
  repeat' first | with_reducible refine nat_cond ?_ ?_ | with_reducible refine nat_bind fun _ => ?_ | rfl
theorem laws_eqByteS.rq (a0z : Bool) (a0 : List Int) (a1z : Bool) (a1 : List Int) : ∀ k, (∀ (x0z : Bool) (x0 : List Int) (x1z : Bool) (x1 : List Int) (x5 : Int), rounds Tryz.prog laws_eqByteS.Cs (finish Tryz.prog [] Tryz.f15 [.v (.nums 5 .u8 a0z a0), .v (.nums 5 .u8 a1z a1)]) 100000 k laws_eqByteS.K0 (laws_eqByteS.N0 x0z x0 x1z x1 x5) = (laws_eqByteS.l0 k x0z x0 x1z x1 x5).map laws_eqByteS.enc)
  | 0 => fun _ _ _ _ _ => rfl
  | k + 1 => by
    have ih := laws_eqByteS.rq a0z a0 a1z a1 k
    refine fun _ _ _ _ _ => ?_
    · refine (laws_eqByteS.s0 k _ a0z a0 a1z a1 _ _ _ _ _).trans (Eq.trans ?_ (laws_eqByteS.l0n laws_eqByteS.enc some (laws_eqByteS.l0 k) k _ _ _ _ _))
      simp only [ih, Option.map_some]
theorem laws_eqByteS.eq (k : Nat) (a0z : Bool) (a0 : List Int) (a1z : Bool) (a1 : List Int) : answer Tryz.prog laws_eqByteS.Cs 100000 laws_eqByteS.cuts [] Tryz.f15 (k + 1) [.v (.nums 5 .u8 a0z a0), .v (.nums 5 .u8 a1z a1)] = (laws_eqByteS.f (k + 1) a0z a0 a1z a1).map laws_eqByteS.enc := by
  have ih := laws_eqByteS.rq a0z a0 a1z a1 k
  refine Eq.trans (b := laws_eqByteS.b (fun r => some (laws_eqByteS.enc r)) (fun x0z x0 x1z x1 x5 => rounds Tryz.prog laws_eqByteS.Cs (finish Tryz.prog [] Tryz.f15 [.v (.nums 5 .u8 a0z a0), .v (.nums 5 .u8 a1z a1)]) 100000 k laws_eqByteS.K0 (laws_eqByteS.N0 x0z x0 x1z x1 x5)) k a0z a0 a1z a1) (by kernel_rfl) (Eq.trans ?_ (laws_eqByteS.bn laws_eqByteS.enc some (laws_eqByteS.l0 k) k a0z a0 a1z a1))
  simp only [ih, Option.map_some]
theorem laws_eqByteS.sound (k : Nat) : SoundF Tryz.prog 15 (fun a => (laws_eqByteS.ans k a).val) := by
  refine sound_plain (fun args res h => ?_) (fun t n => rfl)
  unfold laws_eqByteS.ans at h
  dsimp only at h
  split at h
  · cases k with
    | zero => cases h
    | succ k =>
      unfold Ans.val at h
      rw [← laws_eqByteS.eq] at h
      exact answer_sound mixed Tryz.func15 _ _ _ (k + 1) (fun j _ => tab_sound (tab_nil)) _ _ h
  · exact (Ans.no_val h).elim

def laws_eqByteSS.b {R : Type} (ret : Bool → Option R) (j0 : Bool → (List T) → Bool → (List T) → Int → Option R) (k : Nat) (a0z : Bool) (a0 : List T) (a1z : Bool) (a1 : List T) : Option R :=
  cond (!(decide (((a0).length : Int) = ((a1).length : Int)))) (ret false) (j0 a0z a0 a1z a1 0)
def laws_eqByteSS.l0b {R : Type} (ret : Bool → Option R) (j0 : Bool → (List T) → Bool → (List T) → Int → Option R) (k : Nat) (x0z : Bool) (x0 : List T) (x1z : Bool) (x1 : List T) (x5 : Int) : Option R :=
  cond (decide (x5 < ((x0).length : Int))) (cond (decide (0 ≤ x5)) (cond (decide (x5 < ((x0).length : Int))) (cond (decide (0 ≤ x5)) (cond (decide (x5 < ((x1).length : Int))) ((laws_eqByteS.f k (((((x0).getD (x5).toNat .bad).cells.getD 0 .bad)).isNil) (((((x0).getD (x5).toNat .bad).cells.getD 0 .bad)).toNums) (((((x1).getD (x5).toNat .bad).cells.getD 0 .bad)).isNil) (((((x1).getD (x5).toNat .bad).cells.getD 0 .bad)).toNums)).bind fun t0 => cond (!t0) (ret false) (j0 x0z x0 x1z x1 (wrap64 (x5 + 1)))) (none)) (none)) (none)) (none)) (ret true)
def laws_eqByteSS.l0 : Nat → Bool → (List T) → Bool → (List T) → Int → Option Bool
  | 0, _, _, _, _, _ => none
  | k + 1, x0z, x0, x1z, x1, x5 => laws_eqByteSS.l0b some (laws_eqByteSS.l0 k) k x0z x0 x1z x1 x5
def laws_eqByteSS.f : Nat → Bool → (List T) → Bool → (List T) → Option Bool
  | 0, _, _, _, _ => none
  | k + 1, a0z, a0, a1z, a1 => laws_eqByteSS.b some (laws_eqByteSS.l0 k) k a0z a0 a1z a1
def laws_eqByteSS.enc (r : Bool) : Res := ⟨[.vals false [((.bool r), true)]], []⟩
def laws_eqByteSS.ans (k : Nat) : List Arg → Ans
  | [.v (.sl 28 a0z a0), .v (.sl 28 a1z a1)] => ⟨laws_eqByteSS.f k a0z a0 a1z a1, laws_eqByteSS.enc⟩
  | _ => Ans.no
def laws_eqByteSS.Cs (k : Nat) : CallSem := tab [(15, laws_eqByteS.ans k)]
def laws_eqByteSS.cuts : List (Nat × Keep) := [(58, ⟨[(0, some []), (1, some []), (5, some [])], []⟩)]
noncomputable def laws_eqByteSS.K0 : List Fr := framesAt [true, true, false, true, false] (bodyOf Tryz.f38 laws_eqByteSS.cuts) []
def laws_eqByteSS.N0 (x0z : Bool) (x0 : List T) (x1z : Bool) (x1 : List T) (x5 : Int) : St := stOf 27 27 2 [(0, .val ⟨(.sl 28 x0z x0), [], false, none⟩), (1, .val ⟨(.sl 28 x1z x1), [], false, none⟩), (5, .val (V.s (.int .i64 x5)))] []
theorem laws_eqByteSS.s0 (k : Nat) (G : List Fr → St → Option Res) (a0z : Bool) (a0 : List T) (a1z : Bool) (a1 : List T) (yx0z : Bool) (yx0 : List T) (yx1z : Bool) (yx1 : List T) (yx5 : Int) : resume Tryz.prog (laws_eqByteSS.Cs k) G (finish Tryz.prog [] Tryz.f38 [.v (.sl 28 a0z a0), .v (.sl 28 a1z a1)]) 100000 laws_eqByteSS.K0 (laws_eqByteSS.N0 yx0z yx0 yx1z yx1 yx5) = laws_eqByteSS.l0b (fun r => some (laws_eqByteSS.enc r)) (fun x0z x0 x1z x1 x5 => G laws_eqByteSS.K0 (laws_eqByteSS.N0 x0z x0 x1z x1 x5)) k yx0z yx0 yx1z yx1 yx5 := by kernel_rfl
theorem laws_eqByteSS.bn {R R' : Type} (e : R → R') (ret : Bool → Option R) (j0 : Bool → (List T) → Bool → (List T) → Int → Option R) (k : Nat) (a0z : Bool) (a0 : List T) (a1z : Bool) (a1 : List T) : laws_eqByteSS.b (fun r => (ret r).map e) (fun x0z x0 x1z x1 x5 => (j0 x0z x0 x1z x1 x5).map e) k a0z a0 a1z a1 = (laws_eqByteSS.b ret j0 k a0z a0 a1z a1).map e := by
  unfold laws_eqByteSS.b
  repeat' first | with_reducible refine nat_cond ?_ ?_ | with_reducible refine nat_bind fun _ => ?_ | rfl
theorem laws_eqByteSS.l0n {R R' : Type} (e : R → R') (ret : Bool → Option R) (j0 : Bool → (List T) → Bool → (List T) → Int → Option R) (k : Nat) (x0z : Bool) (x0 : List T) (x1z : Bool) (x1 : List T) (x5 : Int) : laws_eqByteSS.l0b (fun r => (ret r).map e) (fun x0z x0 x1z x1 x5 => (j0 x0z x0 x1z x1 x5).map e) k x0z x0 x1z x1 x5 = (laws_eqByteSS.l0b ret j0 k x0z x0 x1z x1 x5).map e := by
  unfold laws_eqByteSS.l0b
  repeat' first | with_reducible refine nat_cond ?_ ?_ | with_reducible refine nat_bind fun _ => ?_ | rfl
theorem laws_eqByteSS.rq (a0z : Bool) (a0 : List T) (a1z : Bool) (a1 : List T) : ∀ k, (∀ (x0z : Bool) (x0 : List T) (x1z : Bool) (x1 : List T) (x5 : Int), rounds Tryz.prog laws_eqByteSS.Cs (finish Tryz.prog [] Tryz.f38 [.v (.sl 28 a0z a0), .v (.sl 28 a1z a1)]) 100000 k laws_eqByteSS.K0 (laws_eqByteSS.N0 x0z x0 x1z x1 x5) = (laws_eqByteSS.l0 k x0z x0 x1z x1 x5).map laws_eqByteSS.enc)
  | 0 => fun _ _ _ _ _ => rfl
  | k + 1 => by
    have ih := laws_eqByteSS.rq a0z a0 a1z a1 k
    refine fun _ _ _ _ _ => ?_
    · refine (laws_eqByteSS.s0 k _ a0z a0 a1z a1 _ _ _ _ _).trans (Eq.trans ?_ (laws_eqByteSS.l0n laws_eqByteSS.enc some (laws_eqByteSS.l0 k) k _ _ _ _ _))
      simp only [ih, Option.map_some]
theorem laws_eqByteSS.eq (k : Nat) (a0z : Bool) (a0 : List T) (a1z : Bool) (a1 : List T) : answer Tryz.prog laws_eqByteSS.Cs 100000 laws_eqByteSS.cuts [] Tryz.f38 (k + 1) [.v (.sl 28 a0z a0), .v (.sl 28 a1z a1)] = (laws_eqByteSS.f (k + 1) a0z a0 a1z a1).map laws_eqByteSS.enc := by
  have ih := laws_eqByteSS.rq a0z a0 a1z a1 k
  refine Eq.trans (b := laws_eqByteSS.b (fun r => some (laws_eqByteSS.enc r)) (fun x0z x0 x1z x1 x5 => rounds Tryz.prog laws_eqByteSS.Cs (finish Tryz.prog [] Tryz.f38 [.v (.sl 28 a0z a0), .v (.sl 28 a1z a1)]) 100000 k laws_eqByteSS.K0 (laws_eqByteSS.N0 x0z x0 x1z x1 x5)) k a0z a0 a1z a1) (by kernel_rfl) (Eq.trans ?_ (laws_eqByteSS.bn laws_eqByteSS.enc some (laws_eqByteSS.l0 k) k a0z a0 a1z a1))
  simp only [ih, Option.map_some]
theorem laws_eqByteSS.sound (k : Nat) : SoundF Tryz.prog 38 (fun a => (laws_eqByteSS.ans k a).val) := by
  refine sound_plain (fun args res h => ?_) (fun t n => rfl)
  unfold laws_eqByteSS.ans at h
  dsimp only at h
  split at h
  · cases k with
    | zero => cases h
    | succ k =>
      unfold Ans.val at h
      rw [← laws_eqByteSS.eq] at h
      exact answer_sound mixed Tryz.func38 _ _ _ (k + 1) (fun j _ => tab_sound (tab_cons (laws_eqByteS.sound j) (tab_nil))) _ _ h
  · exact (Ans.no_val h).elim

def laws_eqQc.b {R : Type} (ret : Bool → Option R) (k : Nat) (a0_0 a0_1 : Int) (a0_2z : Bool) (a0_2 : List Int) (a0_3z : Bool) (a0_3 : List Int) (a0_4z : Bool) (a0_4 : List T) (a1_0 a1_1 : Int) (a1_2z : Bool) (a1_2 : List Int) (a1_3z : Bool) (a1_3 : List Int) (a1_4z : Bool) (a1_4 : List T) : Option R :=
  cond (!(decide (a0_0 = a1_0))) (ret false) (cond (!(decide (a0_1 = a1_1))) (ret false) ((laws_eqByteS.f k a0_2z a0_2 a1_2z a1_2).bind fun t0 => cond (!t0) (ret false) ((laws_eqByteS.f k a0_3z a0_3 a1_3z a1_3).bind fun t1 => cond (!t1) (ret false) ((laws_eqByteSS.f k a0_4z a0_4 a1_4z a1_4).bind fun t2 => cond (!t2) (ret false) (ret true)))))
def laws_eqQc.f : Nat → Int → Int → Bool → (List Int) → Bool → (List Int) → Bool → (List T) → Int → Int → Bool → (List Int) → Bool → (List Int) → Bool → (List T) → Option Bool
  | 0, _, _, _, _, _, _, _, _, _, _, _, _, _, _, _, _ => none
  | k + 1, a0_0, a0_1, a0_2z, a0_2, a0_3z, a0_3, a0_4z, a0_4, a1_0, a1_1, a1_2z, a1_2, a1_3z, a1_3, a1_4z, a1_4 => laws_eqQc.b some k a0_0 a0_1 a0_2z a0_2 a0_3z a0_3 a0_4z a0_4 a1_0 a1_1 a1_2z a1_2 a1_3z a1_3 a1_4z a1_4
def laws_eqQc.enc (r : Bool) : Res := ⟨[.vals false [((.bool r), true)]], []⟩
def laws_eqQc.ans (k : Nat) : List Arg → Ans
  | [.v (.agg [(.int .i64 a0_0), (.int .i64 a0_1), (.nums 5 .u8 a0_2z a0_2), (.nums 5 .u8 a0_3z a0_3), (.sl 28 a0_4z a0_4)]), .v (.agg [(.int .i64 a1_0), (.int .i64 a1_1), (.nums 5 .u8 a1_2z a1_2), (.nums 5 .u8 a1_3z a1_3), (.sl 28 a1_4z a1_4)])] => ⟨laws_eqQc.f k a0_0 a0_1 a0_2z a0_2 a0_3z a0_3 a0_4z a0_4 a1_0 a1_1 a1_2z a1_2 a1_3z a1_3 a1_4z a1_4, laws_eqQc.enc⟩
  | _ => Ans.no
def laws_eqQc.Cs (k : Nat) : CallSem := tab [(15, laws_eqByteS.ans k), (38, laws_eqByteSS.ans k)]
theorem laws_eqQc.eq (k : Nat) (a0_0 a0_1 : Int) (a0_2z : Bool) (a0_2 : List Int) (a0_3z : Bool) (a0_3 : List Int) (a0_4z : Bool) (a0_4 : List T) (a1_0 a1_1 : Int) (a1_2z : Bool) (a1_2 : List Int) (a1_3z : Bool) (a1_3 : List Int) (a1_4z : Bool) (a1_4 : List T) : answer Tryz.prog laws_eqQc.Cs 100000 [] [] Tryz.f12 (k + 1) [.v (.agg [(.int .i64 a0_0), (.int .i64 a0_1), (.nums 5 .u8 a0_2z a0_2), (.nums 5 .u8 a0_3z a0_3), (.sl 28 a0_4z a0_4)]), .v (.agg [(.int .i64 a1_0), (.int .i64 a1_1), (.nums 5 .u8 a1_2z a1_2), (.nums 5 .u8 a1_3z a1_3), (.sl 28 a1_4z a1_4)])] = (laws_eqQc.f (k + 1) a0_0 a0_1 a0_2z a0_2 a0_3z a0_3 a0_4z a0_4 a1_0 a1_1 a1_2z a1_2 a1_3z a1_3 a1_4z a1_4).map laws_eqQc.enc := by
  refine Eq.trans (b := laws_eqQc.b (fun r => some (laws_eqQc.enc r)) k a0_0 a0_1 a0_2z a0_2 a0_3z a0_3 a0_4z a0_4 a1_0 a1_1 a1_2z a1_2 a1_3z a1_3 a1_4z a1_4) (by kernel_rfl) ?_
  show _ = (laws_eqQc.b some k a0_0 a0_1 a0_2z a0_2 a0_3z a0_3 a0_4z a0_4 a1_0 a1_1 a1_2z a1_2 a1_3z a1_3 a1_4z a1_4).map laws_eqQc.enc
  unfold laws_eqQc.b
  repeat' first | with_reducible refine nat_cond ?_ ?_ | with_reducible refine nat_bind fun _ => ?_ | rfl
theorem laws_eqQc.sound (k : Nat) : SoundF Tryz.prog 12 (fun a => (laws_eqQc.ans k a).val) := by
  refine sound_plain (fun args res h => ?_) (fun t n => rfl)
  unfold laws_eqQc.ans at h
  dsimp only at h
  split at h
  · cases k with
    | zero => cases h
    | succ k =>
      unfold Ans.val at h
      rw [← laws_eqQc.eq] at h
      exact answer_sound mixed Tryz.func12 _ _ _ (k + 1) (fun j _ => tab_sound (tab_cons (laws_eqByteS.sound j) (tab_cons (laws_eqByteSS.sound j) (tab_nil)))) _ _ h
  · exact (Ans.no_val h).elim

def laws_eqRow.b {R : Type} (ret : Bool → Option R) (k : Nat) (a0_0 : Int) (a0_1z : Bool) (a0_1 : List Int) (a1_0 : Int) (a1_1z : Bool) (a1_1 : List Int) : Option R :=
  cond (!(decide (a0_0 = a1_0))) (ret false) ((laws_eqByteS.f k a0_1z a0_1 a1_1z a1_1).bind fun t0 => cond (!t0) (ret false) (ret true))
def laws_eqRow.f : Nat → Int → Bool → (List Int) → Int → Bool → (List Int) → Option Bool
  | 0, _, _, _, _, _, _ => none
  | k + 1, a0_0, a0_1z, a0_1, a1_0, a1_1z, a1_1 => laws_eqRow.b some k a0_0 a0_1z a0_1 a1_0 a1_1z a1_1
def laws_eqRow.enc (r : Bool) : Res := ⟨[.vals false [((.bool r), true)]], []⟩
def laws_eqRow.ans (k : Nat) : List Arg → Ans
  | [.v (.agg [(.int .i64 a0_0), (.nums 5 .u8 a0_1z a0_1)]), .v (.agg [(.int .i64 a1_0), (.nums 5 .u8 a1_1z a1_1)])] => ⟨laws_eqRow.f k a0_0 a0_1z a0_1 a1_0 a1_1z a1_1, laws_eqRow.enc⟩
  | _ => Ans.no
def laws_eqRow.Cs (k : Nat) : CallSem := tab [(15, laws_eqByteS.ans k)]
theorem laws_eqRow.eq (k : Nat) (a0_0 : Int) (a0_1z : Bool) (a0_1 : List Int) (a1_0 : Int) (a1_1z : Bool) (a1_1 : List Int) : answer Tryz.prog laws_eqRow.Cs 100000 [] [] Tryz.f66 (k + 1) [.v (.agg [(.int .i64 a0_0), (.nums 5 .u8 a0_1z a0_1)]), .v (.agg [(.int .i64 a1_0), (.nums 5 .u8 a1_1z a1_1)])] = (laws_eqRow.f (k + 1) a0_0 a0_1z a0_1 a1_0 a1_1z a1_1).map laws_eqRow.enc := by
  refine Eq.trans (b := laws_eqRow.b (fun r => some (laws_eqRow.enc r)) k a0_0 a0_1z a0_1 a1_0 a1_1z a1_1) (by kernel_rfl) ?_
  show _ = (laws_eqRow.b some k a0_0 a0_1z a0_1 a1_0 a1_1z a1_1).map laws_eqRow.enc
  unfold laws_eqRow.b
  repeat' first | with_reducible refine nat_cond ?_ ?_ | with_reducible refine nat_bind fun _ => ?_ | rfl
theorem laws_eqRow.sound (k : Nat) : SoundF Tryz.prog 66 (fun a => (laws_eqRow.ans k a).val) := by
  refine sound_plain (fun args res h => ?_) (fun t n => rfl)
  unfold laws_eqRow.ans at h
  dsimp only at h
  split at h
  · cases k with
    | zero => cases h
    | succ k =>
      unfold Ans.val at h
      rw [← laws_eqRow.eq] at h
      exact answer_sound mixed Tryz.func66 _ _ _ (k + 1) (fun j _ => tab_sound (tab_cons (laws_eqByteS.sound j) (tab_nil))) _ _ h
  · exact (Ans.no_val h).elim

def laws_eqRowS.b {R : Type} (ret : Bool → Option R) (j0 : Bool → (List T) → Bool → (List T) → Int → Option R) (k : Nat) (a0z : Bool) (a0 : List T) (a1z : Bool) (a1 : List T) : Option R :=
  cond (!(decide (((a0).length : Int) = ((a1).length : Int)))) (ret false) (j0 a0z a0 a1z a1 0)
def laws_eqRowS.l0b {R : Type} (ret : Bool → Option R) (j0 : Bool → (List T) → Bool → (List T) → Int → Option R) (k : Nat) (x0z : Bool) (x0 : List T) (x1z : Bool) (x1 : List T) (x5 : Int) : Option R :=
  cond (decide (x5 < ((x0).length : Int))) (cond (decide (0 ≤ x5)) (cond (decide (x5 < ((x0).length : Int))) (cond (decide (0 ≤ x5)) (cond (decide (x5 < ((x1).length : Int))) ((laws_eqRow.f k (((((x0).getD (x5).toNat .bad).cells.getD 0 .bad)).toInt) (((((x0).getD (x5).toNat .bad).cells.getD 1 .bad)).isNil) (((((x0).getD (x5).toNat .bad).cells.getD 1 .bad)).toNums) (((((x1).getD (x5).toNat .bad).cells.getD 0 .bad)).toInt) (((((x1).getD (x5).toNat .bad).cells.getD 1 .bad)).isNil) (((((x1).getD (x5).toNat .bad).cells.getD 1 .bad)).toNums)).bind fun t0 => cond (!t0) (ret false) (j0 x0z x0 x1z x1 (wrap64 (x5 + 1)))) (none)) (none)) (none)) (none)) (ret true)
def laws_eqRowS.l0 : Nat → Bool → (List T) → Bool → (List T) → Int → Option Bool
  | 0, _, _, _, _, _ => none
  | k + 1, x0z, x0, x1z, x1, x5 => laws_eqRowS.l0b some (laws_eqRowS.l0 k) k x0z x0 x1z x1 x5
def laws_eqRowS.f : Nat → Bool → (List T) → Bool → (List T) → Option Bool
  | 0, _, _, _, _ => none
  | k + 1, a0z, a0, a1z, a1 => laws_eqRowS.b some (laws_eqRowS.l0 k) k a0z a0 a1z a1
def laws_eqRowS.enc (r : Bool) : Res := ⟨[.vals false [((.bool r), true)]], []⟩
def laws_eqRowS.ans (k : Nat) : List Arg → Ans
  | [.v (.sl 85 a0z a0), .v (.sl 85 a1z a1)] => ⟨laws_eqRowS.f k a0z a0 a1z a1, laws_eqRowS.enc⟩
  | _ => Ans.no
def laws_eqRowS.Cs (k : Nat) : CallSem := tab [(66, laws_eqRow.ans k)]
def laws_eqRowS.cuts : List (Nat × Keep) := [(58, ⟨[(0, some []), (1, some []), (5, some [])], []⟩)]
noncomputable def laws_eqRowS.K0 : List Fr := framesAt [true, true, false, true, false] (bodyOf Tryz.f39 laws_eqRowS.cuts) []
def laws_eqRowS.N0 (x0z : Bool) (x0 : List T) (x1z : Bool) (x1 : List T) (x5 : Int) : St := stOf 27 27 2 [(0, .val ⟨(.sl 85 x0z x0), [], false, none⟩), (1, .val ⟨(.sl 85 x1z x1), [], false, none⟩), (5, .val (V.s (.int .i64 x5)))] []
theorem laws_eqRowS.s0 (k : Nat) (G : List Fr → St → Option Res) (a0z : Bool) (a0 : List T) (a1z : Bool) (a1 : List T) (yx0z : Bool) (yx0 : List T) (yx1z : Bool) (yx1 : List T) (yx5 : Int) : resume Tryz.prog (laws_eqRowS.Cs k) G (finish Tryz.prog [] Tryz.f39 [.v (.sl 85 a0z a0), .v (.sl 85 a1z a1)]) 100000 laws_eqRowS.K0 (laws_eqRowS.N0 yx0z yx0 yx1z yx1 yx5) = laws_eqRowS.l0b (fun r => some (laws_eqRowS.enc r)) (fun x0z x0 x1z x1 x5 => G laws_eqRowS.K0 (laws_eqRowS.N0 x0z x0 x1z x1 x5)) k yx0z yx0 yx1z yx1 yx5 := by kernel_rfl
theorem laws_eqRowS.bn {R R' : Type} (e : R → R') (ret : Bool → Option R) (j0 : Bool → (List T) → Bool → (List T) → Int → Option R) (k : Nat) (a0z : Bool) (a0 : List T) (a1z : Bool) (a1 : List T) : laws_eqRowS.b (fun r => (ret r).map e) (fun x0z x0 x1z x1 x5 => (j0 x0z x0 x1z x1 x5).map e) k a0z a0 a1z a1 = (laws_eqRowS.b ret j0 k a0z a0 a1z a1).map e := by
  unfold laws_eqRowS.b
  repeat' first | with_reducible refine nat_cond ?_ ?_ | with_reducible refine nat_bind fun _ => ?_ | rfl
theorem laws_eqRowS.l0n {R R' : Type} (e : R → R') (ret : Bool → Option R) (j0 : Bool → (List T) → Bool → (List T) → Int → Option R) (k : Nat) (x0z : Bool) (x0 : List T) (x1z : Bool) (x1 : List T) (x5 : Int) : laws_eqRowS.l0b (fun r => (ret r).map e) (fun x0z x0 x1z x1 x5 => (j0 x0z x0 x1z x1 x5).map e) k x0z x0 x1z x1 x5 = (laws_eqRowS.l0b ret j0 k x0z x0 x1z x1 x5).map e := by
  unfold laws_eqRowS.l0b
  repeat' first | with_reducible refine nat_cond ?_ ?_ | with_reducible refine nat_bind fun _ => ?_ | rfl
theorem laws_eqRowS.rq (a0z : Bool) (a0 : List T) (a1z : Bool) (a1 : List T) : ∀ k, (∀ (x0z : Bool) (x0 : List T) (x1z : Bool) (x1 : List T) (x5 : Int), rounds Tryz.prog laws_eqRowS.Cs (finish Tryz.prog [] Tryz.f39 [.v (.sl 85 a0z a0), .v (.sl 85 a1z a1)]) 100000 k laws_eqRowS.K0 (laws_eqRowS.N0 x0z x0 x1z x1 x5) = (laws_eqRowS.l0 k x0z x0 x1z x1 x5).map laws_eqRowS.enc)
  | 0 => fun _ _ _ _ _ => rfl
  | k + 1 => by
    have ih := laws_eqRowS.rq a0z a0 a1z a1 k
    refine fun _ _ _ _ _ => ?_
    · refine (laws_eqRowS.s0 k _ a0z a0 a1z a1 _ _ _ _ _).trans (Eq.trans ?_ (laws_eqRowS.l0n laws_eqRowS.enc some (laws_eqRowS.l0 k) k _ _ _ _ _))
      simp only [ih, Option.map_some]
theorem laws_eqRowS.eq (k : Nat) (a0z : Bool) (a0 : List T) (a1z : Bool) (a1 : List T) : answer Tryz.prog laws_eqRowS.Cs 100000 laws_eqRowS.cuts [] Tryz.f39 (k + 1) [.v (.sl 85 a0z a0), .v (.sl 85 a1z a1)] = (laws_eqRowS.f (k + 1) a0z a0 a1z a1).map laws_eqRowS.enc := by
  have ih := laws_eqRowS.rq a0z a0 a1z a1 k
  refine Eq.trans (b := laws_eqRowS.b (fun r => some (laws_eqRowS.enc r)) (fun x0z x0 x1z x1 x5 => rounds Tryz.prog laws_eqRowS.Cs (finish Tryz.prog [] Tryz.f39 [.v (.sl 85 a0z a0), .v (.sl 85 a1z a1)]) 100000 k laws_eqRowS.K0 (laws_eqRowS.N0 x0z x0 x1z x1 x5)) k a0z a0 a1z a1) (by kernel_rfl) (Eq.trans ?_ (laws_eqRowS.bn laws_eqRowS.enc some (laws_eqRowS.l0 k) k a0z a0 a1z a1))
  simp only [ih, Option.map_some]
theorem laws_eqRowS.sound (k : Nat) : SoundF Tryz.prog 39 (fun a => (laws_eqRowS.ans k a).val) := by
  refine sound_plain (fun args res h => ?_) (fun t n => rfl)
  unfold laws_eqRowS.ans at h
  dsimp only at h
  split at h
  · cases k with
    | zero => cases h
    | succ k =>
      unfold Ans.val at h
      rw [← laws_eqRowS.eq] at h
      exact answer_sound mixed Tryz.func39 _ _ _ (k + 1) (fun j _ => tab_sound (tab_cons (laws_eqRow.sound j) (tab_nil))) _ _ h
  · exact (Ans.no_val h).elim

def laws_eqTable.b {R : Type} (ret : Bool → Option R) (k : Nat) (a0_0z : Bool) (a0_0 : List T) (a1_0z : Bool) (a1_0 : List T) : Option R :=
  (laws_eqRowS.f k a0_0z a0_0 a1_0z a1_0).bind fun t0 => cond (!t0) (ret false) (ret true)
def laws_eqTable.f : Nat → Bool → (List T) → Bool → (List T) → Option Bool
  | 0, _, _, _, _ => none
  | k + 1, a0_0z, a0_0, a1_0z, a1_0 => laws_eqTable.b some k a0_0z a0_0 a1_0z a1_0
def laws_eqTable.enc (r : Bool) : Res := ⟨[.vals false [((.bool r), true)]], []⟩
def laws_eqTable.ans (k : Nat) : List Arg → Ans
  | [.v (.agg [(.sl 85 a0_0z a0_0)]), .v (.agg [(.sl 85 a1_0z a1_0)])] => ⟨laws_eqTable.f k a0_0z a0_0 a1_0z a1_0, laws_eqTable.enc⟩
  | _ => Ans.no
def laws_eqTable.Cs (k : Nat) : CallSem := tab [(39, laws_eqRowS.ans k)]
theorem laws_eqTable.eq (k : Nat) (a0_0z : Bool) (a0_0 : List T) (a1_0z : Bool) (a1_0 : List T) : answer Tryz.prog laws_eqTable.Cs 100000 [] [] Tryz.f13 (k + 1) [.v (.agg [(.sl 85 a0_0z a0_0)]), .v (.agg [(.sl 85 a1_0z a1_0)])] = (laws_eqTable.f (k + 1) a0_0z a0_0 a1_0z a1_0).map laws_eqTable.enc := by
  refine Eq.trans (b := laws_eqTable.b (fun r => some (laws_eqTable.enc r)) k a0_0z a0_0 a1_0z a1_0) (by kernel_rfl) ?_
  show _ = (laws_eqTable.b some k a0_0z a0_0 a1_0z a1_0).map laws_eqTable.enc
  unfold laws_eqTable.b
  repeat' first | with_reducible refine nat_cond ?_ ?_ | with_reducible refine nat_bind fun _ => ?_ | rfl
theorem laws_eqTable.sound (k : Nat) : SoundF Tryz.prog 13 (fun a => (laws_eqTable.ans k a).val) := by
  refine sound_plain (fun args res h => ?_) (fun t n => rfl)
  unfold laws_eqTable.ans at h
  dsimp only at h
  split at h
  · cases k with
    | zero => cases h
    | succ k =>
      unfold Ans.val at h
      rw [← laws_eqTable.eq] at h
      exact answer_sound mixed Tryz.func13 _ _ _ (k + 1) (fun j _ => tab_sound (tab_cons (laws_eqRowS.sound j) (tab_nil))) _ _ h
  · exact (Ans.no_val h).elim

def laws_eqVote.b {R : Type} (ret : Bool → Option R) (k : Nat) (a0_0 a0_1 : Int) (a0_2z : Bool) (a0_2 : List Int) (a0_3 : Int) (a0_4z : Bool) (a0_4 : List Int) (a1_0 a1_1 : Int) (a1_2z : Bool) (a1_2 : List Int) (a1_3 : Int) (a1_4z : Bool) (a1_4 : List Int) : Option R :=
  cond (!(decide (a0_0 = a1_0))) (ret false) (cond (!(decide (a0_1 = a1_1))) (ret false) ((laws_eqByteS.f k a0_2z a0_2 a1_2z a1_2).bind fun t0 => cond (!t0) (ret false) (cond (!(decide (a0_3 = a1_3))) (ret false) ((laws_eqByteS.f k a0_4z a0_4 a1_4z a1_4).bind fun t1 => cond (!t1) (ret false) (ret true)))))
def laws_eqVote.f : Nat → Int → Int → Bool → (List Int) → Int → Bool → (List Int) → Int → Int → Bool → (List Int) → Int → Bool → (List Int) → Option Bool
  | 0, _, _, _, _, _, _, _, _, _, _, _, _, _, _ => none
  | k + 1, a0_0, a0_1, a0_2z, a0_2, a0_3, a0_4z, a0_4, a1_0, a1_1, a1_2z, a1_2, a1_3, a1_4z, a1_4 => laws_eqVote.b some k a0_0 a0_1 a0_2z a0_2 a0_3 a0_4z a0_4 a1_0 a1_1 a1_2z a1_2 a1_3 a1_4z a1_4
def laws_eqVote.enc (r : Bool) : Res := ⟨[.vals false [((.bool r), true)]], []⟩
def laws_eqVote.ans (k : Nat) : List Arg → Ans
  | [.v (.agg [(.int .i64 a0_0), (.int .i64 a0_1), (.nums 5 .u8 a0_2z a0_2), (.int .i64 a0_3), (.nums 5 .u8 a0_4z a0_4)]), .v (.agg [(.int .i64 a1_0), (.int .i64 a1_1), (.nums 5 .u8 a1_2z a1_2), (.int .i64 a1_3), (.nums 5 .u8 a1_4z a1_4)])] => ⟨laws_eqVote.f k a0_0 a0_1 a0_2z a0_2 a0_3 a0_4z a0_4 a1_0 a1_1 a1_2z a1_2 a1_3 a1_4z a1_4, laws_eqVote.enc⟩
  | _ => Ans.no
def laws_eqVote.Cs (k : Nat) : CallSem := tab [(15, laws_eqByteS.ans k)]
theorem laws_eqVote.eq (k : Nat) (a0_0 a0_1 : Int) (a0_2z : Bool) (a0_2 : List Int) (a0_3 : Int) (a0_4z : Bool) (a0_4 : List Int) (a1_0 a1_1 : Int) (a1_2z : Bool) (a1_2 : List Int) (a1_3 : Int) (a1_4z : Bool) (a1_4 : List Int) : answer Tryz.prog laws_eqVote.Cs 100000 [] [] Tryz.f40 (k + 1) [.v (.agg [(.int .i64 a0_0), (.int .i64 a0_1), (.nums 5 .u8 a0_2z a0_2), (.int .i64 a0_3), (.nums 5 .u8 a0_4z a0_4)]), .v (.agg [(.int .i64 a1_0), (.int .i64 a1_1), (.nums 5 .u8 a1_2z a1_2), (.int .i64 a1_3), (.nums 5 .u8 a1_4z a1_4)])] = (laws_eqVote.f (k + 1) a0_0 a0_1 a0_2z a0_2 a0_3 a0_4z a0_4 a1_0 a1_1 a1_2z a1_2 a1_3 a1_4z a1_4).map laws_eqVote.enc := by
  refine Eq.trans (b := laws_eqVote.b (fun r => some (laws_eqVote.enc r)) k a0_0 a0_1 a0_2z a0_2 a0_3 a0_4z a0_4 a1_0 a1_1 a1_2z a1_2 a1_3 a1_4z a1_4) (by kernel_rfl) ?_
  show _ = (laws_eqVote.b some k a0_0 a0_1 a0_2z a0_2 a0_3 a0_4z a0_4 a1_0 a1_1 a1_2z a1_2 a1_3 a1_4z a1_4).map laws_eqVote.enc
  unfold laws_eqVote.b
  repeat' first | with_reducible refine nat_cond ?_ ?_ | with_reducible refine nat_bind fun _ => ?_ | rfl
theorem laws_eqVote.sound (k : Nat) : SoundF Tryz.prog 40 (fun a => (laws_eqVote.ans k a).val) := by
  refine sound_plain (fun args res h => ?_) (fun t n => rfl)
  unfold laws_eqVote.ans at h
  dsimp only at h
  split at h
  · cases k with
    | zero => cases h
    | succ k =>
      unfold Ans.val at h
      rw [← laws_eqVote.eq] at h
      exact answer_sound mixed Tryz.func40 _ _ _ (k + 1) (fun j _ => tab_sound (tab_cons (laws_eqByteS.sound j) (tab_nil))) _ _ h
  · exact (Ans.no_val h).elim

def laws_eqVoteS.b {R : Type} (ret : Bool → Option R) (j0 : Bool → (List T) → Bool → (List T) → Int → Option R) (k : Nat) (a0z : Bool) (a0 : List T) (a1z : Bool) (a1 : List T) : Option R :=
  cond (!(decide (((a0).length : Int) = ((a1).length : Int)))) (ret false) (j0 a0z a0 a1z a1 0)
def laws_eqVoteS.l0b {R : Type} (ret : Bool → Option R) (j0 : Bool → (List T) → Bool → (List T) → Int → Option R) (k : Nat) (x0z : Bool) (x0 : List T) (x1z : Bool) (x1 : List T) (x5 : Int) : Option R :=
  cond (decide (x5 < ((x0).length : Int))) (cond (decide (0 ≤ x5)) (cond (decide (x5 < ((x0).length : Int))) (cond (decide (0 ≤ x5)) (cond (decide (x5 < ((x1).length : Int))) ((laws_eqVote.f k (((((x0).getD (x5).toNat .bad).cells.getD 0 .bad)).toInt) (((((x0).getD (x5).toNat .bad).cells.getD 1 .bad)).toInt) (((((x0).getD (x5).toNat .bad).cells.getD 2 .bad)).isNil) (((((x0).getD (x5).toNat .bad).cells.getD 2 .bad)).toNums) (((((x0).getD (x5).toNat .bad).cells.getD 3 .bad)).toInt) (((((x0).getD (x5).toNat .bad).cells.getD 4 .bad)).isNil) (((((x0).getD (x5).toNat .bad).cells.getD 4 .bad)).toNums) (((((x1).getD (x5).toNat .bad).cells.getD 0 .bad)).toInt) (((((x1).getD (x5).toNat .bad).cells.getD 1 .bad)).toInt) (((((x1).getD (x5).toNat .bad).cells.getD 2 .bad)).isNil) (((((x1).getD (x5).toNat .bad).cells.getD 2 .bad)).toNums) (((((x1).getD (x5).toNat .bad).cells.getD 3 .bad)).toInt) (((((x1).getD (x5).toNat .bad).cells.getD 4 .bad)).isNil) (((((x1).getD (x5).toNat .bad).cells.getD 4 .bad)).toNums)).bind fun t0 => cond (!t0) (ret false) (j0 x0z x0 x1z x1 (wrap64 (x5 + 1)))) (none)) (none)) (none)) (none)) (ret true)
def laws_eqVoteS.l0 : Nat → Bool → (List T) → Bool → (List T) → Int → Option Bool
  | 0, _, _, _, _, _ => none
  | k + 1, x0z, x0, x1z, x1, x5 => laws_eqVoteS.l0b some (laws_eqVoteS.l0 k) k x0z x0 x1z x1 x5
def laws_eqVoteS.f : Nat → Bool → (List T) → Bool → (List T) → Option Bool
  | 0, _, _, _, _ => none
  | k + 1, a0z, a0, a1z, a1 => laws_eqVoteS.b some (laws_eqVoteS.l0 k) k a0z a0 a1z a1
def laws_eqVoteS.enc (r : Bool) : Res := ⟨[.vals false [((.bool r), true)]], []⟩
def laws_eqVoteS.ans (k : Nat) : List Arg → Ans
  | [.v (.sl 59 a0z a0), .v (.sl 59 a1z a1)] => ⟨laws_eqVoteS.f k a0z a0 a1z a1, laws_eqVoteS.enc⟩
  | _ => Ans.no
def laws_eqVoteS.Cs (k : Nat) : CallSem := tab [(40, laws_eqVote.ans k)]
def laws_eqVoteS.cuts : List (Nat × Keep) := [(58, ⟨[(0, some []), (1, some []), (5, some [])], []⟩)]
noncomputable def laws_eqVoteS.K0 : List Fr := framesAt [true, true, false, true, false] (bodyOf Tryz.f14 laws_eqVoteS.cuts) []
def laws_eqVoteS.N0 (x0z : Bool) (x0 : List T) (x1z : Bool) (x1 : List T) (x5 : Int) : St := stOf 27 27 2 [(0, .val ⟨(.sl 59 x0z x0), [], false, none⟩), (1, .val ⟨(.sl 59 x1z x1), [], false, none⟩), (5, .val (V.s (.int .i64 x5)))] []
theorem laws_eqVoteS.s0 (k : Nat) (G : List Fr → St → Option Res) (a0z : Bool) (a0 : List T) (a1z : Bool) (a1 : List T) (yx0z : Bool) (yx0 : List T) (yx1z : Bool) (yx1 : List T) (yx5 : Int) : resume Tryz.prog (laws_eqVoteS.Cs k) G (finish Tryz.prog [] Tryz.f14 [.v (.sl 59 a0z a0), .v (.sl 59 a1z a1)]) 100000 laws_eqVoteS.K0 (laws_eqVoteS.N0 yx0z yx0 yx1z yx1 yx5) = laws_eqVoteS.l0b (fun r => some (laws_eqVoteS.enc r)) (fun x0z x0 x1z x1 x5 => G laws_eqVoteS.K0 (laws_eqVoteS.N0 x0z x0 x1z x1 x5)) k yx0z yx0 yx1z yx1 yx5 := by kernel_rfl
theorem laws_eqVoteS.bn {R R' : Type} (e : R → R') (ret : Bool → Option R) (j0 : Bool → (List T) → Bool → (List T) → Int → Option R) (k : Nat) (a0z : Bool) (a0 : List T) (a1z : Bool) (a1 : List T) : laws_eqVoteS.b (fun r => (ret r).map e) (fun x0z x0 x1z x1 x5 => (j0 x0z x0 x1z x1 x5).map e) k a0z a0 a1z a1 = (laws_eqVoteS.b ret j0 k a0z a0 a1z a1).map e := by
  unfold laws_eqVoteS.b
  repeat' first | with_reducible refine nat_cond ?_ ?_ | with_reducible refine nat_bind fun _ => ?_ | rfl
theorem laws_eqVoteS.l0n {R R' : Type} (e : R → R') (ret : Bool → Option R) (j0 : Bool → (List T) → Bool → (List T) → Int → Option R) (k : Nat) (x0z : Bool) (x0 : List T) (x1z : Bool) (x1 : List T) (x5 : Int) : laws_eqVoteS.l0b (fun r => (ret r).map e) (fun x0z x0 x1z x1 x5 => (j0 x0z x0 x1z x1 x5).map e) k x0z x0 x1z x1 x5 = (laws_eqVoteS.l0b ret j0 k x0z x0 x1z x1 x5).map e := by
  unfold laws_eqVoteS.l0b
  repeat' first | with_reducible refine nat_cond ?_ ?_ | with_reducible refine nat_bind fun _ => ?_ | rfl
theorem laws_eqVoteS.rq (a0z : Bool) (a0 : List T) (a1z : Bool) (a1 : List T) : ∀ k, (∀ (x0z : Bool) (x0 : List T) (x1z : Bool) (x1 : List T) (x5 : Int), rounds Tryz.prog laws_eqVoteS.Cs (finish Tryz.prog [] Tryz.f14 [.v (.sl 59 a0z a0), .v (.sl 59 a1z a1)]) 100000 k laws_eqVoteS.K0 (laws_eqVoteS.N0 x0z x0 x1z x1 x5) = (laws_eqVoteS.l0 k x0z x0 x1z x1 x5).map laws_eqVoteS.enc)
  | 0 => fun _ _ _ _ _ => rfl
  | k + 1 => by
    have ih := laws_eqVoteS.rq a0z a0 a1z a1 k
    refine fun _ _ _ _ _ => ?_
    · refine (laws_eqVoteS.s0 k _ a0z a0 a1z a1 _ _ _ _ _).trans (Eq.trans ?_ (laws_eqVoteS.l0n laws_eqVoteS.enc some (laws_eqVoteS.l0 k) k _ _ _ _ _))
      simp only [ih, Option.map_some]
theorem laws_eqVoteS.eq (k : Nat) (a0z : Bool) (a0 : List T) (a1z : Bool) (a1 : List T) : answer Tryz.prog laws_eqVoteS.Cs 100000 laws_eqVoteS.cuts [] Tryz.f14 (k + 1) [.v (.sl 59 a0z a0), .v (.sl 59 a1z a1)] = (laws_eqVoteS.f (k + 1) a0z a0 a1z a1).map laws_eqVoteS.enc := by
  have ih := laws_eqVoteS.rq a0z a0 a1z a1 k
  refine Eq.trans (b := laws_eqVoteS.b (fun r => some (laws_eqVoteS.enc r)) (fun x0z x0 x1z x1 x5 => rounds Tryz.prog laws_eqVoteS.Cs (finish Tryz.prog [] Tryz.f14 [.v (.sl 59 a0z a0), .v (.sl 59 a1z a1)]) 100000 k laws_eqVoteS.K0 (laws_eqVoteS.N0 x0z x0 x1z x1 x5)) k a0z a0 a1z a1) (by kernel_rfl) (Eq.trans ?_ (laws_eqVoteS.bn laws_eqVoteS.enc some (laws_eqVoteS.l0 k) k a0z a0 a1z a1))
  simp only [ih, Option.map_some]
theorem laws_eqVoteS.sound (k : Nat) : SoundF Tryz.prog 14 (fun a => (laws_eqVoteS.ans k a).val) := by
  refine sound_plain (fun args res h => ?_) (fun t n => rfl)
  unfold laws_eqVoteS.ans at h
  dsimp only at h
  split at h
  · cases k with
    | zero => cases h
    | succ k =>
      unfold Ans.val at h
      rw [← laws_eqVoteS.eq] at h
      exact answer_sound mixed Tryz.func14 _ _ _ (k + 1) (fun j _ => tab_sound (tab_cons (laws_eqVote.sound j) (tab_nil))) _ _ h
  · exact (Ans.no_val h).elim

def laws_markByteS.b {R : Type} (ret : Int × Bool × List Int → Option R) (j0 : Bool → (List Int) → Int → Int → Option R) (k : Nat) (a0z : Bool) (a0 : List Int) (a1 : Int) : Option R :=
  j0 a0z a0 a1 0
def laws_markByteS.l0b {R : Type} (ret : Int × Bool × List Int → Option R) (j0 : Bool → (List Int) → Int → Int → Option R) (k : Nat) (x0z : Bool) (x0 : List Int) (x1 x5 : Int) : Option R :=
  cond (decide (x5 < ((x0).length : Int))) (cond (decide (0 ≤ x5)) (cond (decide (x5 < ((x0).length : Int))) (j0 x0z ((x0).set (x5).toNat ((x1) % 256)) (wrap64 (x1 + 1)) (wrap64 (x5 + 1))) (none)) (none)) (ret (x1, x0z, x0))
def laws_markByteS.l0 : Nat → Bool → (List Int) → Int → Int → Option (Int × Bool × List Int)
  | 0, _, _, _, _ => none
  | k + 1, x0z, x0, x1, x5 => laws_markByteS.l0b some (laws_markByteS.l0 k) k x0z x0 x1 x5
def laws_markByteS.f : Nat → Bool → (List Int) → Int → Option (Int × Bool × List Int)
  | 0, _, _, _ => none
  | k + 1, a0z, a0, a1 => laws_markByteS.b some (laws_markByteS.l0 k) k a0z a0 a1
def laws_markByteS.enc (r : Int × Bool × List Int) : Res := ⟨[.vals false [((.int .i64 r.1), true)]], [[((.nums 5 .u8 r.2.1 r.2.2), true)]]⟩
def laws_markByteS.ans (k : Nat) : List Arg → Ans
  | [.own (.nums 5 .u8 a0z a0), .v (.int .i64 a1)] => ⟨laws_markByteS.f k a0z a0 a1, laws_markByteS.enc⟩
  | _ => Ans.no
def laws_markByteS.Cs (k : Nat) : CallSem := tab []
def laws_markByteS.cuts : List (Nat × Keep) := [(26, ⟨[(0, none), (1, some []), (5, some [])], []⟩)]
noncomputable def laws_markByteS.K0 : List Fr := framesAt [true, false, true, false] (bodyOf Tryz.f18 laws_markByteS.cuts) []
def laws_markByteS.N0 (x0z : Bool) (x0 : List Int) (x1 x5 : Int) : St := stOf 20 20 2 [(0, .val ⟨(.nums 5 .u8 x0z x0), [.h 0], true, some (.h 0)⟩), (1, .val (V.s (.int .i64 x1))), (5, .val (V.s (.int .i64 x5)))] []
theorem laws_markByteS.s (k : Nat) (a0z : Bool) (a0 : List Int) (a1 : Int) : answerM Tryz.prog laws_markByteS.Cs 100000 laws_markByteS.cuts Tryz.f18 (k + 1) [.own (.nums 5 .u8 a0z a0), .v (.int .i64 a1)] = laws_markByteS.b (fun r => some (laws_markByteS.enc r)) (fun x0z x0 x1 x5 => rounds Tryz.prog laws_markByteS.Cs (finishM Tryz.prog Tryz.f18 (.nums 5 .u8 a0z a0)) 100000 k laws_markByteS.K0 (laws_markByteS.N0 x0z x0 x1 x5)) k a0z a0 a1 := by kernel_rfl
theorem laws_markByteS.s0 (k : Nat) (G : List Fr → St → Option Res) (a0z : Bool) (a0 : List Int) (a1 : Int) (yx0z : Bool) (yx0 : List Int) (yx1 yx5 : Int) : resume Tryz.prog (laws_markByteS.Cs k) G (finishM Tryz.prog Tryz.f18 (.nums 5 .u8 a0z a0)) 100000 laws_markByteS.K0 (laws_markByteS.N0 yx0z yx0 yx1 yx5) = laws_markByteS.l0b (fun r => some (laws_markByteS.enc r)) (fun x0z x0 x1 x5 => G laws_markByteS.K0 (laws_markByteS.N0 x0z x0 x1 x5)) k yx0z yx0 yx1 yx5 := by kernel_rfl
theorem laws_markByteS.b_nat {R R' : Type} (e : R → R') (ret : Int × Bool × List Int → Option R) (j0 : Bool → (List Int) → Int → Int → Option R) (k : Nat) (a0z : Bool) (a0 : List Int) (a1 : Int) : laws_markByteS.b (fun r => (ret r).map e) (fun x0z x0 x1 x5 => (j0 x0z x0 x1 x5).map e) k a0z a0 a1 = (laws_markByteS.b ret j0 k a0z a0 a1).map e := by
  unfold laws_markByteS.b
  repeat' first | with_reducible refine nat_cond ?_ ?_ | with_reducible refine nat_bind fun _ => ?_ | rfl
theorem laws_markByteS.l0b_nat {R R' : Type} (e : R → R') (ret : Int × Bool × List Int → Option R) (j0 : Bool → (List Int) → Int → Int → Option R) (k : Nat) (x0z : Bool) (x0 : List Int) (x1 x5 : Int) : laws_markByteS.l0b (fun r => (ret r).map e) (fun x0z x0 x1 x5 => (j0 x0z x0 x1 x5).map e) k x0z x0 x1 x5 = (laws_markByteS.l0b ret j0 k x0z x0 x1 x5).map e := by
  unfold laws_markByteS.l0b
  repeat' first | with_reducible refine nat_cond ?_ ?_ | with_reducible refine nat_bind fun _ => ?_ | rfl
theorem laws_markByteS.rounds_eq (a0z : Bool) (a0 : List Int) (a1 : Int) : ∀ k, (∀ (x0z : Bool) (x0 : List Int) (x1 x5 : Int), rounds Tryz.prog laws_markByteS.Cs (finishM Tryz.prog Tryz.f18 (.nums 5 .u8 a0z a0)) 100000 k laws_markByteS.K0 (laws_markByteS.N0 x0z x0 x1 x5) = (laws_markByteS.l0 k x0z x0 x1 x5).map laws_markByteS.enc)
  | 0 => fun _ _ _ _ => rfl
  | k + 1 => by
    have ih := laws_markByteS.rounds_eq a0z a0 a1 k
    refine fun _ _ _ _ => ?_
    · refine (laws_markByteS.s0 k _ a0z a0 a1 _ _ _ _).trans (Eq.trans ?_ (laws_markByteS.l0b_nat laws_markByteS.enc some (laws_markByteS.l0 k) k _ _ _ _))
      simp only [ih, Option.map_some]
theorem laws_markByteS.eq (k : Nat) (a0z : Bool) (a0 : List Int) (a1 : Int) : answerM Tryz.prog laws_markByteS.Cs 100000 laws_markByteS.cuts Tryz.f18 (k + 1) [.own (.nums 5 .u8 a0z a0), .v (.int .i64 a1)] = (laws_markByteS.f (k + 1) a0z a0 a1).map laws_markByteS.enc := by
  have ih := laws_markByteS.rounds_eq a0z a0 a1 k
  refine (laws_markByteS.s k a0z a0 a1).trans (Eq.trans ?_ (laws_markByteS.b_nat laws_markByteS.enc some (laws_markByteS.l0 k) k a0z a0 a1))
  simp only [ih, Option.map_some]
theorem laws_markByteS.sound (k : Nat) : SoundF Tryz.prog 18 (fun a => (laws_markByteS.ans k a).val) := by
  refine sound_mark (fun args hne => ?_) (fun t n l m h => ?_)
  · unfold laws_markByteS.ans
    split
    · exact (hne _ _ rfl).elim
    · rfl
  unfold laws_markByteS.ans at h
  dsimp only at h
  split at h
  · rename_i heq
    cases heq
    cases k with
    | zero => cases h
    | succ k =>
      unfold Ans.val at h
      rw [← laws_markByteS.eq] at h
      exact answerM_sound (Cs := laws_markByteS.Cs) mixed Tryz.func18 100000 laws_markByteS.cuts (k + 1) (fun j _ => tab_sound (tab_nil)) _ _ _ _ h
  · exact (Ans.no_val h).elim

def laws_markRowS.b {R : Type} (ret : Int × Bool × List T → Option R) (j0 : Bool → (List T) → Int → Int → Option R) (k : Nat) (a0z : Bool) (a0 : List T) (a1 : Int) : Option R :=
  j0 a0z a0 a1 0
def laws_markRowS.l0b {R : Type} (ret : Int × Bool × List T → Option R) (j0 : Bool → (List T) → Int → Int → Option R) (k : Nat) (x0z : Bool) (x0 : List T) (x1 x5 : Int) : Option R :=
  cond (decide (x5 < ((x0).length : Int))) (cond (decide (0 ≤ x5)) (cond (decide (x5 < ((x0).length : Int))) (cond (decide (0 ≤ x5)) (cond (decide (x5 < ((((x0).set (x5).toNat (.agg [(.int .i64 x1), (.nums 5 .u8 ((((x0).getD (x5).toNat .bad).cells.getD 1 .bad)).isNil ((((x0).getD (x5).toNat .bad).cells.getD 1 .bad)).toNums)]))).length : Int))) ((laws_markByteS.f k (((((((x0).set (x5).toNat (.agg [(.int .i64 x1), (.nums 5 .u8 ((((x0).getD (x5).toNat .bad).cells.getD 1 .bad)).isNil ((((x0).getD (x5).toNat .bad).cells.getD 1 .bad)).toNums)]))).getD (x5).toNat .bad).cells.getD 1 .bad)).isNil) (((((((x0).set (x5).toNat (.agg [(.int .i64 x1), (.nums 5 .u8 ((((x0).getD (x5).toNat .bad).cells.getD 1 .bad)).isNil ((((x0).getD (x5).toNat .bad).cells.getD 1 .bad)).toNums)]))).getD (x5).toNat .bad).cells.getD 1 .bad)).toNums) (wrap64 (x1 + 1))).bind fun t0 => j0 x0z ((((x0).set (x5).toNat (.agg [(.int .i64 x1), (.nums 5 .u8 ((((x0).getD (x5).toNat .bad).cells.getD 1 .bad)).isNil ((((x0).getD (x5).toNat .bad).cells.getD 1 .bad)).toNums)]))).set (x5).toNat (.agg [(.int .i64 ((((((x0).set (x5).toNat (.agg [(.int .i64 x1), (.nums 5 .u8 ((((x0).getD (x5).toNat .bad).cells.getD 1 .bad)).isNil ((((x0).getD (x5).toNat .bad).cells.getD 1 .bad)).toNums)]))).getD (x5).toNat .bad).cells.getD 0 .bad)).toInt), (.nums 5 .u8 t0.2.1 t0.2.2)])) t0.1 (wrap64 (x5 + 1))) (none)) (none)) (none)) (none)) (ret (x1, x0z, x0))
def laws_markRowS.l0 : Nat → Bool → (List T) → Int → Int → Option (Int × Bool × List T)
  | 0, _, _, _, _ => none
  | k + 1, x0z, x0, x1, x5 => laws_markRowS.l0b some (laws_markRowS.l0 k) k x0z x0 x1 x5
def laws_markRowS.f : Nat → Bool → (List T) → Int → Option (Int × Bool × List T)
  | 0, _, _, _ => none
  | k + 1, a0z, a0, a1 => laws_markRowS.b some (laws_markRowS.l0 k) k a0z a0 a1
def laws_markRowS.enc (r : Int × Bool × List T) : Res := ⟨[.vals false [((.int .i64 r.1), true)]], [[((.sl 85 r.2.1 r.2.2), true)]]⟩
def laws_markRowS.ans (k : Nat) : List Arg → Ans
  | [.own (.sl 85 a0z a0), .v (.int .i64 a1)] => ⟨laws_markRowS.f k a0z a0 a1, laws_markRowS.enc⟩
  | _ => Ans.no
def laws_markRowS.Cs (k : Nat) : CallSem := tab [(18, laws_markByteS.ans k)]
def laws_markRowS.cuts : List (Nat × Keep) := [(26, ⟨[(0, none), (1, some []), (5, some [])], []⟩)]
noncomputable def laws_markRowS.K0 : List Fr := framesAt [true, false, true, false] (bodyOf Tryz.f41 laws_markRowS.cuts) []
def laws_markRowS.N0 (x0z : Bool) (x0 : List T) (x1 x5 : Int) : St := stOf 27 27 2 [(0, .val ⟨(.sl 85 x0z x0), [.h 0], true, some (.h 0)⟩), (1, .val (V.s (.int .i64 x1))), (5, .val (V.s (.int .i64 x5)))] []
theorem laws_markRowS.s (k : Nat) (a0z : Bool) (a0 : List T) (a1 : Int) : answerM Tryz.prog laws_markRowS.Cs 100000 laws_markRowS.cuts Tryz.f41 (k + 1) [.own (.sl 85 a0z a0), .v (.int .i64 a1)] = laws_markRowS.b (fun r => some (laws_markRowS.enc r)) (fun x0z x0 x1 x5 => rounds Tryz.prog laws_markRowS.Cs (finishM Tryz.prog Tryz.f41 (.sl 85 a0z a0)) 100000 k laws_markRowS.K0 (laws_markRowS.N0 x0z x0 x1 x5)) k a0z a0 a1 := by kernel_rfl
theorem laws_markRowS.s0 (k : Nat) (G : List Fr → St → Option Res) (a0z : Bool) (a0 : List T) (a1 : Int) (yx0z : Bool) (yx0 : List T) (yx1 yx5 : Int) : resume Tryz.prog (laws_markRowS.Cs k) G (finishM Tryz.prog Tryz.f41 (.sl 85 a0z a0)) 100000 laws_markRowS.K0 (laws_markRowS.N0 yx0z yx0 yx1 yx5) = laws_markRowS.l0b (fun r => some (laws_markRowS.enc r)) (fun x0z x0 x1 x5 => G laws_markRowS.K0 (laws_markRowS.N0 x0z x0 x1 x5)) k yx0z yx0 yx1 yx5 := by kernel_rfl
theorem laws_markRowS.b_nat {R R' : Type} (e : R → R') (ret : Int × Bool × List T → Option R) (j0 : Bool → (List T) → Int → Int → Option R) (k : Nat) (a0z : Bool) (a0 : List T) (a1 : Int) : laws_markRowS.b (fun r => (ret r).map e) (fun x0z x0 x1 x5 => (j0 x0z x0 x1 x5).map e) k a0z a0 a1 = (laws_markRowS.b ret j0 k a0z a0 a1).map e := by
  unfold laws_markRowS.b
  repeat' first | with_reducible refine nat_cond ?_ ?_ | with_reducible refine nat_bind fun _ => ?_ | rfl
theorem laws_markRowS.l0b_nat {R R' : Type} (e : R → R') (ret : Int × Bool × List T → Option R) (j0 : Bool → (List T) → Int → Int → Option R) (k : Nat) (x0z : Bool) (x0 : List T) (x1 x5 : Int) : laws_markRowS.l0b (fun r => (ret r).map e) (fun x0z x0 x1 x5 => (j0 x0z x0 x1 x5).map e) k x0z x0 x1 x5 = (laws_markRowS.l0b ret j0 k x0z x0 x1 x5).map e := by
  unfold laws_markRowS.l0b
  repeat' first | with_reducible refine nat_cond ?_ ?_ | with_reducible refine nat_bind fun _ => ?_ | rfl
theorem laws_markRowS.rounds_eq (a0z : Bool) (a0 : List T) (a1 : Int) : ∀ k, (∀ (x0z : Bool) (x0 : List T) (x1 x5 : Int), rounds Tryz.prog laws_markRowS.Cs (finishM Tryz.prog Tryz.f41 (.sl 85 a0z a0)) 100000 k laws_markRowS.K0 (laws_markRowS.N0 x0z x0 x1 x5) = (laws_markRowS.l0 k x0z x0 x1 x5).map laws_markRowS.enc)
  | 0 => fun _ _ _ _ => rfl
  | k + 1 => by
    have ih := laws_markRowS.rounds_eq a0z a0 a1 k
    refine fun _ _ _ _ => ?_
    · refine (laws_markRowS.s0 k _ a0z a0 a1 _ _ _ _).trans (Eq.trans ?_ (laws_markRowS.l0b_nat laws_markRowS.enc some (laws_markRowS.l0 k) k _ _ _ _))
      simp only [ih, Option.map_some]
theorem laws_markRowS.eq (k : Nat) (a0z : Bool) (a0 : List T) (a1 : Int) : answerM Tryz.prog laws_markRowS.Cs 100000 laws_markRowS.cuts Tryz.f41 (k + 1) [.own (.sl 85 a0z a0), .v (.int .i64 a1)] = (laws_markRowS.f (k + 1) a0z a0 a1).map laws_markRowS.enc := by
  have ih := laws_markRowS.rounds_eq a0z a0 a1 k
  refine (laws_markRowS.s k a0z a0 a1).trans (Eq.trans ?_ (laws_markRowS.b_nat laws_markRowS.enc some (laws_markRowS.l0 k) k a0z a0 a1))
  simp only [ih, Option.map_some]
theorem laws_markRowS.sound (k : Nat) : SoundF Tryz.prog 41 (fun a => (laws_markRowS.ans k a).val) := by
  refine sound_mark (fun args hne => ?_) (fun t n l m h => ?_)
  · unfold laws_markRowS.ans
    split
    · exact (hne _ _ rfl).elim
    · rfl
  unfold laws_markRowS.ans at h
  dsimp only at h
  split at h
  · rename_i heq
    cases heq
    cases k with
    | zero => cases h
    | succ k =>
      unfold Ans.val at h
      rw [← laws_markRowS.eq] at h
      exact answerM_sound (Cs := laws_markRowS.Cs) mixed Tryz.func41 100000 laws_markRowS.cuts (k + 1) (fun j _ => tab_sound (tab_cons (laws_markByteS.sound j) (tab_nil))) _ _ _ _ h
  · exact (Ans.no_val h).elim

def laws_markTable.b {R : Type} (ret : Int × Bool × List T → Option R) (k : Nat) (a0_0z : Bool) (a0_0 : List T) (a1 : Int) : Option R :=
  (laws_markRowS.f k a0_0z a0_0 a1).bind fun t0 => ret (t0.1, t0.2.1, t0.2.2)
def laws_markTable.f : Nat → Bool → (List T) → Int → Option (Int × Bool × List T)
  | 0, _, _, _ => none
  | k + 1, a0_0z, a0_0, a1 => laws_markTable.b some k a0_0z a0_0 a1
def laws_markTable.enc (r : Int × Bool × List T) : Res := ⟨[.vals false [((.int .i64 r.1), true)]], [[((.sl 85 r.2.1 r.2.2), true)]]⟩
def laws_markTable.ans (k : Nat) : List Arg → Ans
  | [.own (.agg [(.sl 85 a0_0z a0_0)]), .v (.int .i64 a1)] => ⟨laws_markTable.f k a0_0z a0_0 a1, laws_markTable.enc⟩
  | _ => Ans.no
def laws_markTable.Cs (k : Nat) : CallSem := tab [(41, laws_markRowS.ans k)]
def laws_markTable.cuts : List (Nat × Keep) := []
theorem laws_markTable.s (k : Nat) (a0_0z : Bool) (a0_0 : List T) (a1 : Int) : answerM Tryz.prog laws_markTable.Cs 100000 laws_markTable.cuts Tryz.f16 (k + 1) [.own (.agg [(.sl 85 a0_0z a0_0)]), .v (.int .i64 a1)] = laws_markTable.b (fun r => some (laws_markTable.enc r)) k a0_0z a0_0 a1 := by kernel_rfl
theorem laws_markTable.b_nat {R R' : Type} (e : R → R') (ret : Int × Bool × List T → Option R) (k : Nat) (a0_0z : Bool) (a0_0 : List T) (a1 : Int) : laws_markTable.b (fun r => (ret r).map e) k a0_0z a0_0 a1 = (laws_markTable.b ret k a0_0z a0_0 a1).map e := by
  unfold laws_markTable.b
  repeat' first | with_reducible refine nat_cond ?_ ?_ | with_reducible refine nat_bind fun _ => ?_ | rfl
theorem laws_markTable.eq (k : Nat) (a0_0z : Bool) (a0_0 : List T) (a1 : Int) : answerM Tryz.prog laws_markTable.Cs 100000 laws_markTable.cuts Tryz.f16 (k + 1) [.own (.agg [(.sl 85 a0_0z a0_0)]), .v (.int .i64 a1)] = (laws_markTable.f (k + 1) a0_0z a0_0 a1).map laws_markTable.enc := by
  refine (laws_markTable.s k a0_0z a0_0 a1).trans (Eq.trans ?_ (laws_markTable.b_nat laws_markTable.enc some k a0_0z a0_0 a1))
  simp only [Option.map_some]
theorem laws_markTable.sound (k : Nat) : SoundF Tryz.prog 16 (fun a => (laws_markTable.ans k a).val) := by
  refine sound_mark (fun args hne => ?_) (fun t n l m h => ?_)
  · unfold laws_markTable.ans
    split
    · exact (hne _ _ rfl).elim
    · rfl
  unfold laws_markTable.ans at h
  dsimp only at h
  split at h
  · rename_i heq
    cases heq
    cases k with
    | zero => cases h
    | succ k =>
      unfold Ans.val at h
      rw [← laws_markTable.eq] at h
      exact answerM_sound (Cs := laws_markTable.Cs) mixed Tryz.func16 100000 laws_markTable.cuts (k + 1) (fun j _ => tab_sound (tab_cons (laws_markRowS.sound j) (tab_nil))) _ _ _ _ h
  · exact (Ans.no_val h).elim

end Go.Proofs.YtbpcnodmgphinaaGreatG
