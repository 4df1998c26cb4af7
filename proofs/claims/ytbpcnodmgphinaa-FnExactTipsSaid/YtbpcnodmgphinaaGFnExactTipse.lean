/- What the functions compute, printed by a program of this repo; each is shown to be what the machine of values answers. No condition. -/
import Derived.Test.YtbpcnodmgphinaaProg
import Derived.KernelRfl
import Derived.Test.YtbpcnodmgphinaaGFnExactTipsd
namespace Go.Proofs.YtbpcnodmgphinaaG
open Go Go.Proofs.YtbpcnodmgphinaaRv Go.Proofs
set_option linter.unusedVariables false
set_option linter.unusedSimpArgs false
def impl_Tips.b {R : Type} (ret : Bool × List T → Option R) (j0 : (List T) → Bool → (List T) → Int → Int → Int → Int → Int → Int → Int → Bool → (List T) → Option R) (k : Nat) (a0_0 a0_1 : Int) (a0_2 a0_3 a0_4 : Int) (a0_5z : Bool) (a0_5 : List T) : Option R :=
  (impl_ForestOk.f k a0_0 a0_1 a0_2 a0_3 a0_4 a0_5z a0_5).bind fun t0 => cond (!t0) (ret (true, ([] : List T))) (j0 ([] : List T) a0_5z a0_5 ((a0_5).length : Int) 0 a0_0 a0_1 a0_2 a0_3 a0_4 a0_5z a0_5)
def impl_Tips.l0b {R : Type} (ret : Bool × List T → Option R) (j0 : (List T) → Bool → (List T) → Int → Int → Int → Int → Int → Int → Int → Bool → (List T) → Option R) (k : Nat) (x3 : List T) (x11z : Bool) (x11 : List T) (x12 x13 : Int) (c1_0 c1_1 : Int) (c1_2 c1_3 c1_4 : Int) (c1_5z : Bool) (c1_5 : List T) : Option R :=
  cond (decide (x13 < x12)) (cond (decide ((0 : Int) ≤ x13)) (cond (decide (x13 < ((x11).length : Int))) ((impl_childrenOf.f k c1_0 c1_1 c1_2 c1_3 c1_4 c1_5z c1_5 (((((x11).getD (x13).toNat .bad).cells.getD 0 .bad)).toInt) (((((x11).getD (x13).toNat .bad).cells.getD 1 .bad)).toInt) (((((x11).getD (x13).toNat .bad).cells.getD 2 .bad)).toInt) (((((x11).getD (x13).toNat .bad).cells.getD 3 .bad)).isNil) (((((x11).getD (x13).toNat .bad).cells.getD 3 .bad)).toNums) (((((x11).getD (x13).toNat .bad).cells.getD 4 .bad)).isNil) (((((x11).getD (x13).toNat .bad).cells.getD 4 .bad)).toNums) (((((x11).getD (x13).toNat .bad).cells.getD 5 .bad)).toInt) (((((x11).getD (x13).toNat .bad).cells.getD 6 .bad)).toInt) (((((x11).getD (x13).toNat .bad).cells.getD 7 .bad)).isNil) (((((x11).getD (x13).toNat .bad).cells.getD 7 .bad)).toNums) (((((x11).getD (x13).toNat .bad).cells.getD 8 .bad)).isNil) (((((x11).getD (x13).toNat .bad).cells.getD 8 .bad)).toNums) (((((x11).getD (x13).toNat .bad).cells.getD 9 .bad)).isNil) (((((x11).getD (x13).toNat .bad).cells.getD 9 .bad)).toList)).bind fun t0 => cond (decide (((t0.2).length : Int) = 0)) ((impl_HeadHash.f k c1_0 c1_1 c1_2 c1_3 c1_4 (((((x11).getD (x13).toNat .bad).cells.getD 0 .bad)).toInt) (((((x11).getD (x13).toNat .bad).cells.getD 1 .bad)).toInt) (((((x11).getD (x13).toNat .bad).cells.getD 2 .bad)).toInt) (((((x11).getD (x13).toNat .bad).cells.getD 3 .bad)).isNil) (((((x11).getD (x13).toNat .bad).cells.getD 3 .bad)).toNums) (((((x11).getD (x13).toNat .bad).cells.getD 4 .bad)).isNil) (((((x11).getD (x13).toNat .bad).cells.getD 4 .bad)).toNums) (((((x11).getD (x13).toNat .bad).cells.getD 5 .bad)).toInt) (((((x11).getD (x13).toNat .bad).cells.getD 6 .bad)).toInt) (((((x11).getD (x13).toNat .bad).cells.getD 7 .bad)).isNil) (((((x11).getD (x13).toNat .bad).cells.getD 7 .bad)).toNums) (((((x11).getD (x13).toNat .bad).cells.getD 8 .bad)).isNil) (((((x11).getD (x13).toNat .bad).cells.getD 8 .bad)).toNums) (((((x11).getD (x13).toNat .bad).cells.getD 9 .bad)).isNil) (((((x11).getD (x13).toNat .bad).cells.getD 9 .bad)).toList)).bind fun t1 => cond (decide ((x3).length + 1 < 5864062014805)) (j0 (x3 ++ ([(.nums 5 .u8 t1.1 t1.2)] : List T)) x11z x11 x12 (RowKit.wrap64 (x13 + 1)) c1_0 c1_1 c1_2 c1_3 c1_4 c1_5z c1_5) (none)) (j0 x3 x11z x11 x12 (RowKit.wrap64 (x13 + 1)) c1_0 c1_1 c1_2 c1_3 c1_4 c1_5z c1_5)) (none)) (none)) (ret (false, x3))
def impl_Tips.l0 : Nat → (List T) → Bool → (List T) → Int → Int → Int → Int → Int → Int → Int → Bool → (List T) → Option (Bool × List T)
  | 0, _, _, _, _, _, _, _, _, _, _, _, _ => none
  | k + 1, x3, x11z, x11, x12, x13, c1_0, c1_1, c1_2, c1_3, c1_4, c1_5z, c1_5 => impl_Tips.l0b some (impl_Tips.l0 k) k x3 x11z x11 x12 x13 c1_0 c1_1 c1_2 c1_3 c1_4 c1_5z c1_5
def impl_Tips.f : Nat → Int → Int → Int → Int → Int → Bool → (List T) → Option (Bool × List T)
  | 0, _, _, _, _, _, _, _ => none
  | k + 1, a0_0, a0_1, a0_2, a0_3, a0_4, a0_5z, a0_5 => impl_Tips.b some (impl_Tips.l0 k) k a0_0 a0_1 a0_2 a0_3 a0_4 a0_5z a0_5
def impl_Tips.enc (r : Bool × List T) : Res := ⟨[.vals false [((.sl 22 r.1 r.2), true)]], []⟩
def impl_Tips.ans (k : Nat) : List Arg → Ans
  | [.v (.agg [(.int .i64 a0_0), (.int .i64 a0_1), (.int .i64 a0_2), (.int .i64 a0_3), (.int .i64 a0_4), (.sl 79 a0_5z a0_5)])] => ⟨impl_Tips.f k a0_0 a0_1 a0_2 a0_3 a0_4 a0_5z a0_5, impl_Tips.enc⟩
  | _ => Ans.no
def impl_Tips.Cs (k : Nat) : CallSem := tab [(133, impl_ForestOk.ans k), (40, impl_HeadHash.ans k), (134, impl_childrenOf.ans k)]
def impl_Tips.cuts : List (Nat × Keep) := [(122, ⟨[(1, some []), (3, none), (11, some []), (12, some []), (13, some [])], [(1, [some [], some [], some [], some [], some [], some []])]⟩)]
noncomputable def impl_Tips.K0 : List Fr := framesAt [true, true, true, false, true, false] (bodyOf Try.f56 impl_Tips.cuts) []
def impl_Tips.N0 (x3 : List T) (x11z : Bool) (x11 : List T) (x12 x13 : Int) (c1_0 c1_1 : Int) (c1_2 c1_3 c1_4 : Int) (c1_5z : Bool) (c1_5 : List T) : St := stOf 31 31 1 [(1, .bp 1 0), (3, .val ⟨(.sl 22 false x3), [.l 3 0], true, some (.l 3 0)⟩), (11, .val ⟨(.sl 79 x11z x11), [], false, none⟩), (12, .val (V.s (.int .i64 x12))), (13, .val (V.s (.int .i64 x13)))] [(1, .cells [V.s (.int .i64 c1_0), V.s (.int .i64 c1_1), V.s (.int .i64 c1_2), V.s (.int .i64 c1_3), V.s (.int .i64 c1_4), ⟨(.sl 79 c1_5z c1_5), [], false, none⟩])]
theorem impl_Tips.s0 (k : Nat) (G : List Fr → St → Option Res) (a0_0 a0_1 : Int) (a0_2 a0_3 a0_4 : Int) (a0_5z : Bool) (a0_5 yx3 : List T) (yx11z : Bool) (yx11 : List T) (yx12 yx13 : Int) (yc1_0 yc1_1 : Int) (yc1_2 yc1_3 yc1_4 : Int) (yc1_5z : Bool) (yc1_5 : List T) : resume Try.prog (impl_Tips.Cs k) G (finish Try.prog [] Try.f56 [.v (.agg [(.int .i64 a0_0), (.int .i64 a0_1), (.int .i64 a0_2), (.int .i64 a0_3), (.int .i64 a0_4), (.sl 79 a0_5z a0_5)])]) 100000 impl_Tips.K0 (impl_Tips.N0 yx3 yx11z yx11 yx12 yx13 yc1_0 yc1_1 yc1_2 yc1_3 yc1_4 yc1_5z yc1_5) = impl_Tips.l0b (fun r => some (impl_Tips.enc r)) (fun x3 x11z x11 x12 x13 c1_0 c1_1 c1_2 c1_3 c1_4 c1_5z c1_5 => G impl_Tips.K0 (impl_Tips.N0 x3 x11z x11 x12 x13 c1_0 c1_1 c1_2 c1_3 c1_4 c1_5z c1_5)) k yx3 yx11z yx11 yx12 yx13 yc1_0 yc1_1 yc1_2 yc1_3 yc1_4 yc1_5z yc1_5 := by kernel_rfl
theorem impl_Tips.bn {R R' : Type} (e : R → R') (ret : Bool × List T → Option R) (j0 : (List T) → Bool → (List T) → Int → Int → Int → Int → Int → Int → Int → Bool → (List T) → Option R) (k : Nat) (a0_0 a0_1 : Int) (a0_2 a0_3 a0_4 : Int) (a0_5z : Bool) (a0_5 : List T) : impl_Tips.b (fun r => (ret r).map e) (fun x3 x11z x11 x12 x13 c1_0 c1_1 c1_2 c1_3 c1_4 c1_5z c1_5 => (j0 x3 x11z x11 x12 x13 c1_0 c1_1 c1_2 c1_3 c1_4 c1_5z c1_5).map e) k a0_0 a0_1 a0_2 a0_3 a0_4 a0_5z a0_5 = (impl_Tips.b ret j0 k a0_0 a0_1 a0_2 a0_3 a0_4 a0_5z a0_5).map e := by
  unfold impl_Tips.b
  repeat' first | with_reducible refine nat_cond ?_ ?_ | with_reducible refine nat_bind fun _ => ?_ | rfl
theorem impl_Tips.l0n {R R' : Type} (e : R → R') (ret : Bool × List T → Option R) (j0 : (List T) → Bool → (List T) → Int → Int → Int → Int → Int → Int → Int → Bool → (List T) → Option R) (k : Nat) (x3 : List T) (x11z : Bool) (x11 : List T) (x12 x13 : Int) (c1_0 c1_1 : Int) (c1_2 c1_3 c1_4 : Int) (c1_5z : Bool) (c1_5 : List T) : impl_Tips.l0b (fun r => (ret r).map e) (fun x3 x11z x11 x12 x13 c1_0 c1_1 c1_2 c1_3 c1_4 c1_5z c1_5 => (j0 x3 x11z x11 x12 x13 c1_0 c1_1 c1_2 c1_3 c1_4 c1_5z c1_5).map e) k x3 x11z x11 x12 x13 c1_0 c1_1 c1_2 c1_3 c1_4 c1_5z c1_5 = (impl_Tips.l0b ret j0 k x3 x11z x11 x12 x13 c1_0 c1_1 c1_2 c1_3 c1_4 c1_5z c1_5).map e := by
  unfold impl_Tips.l0b
  repeat' first | with_reducible refine nat_cond ?_ ?_ | with_reducible refine nat_bind fun _ => ?_ | rfl
theorem impl_Tips.rq (a0_0 a0_1 : Int) (a0_2 a0_3 a0_4 : Int) (a0_5z : Bool) (a0_5 : List T) : ∀ k, (∀ (x3 : List T) (x11z : Bool) (x11 : List T) (x12 x13 : Int) (c1_0 c1_1 : Int) (c1_2 c1_3 c1_4 : Int) (c1_5z : Bool) (c1_5 : List T), rounds Try.prog impl_Tips.Cs (finish Try.prog [] Try.f56 [.v (.agg [(.int .i64 a0_0), (.int .i64 a0_1), (.int .i64 a0_2), (.int .i64 a0_3), (.int .i64 a0_4), (.sl 79 a0_5z a0_5)])]) 100000 k impl_Tips.K0 (impl_Tips.N0 x3 x11z x11 x12 x13 c1_0 c1_1 c1_2 c1_3 c1_4 c1_5z c1_5) = (impl_Tips.l0 k x3 x11z x11 x12 x13 c1_0 c1_1 c1_2 c1_3 c1_4 c1_5z c1_5).map impl_Tips.enc)
  | 0 => fun _ _ _ _ _ _ _ _ _ _ _ _ => rfl
  | k + 1 => by
    have ih := impl_Tips.rq a0_0 a0_1 a0_2 a0_3 a0_4 a0_5z a0_5 k
    refine fun _ _ _ _ _ _ _ _ _ _ _ _ => ?_
    · refine (impl_Tips.s0 k _ a0_0 a0_1 a0_2 a0_3 a0_4 a0_5z a0_5 _ _ _ _ _ _ _ _ _ _ _ _).trans (Eq.trans ?_ (impl_Tips.l0n impl_Tips.enc some (impl_Tips.l0 k) k _ _ _ _ _ _ _ _ _ _ _ _))
      simp only [ih, Option.map_some]
theorem impl_Tips.eq (k : Nat) (a0_0 a0_1 : Int) (a0_2 a0_3 a0_4 : Int) (a0_5z : Bool) (a0_5 : List T) : answer Try.prog impl_Tips.Cs 100000 impl_Tips.cuts [] Try.f56 (k + 1) [.v (.agg [(.int .i64 a0_0), (.int .i64 a0_1), (.int .i64 a0_2), (.int .i64 a0_3), (.int .i64 a0_4), (.sl 79 a0_5z a0_5)])] = (impl_Tips.f (k + 1) a0_0 a0_1 a0_2 a0_3 a0_4 a0_5z a0_5).map impl_Tips.enc := by
  have ih := impl_Tips.rq a0_0 a0_1 a0_2 a0_3 a0_4 a0_5z a0_5 k
  refine Eq.trans (b := impl_Tips.b (fun r => some (impl_Tips.enc r)) (fun x3 x11z x11 x12 x13 c1_0 c1_1 c1_2 c1_3 c1_4 c1_5z c1_5 => rounds Try.prog impl_Tips.Cs (finish Try.prog [] Try.f56 [.v (.agg [(.int .i64 a0_0), (.int .i64 a0_1), (.int .i64 a0_2), (.int .i64 a0_3), (.int .i64 a0_4), (.sl 79 a0_5z a0_5)])]) 100000 k impl_Tips.K0 (impl_Tips.N0 x3 x11z x11 x12 x13 c1_0 c1_1 c1_2 c1_3 c1_4 c1_5z c1_5)) k a0_0 a0_1 a0_2 a0_3 a0_4 a0_5z a0_5) (by kernel_rfl) (Eq.trans ?_ (impl_Tips.bn impl_Tips.enc some (impl_Tips.l0 k) k a0_0 a0_1 a0_2 a0_3 a0_4 a0_5z a0_5))
  simp only [ih, Option.map_some]
theorem impl_Tips.sound (k : Nat) : SoundF Try.prog 56 (fun a => (impl_Tips.ans k a).val) := by
  refine sound_plain (fun args res h => ?_) (fun t n => rfl)
  unfold impl_Tips.ans at h
  dsimp only at h
  split at h
  · cases k with
    | zero => cases h
    | succ k =>
      unfold Ans.val at h
      rw [← impl_Tips.eq] at h
      exact answer_sound mixed Try.func56 _ _ _ (k + 1) (fun j _ => tab_sound (tab_cons (impl_ForestOk.sound j) (tab_cons (impl_HeadHash.sound j) (tab_cons (impl_childrenOf.sound j) (tab_nil))))) _ _ h
  · exact (Ans.no_val h).elim

def laws_eqByteS.b {R : Type} (ret : Bool → Option R) (j0 : Bool → (List Int) → Bool → (List Int) → Int → Option R) (k : Nat) (a0z : Bool) (a0 : List Int) (a1z : Bool) (a1 : List Int) : Option R :=
  cond (!(decide (((a0).length : Int) = ((a1).length : Int)))) (ret false) (j0 a0z a0 a1z a1 0)
def laws_eqByteS.l0b {R : Type} (ret : Bool → Option R) (j0 : Bool → (List Int) → Bool → (List Int) → Int → Option R) (k : Nat) (x0z : Bool) (x0 : List Int) (x1z : Bool) (x1 : List Int) (x5 : Int) : Option R :=
  cond (decide (x5 < ((x0).length : Int))) (cond (decide ((0 : Int) ≤ x5)) (cond (decide (x5 < ((x0).length : Int))) (cond (decide ((0 : Int) ≤ x5)) (cond (decide (x5 < ((x1).length : Int))) (cond (!(decide ((rdI x0 x5) = (rdI x1 x5)))) (ret false) (j0 x0z x0 x1z x1 (RowKit.wrap64 (x5 + 1)))) (none)) (none)) (none)) (none)) (ret true)
def laws_eqByteS.l0 : Nat → Bool → (List Int) → Bool → (List Int) → Int → Option Bool
  | 0, _, _, _, _, _ => none
  | k + 1, x0z, x0, x1z, x1, x5 => laws_eqByteS.l0b some (laws_eqByteS.l0 k) k x0z x0 x1z x1 x5
def laws_eqByteS.f : Nat → Bool → (List Int) → Bool → (List Int) → Option Bool
  | 0, _, _, _, _ => none
  | k + 1, a0z, a0, a1z, a1 => laws_eqByteS.b some (laws_eqByteS.l0 k) k a0z a0 a1z a1
def laws_eqByteS.enc (r : Bool) : Res := ⟨[.vals false [((.bool r), true)]], []⟩
def laws_eqByteS.ans (k : Nat) : List Arg → Ans
  | [.v (.nums 5 .u8 a0z a0), .v (.nums 5 .u8 a1z a1)] => ⟨laws_eqByteS.f k a0z a0 a1z a1, laws_eqByteS.enc⟩
  | _ => Ans.no
def laws_eqByteS.Cs (k : Nat) : CallSem := tab []
def laws_eqByteS.cuts : List (Nat × Keep) := [(58, ⟨[(0, some []), (1, some []), (5, some [])], []⟩)]
noncomputable def laws_eqByteS.K0 : List Fr := framesAt [true, true, false, true, false] (bodyOf Try.f67 laws_eqByteS.cuts) []
def laws_eqByteS.N0 (x0z : Bool) (x0 : List Int) (x1z : Bool) (x1 : List Int) (x5 : Int) : St := stOf 26 26 2 [(0, .val ⟨(.nums 5 .u8 x0z x0), [], false, none⟩), (1, .val ⟨(.nums 5 .u8 x1z x1), [], false, none⟩), (5, .val (V.s (.int .i64 x5)))] []
theorem laws_eqByteS.s0 (k : Nat) (G : List Fr → St → Option Res) (a0z : Bool) (a0 : List Int) (a1z : Bool) (a1 : List Int) (yx0z : Bool) (yx0 : List Int) (yx1z : Bool) (yx1 : List Int) (yx5 : Int) : resume Try.prog (laws_eqByteS.Cs k) G (finish Try.prog [] Try.f67 [.v (.nums 5 .u8 a0z a0), .v (.nums 5 .u8 a1z a1)]) 100000 laws_eqByteS.K0 (laws_eqByteS.N0 yx0z yx0 yx1z yx1 yx5) = laws_eqByteS.l0b (fun r => some (laws_eqByteS.enc r)) (fun x0z x0 x1z x1 x5 => G laws_eqByteS.K0 (laws_eqByteS.N0 x0z x0 x1z x1 x5)) k yx0z yx0 yx1z yx1 yx5 := by kernel_rfl
theorem laws_eqByteS.bn {R R' : Type} (e : R → R') (ret : Bool → Option R) (j0 : Bool → (List Int) → Bool → (List Int) → Int → Option R) (k : Nat) (a0z : Bool) (a0 : List Int) (a1z : Bool) (a1 : List Int) : laws_eqByteS.b (fun r => (ret r).map e) (fun x0z x0 x1z x1 x5 => (j0 x0z x0 x1z x1 x5).map e) k a0z a0 a1z a1 = (laws_eqByteS.b ret j0 k a0z a0 a1z a1).map e := by
  unfold laws_eqByteS.b
  repeat' first | with_reducible refine nat_cond ?_ ?_ | with_reducible refine nat_bind fun _ => ?_ | rfl
theorem laws_eqByteS.l0n {R R' : Type} (e : R → R') (ret : Bool → Option R) (j0 : Bool → (List Int) → Bool → (List Int) → Int → Option R) (k : Nat) (x0z : Bool) (x0 : List Int) (x1z : Bool) (x1 : List Int) (x5 : Int) : laws_eqByteS.l0b (fun r => (ret r).map e) (fun x0z x0 x1z x1 x5 => (j0 x0z x0 x1z x1 x5).map e) k x0z x0 x1z x1 x5 = (laws_eqByteS.l0b ret j0 k x0z x0 x1z x1 x5).map e := by
  unfold laws_eqByteS.l0b
  repeat' first | with_reducible refine nat_cond ?_ ?_ | with_reducible refine nat_bind fun _ => ?_ | rfl
theorem laws_eqByteS.rq (a0z : Bool) (a0 : List Int) (a1z : Bool) (a1 : List Int) : ∀ k, (∀ (x0z : Bool) (x0 : List Int) (x1z : Bool) (x1 : List Int) (x5 : Int), rounds Try.prog laws_eqByteS.Cs (finish Try.prog [] Try.f67 [.v (.nums 5 .u8 a0z a0), .v (.nums 5 .u8 a1z a1)]) 100000 k laws_eqByteS.K0 (laws_eqByteS.N0 x0z x0 x1z x1 x5) = (laws_eqByteS.l0 k x0z x0 x1z x1 x5).map laws_eqByteS.enc)
  | 0 => fun _ _ _ _ _ => rfl
  | k + 1 => by
    have ih := laws_eqByteS.rq a0z a0 a1z a1 k
    refine fun _ _ _ _ _ => ?_
    · refine (laws_eqByteS.s0 k _ a0z a0 a1z a1 _ _ _ _ _).trans (Eq.trans ?_ (laws_eqByteS.l0n laws_eqByteS.enc some (laws_eqByteS.l0 k) k _ _ _ _ _))
      simp only [ih, Option.map_some]
theorem laws_eqByteS.eq (k : Nat) (a0z : Bool) (a0 : List Int) (a1z : Bool) (a1 : List Int) : answer Try.prog laws_eqByteS.Cs 100000 laws_eqByteS.cuts [] Try.f67 (k + 1) [.v (.nums 5 .u8 a0z a0), .v (.nums 5 .u8 a1z a1)] = (laws_eqByteS.f (k + 1) a0z a0 a1z a1).map laws_eqByteS.enc := by
  have ih := laws_eqByteS.rq a0z a0 a1z a1 k
  refine Eq.trans (b := laws_eqByteS.b (fun r => some (laws_eqByteS.enc r)) (fun x0z x0 x1z x1 x5 => rounds Try.prog laws_eqByteS.Cs (finish Try.prog [] Try.f67 [.v (.nums 5 .u8 a0z a0), .v (.nums 5 .u8 a1z a1)]) 100000 k laws_eqByteS.K0 (laws_eqByteS.N0 x0z x0 x1z x1 x5)) k a0z a0 a1z a1) (by kernel_rfl) (Eq.trans ?_ (laws_eqByteS.bn laws_eqByteS.enc some (laws_eqByteS.l0 k) k a0z a0 a1z a1))
  simp only [ih, Option.map_some]
theorem laws_eqByteS.sound (k : Nat) : SoundF Try.prog 67 (fun a => (laws_eqByteS.ans k a).val) := by
  refine sound_plain (fun args res h => ?_) (fun t n => rfl)
  unfold laws_eqByteS.ans at h
  dsimp only at h
  split at h
  · cases k with
    | zero => cases h
    | succ k =>
      unfold Ans.val at h
      rw [← laws_eqByteS.eq] at h
      exact answer_sound mixed Try.func67 _ _ _ (k + 1) (fun j _ => tab_sound (tab_nil)) _ _ h
  · exact (Ans.no_val h).elim

def laws_eqByteSS.b {R : Type} (ret : Bool → Option R) (j0 : Bool → (List T) → Bool → (List T) → Int → Option R) (k : Nat) (a0z : Bool) (a0 : List T) (a1z : Bool) (a1 : List T) : Option R :=
  cond (!(decide (((a0).length : Int) = ((a1).length : Int)))) (ret false) (j0 a0z a0 a1z a1 0)
def laws_eqByteSS.l0b {R : Type} (ret : Bool → Option R) (j0 : Bool → (List T) → Bool → (List T) → Int → Option R) (k : Nat) (x0z : Bool) (x0 : List T) (x1z : Bool) (x1 : List T) (x5 : Int) : Option R :=
  cond (decide (x5 < ((x0).length : Int))) (cond (decide ((0 : Int) ≤ x5)) (cond (decide (x5 < ((x0).length : Int))) (cond (decide ((0 : Int) ≤ x5)) (cond (decide (x5 < ((x1).length : Int))) ((laws_eqByteS.f k (((((x0).getD (x5).toNat .bad).cells.getD 0 .bad)).isNil) (((((x0).getD (x5).toNat .bad).cells.getD 0 .bad)).toNums) (((((x1).getD (x5).toNat .bad).cells.getD 0 .bad)).isNil) (((((x1).getD (x5).toNat .bad).cells.getD 0 .bad)).toNums)).bind fun t0 => cond (!t0) (ret false) (j0 x0z x0 x1z x1 (RowKit.wrap64 (x5 + 1)))) (none)) (none)) (none)) (none)) (ret true)
def laws_eqByteSS.l0 : Nat → Bool → (List T) → Bool → (List T) → Int → Option Bool
  | 0, _, _, _, _, _ => none
  | k + 1, x0z, x0, x1z, x1, x5 => laws_eqByteSS.l0b some (laws_eqByteSS.l0 k) k x0z x0 x1z x1 x5
def laws_eqByteSS.f : Nat → Bool → (List T) → Bool → (List T) → Option Bool
  | 0, _, _, _, _ => none
  | k + 1, a0z, a0, a1z, a1 => laws_eqByteSS.b some (laws_eqByteSS.l0 k) k a0z a0 a1z a1
def laws_eqByteSS.enc (r : Bool) : Res := ⟨[.vals false [((.bool r), true)]], []⟩
def laws_eqByteSS.ans (k : Nat) : List Arg → Ans
  | [.v (.sl 22 a0z a0), .v (.sl 22 a1z a1)] => ⟨laws_eqByteSS.f k a0z a0 a1z a1, laws_eqByteSS.enc⟩
  | _ => Ans.no
def laws_eqByteSS.Cs (k : Nat) : CallSem := tab [(67, laws_eqByteS.ans k)]
def laws_eqByteSS.cuts : List (Nat × Keep) := [(58, ⟨[(0, some []), (1, some []), (5, some [])], []⟩)]
noncomputable def laws_eqByteSS.K0 : List Fr := framesAt [true, true, false, true, false] (bodyOf Try.f57 laws_eqByteSS.cuts) []
def laws_eqByteSS.N0 (x0z : Bool) (x0 : List T) (x1z : Bool) (x1 : List T) (x5 : Int) : St := stOf 27 27 2 [(0, .val ⟨(.sl 22 x0z x0), [], false, none⟩), (1, .val ⟨(.sl 22 x1z x1), [], false, none⟩), (5, .val (V.s (.int .i64 x5)))] []
theorem laws_eqByteSS.s0 (k : Nat) (G : List Fr → St → Option Res) (a0z : Bool) (a0 : List T) (a1z : Bool) (a1 : List T) (yx0z : Bool) (yx0 : List T) (yx1z : Bool) (yx1 : List T) (yx5 : Int) : resume Try.prog (laws_eqByteSS.Cs k) G (finish Try.prog [] Try.f57 [.v (.sl 22 a0z a0), .v (.sl 22 a1z a1)]) 100000 laws_eqByteSS.K0 (laws_eqByteSS.N0 yx0z yx0 yx1z yx1 yx5) = laws_eqByteSS.l0b (fun r => some (laws_eqByteSS.enc r)) (fun x0z x0 x1z x1 x5 => G laws_eqByteSS.K0 (laws_eqByteSS.N0 x0z x0 x1z x1 x5)) k yx0z yx0 yx1z yx1 yx5 := by kernel_rfl
theorem laws_eqByteSS.bn {R R' : Type} (e : R → R') (ret : Bool → Option R) (j0 : Bool → (List T) → Bool → (List T) → Int → Option R) (k : Nat) (a0z : Bool) (a0 : List T) (a1z : Bool) (a1 : List T) : laws_eqByteSS.b (fun r => (ret r).map e) (fun x0z x0 x1z x1 x5 => (j0 x0z x0 x1z x1 x5).map e) k a0z a0 a1z a1 = (laws_eqByteSS.b ret j0 k a0z a0 a1z a1).map e := by
  unfold laws_eqByteSS.b
  repeat' first | with_reducible refine nat_cond ?_ ?_ | with_reducible refine nat_bind fun _ => ?_ | rfl
theorem laws_eqByteSS.l0n {R R' : Type} (e : R → R') (ret : Bool → Option R) (j0 : Bool → (List T) → Bool → (List T) → Int → Option R) (k : Nat) (x0z : Bool) (x0 : List T) (x1z : Bool) (x1 : List T) (x5 : Int) : laws_eqByteSS.l0b (fun r => (ret r).map e) (fun x0z x0 x1z x1 x5 => (j0 x0z x0 x1z x1 x5).map e) k x0z x0 x1z x1 x5 = (laws_eqByteSS.l0b ret j0 k x0z x0 x1z x1 x5).map e := by
  unfold laws_eqByteSS.l0b
  repeat' first | with_reducible refine nat_cond ?_ ?_ | with_reducible refine nat_bind fun _ => ?_ | rfl
theorem laws_eqByteSS.rq (a0z : Bool) (a0 : List T) (a1z : Bool) (a1 : List T) : ∀ k, (∀ (x0z : Bool) (x0 : List T) (x1z : Bool) (x1 : List T) (x5 : Int), rounds Try.prog laws_eqByteSS.Cs (finish Try.prog [] Try.f57 [.v (.sl 22 a0z a0), .v (.sl 22 a1z a1)]) 100000 k laws_eqByteSS.K0 (laws_eqByteSS.N0 x0z x0 x1z x1 x5) = (laws_eqByteSS.l0 k x0z x0 x1z x1 x5).map laws_eqByteSS.enc)
  | 0 => fun _ _ _ _ _ => rfl
  | k + 1 => by
    have ih := laws_eqByteSS.rq a0z a0 a1z a1 k
    refine fun _ _ _ _ _ => ?_
    · refine (laws_eqByteSS.s0 k _ a0z a0 a1z a1 _ _ _ _ _).trans (Eq.trans ?_ (laws_eqByteSS.l0n laws_eqByteSS.enc some (laws_eqByteSS.l0 k) k _ _ _ _ _))
      simp only [ih, Option.map_some]
theorem laws_eqByteSS.eq (k : Nat) (a0z : Bool) (a0 : List T) (a1z : Bool) (a1 : List T) : answer Try.prog laws_eqByteSS.Cs 100000 laws_eqByteSS.cuts [] Try.f57 (k + 1) [.v (.sl 22 a0z a0), .v (.sl 22 a1z a1)] = (laws_eqByteSS.f (k + 1) a0z a0 a1z a1).map laws_eqByteSS.enc := by
  have ih := laws_eqByteSS.rq a0z a0 a1z a1 k
  refine Eq.trans (b := laws_eqByteSS.b (fun r => some (laws_eqByteSS.enc r)) (fun x0z x0 x1z x1 x5 => rounds Try.prog laws_eqByteSS.Cs (finish Try.prog [] Try.f57 [.v (.sl 22 a0z a0), .v (.sl 22 a1z a1)]) 100000 k laws_eqByteSS.K0 (laws_eqByteSS.N0 x0z x0 x1z x1 x5)) k a0z a0 a1z a1) (by kernel_rfl) (Eq.trans ?_ (laws_eqByteSS.bn laws_eqByteSS.enc some (laws_eqByteSS.l0 k) k a0z a0 a1z a1))
  simp only [ih, Option.map_some]
theorem laws_eqByteSS.sound (k : Nat) : SoundF Try.prog 57 (fun a => (laws_eqByteSS.ans k a).val) := by
  refine sound_plain (fun args res h => ?_) (fun t n => rfl)
  unfold laws_eqByteSS.ans at h
  dsimp only at h
  split at h
  · cases k with
    | zero => cases h
    | succ k =>
      unfold Ans.val at h
      rw [← laws_eqByteSS.eq] at h
      exact answer_sound mixed Try.func57 _ _ _ (k + 1) (fun j _ => tab_sound (tab_cons (laws_eqByteS.sound j) (tab_nil))) _ _ h
  · exact (Ans.no_val h).elim

def laws_eqLimits.b {R : Type} (ret : Bool → Option R) (k : Nat) (a0_0 a0_1 : Int) (a0_2 a0_3 : Int) (a0_4 a1_0 : Int) (a1_1 a1_2 : Int) (a1_3 a1_4 : Int) : Option R :=
  cond (!(decide (a0_0 = a1_0))) (ret false) (cond (!(decide (a0_1 = a1_1))) (ret false) (cond (!(decide (a0_2 = a1_2))) (ret false) (cond (!(decide (a0_3 = a1_3))) (ret false) (cond (!(decide (a0_4 = a1_4))) (ret false) (ret true)))))
def laws_eqLimits.f : Nat → Int → Int → Int → Int → Int → Int → Int → Int → Int → Int → Option Bool
  | 0, _, _, _, _, _, _, _, _, _, _ => none
  | k + 1, a0_0, a0_1, a0_2, a0_3, a0_4, a1_0, a1_1, a1_2, a1_3, a1_4 => laws_eqLimits.b some k a0_0 a0_1 a0_2 a0_3 a0_4 a1_0 a1_1 a1_2 a1_3 a1_4
def laws_eqLimits.enc (r : Bool) : Res := ⟨[.vals false [((.bool r), true)]], []⟩
def laws_eqLimits.ans (k : Nat) : List Arg → Ans
  | [.v (.agg [(.int .i64 a0_0), (.int .i64 a0_1), (.int .i64 a0_2), (.int .i64 a0_3), (.int .i64 a0_4)]), .v (.agg [(.int .i64 a1_0), (.int .i64 a1_1), (.int .i64 a1_2), (.int .i64 a1_3), (.int .i64 a1_4)])] => ⟨laws_eqLimits.f k a0_0 a0_1 a0_2 a0_3 a0_4 a1_0 a1_1 a1_2 a1_3 a1_4, laws_eqLimits.enc⟩
  | _ => Ans.no
def laws_eqLimits.Cs (k : Nat) : CallSem := tab []
theorem laws_eqLimits.eq (k : Nat) (a0_0 a0_1 : Int) (a0_2 a0_3 : Int) (a0_4 a1_0 : Int) (a1_1 a1_2 : Int) (a1_3 a1_4 : Int) : answer Try.prog laws_eqLimits.Cs 100000 [] [] Try.f135 (k + 1) [.v (.agg [(.int .i64 a0_0), (.int .i64 a0_1), (.int .i64 a0_2), (.int .i64 a0_3), (.int .i64 a0_4)]), .v (.agg [(.int .i64 a1_0), (.int .i64 a1_1), (.int .i64 a1_2), (.int .i64 a1_3), (.int .i64 a1_4)])] = (laws_eqLimits.f (k + 1) a0_0 a0_1 a0_2 a0_3 a0_4 a1_0 a1_1 a1_2 a1_3 a1_4).map laws_eqLimits.enc := by
  refine Eq.trans (b := laws_eqLimits.b (fun r => some (laws_eqLimits.enc r)) k a0_0 a0_1 a0_2 a0_3 a0_4 a1_0 a1_1 a1_2 a1_3 a1_4) (by kernel_rfl) ?_
  show _ = (laws_eqLimits.b some k a0_0 a0_1 a0_2 a0_3 a0_4 a1_0 a1_1 a1_2 a1_3 a1_4).map laws_eqLimits.enc
  unfold laws_eqLimits.b
  repeat' first | with_reducible refine nat_cond ?_ ?_ | with_reducible refine nat_bind fun _ => ?_ | rfl
theorem laws_eqLimits.sound (k : Nat) : SoundF Try.prog 135 (fun a => (laws_eqLimits.ans k a).val) := by
  refine sound_plain (fun args res h => ?_) (fun t n => rfl)
  unfold laws_eqLimits.ans at h
  dsimp only at h
  split at h
  · cases k with
    | zero => cases h
    | succ k =>
      unfold Ans.val at h
      rw [← laws_eqLimits.eq] at h
      exact answer_sound mixed Try.func135 _ _ _ (k + 1) (fun j _ => tab_sound (tab_nil)) _ _ h
  · exact (Ans.no_val h).elim

def laws_eqQc.b {R : Type} (ret : Bool → Option R) (k : Nat) (a0_0 a0_1 : Int) (a0_2z : Bool) (a0_2 : List Int) (a0_3z : Bool) (a0_3 : List Int) (a0_4z : Bool) (a0_4 : List T) (a1_0 a1_1 : Int) (a1_2z : Bool) (a1_2 : List Int) (a1_3z : Bool) (a1_3 : List Int) (a1_4z : Bool) (a1_4 : List T) : Option R :=
  cond (!(decide (a0_0 = a1_0))) (ret false) (cond (!(decide (a0_1 = a1_1))) (ret false) ((laws_eqByteS.f k a0_2z a0_2 a1_2z a1_2).bind fun t0 => cond (!t0) (ret false) ((laws_eqByteS.f k a0_3z a0_3 a1_3z a1_3).bind fun t1 => cond (!t1) (ret false) ((laws_eqByteSS.f k a0_4z a0_4 a1_4z a1_4).bind fun t2 => cond (!t2) (ret false) (ret true)))))
def laws_eqQc.f : Nat → Int → Int → Bool → (List Int) → Bool → (List Int) → Bool → (List T) → Int → Int → Bool → (List Int) → Bool → (List Int) → Bool → (List T) → Option Bool
  | 0, _, _, _, _, _, _, _, _, _, _, _, _, _, _, _, _ => none
  | k + 1, a0_0, a0_1, a0_2z, a0_2, a0_3z, a0_3, a0_4z, a0_4, a1_0, a1_1, a1_2z, a1_2, a1_3z, a1_3, a1_4z, a1_4 => laws_eqQc.b some k a0_0 a0_1 a0_2z a0_2 a0_3z a0_3 a0_4z a0_4 a1_0 a1_1 a1_2z a1_2 a1_3z a1_3 a1_4z a1_4
def laws_eqQc.enc (r : Bool) : Res := ⟨[.vals false [((.bool r), true)]], []⟩
def laws_eqQc.ans (k : Nat) : List Arg → Ans
  | [.v (.agg [(.int .i64 a0_0), (.int .i64 a0_1), (.nums 5 .u8 a0_2z a0_2), (.nums 5 .u8 a0_3z a0_3), (.sl 22 a0_4z a0_4)]), .v (.agg [(.int .i64 a1_0), (.int .i64 a1_1), (.nums 5 .u8 a1_2z a1_2), (.nums 5 .u8 a1_3z a1_3), (.sl 22 a1_4z a1_4)])] => ⟨laws_eqQc.f k a0_0 a0_1 a0_2z a0_2 a0_3z a0_3 a0_4z a0_4 a1_0 a1_1 a1_2z a1_2 a1_3z a1_3 a1_4z a1_4, laws_eqQc.enc⟩
  | _ => Ans.no
def laws_eqQc.Cs (k : Nat) : CallSem := tab [(57, laws_eqByteSS.ans k), (67, laws_eqByteS.ans k)]
theorem laws_eqQc.eq (k : Nat) (a0_0 a0_1 : Int) (a0_2z : Bool) (a0_2 : List Int) (a0_3z : Bool) (a0_3 : List Int) (a0_4z : Bool) (a0_4 : List T) (a1_0 a1_1 : Int) (a1_2z : Bool) (a1_2 : List Int) (a1_3z : Bool) (a1_3 : List Int) (a1_4z : Bool) (a1_4 : List T) : answer Try.prog laws_eqQc.Cs 100000 [] [] Try.f223 (k + 1) [.v (.agg [(.int .i64 a0_0), (.int .i64 a0_1), (.nums 5 .u8 a0_2z a0_2), (.nums 5 .u8 a0_3z a0_3), (.sl 22 a0_4z a0_4)]), .v (.agg [(.int .i64 a1_0), (.int .i64 a1_1), (.nums 5 .u8 a1_2z a1_2), (.nums 5 .u8 a1_3z a1_3), (.sl 22 a1_4z a1_4)])] = (laws_eqQc.f (k + 1) a0_0 a0_1 a0_2z a0_2 a0_3z a0_3 a0_4z a0_4 a1_0 a1_1 a1_2z a1_2 a1_3z a1_3 a1_4z a1_4).map laws_eqQc.enc := by
  refine Eq.trans (b := laws_eqQc.b (fun r => some (laws_eqQc.enc r)) k a0_0 a0_1 a0_2z a0_2 a0_3z a0_3 a0_4z a0_4 a1_0 a1_1 a1_2z a1_2 a1_3z a1_3 a1_4z a1_4) (by kernel_rfl) ?_
  show _ = (laws_eqQc.b some k a0_0 a0_1 a0_2z a0_2 a0_3z a0_3 a0_4z a0_4 a1_0 a1_1 a1_2z a1_2 a1_3z a1_3 a1_4z a1_4).map laws_eqQc.enc
  unfold laws_eqQc.b
  repeat' first | with_reducible refine nat_cond ?_ ?_ | with_reducible refine nat_bind fun _ => ?_ | rfl
theorem laws_eqQc.sound (k : Nat) : SoundF Try.prog 223 (fun a => (laws_eqQc.ans k a).val) := by
  refine sound_plain (fun args res h => ?_) (fun t n => rfl)
  unfold laws_eqQc.ans at h
  dsimp only at h
  split at h
  · cases k with
    | zero => cases h
    | succ k =>
      unfold Ans.val at h
      rw [← laws_eqQc.eq] at h
      exact answer_sound mixed Try.func223 _ _ _ (k + 1) (fun j _ => tab_sound (tab_cons (laws_eqByteSS.sound j) (tab_cons (laws_eqByteS.sound j) (tab_nil)))) _ _ h
  · exact (Ans.no_val h).elim

def laws_eqHead.b {R : Type} (ret : Bool → Option R) (k : Nat) (a0_0 a0_1 a0_2 : Int) (a0_3z : Bool) (a0_3 : List Int) (a0_4z : Bool) (a0_4 : List Int) (a0_5 a0_6 : Int) (a0_7z : Bool) (a0_7 : List Int) (a0_8z : Bool) (a0_8 : List Int) (a0_9z : Bool) (a0_9 : List T) (a1_0 a1_1 a1_2 : Int) (a1_3z : Bool) (a1_3 : List Int) (a1_4z : Bool) (a1_4 : List Int) (a1_5 a1_6 : Int) (a1_7z : Bool) (a1_7 : List Int) (a1_8z : Bool) (a1_8 : List Int) (a1_9z : Bool) (a1_9 : List T) : Option R :=
  cond (!(decide (a0_0 = a1_0))) (ret false) (cond (!(decide (a0_1 = a1_1))) (ret false) (cond (!(decide (a0_2 = a1_2))) (ret false) ((laws_eqByteS.f k a0_3z a0_3 a1_3z a1_3).bind fun t0 => cond (!t0) (ret false) ((laws_eqByteS.f k a0_4z a0_4 a1_4z a1_4).bind fun t1 => cond (!t1) (ret false) ((laws_eqQc.f k a0_5 a0_6 a0_7z a0_7 a0_8z a0_8 a0_9z a0_9 a1_5 a1_6 a1_7z a1_7 a1_8z a1_8 a1_9z a1_9).bind fun t2 => cond (!t2) (ret false) (ret true))))))
def laws_eqHead.f : Nat → Int → Int → Int → Bool → (List Int) → Bool → (List Int) → Int → Int → Bool → (List Int) → Bool → (List Int) → Bool → (List T) → Int → Int → Int → Bool → (List Int) → Bool → (List Int) → Int → Int → Bool → (List Int) → Bool → (List Int) → Bool → (List T) → Option Bool
  | 0, _, _, _, _, _, _, _, _, _, _, _, _, _, _, _, _, _, _, _, _, _, _, _, _, _, _, _, _, _, _ => none
  | k + 1, a0_0, a0_1, a0_2, a0_3z, a0_3, a0_4z, a0_4, a0_5, a0_6, a0_7z, a0_7, a0_8z, a0_8, a0_9z, a0_9, a1_0, a1_1, a1_2, a1_3z, a1_3, a1_4z, a1_4, a1_5, a1_6, a1_7z, a1_7, a1_8z, a1_8, a1_9z, a1_9 => laws_eqHead.b some k a0_0 a0_1 a0_2 a0_3z a0_3 a0_4z a0_4 a0_5 a0_6 a0_7z a0_7 a0_8z a0_8 a0_9z a0_9 a1_0 a1_1 a1_2 a1_3z a1_3 a1_4z a1_4 a1_5 a1_6 a1_7z a1_7 a1_8z a1_8 a1_9z a1_9
def laws_eqHead.enc (r : Bool) : Res := ⟨[.vals false [((.bool r), true)]], []⟩
def laws_eqHead.ans (k : Nat) : List Arg → Ans
  | [.v (.agg [(.int .i64 a0_0), (.int .i64 a0_1), (.int .i64 a0_2), (.nums 5 .u8 a0_3z a0_3), (.nums 5 .u8 a0_4z a0_4), (.int .i64 a0_5), (.int .i64 a0_6), (.nums 5 .u8 a0_7z a0_7), (.nums 5 .u8 a0_8z a0_8), (.sl 22 a0_9z a0_9)]), .v (.agg [(.int .i64 a1_0), (.int .i64 a1_1), (.int .i64 a1_2), (.nums 5 .u8 a1_3z a1_3), (.nums 5 .u8 a1_4z a1_4), (.int .i64 a1_5), (.int .i64 a1_6), (.nums 5 .u8 a1_7z a1_7), (.nums 5 .u8 a1_8z a1_8), (.sl 22 a1_9z a1_9)])] => ⟨laws_eqHead.f k a0_0 a0_1 a0_2 a0_3z a0_3 a0_4z a0_4 a0_5 a0_6 a0_7z a0_7 a0_8z a0_8 a0_9z a0_9 a1_0 a1_1 a1_2 a1_3z a1_3 a1_4z a1_4 a1_5 a1_6 a1_7z a1_7 a1_8z a1_8 a1_9z a1_9, laws_eqHead.enc⟩
  | _ => Ans.no
def laws_eqHead.Cs (k : Nat) : CallSem := tab [(67, laws_eqByteS.ans k), (223, laws_eqQc.ans k)]
theorem laws_eqHead.eq (k : Nat) (a0_0 a0_1 a0_2 : Int) (a0_3z : Bool) (a0_3 : List Int) (a0_4z : Bool) (a0_4 : List Int) (a0_5 a0_6 : Int) (a0_7z : Bool) (a0_7 : List Int) (a0_8z : Bool) (a0_8 : List Int) (a0_9z : Bool) (a0_9 : List T) (a1_0 a1_1 a1_2 : Int) (a1_3z : Bool) (a1_3 : List Int) (a1_4z : Bool) (a1_4 : List Int) (a1_5 a1_6 : Int) (a1_7z : Bool) (a1_7 : List Int) (a1_8z : Bool) (a1_8 : List Int) (a1_9z : Bool) (a1_9 : List T) : answer Try.prog laws_eqHead.Cs 100000 [] [] Try.f183 (k + 1) [.v (.agg [(.int .i64 a0_0), (.int .i64 a0_1), (.int .i64 a0_2), (.nums 5 .u8 a0_3z a0_3), (.nums 5 .u8 a0_4z a0_4), (.int .i64 a0_5), (.int .i64 a0_6), (.nums 5 .u8 a0_7z a0_7), (.nums 5 .u8 a0_8z a0_8), (.sl 22 a0_9z a0_9)]), .v (.agg [(.int .i64 a1_0), (.int .i64 a1_1), (.int .i64 a1_2), (.nums 5 .u8 a1_3z a1_3), (.nums 5 .u8 a1_4z a1_4), (.int .i64 a1_5), (.int .i64 a1_6), (.nums 5 .u8 a1_7z a1_7), (.nums 5 .u8 a1_8z a1_8), (.sl 22 a1_9z a1_9)])] = (laws_eqHead.f (k + 1) a0_0 a0_1 a0_2 a0_3z a0_3 a0_4z a0_4 a0_5 a0_6 a0_7z a0_7 a0_8z a0_8 a0_9z a0_9 a1_0 a1_1 a1_2 a1_3z a1_3 a1_4z a1_4 a1_5 a1_6 a1_7z a1_7 a1_8z a1_8 a1_9z a1_9).map laws_eqHead.enc := by
  refine Eq.trans (b := laws_eqHead.b (fun r => some (laws_eqHead.enc r)) k a0_0 a0_1 a0_2 a0_3z a0_3 a0_4z a0_4 a0_5 a0_6 a0_7z a0_7 a0_8z a0_8 a0_9z a0_9 a1_0 a1_1 a1_2 a1_3z a1_3 a1_4z a1_4 a1_5 a1_6 a1_7z a1_7 a1_8z a1_8 a1_9z a1_9) (by kernel_rfl) ?_
  show _ = (laws_eqHead.b some k a0_0 a0_1 a0_2 a0_3z a0_3 a0_4z a0_4 a0_5 a0_6 a0_7z a0_7 a0_8z a0_8 a0_9z a0_9 a1_0 a1_1 a1_2 a1_3z a1_3 a1_4z a1_4 a1_5 a1_6 a1_7z a1_7 a1_8z a1_8 a1_9z a1_9).map laws_eqHead.enc
  unfold laws_eqHead.b
  repeat' first | with_reducible refine nat_cond ?_ ?_ | with_reducible refine nat_bind fun _ => ?_ | rfl
theorem laws_eqHead.sound (k : Nat) : SoundF Try.prog 183 (fun a => (laws_eqHead.ans k a).val) := by
  refine sound_plain (fun args res h => ?_) (fun t n => rfl)
  unfold laws_eqHead.ans at h
  dsimp only at h
  split at h
  · cases k with
    | zero => cases h
    | succ k =>
      unfold Ans.val at h
      rw [← laws_eqHead.eq] at h
      exact answer_sound mixed Try.func183 _ _ _ (k + 1) (fun j _ => tab_sound (tab_cons (laws_eqByteS.sound j) (tab_cons (laws_eqQc.sound j) (tab_nil)))) _ _ h
  · exact (Ans.no_val h).elim

def laws_eqHeadS.b {R : Type} (ret : Bool → Option R) (j0 : Bool → (List T) → Bool → (List T) → Int → Option R) (k : Nat) (a0z : Bool) (a0 : List T) (a1z : Bool) (a1 : List T) : Option R :=
  cond (!(decide (((a0).length : Int) = ((a1).length : Int)))) (ret false) (j0 a0z a0 a1z a1 0)
def laws_eqHeadS.l0b {R : Type} (ret : Bool → Option R) (j0 : Bool → (List T) → Bool → (List T) → Int → Option R) (k : Nat) (x0z : Bool) (x0 : List T) (x1z : Bool) (x1 : List T) (x5 : Int) : Option R :=
  cond (decide (x5 < ((x0).length : Int))) (cond (decide ((0 : Int) ≤ x5)) (cond (decide (x5 < ((x0).length : Int))) (cond (decide ((0 : Int) ≤ x5)) (cond (decide (x5 < ((x1).length : Int))) ((laws_eqHead.f k (((((x0).getD (x5).toNat .bad).cells.getD 0 .bad)).toInt) (((((x0).getD (x5).toNat .bad).cells.getD 1 .bad)).toInt) (((((x0).getD (x5).toNat .bad).cells.getD 2 .bad)).toInt) (((((x0).getD (x5).toNat .bad).cells.getD 3 .bad)).isNil) (((((x0).getD (x5).toNat .bad).cells.getD 3 .bad)).toNums) (((((x0).getD (x5).toNat .bad).cells.getD 4 .bad)).isNil) (((((x0).getD (x5).toNat .bad).cells.getD 4 .bad)).toNums) (((((x0).getD (x5).toNat .bad).cells.getD 5 .bad)).toInt) (((((x0).getD (x5).toNat .bad).cells.getD 6 .bad)).toInt) (((((x0).getD (x5).toNat .bad).cells.getD 7 .bad)).isNil) (((((x0).getD (x5).toNat .bad).cells.getD 7 .bad)).toNums) (((((x0).getD (x5).toNat .bad).cells.getD 8 .bad)).isNil) (((((x0).getD (x5).toNat .bad).cells.getD 8 .bad)).toNums) (((((x0).getD (x5).toNat .bad).cells.getD 9 .bad)).isNil) (((((x0).getD (x5).toNat .bad).cells.getD 9 .bad)).toList) (((((x1).getD (x5).toNat .bad).cells.getD 0 .bad)).toInt) (((((x1).getD (x5).toNat .bad).cells.getD 1 .bad)).toInt) (((((x1).getD (x5).toNat .bad).cells.getD 2 .bad)).toInt) (((((x1).getD (x5).toNat .bad).cells.getD 3 .bad)).isNil) (((((x1).getD (x5).toNat .bad).cells.getD 3 .bad)).toNums) (((((x1).getD (x5).toNat .bad).cells.getD 4 .bad)).isNil) (((((x1).getD (x5).toNat .bad).cells.getD 4 .bad)).toNums) (((((x1).getD (x5).toNat .bad).cells.getD 5 .bad)).toInt) (((((x1).getD (x5).toNat .bad).cells.getD 6 .bad)).toInt) (((((x1).getD (x5).toNat .bad).cells.getD 7 .bad)).isNil) (((((x1).getD (x5).toNat .bad).cells.getD 7 .bad)).toNums) (((((x1).getD (x5).toNat .bad).cells.getD 8 .bad)).isNil) (((((x1).getD (x5).toNat .bad).cells.getD 8 .bad)).toNums) (((((x1).getD (x5).toNat .bad).cells.getD 9 .bad)).isNil) (((((x1).getD (x5).toNat .bad).cells.getD 9 .bad)).toList)).bind fun t0 => cond (!t0) (ret false) (j0 x0z x0 x1z x1 (RowKit.wrap64 (x5 + 1)))) (none)) (none)) (none)) (none)) (ret true)
def laws_eqHeadS.l0 : Nat → Bool → (List T) → Bool → (List T) → Int → Option Bool
  | 0, _, _, _, _, _ => none
  | k + 1, x0z, x0, x1z, x1, x5 => laws_eqHeadS.l0b some (laws_eqHeadS.l0 k) k x0z x0 x1z x1 x5
def laws_eqHeadS.f : Nat → Bool → (List T) → Bool → (List T) → Option Bool
  | 0, _, _, _, _ => none
  | k + 1, a0z, a0, a1z, a1 => laws_eqHeadS.b some (laws_eqHeadS.l0 k) k a0z a0 a1z a1
def laws_eqHeadS.enc (r : Bool) : Res := ⟨[.vals false [((.bool r), true)]], []⟩
def laws_eqHeadS.ans (k : Nat) : List Arg → Ans
  | [.v (.sl 79 a0z a0), .v (.sl 79 a1z a1)] => ⟨laws_eqHeadS.f k a0z a0 a1z a1, laws_eqHeadS.enc⟩
  | _ => Ans.no
def laws_eqHeadS.Cs (k : Nat) : CallSem := tab [(183, laws_eqHead.ans k)]
def laws_eqHeadS.cuts : List (Nat × Keep) := [(58, ⟨[(0, some []), (1, some []), (5, some [])], []⟩)]
noncomputable def laws_eqHeadS.K0 : List Fr := framesAt [true, true, false, true, false] (bodyOf Try.f136 laws_eqHeadS.cuts) []
def laws_eqHeadS.N0 (x0z : Bool) (x0 : List T) (x1z : Bool) (x1 : List T) (x5 : Int) : St := stOf 27 27 2 [(0, .val ⟨(.sl 79 x0z x0), [], false, none⟩), (1, .val ⟨(.sl 79 x1z x1), [], false, none⟩), (5, .val (V.s (.int .i64 x5)))] []
theorem laws_eqHeadS.s0 (k : Nat) (G : List Fr → St → Option Res) (a0z : Bool) (a0 : List T) (a1z : Bool) (a1 : List T) (yx0z : Bool) (yx0 : List T) (yx1z : Bool) (yx1 : List T) (yx5 : Int) : resume Try.prog (laws_eqHeadS.Cs k) G (finish Try.prog [] Try.f136 [.v (.sl 79 a0z a0), .v (.sl 79 a1z a1)]) 100000 laws_eqHeadS.K0 (laws_eqHeadS.N0 yx0z yx0 yx1z yx1 yx5) = laws_eqHeadS.l0b (fun r => some (laws_eqHeadS.enc r)) (fun x0z x0 x1z x1 x5 => G laws_eqHeadS.K0 (laws_eqHeadS.N0 x0z x0 x1z x1 x5)) k yx0z yx0 yx1z yx1 yx5 := by kernel_rfl
theorem laws_eqHeadS.bn {R R' : Type} (e : R → R') (ret : Bool → Option R) (j0 : Bool → (List T) → Bool → (List T) → Int → Option R) (k : Nat) (a0z : Bool) (a0 : List T) (a1z : Bool) (a1 : List T) : laws_eqHeadS.b (fun r => (ret r).map e) (fun x0z x0 x1z x1 x5 => (j0 x0z x0 x1z x1 x5).map e) k a0z a0 a1z a1 = (laws_eqHeadS.b ret j0 k a0z a0 a1z a1).map e := by
  unfold laws_eqHeadS.b
  repeat' first | with_reducible refine nat_cond ?_ ?_ | with_reducible refine nat_bind fun _ => ?_ | rfl
theorem laws_eqHeadS.l0n {R R' : Type} (e : R → R') (ret : Bool → Option R) (j0 : Bool → (List T) → Bool → (List T) → Int → Option R) (k : Nat) (x0z : Bool) (x0 : List T) (x1z : Bool) (x1 : List T) (x5 : Int) : laws_eqHeadS.l0b (fun r => (ret r).map e) (fun x0z x0 x1z x1 x5 => (j0 x0z x0 x1z x1 x5).map e) k x0z x0 x1z x1 x5 = (laws_eqHeadS.l0b ret j0 k x0z x0 x1z x1 x5).map e := by
  unfold laws_eqHeadS.l0b
  repeat' first | with_reducible refine nat_cond ?_ ?_ | with_reducible refine nat_bind fun _ => ?_ | rfl
theorem laws_eqHeadS.rq (a0z : Bool) (a0 : List T) (a1z : Bool) (a1 : List T) : ∀ k, (∀ (x0z : Bool) (x0 : List T) (x1z : Bool) (x1 : List T) (x5 : Int), rounds Try.prog laws_eqHeadS.Cs (finish Try.prog [] Try.f136 [.v (.sl 79 a0z a0), .v (.sl 79 a1z a1)]) 100000 k laws_eqHeadS.K0 (laws_eqHeadS.N0 x0z x0 x1z x1 x5) = (laws_eqHeadS.l0 k x0z x0 x1z x1 x5).map laws_eqHeadS.enc)
  | 0 => fun _ _ _ _ _ => rfl
  | k + 1 => by
    have ih := laws_eqHeadS.rq a0z a0 a1z a1 k
    refine fun _ _ _ _ _ => ?_
    · refine (laws_eqHeadS.s0 k _ a0z a0 a1z a1 _ _ _ _ _).trans (Eq.trans ?_ (laws_eqHeadS.l0n laws_eqHeadS.enc some (laws_eqHeadS.l0 k) k _ _ _ _ _))
      simp only [ih, Option.map_some]
theorem laws_eqHeadS.eq (k : Nat) (a0z : Bool) (a0 : List T) (a1z : Bool) (a1 : List T) : answer Try.prog laws_eqHeadS.Cs 100000 laws_eqHeadS.cuts [] Try.f136 (k + 1) [.v (.sl 79 a0z a0), .v (.sl 79 a1z a1)] = (laws_eqHeadS.f (k + 1) a0z a0 a1z a1).map laws_eqHeadS.enc := by
  have ih := laws_eqHeadS.rq a0z a0 a1z a1 k
  refine Eq.trans (b := laws_eqHeadS.b (fun r => some (laws_eqHeadS.enc r)) (fun x0z x0 x1z x1 x5 => rounds Try.prog laws_eqHeadS.Cs (finish Try.prog [] Try.f136 [.v (.sl 79 a0z a0), .v (.sl 79 a1z a1)]) 100000 k laws_eqHeadS.K0 (laws_eqHeadS.N0 x0z x0 x1z x1 x5)) k a0z a0 a1z a1) (by kernel_rfl) (Eq.trans ?_ (laws_eqHeadS.bn laws_eqHeadS.enc some (laws_eqHeadS.l0 k) k a0z a0 a1z a1))
  simp only [ih, Option.map_some]
theorem laws_eqHeadS.sound (k : Nat) : SoundF Try.prog 136 (fun a => (laws_eqHeadS.ans k a).val) := by
  refine sound_plain (fun args res h => ?_) (fun t n => rfl)
  unfold laws_eqHeadS.ans at h
  dsimp only at h
  split at h
  · cases k with
    | zero => cases h
    | succ k =>
      unfold Ans.val at h
      rw [← laws_eqHeadS.eq] at h
      exact answer_sound mixed Try.func136 _ _ _ (k + 1) (fun j _ => tab_sound (tab_cons (laws_eqHead.sound j) (tab_nil))) _ _ h
  · exact (Ans.no_val h).elim

def laws_eqForest.b {R : Type} (ret : Bool → Option R) (k : Nat) (a0_0 a0_1 : Int) (a0_2 a0_3 a0_4 : Int) (a0_5z : Bool) (a0_5 : List T) (a1_0 a1_1 : Int) (a1_2 a1_3 a1_4 : Int) (a1_5z : Bool) (a1_5 : List T) : Option R :=
  (laws_eqLimits.f k a0_0 a0_1 a0_2 a0_3 a0_4 a1_0 a1_1 a1_2 a1_3 a1_4).bind fun t0 => cond (!t0) (ret false) ((laws_eqHeadS.f k a0_5z a0_5 a1_5z a1_5).bind fun t1 => cond (!t1) (ret false) (ret true))
def laws_eqForest.f : Nat → Int → Int → Int → Int → Int → Bool → (List T) → Int → Int → Int → Int → Int → Bool → (List T) → Option Bool
  | 0, _, _, _, _, _, _, _, _, _, _, _, _, _, _ => none
  | k + 1, a0_0, a0_1, a0_2, a0_3, a0_4, a0_5z, a0_5, a1_0, a1_1, a1_2, a1_3, a1_4, a1_5z, a1_5 => laws_eqForest.b some k a0_0 a0_1 a0_2 a0_3 a0_4 a0_5z a0_5 a1_0 a1_1 a1_2 a1_3 a1_4 a1_5z a1_5
def laws_eqForest.enc (r : Bool) : Res := ⟨[.vals false [((.bool r), true)]], []⟩
def laws_eqForest.ans (k : Nat) : List Arg → Ans
  | [.v (.agg [(.int .i64 a0_0), (.int .i64 a0_1), (.int .i64 a0_2), (.int .i64 a0_3), (.int .i64 a0_4), (.sl 79 a0_5z a0_5)]), .v (.agg [(.int .i64 a1_0), (.int .i64 a1_1), (.int .i64 a1_2), (.int .i64 a1_3), (.int .i64 a1_4), (.sl 79 a1_5z a1_5)])] => ⟨laws_eqForest.f k a0_0 a0_1 a0_2 a0_3 a0_4 a0_5z a0_5 a1_0 a1_1 a1_2 a1_3 a1_4 a1_5z a1_5, laws_eqForest.enc⟩
  | _ => Ans.no
def laws_eqForest.Cs (k : Nat) : CallSem := tab [(135, laws_eqLimits.ans k), (136, laws_eqHeadS.ans k)]
theorem laws_eqForest.eq (k : Nat) (a0_0 a0_1 : Int) (a0_2 a0_3 a0_4 : Int) (a0_5z : Bool) (a0_5 : List T) (a1_0 a1_1 : Int) (a1_2 a1_3 a1_4 : Int) (a1_5z : Bool) (a1_5 : List T) : answer Try.prog laws_eqForest.Cs 100000 [] [] Try.f58 (k + 1) [.v (.agg [(.int .i64 a0_0), (.int .i64 a0_1), (.int .i64 a0_2), (.int .i64 a0_3), (.int .i64 a0_4), (.sl 79 a0_5z a0_5)]), .v (.agg [(.int .i64 a1_0), (.int .i64 a1_1), (.int .i64 a1_2), (.int .i64 a1_3), (.int .i64 a1_4), (.sl 79 a1_5z a1_5)])] = (laws_eqForest.f (k + 1) a0_0 a0_1 a0_2 a0_3 a0_4 a0_5z a0_5 a1_0 a1_1 a1_2 a1_3 a1_4 a1_5z a1_5).map laws_eqForest.enc := by
  refine Eq.trans (b := laws_eqForest.b (fun r => some (laws_eqForest.enc r)) k a0_0 a0_1 a0_2 a0_3 a0_4 a0_5z a0_5 a1_0 a1_1 a1_2 a1_3 a1_4 a1_5z a1_5) (by kernel_rfl) ?_
  show _ = (laws_eqForest.b some k a0_0 a0_1 a0_2 a0_3 a0_4 a0_5z a0_5 a1_0 a1_1 a1_2 a1_3 a1_4 a1_5z a1_5).map laws_eqForest.enc
  unfold laws_eqForest.b
  repeat' first | with_reducible refine nat_cond ?_ ?_ | with_reducible refine nat_bind fun _ => ?_ | rfl
theorem laws_eqForest.sound (k : Nat) : SoundF Try.prog 58 (fun a => (laws_eqForest.ans k a).val) := by
  refine sound_plain (fun args res h => ?_) (fun t n => rfl)
  unfold laws_eqForest.ans at h
  dsimp only at h
  split at h
  · cases k with
    | zero => cases h
    | succ k =>
      unfold Ans.val at h
      rw [← laws_eqForest.eq] at h
      exact answer_sound mixed Try.func58 _ _ _ (k + 1) (fun j _ => tab_sound (tab_cons (laws_eqLimits.sound j) (tab_cons (laws_eqHeadS.sound j) (tab_nil)))) _ _ h
  · exact (Ans.no_val h).elim

def laws_markByteS.b {R : Type} (ret : Int × Bool × List Int → Option R) (j0 : Bool → (List Int) → Int → Int → Option R) (k : Nat) (a0z : Bool) (a0 : List Int) (a1 : Int) : Option R :=
  j0 a0z a0 a1 0
def laws_markByteS.l0b {R : Type} (ret : Int × Bool × List Int → Option R) (j0 : Bool → (List Int) → Int → Int → Option R) (k : Nat) (x0z : Bool) (x0 : List Int) (x1 x5 : Int) : Option R :=
  cond (decide (x5 < ((x0).length : Int))) (cond (decide ((0 : Int) ≤ x5)) (cond (decide (x5 < ((x0).length : Int))) (j0 x0z ((x0).set (x5).toNat ((x1) % 256)) (RowKit.wrap64 (x1 + 1)) (RowKit.wrap64 (x5 + 1))) (none)) (none)) (ret (x1, x0z, x0))
def laws_markByteS.l0 : Nat → Bool → (List Int) → Int → Int → Option (Int × Bool × List Int)
  | 0, _, _, _, _ => none
  | k + 1, x0z, x0, x1, x5 => laws_markByteS.l0b some (laws_markByteS.l0 k) k x0z x0 x1 x5
def laws_markByteS.f : Nat → Bool → (List Int) → Int → Option (Int × Bool × List Int)
  | 0, _, _, _ => none
  | k + 1, a0z, a0, a1 => laws_markByteS.b some (laws_markByteS.l0 k) k a0z a0 a1
def laws_markByteS.enc (r : Int × Bool × List Int) : Res := ⟨[.vals false [((.int .i64 r.1), true)]], [[((.nums 5 .u8 r.2.1 r.2.2), true)]]⟩
def laws_markByteS.ans (k : Nat) : List Arg → Ans
  | [.own (.nums 5 .u8 a0z a0), .v (.int .i64 a1)] => ⟨laws_markByteS.f k a0z a0 a1, laws_markByteS.enc⟩
  | _ => Ans.no
def laws_markByteS.Cs (k : Nat) : CallSem := tab []
def laws_markByteS.cuts : List (Nat × Keep) := [(26, ⟨[(0, none), (1, some []), (5, some [])], []⟩)]
noncomputable def laws_markByteS.K0 : List Fr := framesAt [true, false, true, false] (bodyOf Try.f72 laws_markByteS.cuts) []
def laws_markByteS.N0 (x0z : Bool) (x0 : List Int) (x1 x5 : Int) : St := stOf 20 20 2 [(0, .val ⟨(.nums 5 .u8 x0z x0), [.h 0], true, some (.h 0)⟩), (1, .val (V.s (.int .i64 x1))), (5, .val (V.s (.int .i64 x5)))] []
theorem laws_markByteS.s (k : Nat) (a0z : Bool) (a0 : List Int) (a1 : Int) : answerM Try.prog laws_markByteS.Cs 100000 laws_markByteS.cuts Try.f72 (k + 1) [.own (.nums 5 .u8 a0z a0), .v (.int .i64 a1)] = laws_markByteS.b (fun r => some (laws_markByteS.enc r)) (fun x0z x0 x1 x5 => rounds Try.prog laws_markByteS.Cs (finishM Try.prog Try.f72 (.nums 5 .u8 a0z a0)) 100000 k laws_markByteS.K0 (laws_markByteS.N0 x0z x0 x1 x5)) k a0z a0 a1 := by kernel_rfl
theorem laws_markByteS.s0 (k : Nat) (G : List Fr → St → Option Res) (a0z : Bool) (a0 : List Int) (a1 : Int) (yx0z : Bool) (yx0 : List Int) (yx1 yx5 : Int) : resume Try.prog (laws_markByteS.Cs k) G (finishM Try.prog Try.f72 (.nums 5 .u8 a0z a0)) 100000 laws_markByteS.K0 (laws_markByteS.N0 yx0z yx0 yx1 yx5) = laws_markByteS.l0b (fun r => some (laws_markByteS.enc r)) (fun x0z x0 x1 x5 => G laws_markByteS.K0 (laws_markByteS.N0 x0z x0 x1 x5)) k yx0z yx0 yx1 yx5 := by kernel_rfl
theorem laws_markByteS.b_nat {R R' : Type} (e : R → R') (ret : Int × Bool × List Int → Option R) (j0 : Bool → (List Int) → Int → Int → Option R) (k : Nat) (a0z : Bool) (a0 : List Int) (a1 : Int) : laws_markByteS.b (fun r => (ret r).map e) (fun x0z x0 x1 x5 => (j0 x0z x0 x1 x5).map e) k a0z a0 a1 = (laws_markByteS.b ret j0 k a0z a0 a1).map e := by
  unfold laws_markByteS.b
  repeat' first | with_reducible refine nat_cond ?_ ?_ | with_reducible refine nat_bind fun _ => ?_ | rfl
theorem laws_markByteS.l0b_nat {R R' : Type} (e : R → R') (ret : Int × Bool × List Int → Option R) (j0 : Bool → (List Int) → Int → Int → Option R) (k : Nat) (x0z : Bool) (x0 : List Int) (x1 x5 : Int) : laws_markByteS.l0b (fun r => (ret r).map e) (fun x0z x0 x1 x5 => (j0 x0z x0 x1 x5).map e) k x0z x0 x1 x5 = (laws_markByteS.l0b ret j0 k x0z x0 x1 x5).map e := by
  unfold laws_markByteS.l0b
  repeat' first | with_reducible refine nat_cond ?_ ?_ | with_reducible refine nat_bind fun _ => ?_ | rfl
theorem laws_markByteS.rounds_eq (a0z : Bool) (a0 : List Int) (a1 : Int) : ∀ k, (∀ (x0z : Bool) (x0 : List Int) (x1 x5 : Int), rounds Try.prog laws_markByteS.Cs (finishM Try.prog Try.f72 (.nums 5 .u8 a0z a0)) 100000 k laws_markByteS.K0 (laws_markByteS.N0 x0z x0 x1 x5) = (laws_markByteS.l0 k x0z x0 x1 x5).map laws_markByteS.enc)
  | 0 => fun _ _ _ _ => rfl
  | k + 1 => by
    have ih := laws_markByteS.rounds_eq a0z a0 a1 k
    refine fun _ _ _ _ => ?_
    · refine (laws_markByteS.s0 k _ a0z a0 a1 _ _ _ _).trans (Eq.trans ?_ (laws_markByteS.l0b_nat laws_markByteS.enc some (laws_markByteS.l0 k) k _ _ _ _))
      simp only [ih, Option.map_some]
theorem laws_markByteS.eq (k : Nat) (a0z : Bool) (a0 : List Int) (a1 : Int) : answerM Try.prog laws_markByteS.Cs 100000 laws_markByteS.cuts Try.f72 (k + 1) [.own (.nums 5 .u8 a0z a0), .v (.int .i64 a1)] = (laws_markByteS.f (k + 1) a0z a0 a1).map laws_markByteS.enc := by
  have ih := laws_markByteS.rounds_eq a0z a0 a1 k
  refine (laws_markByteS.s k a0z a0 a1).trans (Eq.trans ?_ (laws_markByteS.b_nat laws_markByteS.enc some (laws_markByteS.l0 k) k a0z a0 a1))
  simp only [ih, Option.map_some]
theorem laws_markByteS.sound (k : Nat) : SoundF Try.prog 72 (fun a => (laws_markByteS.ans k a).val) := by
  refine sound_mark (fun args hne => ?_) (fun t n l m h => ?_)
  · unfold laws_markByteS.ans
    split
    · exact (hne _ _ rfl).elim
    · rfl
  unfold laws_markByteS.ans at h
  dsimp only at h
  split at h
  · rename_i heq
    cases heq
    cases k with
    | zero => cases h
    | succ k =>
      unfold Ans.val at h
      rw [← laws_markByteS.eq] at h
      exact answerM_sound (Cs := laws_markByteS.Cs) mixed Try.func72 100000 laws_markByteS.cuts (k + 1) (fun j _ => tab_sound (tab_nil)) _ _ _ _ h
  · exact (Ans.no_val h).elim

def laws_markByteSS.b {R : Type} (ret : Int × Bool × List T → Option R) (j0 : Bool → (List T) → Int → Int → Option R) (k : Nat) (a0z : Bool) (a0 : List T) (a1 : Int) : Option R :=
  j0 a0z a0 a1 0
def laws_markByteSS.l0b {R : Type} (ret : Int × Bool × List T → Option R) (j0 : Bool → (List T) → Int → Int → Option R) (k : Nat) (x0z : Bool) (x0 : List T) (x1 x5 : Int) : Option R :=
  cond (decide (x5 < ((x0).length : Int))) (cond (decide ((0 : Int) ≤ x5)) (cond (decide (x5 < ((x0).length : Int))) ((laws_markByteS.f k (((((x0).getD (x5).toNat .bad).cells.getD 0 .bad)).isNil) (((((x0).getD (x5).toNat .bad).cells.getD 0 .bad)).toNums) x1).bind fun t0 => j0 x0z ((x0).set (x5).toNat (.nums 5 .u8 t0.2.1 t0.2.2)) t0.1 (RowKit.wrap64 (x5 + 1))) (none)) (none)) (ret (x1, x0z, x0))
def laws_markByteSS.l0 : Nat → Bool → (List T) → Int → Int → Option (Int × Bool × List T)
  | 0, _, _, _, _ => none
  | k + 1, x0z, x0, x1, x5 => laws_markByteSS.l0b some (laws_markByteSS.l0 k) k x0z x0 x1 x5
def laws_markByteSS.f : Nat → Bool → (List T) → Int → Option (Int × Bool × List T)
  | 0, _, _, _ => none
  | k + 1, a0z, a0, a1 => laws_markByteSS.b some (laws_markByteSS.l0 k) k a0z a0 a1
def laws_markByteSS.enc (r : Int × Bool × List T) : Res := ⟨[.vals false [((.int .i64 r.1), true)]], [[((.sl 22 r.2.1 r.2.2), true)]]⟩
def laws_markByteSS.ans (k : Nat) : List Arg → Ans
  | [.own (.sl 22 a0z a0), .v (.int .i64 a1)] => ⟨laws_markByteSS.f k a0z a0 a1, laws_markByteSS.enc⟩
  | _ => Ans.no
def laws_markByteSS.Cs (k : Nat) : CallSem := tab [(72, laws_markByteS.ans k)]
def laws_markByteSS.cuts : List (Nat × Keep) := [(26, ⟨[(0, none), (1, some []), (5, some [])], []⟩)]
noncomputable def laws_markByteSS.K0 : List Fr := framesAt [true, false, true, false] (bodyOf Try.f60 laws_markByteSS.cuts) []
def laws_markByteSS.N0 (x0z : Bool) (x0 : List T) (x1 x5 : Int) : St := stOf 19 19 2 [(0, .val ⟨(.sl 22 x0z x0), [.h 0], true, some (.h 0)⟩), (1, .val (V.s (.int .i64 x1))), (5, .val (V.s (.int .i64 x5)))] []
theorem laws_markByteSS.s (k : Nat) (a0z : Bool) (a0 : List T) (a1 : Int) : answerM Try.prog laws_markByteSS.Cs 100000 laws_markByteSS.cuts Try.f60 (k + 1) [.own (.sl 22 a0z a0), .v (.int .i64 a1)] = laws_markByteSS.b (fun r => some (laws_markByteSS.enc r)) (fun x0z x0 x1 x5 => rounds Try.prog laws_markByteSS.Cs (finishM Try.prog Try.f60 (.sl 22 a0z a0)) 100000 k laws_markByteSS.K0 (laws_markByteSS.N0 x0z x0 x1 x5)) k a0z a0 a1 := by kernel_rfl
theorem laws_markByteSS.s0 (k : Nat) (G : List Fr → St → Option Res) (a0z : Bool) (a0 : List T) (a1 : Int) (yx0z : Bool) (yx0 : List T) (yx1 yx5 : Int) : resume Try.prog (laws_markByteSS.Cs k) G (finishM Try.prog Try.f60 (.sl 22 a0z a0)) 100000 laws_markByteSS.K0 (laws_markByteSS.N0 yx0z yx0 yx1 yx5) = laws_markByteSS.l0b (fun r => some (laws_markByteSS.enc r)) (fun x0z x0 x1 x5 => G laws_markByteSS.K0 (laws_markByteSS.N0 x0z x0 x1 x5)) k yx0z yx0 yx1 yx5 := by kernel_rfl
theorem laws_markByteSS.b_nat {R R' : Type} (e : R → R') (ret : Int × Bool × List T → Option R) (j0 : Bool → (List T) → Int → Int → Option R) (k : Nat) (a0z : Bool) (a0 : List T) (a1 : Int) : laws_markByteSS.b (fun r => (ret r).map e) (fun x0z x0 x1 x5 => (j0 x0z x0 x1 x5).map e) k a0z a0 a1 = (laws_markByteSS.b ret j0 k a0z a0 a1).map e := by
  unfold laws_markByteSS.b
  repeat' first | with_reducible refine nat_cond ?_ ?_ | with_reducible refine nat_bind fun _ => ?_ | rfl
theorem laws_markByteSS.l0b_nat {R R' : Type} (e : R → R') (ret : Int × Bool × List T → Option R) (j0 : Bool → (List T) → Int → Int → Option R) (k : Nat) (x0z : Bool) (x0 : List T) (x1 x5 : Int) : laws_markByteSS.l0b (fun r => (ret r).map e) (fun x0z x0 x1 x5 => (j0 x0z x0 x1 x5).map e) k x0z x0 x1 x5 = (laws_markByteSS.l0b ret j0 k x0z x0 x1 x5).map e := by
  unfold laws_markByteSS.l0b
  repeat' first | with_reducible refine nat_cond ?_ ?_ | with_reducible refine nat_bind fun _ => ?_ | rfl
theorem laws_markByteSS.rounds_eq (a0z : Bool) (a0 : List T) (a1 : Int) : ∀ k, (∀ (x0z : Bool) (x0 : List T) (x1 x5 : Int), rounds Try.prog laws_markByteSS.Cs (finishM Try.prog Try.f60 (.sl 22 a0z a0)) 100000 k laws_markByteSS.K0 (laws_markByteSS.N0 x0z x0 x1 x5) = (laws_markByteSS.l0 k x0z x0 x1 x5).map laws_markByteSS.enc)
  | 0 => fun _ _ _ _ => rfl
  | k + 1 => by
    have ih := laws_markByteSS.rounds_eq a0z a0 a1 k
    refine fun _ _ _ _ => ?_
    · refine (laws_markByteSS.s0 k _ a0z a0 a1 _ _ _ _).trans (Eq.trans ?_ (laws_markByteSS.l0b_nat laws_markByteSS.enc some (laws_markByteSS.l0 k) k _ _ _ _))
      simp only [ih, Option.map_some]
theorem laws_markByteSS.eq (k : Nat) (a0z : Bool) (a0 : List T) (a1 : Int) : answerM Try.prog laws_markByteSS.Cs 100000 laws_markByteSS.cuts Try.f60 (k + 1) [.own (.sl 22 a0z a0), .v (.int .i64 a1)] = (laws_markByteSS.f (k + 1) a0z a0 a1).map laws_markByteSS.enc := by
  have ih := laws_markByteSS.rounds_eq a0z a0 a1 k
  refine (laws_markByteSS.s k a0z a0 a1).trans (Eq.trans ?_ (laws_markByteSS.b_nat laws_markByteSS.enc some (laws_markByteSS.l0 k) k a0z a0 a1))
  simp only [ih, Option.map_some]
theorem laws_markByteSS.sound (k : Nat) : SoundF Try.prog 60 (fun a => (laws_markByteSS.ans k a).val) := by
  refine sound_mark (fun args hne => ?_) (fun t n l m h => ?_)
  · unfold laws_markByteSS.ans
    split
    · exact (hne _ _ rfl).elim
    · rfl
  unfold laws_markByteSS.ans at h
  dsimp only at h
  split at h
  · rename_i heq
    cases heq
    cases k with
    | zero => cases h
    | succ k =>
      unfold Ans.val at h
      rw [← laws_markByteSS.eq] at h
      exact answerM_sound (Cs := laws_markByteSS.Cs) mixed Try.func60 100000 laws_markByteSS.cuts (k + 1) (fun j _ => tab_sound (tab_cons (laws_markByteS.sound j) (tab_nil))) _ _ _ _ h
  · exact (Ans.no_val h).elim

def laws_markHeadS.b {R : Type} (ret : Int × Bool × List T → Option R) (j0 : Bool → (List T) → Int → Int → Option R) (k : Nat) (a0z : Bool) (a0 : List T) (a1 : Int) : Option R :=
  j0 a0z a0 a1 0
def laws_markHeadS.y1 (x0 : List T) (x1 x5 : Int) : List T := ((x0).set (x5).toNat (.agg [(.int .i64 x1), (.int .i64 ((((x0).getD (x5).toNat .bad).cells.getD 1 .bad)).toInt), (.int .i64 ((((x0).getD (x5).toNat .bad).cells.getD 2 .bad)).toInt), (.nums 5 .u8 ((((x0).getD (x5).toNat .bad).cells.getD 3 .bad)).isNil ((((x0).getD (x5).toNat .bad).cells.getD 3 .bad)).toNums), (.nums 5 .u8 ((((x0).getD (x5).toNat .bad).cells.getD 4 .bad)).isNil ((((x0).getD (x5).toNat .bad).cells.getD 4 .bad)).toNums), (.int .i64 ((((x0).getD (x5).toNat .bad).cells.getD 5 .bad)).toInt), (.int .i64 ((((x0).getD (x5).toNat .bad).cells.getD 6 .bad)).toInt), (.nums 5 .u8 ((((x0).getD (x5).toNat .bad).cells.getD 7 .bad)).isNil ((((x0).getD (x5).toNat .bad).cells.getD 7 .bad)).toNums), (.nums 5 .u8 ((((x0).getD (x5).toNat .bad).cells.getD 8 .bad)).isNil ((((x0).getD (x5).toNat .bad).cells.getD 8 .bad)).toNums), (.sl 22 ((((x0).getD (x5).toNat .bad).cells.getD 9 .bad)).isNil ((((x0).getD (x5).toNat .bad).cells.getD 9 .bad)).toList)]))
def laws_markHeadS.y2 (x0 : List T) (x1 x5 : Int) : List T := (((laws_markHeadS.y1 x0 x1 x5)).set (x5).toNat (.agg [(.int .i64 (((((laws_markHeadS.y1 x0 x1 x5)).getD (x5).toNat .bad).cells.getD 0 .bad)).toInt), (.int .i64 (RowKit.wrap64 (x1 + 1))), (.int .i64 (((((laws_markHeadS.y1 x0 x1 x5)).getD (x5).toNat .bad).cells.getD 2 .bad)).toInt), (.nums 5 .u8 (((((laws_markHeadS.y1 x0 x1 x5)).getD (x5).toNat .bad).cells.getD 3 .bad)).isNil (((((laws_markHeadS.y1 x0 x1 x5)).getD (x5).toNat .bad).cells.getD 3 .bad)).toNums), (.nums 5 .u8 (((((laws_markHeadS.y1 x0 x1 x5)).getD (x5).toNat .bad).cells.getD 4 .bad)).isNil (((((laws_markHeadS.y1 x0 x1 x5)).getD (x5).toNat .bad).cells.getD 4 .bad)).toNums), (.int .i64 (((((laws_markHeadS.y1 x0 x1 x5)).getD (x5).toNat .bad).cells.getD 5 .bad)).toInt), (.int .i64 (((((laws_markHeadS.y1 x0 x1 x5)).getD (x5).toNat .bad).cells.getD 6 .bad)).toInt), (.nums 5 .u8 (((((laws_markHeadS.y1 x0 x1 x5)).getD (x5).toNat .bad).cells.getD 7 .bad)).isNil (((((laws_markHeadS.y1 x0 x1 x5)).getD (x5).toNat .bad).cells.getD 7 .bad)).toNums), (.nums 5 .u8 (((((laws_markHeadS.y1 x0 x1 x5)).getD (x5).toNat .bad).cells.getD 8 .bad)).isNil (((((laws_markHeadS.y1 x0 x1 x5)).getD (x5).toNat .bad).cells.getD 8 .bad)).toNums), (.sl 22 (((((laws_markHeadS.y1 x0 x1 x5)).getD (x5).toNat .bad).cells.getD 9 .bad)).isNil (((((laws_markHeadS.y1 x0 x1 x5)).getD (x5).toNat .bad).cells.getD 9 .bad)).toList)]))
def laws_markHeadS.y3 (x0 : List T) (x1 x5 : Int) : List T := (((laws_markHeadS.y2 x0 x1 x5)).set (x5).toNat (.agg [(.int .i64 (((((laws_markHeadS.y2 x0 x1 x5)).getD (x5).toNat .bad).cells.getD 0 .bad)).toInt), (.int .i64 (((((laws_markHeadS.y2 x0 x1 x5)).getD (x5).toNat .bad).cells.getD 1 .bad)).toInt), (.int .i64 (RowKit.wrap64 ((RowKit.wrap64 (x1 + 1)) + 1))), (.nums 5 .u8 (((((laws_markHeadS.y2 x0 x1 x5)).getD (x5).toNat .bad).cells.getD 3 .bad)).isNil (((((laws_markHeadS.y2 x0 x1 x5)).getD (x5).toNat .bad).cells.getD 3 .bad)).toNums), (.nums 5 .u8 (((((laws_markHeadS.y2 x0 x1 x5)).getD (x5).toNat .bad).cells.getD 4 .bad)).isNil (((((laws_markHeadS.y2 x0 x1 x5)).getD (x5).toNat .bad).cells.getD 4 .bad)).toNums), (.int .i64 (((((laws_markHeadS.y2 x0 x1 x5)).getD (x5).toNat .bad).cells.getD 5 .bad)).toInt), (.int .i64 (((((laws_markHeadS.y2 x0 x1 x5)).getD (x5).toNat .bad).cells.getD 6 .bad)).toInt), (.nums 5 .u8 (((((laws_markHeadS.y2 x0 x1 x5)).getD (x5).toNat .bad).cells.getD 7 .bad)).isNil (((((laws_markHeadS.y2 x0 x1 x5)).getD (x5).toNat .bad).cells.getD 7 .bad)).toNums), (.nums 5 .u8 (((((laws_markHeadS.y2 x0 x1 x5)).getD (x5).toNat .bad).cells.getD 8 .bad)).isNil (((((laws_markHeadS.y2 x0 x1 x5)).getD (x5).toNat .bad).cells.getD 8 .bad)).toNums), (.sl 22 (((((laws_markHeadS.y2 x0 x1 x5)).getD (x5).toNat .bad).cells.getD 9 .bad)).isNil (((((laws_markHeadS.y2 x0 x1 x5)).getD (x5).toNat .bad).cells.getD 9 .bad)).toList)]))
def laws_markHeadS.y4 (x0 : List T) (x1 x5 : Int) (t0 : (Int × Bool × List Int)) : List T := (((laws_markHeadS.y3 x0 x1 x5)).set (x5).toNat (.agg [(.int .i64 (((((laws_markHeadS.y3 x0 x1 x5)).getD (x5).toNat .bad).cells.getD 0 .bad)).toInt), (.int .i64 (((((laws_markHeadS.y3 x0 x1 x5)).getD (x5).toNat .bad).cells.getD 1 .bad)).toInt), (.int .i64 (((((laws_markHeadS.y3 x0 x1 x5)).getD (x5).toNat .bad).cells.getD 2 .bad)).toInt), (.nums 5 .u8 t0.2.1 t0.2.2), (.nums 5 .u8 (((((laws_markHeadS.y3 x0 x1 x5)).getD (x5).toNat .bad).cells.getD 4 .bad)).isNil (((((laws_markHeadS.y3 x0 x1 x5)).getD (x5).toNat .bad).cells.getD 4 .bad)).toNums), (.int .i64 (((((laws_markHeadS.y3 x0 x1 x5)).getD (x5).toNat .bad).cells.getD 5 .bad)).toInt), (.int .i64 (((((laws_markHeadS.y3 x0 x1 x5)).getD (x5).toNat .bad).cells.getD 6 .bad)).toInt), (.nums 5 .u8 (((((laws_markHeadS.y3 x0 x1 x5)).getD (x5).toNat .bad).cells.getD 7 .bad)).isNil (((((laws_markHeadS.y3 x0 x1 x5)).getD (x5).toNat .bad).cells.getD 7 .bad)).toNums), (.nums 5 .u8 (((((laws_markHeadS.y3 x0 x1 x5)).getD (x5).toNat .bad).cells.getD 8 .bad)).isNil (((((laws_markHeadS.y3 x0 x1 x5)).getD (x5).toNat .bad).cells.getD 8 .bad)).toNums), (.sl 22 (((((laws_markHeadS.y3 x0 x1 x5)).getD (x5).toNat .bad).cells.getD 9 .bad)).isNil (((((laws_markHeadS.y3 x0 x1 x5)).getD (x5).toNat .bad).cells.getD 9 .bad)).toList)]))
def laws_markHeadS.y5 (x0 : List T) (x1 x5 : Int) (t0 : (Int × Bool × List Int)) (t1 : (Int × Bool × List Int)) : List T := (((laws_markHeadS.y4 x0 x1 x5 t0)).set (x5).toNat (.agg [(.int .i64 (((((laws_markHeadS.y4 x0 x1 x5 t0)).getD (x5).toNat .bad).cells.getD 0 .bad)).toInt), (.int .i64 (((((laws_markHeadS.y4 x0 x1 x5 t0)).getD (x5).toNat .bad).cells.getD 1 .bad)).toInt), (.int .i64 (((((laws_markHeadS.y4 x0 x1 x5 t0)).getD (x5).toNat .bad).cells.getD 2 .bad)).toInt), (.nums 5 .u8 (((((laws_markHeadS.y4 x0 x1 x5 t0)).getD (x5).toNat .bad).cells.getD 3 .bad)).isNil (((((laws_markHeadS.y4 x0 x1 x5 t0)).getD (x5).toNat .bad).cells.getD 3 .bad)).toNums), (.nums 5 .u8 t1.2.1 t1.2.2), (.int .i64 (((((laws_markHeadS.y4 x0 x1 x5 t0)).getD (x5).toNat .bad).cells.getD 5 .bad)).toInt), (.int .i64 (((((laws_markHeadS.y4 x0 x1 x5 t0)).getD (x5).toNat .bad).cells.getD 6 .bad)).toInt), (.nums 5 .u8 (((((laws_markHeadS.y4 x0 x1 x5 t0)).getD (x5).toNat .bad).cells.getD 7 .bad)).isNil (((((laws_markHeadS.y4 x0 x1 x5 t0)).getD (x5).toNat .bad).cells.getD 7 .bad)).toNums), (.nums 5 .u8 (((((laws_markHeadS.y4 x0 x1 x5 t0)).getD (x5).toNat .bad).cells.getD 8 .bad)).isNil (((((laws_markHeadS.y4 x0 x1 x5 t0)).getD (x5).toNat .bad).cells.getD 8 .bad)).toNums), (.sl 22 (((((laws_markHeadS.y4 x0 x1 x5 t0)).getD (x5).toNat .bad).cells.getD 9 .bad)).isNil (((((laws_markHeadS.y4 x0 x1 x5 t0)).getD (x5).toNat .bad).cells.getD 9 .bad)).toList)]))
def laws_markHeadS.y6 (x0 : List T) (x1 x5 : Int) (t0 : (Int × Bool × List Int)) (t1 : (Int × Bool × List Int)) : List T := (((laws_markHeadS.y5 x0 x1 x5 t0 t1)).set (x5).toNat (.agg [(.int .i64 (((((laws_markHeadS.y5 x0 x1 x5 t0 t1)).getD (x5).toNat .bad).cells.getD 0 .bad)).toInt), (.int .i64 (((((laws_markHeadS.y5 x0 x1 x5 t0 t1)).getD (x5).toNat .bad).cells.getD 1 .bad)).toInt), (.int .i64 (((((laws_markHeadS.y5 x0 x1 x5 t0 t1)).getD (x5).toNat .bad).cells.getD 2 .bad)).toInt), (.nums 5 .u8 (((((laws_markHeadS.y5 x0 x1 x5 t0 t1)).getD (x5).toNat .bad).cells.getD 3 .bad)).isNil (((((laws_markHeadS.y5 x0 x1 x5 t0 t1)).getD (x5).toNat .bad).cells.getD 3 .bad)).toNums), (.nums 5 .u8 (((((laws_markHeadS.y5 x0 x1 x5 t0 t1)).getD (x5).toNat .bad).cells.getD 4 .bad)).isNil (((((laws_markHeadS.y5 x0 x1 x5 t0 t1)).getD (x5).toNat .bad).cells.getD 4 .bad)).toNums), (.int .i64 t1.1), (.int .i64 (((((laws_markHeadS.y5 x0 x1 x5 t0 t1)).getD (x5).toNat .bad).cells.getD 6 .bad)).toInt), (.nums 5 .u8 (((((laws_markHeadS.y5 x0 x1 x5 t0 t1)).getD (x5).toNat .bad).cells.getD 7 .bad)).isNil (((((laws_markHeadS.y5 x0 x1 x5 t0 t1)).getD (x5).toNat .bad).cells.getD 7 .bad)).toNums), (.nums 5 .u8 (((((laws_markHeadS.y5 x0 x1 x5 t0 t1)).getD (x5).toNat .bad).cells.getD 8 .bad)).isNil (((((laws_markHeadS.y5 x0 x1 x5 t0 t1)).getD (x5).toNat .bad).cells.getD 8 .bad)).toNums), (.sl 22 (((((laws_markHeadS.y5 x0 x1 x5 t0 t1)).getD (x5).toNat .bad).cells.getD 9 .bad)).isNil (((((laws_markHeadS.y5 x0 x1 x5 t0 t1)).getD (x5).toNat .bad).cells.getD 9 .bad)).toList)]))
def laws_markHeadS.y7 (x0 : List T) (x1 x5 : Int) (t0 : (Int × Bool × List Int)) (t1 : (Int × Bool × List Int)) : List T := (((laws_markHeadS.y6 x0 x1 x5 t0 t1)).set (x5).toNat (.agg [(.int .i64 (((((laws_markHeadS.y6 x0 x1 x5 t0 t1)).getD (x5).toNat .bad).cells.getD 0 .bad)).toInt), (.int .i64 (((((laws_markHeadS.y6 x0 x1 x5 t0 t1)).getD (x5).toNat .bad).cells.getD 1 .bad)).toInt), (.int .i64 (((((laws_markHeadS.y6 x0 x1 x5 t0 t1)).getD (x5).toNat .bad).cells.getD 2 .bad)).toInt), (.nums 5 .u8 (((((laws_markHeadS.y6 x0 x1 x5 t0 t1)).getD (x5).toNat .bad).cells.getD 3 .bad)).isNil (((((laws_markHeadS.y6 x0 x1 x5 t0 t1)).getD (x5).toNat .bad).cells.getD 3 .bad)).toNums), (.nums 5 .u8 (((((laws_markHeadS.y6 x0 x1 x5 t0 t1)).getD (x5).toNat .bad).cells.getD 4 .bad)).isNil (((((laws_markHeadS.y6 x0 x1 x5 t0 t1)).getD (x5).toNat .bad).cells.getD 4 .bad)).toNums), (.int .i64 (((((laws_markHeadS.y6 x0 x1 x5 t0 t1)).getD (x5).toNat .bad).cells.getD 5 .bad)).toInt), (.int .i64 (RowKit.wrap64 (t1.1 + 1))), (.nums 5 .u8 (((((laws_markHeadS.y6 x0 x1 x5 t0 t1)).getD (x5).toNat .bad).cells.getD 7 .bad)).isNil (((((laws_markHeadS.y6 x0 x1 x5 t0 t1)).getD (x5).toNat .bad).cells.getD 7 .bad)).toNums), (.nums 5 .u8 (((((laws_markHeadS.y6 x0 x1 x5 t0 t1)).getD (x5).toNat .bad).cells.getD 8 .bad)).isNil (((((laws_markHeadS.y6 x0 x1 x5 t0 t1)).getD (x5).toNat .bad).cells.getD 8 .bad)).toNums), (.sl 22 (((((laws_markHeadS.y6 x0 x1 x5 t0 t1)).getD (x5).toNat .bad).cells.getD 9 .bad)).isNil (((((laws_markHeadS.y6 x0 x1 x5 t0 t1)).getD (x5).toNat .bad).cells.getD 9 .bad)).toList)]))
def laws_markHeadS.y8 (x0 : List T) (x1 x5 : Int) (t0 : (Int × Bool × List Int)) (t1 : (Int × Bool × List Int)) (t2 : (Int × Bool × List Int)) : List T := (((laws_markHeadS.y7 x0 x1 x5 t0 t1)).set (x5).toNat (.agg [(.int .i64 (((((laws_markHeadS.y7 x0 x1 x5 t0 t1)).getD (x5).toNat .bad).cells.getD 0 .bad)).toInt), (.int .i64 (((((laws_markHeadS.y7 x0 x1 x5 t0 t1)).getD (x5).toNat .bad).cells.getD 1 .bad)).toInt), (.int .i64 (((((laws_markHeadS.y7 x0 x1 x5 t0 t1)).getD (x5).toNat .bad).cells.getD 2 .bad)).toInt), (.nums 5 .u8 (((((laws_markHeadS.y7 x0 x1 x5 t0 t1)).getD (x5).toNat .bad).cells.getD 3 .bad)).isNil (((((laws_markHeadS.y7 x0 x1 x5 t0 t1)).getD (x5).toNat .bad).cells.getD 3 .bad)).toNums), (.nums 5 .u8 (((((laws_markHeadS.y7 x0 x1 x5 t0 t1)).getD (x5).toNat .bad).cells.getD 4 .bad)).isNil (((((laws_markHeadS.y7 x0 x1 x5 t0 t1)).getD (x5).toNat .bad).cells.getD 4 .bad)).toNums), (.int .i64 (((((laws_markHeadS.y7 x0 x1 x5 t0 t1)).getD (x5).toNat .bad).cells.getD 5 .bad)).toInt), (.int .i64 (((((laws_markHeadS.y7 x0 x1 x5 t0 t1)).getD (x5).toNat .bad).cells.getD 6 .bad)).toInt), (.nums 5 .u8 t2.2.1 t2.2.2), (.nums 5 .u8 (((((laws_markHeadS.y7 x0 x1 x5 t0 t1)).getD (x5).toNat .bad).cells.getD 8 .bad)).isNil (((((laws_markHeadS.y7 x0 x1 x5 t0 t1)).getD (x5).toNat .bad).cells.getD 8 .bad)).toNums), (.sl 22 (((((laws_markHeadS.y7 x0 x1 x5 t0 t1)).getD (x5).toNat .bad).cells.getD 9 .bad)).isNil (((((laws_markHeadS.y7 x0 x1 x5 t0 t1)).getD (x5).toNat .bad).cells.getD 9 .bad)).toList)]))
def laws_markHeadS.y9 (x0 : List T) (x1 x5 : Int) (t0 : (Int × Bool × List Int)) (t1 : (Int × Bool × List Int)) (t2 : (Int × Bool × List Int)) (t3 : (Int × Bool × List Int)) : List T := (((laws_markHeadS.y8 x0 x1 x5 t0 t1 t2)).set (x5).toNat (.agg [(.int .i64 (((((laws_markHeadS.y8 x0 x1 x5 t0 t1 t2)).getD (x5).toNat .bad).cells.getD 0 .bad)).toInt), (.int .i64 (((((laws_markHeadS.y8 x0 x1 x5 t0 t1 t2)).getD (x5).toNat .bad).cells.getD 1 .bad)).toInt), (.int .i64 (((((laws_markHeadS.y8 x0 x1 x5 t0 t1 t2)).getD (x5).toNat .bad).cells.getD 2 .bad)).toInt), (.nums 5 .u8 (((((laws_markHeadS.y8 x0 x1 x5 t0 t1 t2)).getD (x5).toNat .bad).cells.getD 3 .bad)).isNil (((((laws_markHeadS.y8 x0 x1 x5 t0 t1 t2)).getD (x5).toNat .bad).cells.getD 3 .bad)).toNums), (.nums 5 .u8 (((((laws_markHeadS.y8 x0 x1 x5 t0 t1 t2)).getD (x5).toNat .bad).cells.getD 4 .bad)).isNil (((((laws_markHeadS.y8 x0 x1 x5 t0 t1 t2)).getD (x5).toNat .bad).cells.getD 4 .bad)).toNums), (.int .i64 (((((laws_markHeadS.y8 x0 x1 x5 t0 t1 t2)).getD (x5).toNat .bad).cells.getD 5 .bad)).toInt), (.int .i64 (((((laws_markHeadS.y8 x0 x1 x5 t0 t1 t2)).getD (x5).toNat .bad).cells.getD 6 .bad)).toInt), (.nums 5 .u8 (((((laws_markHeadS.y8 x0 x1 x5 t0 t1 t2)).getD (x5).toNat .bad).cells.getD 7 .bad)).isNil (((((laws_markHeadS.y8 x0 x1 x5 t0 t1 t2)).getD (x5).toNat .bad).cells.getD 7 .bad)).toNums), (.nums 5 .u8 t3.2.1 t3.2.2), (.sl 22 (((((laws_markHeadS.y8 x0 x1 x5 t0 t1 t2)).getD (x5).toNat .bad).cells.getD 9 .bad)).isNil (((((laws_markHeadS.y8 x0 x1 x5 t0 t1 t2)).getD (x5).toNat .bad).cells.getD 9 .bad)).toList)]))
def laws_markHeadS.y10 (x0 : List T) (x1 x5 : Int) (t0 : (Int × Bool × List Int)) (t1 : (Int × Bool × List Int)) (t2 : (Int × Bool × List Int)) (t3 : (Int × Bool × List Int)) (t4 : (Int × Bool × List T)) : List T := (((laws_markHeadS.y9 x0 x1 x5 t0 t1 t2 t3)).set (x5).toNat (.agg [(.int .i64 (((((laws_markHeadS.y9 x0 x1 x5 t0 t1 t2 t3)).getD (x5).toNat .bad).cells.getD 0 .bad)).toInt), (.int .i64 (((((laws_markHeadS.y9 x0 x1 x5 t0 t1 t2 t3)).getD (x5).toNat .bad).cells.getD 1 .bad)).toInt), (.int .i64 (((((laws_markHeadS.y9 x0 x1 x5 t0 t1 t2 t3)).getD (x5).toNat .bad).cells.getD 2 .bad)).toInt), (.nums 5 .u8 (((((laws_markHeadS.y9 x0 x1 x5 t0 t1 t2 t3)).getD (x5).toNat .bad).cells.getD 3 .bad)).isNil (((((laws_markHeadS.y9 x0 x1 x5 t0 t1 t2 t3)).getD (x5).toNat .bad).cells.getD 3 .bad)).toNums), (.nums 5 .u8 (((((laws_markHeadS.y9 x0 x1 x5 t0 t1 t2 t3)).getD (x5).toNat .bad).cells.getD 4 .bad)).isNil (((((laws_markHeadS.y9 x0 x1 x5 t0 t1 t2 t3)).getD (x5).toNat .bad).cells.getD 4 .bad)).toNums), (.int .i64 (((((laws_markHeadS.y9 x0 x1 x5 t0 t1 t2 t3)).getD (x5).toNat .bad).cells.getD 5 .bad)).toInt), (.int .i64 (((((laws_markHeadS.y9 x0 x1 x5 t0 t1 t2 t3)).getD (x5).toNat .bad).cells.getD 6 .bad)).toInt), (.nums 5 .u8 (((((laws_markHeadS.y9 x0 x1 x5 t0 t1 t2 t3)).getD (x5).toNat .bad).cells.getD 7 .bad)).isNil (((((laws_markHeadS.y9 x0 x1 x5 t0 t1 t2 t3)).getD (x5).toNat .bad).cells.getD 7 .bad)).toNums), (.nums 5 .u8 (((((laws_markHeadS.y9 x0 x1 x5 t0 t1 t2 t3)).getD (x5).toNat .bad).cells.getD 8 .bad)).isNil (((((laws_markHeadS.y9 x0 x1 x5 t0 t1 t2 t3)).getD (x5).toNat .bad).cells.getD 8 .bad)).toNums), (.sl 22 t4.2.1 t4.2.2)]))
def laws_markHeadS.l0b {R : Type} (ret : Int × Bool × List T → Option R) (j0 : Bool → (List T) → Int → Int → Option R) (k : Nat) (x0z : Bool) (x0 : List T) (x1 x5 : Int) : Option R :=
  cond (decide (x5 < ((x0).length : Int))) (cond (decide ((0 : Int) ≤ x5)) (cond (decide (x5 < ((x0).length : Int))) (cond (decide ((0 : Int) ≤ x5)) (cond (decide (x5 < (((laws_markHeadS.y1 x0 x1 x5)).length : Int))) (cond (decide ((0 : Int) ≤ x5)) (cond (decide (x5 < (((laws_markHeadS.y2 x0 x1 x5)).length : Int))) (cond (decide ((0 : Int) ≤ x5)) (cond (decide (x5 < (((laws_markHeadS.y3 x0 x1 x5)).length : Int))) ((laws_markByteS.f k ((((((laws_markHeadS.y3 x0 x1 x5)).getD (x5).toNat .bad).cells.getD 3 .bad)).isNil) ((((((laws_markHeadS.y3 x0 x1 x5)).getD (x5).toNat .bad).cells.getD 3 .bad)).toNums) (RowKit.wrap64 ((RowKit.wrap64 ((RowKit.wrap64 (x1 + 1)) + 1)) + 1))).bind fun t0 => cond (decide ((0 : Int) ≤ x5)) (cond (decide (x5 < (((laws_markHeadS.y4 x0 x1 x5 t0)).length : Int))) ((laws_markByteS.f k ((((((laws_markHeadS.y4 x0 x1 x5 t0)).getD (x5).toNat .bad).cells.getD 4 .bad)).isNil) ((((((laws_markHeadS.y4 x0 x1 x5 t0)).getD (x5).toNat .bad).cells.getD 4 .bad)).toNums) t0.1).bind fun t1 => cond (decide ((0 : Int) ≤ x5)) (cond (decide (x5 < (((laws_markHeadS.y5 x0 x1 x5 t0 t1)).length : Int))) (cond (decide ((0 : Int) ≤ x5)) (cond (decide (x5 < (((laws_markHeadS.y6 x0 x1 x5 t0 t1)).length : Int))) (cond (decide ((0 : Int) ≤ x5)) (cond (decide (x5 < (((laws_markHeadS.y7 x0 x1 x5 t0 t1)).length : Int))) ((laws_markByteS.f k ((((((laws_markHeadS.y7 x0 x1 x5 t0 t1)).getD (x5).toNat .bad).cells.getD 7 .bad)).isNil) ((((((laws_markHeadS.y7 x0 x1 x5 t0 t1)).getD (x5).toNat .bad).cells.getD 7 .bad)).toNums) (RowKit.wrap64 ((RowKit.wrap64 (t1.1 + 1)) + 1))).bind fun t2 => cond (decide ((0 : Int) ≤ x5)) (cond (decide (x5 < (((laws_markHeadS.y8 x0 x1 x5 t0 t1 t2)).length : Int))) ((laws_markByteS.f k ((((((laws_markHeadS.y8 x0 x1 x5 t0 t1 t2)).getD (x5).toNat .bad).cells.getD 8 .bad)).isNil) ((((((laws_markHeadS.y8 x0 x1 x5 t0 t1 t2)).getD (x5).toNat .bad).cells.getD 8 .bad)).toNums) t2.1).bind fun t3 => cond (decide ((0 : Int) ≤ x5)) (cond (decide (x5 < (((laws_markHeadS.y9 x0 x1 x5 t0 t1 t2 t3)).length : Int))) ((laws_markByteSS.f k ((((((laws_markHeadS.y9 x0 x1 x5 t0 t1 t2 t3)).getD (x5).toNat .bad).cells.getD 9 .bad)).isNil) ((((((laws_markHeadS.y9 x0 x1 x5 t0 t1 t2 t3)).getD (x5).toNat .bad).cells.getD 9 .bad)).toList) t3.1).bind fun t4 => j0 x0z (laws_markHeadS.y10 x0 x1 x5 t0 t1 t2 t3 t4) t4.1 (RowKit.wrap64 (x5 + 1))) (none)) (none)) (none)) (none)) (none)) (none)) (none)) (none)) (none)) (none)) (none)) (none)) (none)) (none)) (none)) (none)) (none)) (none)) (none)) (none)) (ret (x1, x0z, x0))
def laws_markHeadS.l0 : Nat → Bool → (List T) → Int → Int → Option (Int × Bool × List T)
  | 0, _, _, _, _ => none
  | k + 1, x0z, x0, x1, x5 => laws_markHeadS.l0b some (laws_markHeadS.l0 k) k x0z x0 x1 x5
def laws_markHeadS.f : Nat → Bool → (List T) → Int → Option (Int × Bool × List T)
  | 0, _, _, _ => none
  | k + 1, a0z, a0, a1 => laws_markHeadS.b some (laws_markHeadS.l0 k) k a0z a0 a1
def laws_markHeadS.enc (r : Int × Bool × List T) : Res := ⟨[.vals false [((.int .i64 r.1), true)]], [[((.sl 79 r.2.1 r.2.2), true)]]⟩
def laws_markHeadS.ans (k : Nat) : List Arg → Ans
  | [.own (.sl 79 a0z a0), .v (.int .i64 a1)] => ⟨laws_markHeadS.f k a0z a0 a1, laws_markHeadS.enc⟩
  | _ => Ans.no
def laws_markHeadS.Cs (k : Nat) : CallSem := tab [(72, laws_markByteS.ans k), (60, laws_markByteSS.ans k)]
def laws_markHeadS.cuts : List (Nat × Keep) := [(26, ⟨[(0, none), (1, some []), (5, some [])], []⟩)]
noncomputable def laws_markHeadS.K0 : List Fr := framesAt [true, false, true, false] (bodyOf Try.f137 laws_markHeadS.cuts) []
def laws_markHeadS.N0 (x0z : Bool) (x0 : List T) (x1 x5 : Int) : St := stOf 88 88 2 [(0, .val ⟨(.sl 79 x0z x0), [.h 0], true, some (.h 0)⟩), (1, .val (V.s (.int .i64 x1))), (5, .val (V.s (.int .i64 x5)))] []
theorem laws_markHeadS.s (k : Nat) (a0z : Bool) (a0 : List T) (a1 : Int) : answerM Try.prog laws_markHeadS.Cs 100000 laws_markHeadS.cuts Try.f137 (k + 1) [.own (.sl 79 a0z a0), .v (.int .i64 a1)] = laws_markHeadS.b (fun r => some (laws_markHeadS.enc r)) (fun x0z x0 x1 x5 => rounds Try.prog laws_markHeadS.Cs (finishM Try.prog Try.f137 (.sl 79 a0z a0)) 100000 k laws_markHeadS.K0 (laws_markHeadS.N0 x0z x0 x1 x5)) k a0z a0 a1 := by kernel_rfl
theorem laws_markHeadS.s0 (k : Nat) (G : List Fr → St → Option Res) (a0z : Bool) (a0 : List T) (a1 : Int) (yx0z : Bool) (yx0 : List T) (yx1 yx5 : Int) : resume Try.prog (laws_markHeadS.Cs k) G (finishM Try.prog Try.f137 (.sl 79 a0z a0)) 100000 laws_markHeadS.K0 (laws_markHeadS.N0 yx0z yx0 yx1 yx5) = laws_markHeadS.l0b (fun r => some (laws_markHeadS.enc r)) (fun x0z x0 x1 x5 => G laws_markHeadS.K0 (laws_markHeadS.N0 x0z x0 x1 x5)) k yx0z yx0 yx1 yx5 := by kernel_rfl
theorem laws_markHeadS.b_nat {R R' : Type} (e : R → R') (ret : Int × Bool × List T → Option R) (j0 : Bool → (List T) → Int → Int → Option R) (k : Nat) (a0z : Bool) (a0 : List T) (a1 : Int) : laws_markHeadS.b (fun r => (ret r).map e) (fun x0z x0 x1 x5 => (j0 x0z x0 x1 x5).map e) k a0z a0 a1 = (laws_markHeadS.b ret j0 k a0z a0 a1).map e := by
  unfold laws_markHeadS.b
  repeat' first | with_reducible refine nat_cond ?_ ?_ | with_reducible refine nat_bind fun _ => ?_ | rfl
theorem laws_markHeadS.l0b_nat {R R' : Type} (e : R → R') (ret : Int × Bool × List T → Option R) (j0 : Bool → (List T) → Int → Int → Option R) (k : Nat) (x0z : Bool) (x0 : List T) (x1 x5 : Int) : laws_markHeadS.l0b (fun r => (ret r).map e) (fun x0z x0 x1 x5 => (j0 x0z x0 x1 x5).map e) k x0z x0 x1 x5 = (laws_markHeadS.l0b ret j0 k x0z x0 x1 x5).map e := by
  unfold laws_markHeadS.l0b
  repeat' first | with_reducible refine nat_cond ?_ ?_ | with_reducible refine nat_bind fun _ => ?_ | rfl
theorem laws_markHeadS.rounds_eq (a0z : Bool) (a0 : List T) (a1 : Int) : ∀ k, (∀ (x0z : Bool) (x0 : List T) (x1 x5 : Int), rounds Try.prog laws_markHeadS.Cs (finishM Try.prog Try.f137 (.sl 79 a0z a0)) 100000 k laws_markHeadS.K0 (laws_markHeadS.N0 x0z x0 x1 x5) = (laws_markHeadS.l0 k x0z x0 x1 x5).map laws_markHeadS.enc)
  | 0 => fun _ _ _ _ => rfl
  | k + 1 => by
    have ih := laws_markHeadS.rounds_eq a0z a0 a1 k
    refine fun _ _ _ _ => ?_
    · refine (laws_markHeadS.s0 k _ a0z a0 a1 _ _ _ _).trans (Eq.trans ?_ (laws_markHeadS.l0b_nat laws_markHeadS.enc some (laws_markHeadS.l0 k) k _ _ _ _))
      simp only [ih, Option.map_some]
theorem laws_markHeadS.eq (k : Nat) (a0z : Bool) (a0 : List T) (a1 : Int) : answerM Try.prog laws_markHeadS.Cs 100000 laws_markHeadS.cuts Try.f137 (k + 1) [.own (.sl 79 a0z a0), .v (.int .i64 a1)] = (laws_markHeadS.f (k + 1) a0z a0 a1).map laws_markHeadS.enc := by
  have ih := laws_markHeadS.rounds_eq a0z a0 a1 k
  refine (laws_markHeadS.s k a0z a0 a1).trans (Eq.trans ?_ (laws_markHeadS.b_nat laws_markHeadS.enc some (laws_markHeadS.l0 k) k a0z a0 a1))
  simp only [ih, Option.map_some]
theorem laws_markHeadS.sound (k : Nat) : SoundF Try.prog 137 (fun a => (laws_markHeadS.ans k a).val) := by
  refine sound_mark (fun args hne => ?_) (fun t n l m h => ?_)
  · unfold laws_markHeadS.ans
    split
    · exact (hne _ _ rfl).elim
    · rfl
  unfold laws_markHeadS.ans at h
  dsimp only at h
  split at h
  · rename_i heq
    cases heq
    cases k with
    | zero => cases h
    | succ k =>
      unfold Ans.val at h
      rw [← laws_markHeadS.eq] at h
      exact answerM_sound (Cs := laws_markHeadS.Cs) mixed Try.func137 100000 laws_markHeadS.cuts (k + 1) (fun j _ => tab_sound (tab_cons (laws_markByteS.sound j) (tab_cons (laws_markByteSS.sound j) (tab_nil)))) _ _ _ _ h
  · exact (Ans.no_val h).elim

def laws_markForest.b {R : Type} (ret : Int × Int × Int × Int × Int × Int × Bool × List T → Option R) (k : Nat) (a0_0 a0_1 : Int) (a0_2 a0_3 a0_4 : Int) (a0_5z : Bool) (a0_5 : List T) (a1 : Int) : Option R :=
  (laws_markHeadS.f k a0_5z a0_5 a1).bind fun t0 => ret (t0.1, a0_0, a0_1, a0_2, a0_3, a0_4, t0.2.1, t0.2.2)
def laws_markForest.f : Nat → Int → Int → Int → Int → Int → Bool → (List T) → Int → Option (Int × Int × Int × Int × Int × Int × Bool × List T)
  | 0, _, _, _, _, _, _, _, _ => none
  | k + 1, a0_0, a0_1, a0_2, a0_3, a0_4, a0_5z, a0_5, a1 => laws_markForest.b some k a0_0 a0_1 a0_2 a0_3 a0_4 a0_5z a0_5 a1
def laws_markForest.enc (r : Int × Int × Int × Int × Int × Int × Bool × List T) : Res := ⟨[.vals false [((.int .i64 r.1), true)]], [[((.int .i64 r.2.1), true), ((.int .i64 r.2.2.1), true), ((.int .i64 r.2.2.2.1), true), ((.int .i64 r.2.2.2.2.1), true), ((.int .i64 r.2.2.2.2.2.1), true), ((.sl 79 r.2.2.2.2.2.2.1 r.2.2.2.2.2.2.2), true)]]⟩
def laws_markForest.ans (k : Nat) : List Arg → Ans
  | [.own (.agg [(.int .i64 a0_0), (.int .i64 a0_1), (.int .i64 a0_2), (.int .i64 a0_3), (.int .i64 a0_4), (.sl 79 a0_5z a0_5)]), .v (.int .i64 a1)] => ⟨laws_markForest.f k a0_0 a0_1 a0_2 a0_3 a0_4 a0_5z a0_5 a1, laws_markForest.enc⟩
  | _ => Ans.no
def laws_markForest.Cs (k : Nat) : CallSem := tab [(137, laws_markHeadS.ans k)]
def laws_markForest.cuts : List (Nat × Keep) := []
theorem laws_markForest.s (k : Nat) (a0_0 a0_1 : Int) (a0_2 a0_3 a0_4 : Int) (a0_5z : Bool) (a0_5 : List T) (a1 : Int) : answerM Try.prog laws_markForest.Cs 100000 laws_markForest.cuts Try.f59 (k + 1) [.own (.agg [(.int .i64 a0_0), (.int .i64 a0_1), (.int .i64 a0_2), (.int .i64 a0_3), (.int .i64 a0_4), (.sl 79 a0_5z a0_5)]), .v (.int .i64 a1)] = laws_markForest.b (fun r => some (laws_markForest.enc r)) k a0_0 a0_1 a0_2 a0_3 a0_4 a0_5z a0_5 a1 := by kernel_rfl
theorem laws_markForest.b_nat {R R' : Type} (e : R → R') (ret : Int × Int × Int × Int × Int × Int × Bool × List T → Option R) (k : Nat) (a0_0 a0_1 : Int) (a0_2 a0_3 a0_4 : Int) (a0_5z : Bool) (a0_5 : List T) (a1 : Int) : laws_markForest.b (fun r => (ret r).map e) k a0_0 a0_1 a0_2 a0_3 a0_4 a0_5z a0_5 a1 = (laws_markForest.b ret k a0_0 a0_1 a0_2 a0_3 a0_4 a0_5z a0_5 a1).map e := by
  unfold laws_markForest.b
  repeat' first | with_reducible refine nat_cond ?_ ?_ | with_reducible refine nat_bind fun _ => ?_ | rfl
theorem laws_markForest.eq (k : Nat) (a0_0 a0_1 : Int) (a0_2 a0_3 a0_4 : Int) (a0_5z : Bool) (a0_5 : List T) (a1 : Int) : answerM Try.prog laws_markForest.Cs 100000 laws_markForest.cuts Try.f59 (k + 1) [.own (.agg [(.int .i64 a0_0), (.int .i64 a0_1), (.int .i64 a0_2), (.int .i64 a0_3), (.int .i64 a0_4), (.sl 79 a0_5z a0_5)]), .v (.int .i64 a1)] = (laws_markForest.f (k + 1) a0_0 a0_1 a0_2 a0_3 a0_4 a0_5z a0_5 a1).map laws_markForest.enc := by
  refine (laws_markForest.s k a0_0 a0_1 a0_2 a0_3 a0_4 a0_5z a0_5 a1).trans (Eq.trans ?_ (laws_markForest.b_nat laws_markForest.enc some k a0_0 a0_1 a0_2 a0_3 a0_4 a0_5z a0_5 a1))
  simp only [Option.map_some]
theorem laws_markForest.sound (k : Nat) : SoundF Try.prog 59 (fun a => (laws_markForest.ans k a).val) := by
  refine sound_mark (fun args hne => ?_) (fun t n l m h => ?_)
  · unfold laws_markForest.ans
    split
    · exact (hne _ _ rfl).elim
    · rfl
  unfold laws_markForest.ans at h
  dsimp only at h
  split at h
  · rename_i heq
    cases heq
    cases k with
    | zero => cases h
    | succ k =>
      unfold Ans.val at h
      rw [← laws_markForest.eq] at h
      exact answerM_sound (Cs := laws_markForest.Cs) mixed Try.func59 100000 laws_markForest.cuts (k + 1) (fun j _ => tab_sound (tab_cons (laws_markHeadS.sound j) (tab_nil))) _ _ _ _ h
  · exact (Ans.no_val h).elim

def laws_heldByteS.b {R : Type} (ret : Int → Option R) (j0 : Bool → (List Int) → Int → Int → Option R) (k : Nat) (a0z : Bool) (a0 : List Int) (a1 : Int) : Option R :=
  j0 a0z a0 a1 0
def laws_heldByteS.l0b {R : Type} (ret : Int → Option R) (j0 : Bool → (List Int) → Int → Int → Option R) (k : Nat) (x0z : Bool) (x0 : List Int) (x1 x5 : Int) : Option R :=
  cond (decide (x5 < ((x0).length : Int))) (cond (decide ((0 : Int) ≤ x5)) (cond (decide (x5 < ((x0).length : Int))) (cond (!(decide ((rdI x0 x5) = ((x1) % 256)))) (ret (-1)) (j0 x0z x0 (RowKit.wrap64 (x1 + 1)) (RowKit.wrap64 (x5 + 1)))) (none)) (none)) (ret x1)
def laws_heldByteS.l0 : Nat → Bool → (List Int) → Int → Int → Option Int
  | 0, _, _, _, _ => none
  | k + 1, x0z, x0, x1, x5 => laws_heldByteS.l0b some (laws_heldByteS.l0 k) k x0z x0 x1 x5
def laws_heldByteS.f : Nat → Bool → (List Int) → Int → Option Int
  | 0, _, _, _ => none
  | k + 1, a0z, a0, a1 => laws_heldByteS.b some (laws_heldByteS.l0 k) k a0z a0 a1
def laws_heldByteS.enc (r : Int) : Res := ⟨[.vals false [((.int .i64 r), true)]], []⟩
def laws_heldByteS.ans (k : Nat) : List Arg → Ans
  | [.v (.nums 5 .u8 a0z a0), .v (.int .i64 a1)] => ⟨laws_heldByteS.f k a0z a0 a1, laws_heldByteS.enc⟩
  | _ => Ans.no
def laws_heldByteS.Cs (k : Nat) : CallSem := tab []
def laws_heldByteS.cuts : List (Nat × Keep) := [(26, ⟨[(0, some []), (1, some []), (5, some [])], []⟩)]
noncomputable def laws_heldByteS.K0 : List Fr := framesAt [true, false, true, false] (bodyOf Try.f73 laws_heldByteS.cuts) []
def laws_heldByteS.N0 (x0z : Bool) (x0 : List Int) (x1 x5 : Int) : St := stOf 22 22 2 [(0, .val ⟨(.nums 5 .u8 x0z x0), [], false, none⟩), (1, .val (V.s (.int .i64 x1))), (5, .val (V.s (.int .i64 x5)))] []
theorem laws_heldByteS.s0 (k : Nat) (G : List Fr → St → Option Res) (a0z : Bool) (a0 : List Int) (a1 : Int) (yx0z : Bool) (yx0 : List Int) (yx1 yx5 : Int) : resume Try.prog (laws_heldByteS.Cs k) G (finish Try.prog [] Try.f73 [.v (.nums 5 .u8 a0z a0), .v (.int .i64 a1)]) 100000 laws_heldByteS.K0 (laws_heldByteS.N0 yx0z yx0 yx1 yx5) = laws_heldByteS.l0b (fun r => some (laws_heldByteS.enc r)) (fun x0z x0 x1 x5 => G laws_heldByteS.K0 (laws_heldByteS.N0 x0z x0 x1 x5)) k yx0z yx0 yx1 yx5 := by kernel_rfl
theorem laws_heldByteS.bn {R R' : Type} (e : R → R') (ret : Int → Option R) (j0 : Bool → (List Int) → Int → Int → Option R) (k : Nat) (a0z : Bool) (a0 : List Int) (a1 : Int) : laws_heldByteS.b (fun r => (ret r).map e) (fun x0z x0 x1 x5 => (j0 x0z x0 x1 x5).map e) k a0z a0 a1 = (laws_heldByteS.b ret j0 k a0z a0 a1).map e := by
  unfold laws_heldByteS.b
  repeat' first | with_reducible refine nat_cond ?_ ?_ | with_reducible refine nat_bind fun _ => ?_ | rfl
theorem laws_heldByteS.l0n {R R' : Type} (e : R → R') (ret : Int → Option R) (j0 : Bool → (List Int) → Int → Int → Option R) (k : Nat) (x0z : Bool) (x0 : List Int) (x1 x5 : Int) : laws_heldByteS.l0b (fun r => (ret r).map e) (fun x0z x0 x1 x5 => (j0 x0z x0 x1 x5).map e) k x0z x0 x1 x5 = (laws_heldByteS.l0b ret j0 k x0z x0 x1 x5).map e := by
  unfold laws_heldByteS.l0b
  repeat' first | with_reducible refine nat_cond ?_ ?_ | with_reducible refine nat_bind fun _ => ?_ | rfl
theorem laws_heldByteS.rq (a0z : Bool) (a0 : List Int) (a1 : Int) : ∀ k, (∀ (x0z : Bool) (x0 : List Int) (x1 x5 : Int), rounds Try.prog laws_heldByteS.Cs (finish Try.prog [] Try.f73 [.v (.nums 5 .u8 a0z a0), .v (.int .i64 a1)]) 100000 k laws_heldByteS.K0 (laws_heldByteS.N0 x0z x0 x1 x5) = (laws_heldByteS.l0 k x0z x0 x1 x5).map laws_heldByteS.enc)
  | 0 => fun _ _ _ _ => rfl
  | k + 1 => by
    have ih := laws_heldByteS.rq a0z a0 a1 k
    refine fun _ _ _ _ => ?_
    · refine (laws_heldByteS.s0 k _ a0z a0 a1 _ _ _ _).trans (Eq.trans ?_ (laws_heldByteS.l0n laws_heldByteS.enc some (laws_heldByteS.l0 k) k _ _ _ _))
      simp only [ih, Option.map_some]
theorem laws_heldByteS.eq (k : Nat) (a0z : Bool) (a0 : List Int) (a1 : Int) : answer Try.prog laws_heldByteS.Cs 100000 laws_heldByteS.cuts [] Try.f73 (k + 1) [.v (.nums 5 .u8 a0z a0), .v (.int .i64 a1)] = (laws_heldByteS.f (k + 1) a0z a0 a1).map laws_heldByteS.enc := by
  have ih := laws_heldByteS.rq a0z a0 a1 k
  refine Eq.trans (b := laws_heldByteS.b (fun r => some (laws_heldByteS.enc r)) (fun x0z x0 x1 x5 => rounds Try.prog laws_heldByteS.Cs (finish Try.prog [] Try.f73 [.v (.nums 5 .u8 a0z a0), .v (.int .i64 a1)]) 100000 k laws_heldByteS.K0 (laws_heldByteS.N0 x0z x0 x1 x5)) k a0z a0 a1) (by kernel_rfl) (Eq.trans ?_ (laws_heldByteS.bn laws_heldByteS.enc some (laws_heldByteS.l0 k) k a0z a0 a1))
  simp only [ih, Option.map_some]
theorem laws_heldByteS.sound (k : Nat) : SoundF Try.prog 73 (fun a => (laws_heldByteS.ans k a).val) := by
  refine sound_plain (fun args res h => ?_) (fun t n => rfl)
  unfold laws_heldByteS.ans at h
  dsimp only at h
  split at h
  · cases k with
    | zero => cases h
    | succ k =>
      unfold Ans.val at h
      rw [← laws_heldByteS.eq] at h
      exact answer_sound mixed Try.func73 _ _ _ (k + 1) (fun j _ => tab_sound (tab_nil)) _ _ h
  · exact (Ans.no_val h).elim

def laws_heldByteSS.b {R : Type} (ret : Int → Option R) (j0 : Bool → (List T) → Int → Int → Option R) (k : Nat) (a0z : Bool) (a0 : List T) (a1 : Int) : Option R :=
  j0 a0z a0 a1 0
def laws_heldByteSS.l0b {R : Type} (ret : Int → Option R) (j0 : Bool → (List T) → Int → Int → Option R) (k : Nat) (x0z : Bool) (x0 : List T) (x1 x5 : Int) : Option R :=
  cond (decide (x5 < ((x0).length : Int))) (cond (decide ((0 : Int) ≤ x5)) (cond (decide (x5 < ((x0).length : Int))) ((laws_heldByteS.f k (((((x0).getD (x5).toNat .bad).cells.getD 0 .bad)).isNil) (((((x0).getD (x5).toNat .bad).cells.getD 0 .bad)).toNums) x1).bind fun t0 => cond (decide (t0 < 0)) (ret (-1)) (j0 x0z x0 t0 (RowKit.wrap64 (x5 + 1)))) (none)) (none)) (ret x1)
def laws_heldByteSS.l0 : Nat → Bool → (List T) → Int → Int → Option Int
  | 0, _, _, _, _ => none
  | k + 1, x0z, x0, x1, x5 => laws_heldByteSS.l0b some (laws_heldByteSS.l0 k) k x0z x0 x1 x5
def laws_heldByteSS.f : Nat → Bool → (List T) → Int → Option Int
  | 0, _, _, _ => none
  | k + 1, a0z, a0, a1 => laws_heldByteSS.b some (laws_heldByteSS.l0 k) k a0z a0 a1
def laws_heldByteSS.enc (r : Int) : Res := ⟨[.vals false [((.int .i64 r), true)]], []⟩
def laws_heldByteSS.ans (k : Nat) : List Arg → Ans
  | [.v (.sl 22 a0z a0), .v (.int .i64 a1)] => ⟨laws_heldByteSS.f k a0z a0 a1, laws_heldByteSS.enc⟩
  | _ => Ans.no
def laws_heldByteSS.Cs (k : Nat) : CallSem := tab [(73, laws_heldByteS.ans k)]
def laws_heldByteSS.cuts : List (Nat × Keep) := [(26, ⟨[(0, some []), (1, some []), (5, some [])], []⟩)]
noncomputable def laws_heldByteSS.K0 : List Fr := framesAt [true, false, true, false] (bodyOf Try.f61 laws_heldByteSS.cuts) []
def laws_heldByteSS.N0 (x0z : Bool) (x0 : List T) (x1 x5 : Int) : St := stOf 21 21 2 [(0, .val ⟨(.sl 22 x0z x0), [], false, none⟩), (1, .val (V.s (.int .i64 x1))), (5, .val (V.s (.int .i64 x5)))] []
theorem laws_heldByteSS.s0 (k : Nat) (G : List Fr → St → Option Res) (a0z : Bool) (a0 : List T) (a1 : Int) (yx0z : Bool) (yx0 : List T) (yx1 yx5 : Int) : resume Try.prog (laws_heldByteSS.Cs k) G (finish Try.prog [] Try.f61 [.v (.sl 22 a0z a0), .v (.int .i64 a1)]) 100000 laws_heldByteSS.K0 (laws_heldByteSS.N0 yx0z yx0 yx1 yx5) = laws_heldByteSS.l0b (fun r => some (laws_heldByteSS.enc r)) (fun x0z x0 x1 x5 => G laws_heldByteSS.K0 (laws_heldByteSS.N0 x0z x0 x1 x5)) k yx0z yx0 yx1 yx5 := by kernel_rfl
theorem laws_heldByteSS.bn {R R' : Type} (e : R → R') (ret : Int → Option R) (j0 : Bool → (List T) → Int → Int → Option R) (k : Nat) (a0z : Bool) (a0 : List T) (a1 : Int) : laws_heldByteSS.b (fun r => (ret r).map e) (fun x0z x0 x1 x5 => (j0 x0z x0 x1 x5).map e) k a0z a0 a1 = (laws_heldByteSS.b ret j0 k a0z a0 a1).map e := by
  unfold laws_heldByteSS.b
  repeat' first | with_reducible refine nat_cond ?_ ?_ | with_reducible refine nat_bind fun _ => ?_ | rfl
theorem laws_heldByteSS.l0n {R R' : Type} (e : R → R') (ret : Int → Option R) (j0 : Bool → (List T) → Int → Int → Option R) (k : Nat) (x0z : Bool) (x0 : List T) (x1 x5 : Int) : laws_heldByteSS.l0b (fun r => (ret r).map e) (fun x0z x0 x1 x5 => (j0 x0z x0 x1 x5).map e) k x0z x0 x1 x5 = (laws_heldByteSS.l0b ret j0 k x0z x0 x1 x5).map e := by
  unfold laws_heldByteSS.l0b
  repeat' first | with_reducible refine nat_cond ?_ ?_ | with_reducible refine nat_bind fun _ => ?_ | rfl
theorem laws_heldByteSS.rq (a0z : Bool) (a0 : List T) (a1 : Int) : ∀ k, (∀ (x0z : Bool) (x0 : List T) (x1 x5 : Int), rounds Try.prog laws_heldByteSS.Cs (finish Try.prog [] Try.f61 [.v (.sl 22 a0z a0), .v (.int .i64 a1)]) 100000 k laws_heldByteSS.K0 (laws_heldByteSS.N0 x0z x0 x1 x5) = (laws_heldByteSS.l0 k x0z x0 x1 x5).map laws_heldByteSS.enc)
  | 0 => fun _ _ _ _ => rfl
  | k + 1 => by
    have ih := laws_heldByteSS.rq a0z a0 a1 k
    refine fun _ _ _ _ => ?_
    · refine (laws_heldByteSS.s0 k _ a0z a0 a1 _ _ _ _).trans (Eq.trans ?_ (laws_heldByteSS.l0n laws_heldByteSS.enc some (laws_heldByteSS.l0 k) k _ _ _ _))
      simp only [ih, Option.map_some]
theorem laws_heldByteSS.eq (k : Nat) (a0z : Bool) (a0 : List T) (a1 : Int) : answer Try.prog laws_heldByteSS.Cs 100000 laws_heldByteSS.cuts [] Try.f61 (k + 1) [.v (.sl 22 a0z a0), .v (.int .i64 a1)] = (laws_heldByteSS.f (k + 1) a0z a0 a1).map laws_heldByteSS.enc := by
  have ih := laws_heldByteSS.rq a0z a0 a1 k
  refine Eq.trans (b := laws_heldByteSS.b (fun r => some (laws_heldByteSS.enc r)) (fun x0z x0 x1 x5 => rounds Try.prog laws_heldByteSS.Cs (finish Try.prog [] Try.f61 [.v (.sl 22 a0z a0), .v (.int .i64 a1)]) 100000 k laws_heldByteSS.K0 (laws_heldByteSS.N0 x0z x0 x1 x5)) k a0z a0 a1) (by kernel_rfl) (Eq.trans ?_ (laws_heldByteSS.bn laws_heldByteSS.enc some (laws_heldByteSS.l0 k) k a0z a0 a1))
  simp only [ih, Option.map_some]
theorem laws_heldByteSS.sound (k : Nat) : SoundF Try.prog 61 (fun a => (laws_heldByteSS.ans k a).val) := by
  refine sound_plain (fun args res h => ?_) (fun t n => rfl)
  unfold laws_heldByteSS.ans at h
  dsimp only at h
  split at h
  · cases k with
    | zero => cases h
    | succ k =>
      unfold Ans.val at h
      rw [← laws_heldByteSS.eq] at h
      exact answer_sound mixed Try.func61 _ _ _ (k + 1) (fun j _ => tab_sound (tab_cons (laws_heldByteS.sound j) (tab_nil))) _ _ h
  · exact (Ans.no_val h).elim

def laws_FnExactTips.b {R : Type} (ret : Bool → Option R) (k : Nat) (a0_0 a0_1 : Int) (a0_2 a0_3 a0_4 : Int) (a0_5z : Bool) (a0_5 : List T) : Option R :=
  (laws_szForest.f k a0_0 a0_1 a0_2 a0_3 a0_4 a0_5z a0_5 1048576).bind fun t0 => cond (decide (t0 < 0)) (ret true) ((laws_toForest.f k a0_0 a0_1 a0_2 a0_3 a0_4 a0_5z a0_5).bind fun t1 => (spec_Tips.f k t1.1 t1.2.1 t1.2.2.1 t1.2.2.2.1 t1.2.2.2.2.1 t1.2.2.2.2.2.1 t1.2.2.2.2.2.2).bind fun t2 => (laws_toForest.f k a0_0 a0_1 a0_2 a0_3 a0_4 a0_5z a0_5).bind fun t3 => (impl_Tips.f k t3.1 t3.2.1 t3.2.2.1 t3.2.2.2.1 t3.2.2.2.2.1 t3.2.2.2.2.2.1 t3.2.2.2.2.2.2).bind fun t4 => (laws_eqByteSS.f k t4.1 t4.2 t2.1 t2.2).bind fun t5 => cond (!t5) (ret false) ((laws_toForest.f k a0_0 a0_1 a0_2 a0_3 a0_4 a0_5z a0_5).bind fun t6 => (laws_eqForest.f k t3.1 t3.2.1 t3.2.2.1 t3.2.2.2.1 t3.2.2.2.2.1 t3.2.2.2.2.2.1 t3.2.2.2.2.2.2 t6.1 t6.2.1 t6.2.2.1 t6.2.2.2.1 t6.2.2.2.2.1 t6.2.2.2.2.2.1 t6.2.2.2.2.2.2).bind fun t7 => cond (!t7) (ret false) ((laws_markForest.f k t3.1 t3.2.1 t3.2.2.1 t3.2.2.2.1 t3.2.2.2.2.1 t3.2.2.2.2.2.1 t3.2.2.2.2.2.2 1).bind fun t8 => cond (decide (t8.1 < 0)) (ret false) ((laws_eqByteSS.f k t4.1 t4.2 t2.1 t2.2).bind fun t9 => cond (!t9) (ret false) ((laws_markByteSS.f k t4.1 t4.2 1).bind fun t10 => (laws_heldByteSS.f k t10.2.1 t10.2.2 1).bind fun t11 => cond (decide (t11 < 0)) (ret false) (cond (!(decide (t11 = t10.1))) (ret false) ((laws_toForest.f k a0_0 a0_1 a0_2 a0_3 a0_4 a0_5z a0_5).bind fun t12 => (impl_Tips.f k t12.1 t12.2.1 t12.2.2.1 t12.2.2.2.1 t12.2.2.2.2.1 t12.2.2.2.2.2.1 t12.2.2.2.2.2.2).bind fun t13 => (laws_eqByteSS.f k t13.1 t13.2 t2.1 t2.2).bind fun t14 => cond (!t14) (ret false) ((laws_heldByteSS.f k t10.2.1 t10.2.2 1).bind fun t15 => cond (decide (t15 < 0)) (ret false) (cond (!(decide (t15 = t10.1))) (ret false) (ret true))))))))))
def laws_FnExactTips.f : Nat → Int → Int → Int → Int → Int → Bool → (List T) → Option Bool
  | 0, _, _, _, _, _, _, _ => none
  | k + 1, a0_0, a0_1, a0_2, a0_3, a0_4, a0_5z, a0_5 => laws_FnExactTips.b some k a0_0 a0_1 a0_2 a0_3 a0_4 a0_5z a0_5
def laws_FnExactTips.enc (r : Bool) : Res := ⟨[.vals false [((.bool r), true)]], []⟩
def laws_FnExactTips.ans (k : Nat) : List Arg → Ans
  | [.v (.agg [(.int .i64 a0_0), (.int .i64 a0_1), (.int .i64 a0_2), (.int .i64 a0_3), (.int .i64 a0_4), (.sl 200 a0_5z a0_5)])] => ⟨laws_FnExactTips.f k a0_0 a0_1 a0_2 a0_3 a0_4 a0_5z a0_5, laws_FnExactTips.enc⟩
  | _ => Ans.no
def laws_FnExactTips.Cs (k : Nat) : CallSem := tab [(53, laws_szForest.ans k), (55, laws_toForest.ans k), (54, spec_Tips.ans k), (56, impl_Tips.ans k), (57, laws_eqByteSS.ans k), (58, laws_eqForest.ans k), (59, laws_markForest.ans k), (60, laws_markByteSS.ans k), (61, laws_heldByteSS.ans k)]
theorem laws_FnExactTips.eq (k : Nat) (a0_0 a0_1 : Int) (a0_2 a0_3 a0_4 : Int) (a0_5z : Bool) (a0_5 : List T) : answer Try.prog laws_FnExactTips.Cs 100000 [] [] Try.f10 (k + 1) [.v (.agg [(.int .i64 a0_0), (.int .i64 a0_1), (.int .i64 a0_2), (.int .i64 a0_3), (.int .i64 a0_4), (.sl 200 a0_5z a0_5)])] = (laws_FnExactTips.f (k + 1) a0_0 a0_1 a0_2 a0_3 a0_4 a0_5z a0_5).map laws_FnExactTips.enc := by
  refine Eq.trans (b := laws_FnExactTips.b (fun r => some (laws_FnExactTips.enc r)) k a0_0 a0_1 a0_2 a0_3 a0_4 a0_5z a0_5) (by kernel_rfl) ?_
  show _ = (laws_FnExactTips.b some k a0_0 a0_1 a0_2 a0_3 a0_4 a0_5z a0_5).map laws_FnExactTips.enc
  unfold laws_FnExactTips.b
  repeat' first | with_reducible refine nat_cond ?_ ?_ | with_reducible refine nat_bind fun _ => ?_ | rfl
theorem laws_FnExactTips.sound (k : Nat) : SoundF Try.prog 10 (fun a => (laws_FnExactTips.ans k a).val) := by
  refine sound_plain (fun args res h => ?_) (fun t n => rfl)
  unfold laws_FnExactTips.ans at h
  dsimp only at h
  split at h
  · cases k with
    | zero => cases h
    | succ k =>
      unfold Ans.val at h
      rw [← laws_FnExactTips.eq] at h
      exact answer_sound mixed Try.func10 _ _ _ (k + 1) (fun j _ => tab_sound (tab_cons (laws_szForest.sound j) (tab_cons (laws_toForest.sound j) (tab_cons (spec_Tips.sound j) (tab_cons (impl_Tips.sound j) (tab_cons (laws_eqByteSS.sound j) (tab_cons (laws_eqForest.sound j) (tab_cons (laws_markForest.sound j) (tab_cons (laws_markByteSS.sound j) (tab_cons (laws_heldByteSS.sound j) (tab_nil))))))))))) _ _ h
  · exact (Ans.no_val h).elim
end Go.Proofs.YtbpcnodmgphinaaG
