/- What the functions compute, printed by a program of this repo; each is shown to be what the machine of values answers. No condition. -/
import Derived.Test.YtadnejogdohfkaaProg
import Derived.KernelRfl
import Derived.Test.YtadnejogdohfkaaGFnExactLightOkb
namespace Go.Proofs.YtadnejogdohfkaaG
open Go Go.Proofs.YtadnejogdohfkaaRv Go.Proofs
set_option linter.unusedVariables false
set_option linter.unusedSimpArgs false
/-! loop.example/g00790/impl.BitsList -/
def impl_BitsList.b {R : Type} (ret : Bool × List Int → Option R) (j0 : Bool → (List Int) → (List Int) → Int → Int → Option R) (k : Nat) (a0z : Bool) (a0 : List Int) : Option R :=
  j0 a0z a0 ([] : List Int) (RowKit.wrap64 ((8 : Int) * ((a0).length : Int))) 0
def impl_BitsList.l0b {R : Type} (ret : Bool × List Int → Option R) (j0 : Bool → (List Int) → (List Int) → Int → Int → Option R) (k : Nat) (x0z : Bool) (x0 : List Int) (x3 : List Int) (x8 : Int) (x9 : Int) : Option R :=
  cond (decide (x9 < x8)) ((impl_BitsHas.f k x0z x0 x9).bind fun t0 => cond t0 (cond (decide ((x3).length + 1 < 17592186044416)) (j0 x0z x0 (x3 ++ ([x9] : List Int)) x8 (RowKit.wrap64 (x9 + 1))) (none)) (j0 x0z x0 x3 x8 (RowKit.wrap64 (x9 + 1)))) (ret (false, x3))
def impl_BitsList.l0 : Nat → Bool → (List Int) → (List Int) → Int → Int → Option (Bool × List Int)
  | 0, _, _, _, _, _ => none
  | k + 1, x0z, x0, x3, x8, x9 => impl_BitsList.l0b some (impl_BitsList.l0 k) k x0z x0 x3 x8 x9
def impl_BitsList.f : Nat → Bool → (List Int) → Option (Bool × List Int)
  | 0, _, _ => none
  | k + 1, a0z, a0 => impl_BitsList.b some (impl_BitsList.l0 k) k a0z a0
def impl_BitsList.enc (r : Bool × List Int) : Res := ⟨[.vals false [((.nums 3 .i64 r.1 r.2), true)]], []⟩
def impl_BitsList.ans (k : Nat) : List Arg → Ans
  | [.v (.nums 5 .u8 a0z a0)] => ⟨impl_BitsList.f k a0z a0, impl_BitsList.enc⟩
  | _ => Ans.no
def impl_BitsList.Cs (k : Nat) : CallSem := tab [(190, impl_BitsHas.ans k)]
def impl_BitsList.cuts : List (Nat × Keep) := [(58, ⟨[(0, some []), (3, none), (8, some []), (9, some [])], []⟩)]
noncomputable def impl_BitsList.K0 : List Fr := framesAt [true, true, false, true, false] (bodyOf Try.f140 impl_BitsList.cuts) []
def impl_BitsList.N0 (x0z : Bool) (x0 : List Int) (x3 : List Int) (x8 : Int) (x9 : Int) : St := stOf 21 21 1 [(0, .val ⟨(.nums 5 .u8 x0z x0), [], false, none⟩), (3, .val ⟨(.nums 3 .i64 false x3), [.l 3 0], true, some (.l 3 0)⟩), (8, .val (V.s (.int .i64 x8))), (9, .val (V.s (.int .i64 x9)))] []
theorem impl_BitsList.s (k : Nat) (a0z : Bool) (a0 : List Int) : answer Try.prog impl_BitsList.Cs 100000 impl_BitsList.cuts [] Try.f140 (k + 1) [.v (.nums 5 .u8 a0z a0)] = impl_BitsList.b (fun r => some (impl_BitsList.enc r)) (fun x0z x0 x3 x8 x9 => rounds Try.prog impl_BitsList.Cs (finish Try.prog [] Try.f140 [.v (.nums 5 .u8 a0z a0)]) 100000 k impl_BitsList.K0 (impl_BitsList.N0 x0z x0 x3 x8 x9)) k a0z a0 := by kernel_rfl
theorem impl_BitsList.s0 (k : Nat) (G : List Fr → St → Option Res) (a0z : Bool) (a0 : List Int) (yx0z : Bool) (yx0 : List Int) (yx3 : List Int) (yx8 : Int) (yx9 : Int) : resume Try.prog (impl_BitsList.Cs k) G (finish Try.prog [] Try.f140 [.v (.nums 5 .u8 a0z a0)]) 100000 impl_BitsList.K0 (impl_BitsList.N0 yx0z yx0 yx3 yx8 yx9) = impl_BitsList.l0b (fun r => some (impl_BitsList.enc r)) (fun x0z x0 x3 x8 x9 => G impl_BitsList.K0 (impl_BitsList.N0 x0z x0 x3 x8 x9)) k yx0z yx0 yx3 yx8 yx9 := by kernel_rfl
theorem impl_BitsList.b_nat {R R' : Type} (e : R → R') (ret : Bool × List Int → Option R) (j0 : Bool → (List Int) → (List Int) → Int → Int → Option R) (k : Nat) (a0z : Bool) (a0 : List Int) : impl_BitsList.b (fun r => (ret r).map e) (fun x0z x0 x3 x8 x9 => (j0 x0z x0 x3 x8 x9).map e) k a0z a0 = (impl_BitsList.b ret j0 k a0z a0).map e := by
  unfold impl_BitsList.b
  repeat' first | with_reducible refine nat_cond ?_ ?_ | with_reducible refine nat_bind fun _ => ?_ | rfl
theorem impl_BitsList.l0b_nat {R R' : Type} (e : R → R') (ret : Bool × List Int → Option R) (j0 : Bool → (List Int) → (List Int) → Int → Int → Option R) (k : Nat) (x0z : Bool) (x0 : List Int) (x3 : List Int) (x8 : Int) (x9 : Int) : impl_BitsList.l0b (fun r => (ret r).map e) (fun x0z x0 x3 x8 x9 => (j0 x0z x0 x3 x8 x9).map e) k x0z x0 x3 x8 x9 = (impl_BitsList.l0b ret j0 k x0z x0 x3 x8 x9).map e := by
  unfold impl_BitsList.l0b
  repeat' first | with_reducible refine nat_cond ?_ ?_ | with_reducible refine nat_bind fun _ => ?_ | rfl
theorem impl_BitsList.rounds_eq (a0z : Bool) (a0 : List Int) : ∀ k, (∀ (x0z : Bool) (x0 : List Int) (x3 : List Int) (x8 : Int) (x9 : Int), rounds Try.prog impl_BitsList.Cs (finish Try.prog [] Try.f140 [.v (.nums 5 .u8 a0z a0)]) 100000 k impl_BitsList.K0 (impl_BitsList.N0 x0z x0 x3 x8 x9) = (impl_BitsList.l0 k x0z x0 x3 x8 x9).map impl_BitsList.enc)
  | 0 => fun _ _ _ _ _ => rfl
  | k + 1 => by
    have ih := impl_BitsList.rounds_eq a0z a0 k
    refine fun _ _ _ _ _ => ?_
    · refine (impl_BitsList.s0 k _ a0z a0 _ _ _ _ _).trans (Eq.trans ?_ (impl_BitsList.l0b_nat impl_BitsList.enc some (impl_BitsList.l0 k) k _ _ _ _ _))
      simp only [ih, Option.map_some]
theorem impl_BitsList.eq (k : Nat) (a0z : Bool) (a0 : List Int) : answer Try.prog impl_BitsList.Cs 100000 impl_BitsList.cuts [] Try.f140 (k + 1) [.v (.nums 5 .u8 a0z a0)] = (impl_BitsList.f (k + 1) a0z a0).map impl_BitsList.enc := by
  have ih := impl_BitsList.rounds_eq a0z a0 k
  refine (impl_BitsList.s k a0z a0).trans (Eq.trans ?_ (impl_BitsList.b_nat impl_BitsList.enc some (impl_BitsList.l0 k) k a0z a0))
  simp only [ih, Option.map_some]
theorem impl_BitsList.sound (k : Nat) : SoundF Try.prog 140 (fun a => (impl_BitsList.ans k a).val) := by
  refine sound_plain (fun args res h => ?_) (fun t n => rfl)
  unfold impl_BitsList.ans at h
  dsimp only at h
  split at h
  · cases k with
    | zero => cases h
    | succ k =>
      unfold Ans.val at h
      rw [← impl_BitsList.eq] at h
      exact answer_sound mixed Try.func140 _ _ _ (k + 1) (fun j _ => tab_sound (tab_cons (impl_BitsHas.sound j) (tab_nil))) _ _ h
  · exact (Ans.no_val h).elim

/-! loop.example/g00790/impl.BitsOk -/
def impl_BitsOk.b {R : Type} (ret : Bool → Option R) (j0 : Int → Bool → (List Int) → Int → Int → Option R) (k : Nat) (a0z : Bool) (a0 : List Int) (a1 : Int) : Option R :=
  (impl_within.f k a1 1 10).bind fun t0 => cond (!t0) (ret false) ((impl_BitsSize.f k a1).bind fun t1 => cond (!(decide (((a0).length : Int) = t1))) (ret false) ((impl_BitsList.f k a0z a0).bind fun t2 => j0 a1 t2.1 t2.2 ((t2.2).length : Int) 0))
def impl_BitsOk.l0b {R : Type} (ret : Bool → Option R) (j0 : Int → Bool → (List Int) → Int → Int → Option R) (k : Nat) (x1 : Int) (x18z : Bool) (x18 : List Int) (x19 : Int) (x20 : Int) : Option R :=
  cond (decide (x20 < x19)) (cond (decide ((0 : Int) ≤ x20)) (cond (decide (x20 < ((x18).length : Int))) (cond (decide ((rdI x18 x20) ≥ x1)) (ret false) (j0 x1 x18z x18 x19 (RowKit.wrap64 (x20 + 1)))) (none)) (none)) (ret true)
def impl_BitsOk.l0 : Nat → Int → Bool → (List Int) → Int → Int → Option Bool
  | 0, _, _, _, _, _ => none
  | k + 1, x1, x18z, x18, x19, x20 => impl_BitsOk.l0b some (impl_BitsOk.l0 k) k x1 x18z x18 x19 x20
def impl_BitsOk.f : Nat → Bool → (List Int) → Int → Option Bool
  | 0, _, _, _ => none
  | k + 1, a0z, a0, a1 => impl_BitsOk.b some (impl_BitsOk.l0 k) k a0z a0 a1
def impl_BitsOk.enc (r : Bool) : Res := ⟨[.vals false [((.bool r), true)]], []⟩
def impl_BitsOk.ans (k : Nat) : List Arg → Ans
  | [.v (.nums 5 .u8 a0z a0), .v (.int .i64 a1)] => ⟨impl_BitsOk.f k a0z a0 a1, impl_BitsOk.enc⟩
  | _ => Ans.no
def impl_BitsOk.Cs (k : Nat) : CallSem := tab [(126, impl_within.ans k), (189, impl_BitsSize.ans k), (140, impl_BitsList.ans k)]
def impl_BitsOk.cuts : List (Nat × Keep) := [(58, ⟨[(1, some []), (18, none), (19, some []), (20, some [])], []⟩)]
noncomputable def impl_BitsOk.K0 : List Fr := framesAt [true, true, false, true, false] (bodyOf Try.f139 impl_BitsOk.cuts) []
def impl_BitsOk.N0 (x1 : Int) (x18z : Bool) (x18 : List Int) (x19 : Int) (x20 : Int) : St := stOf 28 28 2 [(1, .val (V.s (.int .i64 x1))), (18, .val ⟨(.nums 3 .i64 x18z x18), [.l 18 0], true, some (.l 18 0)⟩), (19, .val (V.s (.int .i64 x19))), (20, .val (V.s (.int .i64 x20)))] []
theorem impl_BitsOk.s (k : Nat) (a0z : Bool) (a0 : List Int) (a1 : Int) : answer Try.prog impl_BitsOk.Cs 100000 impl_BitsOk.cuts [] Try.f139 (k + 1) [.v (.nums 5 .u8 a0z a0), .v (.int .i64 a1)] = impl_BitsOk.b (fun r => some (impl_BitsOk.enc r)) (fun x1 x18z x18 x19 x20 => rounds Try.prog impl_BitsOk.Cs (finish Try.prog [] Try.f139 [.v (.nums 5 .u8 a0z a0), .v (.int .i64 a1)]) 100000 k impl_BitsOk.K0 (impl_BitsOk.N0 x1 x18z x18 x19 x20)) k a0z a0 a1 := by kernel_rfl
theorem impl_BitsOk.s0 (k : Nat) (G : List Fr → St → Option Res) (a0z : Bool) (a0 : List Int) (a1 : Int) (yx1 : Int) (yx18z : Bool) (yx18 : List Int) (yx19 : Int) (yx20 : Int) : resume Try.prog (impl_BitsOk.Cs k) G (finish Try.prog [] Try.f139 [.v (.nums 5 .u8 a0z a0), .v (.int .i64 a1)]) 100000 impl_BitsOk.K0 (impl_BitsOk.N0 yx1 yx18z yx18 yx19 yx20) = impl_BitsOk.l0b (fun r => some (impl_BitsOk.enc r)) (fun x1 x18z x18 x19 x20 => G impl_BitsOk.K0 (impl_BitsOk.N0 x1 x18z x18 x19 x20)) k yx1 yx18z yx18 yx19 yx20 := by kernel_rfl
theorem impl_BitsOk.b_nat {R R' : Type} (e : R → R') (ret : Bool → Option R) (j0 : Int → Bool → (List Int) → Int → Int → Option R) (k : Nat) (a0z : Bool) (a0 : List Int) (a1 : Int) : impl_BitsOk.b (fun r => (ret r).map e) (fun x1 x18z x18 x19 x20 => (j0 x1 x18z x18 x19 x20).map e) k a0z a0 a1 = (impl_BitsOk.b ret j0 k a0z a0 a1).map e := by
  unfold impl_BitsOk.b
  repeat' first | with_reducible refine nat_cond ?_ ?_ | with_reducible refine nat_bind fun _ => ?_ | rfl
theorem impl_BitsOk.l0b_nat {R R' : Type} (e : R → R') (ret : Bool → Option R) (j0 : Int → Bool → (List Int) → Int → Int → Option R) (k : Nat) (x1 : Int) (x18z : Bool) (x18 : List Int) (x19 : Int) (x20 : Int) : impl_BitsOk.l0b (fun r => (ret r).map e) (fun x1 x18z x18 x19 x20 => (j0 x1 x18z x18 x19 x20).map e) k x1 x18z x18 x19 x20 = (impl_BitsOk.l0b ret j0 k x1 x18z x18 x19 x20).map e := by
  unfold impl_BitsOk.l0b
  repeat' first | with_reducible refine nat_cond ?_ ?_ | with_reducible refine nat_bind fun _ => ?_ | rfl
theorem impl_BitsOk.rounds_eq (a0z : Bool) (a0 : List Int) (a1 : Int) : ∀ k, (∀ (x1 : Int) (x18z : Bool) (x18 : List Int) (x19 : Int) (x20 : Int), rounds Try.prog impl_BitsOk.Cs (finish Try.prog [] Try.f139 [.v (.nums 5 .u8 a0z a0), .v (.int .i64 a1)]) 100000 k impl_BitsOk.K0 (impl_BitsOk.N0 x1 x18z x18 x19 x20) = (impl_BitsOk.l0 k x1 x18z x18 x19 x20).map impl_BitsOk.enc)
  | 0 => fun _ _ _ _ _ => rfl
  | k + 1 => by
    have ih := impl_BitsOk.rounds_eq a0z a0 a1 k
    refine fun _ _ _ _ _ => ?_
    · refine (impl_BitsOk.s0 k _ a0z a0 a1 _ _ _ _ _).trans (Eq.trans ?_ (impl_BitsOk.l0b_nat impl_BitsOk.enc some (impl_BitsOk.l0 k) k _ _ _ _ _))
      simp only [ih, Option.map_some]
theorem impl_BitsOk.eq (k : Nat) (a0z : Bool) (a0 : List Int) (a1 : Int) : answer Try.prog impl_BitsOk.Cs 100000 impl_BitsOk.cuts [] Try.f139 (k + 1) [.v (.nums 5 .u8 a0z a0), .v (.int .i64 a1)] = (impl_BitsOk.f (k + 1) a0z a0 a1).map impl_BitsOk.enc := by
  have ih := impl_BitsOk.rounds_eq a0z a0 a1 k
  refine (impl_BitsOk.s k a0z a0 a1).trans (Eq.trans ?_ (impl_BitsOk.b_nat impl_BitsOk.enc some (impl_BitsOk.l0 k) k a0z a0 a1))
  simp only [ih, Option.map_some]
theorem impl_BitsOk.sound (k : Nat) : SoundF Try.prog 139 (fun a => (impl_BitsOk.ans k a).val) := by
  refine sound_plain (fun args res h => ?_) (fun t n => rfl)
  unfold impl_BitsOk.ans at h
  dsimp only at h
  split at h
  · cases k with
    | zero => cases h
    | succ k =>
      unfold Ans.val at h
      rw [← impl_BitsOk.eq] at h
      exact answer_sound mixed Try.func139 _ _ _ (k + 1) (fun j _ => tab_sound (tab_cons (impl_within.sound j) (tab_cons (impl_BitsSize.sound j) (tab_cons (impl_BitsList.sound j) (tab_nil))))) _ _ h
  · exact (Ans.no_val h).elim

/-! math/bits.OnesCount8 -/
def bits_OnesCount8.b {R : Type} (ret : Int → Option R) (k : Nat) (a0 : Int) : Option R :=
  cond (decide ((0 : Int) ≤ a0)) (cond (decide (a0 < (((⟨#[0, 1, 1, 2, 1, 2, 2, 3, 1, 2, 2, 3, 2, 3, 3, 4, 1, 2, 2, 3, 2, 3, 3, 4, 2, 3, 3, 4, 3, 4, 4, 5, 1, 2, 2, 3, 2, 3, 3, 4, 2, 3, 3, 4, 3, 4, 4, 5, 2, 3, 3, 4, 3, 4, 4, 5, 3, 4, 4, 5, 4, 5, 5, 6, 1, 2, 2, 3, 2, 3, 3, 4, 2, 3, 3, 4, 3, 4, 4, 5, 2, 3, 3, 4, 3, 4, 4, 5, 3, 4, 4, 5, 4, 5, 5, 6, 2, 3, 3, 4, 3, 4, 4, 5, 3, 4, 4, 5, 4, 5, 5, 6, 3, 4, 4, 5, 4, 5, 5, 6, 4, 5, 5, 6, 5, 6, 6, 7, 1, 2, 2, 3, 2, 3, 3, 4, 2, 3, 3, 4, 3, 4, 4, 5, 2, 3, 3, 4, 3, 4, 4, 5, 3, 4, 4, 5, 4, 5, 5, 6, 2, 3, 3, 4, 3, 4, 4, 5, 3, 4, 4, 5, 4, 5, 5, 6, 3, 4, 4, 5, 4, 5, 5, 6, 4, 5, 5, 6, 5, 6, 6, 7, 2, 3, 3, 4, 3, 4, 4, 5, 3, 4, 4, 5, 4, 5, 5, 6, 3, 4, 4, 5, 4, 5, 5, 6, 4, 5, 5, 6, 5, 6, 6, 7, 3, 4, 4, 5, 4, 5, 5, 6, 4, 5, 5, 6, 5, 6, 6, 7, 4, 5, 5, 6, 5, 6, 6, 7, 5, 6, 6, 7, 6, 7, 7, 8]⟩ : ByteArray)).size : Int))) (ret (RowKit.wrap64 ((btI (⟨#[0, 1, 1, 2, 1, 2, 2, 3, 1, 2, 2, 3, 2, 3, 3, 4, 1, 2, 2, 3, 2, 3, 3, 4, 2, 3, 3, 4, 3, 4, 4, 5, 1, 2, 2, 3, 2, 3, 3, 4, 2, 3, 3, 4, 3, 4, 4, 5, 2, 3, 3, 4, 3, 4, 4, 5, 3, 4, 4, 5, 4, 5, 5, 6, 1, 2, 2, 3, 2, 3, 3, 4, 2, 3, 3, 4, 3, 4, 4, 5, 2, 3, 3, 4, 3, 4, 4, 5, 3, 4, 4, 5, 4, 5, 5, 6, 2, 3, 3, 4, 3, 4, 4, 5, 3, 4, 4, 5, 4, 5, 5, 6, 3, 4, 4, 5, 4, 5, 5, 6, 4, 5, 5, 6, 5, 6, 6, 7, 1, 2, 2, 3, 2, 3, 3, 4, 2, 3, 3, 4, 3, 4, 4, 5, 2, 3, 3, 4, 3, 4, 4, 5, 3, 4, 4, 5, 4, 5, 5, 6, 2, 3, 3, 4, 3, 4, 4, 5, 3, 4, 4, 5, 4, 5, 5, 6, 3, 4, 4, 5, 4, 5, 5, 6, 4, 5, 5, 6, 5, 6, 6, 7, 2, 3, 3, 4, 3, 4, 4, 5, 3, 4, 4, 5, 4, 5, 5, 6, 3, 4, 4, 5, 4, 5, 5, 6, 4, 5, 5, 6, 5, 6, 6, 7, 3, 4, 4, 5, 4, 5, 5, 6, 4, 5, 5, 6, 5, 6, 6, 7, 4, 5, 5, 6, 5, 6, 6, 7, 5, 6, 6, 7, 6, 7, 7, 8]⟩ : ByteArray) a0)))) (none)) (none)
def bits_OnesCount8.f : Nat → Int → Option Int
  | 0, _ => none
  | k + 1, a0 => bits_OnesCount8.b some k a0
def bits_OnesCount8.enc (r : Int) : Res := ⟨[.vals false [((.int .i64 r), true)]], []⟩
def bits_OnesCount8.ans (k : Nat) : List Arg → Ans
  | [.v (.int .u8 a0)] => ⟨bits_OnesCount8.f k a0, bits_OnesCount8.enc⟩
  | _ => Ans.no
def bits_OnesCount8.Cs (k : Nat) : CallSem := tab []
def bits_OnesCount8.cuts : List (Nat × Keep) := []
theorem bits_OnesCount8.s (k : Nat) (a0 : Int) : answer Try.prog bits_OnesCount8.Cs 100000 bits_OnesCount8.cuts [] Try.f205 (k + 1) [.v (.int .u8 a0)] = bits_OnesCount8.b (fun r => some (bits_OnesCount8.enc r)) k a0 := by kernel_rfl
theorem bits_OnesCount8.b_nat {R R' : Type} (e : R → R') (ret : Int → Option R) (k : Nat) (a0 : Int) : bits_OnesCount8.b (fun r => (ret r).map e) k a0 = (bits_OnesCount8.b ret k a0).map e := by
  unfold bits_OnesCount8.b
  repeat' first | with_reducible refine nat_cond ?_ ?_ | with_reducible refine nat_bind fun _ => ?_ | rfl
theorem bits_OnesCount8.eq (k : Nat) (a0 : Int) : answer Try.prog bits_OnesCount8.Cs 100000 bits_OnesCount8.cuts [] Try.f205 (k + 1) [.v (.int .u8 a0)] = (bits_OnesCount8.f (k + 1) a0).map bits_OnesCount8.enc := by
  refine (bits_OnesCount8.s k a0).trans (Eq.trans ?_ (bits_OnesCount8.b_nat bits_OnesCount8.enc some k a0))
  simp only [Option.map_some]
theorem bits_OnesCount8.sound (k : Nat) : SoundF Try.prog 205 (fun a => (bits_OnesCount8.ans k a).val) := by
  refine sound_plain (fun args res h => ?_) (fun t n => rfl)
  unfold bits_OnesCount8.ans at h
  dsimp only at h
  split at h
  · cases k with
    | zero => cases h
    | succ k =>
      unfold Ans.val at h
      rw [← bits_OnesCount8.eq] at h
      exact answer_sound mixed Try.func205 _ _ _ (k + 1) (fun j _ => tab_sound (tab_nil)) _ _ h
  · exact (Ans.no_val h).elim

/-! loop.example/g00790/impl.BitsCount -/
def impl_BitsCount.b {R : Type} (ret : Int → Option R) (j0 : Int → Bool → (List Int) → Int → Int → Option R) (k : Nat) (a0z : Bool) (a0 : List Int) : Option R :=
  j0 0 a0z a0 ((a0).length : Int) 0
def impl_BitsCount.l0b {R : Type} (ret : Int → Option R) (j0 : Int → Bool → (List Int) → Int → Int → Option R) (k : Nat) (x3 : Int) (x6z : Bool) (x6 : List Int) (x7 : Int) (x8 : Int) : Option R :=
  cond (decide (x8 < x7)) (cond (decide ((0 : Int) ≤ x8)) (cond (decide (x8 < ((x6).length : Int))) ((bits_OnesCount8.f k (rdI x6 x8)).bind fun t0 => j0 (RowKit.wrap64 (x3 + t0)) x6z x6 x7 (RowKit.wrap64 (x8 + 1))) (none)) (none)) (ret x3)
def impl_BitsCount.l0 : Nat → Int → Bool → (List Int) → Int → Int → Option Int
  | 0, _, _, _, _, _ => none
  | k + 1, x3, x6z, x6, x7, x8 => impl_BitsCount.l0b some (impl_BitsCount.l0 k) k x3 x6z x6 x7 x8
def impl_BitsCount.f : Nat → Bool → (List Int) → Option Int
  | 0, _, _ => none
  | k + 1, a0z, a0 => impl_BitsCount.b some (impl_BitsCount.l0 k) k a0z a0
def impl_BitsCount.enc (r : Int) : Res := ⟨[.vals false [((.int .i64 r), true)]], []⟩
def impl_BitsCount.ans (k : Nat) : List Arg → Ans
  | [.v (.nums 5 .u8 a0z a0)] => ⟨impl_BitsCount.f k a0z a0, impl_BitsCount.enc⟩
  | _ => Ans.no
def impl_BitsCount.Cs (k : Nat) : CallSem := tab [(205, bits_OnesCount8.ans k)]
def impl_BitsCount.cuts : List (Nat × Keep) := [(58, ⟨[(3, some []), (6, some []), (7, some []), (8, some [])], []⟩)]
noncomputable def impl_BitsCount.K0 : List Fr := framesAt [true, true, false, true, false] (bodyOf Try.f172 impl_BitsCount.cuts) []
def impl_BitsCount.N0 (x3 : Int) (x6z : Bool) (x6 : List Int) (x7 : Int) (x8 : Int) : St := stOf 18 18 1 [(3, .val (V.s (.int .i64 x3))), (6, .val ⟨(.nums 5 .u8 x6z x6), [], false, none⟩), (7, .val (V.s (.int .i64 x7))), (8, .val (V.s (.int .i64 x8)))] []
theorem impl_BitsCount.s (k : Nat) (a0z : Bool) (a0 : List Int) : answer Try.prog impl_BitsCount.Cs 100000 impl_BitsCount.cuts [] Try.f172 (k + 1) [.v (.nums 5 .u8 a0z a0)] = impl_BitsCount.b (fun r => some (impl_BitsCount.enc r)) (fun x3 x6z x6 x7 x8 => rounds Try.prog impl_BitsCount.Cs (finish Try.prog [] Try.f172 [.v (.nums 5 .u8 a0z a0)]) 100000 k impl_BitsCount.K0 (impl_BitsCount.N0 x3 x6z x6 x7 x8)) k a0z a0 := by kernel_rfl
theorem impl_BitsCount.s0 (k : Nat) (G : List Fr → St → Option Res) (a0z : Bool) (a0 : List Int) (yx3 : Int) (yx6z : Bool) (yx6 : List Int) (yx7 : Int) (yx8 : Int) : resume Try.prog (impl_BitsCount.Cs k) G (finish Try.prog [] Try.f172 [.v (.nums 5 .u8 a0z a0)]) 100000 impl_BitsCount.K0 (impl_BitsCount.N0 yx3 yx6z yx6 yx7 yx8) = impl_BitsCount.l0b (fun r => some (impl_BitsCount.enc r)) (fun x3 x6z x6 x7 x8 => G impl_BitsCount.K0 (impl_BitsCount.N0 x3 x6z x6 x7 x8)) k yx3 yx6z yx6 yx7 yx8 := by kernel_rfl
theorem impl_BitsCount.b_nat {R R' : Type} (e : R → R') (ret : Int → Option R) (j0 : Int → Bool → (List Int) → Int → Int → Option R) (k : Nat) (a0z : Bool) (a0 : List Int) : impl_BitsCount.b (fun r => (ret r).map e) (fun x3 x6z x6 x7 x8 => (j0 x3 x6z x6 x7 x8).map e) k a0z a0 = (impl_BitsCount.b ret j0 k a0z a0).map e := by
  unfold impl_BitsCount.b
  repeat' first | with_reducible refine nat_cond ?_ ?_ | with_reducible refine nat_bind fun _ => ?_ | rfl
theorem impl_BitsCount.l0b_nat {R R' : Type} (e : R → R') (ret : Int → Option R) (j0 : Int → Bool → (List Int) → Int → Int → Option R) (k : Nat) (x3 : Int) (x6z : Bool) (x6 : List Int) (x7 : Int) (x8 : Int) : impl_BitsCount.l0b (fun r => (ret r).map e) (fun x3 x6z x6 x7 x8 => (j0 x3 x6z x6 x7 x8).map e) k x3 x6z x6 x7 x8 = (impl_BitsCount.l0b ret j0 k x3 x6z x6 x7 x8).map e := by
  unfold impl_BitsCount.l0b
  repeat' first | with_reducible refine nat_cond ?_ ?_ | with_reducible refine nat_bind fun _ => ?_ | rfl
theorem impl_BitsCount.rounds_eq (a0z : Bool) (a0 : List Int) : ∀ k, (∀ (x3 : Int) (x6z : Bool) (x6 : List Int) (x7 : Int) (x8 : Int), rounds Try.prog impl_BitsCount.Cs (finish Try.prog [] Try.f172 [.v (.nums 5 .u8 a0z a0)]) 100000 k impl_BitsCount.K0 (impl_BitsCount.N0 x3 x6z x6 x7 x8) = (impl_BitsCount.l0 k x3 x6z x6 x7 x8).map impl_BitsCount.enc)
  | 0 => fun _ _ _ _ _ => rfl
  | k + 1 => by
    have ih := impl_BitsCount.rounds_eq a0z a0 k
    refine fun _ _ _ _ _ => ?_
    · refine (impl_BitsCount.s0 k _ a0z a0 _ _ _ _ _).trans (Eq.trans ?_ (impl_BitsCount.l0b_nat impl_BitsCount.enc some (impl_BitsCount.l0 k) k _ _ _ _ _))
      simp only [ih, Option.map_some]
theorem impl_BitsCount.eq (k : Nat) (a0z : Bool) (a0 : List Int) : answer Try.prog impl_BitsCount.Cs 100000 impl_BitsCount.cuts [] Try.f172 (k + 1) [.v (.nums 5 .u8 a0z a0)] = (impl_BitsCount.f (k + 1) a0z a0).map impl_BitsCount.enc := by
  have ih := impl_BitsCount.rounds_eq a0z a0 k
  refine (impl_BitsCount.s k a0z a0).trans (Eq.trans ?_ (impl_BitsCount.b_nat impl_BitsCount.enc some (impl_BitsCount.l0 k) k a0z a0))
  simp only [ih, Option.map_some]
theorem impl_BitsCount.sound (k : Nat) : SoundF Try.prog 172 (fun a => (impl_BitsCount.ans k a).val) := by
  refine sound_plain (fun args res h => ?_) (fun t n => rfl)
  unfold impl_BitsCount.ans at h
  dsimp only at h
  split at h
  · cases k with
    | zero => cases h
    | succ k =>
      unfold Ans.val at h
      rw [← impl_BitsCount.eq] at h
      exact answer_sound mixed Try.func172 _ _ _ (k + 1) (fun j _ => tab_sound (tab_cons (bits_OnesCount8.sound j) (tab_nil))) _ _ h
  · exact (Ans.no_val h).elim

/-! loop.example/g00790/impl.QcOk -/
def impl_QcOk.b {R : Type} (ret : Bool → Option R) (k : Nat) (a0_0 : Int) (a0_1 : Int) (a0_2 : Int) (a0_3 : Int) (a0_4 : Int) (a1_0 : Int) (a1_1 : Int) (a1_2z : Bool) (a1_2 : List Int) (a1_3z : Bool) (a1_3 : List Int) (a1_4z : Bool) (a1_4 : List T) : Option R :=
  (impl_LimitsOk.f k a0_0 a0_1 a0_2 a0_3 a0_4).bind fun t0 => cond t0 ((impl_isNum.f k a1_0).bind fun t1 => cond t1 ((impl_isNum.f k a1_1).bind fun t2 => cond t2 ((impl_areHashes.f k false ([(.nums 5 .u8 a1_2z a1_2)] : List T)).bind fun t3 => cond t3 ((impl_BitsOk.f k a1_3z a1_3 a0_0).bind fun t4 => cond t4 ((impl_BitsCount.f k a1_3z a1_3).bind fun t5 => cond (decide (((a1_4).length : Int) = t5)) ((impl_areHashes.f k a1_4z a1_4).bind fun t6 => ret t6) (ret false)) (ret false)) (ret false)) (ret false)) (ret false)) (ret false)
def impl_QcOk.f : Nat → Int → Int → Int → Int → Int → Int → Int → Bool → (List Int) → Bool → (List Int) → Bool → (List T) → Option Bool
  | 0, _, _, _, _, _, _, _, _, _, _, _, _, _ => none
  | k + 1, a0_0, a0_1, a0_2, a0_3, a0_4, a1_0, a1_1, a1_2z, a1_2, a1_3z, a1_3, a1_4z, a1_4 => impl_QcOk.b some k a0_0 a0_1 a0_2 a0_3 a0_4 a1_0 a1_1 a1_2z a1_2 a1_3z a1_3 a1_4z a1_4
def impl_QcOk.enc (r : Bool) : Res := ⟨[.vals false [((.bool r), true)]], []⟩
def impl_QcOk.ans (k : Nat) : List Arg → Ans
  | [.v (.agg [(.int .i64 a0_0), (.int .i64 a0_1), (.int .i64 a0_2), (.int .i64 a0_3), (.int .i64 a0_4)]), .v (.agg [(.int .i64 a1_0), (.int .i64 a1_1), (.nums 5 .u8 a1_2z a1_2), (.nums 5 .u8 a1_3z a1_3), (.sl 45 a1_4z a1_4)])] => ⟨impl_QcOk.f k a0_0 a0_1 a0_2 a0_3 a0_4 a1_0 a1_1 a1_2z a1_2 a1_3z a1_3 a1_4z a1_4, impl_QcOk.enc⟩
  | _ => Ans.no
def impl_QcOk.Cs (k : Nat) : CallSem := tab [(86, impl_LimitsOk.ans k), (161, impl_isNum.ans k), (162, impl_areHashes.ans k), (139, impl_BitsOk.ans k), (172, impl_BitsCount.ans k)]
def impl_QcOk.cuts : List (Nat × Keep) := []
theorem impl_QcOk.s (k : Nat) (a0_0 : Int) (a0_1 : Int) (a0_2 : Int) (a0_3 : Int) (a0_4 : Int) (a1_0 : Int) (a1_1 : Int) (a1_2z : Bool) (a1_2 : List Int) (a1_3z : Bool) (a1_3 : List Int) (a1_4z : Bool) (a1_4 : List T) : answer Try.prog impl_QcOk.Cs 100000 impl_QcOk.cuts [] Try.f105 (k + 1) [.v (.agg [(.int .i64 a0_0), (.int .i64 a0_1), (.int .i64 a0_2), (.int .i64 a0_3), (.int .i64 a0_4)]), .v (.agg [(.int .i64 a1_0), (.int .i64 a1_1), (.nums 5 .u8 a1_2z a1_2), (.nums 5 .u8 a1_3z a1_3), (.sl 45 a1_4z a1_4)])] = impl_QcOk.b (fun r => some (impl_QcOk.enc r)) k a0_0 a0_1 a0_2 a0_3 a0_4 a1_0 a1_1 a1_2z a1_2 a1_3z a1_3 a1_4z a1_4 := by kernel_rfl
theorem impl_QcOk.b_nat {R R' : Type} (e : R → R') (ret : Bool → Option R) (k : Nat) (a0_0 : Int) (a0_1 : Int) (a0_2 : Int) (a0_3 : Int) (a0_4 : Int) (a1_0 : Int) (a1_1 : Int) (a1_2z : Bool) (a1_2 : List Int) (a1_3z : Bool) (a1_3 : List Int) (a1_4z : Bool) (a1_4 : List T) : impl_QcOk.b (fun r => (ret r).map e) k a0_0 a0_1 a0_2 a0_3 a0_4 a1_0 a1_1 a1_2z a1_2 a1_3z a1_3 a1_4z a1_4 = (impl_QcOk.b ret k a0_0 a0_1 a0_2 a0_3 a0_4 a1_0 a1_1 a1_2z a1_2 a1_3z a1_3 a1_4z a1_4).map e := by
  unfold impl_QcOk.b
  repeat' first | with_reducible refine nat_cond ?_ ?_ | with_reducible refine nat_bind fun _ => ?_ | rfl
theorem impl_QcOk.eq (k : Nat) (a0_0 : Int) (a0_1 : Int) (a0_2 : Int) (a0_3 : Int) (a0_4 : Int) (a1_0 : Int) (a1_1 : Int) (a1_2z : Bool) (a1_2 : List Int) (a1_3z : Bool) (a1_3 : List Int) (a1_4z : Bool) (a1_4 : List T) : answer Try.prog impl_QcOk.Cs 100000 impl_QcOk.cuts [] Try.f105 (k + 1) [.v (.agg [(.int .i64 a0_0), (.int .i64 a0_1), (.int .i64 a0_2), (.int .i64 a0_3), (.int .i64 a0_4)]), .v (.agg [(.int .i64 a1_0), (.int .i64 a1_1), (.nums 5 .u8 a1_2z a1_2), (.nums 5 .u8 a1_3z a1_3), (.sl 45 a1_4z a1_4)])] = (impl_QcOk.f (k + 1) a0_0 a0_1 a0_2 a0_3 a0_4 a1_0 a1_1 a1_2z a1_2 a1_3z a1_3 a1_4z a1_4).map impl_QcOk.enc := by
  refine (impl_QcOk.s k a0_0 a0_1 a0_2 a0_3 a0_4 a1_0 a1_1 a1_2z a1_2 a1_3z a1_3 a1_4z a1_4).trans (Eq.trans ?_ (impl_QcOk.b_nat impl_QcOk.enc some k a0_0 a0_1 a0_2 a0_3 a0_4 a1_0 a1_1 a1_2z a1_2 a1_3z a1_3 a1_4z a1_4))
  simp only [Option.map_some]
theorem impl_QcOk.sound (k : Nat) : SoundF Try.prog 105 (fun a => (impl_QcOk.ans k a).val) := by
  refine sound_plain (fun args res h => ?_) (fun t n => rfl)
  unfold impl_QcOk.ans at h
  dsimp only at h
  split at h
  · cases k with
    | zero => cases h
    | succ k =>
      unfold Ans.val at h
      rw [← impl_QcOk.eq] at h
      exact answer_sound mixed Try.func105 _ _ _ (k + 1) (fun j _ => tab_sound (tab_cons (impl_LimitsOk.sound j) (tab_cons (impl_isNum.sound j) (tab_cons (impl_areHashes.sound j) (tab_cons (impl_BitsOk.sound j) (tab_cons (impl_BitsCount.sound j) (tab_nil))))))) _ _ h
  · exact (Ans.no_val h).elim

/-! loop.example/g00790/impl.SameBytes -/
def impl_SameBytes.b {R : Type} (ret : Bool → Option R) (k : Nat) (a0z : Bool) (a0 : List Int) (a1z : Bool) (a1 : List Int) : Option R :=
  ret (decide ((strOf a0) = (strOf a1)))
def impl_SameBytes.f : Nat → Bool → (List Int) → Bool → (List Int) → Option Bool
  | 0, _, _, _, _ => none
  | k + 1, a0z, a0, a1z, a1 => impl_SameBytes.b some k a0z a0 a1z a1
def impl_SameBytes.enc (r : Bool) : Res := ⟨[.vals false [((.bool r), true)]], []⟩
def impl_SameBytes.ans (k : Nat) : List Arg → Ans
  | [.v (.nums 5 .u8 a0z a0), .v (.nums 5 .u8 a1z a1)] => ⟨impl_SameBytes.f k a0z a0 a1z a1, impl_SameBytes.enc⟩
  | _ => Ans.no
def impl_SameBytes.Cs (k : Nat) : CallSem := tab []
def impl_SameBytes.cuts : List (Nat × Keep) := []
theorem impl_SameBytes.s (k : Nat) (a0z : Bool) (a0 : List Int) (a1z : Bool) (a1 : List Int) : answer Try.prog impl_SameBytes.Cs 100000 impl_SameBytes.cuts [] Try.f84 (k + 1) [.v (.nums 5 .u8 a0z a0), .v (.nums 5 .u8 a1z a1)] = impl_SameBytes.b (fun r => some (impl_SameBytes.enc r)) k a0z a0 a1z a1 := by kernel_rfl
theorem impl_SameBytes.b_nat {R R' : Type} (e : R → R') (ret : Bool → Option R) (k : Nat) (a0z : Bool) (a0 : List Int) (a1z : Bool) (a1 : List Int) : impl_SameBytes.b (fun r => (ret r).map e) k a0z a0 a1z a1 = (impl_SameBytes.b ret k a0z a0 a1z a1).map e := by
  unfold impl_SameBytes.b
  repeat' first | with_reducible refine nat_cond ?_ ?_ | with_reducible refine nat_bind fun _ => ?_ | rfl
theorem impl_SameBytes.eq (k : Nat) (a0z : Bool) (a0 : List Int) (a1z : Bool) (a1 : List Int) : answer Try.prog impl_SameBytes.Cs 100000 impl_SameBytes.cuts [] Try.f84 (k + 1) [.v (.nums 5 .u8 a0z a0), .v (.nums 5 .u8 a1z a1)] = (impl_SameBytes.f (k + 1) a0z a0 a1z a1).map impl_SameBytes.enc := by
  refine (impl_SameBytes.s k a0z a0 a1z a1).trans (Eq.trans ?_ (impl_SameBytes.b_nat impl_SameBytes.enc some k a0z a0 a1z a1))
  simp only [Option.map_some]
theorem impl_SameBytes.sound (k : Nat) : SoundF Try.prog 84 (fun a => (impl_SameBytes.ans k a).val) := by
  refine sound_plain (fun args res h => ?_) (fun t n => rfl)
  unfold impl_SameBytes.ans at h
  dsimp only at h
  split at h
  · cases k with
    | zero => cases h
    | succ k =>
      unfold Ans.val at h
      rw [← impl_SameBytes.eq] at h
      exact answer_sound mixed Try.func84 _ _ _ (k + 1) (fun j _ => tab_sound (tab_nil)) _ _ h
  · exact (Ans.no_val h).elim

/-! (loop.example/g00790/impl.Head).matches -/
def impl_Head_matches.b {R : Type} (ret : Bool → Option R) (k : Nat) (a0_0 : Int) (a0_1 : Int) (a0_2 : Int) (a0_3z : Bool) (a0_3 : List Int) (a0_4z : Bool) (a0_4 : List Int) (a0_5 : Int) (a0_6 : Int) (a0_7z : Bool) (a0_7 : List Int) (a0_8z : Bool) (a0_8 : List Int) (a0_9z : Bool) (a0_9 : List T) : Option R :=
  cond (decide (a0_5 < a0_0)) (cond (decide (a0_6 = (RowKit.wrap64 (a0_1 - 1)))) ((impl_SameBytes.f k a0_7z a0_7 a0_3z a0_3).bind fun t0 => ret t0) (ret false)) (ret false)
def impl_Head_matches.f : Nat → Int → Int → Int → Bool → (List Int) → Bool → (List Int) → Int → Int → Bool → (List Int) → Bool → (List Int) → Bool → (List T) → Option Bool
  | 0, _, _, _, _, _, _, _, _, _, _, _, _, _, _, _ => none
  | k + 1, a0_0, a0_1, a0_2, a0_3z, a0_3, a0_4z, a0_4, a0_5, a0_6, a0_7z, a0_7, a0_8z, a0_8, a0_9z, a0_9 => impl_Head_matches.b some k a0_0 a0_1 a0_2 a0_3z a0_3 a0_4z a0_4 a0_5 a0_6 a0_7z a0_7 a0_8z a0_8 a0_9z a0_9
def impl_Head_matches.enc (r : Bool) : Res := ⟨[.vals false [((.bool r), true)]], []⟩
def impl_Head_matches.ans (k : Nat) : List Arg → Ans
  | [.v (.agg [(.int .i64 a0_0), (.int .i64 a0_1), (.int .i64 a0_2), (.nums 5 .u8 a0_3z a0_3), (.nums 5 .u8 a0_4z a0_4), (.int .i64 a0_5), (.int .i64 a0_6), (.nums 5 .u8 a0_7z a0_7), (.nums 5 .u8 a0_8z a0_8), (.sl 45 a0_9z a0_9)])] => ⟨impl_Head_matches.f k a0_0 a0_1 a0_2 a0_3z a0_3 a0_4z a0_4 a0_5 a0_6 a0_7z a0_7 a0_8z a0_8 a0_9z a0_9, impl_Head_matches.enc⟩
  | _ => Ans.no
def impl_Head_matches.Cs (k : Nat) : CallSem := tab [(84, impl_SameBytes.ans k)]
def impl_Head_matches.cuts : List (Nat × Keep) := []
theorem impl_Head_matches.s (k : Nat) (a0_0 : Int) (a0_1 : Int) (a0_2 : Int) (a0_3z : Bool) (a0_3 : List Int) (a0_4z : Bool) (a0_4 : List Int) (a0_5 : Int) (a0_6 : Int) (a0_7z : Bool) (a0_7 : List Int) (a0_8z : Bool) (a0_8 : List Int) (a0_9z : Bool) (a0_9 : List T) : answer Try.prog impl_Head_matches.Cs 100000 impl_Head_matches.cuts [] Try.f163 (k + 1) [.v (.agg [(.int .i64 a0_0), (.int .i64 a0_1), (.int .i64 a0_2), (.nums 5 .u8 a0_3z a0_3), (.nums 5 .u8 a0_4z a0_4), (.int .i64 a0_5), (.int .i64 a0_6), (.nums 5 .u8 a0_7z a0_7), (.nums 5 .u8 a0_8z a0_8), (.sl 45 a0_9z a0_9)])] = impl_Head_matches.b (fun r => some (impl_Head_matches.enc r)) k a0_0 a0_1 a0_2 a0_3z a0_3 a0_4z a0_4 a0_5 a0_6 a0_7z a0_7 a0_8z a0_8 a0_9z a0_9 := by kernel_rfl
theorem impl_Head_matches.b_nat {R R' : Type} (e : R → R') (ret : Bool → Option R) (k : Nat) (a0_0 : Int) (a0_1 : Int) (a0_2 : Int) (a0_3z : Bool) (a0_3 : List Int) (a0_4z : Bool) (a0_4 : List Int) (a0_5 : Int) (a0_6 : Int) (a0_7z : Bool) (a0_7 : List Int) (a0_8z : Bool) (a0_8 : List Int) (a0_9z : Bool) (a0_9 : List T) : impl_Head_matches.b (fun r => (ret r).map e) k a0_0 a0_1 a0_2 a0_3z a0_3 a0_4z a0_4 a0_5 a0_6 a0_7z a0_7 a0_8z a0_8 a0_9z a0_9 = (impl_Head_matches.b ret k a0_0 a0_1 a0_2 a0_3z a0_3 a0_4z a0_4 a0_5 a0_6 a0_7z a0_7 a0_8z a0_8 a0_9z a0_9).map e := by
  unfold impl_Head_matches.b
  repeat' first | with_reducible refine nat_cond ?_ ?_ | with_reducible refine nat_bind fun _ => ?_ | rfl
theorem impl_Head_matches.eq (k : Nat) (a0_0 : Int) (a0_1 : Int) (a0_2 : Int) (a0_3z : Bool) (a0_3 : List Int) (a0_4z : Bool) (a0_4 : List Int) (a0_5 : Int) (a0_6 : Int) (a0_7z : Bool) (a0_7 : List Int) (a0_8z : Bool) (a0_8 : List Int) (a0_9z : Bool) (a0_9 : List T) : answer Try.prog impl_Head_matches.Cs 100000 impl_Head_matches.cuts [] Try.f163 (k + 1) [.v (.agg [(.int .i64 a0_0), (.int .i64 a0_1), (.int .i64 a0_2), (.nums 5 .u8 a0_3z a0_3), (.nums 5 .u8 a0_4z a0_4), (.int .i64 a0_5), (.int .i64 a0_6), (.nums 5 .u8 a0_7z a0_7), (.nums 5 .u8 a0_8z a0_8), (.sl 45 a0_9z a0_9)])] = (impl_Head_matches.f (k + 1) a0_0 a0_1 a0_2 a0_3z a0_3 a0_4z a0_4 a0_5 a0_6 a0_7z a0_7 a0_8z a0_8 a0_9z a0_9).map impl_Head_matches.enc := by
  refine (impl_Head_matches.s k a0_0 a0_1 a0_2 a0_3z a0_3 a0_4z a0_4 a0_5 a0_6 a0_7z a0_7 a0_8z a0_8 a0_9z a0_9).trans (Eq.trans ?_ (impl_Head_matches.b_nat impl_Head_matches.enc some k a0_0 a0_1 a0_2 a0_3z a0_3 a0_4z a0_4 a0_5 a0_6 a0_7z a0_7 a0_8z a0_8 a0_9z a0_9))
  simp only [Option.map_some]
theorem impl_Head_matches.sound (k : Nat) : SoundF Try.prog 163 (fun a => (impl_Head_matches.ans k a).val) := by
  refine sound_plain (fun args res h => ?_) (fun t n => rfl)
  unfold impl_Head_matches.ans at h
  dsimp only at h
  split at h
  · cases k with
    | zero => cases h
    | succ k =>
      unfold Ans.val at h
      rw [← impl_Head_matches.eq] at h
      exact answer_sound mixed Try.func163 _ _ _ (k + 1) (fun j _ => tab_sound (tab_cons (impl_SameBytes.sound j) (tab_nil))) _ _ h
  · exact (Ans.no_val h).elim

/-! loop.example/g00790/impl.HeadOk -/
def impl_HeadOk.b {R : Type} (ret : Bool → Option R) (k : Nat) (a0_0 : Int) (a0_1 : Int) (a0_2 : Int) (a0_3 : Int) (a0_4 : Int) (a1_0 : Int) (a1_1 : Int) (a1_2 : Int) (a1_3z : Bool) (a1_3 : List Int) (a1_4z : Bool) (a1_4 : List Int) (a1_5 : Int) (a1_6 : Int) (a1_7z : Bool) (a1_7 : List Int) (a1_8z : Bool) (a1_8 : List Int) (a1_9z : Bool) (a1_9 : List T) : Option R :=
  (impl_QcOk.f k a0_0 a0_1 a0_2 a0_3 a0_4 a1_5 a1_6 a1_7z a1_7 a1_8z a1_8 a1_9z a1_9).bind fun t0 => cond t0 ((impl_isNum.f k a1_0).bind fun t1 => cond t1 ((impl_within.f k a1_1 1 1152921504606846975).bind fun t2 => cond t2 ((impl_within.f k a1_2 0 (RowKit.wrap64 (a0_0 - 1))).bind fun t3 => cond t3 ((impl_areHashes.f k false ([(.nums 5 .u8 a1_3z a1_3), (.nums 5 .u8 a1_4z a1_4)] : List T)).bind fun t4 => cond t4 ((impl_Head_matches.f k a1_0 a1_1 a1_2 a1_3z a1_3 a1_4z a1_4 a1_5 a1_6 a1_7z a1_7 a1_8z a1_8 a1_9z a1_9).bind fun t5 => ret t5) (ret false)) (ret false)) (ret false)) (ret false)) (ret false)
def impl_HeadOk.f : Nat → Int → Int → Int → Int → Int → Int → Int → Int → Bool → (List Int) → Bool → (List Int) → Int → Int → Bool → (List Int) → Bool → (List Int) → Bool → (List T) → Option Bool
  | 0, _, _, _, _, _, _, _, _, _, _, _, _, _, _, _, _, _, _, _, _ => none
  | k + 1, a0_0, a0_1, a0_2, a0_3, a0_4, a1_0, a1_1, a1_2, a1_3z, a1_3, a1_4z, a1_4, a1_5, a1_6, a1_7z, a1_7, a1_8z, a1_8, a1_9z, a1_9 => impl_HeadOk.b some k a0_0 a0_1 a0_2 a0_3 a0_4 a1_0 a1_1 a1_2 a1_3z a1_3 a1_4z a1_4 a1_5 a1_6 a1_7z a1_7 a1_8z a1_8 a1_9z a1_9
def impl_HeadOk.enc (r : Bool) : Res := ⟨[.vals false [((.bool r), true)]], []⟩
def impl_HeadOk.ans (k : Nat) : List Arg → Ans
  | [.v (.agg [(.int .i64 a0_0), (.int .i64 a0_1), (.int .i64 a0_2), (.int .i64 a0_3), (.int .i64 a0_4)]), .v (.agg [(.int .i64 a1_0), (.int .i64 a1_1), (.int .i64 a1_2), (.nums 5 .u8 a1_3z a1_3), (.nums 5 .u8 a1_4z a1_4), (.int .i64 a1_5), (.int .i64 a1_6), (.nums 5 .u8 a1_7z a1_7), (.nums 5 .u8 a1_8z a1_8), (.sl 45 a1_9z a1_9)])] => ⟨impl_HeadOk.f k a0_0 a0_1 a0_2 a0_3 a0_4 a1_0 a1_1 a1_2 a1_3z a1_3 a1_4z a1_4 a1_5 a1_6 a1_7z a1_7 a1_8z a1_8 a1_9z a1_9, impl_HeadOk.enc⟩
  | _ => Ans.no
def impl_HeadOk.Cs (k : Nat) : CallSem := tab [(105, impl_QcOk.ans k), (126, impl_within.ans k), (161, impl_isNum.ans k), (162, impl_areHashes.ans k), (163, impl_Head_matches.ans k)]
def impl_HeadOk.cuts : List (Nat × Keep) := []
theorem impl_HeadOk.s (k : Nat) (a0_0 : Int) (a0_1 : Int) (a0_2 : Int) (a0_3 : Int) (a0_4 : Int) (a1_0 : Int) (a1_1 : Int) (a1_2 : Int) (a1_3z : Bool) (a1_3 : List Int) (a1_4z : Bool) (a1_4 : List Int) (a1_5 : Int) (a1_6 : Int) (a1_7z : Bool) (a1_7 : List Int) (a1_8z : Bool) (a1_8 : List Int) (a1_9z : Bool) (a1_9 : List T) : answer Try.prog impl_HeadOk.Cs 100000 impl_HeadOk.cuts [] Try.f92 (k + 1) [.v (.agg [(.int .i64 a0_0), (.int .i64 a0_1), (.int .i64 a0_2), (.int .i64 a0_3), (.int .i64 a0_4)]), .v (.agg [(.int .i64 a1_0), (.int .i64 a1_1), (.int .i64 a1_2), (.nums 5 .u8 a1_3z a1_3), (.nums 5 .u8 a1_4z a1_4), (.int .i64 a1_5), (.int .i64 a1_6), (.nums 5 .u8 a1_7z a1_7), (.nums 5 .u8 a1_8z a1_8), (.sl 45 a1_9z a1_9)])] = impl_HeadOk.b (fun r => some (impl_HeadOk.enc r)) k a0_0 a0_1 a0_2 a0_3 a0_4 a1_0 a1_1 a1_2 a1_3z a1_3 a1_4z a1_4 a1_5 a1_6 a1_7z a1_7 a1_8z a1_8 a1_9z a1_9 := by kernel_rfl
theorem impl_HeadOk.b_nat {R R' : Type} (e : R → R') (ret : Bool → Option R) (k : Nat) (a0_0 : Int) (a0_1 : Int) (a0_2 : Int) (a0_3 : Int) (a0_4 : Int) (a1_0 : Int) (a1_1 : Int) (a1_2 : Int) (a1_3z : Bool) (a1_3 : List Int) (a1_4z : Bool) (a1_4 : List Int) (a1_5 : Int) (a1_6 : Int) (a1_7z : Bool) (a1_7 : List Int) (a1_8z : Bool) (a1_8 : List Int) (a1_9z : Bool) (a1_9 : List T) : impl_HeadOk.b (fun r => (ret r).map e) k a0_0 a0_1 a0_2 a0_3 a0_4 a1_0 a1_1 a1_2 a1_3z a1_3 a1_4z a1_4 a1_5 a1_6 a1_7z a1_7 a1_8z a1_8 a1_9z a1_9 = (impl_HeadOk.b ret k a0_0 a0_1 a0_2 a0_3 a0_4 a1_0 a1_1 a1_2 a1_3z a1_3 a1_4z a1_4 a1_5 a1_6 a1_7z a1_7 a1_8z a1_8 a1_9z a1_9).map e := by
  unfold impl_HeadOk.b
  repeat' first | with_reducible refine nat_cond ?_ ?_ | with_reducible refine nat_bind fun _ => ?_ | rfl
theorem impl_HeadOk.eq (k : Nat) (a0_0 : Int) (a0_1 : Int) (a0_2 : Int) (a0_3 : Int) (a0_4 : Int) (a1_0 : Int) (a1_1 : Int) (a1_2 : Int) (a1_3z : Bool) (a1_3 : List Int) (a1_4z : Bool) (a1_4 : List Int) (a1_5 : Int) (a1_6 : Int) (a1_7z : Bool) (a1_7 : List Int) (a1_8z : Bool) (a1_8 : List Int) (a1_9z : Bool) (a1_9 : List T) : answer Try.prog impl_HeadOk.Cs 100000 impl_HeadOk.cuts [] Try.f92 (k + 1) [.v (.agg [(.int .i64 a0_0), (.int .i64 a0_1), (.int .i64 a0_2), (.int .i64 a0_3), (.int .i64 a0_4)]), .v (.agg [(.int .i64 a1_0), (.int .i64 a1_1), (.int .i64 a1_2), (.nums 5 .u8 a1_3z a1_3), (.nums 5 .u8 a1_4z a1_4), (.int .i64 a1_5), (.int .i64 a1_6), (.nums 5 .u8 a1_7z a1_7), (.nums 5 .u8 a1_8z a1_8), (.sl 45 a1_9z a1_9)])] = (impl_HeadOk.f (k + 1) a0_0 a0_1 a0_2 a0_3 a0_4 a1_0 a1_1 a1_2 a1_3z a1_3 a1_4z a1_4 a1_5 a1_6 a1_7z a1_7 a1_8z a1_8 a1_9z a1_9).map impl_HeadOk.enc := by
  refine (impl_HeadOk.s k a0_0 a0_1 a0_2 a0_3 a0_4 a1_0 a1_1 a1_2 a1_3z a1_3 a1_4z a1_4 a1_5 a1_6 a1_7z a1_7 a1_8z a1_8 a1_9z a1_9).trans (Eq.trans ?_ (impl_HeadOk.b_nat impl_HeadOk.enc some k a0_0 a0_1 a0_2 a0_3 a0_4 a1_0 a1_1 a1_2 a1_3z a1_3 a1_4z a1_4 a1_5 a1_6 a1_7z a1_7 a1_8z a1_8 a1_9z a1_9))
  simp only [Option.map_some]
theorem impl_HeadOk.sound (k : Nat) : SoundF Try.prog 92 (fun a => (impl_HeadOk.ans k a).val) := by
  refine sound_plain (fun args res h => ?_) (fun t n => rfl)
  unfold impl_HeadOk.ans at h
  dsimp only at h
  split at h
  · cases k with
    | zero => cases h
    | succ k =>
      unfold Ans.val at h
      rw [← impl_HeadOk.eq] at h
      exact answer_sound mixed Try.func92 _ _ _ (k + 1) (fun j _ => tab_sound (tab_cons (impl_QcOk.sound j) (tab_cons (impl_within.sound j) (tab_cons (impl_isNum.sound j) (tab_cons (impl_areHashes.sound j) (tab_cons (impl_Head_matches.sound j) (tab_nil))))))) _ _ h
  · exact (Ans.no_val h).elim

/-! loop.example/g00790/impl.TableOk -/
def impl_TableOk.b {R : Type} (ret : Bool → Option R) (j0 : Bool → (List T) → Int → Int → Bool → (List T) → Option R) (k : Nat) (a0_0z : Bool) (a0_0 : List T) : Option R :=
  j0 a0_0z a0_0 ((a0_0).length : Int) 0 a0_0z a0_0
def impl_TableOk.l0b {R : Type} (ret : Bool → Option R) (j0 : Bool → (List T) → Int → Int → Bool → (List T) → Option R) (k : Nat) (x6z : Bool) (x6 : List T) (x7 : Int) (x8 : Int) (c1_0z : Bool) (c1_0 : List T) : Option R :=
  cond (decide (x8 < x7)) (cond (decide ((0 : Int) ≤ x8)) (cond (decide (x8 < ((x6).length : Int))) ((impl_within.f k (((((x6).getD (x8).toNat .bad).cells.getD 0 .bad)).toInt) 1 1099511627776).bind fun t0 => cond (!t0) (ret false) ((impl_within.f k ((((((x6).getD (x8).toNat .bad).cells.getD 1 .bad)).toNums).length : Int) 1 64).bind fun t1 => cond (!t1) (ret false) (j0 x6z x6 x7 (RowKit.wrap64 (x8 + 1)) c1_0z c1_0))) (none)) (none)) ((impl_within.f k ((c1_0).length : Int) 1 10).bind fun t0 => ret t0)
def impl_TableOk.l0 : Nat → Bool → (List T) → Int → Int → Bool → (List T) → Option Bool
  | 0, _, _, _, _, _, _ => none
  | k + 1, x6z, x6, x7, x8, c1_0z, c1_0 => impl_TableOk.l0b some (impl_TableOk.l0 k) k x6z x6 x7 x8 c1_0z c1_0
def impl_TableOk.f : Nat → Bool → (List T) → Option Bool
  | 0, _, _ => none
  | k + 1, a0_0z, a0_0 => impl_TableOk.b some (impl_TableOk.l0 k) k a0_0z a0_0
def impl_TableOk.enc (r : Bool) : Res := ⟨[.vals false [((.bool r), true)]], []⟩
def impl_TableOk.ans (k : Nat) : List Arg → Ans
  | [.v (.agg [(.sl 160 a0_0z a0_0)])] => ⟨impl_TableOk.f k a0_0z a0_0, impl_TableOk.enc⟩
  | _ => Ans.no
def impl_TableOk.Cs (k : Nat) : CallSem := tab [(126, impl_within.ans k)]
def impl_TableOk.cuts : List (Nat × Keep) := [(26, ⟨[(1, some []), (6, some []), (7, some []), (8, some [])], [(1, [some []])]⟩)]
noncomputable def impl_TableOk.K0 : List Fr := framesAt [true, false, true, false] (bodyOf Try.f125 impl_TableOk.cuts) []
def impl_TableOk.N0 (x6z : Bool) (x6 : List T) (x7 : Int) (x8 : Int) (c1_0z : Bool) (c1_0 : List T) : St := stOf 28 28 1 [(1, .bp 1 0), (6, .val ⟨(.sl 160 x6z x6), [], false, none⟩), (7, .val (V.s (.int .i64 x7))), (8, .val (V.s (.int .i64 x8)))] [(1, .cells [⟨(.sl 160 c1_0z c1_0), [], false, none⟩])]
theorem impl_TableOk.s (k : Nat) (a0_0z : Bool) (a0_0 : List T) : answer Try.prog impl_TableOk.Cs 100000 impl_TableOk.cuts [] Try.f125 (k + 1) [.v (.agg [(.sl 160 a0_0z a0_0)])] = impl_TableOk.b (fun r => some (impl_TableOk.enc r)) (fun x6z x6 x7 x8 c1_0z c1_0 => rounds Try.prog impl_TableOk.Cs (finish Try.prog [] Try.f125 [.v (.agg [(.sl 160 a0_0z a0_0)])]) 100000 k impl_TableOk.K0 (impl_TableOk.N0 x6z x6 x7 x8 c1_0z c1_0)) k a0_0z a0_0 := by kernel_rfl
theorem impl_TableOk.s0 (k : Nat) (G : List Fr → St → Option Res) (a0_0z : Bool) (a0_0 : List T) (yx6z : Bool) (yx6 : List T) (yx7 : Int) (yx8 : Int) (yc1_0z : Bool) (yc1_0 : List T) : resume Try.prog (impl_TableOk.Cs k) G (finish Try.prog [] Try.f125 [.v (.agg [(.sl 160 a0_0z a0_0)])]) 100000 impl_TableOk.K0 (impl_TableOk.N0 yx6z yx6 yx7 yx8 yc1_0z yc1_0) = impl_TableOk.l0b (fun r => some (impl_TableOk.enc r)) (fun x6z x6 x7 x8 c1_0z c1_0 => G impl_TableOk.K0 (impl_TableOk.N0 x6z x6 x7 x8 c1_0z c1_0)) k yx6z yx6 yx7 yx8 yc1_0z yc1_0 := by kernel_rfl
theorem impl_TableOk.b_nat {R R' : Type} (e : R → R') (ret : Bool → Option R) (j0 : Bool → (List T) → Int → Int → Bool → (List T) → Option R) (k : Nat) (a0_0z : Bool) (a0_0 : List T) : impl_TableOk.b (fun r => (ret r).map e) (fun x6z x6 x7 x8 c1_0z c1_0 => (j0 x6z x6 x7 x8 c1_0z c1_0).map e) k a0_0z a0_0 = (impl_TableOk.b ret j0 k a0_0z a0_0).map e := by
  unfold impl_TableOk.b
  repeat' first | with_reducible refine nat_cond ?_ ?_ | with_reducible refine nat_bind fun _ => ?_ | rfl
theorem impl_TableOk.l0b_nat {R R' : Type} (e : R → R') (ret : Bool → Option R) (j0 : Bool → (List T) → Int → Int → Bool → (List T) → Option R) (k : Nat) (x6z : Bool) (x6 : List T) (x7 : Int) (x8 : Int) (c1_0z : Bool) (c1_0 : List T) : impl_TableOk.l0b (fun r => (ret r).map e) (fun x6z x6 x7 x8 c1_0z c1_0 => (j0 x6z x6 x7 x8 c1_0z c1_0).map e) k x6z x6 x7 x8 c1_0z c1_0 = (impl_TableOk.l0b ret j0 k x6z x6 x7 x8 c1_0z c1_0).map e := by
  unfold impl_TableOk.l0b
  repeat' first | with_reducible refine nat_cond ?_ ?_ | with_reducible refine nat_bind fun _ => ?_ | rfl
theorem impl_TableOk.rounds_eq (a0_0z : Bool) (a0_0 : List T) : ∀ k, (∀ (x6z : Bool) (x6 : List T) (x7 : Int) (x8 : Int) (c1_0z : Bool) (c1_0 : List T), rounds Try.prog impl_TableOk.Cs (finish Try.prog [] Try.f125 [.v (.agg [(.sl 160 a0_0z a0_0)])]) 100000 k impl_TableOk.K0 (impl_TableOk.N0 x6z x6 x7 x8 c1_0z c1_0) = (impl_TableOk.l0 k x6z x6 x7 x8 c1_0z c1_0).map impl_TableOk.enc)
  | 0 => fun _ _ _ _ _ _ => rfl
  | k + 1 => by
    have ih := impl_TableOk.rounds_eq a0_0z a0_0 k
    refine fun _ _ _ _ _ _ => ?_
    · refine (impl_TableOk.s0 k _ a0_0z a0_0 _ _ _ _ _ _).trans (Eq.trans ?_ (impl_TableOk.l0b_nat impl_TableOk.enc some (impl_TableOk.l0 k) k _ _ _ _ _ _))
      simp only [ih, Option.map_some]
theorem impl_TableOk.eq (k : Nat) (a0_0z : Bool) (a0_0 : List T) : answer Try.prog impl_TableOk.Cs 100000 impl_TableOk.cuts [] Try.f125 (k + 1) [.v (.agg [(.sl 160 a0_0z a0_0)])] = (impl_TableOk.f (k + 1) a0_0z a0_0).map impl_TableOk.enc := by
  have ih := impl_TableOk.rounds_eq a0_0z a0_0 k
  refine (impl_TableOk.s k a0_0z a0_0).trans (Eq.trans ?_ (impl_TableOk.b_nat impl_TableOk.enc some (impl_TableOk.l0 k) k a0_0z a0_0))
  simp only [ih, Option.map_some]
theorem impl_TableOk.sound (k : Nat) : SoundF Try.prog 125 (fun a => (impl_TableOk.ans k a).val) := by
  refine sound_plain (fun args res h => ?_) (fun t n => rfl)
  unfold impl_TableOk.ans at h
  dsimp only at h
  split at h
  · cases k with
    | zero => cases h
    | succ k =>
      unfold Ans.val at h
      rw [← impl_TableOk.eq] at h
      exact answer_sound mixed Try.func125 _ _ _ (k + 1) (fun j _ => tab_sound (tab_cons (impl_within.sound j) (tab_nil))) _ _ h
  · exact (Ans.no_val h).elim

/-! loop.example/g00790/impl.belongs -/
def impl_belongs.b {R : Type} (ret : Bool → Option R) (k : Nat) (a0_0 : Int) (a0_1 : Int) (a0_2 : Int) (a0_3 : Int) (a0_4 : Int) (a1_0z : Bool) (a1_0 : List T) : Option R :=
  (impl_LimitsOk.f k a0_0 a0_1 a0_2 a0_3 a0_4).bind fun t0 => cond t0 ((impl_TableOk.f k a1_0z a1_0).bind fun t1 => cond t1 (ret (decide (((a1_0).length : Int) = a0_0))) (ret false)) (ret false)
def impl_belongs.f : Nat → Int → Int → Int → Int → Int → Bool → (List T) → Option Bool
  | 0, _, _, _, _, _, _, _ => none
  | k + 1, a0_0, a0_1, a0_2, a0_3, a0_4, a1_0z, a1_0 => impl_belongs.b some k a0_0 a0_1 a0_2 a0_3 a0_4 a1_0z a1_0
def impl_belongs.enc (r : Bool) : Res := ⟨[.vals false [((.bool r), true)]], []⟩
def impl_belongs.ans (k : Nat) : List Arg → Ans
  | [.v (.agg [(.int .i64 a0_0), (.int .i64 a0_1), (.int .i64 a0_2), (.int .i64 a0_3), (.int .i64 a0_4)]), .v (.agg [(.sl 160 a1_0z a1_0)])] => ⟨impl_belongs.f k a0_0 a0_1 a0_2 a0_3 a0_4 a1_0z a1_0, impl_belongs.enc⟩
  | _ => Ans.no
def impl_belongs.Cs (k : Nat) : CallSem := tab [(86, impl_LimitsOk.ans k), (125, impl_TableOk.ans k)]
def impl_belongs.cuts : List (Nat × Keep) := []
theorem impl_belongs.s (k : Nat) (a0_0 : Int) (a0_1 : Int) (a0_2 : Int) (a0_3 : Int) (a0_4 : Int) (a1_0z : Bool) (a1_0 : List T) : answer Try.prog impl_belongs.Cs 100000 impl_belongs.cuts [] Try.f93 (k + 1) [.v (.agg [(.int .i64 a0_0), (.int .i64 a0_1), (.int .i64 a0_2), (.int .i64 a0_3), (.int .i64 a0_4)]), .v (.agg [(.sl 160 a1_0z a1_0)])] = impl_belongs.b (fun r => some (impl_belongs.enc r)) k a0_0 a0_1 a0_2 a0_3 a0_4 a1_0z a1_0 := by kernel_rfl
theorem impl_belongs.b_nat {R R' : Type} (e : R → R') (ret : Bool → Option R) (k : Nat) (a0_0 : Int) (a0_1 : Int) (a0_2 : Int) (a0_3 : Int) (a0_4 : Int) (a1_0z : Bool) (a1_0 : List T) : impl_belongs.b (fun r => (ret r).map e) k a0_0 a0_1 a0_2 a0_3 a0_4 a1_0z a1_0 = (impl_belongs.b ret k a0_0 a0_1 a0_2 a0_3 a0_4 a1_0z a1_0).map e := by
  unfold impl_belongs.b
  repeat' first | with_reducible refine nat_cond ?_ ?_ | with_reducible refine nat_bind fun _ => ?_ | rfl
theorem impl_belongs.eq (k : Nat) (a0_0 : Int) (a0_1 : Int) (a0_2 : Int) (a0_3 : Int) (a0_4 : Int) (a1_0z : Bool) (a1_0 : List T) : answer Try.prog impl_belongs.Cs 100000 impl_belongs.cuts [] Try.f93 (k + 1) [.v (.agg [(.int .i64 a0_0), (.int .i64 a0_1), (.int .i64 a0_2), (.int .i64 a0_3), (.int .i64 a0_4)]), .v (.agg [(.sl 160 a1_0z a1_0)])] = (impl_belongs.f (k + 1) a0_0 a0_1 a0_2 a0_3 a0_4 a1_0z a1_0).map impl_belongs.enc := by
  refine (impl_belongs.s k a0_0 a0_1 a0_2 a0_3 a0_4 a1_0z a1_0).trans (Eq.trans ?_ (impl_belongs.b_nat impl_belongs.enc some k a0_0 a0_1 a0_2 a0_3 a0_4 a1_0z a1_0))
  simp only [Option.map_some]
theorem impl_belongs.sound (k : Nat) : SoundF Try.prog 93 (fun a => (impl_belongs.ans k a).val) := by
  refine sound_plain (fun args res h => ?_) (fun t n => rfl)
  unfold impl_belongs.ans at h
  dsimp only at h
  split at h
  · cases k with
    | zero => cases h
    | succ k =>
      unfold Ans.val at h
      rw [← impl_belongs.eq] at h
      exact answer_sound mixed Try.func93 _ _ _ (k + 1) (fun j _ => tab_sound (tab_cons (impl_LimitsOk.sound j) (tab_cons (impl_TableOk.sound j) (tab_nil)))) _ _ h
  · exact (Ans.no_val h).elim

/-! loop.example/g00790/impl.copyBytes -/
def impl_copyBytes.b {R : Type} (ret : Bool × List Int → Option R) (k : Nat) (a0z : Bool) (a0 : List Int) : Option R :=
  cond (decide (0 + (a0).length < 140737488355328)) (ret (((a0).isEmpty && false), a0)) (none)
def impl_copyBytes.f : Nat → Bool → (List Int) → Option (Bool × List Int)
  | 0, _, _ => none
  | k + 1, a0z, a0 => impl_copyBytes.b some k a0z a0
def impl_copyBytes.enc (r : Bool × List Int) : Res := ⟨[.vals false [((.nums 5 .u8 r.1 r.2), true)]], []⟩
def impl_copyBytes.ans (k : Nat) : List Arg → Ans
  | [.v (.nums 5 .u8 a0z a0)] => ⟨impl_copyBytes.f k a0z a0, impl_copyBytes.enc⟩
  | _ => Ans.no
def impl_copyBytes.Cs (k : Nat) : CallSem := tab []
def impl_copyBytes.cuts : List (Nat × Keep) := []
theorem impl_copyBytes.s (k : Nat) (a0z : Bool) (a0 : List Int) : answer Try.prog impl_copyBytes.Cs 100000 impl_copyBytes.cuts [] Try.f132 (k + 1) [.v (.nums 5 .u8 a0z a0)] = impl_copyBytes.b (fun r => some (impl_copyBytes.enc r)) k a0z a0 := by kernel_rfl
theorem impl_copyBytes.b_nat {R R' : Type} (e : R → R') (ret : Bool × List Int → Option R) (k : Nat) (a0z : Bool) (a0 : List Int) : impl_copyBytes.b (fun r => (ret r).map e) k a0z a0 = (impl_copyBytes.b ret k a0z a0).map e := by
  unfold impl_copyBytes.b
  repeat' first | with_reducible refine nat_cond ?_ ?_ | with_reducible refine nat_bind fun _ => ?_ | rfl
theorem impl_copyBytes.eq (k : Nat) (a0z : Bool) (a0 : List Int) : answer Try.prog impl_copyBytes.Cs 100000 impl_copyBytes.cuts [] Try.f132 (k + 1) [.v (.nums 5 .u8 a0z a0)] = (impl_copyBytes.f (k + 1) a0z a0).map impl_copyBytes.enc := by
  refine (impl_copyBytes.s k a0z a0).trans (Eq.trans ?_ (impl_copyBytes.b_nat impl_copyBytes.enc some k a0z a0))
  simp only [Option.map_some]
theorem impl_copyBytes.sound (k : Nat) : SoundF Try.prog 132 (fun a => (impl_copyBytes.ans k a).val) := by
  refine sound_plain (fun args res h => ?_) (fun t n => rfl)
  unfold impl_copyBytes.ans at h
  dsimp only at h
  split at h
  · cases k with
    | zero => cases h
    | succ k =>
      unfold Ans.val at h
      rw [← impl_copyBytes.eq] at h
      exact answer_sound mixed Try.func132 _ _ _ (k + 1) (fun j _ => tab_sound (tab_nil)) _ _ h
  · exact (Ans.no_val h).elim

/-! loop.example/g00790/impl.GetRaw -/
def impl_GetRaw.b {R : Type} (ret : Bool × (List Int) × Int × Int → Option R) (k : Nat) (a0z : Bool) (a0 : List Int) (a1 : Int) (a2 : Int) : Option R :=
  (impl_within.f k a1 0 ((a0).length : Int)).bind fun t0 => cond (!t0) (ret (true, ([] : List Int), 0, 1)) ((impl_within.f k a2 0 (RowKit.wrap64 (((a0).length : Int) - a1))).bind fun t1 => cond (!t1) (ret (true, ([] : List Int), 0, 1)) (cond (decide ((0 : Int) ≤ (RowKit.wrap64 (a1 + a2)))) (cond (decide ((RowKit.wrap64 (a1 + a2)) ≤ ((a0).length : Int))) (cond (decide ((0 : Int) ≤ a1)) (cond (decide (a1 ≤ (RowKit.wrap64 (a1 + a2)))) ((impl_copyBytes.f k a0z (((a0).take ((RowKit.wrap64 (a1 + a2))).toNat).drop (a1).toNat)).bind fun t2 => ret (t2.1, t2.2, (RowKit.wrap64 (a1 + a2)), 0)) (none)) (none)) (none)) (none)))
def impl_GetRaw.f : Nat → Bool → (List Int) → Int → Int → Option (Bool × (List Int) × Int × Int)
  | 0, _, _, _, _ => none
  | k + 1, a0z, a0, a1, a2 => impl_GetRaw.b some k a0z a0 a1 a2
def impl_GetRaw.enc (r : Bool × (List Int) × Int × Int) : Res := ⟨[.vals false [((.nums 5 .u8 r.1 r.2.1), true)], .vals false [((.int .i64 r.2.2.1), true)], .vals false [((.int .i64 r.2.2.2), true)]], []⟩
def impl_GetRaw.ans (k : Nat) : List Arg → Ans
  | [.v (.nums 5 .u8 a0z a0), .v (.int .i64 a1), .v (.int .i64 a2)] => ⟨impl_GetRaw.f k a0z a0 a1 a2, impl_GetRaw.enc⟩
  | _ => Ans.no
def impl_GetRaw.Cs (k : Nat) : CallSem := tab [(126, impl_within.ans k), (132, impl_copyBytes.ans k)]
def impl_GetRaw.cuts : List (Nat × Keep) := []
theorem impl_GetRaw.s (k : Nat) (a0z : Bool) (a0 : List Int) (a1 : Int) (a2 : Int) : answer Try.prog impl_GetRaw.Cs 100000 impl_GetRaw.cuts [] Try.f222 (k + 1) [.v (.nums 5 .u8 a0z a0), .v (.int .i64 a1), .v (.int .i64 a2)] = impl_GetRaw.b (fun r => some (impl_GetRaw.enc r)) k a0z a0 a1 a2 := by kernel_rfl
theorem impl_GetRaw.b_nat {R R' : Type} (e : R → R') (ret : Bool × (List Int) × Int × Int → Option R) (k : Nat) (a0z : Bool) (a0 : List Int) (a1 : Int) (a2 : Int) : impl_GetRaw.b (fun r => (ret r).map e) k a0z a0 a1 a2 = (impl_GetRaw.b ret k a0z a0 a1 a2).map e := by
  unfold impl_GetRaw.b
  repeat' first | with_reducible refine nat_cond ?_ ?_ | with_reducible refine nat_bind fun _ => ?_ | rfl
theorem impl_GetRaw.eq (k : Nat) (a0z : Bool) (a0 : List Int) (a1 : Int) (a2 : Int) : answer Try.prog impl_GetRaw.Cs 100000 impl_GetRaw.cuts [] Try.f222 (k + 1) [.v (.nums 5 .u8 a0z a0), .v (.int .i64 a1), .v (.int .i64 a2)] = (impl_GetRaw.f (k + 1) a0z a0 a1 a2).map impl_GetRaw.enc := by
  refine (impl_GetRaw.s k a0z a0 a1 a2).trans (Eq.trans ?_ (impl_GetRaw.b_nat impl_GetRaw.enc some k a0z a0 a1 a2))
  simp only [Option.map_some]
theorem impl_GetRaw.sound (k : Nat) : SoundF Try.prog 222 (fun a => (impl_GetRaw.ans k a).val) := by
  refine sound_plain (fun args res h => ?_) (fun t n => rfl)
  unfold impl_GetRaw.ans at h
  dsimp only at h
  split at h
  · cases k with
    | zero => cases h
    | succ k =>
      unfold Ans.val at h
      rw [← impl_GetRaw.eq] at h
      exact answer_sound mixed Try.func222 _ _ _ (k + 1) (fun j _ => tab_sound (tab_cons (impl_within.sound j) (tab_cons (impl_copyBytes.sound j) (tab_nil)))) _ _ h
  · exact (Ans.no_val h).elim

/-! loop.example/g00790/impl.GetFix -/
def impl_GetFix.b {R : Type} (ret : Int × Int × Int → Option R) (j0 : Int → Int → Int → Bool → (List Int) → Int → Int → Option R) (k : Nat) (a0z : Bool) (a0 : List Int) (a1 : Int) (a2 : Int) : Option R :=
  (impl_within.f k a2 1 7).bind fun t0 => cond (!t0) (ret (0, 0, 5)) ((impl_GetRaw.f k a0z a0 a1 a2).bind fun t1 => j0 t1.2.2.1 t1.2.2.2 0 t1.1 t1.2.1 ((t1.2.1).length : Int) 0)
def impl_GetFix.l0b {R : Type} (ret : Int × Int × Int → Option R) (j0 : Int → Int → Int → Bool → (List Int) → Int → Int → Option R) (k : Nat) (x10 : Int) (x11 : Int) (x12 : Int) (x26z : Bool) (x26 : List Int) (x27 : Int) (x28 : Int) : Option R :=
  cond (decide (x28 < x27)) (cond (decide ((0 : Int) ≤ x28)) (cond (decide (x28 < ((x26).length : Int))) (cond (decide ((0 : Int) ≤ (RowKit.wrap64 ((8 : Int) * x28)))) (j0 x10 x11 (Go.bits .or .i64 x12 (shlI .i64 (RowKit.wrap64 ((rdI x26 x28))) (RowKit.wrap64 ((8 : Int) * x28)))) x26z x26 x27 (RowKit.wrap64 (x28 + 1))) (none)) (none)) (none)) (ret (x12, x10, x11))
def impl_GetFix.l0 : Nat → Int → Int → Int → Bool → (List Int) → Int → Int → Option (Int × Int × Int)
  | 0, _, _, _, _, _, _, _ => none
  | k + 1, x10, x11, x12, x26z, x26, x27, x28 => impl_GetFix.l0b some (impl_GetFix.l0 k) k x10 x11 x12 x26z x26 x27 x28
def impl_GetFix.f : Nat → Bool → (List Int) → Int → Int → Option (Int × Int × Int)
  | 0, _, _, _, _ => none
  | k + 1, a0z, a0, a1, a2 => impl_GetFix.b some (impl_GetFix.l0 k) k a0z a0 a1 a2
def impl_GetFix.enc (r : Int × Int × Int) : Res := ⟨[.vals false [((.int .i64 r.1), true)], .vals false [((.int .i64 r.2.1), true)], .vals false [((.int .i64 r.2.2), true)]], []⟩
def impl_GetFix.ans (k : Nat) : List Arg → Ans
  | [.v (.nums 5 .u8 a0z a0), .v (.int .i64 a1), .v (.int .i64 a2)] => ⟨impl_GetFix.f k a0z a0 a1 a2, impl_GetFix.enc⟩
  | _ => Ans.no
def impl_GetFix.Cs (k : Nat) : CallSem := tab [(126, impl_within.ans k), (222, impl_GetRaw.ans k)]
def impl_GetFix.cuts : List (Nat × Keep) := [(250, ⟨[(10, some []), (11, some []), (12, some []), (26, none), (27, some []), (28, some [])], []⟩)]
noncomputable def impl_GetFix.K0 : List Fr := framesAt [true, true, true, true, false, true, false] (bodyOf Try.f203 impl_GetFix.cuts) []
def impl_GetFix.N0 (x10 : Int) (x11 : Int) (x12 : Int) (x26z : Bool) (x26 : List Int) (x27 : Int) (x28 : Int) : St := stOf 44 44 3 [(10, .val (V.s (.int .i64 x10))), (11, .val (V.s (.int .i64 x11))), (12, .val (V.s (.int .i64 x12))), (26, .val ⟨(.nums 5 .u8 x26z x26), [.l 26 0], true, some (.l 26 0)⟩), (27, .val (V.s (.int .i64 x27))), (28, .val (V.s (.int .i64 x28)))] []
theorem impl_GetFix.s (k : Nat) (a0z : Bool) (a0 : List Int) (a1 : Int) (a2 : Int) : answer Try.prog impl_GetFix.Cs 100000 impl_GetFix.cuts [] Try.f203 (k + 1) [.v (.nums 5 .u8 a0z a0), .v (.int .i64 a1), .v (.int .i64 a2)] = impl_GetFix.b (fun r => some (impl_GetFix.enc r)) (fun x10 x11 x12 x26z x26 x27 x28 => rounds Try.prog impl_GetFix.Cs (finish Try.prog [] Try.f203 [.v (.nums 5 .u8 a0z a0), .v (.int .i64 a1), .v (.int .i64 a2)]) 100000 k impl_GetFix.K0 (impl_GetFix.N0 x10 x11 x12 x26z x26 x27 x28)) k a0z a0 a1 a2 := by kernel_rfl
theorem impl_GetFix.s0 (k : Nat) (G : List Fr → St → Option Res) (a0z : Bool) (a0 : List Int) (a1 : Int) (a2 : Int) (yx10 : Int) (yx11 : Int) (yx12 : Int) (yx26z : Bool) (yx26 : List Int) (yx27 : Int) (yx28 : Int) : resume Try.prog (impl_GetFix.Cs k) G (finish Try.prog [] Try.f203 [.v (.nums 5 .u8 a0z a0), .v (.int .i64 a1), .v (.int .i64 a2)]) 100000 impl_GetFix.K0 (impl_GetFix.N0 yx10 yx11 yx12 yx26z yx26 yx27 yx28) = impl_GetFix.l0b (fun r => some (impl_GetFix.enc r)) (fun x10 x11 x12 x26z x26 x27 x28 => G impl_GetFix.K0 (impl_GetFix.N0 x10 x11 x12 x26z x26 x27 x28)) k yx10 yx11 yx12 yx26z yx26 yx27 yx28 := by kernel_rfl
theorem impl_GetFix.b_nat {R R' : Type} (e : R → R') (ret : Int × Int × Int → Option R) (j0 : Int → Int → Int → Bool → (List Int) → Int → Int → Option R) (k : Nat) (a0z : Bool) (a0 : List Int) (a1 : Int) (a2 : Int) : impl_GetFix.b (fun r => (ret r).map e) (fun x10 x11 x12 x26z x26 x27 x28 => (j0 x10 x11 x12 x26z x26 x27 x28).map e) k a0z a0 a1 a2 = (impl_GetFix.b ret j0 k a0z a0 a1 a2).map e := by
  unfold impl_GetFix.b
  repeat' first | with_reducible refine nat_cond ?_ ?_ | with_reducible refine nat_bind fun _ => ?_ | rfl
theorem impl_GetFix.l0b_nat {R R' : Type} (e : R → R') (ret : Int × Int × Int → Option R) (j0 : Int → Int → Int → Bool → (List Int) → Int → Int → Option R) (k : Nat) (x10 : Int) (x11 : Int) (x12 : Int) (x26z : Bool) (x26 : List Int) (x27 : Int) (x28 : Int) : impl_GetFix.l0b (fun r => (ret r).map e) (fun x10 x11 x12 x26z x26 x27 x28 => (j0 x10 x11 x12 x26z x26 x27 x28).map e) k x10 x11 x12 x26z x26 x27 x28 = (impl_GetFix.l0b ret j0 k x10 x11 x12 x26z x26 x27 x28).map e := by
  unfold impl_GetFix.l0b
  repeat' first | with_reducible refine nat_cond ?_ ?_ | with_reducible refine nat_bind fun _ => ?_ | rfl
theorem impl_GetFix.rounds_eq (a0z : Bool) (a0 : List Int) (a1 : Int) (a2 : Int) : ∀ k, (∀ (x10 : Int) (x11 : Int) (x12 : Int) (x26z : Bool) (x26 : List Int) (x27 : Int) (x28 : Int), rounds Try.prog impl_GetFix.Cs (finish Try.prog [] Try.f203 [.v (.nums 5 .u8 a0z a0), .v (.int .i64 a1), .v (.int .i64 a2)]) 100000 k impl_GetFix.K0 (impl_GetFix.N0 x10 x11 x12 x26z x26 x27 x28) = (impl_GetFix.l0 k x10 x11 x12 x26z x26 x27 x28).map impl_GetFix.enc)
  | 0 => fun _ _ _ _ _ _ _ => rfl
  | k + 1 => by
    have ih := impl_GetFix.rounds_eq a0z a0 a1 a2 k
    refine fun _ _ _ _ _ _ _ => ?_
    · refine (impl_GetFix.s0 k _ a0z a0 a1 a2 _ _ _ _ _ _ _).trans (Eq.trans ?_ (impl_GetFix.l0b_nat impl_GetFix.enc some (impl_GetFix.l0 k) k _ _ _ _ _ _ _))
      simp only [ih, Option.map_some]
theorem impl_GetFix.eq (k : Nat) (a0z : Bool) (a0 : List Int) (a1 : Int) (a2 : Int) : answer Try.prog impl_GetFix.Cs 100000 impl_GetFix.cuts [] Try.f203 (k + 1) [.v (.nums 5 .u8 a0z a0), .v (.int .i64 a1), .v (.int .i64 a2)] = (impl_GetFix.f (k + 1) a0z a0 a1 a2).map impl_GetFix.enc := by
  have ih := impl_GetFix.rounds_eq a0z a0 a1 a2 k
  refine (impl_GetFix.s k a0z a0 a1 a2).trans (Eq.trans ?_ (impl_GetFix.b_nat impl_GetFix.enc some (impl_GetFix.l0 k) k a0z a0 a1 a2))
  simp only [ih, Option.map_some]
theorem impl_GetFix.sound (k : Nat) : SoundF Try.prog 203 (fun a => (impl_GetFix.ans k a).val) := by
  refine sound_plain (fun args res h => ?_) (fun t n => rfl)
  unfold impl_GetFix.ans at h
  dsimp only at h
  split at h
  · cases k with
    | zero => cases h
    | succ k =>
      unfold Ans.val at h
      rw [← impl_GetFix.eq] at h
      exact answer_sound mixed Try.func203 _ _ _ (k + 1) (fun j _ => tab_sound (tab_cons (impl_within.sound j) (tab_cons (impl_GetRaw.sound j) (tab_nil)))) _ _ h
  · exact (Ans.no_val h).elim

/-! loop.example/g00790/impl.isWord -/
def impl_isWord.b {R : Type} (ret : Bool → Option R) (k : Nat) (a0 : Int) : Option R :=
  (impl_within.f k a0 0 4294967295).bind fun t0 => ret t0
def impl_isWord.f : Nat → Int → Option Bool
  | 0, _ => none
  | k + 1, a0 => impl_isWord.b some k a0
def impl_isWord.enc (r : Bool) : Res := ⟨[.vals false [((.bool r), true)]], []⟩
def impl_isWord.ans (k : Nat) : List Arg → Ans
  | [.v (.int .i64 a0)] => ⟨impl_isWord.f k a0, impl_isWord.enc⟩
  | _ => Ans.no
def impl_isWord.Cs (k : Nat) : CallSem := tab [(126, impl_within.ans k)]
def impl_isWord.cuts : List (Nat × Keep) := []
theorem impl_isWord.s (k : Nat) (a0 : Int) : answer Try.prog impl_isWord.Cs 100000 impl_isWord.cuts [] Try.f218 (k + 1) [.v (.int .i64 a0)] = impl_isWord.b (fun r => some (impl_isWord.enc r)) k a0 := by kernel_rfl
theorem impl_isWord.b_nat {R R' : Type} (e : R → R') (ret : Bool → Option R) (k : Nat) (a0 : Int) : impl_isWord.b (fun r => (ret r).map e) k a0 = (impl_isWord.b ret k a0).map e := by
  unfold impl_isWord.b
  repeat' first | with_reducible refine nat_cond ?_ ?_ | with_reducible refine nat_bind fun _ => ?_ | rfl
theorem impl_isWord.eq (k : Nat) (a0 : Int) : answer Try.prog impl_isWord.Cs 100000 impl_isWord.cuts [] Try.f218 (k + 1) [.v (.int .i64 a0)] = (impl_isWord.f (k + 1) a0).map impl_isWord.enc := by
  refine (impl_isWord.s k a0).trans (Eq.trans ?_ (impl_isWord.b_nat impl_isWord.enc some k a0))
  simp only [Option.map_some]
theorem impl_isWord.sound (k : Nat) : SoundF Try.prog 218 (fun a => (impl_isWord.ans k a).val) := by
  refine sound_plain (fun args res h => ?_) (fun t n => rfl)
  unfold impl_isWord.ans at h
  dsimp only at h
  split at h
  · cases k with
    | zero => cases h
    | succ k =>
      unfold Ans.val at h
      rw [← impl_isWord.eq] at h
      exact answer_sound mixed Try.func218 _ _ _ (k + 1) (fun j _ => tab_sound (tab_cons (impl_within.sound j) (tab_nil))) _ _ h
  · exact (Ans.no_val h).elim

/-! loop.example/g00790/impl.steps -/
def impl_steps.b {R : Type} (ret : Int → Option R) (j0 : Int → Int → Option R) (k : Nat) (a0 : Int) : Option R :=
  j0 a0 0
def impl_steps.l0b {R : Type} (ret : Int → Option R) (j0 : Int → Int → Option R) (k : Nat) (x0 : Int) (x4 : Int) : Option R :=
  cond (decide (x4 < 8)) (cond (decide ((Go.bits .and .i64 x0 1) = 1)) (j0 (Go.bits .xor .i64 (shrI .i64 x0 1) 3988292384) (RowKit.wrap64 (x4 + 1))) (j0 (shrI .i64 x0 1) (RowKit.wrap64 (x4 + 1)))) (ret x0)
def impl_steps.l0 : Nat → Int → Int → Option Int
  | 0, _, _ => none
  | k + 1, x0, x4 => impl_steps.l0b some (impl_steps.l0 k) k x0 x4
def impl_steps.f : Nat → Int → Option Int
  | 0, _ => none
  | k + 1, a0 => impl_steps.b some (impl_steps.l0 k) k a0
def impl_steps.enc (r : Int) : Res := ⟨[.vals false [((.int .i64 r), true)]], []⟩
def impl_steps.ans (k : Nat) : List Arg → Ans
  | [.v (.int .i64 a0)] => ⟨impl_steps.f k a0, impl_steps.enc⟩
  | _ => Ans.no
def impl_steps.Cs (k : Nat) : CallSem := tab []
def impl_steps.cuts : List (Nat × Keep) := [(26, ⟨[(0, some []), (4, some [])], []⟩)]
noncomputable def impl_steps.K0 : List Fr := framesAt [true, false, true, false] (bodyOf Try.f226 impl_steps.cuts) []
def impl_steps.N0 (x0 : Int) (x4 : Int) : St := stOf 16 16 1 [(0, .val (V.s (.int .i64 x0))), (4, .val (V.s (.int .i64 x4)))] []
theorem impl_steps.s (k : Nat) (a0 : Int) : answer Try.prog impl_steps.Cs 100000 impl_steps.cuts [] Try.f226 (k + 1) [.v (.int .i64 a0)] = impl_steps.b (fun r => some (impl_steps.enc r)) (fun x0 x4 => rounds Try.prog impl_steps.Cs (finish Try.prog [] Try.f226 [.v (.int .i64 a0)]) 100000 k impl_steps.K0 (impl_steps.N0 x0 x4)) k a0 := by kernel_rfl
theorem impl_steps.s0 (k : Nat) (G : List Fr → St → Option Res) (a0 : Int) (yx0 : Int) (yx4 : Int) : resume Try.prog (impl_steps.Cs k) G (finish Try.prog [] Try.f226 [.v (.int .i64 a0)]) 100000 impl_steps.K0 (impl_steps.N0 yx0 yx4) = impl_steps.l0b (fun r => some (impl_steps.enc r)) (fun x0 x4 => G impl_steps.K0 (impl_steps.N0 x0 x4)) k yx0 yx4 := by kernel_rfl
theorem impl_steps.b_nat {R R' : Type} (e : R → R') (ret : Int → Option R) (j0 : Int → Int → Option R) (k : Nat) (a0 : Int) : impl_steps.b (fun r => (ret r).map e) (fun x0 x4 => (j0 x0 x4).map e) k a0 = (impl_steps.b ret j0 k a0).map e := by
  unfold impl_steps.b
  repeat' first | with_reducible refine nat_cond ?_ ?_ | with_reducible refine nat_bind fun _ => ?_ | rfl
theorem impl_steps.l0b_nat {R R' : Type} (e : R → R') (ret : Int → Option R) (j0 : Int → Int → Option R) (k : Nat) (x0 : Int) (x4 : Int) : impl_steps.l0b (fun r => (ret r).map e) (fun x0 x4 => (j0 x0 x4).map e) k x0 x4 = (impl_steps.l0b ret j0 k x0 x4).map e := by
  unfold impl_steps.l0b
  repeat' first | with_reducible refine nat_cond ?_ ?_ | with_reducible refine nat_bind fun _ => ?_ | rfl
theorem impl_steps.rounds_eq (a0 : Int) : ∀ k, (∀ (x0 : Int) (x4 : Int), rounds Try.prog impl_steps.Cs (finish Try.prog [] Try.f226 [.v (.int .i64 a0)]) 100000 k impl_steps.K0 (impl_steps.N0 x0 x4) = (impl_steps.l0 k x0 x4).map impl_steps.enc)
  | 0 => fun _ _ => rfl
  | k + 1 => by
    have ih := impl_steps.rounds_eq a0 k
    refine fun _ _ => ?_
    · refine (impl_steps.s0 k _ a0 _ _).trans (Eq.trans ?_ (impl_steps.l0b_nat impl_steps.enc some (impl_steps.l0 k) k _ _))
      simp only [ih, Option.map_some]
theorem impl_steps.eq (k : Nat) (a0 : Int) : answer Try.prog impl_steps.Cs 100000 impl_steps.cuts [] Try.f226 (k + 1) [.v (.int .i64 a0)] = (impl_steps.f (k + 1) a0).map impl_steps.enc := by
  have ih := impl_steps.rounds_eq a0 k
  refine (impl_steps.s k a0).trans (Eq.trans ?_ (impl_steps.b_nat impl_steps.enc some (impl_steps.l0 k) k a0))
  simp only [ih, Option.map_some]
theorem impl_steps.sound (k : Nat) : SoundF Try.prog 226 (fun a => (impl_steps.ans k a).val) := by
  refine sound_plain (fun args res h => ?_) (fun t n => rfl)
  unfold impl_steps.ans at h
  dsimp only at h
  split at h
  · cases k with
    | zero => cases h
    | succ k =>
      unfold Ans.val at h
      rw [← impl_steps.eq] at h
      exact answer_sound mixed Try.func226 _ _ _ (k + 1) (fun j _ => tab_sound (tab_nil)) _ _ h
  · exact (Ans.no_val h).elim

/-! loop.example/g00790/impl.CrcMore -/
def impl_CrcMore.b {R : Type} (ret : Int → Option R) (j0 : Int → Bool → (List Int) → Int → Int → Option R) (k : Nat) (a0 : Int) (a1z : Bool) (a1 : List Int) : Option R :=
  (impl_isWord.f k a0).bind fun t0 => cond (!t0) (ret 0) (j0 (Go.bits .xor .i64 a0 4294967295) a1z a1 ((a1).length : Int) 0)
def impl_CrcMore.l0b {R : Type} (ret : Int → Option R) (j0 : Int → Bool → (List Int) → Int → Int → Option R) (k : Nat) (x0 : Int) (x12z : Bool) (x12 : List Int) (x13 : Int) (x14 : Int) : Option R :=
  cond (decide (x14 < x13)) (cond (decide ((0 : Int) ≤ x14)) (cond (decide (x14 < ((x12).length : Int))) ((impl_steps.f k (Go.bits .xor .i64 x0 (RowKit.wrap64 ((rdI x12 x14))))).bind fun t0 => j0 t0 x12z x12 x13 (RowKit.wrap64 (x14 + 1))) (none)) (none)) (ret (Go.bits .xor .i64 x0 4294967295))
def impl_CrcMore.l0 : Nat → Int → Bool → (List Int) → Int → Int → Option Int
  | 0, _, _, _, _, _ => none
  | k + 1, x0, x12z, x12, x13, x14 => impl_CrcMore.l0b some (impl_CrcMore.l0 k) k x0 x12z x12 x13 x14
def impl_CrcMore.f : Nat → Int → Bool → (List Int) → Option Int
  | 0, _, _, _ => none
  | k + 1, a0, a1z, a1 => impl_CrcMore.b some (impl_CrcMore.l0 k) k a0 a1z a1
def impl_CrcMore.enc (r : Int) : Res := ⟨[.vals false [((.int .i64 r), true)]], []⟩
def impl_CrcMore.ans (k : Nat) : List Arg → Ans
  | [.v (.int .i64 a0), .v (.nums 5 .u8 a1z a1)] => ⟨impl_CrcMore.f k a0 a1z a1, impl_CrcMore.enc⟩
  | _ => Ans.no
def impl_CrcMore.Cs (k : Nat) : CallSem := tab [(218, impl_isWord.ans k), (226, impl_steps.ans k)]
def impl_CrcMore.cuts : List (Nat × Keep) := [(122, ⟨[(0, some []), (12, some []), (13, some []), (14, some [])], []⟩)]
noncomputable def impl_CrcMore.K0 : List Fr := framesAt [true, true, true, false, true, false] (bodyOf Try.f223 impl_CrcMore.cuts) []
def impl_CrcMore.N0 (x0 : Int) (x12z : Bool) (x12 : List Int) (x13 : Int) (x14 : Int) : St := stOf 26 26 2 [(0, .val (V.s (.int .i64 x0))), (12, .val ⟨(.nums 5 .u8 x12z x12), [], false, none⟩), (13, .val (V.s (.int .i64 x13))), (14, .val (V.s (.int .i64 x14)))] []
theorem impl_CrcMore.s (k : Nat) (a0 : Int) (a1z : Bool) (a1 : List Int) : answer Try.prog impl_CrcMore.Cs 100000 impl_CrcMore.cuts [] Try.f223 (k + 1) [.v (.int .i64 a0), .v (.nums 5 .u8 a1z a1)] = impl_CrcMore.b (fun r => some (impl_CrcMore.enc r)) (fun x0 x12z x12 x13 x14 => rounds Try.prog impl_CrcMore.Cs (finish Try.prog [] Try.f223 [.v (.int .i64 a0), .v (.nums 5 .u8 a1z a1)]) 100000 k impl_CrcMore.K0 (impl_CrcMore.N0 x0 x12z x12 x13 x14)) k a0 a1z a1 := by kernel_rfl
theorem impl_CrcMore.s0 (k : Nat) (G : List Fr → St → Option Res) (a0 : Int) (a1z : Bool) (a1 : List Int) (yx0 : Int) (yx12z : Bool) (yx12 : List Int) (yx13 : Int) (yx14 : Int) : resume Try.prog (impl_CrcMore.Cs k) G (finish Try.prog [] Try.f223 [.v (.int .i64 a0), .v (.nums 5 .u8 a1z a1)]) 100000 impl_CrcMore.K0 (impl_CrcMore.N0 yx0 yx12z yx12 yx13 yx14) = impl_CrcMore.l0b (fun r => some (impl_CrcMore.enc r)) (fun x0 x12z x12 x13 x14 => G impl_CrcMore.K0 (impl_CrcMore.N0 x0 x12z x12 x13 x14)) k yx0 yx12z yx12 yx13 yx14 := by kernel_rfl
theorem impl_CrcMore.b_nat {R R' : Type} (e : R → R') (ret : Int → Option R) (j0 : Int → Bool → (List Int) → Int → Int → Option R) (k : Nat) (a0 : Int) (a1z : Bool) (a1 : List Int) : impl_CrcMore.b (fun r => (ret r).map e) (fun x0 x12z x12 x13 x14 => (j0 x0 x12z x12 x13 x14).map e) k a0 a1z a1 = (impl_CrcMore.b ret j0 k a0 a1z a1).map e := by
  unfold impl_CrcMore.b
  repeat' first | with_reducible refine nat_cond ?_ ?_ | with_reducible refine nat_bind fun _ => ?_ | rfl
theorem impl_CrcMore.l0b_nat {R R' : Type} (e : R → R') (ret : Int → Option R) (j0 : Int → Bool → (List Int) → Int → Int → Option R) (k : Nat) (x0 : Int) (x12z : Bool) (x12 : List Int) (x13 : Int) (x14 : Int) : impl_CrcMore.l0b (fun r => (ret r).map e) (fun x0 x12z x12 x13 x14 => (j0 x0 x12z x12 x13 x14).map e) k x0 x12z x12 x13 x14 = (impl_CrcMore.l0b ret j0 k x0 x12z x12 x13 x14).map e := by
  unfold impl_CrcMore.l0b
  repeat' first | with_reducible refine nat_cond ?_ ?_ | with_reducible refine nat_bind fun _ => ?_ | rfl
theorem impl_CrcMore.rounds_eq (a0 : Int) (a1z : Bool) (a1 : List Int) : ∀ k, (∀ (x0 : Int) (x12z : Bool) (x12 : List Int) (x13 : Int) (x14 : Int), rounds Try.prog impl_CrcMore.Cs (finish Try.prog [] Try.f223 [.v (.int .i64 a0), .v (.nums 5 .u8 a1z a1)]) 100000 k impl_CrcMore.K0 (impl_CrcMore.N0 x0 x12z x12 x13 x14) = (impl_CrcMore.l0 k x0 x12z x12 x13 x14).map impl_CrcMore.enc)
  | 0 => fun _ _ _ _ _ => rfl
  | k + 1 => by
    have ih := impl_CrcMore.rounds_eq a0 a1z a1 k
    refine fun _ _ _ _ _ => ?_
    · refine (impl_CrcMore.s0 k _ a0 a1z a1 _ _ _ _ _).trans (Eq.trans ?_ (impl_CrcMore.l0b_nat impl_CrcMore.enc some (impl_CrcMore.l0 k) k _ _ _ _ _))
      simp only [ih, Option.map_some]
theorem impl_CrcMore.eq (k : Nat) (a0 : Int) (a1z : Bool) (a1 : List Int) : answer Try.prog impl_CrcMore.Cs 100000 impl_CrcMore.cuts [] Try.f223 (k + 1) [.v (.int .i64 a0), .v (.nums 5 .u8 a1z a1)] = (impl_CrcMore.f (k + 1) a0 a1z a1).map impl_CrcMore.enc := by
  have ih := impl_CrcMore.rounds_eq a0 a1z a1 k
  refine (impl_CrcMore.s k a0 a1z a1).trans (Eq.trans ?_ (impl_CrcMore.b_nat impl_CrcMore.enc some (impl_CrcMore.l0 k) k a0 a1z a1))
  simp only [ih, Option.map_some]
theorem impl_CrcMore.sound (k : Nat) : SoundF Try.prog 223 (fun a => (impl_CrcMore.ans k a).val) := by
  refine sound_plain (fun args res h => ?_) (fun t n => rfl)
  unfold impl_CrcMore.ans at h
  dsimp only at h
  split at h
  · cases k with
    | zero => cases h
    | succ k =>
      unfold Ans.val at h
      rw [← impl_CrcMore.eq] at h
      exact answer_sound mixed Try.func223 _ _ _ (k + 1) (fun j _ => tab_sound (tab_cons (impl_isWord.sound j) (tab_cons (impl_steps.sound j) (tab_nil)))) _ _ h
  · exact (Ans.no_val h).elim

/-! loop.example/g00790/impl.Crc -/
def impl_Crc.b {R : Type} (ret : Int → Option R) (k : Nat) (a0z : Bool) (a0 : List Int) : Option R :=
  (impl_CrcMore.f k 0 a0z a0).bind fun t0 => ret t0
def impl_Crc.f : Nat → Bool → (List Int) → Option Int
  | 0, _, _ => none
  | k + 1, a0z, a0 => impl_Crc.b some k a0z a0
def impl_Crc.enc (r : Int) : Res := ⟨[.vals false [((.int .i64 r), true)]], []⟩
def impl_Crc.ans (k : Nat) : List Arg → Ans
  | [.v (.nums 5 .u8 a0z a0)] => ⟨impl_Crc.f k a0z a0, impl_Crc.enc⟩
  | _ => Ans.no
def impl_Crc.Cs (k : Nat) : CallSem := tab [(223, impl_CrcMore.ans k)]
def impl_Crc.cuts : List (Nat × Keep) := []
theorem impl_Crc.s (k : Nat) (a0z : Bool) (a0 : List Int) : answer Try.prog impl_Crc.Cs 100000 impl_Crc.cuts [] Try.f204 (k + 1) [.v (.nums 5 .u8 a0z a0)] = impl_Crc.b (fun r => some (impl_Crc.enc r)) k a0z a0 := by kernel_rfl
theorem impl_Crc.b_nat {R R' : Type} (e : R → R') (ret : Int → Option R) (k : Nat) (a0z : Bool) (a0 : List Int) : impl_Crc.b (fun r => (ret r).map e) k a0z a0 = (impl_Crc.b ret k a0z a0).map e := by
  unfold impl_Crc.b
  repeat' first | with_reducible refine nat_cond ?_ ?_ | with_reducible refine nat_bind fun _ => ?_ | rfl
theorem impl_Crc.eq (k : Nat) (a0z : Bool) (a0 : List Int) : answer Try.prog impl_Crc.Cs 100000 impl_Crc.cuts [] Try.f204 (k + 1) [.v (.nums 5 .u8 a0z a0)] = (impl_Crc.f (k + 1) a0z a0).map impl_Crc.enc := by
  refine (impl_Crc.s k a0z a0).trans (Eq.trans ?_ (impl_Crc.b_nat impl_Crc.enc some k a0z a0))
  simp only [Option.map_some]
theorem impl_Crc.sound (k : Nat) : SoundF Try.prog 204 (fun a => (impl_Crc.ans k a).val) := by
  refine sound_plain (fun args res h => ?_) (fun t n => rfl)
  unfold impl_Crc.ans at h
  dsimp only at h
  split at h
  · cases k with
    | zero => cases h
    | succ k =>
      unfold Ans.val at h
      rw [← impl_Crc.eq] at h
      exact answer_sound mixed Try.func204 _ _ _ (k + 1) (fun j _ => tab_sound (tab_cons (impl_CrcMore.sound j) (tab_nil))) _ _ h
  · exact (Ans.no_val h).elim

/-! loop.example/g00790/impl.FrameAt -/
def impl_FrameAt.b {R : Type} (ret : Int × Int → Option R) (j0 : Bool → (List Int) → Int → Int → Int → Int → Int → Int → Option R) (k : Nat) (a0_0 : Int) (a0_1 : Int) (a0_2 : Int) (a0_3 : Int) (a0_4 : Int) (a1z : Bool) (a1 : List Int) (a2 : Int) : Option R :=
  (impl_LimitsOk.f k a0_0 a0_1 a0_2 a0_3 a0_4).bind fun t0 => cond (!t0) (ret (0, 0)) ((impl_within.f k a2 0 (RowKit.wrap64 (((a1).length : Int) - 1))).bind fun t1 => cond (!t1) (ret (0, 0)) (cond (decide ((0 : Int) ≤ a2)) (cond (decide (a2 < ((a1).length : Int))) (cond (!(decide ((rdI a1 a2) = 181))) (ret (0, 0)) (cond (decide ((RowKit.wrap64 (((a1).length : Int) - a2)) > 1)) (cond (decide ((0 : Int) ≤ (RowKit.wrap64 (a2 + 1)))) (cond (decide ((RowKit.wrap64 (a2 + 1)) < ((a1).length : Int))) (cond (!(decide ((rdI a1 (RowKit.wrap64 (a2 + 1))) = 70))) (ret (0, 0)) (j0 a1z a1 a2 a0_0 a0_1 a0_2 a0_3 a0_4)) (none)) (none)) (j0 a1z a1 a2 a0_0 a0_1 a0_2 a0_3 a0_4))) (none)) (none)))
def impl_FrameAt.l0b {R : Type} (ret : Int × Int → Option R) (j0 : Bool → (List Int) → Int → Int → Int → Int → Int → Int → Option R) (k : Nat) (x1z : Bool) (x1 : List Int) (x2 : Int) (c3_0 : Int) (c3_1 : Int) (c3_2 : Int) (c3_3 : Int) (c3_4 : Int) : Option R :=
  cond (decide ((RowKit.wrap64 (((x1).length : Int) - x2)) < 4)) (ret (1, 0)) ((impl_GetFix.f k x1z x1 (RowKit.wrap64 (x2 + 2)) 2).bind fun t0 => (impl_within.f k t0.1 1 c3_3).bind fun t1 => cond (!t1) (ret (0, 0)) (cond (decide ((RowKit.wrap64 (((x1).length : Int) - x2)) < (RowKit.wrap64 ((8 : Int) + t0.1)))) (ret (1, (RowKit.wrap64 ((8 : Int) + t0.1)))) ((impl_GetFix.f k x1z x1 (RowKit.wrap64 (x2 + 4)) 4).bind fun t2 => cond (decide ((0 : Int) ≤ (RowKit.wrap64 ((RowKit.wrap64 (x2 + 8)) + t0.1)))) (cond (decide ((RowKit.wrap64 ((RowKit.wrap64 (x2 + 8)) + t0.1)) ≤ ((x1).length : Int))) (cond (decide ((0 : Int) ≤ (RowKit.wrap64 (x2 + 8)))) (cond (decide ((RowKit.wrap64 (x2 + 8)) ≤ (RowKit.wrap64 ((RowKit.wrap64 (x2 + 8)) + t0.1)))) ((impl_Crc.f k x1z (((x1).take ((RowKit.wrap64 ((RowKit.wrap64 (x2 + 8)) + t0.1))).toNat).drop ((RowKit.wrap64 (x2 + 8))).toNat)).bind fun t3 => cond (!(decide (t2.1 = t3))) (ret (2, (RowKit.wrap64 ((8 : Int) + t0.1)))) (ret (3, (RowKit.wrap64 ((8 : Int) + t0.1))))) (none)) (none)) (none)) (none))))
def impl_FrameAt.l0 : Nat → Bool → (List Int) → Int → Int → Int → Int → Int → Int → Option (Int × Int)
  | 0, _, _, _, _, _, _, _, _ => none
  | k + 1, x1z, x1, x2, c3_0, c3_1, c3_2, c3_3, c3_4 => impl_FrameAt.l0b some (impl_FrameAt.l0 k) k x1z x1 x2 c3_0 c3_1 c3_2 c3_3 c3_4
def impl_FrameAt.f : Nat → Int → Int → Int → Int → Int → Bool → (List Int) → Int → Option (Int × Int)
  | 0, _, _, _, _, _, _, _, _ => none
  | k + 1, a0_0, a0_1, a0_2, a0_3, a0_4, a1z, a1, a2 => impl_FrameAt.b some (impl_FrameAt.l0 k) k a0_0 a0_1 a0_2 a0_3 a0_4 a1z a1 a2
def impl_FrameAt.enc (r : Int × Int) : Res := ⟨[.vals false [((.int .i64 r.1), true)], .vals false [((.int .i64 r.2), true)]], []⟩
def impl_FrameAt.ans (k : Nat) : List Arg → Ans
  | [.v (.agg [(.int .i64 a0_0), (.int .i64 a0_1), (.int .i64 a0_2), (.int .i64 a0_3), (.int .i64 a0_4)]), .v (.nums 5 .u8 a1z a1), .v (.int .i64 a2)] => ⟨impl_FrameAt.f k a0_0 a0_1 a0_2 a0_3 a0_4 a1z a1 a2, impl_FrameAt.enc⟩
  | _ => Ans.no
def impl_FrameAt.Cs (k : Nat) : CallSem := tab [(86, impl_LimitsOk.ans k), (126, impl_within.ans k), (203, impl_GetFix.ans k), (204, impl_Crc.ans k)]
def impl_FrameAt.cuts : List (Nat × Keep) := [(3, ⟨[(1, some []), (2, some []), (3, some [])], [(3, [some [], some [], some [], some [], some []])]⟩)]
noncomputable def impl_FrameAt.K0 : List Fr := framesAt [true] (bodyOf Try.f164 impl_FrameAt.cuts) []
def impl_FrameAt.N0 (x1z : Bool) (x1 : List Int) (x2 : Int) (c3_0 : Int) (c3_1 : Int) (c3_2 : Int) (c3_3 : Int) (c3_4 : Int) : St := stOf 98 98 3 [(1, .val ⟨(.nums 5 .u8 x1z x1), [], false, none⟩), (2, .val (V.s (.int .i64 x2))), (3, .bp 3 0)] [(3, .cells [V.s (.int .i64 c3_0), V.s (.int .i64 c3_1), V.s (.int .i64 c3_2), V.s (.int .i64 c3_3), V.s (.int .i64 c3_4)])]
theorem impl_FrameAt.s (k : Nat) (a0_0 : Int) (a0_1 : Int) (a0_2 : Int) (a0_3 : Int) (a0_4 : Int) (a1z : Bool) (a1 : List Int) (a2 : Int) : answer Try.prog impl_FrameAt.Cs 100000 impl_FrameAt.cuts [] Try.f164 (k + 1) [.v (.agg [(.int .i64 a0_0), (.int .i64 a0_1), (.int .i64 a0_2), (.int .i64 a0_3), (.int .i64 a0_4)]), .v (.nums 5 .u8 a1z a1), .v (.int .i64 a2)] = impl_FrameAt.b (fun r => some (impl_FrameAt.enc r)) (fun x1z x1 x2 c3_0 c3_1 c3_2 c3_3 c3_4 => rounds Try.prog impl_FrameAt.Cs (finish Try.prog [] Try.f164 [.v (.agg [(.int .i64 a0_0), (.int .i64 a0_1), (.int .i64 a0_2), (.int .i64 a0_3), (.int .i64 a0_4)]), .v (.nums 5 .u8 a1z a1), .v (.int .i64 a2)]) 100000 k impl_FrameAt.K0 (impl_FrameAt.N0 x1z x1 x2 c3_0 c3_1 c3_2 c3_3 c3_4)) k a0_0 a0_1 a0_2 a0_3 a0_4 a1z a1 a2 := by kernel_rfl
theorem impl_FrameAt.s0 (k : Nat) (G : List Fr → St → Option Res) (a0_0 : Int) (a0_1 : Int) (a0_2 : Int) (a0_3 : Int) (a0_4 : Int) (a1z : Bool) (a1 : List Int) (a2 : Int) (yx1z : Bool) (yx1 : List Int) (yx2 : Int) (yc3_0 : Int) (yc3_1 : Int) (yc3_2 : Int) (yc3_3 : Int) (yc3_4 : Int) : resume Try.prog (impl_FrameAt.Cs k) G (finish Try.prog [] Try.f164 [.v (.agg [(.int .i64 a0_0), (.int .i64 a0_1), (.int .i64 a0_2), (.int .i64 a0_3), (.int .i64 a0_4)]), .v (.nums 5 .u8 a1z a1), .v (.int .i64 a2)]) 100000 impl_FrameAt.K0 (impl_FrameAt.N0 yx1z yx1 yx2 yc3_0 yc3_1 yc3_2 yc3_3 yc3_4) = impl_FrameAt.l0b (fun r => some (impl_FrameAt.enc r)) (fun x1z x1 x2 c3_0 c3_1 c3_2 c3_3 c3_4 => G impl_FrameAt.K0 (impl_FrameAt.N0 x1z x1 x2 c3_0 c3_1 c3_2 c3_3 c3_4)) k yx1z yx1 yx2 yc3_0 yc3_1 yc3_2 yc3_3 yc3_4 := by kernel_rfl
theorem impl_FrameAt.b_nat {R R' : Type} (e : R → R') (ret : Int × Int → Option R) (j0 : Bool → (List Int) → Int → Int → Int → Int → Int → Int → Option R) (k : Nat) (a0_0 : Int) (a0_1 : Int) (a0_2 : Int) (a0_3 : Int) (a0_4 : Int) (a1z : Bool) (a1 : List Int) (a2 : Int) : impl_FrameAt.b (fun r => (ret r).map e) (fun x1z x1 x2 c3_0 c3_1 c3_2 c3_3 c3_4 => (j0 x1z x1 x2 c3_0 c3_1 c3_2 c3_3 c3_4).map e) k a0_0 a0_1 a0_2 a0_3 a0_4 a1z a1 a2 = (impl_FrameAt.b ret j0 k a0_0 a0_1 a0_2 a0_3 a0_4 a1z a1 a2).map e := by
  unfold impl_FrameAt.b
  repeat' first | with_reducible refine nat_cond ?_ ?_ | with_reducible refine nat_bind fun _ => ?_ | rfl
theorem impl_FrameAt.l0b_nat {R R' : Type} (e : R → R') (ret : Int × Int → Option R) (j0 : Bool → (List Int) → Int → Int → Int → Int → Int → Int → Option R) (k : Nat) (x1z : Bool) (x1 : List Int) (x2 : Int) (c3_0 : Int) (c3_1 : Int) (c3_2 : Int) (c3_3 : Int) (c3_4 : Int) : impl_FrameAt.l0b (fun r => (ret r).map e) (fun x1z x1 x2 c3_0 c3_1 c3_2 c3_3 c3_4 => (j0 x1z x1 x2 c3_0 c3_1 c3_2 c3_3 c3_4).map e) k x1z x1 x2 c3_0 c3_1 c3_2 c3_3 c3_4 = (impl_FrameAt.l0b ret j0 k x1z x1 x2 c3_0 c3_1 c3_2 c3_3 c3_4).map e := by
  unfold impl_FrameAt.l0b
  repeat' first | with_reducible refine nat_cond ?_ ?_ | with_reducible refine nat_bind fun _ => ?_ | rfl
theorem impl_FrameAt.rounds_eq (a0_0 : Int) (a0_1 : Int) (a0_2 : Int) (a0_3 : Int) (a0_4 : Int) (a1z : Bool) (a1 : List Int) (a2 : Int) : ∀ k, (∀ (x1z : Bool) (x1 : List Int) (x2 : Int) (c3_0 : Int) (c3_1 : Int) (c3_2 : Int) (c3_3 : Int) (c3_4 : Int), rounds Try.prog impl_FrameAt.Cs (finish Try.prog [] Try.f164 [.v (.agg [(.int .i64 a0_0), (.int .i64 a0_1), (.int .i64 a0_2), (.int .i64 a0_3), (.int .i64 a0_4)]), .v (.nums 5 .u8 a1z a1), .v (.int .i64 a2)]) 100000 k impl_FrameAt.K0 (impl_FrameAt.N0 x1z x1 x2 c3_0 c3_1 c3_2 c3_3 c3_4) = (impl_FrameAt.l0 k x1z x1 x2 c3_0 c3_1 c3_2 c3_3 c3_4).map impl_FrameAt.enc)
  | 0 => fun _ _ _ _ _ _ _ _ => rfl
  | k + 1 => by
    have ih := impl_FrameAt.rounds_eq a0_0 a0_1 a0_2 a0_3 a0_4 a1z a1 a2 k
    refine fun _ _ _ _ _ _ _ _ => ?_
    · refine (impl_FrameAt.s0 k _ a0_0 a0_1 a0_2 a0_3 a0_4 a1z a1 a2 _ _ _ _ _ _ _ _).trans (Eq.trans ?_ (impl_FrameAt.l0b_nat impl_FrameAt.enc some (impl_FrameAt.l0 k) k _ _ _ _ _ _ _ _))
      simp only [ih, Option.map_some]
theorem impl_FrameAt.eq (k : Nat) (a0_0 : Int) (a0_1 : Int) (a0_2 : Int) (a0_3 : Int) (a0_4 : Int) (a1z : Bool) (a1 : List Int) (a2 : Int) : answer Try.prog impl_FrameAt.Cs 100000 impl_FrameAt.cuts [] Try.f164 (k + 1) [.v (.agg [(.int .i64 a0_0), (.int .i64 a0_1), (.int .i64 a0_2), (.int .i64 a0_3), (.int .i64 a0_4)]), .v (.nums 5 .u8 a1z a1), .v (.int .i64 a2)] = (impl_FrameAt.f (k + 1) a0_0 a0_1 a0_2 a0_3 a0_4 a1z a1 a2).map impl_FrameAt.enc := by
  have ih := impl_FrameAt.rounds_eq a0_0 a0_1 a0_2 a0_3 a0_4 a1z a1 a2 k
  refine (impl_FrameAt.s k a0_0 a0_1 a0_2 a0_3 a0_4 a1z a1 a2).trans (Eq.trans ?_ (impl_FrameAt.b_nat impl_FrameAt.enc some (impl_FrameAt.l0 k) k a0_0 a0_1 a0_2 a0_3 a0_4 a1z a1 a2))
  simp only [ih, Option.map_some]
theorem impl_FrameAt.sound (k : Nat) : SoundF Try.prog 164 (fun a => (impl_FrameAt.ans k a).val) := by
  refine sound_plain (fun args res h => ?_) (fun t n => rfl)
  unfold impl_FrameAt.ans at h
  dsimp only at h
  split at h
  · cases k with
    | zero => cases h
    | succ k =>
      unfold Ans.val at h
      rw [← impl_FrameAt.eq] at h
      exact answer_sound mixed Try.func164 _ _ _ (k + 1) (fun j _ => tab_sound (tab_cons (impl_LimitsOk.sound j) (tab_cons (impl_within.sound j) (tab_cons (impl_GetFix.sound j) (tab_cons (impl_Crc.sound j) (tab_nil)))))) _ _ h
  · exact (Ans.no_val h).elim

/-! loop.example/g00790/impl.PushOk -/
def impl_PushOk.b {R : Type} (ret : Bool → Option R) (k : Nat) (a0_0 : Int) (a0_1 : Int) (a0_2 : Int) (a0_3 : Int) (a0_4 : Int) (a1_0 : Int) (a1_1z : Bool) (a1_1 : List Int) : Option R :=
  (impl_FrameAt.f k a0_0 a0_1 a0_2 a0_3 a0_4 a1_1z a1_1 0).bind fun t0 => (impl_LimitsOk.f k a0_0 a0_1 a0_2 a0_3 a0_4).bind fun t1 => cond t1 ((impl_isNum.f k a1_0).bind fun t2 => cond t2 (cond (decide (((a1_1).length : Int) = 0)) (ret true) (ret (decide (t0.1 = 1)))) (ret false)) (ret false)
def impl_PushOk.f : Nat → Int → Int → Int → Int → Int → Int → Bool → (List Int) → Option Bool
  | 0, _, _, _, _, _, _, _, _ => none
  | k + 1, a0_0, a0_1, a0_2, a0_3, a0_4, a1_0, a1_1z, a1_1 => impl_PushOk.b some k a0_0 a0_1 a0_2 a0_3 a0_4 a1_0 a1_1z a1_1
def impl_PushOk.enc (r : Bool) : Res := ⟨[.vals false [((.bool r), true)]], []⟩
def impl_PushOk.ans (k : Nat) : List Arg → Ans
  | [.v (.agg [(.int .i64 a0_0), (.int .i64 a0_1), (.int .i64 a0_2), (.int .i64 a0_3), (.int .i64 a0_4)]), .v (.agg [(.int .i64 a1_0), (.nums 5 .u8 a1_1z a1_1)])] => ⟨impl_PushOk.f k a0_0 a0_1 a0_2 a0_3 a0_4 a1_0 a1_1z a1_1, impl_PushOk.enc⟩
  | _ => Ans.no
def impl_PushOk.Cs (k : Nat) : CallSem := tab [(86, impl_LimitsOk.ans k), (161, impl_isNum.ans k), (164, impl_FrameAt.ans k)]
def impl_PushOk.cuts : List (Nat × Keep) := []
theorem impl_PushOk.s (k : Nat) (a0_0 : Int) (a0_1 : Int) (a0_2 : Int) (a0_3 : Int) (a0_4 : Int) (a1_0 : Int) (a1_1z : Bool) (a1_1 : List Int) : answer Try.prog impl_PushOk.Cs 100000 impl_PushOk.cuts [] Try.f94 (k + 1) [.v (.agg [(.int .i64 a0_0), (.int .i64 a0_1), (.int .i64 a0_2), (.int .i64 a0_3), (.int .i64 a0_4)]), .v (.agg [(.int .i64 a1_0), (.nums 5 .u8 a1_1z a1_1)])] = impl_PushOk.b (fun r => some (impl_PushOk.enc r)) k a0_0 a0_1 a0_2 a0_3 a0_4 a1_0 a1_1z a1_1 := by kernel_rfl
theorem impl_PushOk.b_nat {R R' : Type} (e : R → R') (ret : Bool → Option R) (k : Nat) (a0_0 : Int) (a0_1 : Int) (a0_2 : Int) (a0_3 : Int) (a0_4 : Int) (a1_0 : Int) (a1_1z : Bool) (a1_1 : List Int) : impl_PushOk.b (fun r => (ret r).map e) k a0_0 a0_1 a0_2 a0_3 a0_4 a1_0 a1_1z a1_1 = (impl_PushOk.b ret k a0_0 a0_1 a0_2 a0_3 a0_4 a1_0 a1_1z a1_1).map e := by
  unfold impl_PushOk.b
  repeat' first | with_reducible refine nat_cond ?_ ?_ | with_reducible refine nat_bind fun _ => ?_ | rfl
theorem impl_PushOk.eq (k : Nat) (a0_0 : Int) (a0_1 : Int) (a0_2 : Int) (a0_3 : Int) (a0_4 : Int) (a1_0 : Int) (a1_1z : Bool) (a1_1 : List Int) : answer Try.prog impl_PushOk.Cs 100000 impl_PushOk.cuts [] Try.f94 (k + 1) [.v (.agg [(.int .i64 a0_0), (.int .i64 a0_1), (.int .i64 a0_2), (.int .i64 a0_3), (.int .i64 a0_4)]), .v (.agg [(.int .i64 a1_0), (.nums 5 .u8 a1_1z a1_1)])] = (impl_PushOk.f (k + 1) a0_0 a0_1 a0_2 a0_3 a0_4 a1_0 a1_1z a1_1).map impl_PushOk.enc := by
  refine (impl_PushOk.s k a0_0 a0_1 a0_2 a0_3 a0_4 a1_0 a1_1z a1_1).trans (Eq.trans ?_ (impl_PushOk.b_nat impl_PushOk.enc some k a0_0 a0_1 a0_2 a0_3 a0_4 a1_0 a1_1z a1_1))
  simp only [Option.map_some]
theorem impl_PushOk.sound (k : Nat) : SoundF Try.prog 94 (fun a => (impl_PushOk.ans k a).val) := by
  refine sound_plain (fun args res h => ?_) (fun t n => rfl)
  unfold impl_PushOk.ans at h
  dsimp only at h
  split at h
  · cases k with
    | zero => cases h
    | succ k =>
      unfold Ans.val at h
      rw [← impl_PushOk.eq] at h
      exact answer_sound mixed Try.func94 _ _ _ (k + 1) (fun j _ => tab_sound (tab_cons (impl_LimitsOk.sound j) (tab_cons (impl_isNum.sound j) (tab_cons (impl_FrameAt.sound j) (tab_nil))))) _ _ h
  · exact (Ans.no_val h).elim

/-! loop.example/g00790/impl.LightOk -/
def impl_LightOk.b {R : Type} (ret : Bool → Option R) (j0 : Bool → (List T) → Int → Int → Int → Int → Int → Int → Int → Bool → (List T) → Int → Bool → (List Int) → Bool → (List T) → Option R) (k : Nat) (a0_0 : Int) (a0_1 : Int) (a0_2 : Int) (a0_3 : Int) (a0_4 : Int) (a0_5z : Bool) (a0_5 : List T) (a0_6 : Int) (a0_7z : Bool) (a0_7 : List Int) (a0_8z : Bool) (a0_8 : List T) : Option R :=
  j0 a0_8z a0_8 ((a0_8).length : Int) 0 a0_0 a0_1 a0_2 a0_3 a0_4 a0_5z a0_5 a0_6 a0_7z a0_7 a0_8z a0_8
def impl_LightOk.l0b {R : Type} (ret : Bool → Option R) (j0 : Bool → (List T) → Int → Int → Int → Int → Int → Int → Int → Bool → (List T) → Int → Bool → (List Int) → Bool → (List T) → Option R) (k : Nat) (x6z : Bool) (x6 : List T) (x7 : Int) (x8 : Int) (c1_0 : Int) (c1_1 : Int) (c1_2 : Int) (c1_3 : Int) (c1_4 : Int) (c1_5z : Bool) (c1_5 : List T) (c1_6 : Int) (c1_7z : Bool) (c1_7 : List Int) (c1_8z : Bool) (c1_8 : List T) : Option R :=
  cond (decide (x8 < x7)) (cond (decide ((0 : Int) ≤ x8)) (cond (decide (x8 < ((x6).length : Int))) ((impl_HeadOk.f k c1_0 c1_1 c1_2 c1_3 c1_4 (((((x6).getD (x8).toNat .bad).cells.getD 0 .bad)).toInt) (((((x6).getD (x8).toNat .bad).cells.getD 1 .bad)).toInt) (((((x6).getD (x8).toNat .bad).cells.getD 2 .bad)).toInt) (((((x6).getD (x8).toNat .bad).cells.getD 3 .bad)).isNil) (((((x6).getD (x8).toNat .bad).cells.getD 3 .bad)).toNums) (((((x6).getD (x8).toNat .bad).cells.getD 4 .bad)).isNil) (((((x6).getD (x8).toNat .bad).cells.getD 4 .bad)).toNums) (((((x6).getD (x8).toNat .bad).cells.getD 5 .bad)).toInt) (((((x6).getD (x8).toNat .bad).cells.getD 6 .bad)).toInt) (((((x6).getD (x8).toNat .bad).cells.getD 7 .bad)).isNil) (((((x6).getD (x8).toNat .bad).cells.getD 7 .bad)).toNums) (((((x6).getD (x8).toNat .bad).cells.getD 8 .bad)).isNil) (((((x6).getD (x8).toNat .bad).cells.getD 8 .bad)).toNums) (((((x6).getD (x8).toNat .bad).cells.getD 9 .bad)).isNil) (((((x6).getD (x8).toNat .bad).cells.getD 9 .bad)).toList)).bind fun t0 => cond (!t0) (ret false) (cond (decide (x8 > 0)) (cond (decide ((0 : Int) ≤ (RowKit.wrap64 (x8 - 1)))) (cond (decide ((RowKit.wrap64 (x8 - 1)) < ((c1_8).length : Int))) (cond (decide (((((x6).getD (x8).toNat .bad).cells.getD 1 .bad)).toInt ≤ ((((c1_8).getD ((RowKit.wrap64 (x8 - 1))).toNat .bad).cells.getD 1 .bad)).toInt)) (ret false) (j0 x6z x6 x7 (RowKit.wrap64 (x8 + 1)) c1_0 c1_1 c1_2 c1_3 c1_4 c1_5z c1_5 c1_6 c1_7z c1_7 c1_8z c1_8)) (none)) (none)) (j0 x6z x6 x7 (RowKit.wrap64 (x8 + 1)) c1_0 c1_1 c1_2 c1_3 c1_4 c1_5z c1_5 c1_6 c1_7z c1_7 c1_8z c1_8))) (none)) (none)) ((impl_belongs.f k c1_0 c1_1 c1_2 c1_3 c1_4 c1_5z c1_5).bind fun t0 => cond t0 ((impl_PushOk.f k c1_0 c1_1 c1_2 c1_3 c1_4 c1_6 c1_7z c1_7).bind fun t1 => cond t1 (ret (decide (((c1_8).length : Int) ≤ 8))) (ret false)) (ret false))
def impl_LightOk.l0 : Nat → Bool → (List T) → Int → Int → Int → Int → Int → Int → Int → Bool → (List T) → Int → Bool → (List Int) → Bool → (List T) → Option Bool
  | 0, _, _, _, _, _, _, _, _, _, _, _, _, _, _, _, _ => none
  | k + 1, x6z, x6, x7, x8, c1_0, c1_1, c1_2, c1_3, c1_4, c1_5z, c1_5, c1_6, c1_7z, c1_7, c1_8z, c1_8 => impl_LightOk.l0b some (impl_LightOk.l0 k) k x6z x6 x7 x8 c1_0 c1_1 c1_2 c1_3 c1_4 c1_5z c1_5 c1_6 c1_7z c1_7 c1_8z c1_8
def impl_LightOk.f : Nat → Int → Int → Int → Int → Int → Bool → (List T) → Int → Bool → (List Int) → Bool → (List T) → Option Bool
  | 0, _, _, _, _, _, _, _, _, _, _, _, _ => none
  | k + 1, a0_0, a0_1, a0_2, a0_3, a0_4, a0_5z, a0_5, a0_6, a0_7z, a0_7, a0_8z, a0_8 => impl_LightOk.b some (impl_LightOk.l0 k) k a0_0 a0_1 a0_2 a0_3 a0_4 a0_5z a0_5 a0_6 a0_7z a0_7 a0_8z a0_8
def impl_LightOk.enc (r : Bool) : Res := ⟨[.vals false [((.bool r), true)]], []⟩
def impl_LightOk.ans (k : Nat) : List Arg → Ans
  | [.v (.agg [(.int .i64 a0_0), (.int .i64 a0_1), (.int .i64 a0_2), (.int .i64 a0_3), (.int .i64 a0_4), (.sl 160 a0_5z a0_5), (.int .i64 a0_6), (.nums 5 .u8 a0_7z a0_7), (.sl 124 a0_8z a0_8)])] => ⟨impl_LightOk.f k a0_0 a0_1 a0_2 a0_3 a0_4 a0_5z a0_5 a0_6 a0_7z a0_7 a0_8z a0_8, impl_LightOk.enc⟩
  | _ => Ans.no
def impl_LightOk.Cs (k : Nat) : CallSem := tab [(92, impl_HeadOk.ans k), (93, impl_belongs.ans k), (94, impl_PushOk.ans k)]
def impl_LightOk.cuts : List (Nat × Keep) := [(26, ⟨[(1, some []), (6, some []), (7, some []), (8, some [])], [(1, [some [], some [], some [], some [], some [], some [], some [], some [], some []])]⟩)]
noncomputable def impl_LightOk.K0 : List Fr := framesAt [true, false, true, false] (bodyOf Try.f28 impl_LightOk.cuts) []
def impl_LightOk.N0 (x6z : Bool) (x6 : List T) (x7 : Int) (x8 : Int) (c1_0 : Int) (c1_1 : Int) (c1_2 : Int) (c1_3 : Int) (c1_4 : Int) (c1_5z : Bool) (c1_5 : List T) (c1_6 : Int) (c1_7z : Bool) (c1_7 : List Int) (c1_8z : Bool) (c1_8 : List T) : St := stOf 53 53 1 [(1, .bp 1 0), (6, .val ⟨(.sl 124 x6z x6), [], false, none⟩), (7, .val (V.s (.int .i64 x7))), (8, .val (V.s (.int .i64 x8)))] [(1, .cells [V.s (.int .i64 c1_0), V.s (.int .i64 c1_1), V.s (.int .i64 c1_2), V.s (.int .i64 c1_3), V.s (.int .i64 c1_4), ⟨(.sl 160 c1_5z c1_5), [], false, none⟩, V.s (.int .i64 c1_6), ⟨(.nums 5 .u8 c1_7z c1_7), [], false, none⟩, ⟨(.sl 124 c1_8z c1_8), [], false, none⟩])]
theorem impl_LightOk.s (k : Nat) (a0_0 : Int) (a0_1 : Int) (a0_2 : Int) (a0_3 : Int) (a0_4 : Int) (a0_5z : Bool) (a0_5 : List T) (a0_6 : Int) (a0_7z : Bool) (a0_7 : List Int) (a0_8z : Bool) (a0_8 : List T) : answer Try.prog impl_LightOk.Cs 100000 impl_LightOk.cuts [] Try.f28 (k + 1) [.v (.agg [(.int .i64 a0_0), (.int .i64 a0_1), (.int .i64 a0_2), (.int .i64 a0_3), (.int .i64 a0_4), (.sl 160 a0_5z a0_5), (.int .i64 a0_6), (.nums 5 .u8 a0_7z a0_7), (.sl 124 a0_8z a0_8)])] = impl_LightOk.b (fun r => some (impl_LightOk.enc r)) (fun x6z x6 x7 x8 c1_0 c1_1 c1_2 c1_3 c1_4 c1_5z c1_5 c1_6 c1_7z c1_7 c1_8z c1_8 => rounds Try.prog impl_LightOk.Cs (finish Try.prog [] Try.f28 [.v (.agg [(.int .i64 a0_0), (.int .i64 a0_1), (.int .i64 a0_2), (.int .i64 a0_3), (.int .i64 a0_4), (.sl 160 a0_5z a0_5), (.int .i64 a0_6), (.nums 5 .u8 a0_7z a0_7), (.sl 124 a0_8z a0_8)])]) 100000 k impl_LightOk.K0 (impl_LightOk.N0 x6z x6 x7 x8 c1_0 c1_1 c1_2 c1_3 c1_4 c1_5z c1_5 c1_6 c1_7z c1_7 c1_8z c1_8)) k a0_0 a0_1 a0_2 a0_3 a0_4 a0_5z a0_5 a0_6 a0_7z a0_7 a0_8z a0_8 := by kernel_rfl
theorem impl_LightOk.s0 (k : Nat) (G : List Fr → St → Option Res) (a0_0 : Int) (a0_1 : Int) (a0_2 : Int) (a0_3 : Int) (a0_4 : Int) (a0_5z : Bool) (a0_5 : List T) (a0_6 : Int) (a0_7z : Bool) (a0_7 : List Int) (a0_8z : Bool) (a0_8 : List T) (yx6z : Bool) (yx6 : List T) (yx7 : Int) (yx8 : Int) (yc1_0 : Int) (yc1_1 : Int) (yc1_2 : Int) (yc1_3 : Int) (yc1_4 : Int) (yc1_5z : Bool) (yc1_5 : List T) (yc1_6 : Int) (yc1_7z : Bool) (yc1_7 : List Int) (yc1_8z : Bool) (yc1_8 : List T) : resume Try.prog (impl_LightOk.Cs k) G (finish Try.prog [] Try.f28 [.v (.agg [(.int .i64 a0_0), (.int .i64 a0_1), (.int .i64 a0_2), (.int .i64 a0_3), (.int .i64 a0_4), (.sl 160 a0_5z a0_5), (.int .i64 a0_6), (.nums 5 .u8 a0_7z a0_7), (.sl 124 a0_8z a0_8)])]) 100000 impl_LightOk.K0 (impl_LightOk.N0 yx6z yx6 yx7 yx8 yc1_0 yc1_1 yc1_2 yc1_3 yc1_4 yc1_5z yc1_5 yc1_6 yc1_7z yc1_7 yc1_8z yc1_8) = impl_LightOk.l0b (fun r => some (impl_LightOk.enc r)) (fun x6z x6 x7 x8 c1_0 c1_1 c1_2 c1_3 c1_4 c1_5z c1_5 c1_6 c1_7z c1_7 c1_8z c1_8 => G impl_LightOk.K0 (impl_LightOk.N0 x6z x6 x7 x8 c1_0 c1_1 c1_2 c1_3 c1_4 c1_5z c1_5 c1_6 c1_7z c1_7 c1_8z c1_8)) k yx6z yx6 yx7 yx8 yc1_0 yc1_1 yc1_2 yc1_3 yc1_4 yc1_5z yc1_5 yc1_6 yc1_7z yc1_7 yc1_8z yc1_8 := by kernel_rfl
theorem impl_LightOk.b_nat {R R' : Type} (e : R → R') (ret : Bool → Option R) (j0 : Bool → (List T) → Int → Int → Int → Int → Int → Int → Int → Bool → (List T) → Int → Bool → (List Int) → Bool → (List T) → Option R) (k : Nat) (a0_0 : Int) (a0_1 : Int) (a0_2 : Int) (a0_3 : Int) (a0_4 : Int) (a0_5z : Bool) (a0_5 : List T) (a0_6 : Int) (a0_7z : Bool) (a0_7 : List Int) (a0_8z : Bool) (a0_8 : List T) : impl_LightOk.b (fun r => (ret r).map e) (fun x6z x6 x7 x8 c1_0 c1_1 c1_2 c1_3 c1_4 c1_5z c1_5 c1_6 c1_7z c1_7 c1_8z c1_8 => (j0 x6z x6 x7 x8 c1_0 c1_1 c1_2 c1_3 c1_4 c1_5z c1_5 c1_6 c1_7z c1_7 c1_8z c1_8).map e) k a0_0 a0_1 a0_2 a0_3 a0_4 a0_5z a0_5 a0_6 a0_7z a0_7 a0_8z a0_8 = (impl_LightOk.b ret j0 k a0_0 a0_1 a0_2 a0_3 a0_4 a0_5z a0_5 a0_6 a0_7z a0_7 a0_8z a0_8).map e := by
  unfold impl_LightOk.b
  repeat' first | with_reducible refine nat_cond ?_ ?_ | with_reducible refine nat_bind fun _ => ?_ | rfl
theorem impl_LightOk.l0b_nat {R R' : Type} (e : R → R') (ret : Bool → Option R) (j0 : Bool → (List T) → Int → Int → Int → Int → Int → Int → Int → Bool → (List T) → Int → Bool → (List Int) → Bool → (List T) → Option R) (k : Nat) (x6z : Bool) (x6 : List T) (x7 : Int) (x8 : Int) (c1_0 : Int) (c1_1 : Int) (c1_2 : Int) (c1_3 : Int) (c1_4 : Int) (c1_5z : Bool) (c1_5 : List T) (c1_6 : Int) (c1_7z : Bool) (c1_7 : List Int) (c1_8z : Bool) (c1_8 : List T) : impl_LightOk.l0b (fun r => (ret r).map e) (fun x6z x6 x7 x8 c1_0 c1_1 c1_2 c1_3 c1_4 c1_5z c1_5 c1_6 c1_7z c1_7 c1_8z c1_8 => (j0 x6z x6 x7 x8 c1_0 c1_1 c1_2 c1_3 c1_4 c1_5z c1_5 c1_6 c1_7z c1_7 c1_8z c1_8).map e) k x6z x6 x7 x8 c1_0 c1_1 c1_2 c1_3 c1_4 c1_5z c1_5 c1_6 c1_7z c1_7 c1_8z c1_8 = (impl_LightOk.l0b ret j0 k x6z x6 x7 x8 c1_0 c1_1 c1_2 c1_3 c1_4 c1_5z c1_5 c1_6 c1_7z c1_7 c1_8z c1_8).map e := by
  unfold impl_LightOk.l0b
  repeat' first | with_reducible refine nat_cond ?_ ?_ | with_reducible refine nat_bind fun _ => ?_ | rfl
theorem impl_LightOk.rounds_eq (a0_0 : Int) (a0_1 : Int) (a0_2 : Int) (a0_3 : Int) (a0_4 : Int) (a0_5z : Bool) (a0_5 : List T) (a0_6 : Int) (a0_7z : Bool) (a0_7 : List Int) (a0_8z : Bool) (a0_8 : List T) : ∀ k, (∀ (x6z : Bool) (x6 : List T) (x7 : Int) (x8 : Int) (c1_0 : Int) (c1_1 : Int) (c1_2 : Int) (c1_3 : Int) (c1_4 : Int) (c1_5z : Bool) (c1_5 : List T) (c1_6 : Int) (c1_7z : Bool) (c1_7 : List Int) (c1_8z : Bool) (c1_8 : List T), rounds Try.prog impl_LightOk.Cs (finish Try.prog [] Try.f28 [.v (.agg [(.int .i64 a0_0), (.int .i64 a0_1), (.int .i64 a0_2), (.int .i64 a0_3), (.int .i64 a0_4), (.sl 160 a0_5z a0_5), (.int .i64 a0_6), (.nums 5 .u8 a0_7z a0_7), (.sl 124 a0_8z a0_8)])]) 100000 k impl_LightOk.K0 (impl_LightOk.N0 x6z x6 x7 x8 c1_0 c1_1 c1_2 c1_3 c1_4 c1_5z c1_5 c1_6 c1_7z c1_7 c1_8z c1_8) = (impl_LightOk.l0 k x6z x6 x7 x8 c1_0 c1_1 c1_2 c1_3 c1_4 c1_5z c1_5 c1_6 c1_7z c1_7 c1_8z c1_8).map impl_LightOk.enc)
  | 0 => fun _ _ _ _ _ _ _ _ _ _ _ _ _ _ _ _ => rfl
  | k + 1 => by
    have ih := impl_LightOk.rounds_eq a0_0 a0_1 a0_2 a0_3 a0_4 a0_5z a0_5 a0_6 a0_7z a0_7 a0_8z a0_8 k
    refine fun _ _ _ _ _ _ _ _ _ _ _ _ _ _ _ _ => ?_
    · refine (impl_LightOk.s0 k _ a0_0 a0_1 a0_2 a0_3 a0_4 a0_5z a0_5 a0_6 a0_7z a0_7 a0_8z a0_8 _ _ _ _ _ _ _ _ _ _ _ _ _ _ _ _).trans (Eq.trans ?_ (impl_LightOk.l0b_nat impl_LightOk.enc some (impl_LightOk.l0 k) k _ _ _ _ _ _ _ _ _ _ _ _ _ _ _ _))
      simp only [ih, Option.map_some]
theorem impl_LightOk.eq (k : Nat) (a0_0 : Int) (a0_1 : Int) (a0_2 : Int) (a0_3 : Int) (a0_4 : Int) (a0_5z : Bool) (a0_5 : List T) (a0_6 : Int) (a0_7z : Bool) (a0_7 : List Int) (a0_8z : Bool) (a0_8 : List T) : answer Try.prog impl_LightOk.Cs 100000 impl_LightOk.cuts [] Try.f28 (k + 1) [.v (.agg [(.int .i64 a0_0), (.int .i64 a0_1), (.int .i64 a0_2), (.int .i64 a0_3), (.int .i64 a0_4), (.sl 160 a0_5z a0_5), (.int .i64 a0_6), (.nums 5 .u8 a0_7z a0_7), (.sl 124 a0_8z a0_8)])] = (impl_LightOk.f (k + 1) a0_0 a0_1 a0_2 a0_3 a0_4 a0_5z a0_5 a0_6 a0_7z a0_7 a0_8z a0_8).map impl_LightOk.enc := by
  have ih := impl_LightOk.rounds_eq a0_0 a0_1 a0_2 a0_3 a0_4 a0_5z a0_5 a0_6 a0_7z a0_7 a0_8z a0_8 k
  refine (impl_LightOk.s k a0_0 a0_1 a0_2 a0_3 a0_4 a0_5z a0_5 a0_6 a0_7z a0_7 a0_8z a0_8).trans (Eq.trans ?_ (impl_LightOk.b_nat impl_LightOk.enc some (impl_LightOk.l0 k) k a0_0 a0_1 a0_2 a0_3 a0_4 a0_5z a0_5 a0_6 a0_7z a0_7 a0_8z a0_8))
  simp only [ih, Option.map_some]
theorem impl_LightOk.sound (k : Nat) : SoundF Try.prog 28 (fun a => (impl_LightOk.ans k a).val) := by
  refine sound_plain (fun args res h => ?_) (fun t n => rfl)
  unfold impl_LightOk.ans at h
  dsimp only at h
  split at h
  · cases k with
    | zero => cases h
    | succ k =>
      unfold Ans.val at h
      rw [← impl_LightOk.eq] at h
      exact answer_sound mixed Try.func28 _ _ _ (k + 1) (fun j _ => tab_sound (tab_cons (impl_HeadOk.sound j) (tab_cons (impl_belongs.sound j) (tab_cons (impl_PushOk.sound j) (tab_nil))))) _ _ h
  · exact (Ans.no_val h).elim

/-! loop.example/g00790/laws.eqLimits -/
def laws_eqLimits.b {R : Type} (ret : Bool → Option R) (k : Nat) (a0_0 : Int) (a0_1 : Int) (a0_2 : Int) (a0_3 : Int) (a0_4 : Int) (a1_0 : Int) (a1_1 : Int) (a1_2 : Int) (a1_3 : Int) (a1_4 : Int) : Option R :=
  cond (!(decide (a0_0 = a1_0))) (ret false) (cond (!(decide (a0_1 = a1_1))) (ret false) (cond (!(decide (a0_2 = a1_2))) (ret false) (cond (!(decide (a0_3 = a1_3))) (ret false) (cond (!(decide (a0_4 = a1_4))) (ret false) (ret true)))))
def laws_eqLimits.f : Nat → Int → Int → Int → Int → Int → Int → Int → Int → Int → Int → Option Bool
  | 0, _, _, _, _, _, _, _, _, _, _ => none
  | k + 1, a0_0, a0_1, a0_2, a0_3, a0_4, a1_0, a1_1, a1_2, a1_3, a1_4 => laws_eqLimits.b some k a0_0 a0_1 a0_2 a0_3 a0_4 a1_0 a1_1 a1_2 a1_3 a1_4
def laws_eqLimits.enc (r : Bool) : Res := ⟨[.vals false [((.bool r), true)]], []⟩
def laws_eqLimits.ans (k : Nat) : List Arg → Ans
  | [.v (.agg [(.int .i64 a0_0), (.int .i64 a0_1), (.int .i64 a0_2), (.int .i64 a0_3), (.int .i64 a0_4)]), .v (.agg [(.int .i64 a1_0), (.int .i64 a1_1), (.int .i64 a1_2), (.int .i64 a1_3), (.int .i64 a1_4)])] => ⟨laws_eqLimits.f k a0_0 a0_1 a0_2 a0_3 a0_4 a1_0 a1_1 a1_2 a1_3 a1_4, laws_eqLimits.enc⟩
  | _ => Ans.no
def laws_eqLimits.Cs (k : Nat) : CallSem := tab []
def laws_eqLimits.cuts : List (Nat × Keep) := []
theorem laws_eqLimits.s (k : Nat) (a0_0 : Int) (a0_1 : Int) (a0_2 : Int) (a0_3 : Int) (a0_4 : Int) (a1_0 : Int) (a1_1 : Int) (a1_2 : Int) (a1_3 : Int) (a1_4 : Int) : answer Try.prog laws_eqLimits.Cs 100000 laws_eqLimits.cuts [] Try.f87 (k + 1) [.v (.agg [(.int .i64 a0_0), (.int .i64 a0_1), (.int .i64 a0_2), (.int .i64 a0_3), (.int .i64 a0_4)]), .v (.agg [(.int .i64 a1_0), (.int .i64 a1_1), (.int .i64 a1_2), (.int .i64 a1_3), (.int .i64 a1_4)])] = laws_eqLimits.b (fun r => some (laws_eqLimits.enc r)) k a0_0 a0_1 a0_2 a0_3 a0_4 a1_0 a1_1 a1_2 a1_3 a1_4 := by kernel_rfl
theorem laws_eqLimits.b_nat {R R' : Type} (e : R → R') (ret : Bool → Option R) (k : Nat) (a0_0 : Int) (a0_1 : Int) (a0_2 : Int) (a0_3 : Int) (a0_4 : Int) (a1_0 : Int) (a1_1 : Int) (a1_2 : Int) (a1_3 : Int) (a1_4 : Int) : laws_eqLimits.b (fun r => (ret r).map e) k a0_0 a0_1 a0_2 a0_3 a0_4 a1_0 a1_1 a1_2 a1_3 a1_4 = (laws_eqLimits.b ret k a0_0 a0_1 a0_2 a0_3 a0_4 a1_0 a1_1 a1_2 a1_3 a1_4).map e := by
  unfold laws_eqLimits.b
  repeat' first | with_reducible refine nat_cond ?_ ?_ | with_reducible refine nat_bind fun _ => ?_ | rfl
theorem laws_eqLimits.eq (k : Nat) (a0_0 : Int) (a0_1 : Int) (a0_2 : Int) (a0_3 : Int) (a0_4 : Int) (a1_0 : Int) (a1_1 : Int) (a1_2 : Int) (a1_3 : Int) (a1_4 : Int) : answer Try.prog laws_eqLimits.Cs 100000 laws_eqLimits.cuts [] Try.f87 (k + 1) [.v (.agg [(.int .i64 a0_0), (.int .i64 a0_1), (.int .i64 a0_2), (.int .i64 a0_3), (.int .i64 a0_4)]), .v (.agg [(.int .i64 a1_0), (.int .i64 a1_1), (.int .i64 a1_2), (.int .i64 a1_3), (.int .i64 a1_4)])] = (laws_eqLimits.f (k + 1) a0_0 a0_1 a0_2 a0_3 a0_4 a1_0 a1_1 a1_2 a1_3 a1_4).map laws_eqLimits.enc := by
  refine (laws_eqLimits.s k a0_0 a0_1 a0_2 a0_3 a0_4 a1_0 a1_1 a1_2 a1_3 a1_4).trans (Eq.trans ?_ (laws_eqLimits.b_nat laws_eqLimits.enc some k a0_0 a0_1 a0_2 a0_3 a0_4 a1_0 a1_1 a1_2 a1_3 a1_4))
  simp only [Option.map_some]
theorem laws_eqLimits.sound (k : Nat) : SoundF Try.prog 87 (fun a => (laws_eqLimits.ans k a).val) := by
  refine sound_plain (fun args res h => ?_) (fun t n => rfl)
  unfold laws_eqLimits.ans at h
  dsimp only at h
  split at h
  · cases k with
    | zero => cases h
    | succ k =>
      unfold Ans.val at h
      rw [← laws_eqLimits.eq] at h
      exact answer_sound mixed Try.func87 _ _ _ (k + 1) (fun j _ => tab_sound (tab_nil)) _ _ h
  · exact (Ans.no_val h).elim

end Go.Proofs.YtadnejogdohfkaaG
