/- What the functions compute, printed by a program of this repo; each is shown to be what the machine of values answers. No condition. -/
import Derived.Test.YthocpcfjfgnkgaaProg
import Derived.KernelRfl
import Derived.Test.YthocpcfjfgnkgaaLay
namespace Go.Proofs.YthocpcfjfgnkgaaG
open Go Go.Proofs.YthocpcfjfgnkgaaRv Go.Proofs
set_option linter.unusedVariables false
set_option linter.unusedSimpArgs false
theorem mixed : Try.prog.follows .mixedOrders = true := by kernel_rfl
/-! loop.example/g00790/spec.l01New -/
def spec_l01New.b {R : Type} (ret : Bool × (List Int) × Int × Int → Option R) (j0 : Bool → (List Int) → Int → Int → Option R) (k : Nat) (a0z : Bool) (a0 : List Int) : Option R :=
  j0 a0z a0 (RowKit.wrap64 ((1611 : Int) + ((a0).length : Int))) 0
def spec_l01New.l0b {R : Type} (ret : Bool × (List Int) × Int × Int → Option R) (j0 : Bool → (List Int) → Int → Int → Option R) (k : Nat) (x0z : Bool) (x0 : List Int) (x3 : Int) (x4 : Int) : Option R :=
  cond (decide (x4 < ((x0).length : Int))) (cond (decide (x4 < 4000)) (cond (decide ((0 : Int) ≤ x4)) (cond (decide (x4 < ((x0).length : Int))) (j0 x0z x0 (Go.bits .and .i64 (RowKit.wrap64 ((RowKit.wrap64 ((RowKit.wrap64 (x3 * 37)) + (RowKit.wrap64 ((rdI x0 x4))))) + 7)) 1073741823) (RowKit.wrap64 (x4 + 1))) (none)) (none)) (ret (x0z, x0, 0, x3))) (ret (x0z, x0, 0, x3))
def spec_l01New.l0 : Nat → Bool → (List Int) → Int → Int → Option (Bool × (List Int) × Int × Int)
  | 0, _, _, _, _ => none
  | k + 1, x0z, x0, x3, x4 => spec_l01New.l0b some (spec_l01New.l0 k) k x0z x0 x3 x4
def spec_l01New.f : Nat → Bool → (List Int) → Option (Bool × (List Int) × Int × Int)
  | 0, _, _ => none
  | k + 1, a0z, a0 => spec_l01New.b some (spec_l01New.l0 k) k a0z a0
def spec_l01New.enc (r : Bool × (List Int) × Int × Int) : Res := ⟨[.box [((.nums 5 .u8 r.1 r.2.1), false), ((.int .i64 r.2.2.1), true), ((.int .i64 r.2.2.2), true)]], []⟩
def spec_l01New.ans (k : Nat) : List Arg → Ans
  | [.v (.nums 5 .u8 a0z a0)] => ⟨spec_l01New.f k a0z a0, spec_l01New.enc⟩
  | _ => Ans.no
def spec_l01New.Cs (k : Nat) : CallSem := tab []
def spec_l01New.cuts : List (Nat × Keep) := [(58, ⟨[(0, some []), (3, some []), (4, some [])], []⟩)]
noncomputable def spec_l01New.K0 : List Fr := framesAt [true, true, false, true, false] (bodyOf Try.f19 spec_l01New.cuts) []
def spec_l01New.N0 (x0z : Bool) (x0 : List Int) (x3 : Int) (x4 : Int) : St := stOf 32 32 1 [(0, .val ⟨(.nums 5 .u8 x0z x0), [], false, none⟩), (3, .val (V.s (.int .i64 x3))), (4, .val (V.s (.int .i64 x4)))] []
theorem spec_l01New.s (k : Nat) (a0z : Bool) (a0 : List Int) : answer Try.prog spec_l01New.Cs 100000 spec_l01New.cuts [false, true, true] Try.f19 (k + 1) [.v (.nums 5 .u8 a0z a0)] = spec_l01New.b (fun r => some (spec_l01New.enc r)) (fun x0z x0 x3 x4 => rounds Try.prog spec_l01New.Cs (finish Try.prog [false, true, true] Try.f19 [.v (.nums 5 .u8 a0z a0)]) 100000 k spec_l01New.K0 (spec_l01New.N0 x0z x0 x3 x4)) k a0z a0 := by kernel_rfl
theorem spec_l01New.s0 (k : Nat) (G : List Fr → St → Option Res) (a0z : Bool) (a0 : List Int) (yx0z : Bool) (yx0 : List Int) (yx3 : Int) (yx4 : Int) : resume Try.prog (spec_l01New.Cs k) G (finish Try.prog [false, true, true] Try.f19 [.v (.nums 5 .u8 a0z a0)]) 100000 spec_l01New.K0 (spec_l01New.N0 yx0z yx0 yx3 yx4) = spec_l01New.l0b (fun r => some (spec_l01New.enc r)) (fun x0z x0 x3 x4 => G spec_l01New.K0 (spec_l01New.N0 x0z x0 x3 x4)) k yx0z yx0 yx3 yx4 := by kernel_rfl
theorem spec_l01New.b_nat {R R' : Type} (e : R → R') (ret : Bool × (List Int) × Int × Int → Option R) (j0 : Bool → (List Int) → Int → Int → Option R) (k : Nat) (a0z : Bool) (a0 : List Int) : spec_l01New.b (fun r => (ret r).map e) (fun x0z x0 x3 x4 => (j0 x0z x0 x3 x4).map e) k a0z a0 = (spec_l01New.b ret j0 k a0z a0).map e := by
  unfold spec_l01New.b
  repeat' first | with_reducible refine nat_cond ?_ ?_ | with_reducible refine nat_bind fun _ => ?_ | rfl
theorem spec_l01New.l0b_nat {R R' : Type} (e : R → R') (ret : Bool × (List Int) × Int × Int → Option R) (j0 : Bool → (List Int) → Int → Int → Option R) (k : Nat) (x0z : Bool) (x0 : List Int) (x3 : Int) (x4 : Int) : spec_l01New.l0b (fun r => (ret r).map e) (fun x0z x0 x3 x4 => (j0 x0z x0 x3 x4).map e) k x0z x0 x3 x4 = (spec_l01New.l0b ret j0 k x0z x0 x3 x4).map e := by
  unfold spec_l01New.l0b
  repeat' first | with_reducible refine nat_cond ?_ ?_ | with_reducible refine nat_bind fun _ => ?_ | rfl
theorem spec_l01New.rounds_eq (a0z : Bool) (a0 : List Int) : ∀ k, (∀ (x0z : Bool) (x0 : List Int) (x3 : Int) (x4 : Int), rounds Try.prog spec_l01New.Cs (finish Try.prog [false, true, true] Try.f19 [.v (.nums 5 .u8 a0z a0)]) 100000 k spec_l01New.K0 (spec_l01New.N0 x0z x0 x3 x4) = (spec_l01New.l0 k x0z x0 x3 x4).map spec_l01New.enc)
  | 0 => fun _ _ _ _ => rfl
  | k + 1 => by
    have ih := spec_l01New.rounds_eq a0z a0 k
    refine fun _ _ _ _ => ?_
    · refine (spec_l01New.s0 k _ a0z a0 _ _ _ _).trans (Eq.trans ?_ (spec_l01New.l0b_nat spec_l01New.enc some (spec_l01New.l0 k) k _ _ _ _))
      simp only [ih, Option.map_some]
theorem spec_l01New.eq (k : Nat) (a0z : Bool) (a0 : List Int) : answer Try.prog spec_l01New.Cs 100000 spec_l01New.cuts [false, true, true] Try.f19 (k + 1) [.v (.nums 5 .u8 a0z a0)] = (spec_l01New.f (k + 1) a0z a0).map spec_l01New.enc := by
  have ih := spec_l01New.rounds_eq a0z a0 k
  refine (spec_l01New.s k a0z a0).trans (Eq.trans ?_ (spec_l01New.b_nat spec_l01New.enc some (spec_l01New.l0 k) k a0z a0))
  simp only [ih, Option.map_some]
theorem spec_l01New.sound (k : Nat) : SoundF Try.prog 19 (fun a => (spec_l01New.ans k a).val) := by
  refine sound_plain (fun args res h => ?_) (fun t n => rfl)
  unfold spec_l01New.ans at h
  dsimp only at h
  split at h
  · cases k with
    | zero => cases h
    | succ k =>
      unfold Ans.val at h
      rw [← spec_l01New.eq] at h
      exact answer_sound mixed Try.func19 _ _ _ (k + 1) (fun j _ => tab_sound (tab_nil)) _ _ h
  · exact (Ans.no_val h).elim

/-! loop.example/g00790/spec.l01Byte -/
def spec_l01Byte.b {R : Type} (ret : Int × Bool × (List Int) × Int × Int → Option R) (k : Nat) (a0_0z : Bool) (a0_0 : List Int) (a0_1 : Int) (a0_2 : Int) : Option R :=
  cond (decide (a0_1 < ((a0_0).length : Int))) (cond (decide ((0 : Int) ≤ a0_1)) (cond (decide (a0_1 < ((a0_0).length : Int))) (ret ((Go.bits .and .i64 (RowKit.wrap64 ((Go.bits .and .i64 (Go.bits .xor .i64 (shrI .i64 (RowKit.wrap64 ((RowKit.wrap64 (a0_2 * 6364136223846793005)) + 1442695040888963407)) 33) (shrI .i64 (RowKit.wrap64 ((RowKit.wrap64 (a0_2 * 6364136223846793005)) + 1442695040888963407)) 45)) 255) + (RowKit.wrap64 ((rdI a0_0 a0_1))))) 255), a0_0z, a0_0, (RowKit.wrap64 (a0_1 + 1)), (RowKit.wrap64 ((RowKit.wrap64 (a0_2 * 6364136223846793005)) + 1442695040888963407)))) (none)) (none)) (ret ((Go.bits .and .i64 (Go.bits .xor .i64 (shrI .i64 (RowKit.wrap64 ((RowKit.wrap64 (a0_2 * 6364136223846793005)) + 1442695040888963407)) 33) (shrI .i64 (RowKit.wrap64 ((RowKit.wrap64 (a0_2 * 6364136223846793005)) + 1442695040888963407)) 45)) 255), a0_0z, a0_0, a0_1, (RowKit.wrap64 ((RowKit.wrap64 (a0_2 * 6364136223846793005)) + 1442695040888963407))))
def spec_l01Byte.f : Nat → Bool → (List Int) → Int → Int → Option (Int × Bool × (List Int) × Int × Int)
  | 0, _, _, _, _ => none
  | k + 1, a0_0z, a0_0, a0_1, a0_2 => spec_l01Byte.b some k a0_0z a0_0 a0_1 a0_2
def spec_l01Byte.enc (r : Int × Bool × (List Int) × Int × Int) : Res := ⟨[.vals false [((.int .i64 r.1), true)]], [[((.nums 5 .u8 r.2.1 r.2.2.1), false), ((.int .i64 r.2.2.2.1), true), ((.int .i64 r.2.2.2.2), true)]]⟩
def spec_l01Byte.ans (k : Nat) : List Arg → Ans
  | [.box [((.nums 5 .u8 a0_0z a0_0), false), ((.int .i64 a0_1), false), ((.int .i64 a0_2), false)]] => ⟨spec_l01Byte.f k a0_0z a0_0 a0_1 a0_2, spec_l01Byte.enc⟩
  | _ => Ans.no
def spec_l01Byte.Cs (k : Nat) : CallSem := tab []
def spec_l01Byte.cuts : List (Nat × Keep) := []
theorem spec_l01Byte.s (k : Nat) (a0_0z : Bool) (a0_0 : List Int) (a0_1 : Int) (a0_2 : Int) : answer Try.prog spec_l01Byte.Cs 100000 spec_l01Byte.cuts [true, false, true, true] Try.f55 (k + 1) [.box [((.nums 5 .u8 a0_0z a0_0), false), ((.int .i64 a0_1), false), ((.int .i64 a0_2), false)]] = spec_l01Byte.b (fun r => some (spec_l01Byte.enc r)) k a0_0z a0_0 a0_1 a0_2 := by kernel_rfl
theorem spec_l01Byte.b_nat {R R' : Type} (e : R → R') (ret : Int × Bool × (List Int) × Int × Int → Option R) (k : Nat) (a0_0z : Bool) (a0_0 : List Int) (a0_1 : Int) (a0_2 : Int) : spec_l01Byte.b (fun r => (ret r).map e) k a0_0z a0_0 a0_1 a0_2 = (spec_l01Byte.b ret k a0_0z a0_0 a0_1 a0_2).map e := by
  unfold spec_l01Byte.b
  repeat' first | with_reducible refine nat_cond ?_ ?_ | with_reducible refine nat_bind fun _ => ?_ | rfl
theorem spec_l01Byte.eq (k : Nat) (a0_0z : Bool) (a0_0 : List Int) (a0_1 : Int) (a0_2 : Int) : answer Try.prog spec_l01Byte.Cs 100000 spec_l01Byte.cuts [true, false, true, true] Try.f55 (k + 1) [.box [((.nums 5 .u8 a0_0z a0_0), false), ((.int .i64 a0_1), false), ((.int .i64 a0_2), false)]] = (spec_l01Byte.f (k + 1) a0_0z a0_0 a0_1 a0_2).map spec_l01Byte.enc := by
  refine (spec_l01Byte.s k a0_0z a0_0 a0_1 a0_2).trans (Eq.trans ?_ (spec_l01Byte.b_nat spec_l01Byte.enc some k a0_0z a0_0 a0_1 a0_2))
  simp only [Option.map_some]
theorem spec_l01Byte.sound (k : Nat) : SoundF Try.prog 55 (fun a => (spec_l01Byte.ans k a).val) := by
  refine sound_plain (fun args res h => ?_) (fun t n => rfl)
  unfold spec_l01Byte.ans at h
  dsimp only at h
  split at h
  · cases k with
    | zero => cases h
    | succ k =>
      unfold Ans.val at h
      rw [← spec_l01Byte.eq] at h
      exact answer_sound mixed Try.func55 _ _ _ (k + 1) (fun j _ => tab_sound (tab_nil)) _ _ h
  · exact (Ans.no_val h).elim

/-! loop.example/g00790/spec.l01Below -/
def spec_l01Below.b {R : Type} (ret : Int × Bool × (List Int) × Int × Int → Option R) (k : Nat) (a0_0z : Bool) (a0_0 : List Int) (a0_1 : Int) (a0_2 : Int) (a1 : Int) : Option R :=
  cond (decide (a1 ≤ 0)) (ret (0, a0_0z, a0_0, a0_1, a0_2)) (cond (decide (a1 ≤ 256)) ((spec_l01Byte.f k a0_0z a0_0 a0_1 a0_2).bind fun t0 => cond (!(decide (a1 = 0))) (ret ((Int.tmod t0.1 a1), t0.2.1, t0.2.2.1, t0.2.2.2.1, t0.2.2.2.2)) (none)) ((spec_l01Byte.f k a0_0z a0_0 a0_1 a0_2).bind fun t0 => (spec_l01Byte.f k t0.2.1 t0.2.2.1 t0.2.2.2.1 t0.2.2.2.2).bind fun t1 => (spec_l01Byte.f k t1.2.1 t1.2.2.1 t1.2.2.2.1 t1.2.2.2.2).bind fun t2 => (spec_l01Byte.f k t2.2.1 t2.2.2.1 t2.2.2.2.1 t2.2.2.2.2).bind fun t3 => cond (!(decide (a1 = 0))) (ret ((Int.tmod (RowKit.wrap64 ((RowKit.wrap64 ((RowKit.wrap64 ((RowKit.wrap64 (t0.1 * 16777216)) + (RowKit.wrap64 (t1.1 * 65536)))) + (RowKit.wrap64 (t2.1 * 256)))) + t3.1)) a1), t3.2.1, t3.2.2.1, t3.2.2.2.1, t3.2.2.2.2)) (none)))
def spec_l01Below.f : Nat → Bool → (List Int) → Int → Int → Int → Option (Int × Bool × (List Int) × Int × Int)
  | 0, _, _, _, _, _ => none
  | k + 1, a0_0z, a0_0, a0_1, a0_2, a1 => spec_l01Below.b some k a0_0z a0_0 a0_1 a0_2 a1
def spec_l01Below.enc (r : Int × Bool × (List Int) × Int × Int) : Res := ⟨[.vals false [((.int .i64 r.1), true)]], [[((.nums 5 .u8 r.2.1 r.2.2.1), false), ((.int .i64 r.2.2.2.1), true), ((.int .i64 r.2.2.2.2), true)]]⟩
def spec_l01Below.ans (k : Nat) : List Arg → Ans
  | [.box [((.nums 5 .u8 a0_0z a0_0), false), ((.int .i64 a0_1), false), ((.int .i64 a0_2), false)], .v (.int .i64 a1)] => ⟨spec_l01Below.f k a0_0z a0_0 a0_1 a0_2 a1, spec_l01Below.enc⟩
  | _ => Ans.no
def spec_l01Below.Cs (k : Nat) : CallSem := tab [(55, spec_l01Byte.ans k)]
def spec_l01Below.cuts : List (Nat × Keep) := []
theorem spec_l01Below.s (k : Nat) (a0_0z : Bool) (a0_0 : List Int) (a0_1 : Int) (a0_2 : Int) (a1 : Int) : answer Try.prog spec_l01Below.Cs 100000 spec_l01Below.cuts [true, false, true, true] Try.f37 (k + 1) [.box [((.nums 5 .u8 a0_0z a0_0), false), ((.int .i64 a0_1), false), ((.int .i64 a0_2), false)], .v (.int .i64 a1)] = spec_l01Below.b (fun r => some (spec_l01Below.enc r)) k a0_0z a0_0 a0_1 a0_2 a1 := by kernel_rfl
theorem spec_l01Below.b_nat {R R' : Type} (e : R → R') (ret : Int × Bool × (List Int) × Int × Int → Option R) (k : Nat) (a0_0z : Bool) (a0_0 : List Int) (a0_1 : Int) (a0_2 : Int) (a1 : Int) : spec_l01Below.b (fun r => (ret r).map e) k a0_0z a0_0 a0_1 a0_2 a1 = (spec_l01Below.b ret k a0_0z a0_0 a0_1 a0_2 a1).map e := by
  unfold spec_l01Below.b
  repeat' first | with_reducible refine nat_cond ?_ ?_ | with_reducible refine nat_bind fun _ => ?_ | rfl
theorem spec_l01Below.eq (k : Nat) (a0_0z : Bool) (a0_0 : List Int) (a0_1 : Int) (a0_2 : Int) (a1 : Int) : answer Try.prog spec_l01Below.Cs 100000 spec_l01Below.cuts [true, false, true, true] Try.f37 (k + 1) [.box [((.nums 5 .u8 a0_0z a0_0), false), ((.int .i64 a0_1), false), ((.int .i64 a0_2), false)], .v (.int .i64 a1)] = (spec_l01Below.f (k + 1) a0_0z a0_0 a0_1 a0_2 a1).map spec_l01Below.enc := by
  refine (spec_l01Below.s k a0_0z a0_0 a0_1 a0_2 a1).trans (Eq.trans ?_ (spec_l01Below.b_nat spec_l01Below.enc some k a0_0z a0_0 a0_1 a0_2 a1))
  simp only [Option.map_some]
theorem spec_l01Below.sound (k : Nat) : SoundF Try.prog 37 (fun a => (spec_l01Below.ans k a).val) := by
  refine sound_plain (fun args res h => ?_) (fun t n => rfl)
  unfold spec_l01Below.ans at h
  dsimp only at h
  split at h
  · cases k with
    | zero => cases h
    | succ k =>
      unfold Ans.val at h
      rw [← spec_l01Below.eq] at h
      exact answer_sound mixed Try.func37 _ _ _ (k + 1) (fun j _ => tab_sound (tab_cons (spec_l01Byte.sound j) (tab_nil))) _ _ h
  · exact (Ans.no_val h).elim

/-! loop.example/g00790/spec.l01Pick -/
def spec_l01Pick.b {R : Type} (ret : Int × Bool × (List Int) × Int × Int → Option R) (k : Nat) (a0_0z : Bool) (a0_0 : List Int) (a0_1 : Int) (a0_2 : Int) (a1z : Bool) (a1 : List Int) : Option R :=
  (spec_l01Below.f k a0_0z a0_0 a0_1 a0_2 ((a1).length : Int)).bind fun t0 => cond (decide ((0 : Int) ≤ t0.1)) (cond (decide (t0.1 < ((a1).length : Int))) (ret ((rdI a1 t0.1), t0.2.1, t0.2.2.1, t0.2.2.2.1, t0.2.2.2.2)) (none)) (none)
def spec_l01Pick.f : Nat → Bool → (List Int) → Int → Int → Bool → (List Int) → Option (Int × Bool × (List Int) × Int × Int)
  | 0, _, _, _, _, _, _ => none
  | k + 1, a0_0z, a0_0, a0_1, a0_2, a1z, a1 => spec_l01Pick.b some k a0_0z a0_0 a0_1 a0_2 a1z a1
def spec_l01Pick.enc (r : Int × Bool × (List Int) × Int × Int) : Res := ⟨[.vals false [((.int .i64 r.1), true)]], [[((.nums 5 .u8 r.2.1 r.2.2.1), false), ((.int .i64 r.2.2.2.1), true), ((.int .i64 r.2.2.2.2), true)]]⟩
def spec_l01Pick.ans (k : Nat) : List Arg → Ans
  | [.box [((.nums 5 .u8 a0_0z a0_0), false), ((.int .i64 a0_1), false), ((.int .i64 a0_2), false)], .v (.nums 3 .i64 a1z a1)] => ⟨spec_l01Pick.f k a0_0z a0_0 a0_1 a0_2 a1z a1, spec_l01Pick.enc⟩
  | _ => Ans.no
def spec_l01Pick.Cs (k : Nat) : CallSem := tab [(37, spec_l01Below.ans k)]
def spec_l01Pick.cuts : List (Nat × Keep) := []
theorem spec_l01Pick.s (k : Nat) (a0_0z : Bool) (a0_0 : List Int) (a0_1 : Int) (a0_2 : Int) (a1z : Bool) (a1 : List Int) : answer Try.prog spec_l01Pick.Cs 100000 spec_l01Pick.cuts [true, false, true, true] Try.f54 (k + 1) [.box [((.nums 5 .u8 a0_0z a0_0), false), ((.int .i64 a0_1), false), ((.int .i64 a0_2), false)], .v (.nums 3 .i64 a1z a1)] = spec_l01Pick.b (fun r => some (spec_l01Pick.enc r)) k a0_0z a0_0 a0_1 a0_2 a1z a1 := by kernel_rfl
theorem spec_l01Pick.b_nat {R R' : Type} (e : R → R') (ret : Int × Bool × (List Int) × Int × Int → Option R) (k : Nat) (a0_0z : Bool) (a0_0 : List Int) (a0_1 : Int) (a0_2 : Int) (a1z : Bool) (a1 : List Int) : spec_l01Pick.b (fun r => (ret r).map e) k a0_0z a0_0 a0_1 a0_2 a1z a1 = (spec_l01Pick.b ret k a0_0z a0_0 a0_1 a0_2 a1z a1).map e := by
  unfold spec_l01Pick.b
  repeat' first | with_reducible refine nat_cond ?_ ?_ | with_reducible refine nat_bind fun _ => ?_ | rfl
theorem spec_l01Pick.eq (k : Nat) (a0_0z : Bool) (a0_0 : List Int) (a0_1 : Int) (a0_2 : Int) (a1z : Bool) (a1 : List Int) : answer Try.prog spec_l01Pick.Cs 100000 spec_l01Pick.cuts [true, false, true, true] Try.f54 (k + 1) [.box [((.nums 5 .u8 a0_0z a0_0), false), ((.int .i64 a0_1), false), ((.int .i64 a0_2), false)], .v (.nums 3 .i64 a1z a1)] = (spec_l01Pick.f (k + 1) a0_0z a0_0 a0_1 a0_2 a1z a1).map spec_l01Pick.enc := by
  refine (spec_l01Pick.s k a0_0z a0_0 a0_1 a0_2 a1z a1).trans (Eq.trans ?_ (spec_l01Pick.b_nat spec_l01Pick.enc some k a0_0z a0_0 a0_1 a0_2 a1z a1))
  simp only [Option.map_some]
theorem spec_l01Pick.sound (k : Nat) : SoundF Try.prog 54 (fun a => (spec_l01Pick.ans k a).val) := by
  refine sound_plain (fun args res h => ?_) (fun t n => rfl)
  unfold spec_l01Pick.ans at h
  dsimp only at h
  split at h
  · cases k with
    | zero => cases h
    | succ k =>
      unfold Ans.val at h
      rw [← spec_l01Pick.eq] at h
      exact answer_sound mixed Try.func54 _ _ _ (k + 1) (fun j _ => tab_sound (tab_cons (spec_l01Below.sound j) (tab_nil))) _ _ h
  · exact (Ans.no_val h).elim

/-! loop.example/g00790/spec.l10Draw -/
def spec_l10Draw.b {R : Type} (ret : Int × Int × Int × Int × Int × Bool × (List Int) × Int × Int → Option R) (k : Nat) (a0_0z : Bool) (a0_0 : List Int) (a0_1 : Int) (a0_2 : Int) : Option R :=
  (spec_l01Pick.f k a0_0z a0_0 a0_1 a0_2 false ([1, 3, 4, 4, 7, 9, 10] : List Int)).bind fun t0 => (spec_l01Pick.f k t0.2.1 t0.2.2.1 t0.2.2.2.1 t0.2.2.2.2 false ([0, 4, 8, 40] : List Int)).bind fun t1 => (spec_l01Pick.f k t1.2.1 t1.2.2.1 t1.2.2.2.1 t1.2.2.2.2 false ([0, 3, 8] : List Int)).bind fun t2 => (spec_l01Pick.f k t2.2.1 t2.2.2.1 t2.2.2.2.1 t2.2.2.2.2 false ([4000, 4000, 300, 60] : List Int)).bind fun t3 => (spec_l01Below.f k t3.2.1 t3.2.2.1 t3.2.2.2.1 t3.2.2.2.2 3).bind fun t4 => ret (t0.1, t1.1, t2.1, t3.1, (RowKit.wrap64 ((3 : Int) + t4.1)), t4.2.1, t4.2.2.1, t4.2.2.2.1, t4.2.2.2.2)
def spec_l10Draw.f : Nat → Bool → (List Int) → Int → Int → Option (Int × Int × Int × Int × Int × Bool × (List Int) × Int × Int)
  | 0, _, _, _, _ => none
  | k + 1, a0_0z, a0_0, a0_1, a0_2 => spec_l10Draw.b some k a0_0z a0_0 a0_1 a0_2
def spec_l10Draw.enc (r : Int × Int × Int × Int × Int × Bool × (List Int) × Int × Int) : Res := ⟨[.vals true [((.int .i64 r.1), true), ((.int .i64 r.2.1), true), ((.int .i64 r.2.2.1), true), ((.int .i64 r.2.2.2.1), true), ((.int .i64 r.2.2.2.2.1), true)]], [[((.nums 5 .u8 r.2.2.2.2.2.1 r.2.2.2.2.2.2.1), false), ((.int .i64 r.2.2.2.2.2.2.2.1), true), ((.int .i64 r.2.2.2.2.2.2.2.2), true)]]⟩
def spec_l10Draw.ans (k : Nat) : List Arg → Ans
  | [.box [((.nums 5 .u8 a0_0z a0_0), false), ((.int .i64 a0_1), false), ((.int .i64 a0_2), false)]] => ⟨spec_l10Draw.f k a0_0z a0_0 a0_1 a0_2, spec_l10Draw.enc⟩
  | _ => Ans.no
def spec_l10Draw.Cs (k : Nat) : CallSem := tab [(54, spec_l01Pick.ans k), (37, spec_l01Below.ans k)]
def spec_l10Draw.cuts : List (Nat × Keep) := []
theorem spec_l10Draw.s (k : Nat) (a0_0z : Bool) (a0_0 : List Int) (a0_1 : Int) (a0_2 : Int) : answer Try.prog spec_l10Draw.Cs 100000 spec_l10Draw.cuts [true, true, true, true, true, false, true, true] Try.f36 (k + 1) [.box [((.nums 5 .u8 a0_0z a0_0), false), ((.int .i64 a0_1), false), ((.int .i64 a0_2), false)]] = spec_l10Draw.b (fun r => some (spec_l10Draw.enc r)) k a0_0z a0_0 a0_1 a0_2 := by kernel_rfl
theorem spec_l10Draw.b_nat {R R' : Type} (e : R → R') (ret : Int × Int × Int × Int × Int × Bool × (List Int) × Int × Int → Option R) (k : Nat) (a0_0z : Bool) (a0_0 : List Int) (a0_1 : Int) (a0_2 : Int) : spec_l10Draw.b (fun r => (ret r).map e) k a0_0z a0_0 a0_1 a0_2 = (spec_l10Draw.b ret k a0_0z a0_0 a0_1 a0_2).map e := by
  unfold spec_l10Draw.b
  repeat' first | with_reducible refine nat_cond ?_ ?_ | with_reducible refine nat_bind fun _ => ?_ | rfl
theorem spec_l10Draw.eq (k : Nat) (a0_0z : Bool) (a0_0 : List Int) (a0_1 : Int) (a0_2 : Int) : answer Try.prog spec_l10Draw.Cs 100000 spec_l10Draw.cuts [true, true, true, true, true, false, true, true] Try.f36 (k + 1) [.box [((.nums 5 .u8 a0_0z a0_0), false), ((.int .i64 a0_1), false), ((.int .i64 a0_2), false)]] = (spec_l10Draw.f (k + 1) a0_0z a0_0 a0_1 a0_2).map spec_l10Draw.enc := by
  refine (spec_l10Draw.s k a0_0z a0_0 a0_1 a0_2).trans (Eq.trans ?_ (spec_l10Draw.b_nat spec_l10Draw.enc some k a0_0z a0_0 a0_1 a0_2))
  simp only [Option.map_some]
theorem spec_l10Draw.sound (k : Nat) : SoundF Try.prog 36 (fun a => (spec_l10Draw.ans k a).val) := by
  refine sound_plain (fun args res h => ?_) (fun t n => rfl)
  unfold spec_l10Draw.ans at h
  dsimp only at h
  split at h
  · cases k with
    | zero => cases h
    | succ k =>
      unfold Ans.val at h
      rw [← spec_l10Draw.eq] at h
      exact answer_sound mixed Try.func36 _ _ _ (k + 1) (fun j _ => tab_sound (tab_cons (spec_l01Pick.sound j) (tab_cons (spec_l01Below.sound j) (tab_nil)))) _ _ h
  · exact (Ans.no_val h).elim

/-! loop.example/g00790/spec.l21Draw -/
def spec_l21Draw.b {R : Type} (ret : Bool × (List T) × Bool × (List Int) × Int × Int → Option R) (j0 : Int → Int → Bool → (List Int) → Int → Int → Bool → (List T) → Option R) (k : Nat) (a0_0z : Bool) (a0_0 : List Int) (a0_1 : Int) (a0_2 : Int) (a1 : Int) : Option R :=
  j0 a1 0 a0_0z a0_0 a0_1 a0_2 true ([] : List T)
def spec_l21Draw.l0b {R : Type} (ret : Bool × (List T) × Bool × (List Int) × Int × Int → Option R) (j0 : Int → Int → Bool → (List Int) → Int → Int → Bool → (List T) → Option R) (k : Nat) (x1 : Int) (x6 : Int) (c0_0z : Bool) (c0_0 : List Int) (c0_1 : Int) (c0_2 : Int) (c5_0z : Bool) (c5_0 : List T) : Option R :=
  cond (decide (x6 < x1)) ((spec_l01Below.f k c0_0z c0_0 c0_1 c0_2 9).bind fun t0 => (spec_l01Pick.f k t0.2.1 t0.2.2.1 t0.2.2.2.1 t0.2.2.2.2 false ([1, 1, 1, 2, 5, 1099511627776, (RowKit.wrap64 ((1 : Int) + t0.1))] : List Int)).bind fun t1 => (spec_l01Below.f k t1.2.1 t1.2.2.1 t1.2.2.2.1 t1.2.2.2.2 9).bind fun t2 => cond (decide ((c5_0).length + 1 < 4398046511104)) (j0 x1 (RowKit.wrap64 (x6 + 1)) t2.2.1 t2.2.2.1 t2.2.2.2.1 t2.2.2.2.2 false (c5_0 ++ ([(.agg [(.int .i64 t1.1), (.nums 5 .u8 false ([((x6) % 256), ((t2.1) % 256), 1] : List Int))])] : List T))) (none)) (ret (c5_0z, c5_0, c0_0z, c0_0, c0_1, c0_2))
def spec_l21Draw.l0 : Nat → Int → Int → Bool → (List Int) → Int → Int → Bool → (List T) → Option (Bool × (List T) × Bool × (List Int) × Int × Int)
  | 0, _, _, _, _, _, _, _, _ => none
  | k + 1, x1, x6, c0_0z, c0_0, c0_1, c0_2, c5_0z, c5_0 => spec_l21Draw.l0b some (spec_l21Draw.l0 k) k x1 x6 c0_0z c0_0 c0_1 c0_2 c5_0z c5_0
def spec_l21Draw.f : Nat → Bool → (List Int) → Int → Int → Int → Option (Bool × (List T) × Bool × (List Int) × Int × Int)
  | 0, _, _, _, _, _ => none
  | k + 1, a0_0z, a0_0, a0_1, a0_2, a1 => spec_l21Draw.b some (spec_l21Draw.l0 k) k a0_0z a0_0 a0_1 a0_2 a1
def spec_l21Draw.enc (r : Bool × (List T) × Bool × (List Int) × Int × Int) : Res := ⟨[.vals true [((.sl 82 r.1 r.2.1), true)]], [[((.nums 5 .u8 r.2.2.1 r.2.2.2.1), false), ((.int .i64 r.2.2.2.2.1), true), ((.int .i64 r.2.2.2.2.2), true)]]⟩
def spec_l21Draw.ans (k : Nat) : List Arg → Ans
  | [.box [((.nums 5 .u8 a0_0z a0_0), false), ((.int .i64 a0_1), false), ((.int .i64 a0_2), false)], .v (.int .i64 a1)] => ⟨spec_l21Draw.f k a0_0z a0_0 a0_1 a0_2 a1, spec_l21Draw.enc⟩
  | _ => Ans.no
def spec_l21Draw.Cs (k : Nat) : CallSem := tab [(54, spec_l01Pick.ans k), (37, spec_l01Below.ans k)]
def spec_l21Draw.cuts : List (Nat × Keep) := [(58, ⟨[(0, some []), (1, some []), (4, some []), (5, some []), (6, some [])], [(0, [some [], some [], some []]), (4, [none]), (5, [none])]⟩)]
noncomputable def spec_l21Draw.K0 : List Fr := framesAt [true, true, false, true, false] (bodyOf Try.f38 spec_l21Draw.cuts) []
def spec_l21Draw.N0 (x1 : Int) (x6 : Int) (c0_0z : Bool) (c0_0 : List Int) (c0_1 : Int) (c0_2 : Int) (c5_0z : Bool) (c5_0 : List T) : St := stOf 32 32 2 [(0, .bp 0 0), (1, .val (V.s (.int .i64 x1))), (4, .bp 4 0), (5, .bp 5 0), (6, .val (V.s (.int .i64 x6)))] [(0, .cells [⟨(.nums 5 .u8 c0_0z c0_0), [], false, none⟩, V.s (.int .i64 c0_1), V.s (.int .i64 c0_2)]), (4, .cells [⟨(.sl 82 true ([] : List T)), [.l 4 1], true, some (.l 4 1)⟩]), (5, .cells [⟨(.sl 82 c5_0z c5_0), [.l 5 1], true, some (.l 5 1)⟩])]
theorem spec_l21Draw.s (k : Nat) (a0_0z : Bool) (a0_0 : List Int) (a0_1 : Int) (a0_2 : Int) (a1 : Int) : answer Try.prog spec_l21Draw.Cs 100000 spec_l21Draw.cuts [true, false, true, true] Try.f38 (k + 1) [.box [((.nums 5 .u8 a0_0z a0_0), false), ((.int .i64 a0_1), false), ((.int .i64 a0_2), false)], .v (.int .i64 a1)] = spec_l21Draw.b (fun r => some (spec_l21Draw.enc r)) (fun x1 x6 c0_0z c0_0 c0_1 c0_2 c5_0z c5_0 => rounds Try.prog spec_l21Draw.Cs (finish Try.prog [true, false, true, true] Try.f38 [.box [((.nums 5 .u8 a0_0z a0_0), false), ((.int .i64 a0_1), false), ((.int .i64 a0_2), false)], .v (.int .i64 a1)]) 100000 k spec_l21Draw.K0 (spec_l21Draw.N0 x1 x6 c0_0z c0_0 c0_1 c0_2 c5_0z c5_0)) k a0_0z a0_0 a0_1 a0_2 a1 := by kernel_rfl
theorem spec_l21Draw.s0 (k : Nat) (G : List Fr → St → Option Res) (a0_0z : Bool) (a0_0 : List Int) (a0_1 : Int) (a0_2 : Int) (a1 : Int) (yx1 : Int) (yx6 : Int) (yc0_0z : Bool) (yc0_0 : List Int) (yc0_1 : Int) (yc0_2 : Int) (yc5_0z : Bool) (yc5_0 : List T) : resume Try.prog (spec_l21Draw.Cs k) G (finish Try.prog [true, false, true, true] Try.f38 [.box [((.nums 5 .u8 a0_0z a0_0), false), ((.int .i64 a0_1), false), ((.int .i64 a0_2), false)], .v (.int .i64 a1)]) 100000 spec_l21Draw.K0 (spec_l21Draw.N0 yx1 yx6 yc0_0z yc0_0 yc0_1 yc0_2 yc5_0z yc5_0) = spec_l21Draw.l0b (fun r => some (spec_l21Draw.enc r)) (fun x1 x6 c0_0z c0_0 c0_1 c0_2 c5_0z c5_0 => G spec_l21Draw.K0 (spec_l21Draw.N0 x1 x6 c0_0z c0_0 c0_1 c0_2 c5_0z c5_0)) k yx1 yx6 yc0_0z yc0_0 yc0_1 yc0_2 yc5_0z yc5_0 := by kernel_rfl
theorem spec_l21Draw.b_nat {R R' : Type} (e : R → R') (ret : Bool × (List T) × Bool × (List Int) × Int × Int → Option R) (j0 : Int → Int → Bool → (List Int) → Int → Int → Bool → (List T) → Option R) (k : Nat) (a0_0z : Bool) (a0_0 : List Int) (a0_1 : Int) (a0_2 : Int) (a1 : Int) : spec_l21Draw.b (fun r => (ret r).map e) (fun x1 x6 c0_0z c0_0 c0_1 c0_2 c5_0z c5_0 => (j0 x1 x6 c0_0z c0_0 c0_1 c0_2 c5_0z c5_0).map e) k a0_0z a0_0 a0_1 a0_2 a1 = (spec_l21Draw.b ret j0 k a0_0z a0_0 a0_1 a0_2 a1).map e := by
  unfold spec_l21Draw.b
  repeat' first | with_reducible refine nat_cond ?_ ?_ | with_reducible refine nat_bind fun _ => ?_ | rfl
theorem spec_l21Draw.l0b_nat {R R' : Type} (e : R → R') (ret : Bool × (List T) × Bool × (List Int) × Int × Int → Option R) (j0 : Int → Int → Bool → (List Int) → Int → Int → Bool → (List T) → Option R) (k : Nat) (x1 : Int) (x6 : Int) (c0_0z : Bool) (c0_0 : List Int) (c0_1 : Int) (c0_2 : Int) (c5_0z : Bool) (c5_0 : List T) : spec_l21Draw.l0b (fun r => (ret r).map e) (fun x1 x6 c0_0z c0_0 c0_1 c0_2 c5_0z c5_0 => (j0 x1 x6 c0_0z c0_0 c0_1 c0_2 c5_0z c5_0).map e) k x1 x6 c0_0z c0_0 c0_1 c0_2 c5_0z c5_0 = (spec_l21Draw.l0b ret j0 k x1 x6 c0_0z c0_0 c0_1 c0_2 c5_0z c5_0).map e := by
  unfold spec_l21Draw.l0b
  repeat' first | with_reducible refine nat_cond ?_ ?_ | with_reducible refine nat_bind fun _ => ?_ | rfl
theorem spec_l21Draw.rounds_eq (a0_0z : Bool) (a0_0 : List Int) (a0_1 : Int) (a0_2 : Int) (a1 : Int) : ∀ k, (∀ (x1 : Int) (x6 : Int) (c0_0z : Bool) (c0_0 : List Int) (c0_1 : Int) (c0_2 : Int) (c5_0z : Bool) (c5_0 : List T), rounds Try.prog spec_l21Draw.Cs (finish Try.prog [true, false, true, true] Try.f38 [.box [((.nums 5 .u8 a0_0z a0_0), false), ((.int .i64 a0_1), false), ((.int .i64 a0_2), false)], .v (.int .i64 a1)]) 100000 k spec_l21Draw.K0 (spec_l21Draw.N0 x1 x6 c0_0z c0_0 c0_1 c0_2 c5_0z c5_0) = (spec_l21Draw.l0 k x1 x6 c0_0z c0_0 c0_1 c0_2 c5_0z c5_0).map spec_l21Draw.enc)
  | 0 => fun _ _ _ _ _ _ _ _ => rfl
  | k + 1 => by
    have ih := spec_l21Draw.rounds_eq a0_0z a0_0 a0_1 a0_2 a1 k
    refine fun _ _ _ _ _ _ _ _ => ?_
    · refine (spec_l21Draw.s0 k _ a0_0z a0_0 a0_1 a0_2 a1 _ _ _ _ _ _ _ _).trans (Eq.trans ?_ (spec_l21Draw.l0b_nat spec_l21Draw.enc some (spec_l21Draw.l0 k) k _ _ _ _ _ _ _ _))
      simp only [ih, Option.map_some]
theorem spec_l21Draw.eq (k : Nat) (a0_0z : Bool) (a0_0 : List Int) (a0_1 : Int) (a0_2 : Int) (a1 : Int) : answer Try.prog spec_l21Draw.Cs 100000 spec_l21Draw.cuts [true, false, true, true] Try.f38 (k + 1) [.box [((.nums 5 .u8 a0_0z a0_0), false), ((.int .i64 a0_1), false), ((.int .i64 a0_2), false)], .v (.int .i64 a1)] = (spec_l21Draw.f (k + 1) a0_0z a0_0 a0_1 a0_2 a1).map spec_l21Draw.enc := by
  have ih := spec_l21Draw.rounds_eq a0_0z a0_0 a0_1 a0_2 a1 k
  refine (spec_l21Draw.s k a0_0z a0_0 a0_1 a0_2 a1).trans (Eq.trans ?_ (spec_l21Draw.b_nat spec_l21Draw.enc some (spec_l21Draw.l0 k) k a0_0z a0_0 a0_1 a0_2 a1))
  simp only [ih, Option.map_some]
theorem spec_l21Draw.sound (k : Nat) : SoundF Try.prog 38 (fun a => (spec_l21Draw.ans k a).val) := by
  refine sound_plain (fun args res h => ?_) (fun t n => rfl)
  unfold spec_l21Draw.ans at h
  dsimp only at h
  split at h
  · cases k with
    | zero => cases h
    | succ k =>
      unfold Ans.val at h
      rw [← spec_l21Draw.eq] at h
      exact answer_sound mixed Try.func38 _ _ _ (k + 1) (fun j _ => tab_sound (tab_cons (spec_l01Pick.sound j) (tab_cons (spec_l01Below.sound j) (tab_nil)))) _ _ h
  · exact (Ans.no_val h).elim

/-! loop.example/g00790/spec.l23Pair -/
def spec_l23Pair.b {R : Type} (ret : Int × Int × Int × Int × Int × Bool × (List T) × Bool × (List Int) × Int × Int → Option R) (k : Nat) (a0_0z : Bool) (a0_0 : List Int) (a0_1 : Int) (a0_2 : Int) : Option R :=
  (spec_l10Draw.f k a0_0z a0_0 a0_1 a0_2).bind fun t0 => (spec_l01Below.f k t0.2.2.2.2.2.1 t0.2.2.2.2.2.2.1 t0.2.2.2.2.2.2.2.1 t0.2.2.2.2.2.2.2.2 5).bind fun t1 => (spec_l21Draw.f k t1.2.1 t1.2.2.1 t1.2.2.2.1 t1.2.2.2.2 (RowKit.wrap64 ((1 : Int) + t1.1))).bind fun t2 => ret ((RowKit.wrap64 ((1 : Int) + t1.1)), t0.2.1, t0.2.2.1, 4000, t0.2.2.2.2.1, t2.1, t2.2.1, t2.2.2.1, t2.2.2.2.1, t2.2.2.2.2.1, t2.2.2.2.2.2)
def spec_l23Pair.f : Nat → Bool → (List Int) → Int → Int → Option (Int × Int × Int × Int × Int × Bool × (List T) × Bool × (List Int) × Int × Int)
  | 0, _, _, _, _ => none
  | k + 1, a0_0z, a0_0, a0_1, a0_2 => spec_l23Pair.b some k a0_0z a0_0 a0_1 a0_2
def spec_l23Pair.enc (r : Int × Int × Int × Int × Int × Bool × (List T) × Bool × (List Int) × Int × Int) : Res := ⟨[.vals true [((.int .i64 r.1), true), ((.int .i64 r.2.1), true), ((.int .i64 r.2.2.1), true), ((.int .i64 r.2.2.2.1), true), ((.int .i64 r.2.2.2.2.1), true)], .vals true [((.sl 82 r.2.2.2.2.2.1 r.2.2.2.2.2.2.1), true)]], [[((.nums 5 .u8 r.2.2.2.2.2.2.2.1 r.2.2.2.2.2.2.2.2.1), false), ((.int .i64 r.2.2.2.2.2.2.2.2.2.1), true), ((.int .i64 r.2.2.2.2.2.2.2.2.2.2), true)]]⟩
def spec_l23Pair.ans (k : Nat) : List Arg → Ans
  | [.box [((.nums 5 .u8 a0_0z a0_0), false), ((.int .i64 a0_1), false), ((.int .i64 a0_2), false)]] => ⟨spec_l23Pair.f k a0_0z a0_0 a0_1 a0_2, spec_l23Pair.enc⟩
  | _ => Ans.no
def spec_l23Pair.Cs (k : Nat) : CallSem := tab [(36, spec_l10Draw.ans k), (37, spec_l01Below.ans k), (38, spec_l21Draw.ans k)]
def spec_l23Pair.cuts : List (Nat × Keep) := []
theorem spec_l23Pair.s (k : Nat) (a0_0z : Bool) (a0_0 : List Int) (a0_1 : Int) (a0_2 : Int) : answer Try.prog spec_l23Pair.Cs 100000 spec_l23Pair.cuts [true, true, true, true, true, true, false, true, true] Try.f20 (k + 1) [.box [((.nums 5 .u8 a0_0z a0_0), false), ((.int .i64 a0_1), false), ((.int .i64 a0_2), false)]] = spec_l23Pair.b (fun r => some (spec_l23Pair.enc r)) k a0_0z a0_0 a0_1 a0_2 := by kernel_rfl
theorem spec_l23Pair.b_nat {R R' : Type} (e : R → R') (ret : Int × Int × Int × Int × Int × Bool × (List T) × Bool × (List Int) × Int × Int → Option R) (k : Nat) (a0_0z : Bool) (a0_0 : List Int) (a0_1 : Int) (a0_2 : Int) : spec_l23Pair.b (fun r => (ret r).map e) k a0_0z a0_0 a0_1 a0_2 = (spec_l23Pair.b ret k a0_0z a0_0 a0_1 a0_2).map e := by
  unfold spec_l23Pair.b
  repeat' first | with_reducible refine nat_cond ?_ ?_ | with_reducible refine nat_bind fun _ => ?_ | rfl
theorem spec_l23Pair.eq (k : Nat) (a0_0z : Bool) (a0_0 : List Int) (a0_1 : Int) (a0_2 : Int) : answer Try.prog spec_l23Pair.Cs 100000 spec_l23Pair.cuts [true, true, true, true, true, true, false, true, true] Try.f20 (k + 1) [.box [((.nums 5 .u8 a0_0z a0_0), false), ((.int .i64 a0_1), false), ((.int .i64 a0_2), false)]] = (spec_l23Pair.f (k + 1) a0_0z a0_0 a0_1 a0_2).map spec_l23Pair.enc := by
  refine (spec_l23Pair.s k a0_0z a0_0 a0_1 a0_2).trans (Eq.trans ?_ (spec_l23Pair.b_nat spec_l23Pair.enc some k a0_0z a0_0 a0_1 a0_2))
  simp only [Option.map_some]
theorem spec_l23Pair.sound (k : Nat) : SoundF Try.prog 20 (fun a => (spec_l23Pair.ans k a).val) := by
  refine sound_plain (fun args res h => ?_) (fun t n => rfl)
  unfold spec_l23Pair.ans at h
  dsimp only at h
  split at h
  · cases k with
    | zero => cases h
    | succ k =>
      unfold Ans.val at h
      rw [← spec_l23Pair.eq] at h
      exact answer_sound mixed Try.func20 _ _ _ (k + 1) (fun j _ => tab_sound (tab_cons (spec_l10Draw.sound j) (tab_cons (spec_l01Below.sound j) (tab_cons (spec_l21Draw.sound j) (tab_nil))))) _ _ h
  · exact (Ans.no_val h).elim

/-! loop.example/g00790/spec.l01In -/
def spec_l01In.b {R : Type} (ret : Bool → Option R) (k : Nat) (a0 : Int) (a1 : Int) (a2 : Int) : Option R :=
  cond (decide (a0 ≥ a1)) (ret (decide (a0 ≤ a2))) (ret false)
def spec_l01In.f : Nat → Int → Int → Int → Option Bool
  | 0, _, _, _ => none
  | k + 1, a0, a1, a2 => spec_l01In.b some k a0 a1 a2
def spec_l01In.enc (r : Bool) : Res := ⟨[.vals false [((.bool r), true)]], []⟩
def spec_l01In.ans (k : Nat) : List Arg → Ans
  | [.v (.int .i64 a0), .v (.int .i64 a1), .v (.int .i64 a2)] => ⟨spec_l01In.f k a0 a1 a2, spec_l01In.enc⟩
  | _ => Ans.no
def spec_l01In.Cs (k : Nat) : CallSem := tab []
def spec_l01In.cuts : List (Nat × Keep) := []
theorem spec_l01In.s (k : Nat) (a0 : Int) (a1 : Int) (a2 : Int) : answer Try.prog spec_l01In.Cs 100000 spec_l01In.cuts [] Try.f58 (k + 1) [.v (.int .i64 a0), .v (.int .i64 a1), .v (.int .i64 a2)] = spec_l01In.b (fun r => some (spec_l01In.enc r)) k a0 a1 a2 := by kernel_rfl
theorem spec_l01In.b_nat {R R' : Type} (e : R → R') (ret : Bool → Option R) (k : Nat) (a0 : Int) (a1 : Int) (a2 : Int) : spec_l01In.b (fun r => (ret r).map e) k a0 a1 a2 = (spec_l01In.b ret k a0 a1 a2).map e := by
  unfold spec_l01In.b
  repeat' first | with_reducible refine nat_cond ?_ ?_ | with_reducible refine nat_bind fun _ => ?_ | rfl
theorem spec_l01In.eq (k : Nat) (a0 : Int) (a1 : Int) (a2 : Int) : answer Try.prog spec_l01In.Cs 100000 spec_l01In.cuts [] Try.f58 (k + 1) [.v (.int .i64 a0), .v (.int .i64 a1), .v (.int .i64 a2)] = (spec_l01In.f (k + 1) a0 a1 a2).map spec_l01In.enc := by
  refine (spec_l01In.s k a0 a1 a2).trans (Eq.trans ?_ (spec_l01In.b_nat spec_l01In.enc some k a0 a1 a2))
  simp only [Option.map_some]
theorem spec_l01In.sound (k : Nat) : SoundF Try.prog 58 (fun a => (spec_l01In.ans k a).val) := by
  refine sound_plain (fun args res h => ?_) (fun t n => rfl)
  unfold spec_l01In.ans at h
  dsimp only at h
  split at h
  · cases k with
    | zero => cases h
    | succ k =>
      unfold Ans.val at h
      rw [← spec_l01In.eq] at h
      exact answer_sound mixed Try.func58 _ _ _ (k + 1) (fun j _ => tab_sound (tab_nil)) _ _ h
  · exact (Ans.no_val h).elim

/-! loop.example/g00790/spec.l01Num -/
def spec_l01Num.b {R : Type} (ret : Bool → Option R) (k : Nat) (a0 : Int) : Option R :=
  (spec_l01In.f k a0 0 1152921504606846975).bind fun t0 => ret t0
def spec_l01Num.f : Nat → Int → Option Bool
  | 0, _ => none
  | k + 1, a0 => spec_l01Num.b some k a0
def spec_l01Num.enc (r : Bool) : Res := ⟨[.vals false [((.bool r), true)]], []⟩
def spec_l01Num.ans (k : Nat) : List Arg → Ans
  | [.v (.int .i64 a0)] => ⟨spec_l01Num.f k a0, spec_l01Num.enc⟩
  | _ => Ans.no
def spec_l01Num.Cs (k : Nat) : CallSem := tab [(58, spec_l01In.ans k)]
def spec_l01Num.cuts : List (Nat × Keep) := []
theorem spec_l01Num.s (k : Nat) (a0 : Int) : answer Try.prog spec_l01Num.Cs 100000 spec_l01Num.cuts [] Try.f79 (k + 1) [.v (.int .i64 a0)] = spec_l01Num.b (fun r => some (spec_l01Num.enc r)) k a0 := by kernel_rfl
theorem spec_l01Num.b_nat {R R' : Type} (e : R → R') (ret : Bool → Option R) (k : Nat) (a0 : Int) : spec_l01Num.b (fun r => (ret r).map e) k a0 = (spec_l01Num.b ret k a0).map e := by
  unfold spec_l01Num.b
  repeat' first | with_reducible refine nat_cond ?_ ?_ | with_reducible refine nat_bind fun _ => ?_ | rfl
theorem spec_l01Num.eq (k : Nat) (a0 : Int) : answer Try.prog spec_l01Num.Cs 100000 spec_l01Num.cuts [] Try.f79 (k + 1) [.v (.int .i64 a0)] = (spec_l01Num.f (k + 1) a0).map spec_l01Num.enc := by
  refine (spec_l01Num.s k a0).trans (Eq.trans ?_ (spec_l01Num.b_nat spec_l01Num.enc some k a0))
  simp only [Option.map_some]
theorem spec_l01Num.sound (k : Nat) : SoundF Try.prog 79 (fun a => (spec_l01Num.ans k a).val) := by
  refine sound_plain (fun args res h => ?_) (fun t n => rfl)
  unfold spec_l01Num.ans at h
  dsimp only at h
  split at h
  · cases k with
    | zero => cases h
    | succ k =>
      unfold Ans.val at h
      rw [← spec_l01Num.eq] at h
      exact answer_sound mixed Try.func79 _ _ _ (k + 1) (fun j _ => tab_sound (tab_cons (spec_l01In.sound j) (tab_nil))) _ _ h
  · exact (Ans.no_val h).elim

/-! loop.example/g00790/spec.l07Hash -/
def spec_l07Hash.b {R : Type} (ret : Bool → Option R) (k : Nat) (a0z : Bool) (a0 : List Int) : Option R :=
  ret (decide (((a0).length : Int) = 32))
def spec_l07Hash.f : Nat → Bool → (List Int) → Option Bool
  | 0, _, _ => none
  | k + 1, a0z, a0 => spec_l07Hash.b some k a0z a0
def spec_l07Hash.enc (r : Bool) : Res := ⟨[.vals false [((.bool r), true)]], []⟩
def spec_l07Hash.ans (k : Nat) : List Arg → Ans
  | [.v (.nums 5 .u8 a0z a0)] => ⟨spec_l07Hash.f k a0z a0, spec_l07Hash.enc⟩
  | _ => Ans.no
def spec_l07Hash.Cs (k : Nat) : CallSem := tab []
def spec_l07Hash.cuts : List (Nat × Keep) := []
theorem spec_l07Hash.s (k : Nat) (a0z : Bool) (a0 : List Int) : answer Try.prog spec_l07Hash.Cs 100000 spec_l07Hash.cuts [] Try.f80 (k + 1) [.v (.nums 5 .u8 a0z a0)] = spec_l07Hash.b (fun r => some (spec_l07Hash.enc r)) k a0z a0 := by kernel_rfl
theorem spec_l07Hash.b_nat {R R' : Type} (e : R → R') (ret : Bool → Option R) (k : Nat) (a0z : Bool) (a0 : List Int) : spec_l07Hash.b (fun r => (ret r).map e) k a0z a0 = (spec_l07Hash.b ret k a0z a0).map e := by
  unfold spec_l07Hash.b
  repeat' first | with_reducible refine nat_cond ?_ ?_ | with_reducible refine nat_bind fun _ => ?_ | rfl
theorem spec_l07Hash.eq (k : Nat) (a0z : Bool) (a0 : List Int) : answer Try.prog spec_l07Hash.Cs 100000 spec_l07Hash.cuts [] Try.f80 (k + 1) [.v (.nums 5 .u8 a0z a0)] = (spec_l07Hash.f (k + 1) a0z a0).map spec_l07Hash.enc := by
  refine (spec_l07Hash.s k a0z a0).trans (Eq.trans ?_ (spec_l07Hash.b_nat spec_l07Hash.enc some k a0z a0))
  simp only [Option.map_some]
theorem spec_l07Hash.sound (k : Nat) : SoundF Try.prog 80 (fun a => (spec_l07Hash.ans k a).val) := by
  refine sound_plain (fun args res h => ?_) (fun t n => rfl)
  unfold spec_l07Hash.ans at h
  dsimp only at h
  split at h
  · cases k with
    | zero => cases h
    | succ k =>
      unfold Ans.val at h
      rw [← spec_l07Hash.eq] at h
      exact answer_sound mixed Try.func80 _ _ _ (k + 1) (fun j _ => tab_sound (tab_nil)) _ _ h
  · exact (Ans.no_val h).elim

/-! loop.example/g00790/spec.l01Copy -/
def spec_l01Copy.b {R : Type} (ret : Bool × List Int → Option R) (k : Nat) (a0z : Bool) (a0 : List Int) : Option R :=
  cond (decide (0 + (a0).length < 140737488355328)) (ret (((a0).isEmpty && false), a0)) (none)
def spec_l01Copy.f : Nat → Bool → (List Int) → Option (Bool × List Int)
  | 0, _, _ => none
  | k + 1, a0z, a0 => spec_l01Copy.b some k a0z a0
def spec_l01Copy.enc (r : Bool × List Int) : Res := ⟨[.vals false [((.nums 5 .u8 r.1 r.2), true)]], []⟩
def spec_l01Copy.ans (k : Nat) : List Arg → Ans
  | [.v (.nums 5 .u8 a0z a0)] => ⟨spec_l01Copy.f k a0z a0, spec_l01Copy.enc⟩
  | _ => Ans.no
def spec_l01Copy.Cs (k : Nat) : CallSem := tab []
def spec_l01Copy.cuts : List (Nat × Keep) := []
theorem spec_l01Copy.s (k : Nat) (a0z : Bool) (a0 : List Int) : answer Try.prog spec_l01Copy.Cs 100000 spec_l01Copy.cuts [] Try.f59 (k + 1) [.v (.nums 5 .u8 a0z a0)] = spec_l01Copy.b (fun r => some (spec_l01Copy.enc r)) k a0z a0 := by kernel_rfl
theorem spec_l01Copy.b_nat {R R' : Type} (e : R → R') (ret : Bool × List Int → Option R) (k : Nat) (a0z : Bool) (a0 : List Int) : spec_l01Copy.b (fun r => (ret r).map e) k a0z a0 = (spec_l01Copy.b ret k a0z a0).map e := by
  unfold spec_l01Copy.b
  repeat' first | with_reducible refine nat_cond ?_ ?_ | with_reducible refine nat_bind fun _ => ?_ | rfl
theorem spec_l01Copy.eq (k : Nat) (a0z : Bool) (a0 : List Int) : answer Try.prog spec_l01Copy.Cs 100000 spec_l01Copy.cuts [] Try.f59 (k + 1) [.v (.nums 5 .u8 a0z a0)] = (spec_l01Copy.f (k + 1) a0z a0).map spec_l01Copy.enc := by
  refine (spec_l01Copy.s k a0z a0).trans (Eq.trans ?_ (spec_l01Copy.b_nat spec_l01Copy.enc some k a0z a0))
  simp only [Option.map_some]
theorem spec_l01Copy.sound (k : Nat) : SoundF Try.prog 59 (fun a => (spec_l01Copy.ans k a).val) := by
  refine sound_plain (fun args res h => ?_) (fun t n => rfl)
  unfold spec_l01Copy.ans at h
  dsimp only at h
  split at h
  · cases k with
    | zero => cases h
    | succ k =>
      unfold Ans.val at h
      rw [← spec_l01Copy.eq] at h
      exact answer_sound mixed Try.func59 _ _ _ (k + 1) (fun j _ => tab_sound (tab_nil)) _ _ h
  · exact (Ans.no_val h).elim

/-! loop.example/g00790/spec.PutVar -/
def spec_PutVar.b {R : Type} (ret : Bool × (List Int) × Bool → Option R) (j0 : Int → Bool → (List Int) → Option R) (k : Nat) (a0z : Bool) (a0 : List Int) (a1 : Int) : Option R :=
  (spec_l01Num.f k a1).bind fun t0 => cond (!t0) (ret (true, ([] : List Int), false)) ((spec_l01Copy.f k a0z a0).bind fun t1 => j0 a1 t1.1 t1.2)
def spec_PutVar.l0b {R : Type} (ret : Bool × (List Int) × Bool → Option R) (j0 : Int → Bool → (List Int) → Option R) (k : Nat) (x1 : Int) (x6z : Bool) (x6 : List Int) : Option R :=
  cond (decide (x1 > 127)) (cond (decide ((x6).length + 1 < 140737488355328)) (j0 (RowKit.wrap64 (Int.tdiv x1 128)) false (x6 ++ ([(((RowKit.wrap64 ((128 : Int) + (Int.tmod x1 128)))) % 256)] : List Int))) (none)) (cond (decide ((x6).length + 1 < 140737488355328)) (ret (false, (x6 ++ ([((x1) % 256)] : List Int)), true)) (none))
def spec_PutVar.l0 : Nat → Int → Bool → (List Int) → Option (Bool × (List Int) × Bool)
  | 0, _, _, _ => none
  | k + 1, x1, x6z, x6 => spec_PutVar.l0b some (spec_PutVar.l0 k) k x1 x6z x6
def spec_PutVar.f : Nat → Bool → (List Int) → Int → Option (Bool × (List Int) × Bool)
  | 0, _, _, _ => none
  | k + 1, a0z, a0, a1 => spec_PutVar.b some (spec_PutVar.l0 k) k a0z a0 a1
def spec_PutVar.enc (r : Bool × (List Int) × Bool) : Res := ⟨[.vals false [((.nums 5 .u8 r.1 r.2.1), true)], .vals false [((.bool r.2.2), true)]], []⟩
def spec_PutVar.ans (k : Nat) : List Arg → Ans
  | [.v (.nums 5 .u8 a0z a0), .v (.int .i64 a1)] => ⟨spec_PutVar.f k a0z a0 a1, spec_PutVar.enc⟩
  | _ => Ans.no
def spec_PutVar.Cs (k : Nat) : CallSem := tab [(79, spec_l01Num.ans k), (59, spec_l01Copy.ans k)]
def spec_PutVar.cuts : List (Nat × Keep) := [(60, ⟨[(1, some []), (6, none)], []⟩)]
noncomputable def spec_PutVar.K0 : List Fr := framesAt [true, true, true, false, false] (bodyOf Try.f96 spec_PutVar.cuts) []
def spec_PutVar.N0 (x1 : Int) (x6z : Bool) (x6 : List Int) : St := stOf 28 28 2 [(1, .val (V.s (.int .i64 x1))), (6, .val ⟨(.nums 5 .u8 x6z x6), [.l 6 0], true, some (.l 6 0)⟩)] []
theorem spec_PutVar.s (k : Nat) (a0z : Bool) (a0 : List Int) (a1 : Int) : answer Try.prog spec_PutVar.Cs 100000 spec_PutVar.cuts [] Try.f96 (k + 1) [.v (.nums 5 .u8 a0z a0), .v (.int .i64 a1)] = spec_PutVar.b (fun r => some (spec_PutVar.enc r)) (fun x1 x6z x6 => rounds Try.prog spec_PutVar.Cs (finish Try.prog [] Try.f96 [.v (.nums 5 .u8 a0z a0), .v (.int .i64 a1)]) 100000 k spec_PutVar.K0 (spec_PutVar.N0 x1 x6z x6)) k a0z a0 a1 := by kernel_rfl
theorem spec_PutVar.s0 (k : Nat) (G : List Fr → St → Option Res) (a0z : Bool) (a0 : List Int) (a1 : Int) (yx1 : Int) (yx6z : Bool) (yx6 : List Int) : resume Try.prog (spec_PutVar.Cs k) G (finish Try.prog [] Try.f96 [.v (.nums 5 .u8 a0z a0), .v (.int .i64 a1)]) 100000 spec_PutVar.K0 (spec_PutVar.N0 yx1 yx6z yx6) = spec_PutVar.l0b (fun r => some (spec_PutVar.enc r)) (fun x1 x6z x6 => G spec_PutVar.K0 (spec_PutVar.N0 x1 x6z x6)) k yx1 yx6z yx6 := by kernel_rfl
theorem spec_PutVar.b_nat {R R' : Type} (e : R → R') (ret : Bool × (List Int) × Bool → Option R) (j0 : Int → Bool → (List Int) → Option R) (k : Nat) (a0z : Bool) (a0 : List Int) (a1 : Int) : spec_PutVar.b (fun r => (ret r).map e) (fun x1 x6z x6 => (j0 x1 x6z x6).map e) k a0z a0 a1 = (spec_PutVar.b ret j0 k a0z a0 a1).map e := by
  unfold spec_PutVar.b
  repeat' first | with_reducible refine nat_cond ?_ ?_ | with_reducible refine nat_bind fun _ => ?_ | rfl
theorem spec_PutVar.l0b_nat {R R' : Type} (e : R → R') (ret : Bool × (List Int) × Bool → Option R) (j0 : Int → Bool → (List Int) → Option R) (k : Nat) (x1 : Int) (x6z : Bool) (x6 : List Int) : spec_PutVar.l0b (fun r => (ret r).map e) (fun x1 x6z x6 => (j0 x1 x6z x6).map e) k x1 x6z x6 = (spec_PutVar.l0b ret j0 k x1 x6z x6).map e := by
  unfold spec_PutVar.l0b
  repeat' first | with_reducible refine nat_cond ?_ ?_ | with_reducible refine nat_bind fun _ => ?_ | rfl
theorem spec_PutVar.rounds_eq (a0z : Bool) (a0 : List Int) (a1 : Int) : ∀ k, (∀ (x1 : Int) (x6z : Bool) (x6 : List Int), rounds Try.prog spec_PutVar.Cs (finish Try.prog [] Try.f96 [.v (.nums 5 .u8 a0z a0), .v (.int .i64 a1)]) 100000 k spec_PutVar.K0 (spec_PutVar.N0 x1 x6z x6) = (spec_PutVar.l0 k x1 x6z x6).map spec_PutVar.enc)
  | 0 => fun _ _ _ => rfl
  | k + 1 => by
    have ih := spec_PutVar.rounds_eq a0z a0 a1 k
    refine fun _ _ _ => ?_
    · refine (spec_PutVar.s0 k _ a0z a0 a1 _ _ _).trans (Eq.trans ?_ (spec_PutVar.l0b_nat spec_PutVar.enc some (spec_PutVar.l0 k) k _ _ _))
      simp only [ih, Option.map_some]
theorem spec_PutVar.eq (k : Nat) (a0z : Bool) (a0 : List Int) (a1 : Int) : answer Try.prog spec_PutVar.Cs 100000 spec_PutVar.cuts [] Try.f96 (k + 1) [.v (.nums 5 .u8 a0z a0), .v (.int .i64 a1)] = (spec_PutVar.f (k + 1) a0z a0 a1).map spec_PutVar.enc := by
  have ih := spec_PutVar.rounds_eq a0z a0 a1 k
  refine (spec_PutVar.s k a0z a0 a1).trans (Eq.trans ?_ (spec_PutVar.b_nat spec_PutVar.enc some (spec_PutVar.l0 k) k a0z a0 a1))
  simp only [ih, Option.map_some]
theorem spec_PutVar.sound (k : Nat) : SoundF Try.prog 96 (fun a => (spec_PutVar.ans k a).val) := by
  refine sound_plain (fun args res h => ?_) (fun t n => rfl)
  unfold spec_PutVar.ans at h
  dsimp only at h
  split at h
  · cases k with
    | zero => cases h
    | succ k =>
      unfold Ans.val at h
      rw [← spec_PutVar.eq] at h
      exact answer_sound mixed Try.func96 _ _ _ (k + 1) (fun j _ => tab_sound (tab_cons (spec_l01Num.sound j) (tab_cons (spec_l01Copy.sound j) (tab_nil)))) _ _ h
  · exact (Ans.no_val h).elim

/-! loop.example/g00790/spec.l11Num -/
def spec_l11Num.b {R : Type} (ret : Bool × List Int → Option R) (k : Nat) (a0z : Bool) (a0 : List Int) (a1 : Int) : Option R :=
  (spec_PutVar.f k a0z a0 a1).bind fun t0 => ret (t0.1, t0.2.1)
def spec_l11Num.f : Nat → Bool → (List Int) → Int → Option (Bool × List Int)
  | 0, _, _, _ => none
  | k + 1, a0z, a0, a1 => spec_l11Num.b some k a0z a0 a1
def spec_l11Num.enc (r : Bool × List Int) : Res := ⟨[.vals false [((.nums 5 .u8 r.1 r.2), true)]], []⟩
def spec_l11Num.ans (k : Nat) : List Arg → Ans
  | [.v (.nums 5 .u8 a0z a0), .v (.int .i64 a1)] => ⟨spec_l11Num.f k a0z a0 a1, spec_l11Num.enc⟩
  | _ => Ans.no
def spec_l11Num.Cs (k : Nat) : CallSem := tab [(96, spec_PutVar.ans k)]
def spec_l11Num.cuts : List (Nat × Keep) := []
theorem spec_l11Num.s (k : Nat) (a0z : Bool) (a0 : List Int) (a1 : Int) : answer Try.prog spec_l11Num.Cs 100000 spec_l11Num.cuts [] Try.f81 (k + 1) [.v (.nums 5 .u8 a0z a0), .v (.int .i64 a1)] = spec_l11Num.b (fun r => some (spec_l11Num.enc r)) k a0z a0 a1 := by kernel_rfl
theorem spec_l11Num.b_nat {R R' : Type} (e : R → R') (ret : Bool × List Int → Option R) (k : Nat) (a0z : Bool) (a0 : List Int) (a1 : Int) : spec_l11Num.b (fun r => (ret r).map e) k a0z a0 a1 = (spec_l11Num.b ret k a0z a0 a1).map e := by
  unfold spec_l11Num.b
  repeat' first | with_reducible refine nat_cond ?_ ?_ | with_reducible refine nat_bind fun _ => ?_ | rfl
theorem spec_l11Num.eq (k : Nat) (a0z : Bool) (a0 : List Int) (a1 : Int) : answer Try.prog spec_l11Num.Cs 100000 spec_l11Num.cuts [] Try.f81 (k + 1) [.v (.nums 5 .u8 a0z a0), .v (.int .i64 a1)] = (spec_l11Num.f (k + 1) a0z a0 a1).map spec_l11Num.enc := by
  refine (spec_l11Num.s k a0z a0 a1).trans (Eq.trans ?_ (spec_l11Num.b_nat spec_l11Num.enc some k a0z a0 a1))
  simp only [Option.map_some]
theorem spec_l11Num.sound (k : Nat) : SoundF Try.prog 81 (fun a => (spec_l11Num.ans k a).val) := by
  refine sound_plain (fun args res h => ?_) (fun t n => rfl)
  unfold spec_l11Num.ans at h
  dsimp only at h
  split at h
  · cases k with
    | zero => cases h
    | succ k =>
      unfold Ans.val at h
      rw [← spec_l11Num.eq] at h
      exact answer_sound mixed Try.func81 _ _ _ (k + 1) (fun j _ => tab_sound (tab_cons (spec_PutVar.sound j) (tab_nil))) _ _ h
  · exact (Ans.no_val h).elim

/-! loop.example/g00790/spec.VoteBytes -/
def spec_VoteBytes.b {R : Type} (ret : Bool × List Int → Option R) (k : Nat) (a0 : Int) (a1 : Int) (a2z : Bool) (a2 : List Int) : Option R :=
  (spec_l01Num.f k a0).bind fun t0 => cond (!t0) (ret (true, ([] : List Int))) ((spec_l01Num.f k a1).bind fun t1 => cond (!t1) (ret (true, ([] : List Int))) ((spec_l07Hash.f k a2z a2).bind fun t2 => cond (!t2) (ret (true, ([] : List Int))) ((spec_l11Num.f k false ([86] : List Int) a0).bind fun t3 => (spec_l11Num.f k t3.1 t3.2 a1).bind fun t4 => cond (decide ((t4.2).length + (a2).length < 140737488355328)) (ret (((a2).isEmpty && t4.1), (t4.2 ++ a2))) (none))))
def spec_VoteBytes.f : Nat → Int → Int → Bool → (List Int) → Option (Bool × List Int)
  | 0, _, _, _, _ => none
  | k + 1, a0, a1, a2z, a2 => spec_VoteBytes.b some k a0 a1 a2z a2
def spec_VoteBytes.enc (r : Bool × List Int) : Res := ⟨[.vals false [((.nums 5 .u8 r.1 r.2), true)]], []⟩
def spec_VoteBytes.ans (k : Nat) : List Arg → Ans
  | [.v (.int .i64 a0), .v (.int .i64 a1), .v (.nums 5 .u8 a2z a2)] => ⟨spec_VoteBytes.f k a0 a1 a2z a2, spec_VoteBytes.enc⟩
  | _ => Ans.no
def spec_VoteBytes.Cs (k : Nat) : CallSem := tab [(79, spec_l01Num.ans k), (80, spec_l07Hash.ans k), (81, spec_l11Num.ans k)]
def spec_VoteBytes.cuts : List (Nat × Keep) := []
theorem spec_VoteBytes.s (k : Nat) (a0 : Int) (a1 : Int) (a2z : Bool) (a2 : List Int) : answer Try.prog spec_VoteBytes.Cs 100000 spec_VoteBytes.cuts [] Try.f56 (k + 1) [.v (.int .i64 a0), .v (.int .i64 a1), .v (.nums 5 .u8 a2z a2)] = spec_VoteBytes.b (fun r => some (spec_VoteBytes.enc r)) k a0 a1 a2z a2 := by kernel_rfl
theorem spec_VoteBytes.b_nat {R R' : Type} (e : R → R') (ret : Bool × List Int → Option R) (k : Nat) (a0 : Int) (a1 : Int) (a2z : Bool) (a2 : List Int) : spec_VoteBytes.b (fun r => (ret r).map e) k a0 a1 a2z a2 = (spec_VoteBytes.b ret k a0 a1 a2z a2).map e := by
  unfold spec_VoteBytes.b
  repeat' first | with_reducible refine nat_cond ?_ ?_ | with_reducible refine nat_bind fun _ => ?_ | rfl
theorem spec_VoteBytes.eq (k : Nat) (a0 : Int) (a1 : Int) (a2z : Bool) (a2 : List Int) : answer Try.prog spec_VoteBytes.Cs 100000 spec_VoteBytes.cuts [] Try.f56 (k + 1) [.v (.int .i64 a0), .v (.int .i64 a1), .v (.nums 5 .u8 a2z a2)] = (spec_VoteBytes.f (k + 1) a0 a1 a2z a2).map spec_VoteBytes.enc := by
  refine (spec_VoteBytes.s k a0 a1 a2z a2).trans (Eq.trans ?_ (spec_VoteBytes.b_nat spec_VoteBytes.enc some k a0 a1 a2z a2))
  simp only [Option.map_some]
theorem spec_VoteBytes.sound (k : Nat) : SoundF Try.prog 56 (fun a => (spec_VoteBytes.ans k a).val) := by
  refine sound_plain (fun args res h => ?_) (fun t n => rfl)
  unfold spec_VoteBytes.ans at h
  dsimp only at h
  split at h
  · cases k with
    | zero => cases h
    | succ k =>
      unfold Ans.val at h
      rw [← spec_VoteBytes.eq] at h
      exact answer_sound mixed Try.func56 _ _ _ (k + 1) (fun j _ => tab_sound (tab_cons (spec_l01Num.sound j) (tab_cons (spec_l07Hash.sound j) (tab_cons (spec_l11Num.sound j) (tab_nil))))) _ _ h
  · exact (Ans.no_val h).elim

/-! loop.example/g00790/spec.l02Signers -/
def spec_l02Signers.b {R : Type} (ret : Bool → Option R) (k : Nat) (a0 : Int) : Option R :=
  (spec_l01In.f k a0 1 10).bind fun t0 => ret t0
def spec_l02Signers.f : Nat → Int → Option Bool
  | 0, _ => none
  | k + 1, a0 => spec_l02Signers.b some k a0
def spec_l02Signers.enc (r : Bool) : Res := ⟨[.vals false [((.bool r), true)]], []⟩
def spec_l02Signers.ans (k : Nat) : List Arg → Ans
  | [.v (.int .i64 a0)] => ⟨spec_l02Signers.f k a0, spec_l02Signers.enc⟩
  | _ => Ans.no
def spec_l02Signers.Cs (k : Nat) : CallSem := tab [(58, spec_l01In.ans k)]
def spec_l02Signers.cuts : List (Nat × Keep) := []
theorem spec_l02Signers.s (k : Nat) (a0 : Int) : answer Try.prog spec_l02Signers.Cs 100000 spec_l02Signers.cuts [] Try.f82 (k + 1) [.v (.int .i64 a0)] = spec_l02Signers.b (fun r => some (spec_l02Signers.enc r)) k a0 := by kernel_rfl
theorem spec_l02Signers.b_nat {R R' : Type} (e : R → R') (ret : Bool → Option R) (k : Nat) (a0 : Int) : spec_l02Signers.b (fun r => (ret r).map e) k a0 = (spec_l02Signers.b ret k a0).map e := by
  unfold spec_l02Signers.b
  repeat' first | with_reducible refine nat_cond ?_ ?_ | with_reducible refine nat_bind fun _ => ?_ | rfl
theorem spec_l02Signers.eq (k : Nat) (a0 : Int) : answer Try.prog spec_l02Signers.Cs 100000 spec_l02Signers.cuts [] Try.f82 (k + 1) [.v (.int .i64 a0)] = (spec_l02Signers.f (k + 1) a0).map spec_l02Signers.enc := by
  refine (spec_l02Signers.s k a0).trans (Eq.trans ?_ (spec_l02Signers.b_nat spec_l02Signers.enc some k a0))
  simp only [Option.map_some]
theorem spec_l02Signers.sound (k : Nat) : SoundF Try.prog 82 (fun a => (spec_l02Signers.ans k a).val) := by
  refine sound_plain (fun args res h => ?_) (fun t n => rfl)
  unfold spec_l02Signers.ans at h
  dsimp only at h
  split at h
  · cases k with
    | zero => cases h
    | succ k =>
      unfold Ans.val at h
      rw [← spec_l02Signers.eq] at h
      exact answer_sound mixed Try.func82 _ _ _ (k + 1) (fun j _ => tab_sound (tab_cons (spec_l01In.sound j) (tab_nil))) _ _ h
  · exact (Ans.no_val h).elim

/-! loop.example/g00790/spec.TableOk -/
def spec_TableOk.b {R : Type} (ret : Bool → Option R) (j0 : Bool → (List T) → Int → Int → Bool → (List T) → Option R) (k : Nat) (a0_0z : Bool) (a0_0 : List T) : Option R :=
  j0 a0_0z a0_0 ((a0_0).length : Int) 0 a0_0z a0_0
def spec_TableOk.l0b {R : Type} (ret : Bool → Option R) (j0 : Bool → (List T) → Int → Int → Bool → (List T) → Option R) (k : Nat) (x6z : Bool) (x6 : List T) (x7 : Int) (x8 : Int) (c1_0z : Bool) (c1_0 : List T) : Option R :=
  cond (decide (x8 < x7)) (cond (decide ((0 : Int) ≤ x8)) (cond (decide (x8 < ((x6).length : Int))) ((spec_l01In.f k (((((x6).getD (x8).toNat .bad).cells.getD 0 .bad)).toInt) 1 1099511627776).bind fun t0 => cond (!t0) (ret false) ((spec_l01In.f k ((((((x6).getD (x8).toNat .bad).cells.getD 1 .bad)).toNums).length : Int) 1 64).bind fun t1 => cond (!t1) (ret false) (j0 x6z x6 x7 (RowKit.wrap64 (x8 + 1)) c1_0z c1_0))) (none)) (none)) ((spec_l02Signers.f k ((c1_0).length : Int)).bind fun t0 => ret t0)
def spec_TableOk.l0 : Nat → Bool → (List T) → Int → Int → Bool → (List T) → Option Bool
  | 0, _, _, _, _, _, _ => none
  | k + 1, x6z, x6, x7, x8, c1_0z, c1_0 => spec_TableOk.l0b some (spec_TableOk.l0 k) k x6z x6 x7 x8 c1_0z c1_0
def spec_TableOk.f : Nat → Bool → (List T) → Option Bool
  | 0, _, _ => none
  | k + 1, a0_0z, a0_0 => spec_TableOk.b some (spec_TableOk.l0 k) k a0_0z a0_0
def spec_TableOk.enc (r : Bool) : Res := ⟨[.vals false [((.bool r), true)]], []⟩
def spec_TableOk.ans (k : Nat) : List Arg → Ans
  | [.v (.agg [(.sl 82 a0_0z a0_0)])] => ⟨spec_TableOk.f k a0_0z a0_0, spec_TableOk.enc⟩
  | _ => Ans.no
def spec_TableOk.Cs (k : Nat) : CallSem := tab [(58, spec_l01In.ans k), (82, spec_l02Signers.ans k)]
def spec_TableOk.cuts : List (Nat × Keep) := [(26, ⟨[(1, some []), (6, some []), (7, some []), (8, some [])], [(1, [some []])]⟩)]
noncomputable def spec_TableOk.K0 : List Fr := framesAt [true, false, true, false] (bodyOf Try.f57 spec_TableOk.cuts) []
def spec_TableOk.N0 (x6z : Bool) (x6 : List T) (x7 : Int) (x8 : Int) (c1_0z : Bool) (c1_0 : List T) : St := stOf 28 28 1 [(1, .bp 1 0), (6, .val ⟨(.sl 82 x6z x6), [], false, none⟩), (7, .val (V.s (.int .i64 x7))), (8, .val (V.s (.int .i64 x8)))] [(1, .cells [⟨(.sl 82 c1_0z c1_0), [], false, none⟩])]
theorem spec_TableOk.s (k : Nat) (a0_0z : Bool) (a0_0 : List T) : answer Try.prog spec_TableOk.Cs 100000 spec_TableOk.cuts [] Try.f57 (k + 1) [.v (.agg [(.sl 82 a0_0z a0_0)])] = spec_TableOk.b (fun r => some (spec_TableOk.enc r)) (fun x6z x6 x7 x8 c1_0z c1_0 => rounds Try.prog spec_TableOk.Cs (finish Try.prog [] Try.f57 [.v (.agg [(.sl 82 a0_0z a0_0)])]) 100000 k spec_TableOk.K0 (spec_TableOk.N0 x6z x6 x7 x8 c1_0z c1_0)) k a0_0z a0_0 := by kernel_rfl
theorem spec_TableOk.s0 (k : Nat) (G : List Fr → St → Option Res) (a0_0z : Bool) (a0_0 : List T) (yx6z : Bool) (yx6 : List T) (yx7 : Int) (yx8 : Int) (yc1_0z : Bool) (yc1_0 : List T) : resume Try.prog (spec_TableOk.Cs k) G (finish Try.prog [] Try.f57 [.v (.agg [(.sl 82 a0_0z a0_0)])]) 100000 spec_TableOk.K0 (spec_TableOk.N0 yx6z yx6 yx7 yx8 yc1_0z yc1_0) = spec_TableOk.l0b (fun r => some (spec_TableOk.enc r)) (fun x6z x6 x7 x8 c1_0z c1_0 => G spec_TableOk.K0 (spec_TableOk.N0 x6z x6 x7 x8 c1_0z c1_0)) k yx6z yx6 yx7 yx8 yc1_0z yc1_0 := by kernel_rfl
theorem spec_TableOk.b_nat {R R' : Type} (e : R → R') (ret : Bool → Option R) (j0 : Bool → (List T) → Int → Int → Bool → (List T) → Option R) (k : Nat) (a0_0z : Bool) (a0_0 : List T) : spec_TableOk.b (fun r => (ret r).map e) (fun x6z x6 x7 x8 c1_0z c1_0 => (j0 x6z x6 x7 x8 c1_0z c1_0).map e) k a0_0z a0_0 = (spec_TableOk.b ret j0 k a0_0z a0_0).map e := by
  unfold spec_TableOk.b
  repeat' first | with_reducible refine nat_cond ?_ ?_ | with_reducible refine nat_bind fun _ => ?_ | rfl
theorem spec_TableOk.l0b_nat {R R' : Type} (e : R → R') (ret : Bool → Option R) (j0 : Bool → (List T) → Int → Int → Bool → (List T) → Option R) (k : Nat) (x6z : Bool) (x6 : List T) (x7 : Int) (x8 : Int) (c1_0z : Bool) (c1_0 : List T) : spec_TableOk.l0b (fun r => (ret r).map e) (fun x6z x6 x7 x8 c1_0z c1_0 => (j0 x6z x6 x7 x8 c1_0z c1_0).map e) k x6z x6 x7 x8 c1_0z c1_0 = (spec_TableOk.l0b ret j0 k x6z x6 x7 x8 c1_0z c1_0).map e := by
  unfold spec_TableOk.l0b
  repeat' first | with_reducible refine nat_cond ?_ ?_ | with_reducible refine nat_bind fun _ => ?_ | rfl
theorem spec_TableOk.rounds_eq (a0_0z : Bool) (a0_0 : List T) : ∀ k, (∀ (x6z : Bool) (x6 : List T) (x7 : Int) (x8 : Int) (c1_0z : Bool) (c1_0 : List T), rounds Try.prog spec_TableOk.Cs (finish Try.prog [] Try.f57 [.v (.agg [(.sl 82 a0_0z a0_0)])]) 100000 k spec_TableOk.K0 (spec_TableOk.N0 x6z x6 x7 x8 c1_0z c1_0) = (spec_TableOk.l0 k x6z x6 x7 x8 c1_0z c1_0).map spec_TableOk.enc)
  | 0 => fun _ _ _ _ _ _ => rfl
  | k + 1 => by
    have ih := spec_TableOk.rounds_eq a0_0z a0_0 k
    refine fun _ _ _ _ _ _ => ?_
    · refine (spec_TableOk.s0 k _ a0_0z a0_0 _ _ _ _ _ _).trans (Eq.trans ?_ (spec_TableOk.l0b_nat spec_TableOk.enc some (spec_TableOk.l0 k) k _ _ _ _ _ _))
      simp only [ih, Option.map_some]
theorem spec_TableOk.eq (k : Nat) (a0_0z : Bool) (a0_0 : List T) : answer Try.prog spec_TableOk.Cs 100000 spec_TableOk.cuts [] Try.f57 (k + 1) [.v (.agg [(.sl 82 a0_0z a0_0)])] = (spec_TableOk.f (k + 1) a0_0z a0_0).map spec_TableOk.enc := by
  have ih := spec_TableOk.rounds_eq a0_0z a0_0 k
  refine (spec_TableOk.s k a0_0z a0_0).trans (Eq.trans ?_ (spec_TableOk.b_nat spec_TableOk.enc some (spec_TableOk.l0 k) k a0_0z a0_0))
  simp only [ih, Option.map_some]
theorem spec_TableOk.sound (k : Nat) : SoundF Try.prog 57 (fun a => (spec_TableOk.ans k a).val) := by
  refine sound_plain (fun args res h => ?_) (fun t n => rfl)
  unfold spec_TableOk.ans at h
  dsimp only at h
  split at h
  · cases k with
    | zero => cases h
    | succ k =>
      unfold Ans.val at h
      rw [← spec_TableOk.eq] at h
      exact answer_sound mixed Try.func57 _ _ _ (k + 1) (fun j _ => tab_sound (tab_cons (spec_l01In.sound j) (tab_cons (spec_l02Signers.sound j) (tab_nil)))) _ _ h
  · exact (Ans.no_val h).elim

/-! loop.example/g00790/spec.ShaInit -/
def spec_ShaInit.b {R : Type} (ret : Bool × List Int → Option R) (k : Nat) : Option R :=
  ret (false, ([1779033703, 3144134277, 1013904242, 2773480762, 1359893119, 2600822924, 528734635, 1541459225] : List Int))
def spec_ShaInit.f : Nat → Option (Bool × List Int)
  | 0 => none
  | k + 1 => spec_ShaInit.b some k
def spec_ShaInit.enc (r : Bool × List Int) : Res := ⟨[.vals false [((.nums 3 .i64 r.1 r.2), true)]], []⟩
def spec_ShaInit.ans (k : Nat) : List Arg → Ans
  | [] => ⟨spec_ShaInit.f k, spec_ShaInit.enc⟩
  | _ => Ans.no
def spec_ShaInit.Cs (k : Nat) : CallSem := tab []
def spec_ShaInit.cuts : List (Nat × Keep) := []
theorem spec_ShaInit.s (k : Nat) : answer Try.prog spec_ShaInit.Cs 100000 spec_ShaInit.cuts [] Try.f97 (k + 1) [] = spec_ShaInit.b (fun r => some (spec_ShaInit.enc r)) k := by kernel_rfl
theorem spec_ShaInit.b_nat {R R' : Type} (e : R → R') (ret : Bool × List Int → Option R) (k : Nat) : spec_ShaInit.b (fun r => (ret r).map e) k = (spec_ShaInit.b ret k).map e := by
  unfold spec_ShaInit.b
  repeat' first | with_reducible refine nat_cond ?_ ?_ | with_reducible refine nat_bind fun _ => ?_ | rfl
theorem spec_ShaInit.eq (k : Nat) : answer Try.prog spec_ShaInit.Cs 100000 spec_ShaInit.cuts [] Try.f97 (k + 1) [] = (spec_ShaInit.f (k + 1)).map spec_ShaInit.enc := by
  refine (spec_ShaInit.s k).trans (Eq.trans ?_ (spec_ShaInit.b_nat spec_ShaInit.enc some k))
  simp only [Option.map_some]
theorem spec_ShaInit.sound (k : Nat) : SoundF Try.prog 97 (fun a => (spec_ShaInit.ans k a).val) := by
  refine sound_plain (fun args res h => ?_) (fun t n => rfl)
  unfold spec_ShaInit.ans at h
  dsimp only at h
  split at h
  · cases k with
    | zero => cases h
    | succ k =>
      unfold Ans.val at h
      rw [← spec_ShaInit.eq] at h
      exact answer_sound mixed Try.func97 _ _ _ (k + 1) (fun j _ => tab_sound (tab_nil)) _ _ h
  · exact (Ans.no_val h).elim

/-! loop.example/g00790/spec.ShaPad -/
def spec_ShaPad.b {R : Type} (ret : Bool × List Int → Option R) (j0 : Bool → (List Int) → (List Int) → Option R) (j1 : (List Int) → Int → Int → Option R) (k : Nat) (a0z : Bool) (a0 : List Int) : Option R :=
  (spec_l01Copy.f k a0z a0).bind fun t0 => cond (decide ((t0.2).length + 1 < 140737488355328)) (j0 a0z a0 (t0.2 ++ ([128] : List Int))) (none)
def spec_ShaPad.l0b {R : Type} (ret : Bool × List Int → Option R) (j0 : Bool → (List Int) → (List Int) → Option R) (j1 : (List Int) → Int → Int → Option R) (k : Nat) (x0z : Bool) (x0 : List Int) (x3 : List Int) : Option R :=
  cond (!(decide ((Int.tmod ((x3).length : Int) 64) = 56))) (cond (decide ((x3).length + 1 < 140737488355328)) (j0 x0z x0 (x3 ++ ([0] : List Int))) (none)) (j1 x3 (RowKit.wrap64 ((8 : Int) * ((x0).length : Int))) 7)
def spec_ShaPad.l1b {R : Type} (ret : Bool × List Int → Option R) (j0 : Bool → (List Int) → (List Int) → Option R) (j1 : (List Int) → Int → Int → Option R) (k : Nat) (x3 : List Int) (x4 : Int) (x5 : Int) : Option R :=
  cond (decide (x5 ≥ 0)) (cond (decide ((0 : Int) ≤ (RowKit.wrap64 ((8 : Int) * x5)))) (cond (decide ((x3).length + 1 < 140737488355328)) (j1 (x3 ++ ([(((shrI .i64 x4 (RowKit.wrap64 ((8 : Int) * x5)))) % 256)] : List Int)) x4 (RowKit.wrap64 (x5 - 1))) (none)) (none)) (ret (false, x3))
mutual
def spec_ShaPad.l0 : Nat → Bool → (List Int) → (List Int) → Option (Bool × List Int)
  | 0, _, _, _ => none
  | k + 1, x0z, x0, x3 => spec_ShaPad.l0b some (spec_ShaPad.l0 k) (spec_ShaPad.l1 k) k x0z x0 x3
def spec_ShaPad.l1 : Nat → (List Int) → Int → Int → Option (Bool × List Int)
  | 0, _, _, _ => none
  | k + 1, x3, x4, x5 => spec_ShaPad.l1b some (spec_ShaPad.l0 k) (spec_ShaPad.l1 k) k x3 x4 x5
end
def spec_ShaPad.f : Nat → Bool → (List Int) → Option (Bool × List Int)
  | 0, _, _ => none
  | k + 1, a0z, a0 => spec_ShaPad.b some (spec_ShaPad.l0 k) (spec_ShaPad.l1 k) k a0z a0
def spec_ShaPad.enc (r : Bool × List Int) : Res := ⟨[.vals false [((.nums 5 .u8 r.1 r.2), true)]], []⟩
def spec_ShaPad.ans (k : Nat) : List Arg → Ans
  | [.v (.nums 5 .u8 a0z a0)] => ⟨spec_ShaPad.f k a0z a0, spec_ShaPad.enc⟩
  | _ => Ans.no
def spec_ShaPad.Cs (k : Nat) : CallSem := tab [(59, spec_l01Copy.ans k)]
def spec_ShaPad.cuts : List (Nat × Keep) := [(28, ⟨[(0, some []), (3, none)], []⟩), (250, ⟨[(3, none), (4, some []), (5, some [])], []⟩)]
noncomputable def spec_ShaPad.K0 : List Fr := framesAt [true, true, false, false] (bodyOf Try.f98 spec_ShaPad.cuts) []
def spec_ShaPad.N0 (x0z : Bool) (x0 : List Int) (x3 : List Int) : St := stOf 33 33 1 [(0, .val ⟨(.nums 5 .u8 x0z x0), [], false, none⟩), (3, .val ⟨(.nums 5 .u8 false x3), [.l 3 0], true, some (.l 3 0)⟩)] []
noncomputable def spec_ShaPad.K1 : List Fr := framesAt [true, true, true, true, false, true, false] (bodyOf Try.f98 spec_ShaPad.cuts) []
def spec_ShaPad.N1 (x3 : List Int) (x4 : Int) (x5 : Int) : St := stOf 33 33 1 [(3, .val ⟨(.nums 5 .u8 false x3), [.l 3 0], true, some (.l 3 0)⟩), (4, .val (V.s (.int .i64 x4))), (5, .val (V.s (.int .i64 x5)))] []
theorem spec_ShaPad.s (k : Nat) (a0z : Bool) (a0 : List Int) : answer Try.prog spec_ShaPad.Cs 100000 spec_ShaPad.cuts [] Try.f98 (k + 1) [.v (.nums 5 .u8 a0z a0)] = spec_ShaPad.b (fun r => some (spec_ShaPad.enc r)) (fun x0z x0 x3 => rounds Try.prog spec_ShaPad.Cs (finish Try.prog [] Try.f98 [.v (.nums 5 .u8 a0z a0)]) 100000 k spec_ShaPad.K0 (spec_ShaPad.N0 x0z x0 x3)) (fun x3 x4 x5 => rounds Try.prog spec_ShaPad.Cs (finish Try.prog [] Try.f98 [.v (.nums 5 .u8 a0z a0)]) 100000 k spec_ShaPad.K1 (spec_ShaPad.N1 x3 x4 x5)) k a0z a0 := by kernel_rfl
theorem spec_ShaPad.s0 (k : Nat) (G : List Fr → St → Option Res) (a0z : Bool) (a0 : List Int) (yx0z : Bool) (yx0 : List Int) (yx3 : List Int) : resume Try.prog (spec_ShaPad.Cs k) G (finish Try.prog [] Try.f98 [.v (.nums 5 .u8 a0z a0)]) 100000 spec_ShaPad.K0 (spec_ShaPad.N0 yx0z yx0 yx3) = spec_ShaPad.l0b (fun r => some (spec_ShaPad.enc r)) (fun x0z x0 x3 => G spec_ShaPad.K0 (spec_ShaPad.N0 x0z x0 x3)) (fun x3 x4 x5 => G spec_ShaPad.K1 (spec_ShaPad.N1 x3 x4 x5)) k yx0z yx0 yx3 := by kernel_rfl
theorem spec_ShaPad.s1 (k : Nat) (G : List Fr → St → Option Res) (a0z : Bool) (a0 : List Int) (yx3 : List Int) (yx4 : Int) (yx5 : Int) : resume Try.prog (spec_ShaPad.Cs k) G (finish Try.prog [] Try.f98 [.v (.nums 5 .u8 a0z a0)]) 100000 spec_ShaPad.K1 (spec_ShaPad.N1 yx3 yx4 yx5) = spec_ShaPad.l1b (fun r => some (spec_ShaPad.enc r)) (fun x0z x0 x3 => G spec_ShaPad.K0 (spec_ShaPad.N0 x0z x0 x3)) (fun x3 x4 x5 => G spec_ShaPad.K1 (spec_ShaPad.N1 x3 x4 x5)) k yx3 yx4 yx5 := by kernel_rfl
theorem spec_ShaPad.b_nat {R R' : Type} (e : R → R') (ret : Bool × List Int → Option R) (j0 : Bool → (List Int) → (List Int) → Option R) (j1 : (List Int) → Int → Int → Option R) (k : Nat) (a0z : Bool) (a0 : List Int) : spec_ShaPad.b (fun r => (ret r).map e) (fun x0z x0 x3 => (j0 x0z x0 x3).map e) (fun x3 x4 x5 => (j1 x3 x4 x5).map e) k a0z a0 = (spec_ShaPad.b ret j0 j1 k a0z a0).map e := by
  unfold spec_ShaPad.b
  repeat' first | with_reducible refine nat_cond ?_ ?_ | with_reducible refine nat_bind fun _ => ?_ | rfl
theorem spec_ShaPad.l0b_nat {R R' : Type} (e : R → R') (ret : Bool × List Int → Option R) (j0 : Bool → (List Int) → (List Int) → Option R) (j1 : (List Int) → Int → Int → Option R) (k : Nat) (x0z : Bool) (x0 : List Int) (x3 : List Int) : spec_ShaPad.l0b (fun r => (ret r).map e) (fun x0z x0 x3 => (j0 x0z x0 x3).map e) (fun x3 x4 x5 => (j1 x3 x4 x5).map e) k x0z x0 x3 = (spec_ShaPad.l0b ret j0 j1 k x0z x0 x3).map e := by
  unfold spec_ShaPad.l0b
  repeat' first | with_reducible refine nat_cond ?_ ?_ | with_reducible refine nat_bind fun _ => ?_ | rfl
theorem spec_ShaPad.l1b_nat {R R' : Type} (e : R → R') (ret : Bool × List Int → Option R) (j0 : Bool → (List Int) → (List Int) → Option R) (j1 : (List Int) → Int → Int → Option R) (k : Nat) (x3 : List Int) (x4 : Int) (x5 : Int) : spec_ShaPad.l1b (fun r => (ret r).map e) (fun x0z x0 x3 => (j0 x0z x0 x3).map e) (fun x3 x4 x5 => (j1 x3 x4 x5).map e) k x3 x4 x5 = (spec_ShaPad.l1b ret j0 j1 k x3 x4 x5).map e := by
  unfold spec_ShaPad.l1b
  repeat' first | with_reducible refine nat_cond ?_ ?_ | with_reducible refine nat_bind fun _ => ?_ | rfl
theorem spec_ShaPad.rounds_eq (a0z : Bool) (a0 : List Int) : ∀ k, (∀ (x0z : Bool) (x0 : List Int) (x3 : List Int), rounds Try.prog spec_ShaPad.Cs (finish Try.prog [] Try.f98 [.v (.nums 5 .u8 a0z a0)]) 100000 k spec_ShaPad.K0 (spec_ShaPad.N0 x0z x0 x3) = (spec_ShaPad.l0 k x0z x0 x3).map spec_ShaPad.enc) ∧ (∀ (x3 : List Int) (x4 : Int) (x5 : Int), rounds Try.prog spec_ShaPad.Cs (finish Try.prog [] Try.f98 [.v (.nums 5 .u8 a0z a0)]) 100000 k spec_ShaPad.K1 (spec_ShaPad.N1 x3 x4 x5) = (spec_ShaPad.l1 k x3 x4 x5).map spec_ShaPad.enc)
  | 0 => ⟨fun _ _ _ => rfl, fun _ _ _ => rfl⟩
  | k + 1 => by
    have ih := spec_ShaPad.rounds_eq a0z a0 k
    refine ⟨fun _ _ _ => ?_, fun _ _ _ => ?_⟩
    · refine (spec_ShaPad.s0 k _ a0z a0 _ _ _).trans (Eq.trans ?_ (spec_ShaPad.l0b_nat spec_ShaPad.enc some (spec_ShaPad.l0 k) (spec_ShaPad.l1 k) k _ _ _))
      simp only [ih.1, ih.2, Option.map_some]
    · refine (spec_ShaPad.s1 k _ a0z a0 _ _ _).trans (Eq.trans ?_ (spec_ShaPad.l1b_nat spec_ShaPad.enc some (spec_ShaPad.l0 k) (spec_ShaPad.l1 k) k _ _ _))
      simp only [ih.1, ih.2, Option.map_some]
theorem spec_ShaPad.eq (k : Nat) (a0z : Bool) (a0 : List Int) : answer Try.prog spec_ShaPad.Cs 100000 spec_ShaPad.cuts [] Try.f98 (k + 1) [.v (.nums 5 .u8 a0z a0)] = (spec_ShaPad.f (k + 1) a0z a0).map spec_ShaPad.enc := by
  have ih := spec_ShaPad.rounds_eq a0z a0 k
  refine (spec_ShaPad.s k a0z a0).trans (Eq.trans ?_ (spec_ShaPad.b_nat spec_ShaPad.enc some (spec_ShaPad.l0 k) (spec_ShaPad.l1 k) k a0z a0))
  simp only [ih.1, ih.2, Option.map_some]
theorem spec_ShaPad.sound (k : Nat) : SoundF Try.prog 98 (fun a => (spec_ShaPad.ans k a).val) := by
  refine sound_plain (fun args res h => ?_) (fun t n => rfl)
  unfold spec_ShaPad.ans at h
  dsimp only at h
  split at h
  · cases k with
    | zero => cases h
    | succ k =>
      unfold Ans.val at h
      rw [← spec_ShaPad.eq] at h
      exact answer_sound mixed Try.func98 _ _ _ (k + 1) (fun j _ => tab_sound (tab_cons (spec_l01Copy.sound j) (tab_nil))) _ _ h
  · exact (Ans.no_val h).elim

/-! loop.example/g00790/spec.l04Word -/
def spec_l04Word.b {R : Type} (ret : Bool → Option R) (k : Nat) (a0 : Int) : Option R :=
  (spec_l01In.f k a0 0 4294967295).bind fun t0 => ret t0
def spec_l04Word.f : Nat → Int → Option Bool
  | 0, _ => none
  | k + 1, a0 => spec_l04Word.b some k a0
def spec_l04Word.enc (r : Bool) : Res := ⟨[.vals false [((.bool r), true)]], []⟩
def spec_l04Word.ans (k : Nat) : List Arg → Ans
  | [.v (.int .i64 a0)] => ⟨spec_l04Word.f k a0, spec_l04Word.enc⟩
  | _ => Ans.no
def spec_l04Word.Cs (k : Nat) : CallSem := tab [(58, spec_l01In.ans k)]
def spec_l04Word.cuts : List (Nat × Keep) := []
theorem spec_l04Word.s (k : Nat) (a0 : Int) : answer Try.prog spec_l04Word.Cs 100000 spec_l04Word.cuts [] Try.f105 (k + 1) [.v (.int .i64 a0)] = spec_l04Word.b (fun r => some (spec_l04Word.enc r)) k a0 := by kernel_rfl
theorem spec_l04Word.b_nat {R R' : Type} (e : R → R') (ret : Bool → Option R) (k : Nat) (a0 : Int) : spec_l04Word.b (fun r => (ret r).map e) k a0 = (spec_l04Word.b ret k a0).map e := by
  unfold spec_l04Word.b
  repeat' first | with_reducible refine nat_cond ?_ ?_ | with_reducible refine nat_bind fun _ => ?_ | rfl
theorem spec_l04Word.eq (k : Nat) (a0 : Int) : answer Try.prog spec_l04Word.Cs 100000 spec_l04Word.cuts [] Try.f105 (k + 1) [.v (.int .i64 a0)] = (spec_l04Word.f (k + 1) a0).map spec_l04Word.enc := by
  refine (spec_l04Word.s k a0).trans (Eq.trans ?_ (spec_l04Word.b_nat spec_l04Word.enc some k a0))
  simp only [Option.map_some]
theorem spec_l04Word.sound (k : Nat) : SoundF Try.prog 105 (fun a => (spec_l04Word.ans k a).val) := by
  refine sound_plain (fun args res h => ?_) (fun t n => rfl)
  unfold spec_l04Word.ans at h
  dsimp only at h
  split at h
  · cases k with
    | zero => cases h
    | succ k =>
      unfold Ans.val at h
      rw [← spec_l04Word.eq] at h
      exact answer_sound mixed Try.func105 _ _ _ (k + 1) (fun j _ => tab_sound (tab_cons (spec_l01In.sound j) (tab_nil))) _ _ h
  · exact (Ans.no_val h).elim

/-! loop.example/g00790/spec.l04Turn -/
def spec_l04Turn.b {R : Type} (ret : Int → Option R) (k : Nat) (a0 : Int) (a1 : Int) : Option R :=
  cond (decide ((0 : Int) ≤ a1)) (cond (decide ((0 : Int) ≤ (RowKit.wrap64 ((32 : Int) - a1)))) (ret (Go.bits .and .i64 (Go.bits .or .i64 (shrI .i64 a0 a1) (shlI .i64 a0 (RowKit.wrap64 ((32 : Int) - a1)))) 4294967295)) (none)) (none)
def spec_l04Turn.f : Nat → Int → Int → Option Int
  | 0, _, _ => none
  | k + 1, a0, a1 => spec_l04Turn.b some k a0 a1
def spec_l04Turn.enc (r : Int) : Res := ⟨[.vals false [((.int .i64 r), true)]], []⟩
def spec_l04Turn.ans (k : Nat) : List Arg → Ans
  | [.v (.int .i64 a0), .v (.int .i64 a1)] => ⟨spec_l04Turn.f k a0 a1, spec_l04Turn.enc⟩
  | _ => Ans.no
def spec_l04Turn.Cs (k : Nat) : CallSem := tab []
def spec_l04Turn.cuts : List (Nat × Keep) := []
theorem spec_l04Turn.s (k : Nat) (a0 : Int) (a1 : Int) : answer Try.prog spec_l04Turn.Cs 100000 spec_l04Turn.cuts [] Try.f106 (k + 1) [.v (.int .i64 a0), .v (.int .i64 a1)] = spec_l04Turn.b (fun r => some (spec_l04Turn.enc r)) k a0 a1 := by kernel_rfl
theorem spec_l04Turn.b_nat {R R' : Type} (e : R → R') (ret : Int → Option R) (k : Nat) (a0 : Int) (a1 : Int) : spec_l04Turn.b (fun r => (ret r).map e) k a0 a1 = (spec_l04Turn.b ret k a0 a1).map e := by
  unfold spec_l04Turn.b
  repeat' first | with_reducible refine nat_cond ?_ ?_ | with_reducible refine nat_bind fun _ => ?_ | rfl
theorem spec_l04Turn.eq (k : Nat) (a0 : Int) (a1 : Int) : answer Try.prog spec_l04Turn.Cs 100000 spec_l04Turn.cuts [] Try.f106 (k + 1) [.v (.int .i64 a0), .v (.int .i64 a1)] = (spec_l04Turn.f (k + 1) a0 a1).map spec_l04Turn.enc := by
  refine (spec_l04Turn.s k a0 a1).trans (Eq.trans ?_ (spec_l04Turn.b_nat spec_l04Turn.enc some k a0 a1))
  simp only [Option.map_some]
theorem spec_l04Turn.sound (k : Nat) : SoundF Try.prog 106 (fun a => (spec_l04Turn.ans k a).val) := by
  refine sound_plain (fun args res h => ?_) (fun t n => rfl)
  unfold spec_l04Turn.ans at h
  dsimp only at h
  split at h
  · cases k with
    | zero => cases h
    | succ k =>
      unfold Ans.val at h
      rw [← spec_l04Turn.eq] at h
      exact answer_sound mixed Try.func106 _ _ _ (k + 1) (fun j _ => tab_sound (tab_nil)) _ _ h
  · exact (Ans.no_val h).elim

/-! loop.example/g00790/spec.l04K -/
def spec_l04K.b {R : Type} (ret : Bool × List Int → Option R) (k : Nat) : Option R :=
  ret (false, ([1116352408, 1899447441, 3049323471, 3921009573, 961987163, 1508970993, 2453635748, 2870763221, 3624381080, 310598401, 607225278, 1426881987, 1925078388, 2162078206, 2614888103, 3248222580, 3835390401, 4022224774, 264347078, 604807628, 770255983, 1249150122, 1555081692, 1996064986, 2554220882, 2821834349, 2952996808, 3210313671, 3336571891, 3584528711, 113926993, 338241895, 666307205, 773529912, 1294757372, 1396182291, 1695183700, 1986661051, 2177026350, 2456956037, 2730485921, 2820302411, 3259730800, 3345764771, 3516065817, 3600352804, 4094571909, 275423344, 430227734, 506948616, 659060556, 883997877, 958139571, 1322822218, 1537002063, 1747873779, 1955562222, 2024104815, 2227730452, 2361852424, 2428436474, 2756734187, 3204031479, 3329325298] : List Int))
def spec_l04K.f : Nat → Option (Bool × List Int)
  | 0 => none
  | k + 1 => spec_l04K.b some k
def spec_l04K.enc (r : Bool × List Int) : Res := ⟨[.vals false [((.nums 3 .i64 r.1 r.2), true)]], []⟩
def spec_l04K.ans (k : Nat) : List Arg → Ans
  | [] => ⟨spec_l04K.f k, spec_l04K.enc⟩
  | _ => Ans.no
def spec_l04K.Cs (k : Nat) : CallSem := tab []
def spec_l04K.cuts : List (Nat × Keep) := []
theorem spec_l04K.s (k : Nat) : answer Try.prog spec_l04K.Cs 100000 spec_l04K.cuts [] Try.f107 (k + 1) [] = spec_l04K.b (fun r => some (spec_l04K.enc r)) k := by kernel_rfl
theorem spec_l04K.b_nat {R R' : Type} (e : R → R') (ret : Bool × List Int → Option R) (k : Nat) : spec_l04K.b (fun r => (ret r).map e) k = (spec_l04K.b ret k).map e := by
  unfold spec_l04K.b
  repeat' first | with_reducible refine nat_cond ?_ ?_ | with_reducible refine nat_bind fun _ => ?_ | rfl
theorem spec_l04K.eq (k : Nat) : answer Try.prog spec_l04K.Cs 100000 spec_l04K.cuts [] Try.f107 (k + 1) [] = (spec_l04K.f (k + 1)).map spec_l04K.enc := by
  refine (spec_l04K.s k).trans (Eq.trans ?_ (spec_l04K.b_nat spec_l04K.enc some k))
  simp only [Option.map_some]
theorem spec_l04K.sound (k : Nat) : SoundF Try.prog 107 (fun a => (spec_l04K.ans k a).val) := by
  refine sound_plain (fun args res h => ?_) (fun t n => rfl)
  unfold spec_l04K.ans at h
  dsimp only at h
  split at h
  · cases k with
    | zero => cases h
    | succ k =>
      unfold Ans.val at h
      rw [← spec_l04K.eq] at h
      exact answer_sound mixed Try.func107 _ _ _ (k + 1) (fun j _ => tab_sound (tab_nil)) _ _ h
  · exact (Ans.no_val h).elim

end Go.Proofs.YthocpcfjfgnkgaaG
