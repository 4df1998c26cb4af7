/- What the functions compute, printed by a program of this repo; each is shown to be what the machine of values answers. No condition. -/
import Derived.Test.YtbpcnodmgphinaaProg
import Derived.KernelRfl
import Derived.Test.YtbpcnodmgphinaaRvD
namespace Go.Proofs.YtbpcnodmgphinaaG
open Go Go.Proofs.YtbpcnodmgphinaaRv Go.Proofs
set_option linter.unusedVariables false
set_option linter.unusedSimpArgs false
theorem mixed : Try.prog.follows .mixedOrders = true := by kernel_rfl
/-! loop.example/g00790/spec.l01New -/
def spec_l01New.b {R : Type} (ret : Bool × (List Int) × Int × Int → Option R) (j0 : Bool → (List Int) → Int → Int → Option R) (k : Nat) (a0z : Bool) (a0 : List Int) : Option R :=
  j0 a0z a0 (RowKit.wrap64 ((1611 : Int) + ((a0).length : Int))) 0
def spec_l01New.l0b {R : Type} (ret : Bool × (List Int) × Int × Int → Option R) (j0 : Bool → (List Int) → Int → Int → Option R) (k : Nat) (x0z : Bool) (x0 : List Int) (x3 : Int) (x4 : Int) : Option R :=
  cond (decide (x4 < ((x0).length : Int))) (cond (decide (x4 < 4000)) (cond (decide ((0 : Int) ≤ x4)) (cond (decide (x4 < ((x0).length : Int))) (j0 x0z x0 (Go.bits .and .i64 (RowKit.wrap64 ((RowKit.wrap64 ((RowKit.wrap64 (x3 * 37)) + (RowKit.wrap64 ((rdI x0 x4))))) + 7)) 1073741823) (RowKit.wrap64 (x4 + 1))) (none)) (none)) (ret (x0z, x0, 0, x3))) (ret (x0z, x0, 0, x3))
def spec_l01New.l0 : Nat → Bool → (List Int) → Int → Int → Option (Bool × (List Int) × Int × Int)
  | 0, _, _, _, _ => none
  | k + 1, x0z, x0, x3, x4 => spec_l01New.l0b some (spec_l01New.l0 k) k x0z x0 x3 x4
def spec_l01New.f : Nat → Bool → (List Int) → Option (Bool × (List Int) × Int × Int)
  | 0, _, _ => none
  | k + 1, a0z, a0 => spec_l01New.b some (spec_l01New.l0 k) k a0z a0
def spec_l01New.enc (r : Bool × (List Int) × Int × Int) : Res := ⟨[.box [((.nums 5 .u8 r.1 r.2.1), false), ((.int .i64 r.2.2.1), true), ((.int .i64 r.2.2.2), true)]], []⟩
def spec_l01New.ans (k : Nat) : List Arg → Ans
  | [.v (.nums 5 .u8 a0z a0)] => ⟨spec_l01New.f k a0z a0, spec_l01New.enc⟩
  | _ => Ans.no
def spec_l01New.Cs (k : Nat) : CallSem := tab []
def spec_l01New.cuts : List (Nat × Keep) := [(58, ⟨[(0, some []), (3, some []), (4, some [])], []⟩)]
noncomputable def spec_l01New.K0 : List Fr := framesAt [true, true, false, true, false] (bodyOf Try.f74 spec_l01New.cuts) []
def spec_l01New.N0 (x0z : Bool) (x0 : List Int) (x3 : Int) (x4 : Int) : St := stOf 32 32 1 [(0, .val ⟨(.nums 5 .u8 x0z x0), [], false, none⟩), (3, .val (V.s (.int .i64 x3))), (4, .val (V.s (.int .i64 x4)))] []
theorem spec_l01New.s (k : Nat) (a0z : Bool) (a0 : List Int) : answer Try.prog spec_l01New.Cs 100000 spec_l01New.cuts [false, true, true] Try.f74 (k + 1) [.v (.nums 5 .u8 a0z a0)] = spec_l01New.b (fun r => some (spec_l01New.enc r)) (fun x0z x0 x3 x4 => rounds Try.prog spec_l01New.Cs (finish Try.prog [false, true, true] Try.f74 [.v (.nums 5 .u8 a0z a0)]) 100000 k spec_l01New.K0 (spec_l01New.N0 x0z x0 x3 x4)) k a0z a0 := by kernel_rfl
theorem spec_l01New.s0 (k : Nat) (G : List Fr → St → Option Res) (a0z : Bool) (a0 : List Int) (yx0z : Bool) (yx0 : List Int) (yx3 : Int) (yx4 : Int) : resume Try.prog (spec_l01New.Cs k) G (finish Try.prog [false, true, true] Try.f74 [.v (.nums 5 .u8 a0z a0)]) 100000 spec_l01New.K0 (spec_l01New.N0 yx0z yx0 yx3 yx4) = spec_l01New.l0b (fun r => some (spec_l01New.enc r)) (fun x0z x0 x3 x4 => G spec_l01New.K0 (spec_l01New.N0 x0z x0 x3 x4)) k yx0z yx0 yx3 yx4 := by kernel_rfl
theorem spec_l01New.b_nat {R R' : Type} (e : R → R') (ret : Bool × (List Int) × Int × Int → Option R) (j0 : Bool → (List Int) → Int → Int → Option R) (k : Nat) (a0z : Bool) (a0 : List Int) : spec_l01New.b (fun r => (ret r).map e) (fun x0z x0 x3 x4 => (j0 x0z x0 x3 x4).map e) k a0z a0 = (spec_l01New.b ret j0 k a0z a0).map e := by
  unfold spec_l01New.b
  repeat' first | with_reducible refine nat_cond ?_ ?_ | with_reducible refine nat_bind fun _ => ?_ | rfl
theorem spec_l01New.l0b_nat {R R' : Type} (e : R → R') (ret : Bool × (List Int) × Int × Int → Option R) (j0 : Bool → (List Int) → Int → Int → Option R) (k : Nat) (x0z : Bool) (x0 : List Int) (x3 : Int) (x4 : Int) : spec_l01New.l0b (fun r => (ret r).map e) (fun x0z x0 x3 x4 => (j0 x0z x0 x3 x4).map e) k x0z x0 x3 x4 = (spec_l01New.l0b ret j0 k x0z x0 x3 x4).map e := by
  unfold spec_l01New.l0b
  repeat' first | with_reducible refine nat_cond ?_ ?_ | with_reducible refine nat_bind fun _ => ?_ | rfl
theorem spec_l01New.rounds_eq (a0z : Bool) (a0 : List Int) : ∀ k, (∀ (x0z : Bool) (x0 : List Int) (x3 : Int) (x4 : Int), rounds Try.prog spec_l01New.Cs (finish Try.prog [false, true, true] Try.f74 [.v (.nums 5 .u8 a0z a0)]) 100000 k spec_l01New.K0 (spec_l01New.N0 x0z x0 x3 x4) = (spec_l01New.l0 k x0z x0 x3 x4).map spec_l01New.enc)
  | 0 => fun _ _ _ _ => rfl
  | k + 1 => by
    have ih := spec_l01New.rounds_eq a0z a0 k
    refine fun _ _ _ _ => ?_
    · refine (spec_l01New.s0 k _ a0z a0 _ _ _ _).trans (Eq.trans ?_ (spec_l01New.l0b_nat spec_l01New.enc some (spec_l01New.l0 k) k _ _ _ _))
      simp only [ih, Option.map_some]
theorem spec_l01New.eq (k : Nat) (a0z : Bool) (a0 : List Int) : answer Try.prog spec_l01New.Cs 100000 spec_l01New.cuts [false, true, true] Try.f74 (k + 1) [.v (.nums 5 .u8 a0z a0)] = (spec_l01New.f (k + 1) a0z a0).map spec_l01New.enc := by
  have ih := spec_l01New.rounds_eq a0z a0 k
  refine (spec_l01New.s k a0z a0).trans (Eq.trans ?_ (spec_l01New.b_nat spec_l01New.enc some (spec_l01New.l0 k) k a0z a0))
  simp only [ih, Option.map_some]
theorem spec_l01New.sound (k : Nat) : SoundF Try.prog 74 (fun a => (spec_l01New.ans k a).val) := by
  refine sound_plain (fun args res h => ?_) (fun t n => rfl)
  unfold spec_l01New.ans at h
  dsimp only at h
  split at h
  · cases k with
    | zero => cases h
    | succ k =>
      unfold Ans.val at h
      rw [← spec_l01New.eq] at h
      exact answer_sound mixed Try.func74 _ _ _ (k + 1) (fun j _ => tab_sound (tab_nil)) _ _ h
  · exact (Ans.no_val h).elim

/-! loop.example/g00790/spec.l01Byte -/
def spec_l01Byte.b {R : Type} (ret : Int × Bool × (List Int) × Int × Int → Option R) (k : Nat) (a0_0z : Bool) (a0_0 : List Int) (a0_1 : Int) (a0_2 : Int) : Option R :=
  cond (decide (a0_1 < ((a0_0).length : Int))) (cond (decide ((0 : Int) ≤ a0_1)) (cond (decide (a0_1 < ((a0_0).length : Int))) (ret ((Go.bits .and .i64 (RowKit.wrap64 ((Go.bits .and .i64 (Go.bits .xor .i64 (shrI .i64 (RowKit.wrap64 ((RowKit.wrap64 (a0_2 * 6364136223846793005)) + 1442695040888963407)) 33) (shrI .i64 (RowKit.wrap64 ((RowKit.wrap64 (a0_2 * 6364136223846793005)) + 1442695040888963407)) 45)) 255) + (RowKit.wrap64 ((rdI a0_0 a0_1))))) 255), a0_0z, a0_0, (RowKit.wrap64 (a0_1 + 1)), (RowKit.wrap64 ((RowKit.wrap64 (a0_2 * 6364136223846793005)) + 1442695040888963407)))) (none)) (none)) (ret ((Go.bits .and .i64 (Go.bits .xor .i64 (shrI .i64 (RowKit.wrap64 ((RowKit.wrap64 (a0_2 * 6364136223846793005)) + 1442695040888963407)) 33) (shrI .i64 (RowKit.wrap64 ((RowKit.wrap64 (a0_2 * 6364136223846793005)) + 1442695040888963407)) 45)) 255), a0_0z, a0_0, a0_1, (RowKit.wrap64 ((RowKit.wrap64 (a0_2 * 6364136223846793005)) + 1442695040888963407))))
def spec_l01Byte.f : Nat → Bool → (List Int) → Int → Int → Option (Int × Bool × (List Int) × Int × Int)
  | 0, _, _, _, _ => none
  | k + 1, a0_0z, a0_0, a0_1, a0_2 => spec_l01Byte.b some k a0_0z a0_0 a0_1 a0_2
def spec_l01Byte.enc (r : Int × Bool × (List Int) × Int × Int) : Res := ⟨[.vals false [((.int .i64 r.1), true)]], [[((.nums 5 .u8 r.2.1 r.2.2.1), false), ((.int .i64 r.2.2.2.1), true), ((.int .i64 r.2.2.2.2), true)]]⟩
def spec_l01Byte.ans (k : Nat) : List Arg → Ans
  | [.box [((.nums 5 .u8 a0_0z a0_0), false), ((.int .i64 a0_1), false), ((.int .i64 a0_2), false)]] => ⟨spec_l01Byte.f k a0_0z a0_0 a0_1 a0_2, spec_l01Byte.enc⟩
  | _ => Ans.no
def spec_l01Byte.Cs (k : Nat) : CallSem := tab []
def spec_l01Byte.cuts : List (Nat × Keep) := []
theorem spec_l01Byte.s (k : Nat) (a0_0z : Bool) (a0_0 : List Int) (a0_1 : Int) (a0_2 : Int) : answer Try.prog spec_l01Byte.Cs 100000 spec_l01Byte.cuts [true, false, true, true] Try.f147 (k + 1) [.box [((.nums 5 .u8 a0_0z a0_0), false), ((.int .i64 a0_1), false), ((.int .i64 a0_2), false)]] = spec_l01Byte.b (fun r => some (spec_l01Byte.enc r)) k a0_0z a0_0 a0_1 a0_2 := by kernel_rfl
theorem spec_l01Byte.b_nat {R R' : Type} (e : R → R') (ret : Int × Bool × (List Int) × Int × Int → Option R) (k : Nat) (a0_0z : Bool) (a0_0 : List Int) (a0_1 : Int) (a0_2 : Int) : spec_l01Byte.b (fun r => (ret r).map e) k a0_0z a0_0 a0_1 a0_2 = (spec_l01Byte.b ret k a0_0z a0_0 a0_1 a0_2).map e := by
  unfold spec_l01Byte.b
  repeat' first | with_reducible refine nat_cond ?_ ?_ | with_reducible refine nat_bind fun _ => ?_ | rfl
theorem spec_l01Byte.eq (k : Nat) (a0_0z : Bool) (a0_0 : List Int) (a0_1 : Int) (a0_2 : Int) : answer Try.prog spec_l01Byte.Cs 100000 spec_l01Byte.cuts [true, false, true, true] Try.f147 (k + 1) [.box [((.nums 5 .u8 a0_0z a0_0), false), ((.int .i64 a0_1), false), ((.int .i64 a0_2), false)]] = (spec_l01Byte.f (k + 1) a0_0z a0_0 a0_1 a0_2).map spec_l01Byte.enc := by
  refine (spec_l01Byte.s k a0_0z a0_0 a0_1 a0_2).trans (Eq.trans ?_ (spec_l01Byte.b_nat spec_l01Byte.enc some k a0_0z a0_0 a0_1 a0_2))
  simp only [Option.map_some]
theorem spec_l01Byte.sound (k : Nat) : SoundF Try.prog 147 (fun a => (spec_l01Byte.ans k a).val) := by
  refine sound_plain (fun args res h => ?_) (fun t n => rfl)
  unfold spec_l01Byte.ans at h
  dsimp only at h
  split at h
  · cases k with
    | zero => cases h
    | succ k =>
      unfold Ans.val at h
      rw [← spec_l01Byte.eq] at h
      exact answer_sound mixed Try.func147 _ _ _ (k + 1) (fun j _ => tab_sound (tab_nil)) _ _ h
  · exact (Ans.no_val h).elim

/-! loop.example/g00790/spec.l01Below -/
def spec_l01Below.b {R : Type} (ret : Int × Bool × (List Int) × Int × Int → Option R) (k : Nat) (a0_0z : Bool) (a0_0 : List Int) (a0_1 : Int) (a0_2 : Int) (a1 : Int) : Option R :=
  cond (decide (a1 ≤ 0)) (ret (0, a0_0z, a0_0, a0_1, a0_2)) (cond (decide (a1 ≤ 256)) ((spec_l01Byte.f k a0_0z a0_0 a0_1 a0_2).bind fun t0 => cond (!(decide (a1 = 0))) (ret ((Int.tmod t0.1 a1), t0.2.1, t0.2.2.1, t0.2.2.2.1, t0.2.2.2.2)) (none)) ((spec_l01Byte.f k a0_0z a0_0 a0_1 a0_2).bind fun t0 => (spec_l01Byte.f k t0.2.1 t0.2.2.1 t0.2.2.2.1 t0.2.2.2.2).bind fun t1 => (spec_l01Byte.f k t1.2.1 t1.2.2.1 t1.2.2.2.1 t1.2.2.2.2).bind fun t2 => (spec_l01Byte.f k t2.2.1 t2.2.2.1 t2.2.2.2.1 t2.2.2.2.2).bind fun t3 => cond (!(decide (a1 = 0))) (ret ((Int.tmod (RowKit.wrap64 ((RowKit.wrap64 ((RowKit.wrap64 ((RowKit.wrap64 (t0.1 * 16777216)) + (RowKit.wrap64 (t1.1 * 65536)))) + (RowKit.wrap64 (t2.1 * 256)))) + t3.1)) a1), t3.2.1, t3.2.2.1, t3.2.2.2.1, t3.2.2.2.2)) (none)))
def spec_l01Below.f : Nat → Bool → (List Int) → Int → Int → Int → Option (Int × Bool × (List Int) × Int × Int)
  | 0, _, _, _, _, _ => none
  | k + 1, a0_0z, a0_0, a0_1, a0_2, a1 => spec_l01Below.b some k a0_0z a0_0 a0_1 a0_2 a1
def spec_l01Below.enc (r : Int × Bool × (List Int) × Int × Int) : Res := ⟨[.vals false [((.int .i64 r.1), true)]], [[((.nums 5 .u8 r.2.1 r.2.2.1), false), ((.int .i64 r.2.2.2.1), true), ((.int .i64 r.2.2.2.2), true)]]⟩
def spec_l01Below.ans (k : Nat) : List Arg → Ans
  | [.box [((.nums 5 .u8 a0_0z a0_0), false), ((.int .i64 a0_1), false), ((.int .i64 a0_2), false)], .v (.int .i64 a1)] => ⟨spec_l01Below.f k a0_0z a0_0 a0_1 a0_2 a1, spec_l01Below.enc⟩
  | _ => Ans.no
def spec_l01Below.Cs (k : Nat) : CallSem := tab [(147, spec_l01Byte.ans k)]
def spec_l01Below.cuts : List (Nat × Keep) := []
theorem spec_l01Below.s (k : Nat) (a0_0z : Bool) (a0_0 : List Int) (a0_1 : Int) (a0_2 : Int) (a1 : Int) : answer Try.prog spec_l01Below.Cs 100000 spec_l01Below.cuts [true, false, true, true] Try.f76 (k + 1) [.box [((.nums 5 .u8 a0_0z a0_0), false), ((.int .i64 a0_1), false), ((.int .i64 a0_2), false)], .v (.int .i64 a1)] = spec_l01Below.b (fun r => some (spec_l01Below.enc r)) k a0_0z a0_0 a0_1 a0_2 a1 := by kernel_rfl
theorem spec_l01Below.b_nat {R R' : Type} (e : R → R') (ret : Int × Bool × (List Int) × Int × Int → Option R) (k : Nat) (a0_0z : Bool) (a0_0 : List Int) (a0_1 : Int) (a0_2 : Int) (a1 : Int) : spec_l01Below.b (fun r => (ret r).map e) k a0_0z a0_0 a0_1 a0_2 a1 = (spec_l01Below.b ret k a0_0z a0_0 a0_1 a0_2 a1).map e := by
  unfold spec_l01Below.b
  repeat' first | with_reducible refine nat_cond ?_ ?_ | with_reducible refine nat_bind fun _ => ?_ | rfl
theorem spec_l01Below.eq (k : Nat) (a0_0z : Bool) (a0_0 : List Int) (a0_1 : Int) (a0_2 : Int) (a1 : Int) : answer Try.prog spec_l01Below.Cs 100000 spec_l01Below.cuts [true, false, true, true] Try.f76 (k + 1) [.box [((.nums 5 .u8 a0_0z a0_0), false), ((.int .i64 a0_1), false), ((.int .i64 a0_2), false)], .v (.int .i64 a1)] = (spec_l01Below.f (k + 1) a0_0z a0_0 a0_1 a0_2 a1).map spec_l01Below.enc := by
  refine (spec_l01Below.s k a0_0z a0_0 a0_1 a0_2 a1).trans (Eq.trans ?_ (spec_l01Below.b_nat spec_l01Below.enc some k a0_0z a0_0 a0_1 a0_2 a1))
  simp only [Option.map_some]
theorem spec_l01Below.sound (k : Nat) : SoundF Try.prog 76 (fun a => (spec_l01Below.ans k a).val) := by
  refine sound_plain (fun args res h => ?_) (fun t n => rfl)
  unfold spec_l01Below.ans at h
  dsimp only at h
  split at h
  · cases k with
    | zero => cases h
    | succ k =>
      unfold Ans.val at h
      rw [← spec_l01Below.eq] at h
      exact answer_sound mixed Try.func76 _ _ _ (k + 1) (fun j _ => tab_sound (tab_cons (spec_l01Byte.sound j) (tab_nil))) _ _ h
  · exact (Ans.no_val h).elim

/-! loop.example/g00790/spec.l01Pick -/
def spec_l01Pick.b {R : Type} (ret : Int × Bool × (List Int) × Int × Int → Option R) (k : Nat) (a0_0z : Bool) (a0_0 : List Int) (a0_1 : Int) (a0_2 : Int) (a1z : Bool) (a1 : List Int) : Option R :=
  (spec_l01Below.f k a0_0z a0_0 a0_1 a0_2 ((a1).length : Int)).bind fun t0 => cond (decide ((0 : Int) ≤ t0.1)) (cond (decide (t0.1 < ((a1).length : Int))) (ret ((rdI a1 t0.1), t0.2.1, t0.2.2.1, t0.2.2.2.1, t0.2.2.2.2)) (none)) (none)
def spec_l01Pick.f : Nat → Bool → (List Int) → Int → Int → Bool → (List Int) → Option (Int × Bool × (List Int) × Int × Int)
  | 0, _, _, _, _, _, _ => none
  | k + 1, a0_0z, a0_0, a0_1, a0_2, a1z, a1 => spec_l01Pick.b some k a0_0z a0_0 a0_1 a0_2 a1z a1
def spec_l01Pick.enc (r : Int × Bool × (List Int) × Int × Int) : Res := ⟨[.vals false [((.int .i64 r.1), true)]], [[((.nums 5 .u8 r.2.1 r.2.2.1), false), ((.int .i64 r.2.2.2.1), true), ((.int .i64 r.2.2.2.2), true)]]⟩
def spec_l01Pick.ans (k : Nat) : List Arg → Ans
  | [.box [((.nums 5 .u8 a0_0z a0_0), false), ((.int .i64 a0_1), false), ((.int .i64 a0_2), false)], .v (.nums 3 .i64 a1z a1)] => ⟨spec_l01Pick.f k a0_0z a0_0 a0_1 a0_2 a1z a1, spec_l01Pick.enc⟩
  | _ => Ans.no
def spec_l01Pick.Cs (k : Nat) : CallSem := tab [(76, spec_l01Below.ans k)]
def spec_l01Pick.cuts : List (Nat × Keep) := []
theorem spec_l01Pick.s (k : Nat) (a0_0z : Bool) (a0_0 : List Int) (a0_1 : Int) (a0_2 : Int) (a1z : Bool) (a1 : List Int) : answer Try.prog spec_l01Pick.Cs 100000 spec_l01Pick.cuts [true, false, true, true] Try.f189 (k + 1) [.box [((.nums 5 .u8 a0_0z a0_0), false), ((.int .i64 a0_1), false), ((.int .i64 a0_2), false)], .v (.nums 3 .i64 a1z a1)] = spec_l01Pick.b (fun r => some (spec_l01Pick.enc r)) k a0_0z a0_0 a0_1 a0_2 a1z a1 := by kernel_rfl
theorem spec_l01Pick.b_nat {R R' : Type} (e : R → R') (ret : Int × Bool × (List Int) × Int × Int → Option R) (k : Nat) (a0_0z : Bool) (a0_0 : List Int) (a0_1 : Int) (a0_2 : Int) (a1z : Bool) (a1 : List Int) : spec_l01Pick.b (fun r => (ret r).map e) k a0_0z a0_0 a0_1 a0_2 a1z a1 = (spec_l01Pick.b ret k a0_0z a0_0 a0_1 a0_2 a1z a1).map e := by
  unfold spec_l01Pick.b
  repeat' first | with_reducible refine nat_cond ?_ ?_ | with_reducible refine nat_bind fun _ => ?_ | rfl
theorem spec_l01Pick.eq (k : Nat) (a0_0z : Bool) (a0_0 : List Int) (a0_1 : Int) (a0_2 : Int) (a1z : Bool) (a1 : List Int) : answer Try.prog spec_l01Pick.Cs 100000 spec_l01Pick.cuts [true, false, true, true] Try.f189 (k + 1) [.box [((.nums 5 .u8 a0_0z a0_0), false), ((.int .i64 a0_1), false), ((.int .i64 a0_2), false)], .v (.nums 3 .i64 a1z a1)] = (spec_l01Pick.f (k + 1) a0_0z a0_0 a0_1 a0_2 a1z a1).map spec_l01Pick.enc := by
  refine (spec_l01Pick.s k a0_0z a0_0 a0_1 a0_2 a1z a1).trans (Eq.trans ?_ (spec_l01Pick.b_nat spec_l01Pick.enc some k a0_0z a0_0 a0_1 a0_2 a1z a1))
  simp only [Option.map_some]
theorem spec_l01Pick.sound (k : Nat) : SoundF Try.prog 189 (fun a => (spec_l01Pick.ans k a).val) := by
  refine sound_plain (fun args res h => ?_) (fun t n => rfl)
  unfold spec_l01Pick.ans at h
  dsimp only at h
  split at h
  · cases k with
    | zero => cases h
    | succ k =>
      unfold Ans.val at h
      rw [← spec_l01Pick.eq] at h
      exact answer_sound mixed Try.func189 _ _ _ (k + 1) (fun j _ => tab_sound (tab_cons (spec_l01Below.sound j) (tab_nil))) _ _ h
  · exact (Ans.no_val h).elim

/-! loop.example/g00790/spec.l10Draw -/
def spec_l10Draw.b {R : Type} (ret : Int × Int × Int × Int × Int × Bool × (List Int) × Int × Int → Option R) (k : Nat) (a0_0z : Bool) (a0_0 : List Int) (a0_1 : Int) (a0_2 : Int) : Option R :=
  (spec_l01Pick.f k a0_0z a0_0 a0_1 a0_2 false ([1, 3, 4, 4, 7, 9, 10] : List Int)).bind fun t0 => (spec_l01Pick.f k t0.2.1 t0.2.2.1 t0.2.2.2.1 t0.2.2.2.2 false ([0, 4, 8, 40] : List Int)).bind fun t1 => (spec_l01Pick.f k t1.2.1 t1.2.2.1 t1.2.2.2.1 t1.2.2.2.2 false ([0, 3, 8] : List Int)).bind fun t2 => (spec_l01Pick.f k t2.2.1 t2.2.2.1 t2.2.2.2.1 t2.2.2.2.2 false ([4000, 4000, 300, 60] : List Int)).bind fun t3 => (spec_l01Below.f k t3.2.1 t3.2.2.1 t3.2.2.2.1 t3.2.2.2.2 3).bind fun t4 => ret (t0.1, t1.1, t2.1, t3.1, (RowKit.wrap64 ((3 : Int) + t4.1)), t4.2.1, t4.2.2.1, t4.2.2.2.1, t4.2.2.2.2)
def spec_l10Draw.f : Nat → Bool → (List Int) → Int → Int → Option (Int × Int × Int × Int × Int × Bool × (List Int) × Int × Int)
  | 0, _, _, _, _ => none
  | k + 1, a0_0z, a0_0, a0_1, a0_2 => spec_l10Draw.b some k a0_0z a0_0 a0_1 a0_2
def spec_l10Draw.enc (r : Int × Int × Int × Int × Int × Bool × (List Int) × Int × Int) : Res := ⟨[.vals true [((.int .i64 r.1), true), ((.int .i64 r.2.1), true), ((.int .i64 r.2.2.1), true), ((.int .i64 r.2.2.2.1), true), ((.int .i64 r.2.2.2.2.1), true)]], [[((.nums 5 .u8 r.2.2.2.2.2.1 r.2.2.2.2.2.2.1), false), ((.int .i64 r.2.2.2.2.2.2.2.1), true), ((.int .i64 r.2.2.2.2.2.2.2.2), true)]]⟩
def spec_l10Draw.ans (k : Nat) : List Arg → Ans
  | [.box [((.nums 5 .u8 a0_0z a0_0), false), ((.int .i64 a0_1), false), ((.int .i64 a0_2), false)]] => ⟨spec_l10Draw.f k a0_0z a0_0 a0_1 a0_2, spec_l10Draw.enc⟩
  | _ => Ans.no
def spec_l10Draw.Cs (k : Nat) : CallSem := tab [(189, spec_l01Pick.ans k), (76, spec_l01Below.ans k)]
def spec_l10Draw.cuts : List (Nat × Keep) := []
theorem spec_l10Draw.s (k : Nat) (a0_0z : Bool) (a0_0 : List Int) (a0_1 : Int) (a0_2 : Int) : answer Try.prog spec_l10Draw.Cs 100000 spec_l10Draw.cuts [true, true, true, true, true, false, true, true] Try.f145 (k + 1) [.box [((.nums 5 .u8 a0_0z a0_0), false), ((.int .i64 a0_1), false), ((.int .i64 a0_2), false)]] = spec_l10Draw.b (fun r => some (spec_l10Draw.enc r)) k a0_0z a0_0 a0_1 a0_2 := by kernel_rfl
theorem spec_l10Draw.b_nat {R R' : Type} (e : R → R') (ret : Int × Int × Int × Int × Int × Bool × (List Int) × Int × Int → Option R) (k : Nat) (a0_0z : Bool) (a0_0 : List Int) (a0_1 : Int) (a0_2 : Int) : spec_l10Draw.b (fun r => (ret r).map e) k a0_0z a0_0 a0_1 a0_2 = (spec_l10Draw.b ret k a0_0z a0_0 a0_1 a0_2).map e := by
  unfold spec_l10Draw.b
  repeat' first | with_reducible refine nat_cond ?_ ?_ | with_reducible refine nat_bind fun _ => ?_ | rfl
theorem spec_l10Draw.eq (k : Nat) (a0_0z : Bool) (a0_0 : List Int) (a0_1 : Int) (a0_2 : Int) : answer Try.prog spec_l10Draw.Cs 100000 spec_l10Draw.cuts [true, true, true, true, true, false, true, true] Try.f145 (k + 1) [.box [((.nums 5 .u8 a0_0z a0_0), false), ((.int .i64 a0_1), false), ((.int .i64 a0_2), false)]] = (spec_l10Draw.f (k + 1) a0_0z a0_0 a0_1 a0_2).map spec_l10Draw.enc := by
  refine (spec_l10Draw.s k a0_0z a0_0 a0_1 a0_2).trans (Eq.trans ?_ (spec_l10Draw.b_nat spec_l10Draw.enc some k a0_0z a0_0 a0_1 a0_2))
  simp only [Option.map_some]
theorem spec_l10Draw.sound (k : Nat) : SoundF Try.prog 145 (fun a => (spec_l10Draw.ans k a).val) := by
  refine sound_plain (fun args res h => ?_) (fun t n => rfl)
  unfold spec_l10Draw.ans at h
  dsimp only at h
  split at h
  · cases k with
    | zero => cases h
    | succ k =>
      unfold Ans.val at h
      rw [← spec_l10Draw.eq] at h
      exact answer_sound mixed Try.func145 _ _ _ (k + 1) (fun j _ => tab_sound (tab_cons (spec_l01Pick.sound j) (tab_cons (spec_l01Below.sound j) (tab_nil)))) _ _ h
  · exact (Ans.no_val h).elim

/-! loop.example/g00790/spec.l21Draw -/
def spec_l21Draw.b {R : Type} (ret : Bool × (List T) × Bool × (List Int) × Int × Int → Option R) (j0 : Int → Int → Bool → (List Int) → Int → Int → Bool → (List T) → Option R) (k : Nat) (a0_0z : Bool) (a0_0 : List Int) (a0_1 : Int) (a0_2 : Int) (a1 : Int) : Option R :=
  j0 a1 0 a0_0z a0_0 a0_1 a0_2 true ([] : List T)
def spec_l21Draw.l0b {R : Type} (ret : Bool × (List T) × Bool × (List Int) × Int × Int → Option R) (j0 : Int → Int → Bool → (List Int) → Int → Int → Bool → (List T) → Option R) (k : Nat) (x1 : Int) (x6 : Int) (c0_0z : Bool) (c0_0 : List Int) (c0_1 : Int) (c0_2 : Int) (c5_0z : Bool) (c5_0 : List T) : Option R :=
  cond (decide (x6 < x1)) ((spec_l01Below.f k c0_0z c0_0 c0_1 c0_2 9).bind fun t0 => (spec_l01Pick.f k t0.2.1 t0.2.2.1 t0.2.2.2.1 t0.2.2.2.2 false ([1, 1, 1, 2, 5, 1099511627776, (RowKit.wrap64 ((1 : Int) + t0.1))] : List Int)).bind fun t1 => (spec_l01Below.f k t1.2.1 t1.2.2.1 t1.2.2.2.1 t1.2.2.2.2 9).bind fun t2 => cond (decide ((c5_0).length + 1 < 4398046511104)) (j0 x1 (RowKit.wrap64 (x6 + 1)) t2.2.1 t2.2.2.1 t2.2.2.2.1 t2.2.2.2.2 false (c5_0 ++ ([(.agg [(.int .i64 t1.1), (.nums 5 .u8 false ([((x6) % 256), ((t2.1) % 256), 1] : List Int))])] : List T))) (none)) (ret (c5_0z, c5_0, c0_0z, c0_0, c0_1, c0_2))
def spec_l21Draw.l0 : Nat → Int → Int → Bool → (List Int) → Int → Int → Bool → (List T) → Option (Bool × (List T) × Bool × (List Int) × Int × Int)
  | 0, _, _, _, _, _, _, _, _ => none
  | k + 1, x1, x6, c0_0z, c0_0, c0_1, c0_2, c5_0z, c5_0 => spec_l21Draw.l0b some (spec_l21Draw.l0 k) k x1 x6 c0_0z c0_0 c0_1 c0_2 c5_0z c5_0
def spec_l21Draw.f : Nat → Bool → (List Int) → Int → Int → Int → Option (Bool × (List T) × Bool × (List Int) × Int × Int)
  | 0, _, _, _, _, _ => none
  | k + 1, a0_0z, a0_0, a0_1, a0_2, a1 => spec_l21Draw.b some (spec_l21Draw.l0 k) k a0_0z a0_0 a0_1 a0_2 a1
def spec_l21Draw.enc (r : Bool × (List T) × Bool × (List Int) × Int × Int) : Res := ⟨[.vals true [((.sl 44 r.1 r.2.1), true)]], [[((.nums 5 .u8 r.2.2.1 r.2.2.2.1), false), ((.int .i64 r.2.2.2.2.1), true), ((.int .i64 r.2.2.2.2.2), true)]]⟩
def spec_l21Draw.ans (k : Nat) : List Arg → Ans
  | [.box [((.nums 5 .u8 a0_0z a0_0), false), ((.int .i64 a0_1), false), ((.int .i64 a0_2), false)], .v (.int .i64 a1)] => ⟨spec_l21Draw.f k a0_0z a0_0 a0_1 a0_2 a1, spec_l21Draw.enc⟩
  | _ => Ans.no
def spec_l21Draw.Cs (k : Nat) : CallSem := tab [(189, spec_l01Pick.ans k), (76, spec_l01Below.ans k)]
def spec_l21Draw.cuts : List (Nat × Keep) := [(58, ⟨[(0, some []), (1, some []), (4, some []), (5, some []), (6, some [])], [(0, [some [], some [], some []]), (4, [none]), (5, [none])]⟩)]
noncomputable def spec_l21Draw.K0 : List Fr := framesAt [true, true, false, true, false] (bodyOf Try.f146 spec_l21Draw.cuts) []
def spec_l21Draw.N0 (x1 : Int) (x6 : Int) (c0_0z : Bool) (c0_0 : List Int) (c0_1 : Int) (c0_2 : Int) (c5_0z : Bool) (c5_0 : List T) : St := stOf 32 32 2 [(0, .bp 0 0), (1, .val (V.s (.int .i64 x1))), (4, .bp 4 0), (5, .bp 5 0), (6, .val (V.s (.int .i64 x6)))] [(0, .cells [⟨(.nums 5 .u8 c0_0z c0_0), [], false, none⟩, V.s (.int .i64 c0_1), V.s (.int .i64 c0_2)]), (4, .cells [⟨(.sl 44 true ([] : List T)), [.l 4 1], true, some (.l 4 1)⟩]), (5, .cells [⟨(.sl 44 c5_0z c5_0), [.l 5 1], true, some (.l 5 1)⟩])]
theorem spec_l21Draw.s (k : Nat) (a0_0z : Bool) (a0_0 : List Int) (a0_1 : Int) (a0_2 : Int) (a1 : Int) : answer Try.prog spec_l21Draw.Cs 100000 spec_l21Draw.cuts [true, false, true, true] Try.f146 (k + 1) [.box [((.nums 5 .u8 a0_0z a0_0), false), ((.int .i64 a0_1), false), ((.int .i64 a0_2), false)], .v (.int .i64 a1)] = spec_l21Draw.b (fun r => some (spec_l21Draw.enc r)) (fun x1 x6 c0_0z c0_0 c0_1 c0_2 c5_0z c5_0 => rounds Try.prog spec_l21Draw.Cs (finish Try.prog [true, false, true, true] Try.f146 [.box [((.nums 5 .u8 a0_0z a0_0), false), ((.int .i64 a0_1), false), ((.int .i64 a0_2), false)], .v (.int .i64 a1)]) 100000 k spec_l21Draw.K0 (spec_l21Draw.N0 x1 x6 c0_0z c0_0 c0_1 c0_2 c5_0z c5_0)) k a0_0z a0_0 a0_1 a0_2 a1 := by kernel_rfl
theorem spec_l21Draw.s0 (k : Nat) (G : List Fr → St → Option Res) (a0_0z : Bool) (a0_0 : List Int) (a0_1 : Int) (a0_2 : Int) (a1 : Int) (yx1 : Int) (yx6 : Int) (yc0_0z : Bool) (yc0_0 : List Int) (yc0_1 : Int) (yc0_2 : Int) (yc5_0z : Bool) (yc5_0 : List T) : resume Try.prog (spec_l21Draw.Cs k) G (finish Try.prog [true, false, true, true] Try.f146 [.box [((.nums 5 .u8 a0_0z a0_0), false), ((.int .i64 a0_1), false), ((.int .i64 a0_2), false)], .v (.int .i64 a1)]) 100000 spec_l21Draw.K0 (spec_l21Draw.N0 yx1 yx6 yc0_0z yc0_0 yc0_1 yc0_2 yc5_0z yc5_0) = spec_l21Draw.l0b (fun r => some (spec_l21Draw.enc r)) (fun x1 x6 c0_0z c0_0 c0_1 c0_2 c5_0z c5_0 => G spec_l21Draw.K0 (spec_l21Draw.N0 x1 x6 c0_0z c0_0 c0_1 c0_2 c5_0z c5_0)) k yx1 yx6 yc0_0z yc0_0 yc0_1 yc0_2 yc5_0z yc5_0 := by kernel_rfl
theorem spec_l21Draw.b_nat {R R' : Type} (e : R → R') (ret : Bool × (List T) × Bool × (List Int) × Int × Int → Option R) (j0 : Int → Int → Bool → (List Int) → Int → Int → Bool → (List T) → Option R) (k : Nat) (a0_0z : Bool) (a0_0 : List Int) (a0_1 : Int) (a0_2 : Int) (a1 : Int) : spec_l21Draw.b (fun r => (ret r).map e) (fun x1 x6 c0_0z c0_0 c0_1 c0_2 c5_0z c5_0 => (j0 x1 x6 c0_0z c0_0 c0_1 c0_2 c5_0z c5_0).map e) k a0_0z a0_0 a0_1 a0_2 a1 = (spec_l21Draw.b ret j0 k a0_0z a0_0 a0_1 a0_2 a1).map e := by
  unfold spec_l21Draw.b
  repeat' first | with_reducible refine nat_cond ?_ ?_ | with_reducible refine nat_bind fun _ => ?_ | rfl
theorem spec_l21Draw.l0b_nat {R R' : Type} (e : R → R') (ret : Bool × (List T) × Bool × (List Int) × Int × Int → Option R) (j0 : Int → Int → Bool → (List Int) → Int → Int → Bool → (List T) → Option R) (k : Nat) (x1 : Int) (x6 : Int) (c0_0z : Bool) (c0_0 : List Int) (c0_1 : Int) (c0_2 : Int) (c5_0z : Bool) (c5_0 : List T) : spec_l21Draw.l0b (fun r => (ret r).map e) (fun x1 x6 c0_0z c0_0 c0_1 c0_2 c5_0z c5_0 => (j0 x1 x6 c0_0z c0_0 c0_1 c0_2 c5_0z c5_0).map e) k x1 x6 c0_0z c0_0 c0_1 c0_2 c5_0z c5_0 = (spec_l21Draw.l0b ret j0 k x1 x6 c0_0z c0_0 c0_1 c0_2 c5_0z c5_0).map e := by
  unfold spec_l21Draw.l0b
  repeat' first | with_reducible refine nat_cond ?_ ?_ | with_reducible refine nat_bind fun _ => ?_ | rfl
theorem spec_l21Draw.rounds_eq (a0_0z : Bool) (a0_0 : List Int) (a0_1 : Int) (a0_2 : Int) (a1 : Int) : ∀ k, (∀ (x1 : Int) (x6 : Int) (c0_0z : Bool) (c0_0 : List Int) (c0_1 : Int) (c0_2 : Int) (c5_0z : Bool) (c5_0 : List T), rounds Try.prog spec_l21Draw.Cs (finish Try.prog [true, false, true, true] Try.f146 [.box [((.nums 5 .u8 a0_0z a0_0), false), ((.int .i64 a0_1), false), ((.int .i64 a0_2), false)], .v (.int .i64 a1)]) 100000 k spec_l21Draw.K0 (spec_l21Draw.N0 x1 x6 c0_0z c0_0 c0_1 c0_2 c5_0z c5_0) = (spec_l21Draw.l0 k x1 x6 c0_0z c0_0 c0_1 c0_2 c5_0z c5_0).map spec_l21Draw.enc)
  | 0 => fun _ _ _ _ _ _ _ _ => rfl
  | k + 1 => by
    have ih := spec_l21Draw.rounds_eq a0_0z a0_0 a0_1 a0_2 a1 k
    refine fun _ _ _ _ _ _ _ _ => ?_
    · refine (spec_l21Draw.s0 k _ a0_0z a0_0 a0_1 a0_2 a1 _ _ _ _ _ _ _ _).trans (Eq.trans ?_ (spec_l21Draw.l0b_nat spec_l21Draw.enc some (spec_l21Draw.l0 k) k _ _ _ _ _ _ _ _))
      simp only [ih, Option.map_some]
theorem spec_l21Draw.eq (k : Nat) (a0_0z : Bool) (a0_0 : List Int) (a0_1 : Int) (a0_2 : Int) (a1 : Int) : answer Try.prog spec_l21Draw.Cs 100000 spec_l21Draw.cuts [true, false, true, true] Try.f146 (k + 1) [.box [((.nums 5 .u8 a0_0z a0_0), false), ((.int .i64 a0_1), false), ((.int .i64 a0_2), false)], .v (.int .i64 a1)] = (spec_l21Draw.f (k + 1) a0_0z a0_0 a0_1 a0_2 a1).map spec_l21Draw.enc := by
  have ih := spec_l21Draw.rounds_eq a0_0z a0_0 a0_1 a0_2 a1 k
  refine (spec_l21Draw.s k a0_0z a0_0 a0_1 a0_2 a1).trans (Eq.trans ?_ (spec_l21Draw.b_nat spec_l21Draw.enc some (spec_l21Draw.l0 k) k a0_0z a0_0 a0_1 a0_2 a1))
  simp only [ih, Option.map_some]
theorem spec_l21Draw.sound (k : Nat) : SoundF Try.prog 146 (fun a => (spec_l21Draw.ans k a).val) := by
  refine sound_plain (fun args res h => ?_) (fun t n => rfl)
  unfold spec_l21Draw.ans at h
  dsimp only at h
  split at h
  · cases k with
    | zero => cases h
    | succ k =>
      unfold Ans.val at h
      rw [← spec_l21Draw.eq] at h
      exact answer_sound mixed Try.func146 _ _ _ (k + 1) (fun j _ => tab_sound (tab_cons (spec_l01Pick.sound j) (tab_cons (spec_l01Below.sound j) (tab_nil)))) _ _ h
  · exact (Ans.no_val h).elim

/-! loop.example/g00790/spec.l23Pair -/
def spec_l23Pair.b {R : Type} (ret : Int × Int × Int × Int × Int × Bool × (List T) × Bool × (List Int) × Int × Int → Option R) (k : Nat) (a0_0z : Bool) (a0_0 : List Int) (a0_1 : Int) (a0_2 : Int) : Option R :=
  (spec_l10Draw.f k a0_0z a0_0 a0_1 a0_2).bind fun t0 => (spec_l01Below.f k t0.2.2.2.2.2.1 t0.2.2.2.2.2.2.1 t0.2.2.2.2.2.2.2.1 t0.2.2.2.2.2.2.2.2 5).bind fun t1 => (spec_l21Draw.f k t1.2.1 t1.2.2.1 t1.2.2.2.1 t1.2.2.2.2 (RowKit.wrap64 ((1 : Int) + t1.1))).bind fun t2 => ret ((RowKit.wrap64 ((1 : Int) + t1.1)), t0.2.1, t0.2.2.1, 4000, t0.2.2.2.2.1, t2.1, t2.2.1, t2.2.2.1, t2.2.2.2.1, t2.2.2.2.2.1, t2.2.2.2.2.2)
def spec_l23Pair.f : Nat → Bool → (List Int) → Int → Int → Option (Int × Int × Int × Int × Int × Bool × (List T) × Bool × (List Int) × Int × Int)
  | 0, _, _, _, _ => none
  | k + 1, a0_0z, a0_0, a0_1, a0_2 => spec_l23Pair.b some k a0_0z a0_0 a0_1 a0_2
def spec_l23Pair.enc (r : Int × Int × Int × Int × Int × Bool × (List T) × Bool × (List Int) × Int × Int) : Res := ⟨[.vals true [((.int .i64 r.1), true), ((.int .i64 r.2.1), true), ((.int .i64 r.2.2.1), true), ((.int .i64 r.2.2.2.1), true), ((.int .i64 r.2.2.2.2.1), true)], .vals true [((.sl 44 r.2.2.2.2.2.1 r.2.2.2.2.2.2.1), true)]], [[((.nums 5 .u8 r.2.2.2.2.2.2.2.1 r.2.2.2.2.2.2.2.2.1), false), ((.int .i64 r.2.2.2.2.2.2.2.2.2.1), true), ((.int .i64 r.2.2.2.2.2.2.2.2.2.2), true)]]⟩
def spec_l23Pair.ans (k : Nat) : List Arg → Ans
  | [.box [((.nums 5 .u8 a0_0z a0_0), false), ((.int .i64 a0_1), false), ((.int .i64 a0_2), false)]] => ⟨spec_l23Pair.f k a0_0z a0_0 a0_1 a0_2, spec_l23Pair.enc⟩
  | _ => Ans.no
def spec_l23Pair.Cs (k : Nat) : CallSem := tab [(145, spec_l10Draw.ans k), (76, spec_l01Below.ans k), (146, spec_l21Draw.ans k)]
def spec_l23Pair.cuts : List (Nat × Keep) := []
theorem spec_l23Pair.s (k : Nat) (a0_0z : Bool) (a0_0 : List Int) (a0_1 : Int) (a0_2 : Int) : answer Try.prog spec_l23Pair.Cs 100000 spec_l23Pair.cuts [true, true, true, true, true, true, false, true, true] Try.f75 (k + 1) [.box [((.nums 5 .u8 a0_0z a0_0), false), ((.int .i64 a0_1), false), ((.int .i64 a0_2), false)]] = spec_l23Pair.b (fun r => some (spec_l23Pair.enc r)) k a0_0z a0_0 a0_1 a0_2 := by kernel_rfl
theorem spec_l23Pair.b_nat {R R' : Type} (e : R → R') (ret : Int × Int × Int × Int × Int × Bool × (List T) × Bool × (List Int) × Int × Int → Option R) (k : Nat) (a0_0z : Bool) (a0_0 : List Int) (a0_1 : Int) (a0_2 : Int) : spec_l23Pair.b (fun r => (ret r).map e) k a0_0z a0_0 a0_1 a0_2 = (spec_l23Pair.b ret k a0_0z a0_0 a0_1 a0_2).map e := by
  unfold spec_l23Pair.b
  repeat' first | with_reducible refine nat_cond ?_ ?_ | with_reducible refine nat_bind fun _ => ?_ | rfl
theorem spec_l23Pair.eq (k : Nat) (a0_0z : Bool) (a0_0 : List Int) (a0_1 : Int) (a0_2 : Int) : answer Try.prog spec_l23Pair.Cs 100000 spec_l23Pair.cuts [true, true, true, true, true, true, false, true, true] Try.f75 (k + 1) [.box [((.nums 5 .u8 a0_0z a0_0), false), ((.int .i64 a0_1), false), ((.int .i64 a0_2), false)]] = (spec_l23Pair.f (k + 1) a0_0z a0_0 a0_1 a0_2).map spec_l23Pair.enc := by
  refine (spec_l23Pair.s k a0_0z a0_0 a0_1 a0_2).trans (Eq.trans ?_ (spec_l23Pair.b_nat spec_l23Pair.enc some k a0_0z a0_0 a0_1 a0_2))
  simp only [Option.map_some]
theorem spec_l23Pair.sound (k : Nat) : SoundF Try.prog 75 (fun a => (spec_l23Pair.ans k a).val) := by
  refine sound_plain (fun args res h => ?_) (fun t n => rfl)
  unfold spec_l23Pair.ans at h
  dsimp only at h
  split at h
  · cases k with
    | zero => cases h
    | succ k =>
      unfold Ans.val at h
      rw [← spec_l23Pair.eq] at h
      exact answer_sound mixed Try.func75 _ _ _ (k + 1) (fun j _ => tab_sound (tab_cons (spec_l10Draw.sound j) (tab_cons (spec_l01Below.sound j) (tab_cons (spec_l21Draw.sound j) (tab_nil))))) _ _ h
  · exact (Ans.no_val h).elim

/-! loop.example/g00790/spec.MakeTable -/
def spec_MakeTable.b {R : Type} (ret : Int × Int × Int × Int × Int × Bool × List T → Option R) (k : Nat) (a0z : Bool) (a0 : List Int) : Option R :=
  (spec_l01New.f k a0z a0).bind fun t0 => (spec_l23Pair.f k t0.1 t0.2.1 t0.2.2.1 t0.2.2.2).bind fun t1 => ret (t1.1, t1.2.1, t1.2.2.1, t1.2.2.2.1, t1.2.2.2.2.1, t1.2.2.2.2.2.1, t1.2.2.2.2.2.2.1)
def spec_MakeTable.f : Nat → Bool → (List Int) → Option (Int × Int × Int × Int × Int × Bool × List T)
  | 0, _, _ => none
  | k + 1, a0z, a0 => spec_MakeTable.b some k a0z a0
def spec_MakeTable.enc (r : Int × Int × Int × Int × Int × Bool × List T) : Res := ⟨[.vals true [((.int .i64 r.1), true), ((.int .i64 r.2.1), true), ((.int .i64 r.2.2.1), true), ((.int .i64 r.2.2.2.1), true), ((.int .i64 r.2.2.2.2.1), true)], .vals true [((.sl 44 r.2.2.2.2.2.1 r.2.2.2.2.2.2), true)]], []⟩
def spec_MakeTable.ans (k : Nat) : List Arg → Ans
  | [.v (.nums 5 .u8 a0z a0)] => ⟨spec_MakeTable.f k a0z a0, spec_MakeTable.enc⟩
  | _ => Ans.no
def spec_MakeTable.Cs (k : Nat) : CallSem := tab [(74, spec_l01New.ans k), (75, spec_l23Pair.ans k)]
def spec_MakeTable.cuts : List (Nat × Keep) := []
theorem spec_MakeTable.s (k : Nat) (a0z : Bool) (a0 : List Int) : answer Try.prog spec_MakeTable.Cs 100000 spec_MakeTable.cuts [] Try.f12 (k + 1) [.v (.nums 5 .u8 a0z a0)] = spec_MakeTable.b (fun r => some (spec_MakeTable.enc r)) k a0z a0 := by kernel_rfl
theorem spec_MakeTable.b_nat {R R' : Type} (e : R → R') (ret : Int × Int × Int × Int × Int × Bool × List T → Option R) (k : Nat) (a0z : Bool) (a0 : List Int) : spec_MakeTable.b (fun r => (ret r).map e) k a0z a0 = (spec_MakeTable.b ret k a0z a0).map e := by
  unfold spec_MakeTable.b
  repeat' first | with_reducible refine nat_cond ?_ ?_ | with_reducible refine nat_bind fun _ => ?_ | rfl
theorem spec_MakeTable.eq (k : Nat) (a0z : Bool) (a0 : List Int) : answer Try.prog spec_MakeTable.Cs 100000 spec_MakeTable.cuts [] Try.f12 (k + 1) [.v (.nums 5 .u8 a0z a0)] = (spec_MakeTable.f (k + 1) a0z a0).map spec_MakeTable.enc := by
  refine (spec_MakeTable.s k a0z a0).trans (Eq.trans ?_ (spec_MakeTable.b_nat spec_MakeTable.enc some k a0z a0))
  simp only [Option.map_some]
theorem spec_MakeTable.sound (k : Nat) : SoundF Try.prog 12 (fun a => (spec_MakeTable.ans k a).val) := by
  refine sound_plain (fun args res h => ?_) (fun t n => rfl)
  unfold spec_MakeTable.ans at h
  dsimp only at h
  split at h
  · cases k with
    | zero => cases h
    | succ k =>
      unfold Ans.val at h
      rw [← spec_MakeTable.eq] at h
      exact answer_sound mixed Try.func12 _ _ _ (k + 1) (fun j _ => tab_sound (tab_cons (spec_l01New.sound j) (tab_cons (spec_l23Pair.sound j) (tab_nil)))) _ _ h
  · exact (Ans.no_val h).elim

/-! loop.example/g00790/spec.l11Hash -/
def spec_l11Hash.b {R : Type} (ret : Bool × (List Int) × Bool × (List Int) × Int × Int → Option R) (k : Nat) (a0_0z : Bool) (a0_0 : List Int) (a0_1 : Int) (a0_2 : Int) : Option R :=
  (spec_l01Below.f k a0_0z a0_0 a0_1 a0_2 3).bind fun t0 => cond (decide ((0 : Int) < (((List.replicate 32 (0 : Int))).length : Int))) ((spec_l01Byte.f k t0.2.1 t0.2.2.1 t0.2.2.2.1 t0.2.2.2.2).bind fun t1 => cond (decide ((31 : Int) < (((((List.replicate 32 (0 : Int))).set 0 ((t0.1) % 256))).length : Int))) (ret (false, (((((List.replicate 32 (0 : Int))).set 0 ((t0.1) % 256))).set 31 ((t1.1) % 256)), t1.2.1, t1.2.2.1, t1.2.2.2.1, t1.2.2.2.2)) (none)) (none)
def spec_l11Hash.f : Nat → Bool → (List Int) → Int → Int → Option (Bool × (List Int) × Bool × (List Int) × Int × Int)
  | 0, _, _, _, _ => none
  | k + 1, a0_0z, a0_0, a0_1, a0_2 => spec_l11Hash.b some k a0_0z a0_0 a0_1 a0_2
def spec_l11Hash.enc (r : Bool × (List Int) × Bool × (List Int) × Int × Int) : Res := ⟨[.vals false [((.nums 5 .u8 r.1 r.2.1), true)]], [[((.nums 5 .u8 r.2.2.1 r.2.2.2.1), false), ((.int .i64 r.2.2.2.2.1), true), ((.int .i64 r.2.2.2.2.2), true)]]⟩
def spec_l11Hash.ans (k : Nat) : List Arg → Ans
  | [.box [((.nums 5 .u8 a0_0z a0_0), false), ((.int .i64 a0_1), false), ((.int .i64 a0_2), false)]] => ⟨spec_l11Hash.f k a0_0z a0_0 a0_1 a0_2, spec_l11Hash.enc⟩
  | _ => Ans.no
def spec_l11Hash.Cs (k : Nat) : CallSem := tab [(76, spec_l01Below.ans k), (147, spec_l01Byte.ans k)]
def spec_l11Hash.cuts : List (Nat × Keep) := []
theorem spec_l11Hash.s (k : Nat) (a0_0z : Bool) (a0_0 : List Int) (a0_1 : Int) (a0_2 : Int) : answer Try.prog spec_l11Hash.Cs 100000 spec_l11Hash.cuts [true, false, true, true] Try.f77 (k + 1) [.box [((.nums 5 .u8 a0_0z a0_0), false), ((.int .i64 a0_1), false), ((.int .i64 a0_2), false)]] = spec_l11Hash.b (fun r => some (spec_l11Hash.enc r)) k a0_0z a0_0 a0_1 a0_2 := by kernel_rfl
theorem spec_l11Hash.b_nat {R R' : Type} (e : R → R') (ret : Bool × (List Int) × Bool × (List Int) × Int × Int → Option R) (k : Nat) (a0_0z : Bool) (a0_0 : List Int) (a0_1 : Int) (a0_2 : Int) : spec_l11Hash.b (fun r => (ret r).map e) k a0_0z a0_0 a0_1 a0_2 = (spec_l11Hash.b ret k a0_0z a0_0 a0_1 a0_2).map e := by
  unfold spec_l11Hash.b
  repeat' first | with_reducible refine nat_cond ?_ ?_ | with_reducible refine nat_bind fun _ => ?_ | rfl
theorem spec_l11Hash.eq (k : Nat) (a0_0z : Bool) (a0_0 : List Int) (a0_1 : Int) (a0_2 : Int) : answer Try.prog spec_l11Hash.Cs 100000 spec_l11Hash.cuts [true, false, true, true] Try.f77 (k + 1) [.box [((.nums 5 .u8 a0_0z a0_0), false), ((.int .i64 a0_1), false), ((.int .i64 a0_2), false)]] = (spec_l11Hash.f (k + 1) a0_0z a0_0 a0_1 a0_2).map spec_l11Hash.enc := by
  refine (spec_l11Hash.s k a0_0z a0_0 a0_1 a0_2).trans (Eq.trans ?_ (spec_l11Hash.b_nat spec_l11Hash.enc some k a0_0z a0_0 a0_1 a0_2))
  simp only [Option.map_some]
theorem spec_l11Hash.sound (k : Nat) : SoundF Try.prog 77 (fun a => (spec_l11Hash.ans k a).val) := by
  refine sound_plain (fun args res h => ?_) (fun t n => rfl)
  unfold spec_l11Hash.ans at h
  dsimp only at h
  split at h
  · cases k with
    | zero => cases h
    | succ k =>
      unfold Ans.val at h
      rw [← spec_l11Hash.eq] at h
      exact answer_sound mixed Try.func77 _ _ _ (k + 1) (fun j _ => tab_sound (tab_cons (spec_l01Below.sound j) (tab_cons (spec_l01Byte.sound j) (tab_nil)))) _ _ h
  · exact (Ans.no_val h).elim

/-! loop.example/g00790/spec.MakeHash -/
def spec_MakeHash.b {R : Type} (ret : Bool × List Int → Option R) (k : Nat) (a0z : Bool) (a0 : List Int) (a1 : Int) : Option R :=
  (spec_l01New.f k a0z a0).bind fun t0 => (spec_l11Hash.f k t0.1 t0.2.1 t0.2.2.1 (RowKit.wrap64 (t0.2.2.2 + a1))).bind fun t1 => cond (decide ((7 : Int) < ((t1.2.1).length : Int))) (ret (t1.1, ((t1.2.1).set 7 ((a1) % 256)))) (none)
def spec_MakeHash.f : Nat → Bool → (List Int) → Int → Option (Bool × List Int)
  | 0, _, _, _ => none
  | k + 1, a0z, a0, a1 => spec_MakeHash.b some k a0z a0 a1
def spec_MakeHash.enc (r : Bool × List Int) : Res := ⟨[.vals false [((.nums 5 .u8 r.1 r.2), true)]], []⟩
def spec_MakeHash.ans (k : Nat) : List Arg → Ans
  | [.v (.nums 5 .u8 a0z a0), .v (.int .i64 a1)] => ⟨spec_MakeHash.f k a0z a0 a1, spec_MakeHash.enc⟩
  | _ => Ans.no
def spec_MakeHash.Cs (k : Nat) : CallSem := tab [(74, spec_l01New.ans k), (77, spec_l11Hash.ans k)]
def spec_MakeHash.cuts : List (Nat × Keep) := []
theorem spec_MakeHash.s (k : Nat) (a0z : Bool) (a0 : List Int) (a1 : Int) : answer Try.prog spec_MakeHash.Cs 100000 spec_MakeHash.cuts [] Try.f14 (k + 1) [.v (.nums 5 .u8 a0z a0), .v (.int .i64 a1)] = spec_MakeHash.b (fun r => some (spec_MakeHash.enc r)) k a0z a0 a1 := by kernel_rfl
theorem spec_MakeHash.b_nat {R R' : Type} (e : R → R') (ret : Bool × List Int → Option R) (k : Nat) (a0z : Bool) (a0 : List Int) (a1 : Int) : spec_MakeHash.b (fun r => (ret r).map e) k a0z a0 a1 = (spec_MakeHash.b ret k a0z a0 a1).map e := by
  unfold spec_MakeHash.b
  repeat' first | with_reducible refine nat_cond ?_ ?_ | with_reducible refine nat_bind fun _ => ?_ | rfl
theorem spec_MakeHash.eq (k : Nat) (a0z : Bool) (a0 : List Int) (a1 : Int) : answer Try.prog spec_MakeHash.Cs 100000 spec_MakeHash.cuts [] Try.f14 (k + 1) [.v (.nums 5 .u8 a0z a0), .v (.int .i64 a1)] = (spec_MakeHash.f (k + 1) a0z a0 a1).map spec_MakeHash.enc := by
  refine (spec_MakeHash.s k a0z a0 a1).trans (Eq.trans ?_ (spec_MakeHash.b_nat spec_MakeHash.enc some k a0z a0 a1))
  simp only [Option.map_some]
theorem spec_MakeHash.sound (k : Nat) : SoundF Try.prog 14 (fun a => (spec_MakeHash.ans k a).val) := by
  refine sound_plain (fun args res h => ?_) (fun t n => rfl)
  unfold spec_MakeHash.ans at h
  dsimp only at h
  split at h
  · cases k with
    | zero => cases h
    | succ k =>
      unfold Ans.val at h
      rw [← spec_MakeHash.eq] at h
      exact answer_sound mixed Try.func14 _ _ _ (k + 1) (fun j _ => tab_sound (tab_cons (spec_l01New.sound j) (tab_cons (spec_l11Hash.sound j) (tab_nil)))) _ _ h
  · exact (Ans.no_val h).elim

/-! loop.example/g00790/spec.l01In -/
def spec_l01In.b {R : Type} (ret : Bool → Option R) (k : Nat) (a0 : Int) (a1 : Int) (a2 : Int) : Option R :=
  cond (decide (a0 ≥ a1)) (ret (decide (a0 ≤ a2))) (ret false)
def spec_l01In.f : Nat → Int → Int → Int → Option Bool
  | 0, _, _, _ => none
  | k + 1, a0, a1, a2 => spec_l01In.b some k a0 a1 a2
def spec_l01In.enc (r : Bool) : Res := ⟨[.vals false [((.bool r), true)]], []⟩
def spec_l01In.ans (k : Nat) : List Arg → Ans
  | [.v (.int .i64 a0), .v (.int .i64 a1), .v (.int .i64 a2)] => ⟨spec_l01In.f k a0 a1 a2, spec_l01In.enc⟩
  | _ => Ans.no
def spec_l01In.Cs (k : Nat) : CallSem := tab []
def spec_l01In.cuts : List (Nat × Keep) := []
theorem spec_l01In.s (k : Nat) (a0 : Int) (a1 : Int) (a2 : Int) : answer Try.prog spec_l01In.Cs 100000 spec_l01In.cuts [] Try.f170 (k + 1) [.v (.int .i64 a0), .v (.int .i64 a1), .v (.int .i64 a2)] = spec_l01In.b (fun r => some (spec_l01In.enc r)) k a0 a1 a2 := by kernel_rfl
theorem spec_l01In.b_nat {R R' : Type} (e : R → R') (ret : Bool → Option R) (k : Nat) (a0 : Int) (a1 : Int) (a2 : Int) : spec_l01In.b (fun r => (ret r).map e) k a0 a1 a2 = (spec_l01In.b ret k a0 a1 a2).map e := by
  unfold spec_l01In.b
  repeat' first | with_reducible refine nat_cond ?_ ?_ | with_reducible refine nat_bind fun _ => ?_ | rfl
theorem spec_l01In.eq (k : Nat) (a0 : Int) (a1 : Int) (a2 : Int) : answer Try.prog spec_l01In.Cs 100000 spec_l01In.cuts [] Try.f170 (k + 1) [.v (.int .i64 a0), .v (.int .i64 a1), .v (.int .i64 a2)] = (spec_l01In.f (k + 1) a0 a1 a2).map spec_l01In.enc := by
  refine (spec_l01In.s k a0 a1 a2).trans (Eq.trans ?_ (spec_l01In.b_nat spec_l01In.enc some k a0 a1 a2))
  simp only [Option.map_some]
theorem spec_l01In.sound (k : Nat) : SoundF Try.prog 170 (fun a => (spec_l01In.ans k a).val) := by
  refine sound_plain (fun args res h => ?_) (fun t n => rfl)
  unfold spec_l01In.ans at h
  dsimp only at h
  split at h
  · cases k with
    | zero => cases h
    | succ k =>
      unfold Ans.val at h
      rw [← spec_l01In.eq] at h
      exact answer_sound mixed Try.func170 _ _ _ (k + 1) (fun j _ => tab_sound (tab_nil)) _ _ h
  · exact (Ans.no_val h).elim

/-! loop.example/g00790/spec.l02Signers -/
def spec_l02Signers.b {R : Type} (ret : Bool → Option R) (k : Nat) (a0 : Int) : Option R :=
  (spec_l01In.f k a0 1 10).bind fun t0 => ret t0
def spec_l02Signers.f : Nat → Int → Option Bool
  | 0, _ => none
  | k + 1, a0 => spec_l02Signers.b some k a0
def spec_l02Signers.enc (r : Bool) : Res := ⟨[.vals false [((.bool r), true)]], []⟩
def spec_l02Signers.ans (k : Nat) : List Arg → Ans
  | [.v (.int .i64 a0)] => ⟨spec_l02Signers.f k a0, spec_l02Signers.enc⟩
  | _ => Ans.no
def spec_l02Signers.Cs (k : Nat) : CallSem := tab [(170, spec_l01In.ans k)]
def spec_l02Signers.cuts : List (Nat × Keep) := []
theorem spec_l02Signers.s (k : Nat) (a0 : Int) : answer Try.prog spec_l02Signers.Cs 100000 spec_l02Signers.cuts [] Try.f171 (k + 1) [.v (.int .i64 a0)] = spec_l02Signers.b (fun r => some (spec_l02Signers.enc r)) k a0 := by kernel_rfl
theorem spec_l02Signers.b_nat {R R' : Type} (e : R → R') (ret : Bool → Option R) (k : Nat) (a0 : Int) : spec_l02Signers.b (fun r => (ret r).map e) k a0 = (spec_l02Signers.b ret k a0).map e := by
  unfold spec_l02Signers.b
  repeat' first | with_reducible refine nat_cond ?_ ?_ | with_reducible refine nat_bind fun _ => ?_ | rfl
theorem spec_l02Signers.eq (k : Nat) (a0 : Int) : answer Try.prog spec_l02Signers.Cs 100000 spec_l02Signers.cuts [] Try.f171 (k + 1) [.v (.int .i64 a0)] = (spec_l02Signers.f (k + 1) a0).map spec_l02Signers.enc := by
  refine (spec_l02Signers.s k a0).trans (Eq.trans ?_ (spec_l02Signers.b_nat spec_l02Signers.enc some k a0))
  simp only [Option.map_some]
theorem spec_l02Signers.sound (k : Nat) : SoundF Try.prog 171 (fun a => (spec_l02Signers.ans k a).val) := by
  refine sound_plain (fun args res h => ?_) (fun t n => rfl)
  unfold spec_l02Signers.ans at h
  dsimp only at h
  split at h
  · cases k with
    | zero => cases h
    | succ k =>
      unfold Ans.val at h
      rw [← spec_l02Signers.eq] at h
      exact answer_sound mixed Try.func171 _ _ _ (k + 1) (fun j _ => tab_sound (tab_cons (spec_l01In.sound j) (tab_nil))) _ _ h
  · exact (Ans.no_val h).elim

/-! loop.example/g00790/spec.BitsSize -/
def spec_BitsSize.b {R : Type} (ret : Int → Option R) (k : Nat) (a0 : Int) : Option R :=
  cond (decide (a0 < 1)) (ret 0) (ret (RowKit.wrap64 ((RowKit.wrap64 (Int.tdiv (RowKit.wrap64 (a0 - 1)) 8)) + 1)))
def spec_BitsSize.f : Nat → Int → Option Int
  | 0, _ => none
  | k + 1, a0 => spec_BitsSize.b some k a0
def spec_BitsSize.enc (r : Int) : Res := ⟨[.vals false [((.int .i64 r), true)]], []⟩
def spec_BitsSize.ans (k : Nat) : List Arg → Ans
  | [.v (.int .i64 a0)] => ⟨spec_BitsSize.f k a0, spec_BitsSize.enc⟩
  | _ => Ans.no
def spec_BitsSize.Cs (k : Nat) : CallSem := tab []
def spec_BitsSize.cuts : List (Nat × Keep) := []
theorem spec_BitsSize.s (k : Nat) (a0 : Int) : answer Try.prog spec_BitsSize.Cs 100000 spec_BitsSize.cuts [] Try.f160 (k + 1) [.v (.int .i64 a0)] = spec_BitsSize.b (fun r => some (spec_BitsSize.enc r)) k a0 := by kernel_rfl
theorem spec_BitsSize.b_nat {R R' : Type} (e : R → R') (ret : Int → Option R) (k : Nat) (a0 : Int) : spec_BitsSize.b (fun r => (ret r).map e) k a0 = (spec_BitsSize.b ret k a0).map e := by
  unfold spec_BitsSize.b
  repeat' first | with_reducible refine nat_cond ?_ ?_ | with_reducible refine nat_bind fun _ => ?_ | rfl
theorem spec_BitsSize.eq (k : Nat) (a0 : Int) : answer Try.prog spec_BitsSize.Cs 100000 spec_BitsSize.cuts [] Try.f160 (k + 1) [.v (.int .i64 a0)] = (spec_BitsSize.f (k + 1) a0).map spec_BitsSize.enc := by
  refine (spec_BitsSize.s k a0).trans (Eq.trans ?_ (spec_BitsSize.b_nat spec_BitsSize.enc some k a0))
  simp only [Option.map_some]
theorem spec_BitsSize.sound (k : Nat) : SoundF Try.prog 160 (fun a => (spec_BitsSize.ans k a).val) := by
  refine sound_plain (fun args res h => ?_) (fun t n => rfl)
  unfold spec_BitsSize.ans at h
  dsimp only at h
  split at h
  · cases k with
    | zero => cases h
    | succ k =>
      unfold Ans.val at h
      rw [← spec_BitsSize.eq] at h
      exact answer_sound mixed Try.func160 _ _ _ (k + 1) (fun j _ => tab_sound (tab_nil)) _ _ h
  · exact (Ans.no_val h).elim

/-! loop.example/g00790/spec.BitsNew -/
def spec_BitsNew.b {R : Type} (ret : Bool × List Int → Option R) (k : Nat) (a0 : Int) : Option R :=
  (spec_l02Signers.f k a0).bind fun t0 => cond (!t0) (ret (true, ([] : List Int))) ((spec_BitsSize.f k a0).bind fun t1 => cond (decide (t1 = t1)) (cond (decide ((0 : Int) ≤ t1)) (cond (decide ((t1).toNat < 140737488355328)) (ret (false, (List.replicate (t1).toNat (0 : Int)))) (none)) (none)) (none))
def spec_BitsNew.f : Nat → Int → Option (Bool × List Int)
  | 0, _ => none
  | k + 1, a0 => spec_BitsNew.b some k a0
def spec_BitsNew.enc (r : Bool × List Int) : Res := ⟨[.vals false [((.nums 5 .u8 r.1 r.2), true)]], []⟩
def spec_BitsNew.ans (k : Nat) : List Arg → Ans
  | [.v (.int .i64 a0)] => ⟨spec_BitsNew.f k a0, spec_BitsNew.enc⟩
  | _ => Ans.no
def spec_BitsNew.Cs (k : Nat) : CallSem := tab [(171, spec_l02Signers.ans k), (160, spec_BitsSize.ans k)]
def spec_BitsNew.cuts : List (Nat × Keep) := []
theorem spec_BitsNew.s (k : Nat) (a0 : Int) : answer Try.prog spec_BitsNew.Cs 100000 spec_BitsNew.cuts [] Try.f151 (k + 1) [.v (.int .i64 a0)] = spec_BitsNew.b (fun r => some (spec_BitsNew.enc r)) k a0 := by kernel_rfl
theorem spec_BitsNew.b_nat {R R' : Type} (e : R → R') (ret : Bool × List Int → Option R) (k : Nat) (a0 : Int) : spec_BitsNew.b (fun r => (ret r).map e) k a0 = (spec_BitsNew.b ret k a0).map e := by
  unfold spec_BitsNew.b
  repeat' first | with_reducible refine nat_cond ?_ ?_ | with_reducible refine nat_bind fun _ => ?_ | rfl
theorem spec_BitsNew.eq (k : Nat) (a0 : Int) : answer Try.prog spec_BitsNew.Cs 100000 spec_BitsNew.cuts [] Try.f151 (k + 1) [.v (.int .i64 a0)] = (spec_BitsNew.f (k + 1) a0).map spec_BitsNew.enc := by
  refine (spec_BitsNew.s k a0).trans (Eq.trans ?_ (spec_BitsNew.b_nat spec_BitsNew.enc some k a0))
  simp only [Option.map_some]
theorem spec_BitsNew.sound (k : Nat) : SoundF Try.prog 151 (fun a => (spec_BitsNew.ans k a).val) := by
  refine sound_plain (fun args res h => ?_) (fun t n => rfl)
  unfold spec_BitsNew.ans at h
  dsimp only at h
  split at h
  · cases k with
    | zero => cases h
    | succ k =>
      unfold Ans.val at h
      rw [← spec_BitsNew.eq] at h
      exact answer_sound mixed Try.func151 _ _ _ (k + 1) (fun j _ => tab_sound (tab_cons (spec_l02Signers.sound j) (tab_cons (spec_BitsSize.sound j) (tab_nil)))) _ _ h
  · exact (Ans.no_val h).elim

/-! loop.example/g00790/spec.l01Once -/
def spec_l01Once.b {R : Type} (ret : Bool × Bool × (List Int) × Int × Int → Option R) (k : Nat) (a0_0z : Bool) (a0_0 : List Int) (a0_1 : Int) (a0_2 : Int) (a1 : Int) : Option R :=
  (spec_l01Below.f k a0_0z a0_0 a0_1 a0_2 a1).bind fun t0 => ret (decide (t0.1 = 0), t0.2.1, t0.2.2.1, t0.2.2.2.1, t0.2.2.2.2)
def spec_l01Once.f : Nat → Bool → (List Int) → Int → Int → Int → Option (Bool × Bool × (List Int) × Int × Int)
  | 0, _, _, _, _, _ => none
  | k + 1, a0_0z, a0_0, a0_1, a0_2, a1 => spec_l01Once.b some k a0_0z a0_0 a0_1 a0_2 a1
def spec_l01Once.enc (r : Bool × Bool × (List Int) × Int × Int) : Res := ⟨[.vals false [((.bool r.1), true)]], [[((.nums 5 .u8 r.2.1 r.2.2.1), false), ((.int .i64 r.2.2.2.1), true), ((.int .i64 r.2.2.2.2), true)]]⟩
def spec_l01Once.ans (k : Nat) : List Arg → Ans
  | [.box [((.nums 5 .u8 a0_0z a0_0), false), ((.int .i64 a0_1), false), ((.int .i64 a0_2), false)], .v (.int .i64 a1)] => ⟨spec_l01Once.f k a0_0z a0_0 a0_1 a0_2 a1, spec_l01Once.enc⟩
  | _ => Ans.no
def spec_l01Once.Cs (k : Nat) : CallSem := tab [(76, spec_l01Below.ans k)]
def spec_l01Once.cuts : List (Nat × Keep) := []
theorem spec_l01Once.s (k : Nat) (a0_0z : Bool) (a0_0 : List Int) (a0_1 : Int) (a0_2 : Int) (a1 : Int) : answer Try.prog spec_l01Once.Cs 100000 spec_l01Once.cuts [true, false, true, true] Try.f152 (k + 1) [.box [((.nums 5 .u8 a0_0z a0_0), false), ((.int .i64 a0_1), false), ((.int .i64 a0_2), false)], .v (.int .i64 a1)] = spec_l01Once.b (fun r => some (spec_l01Once.enc r)) k a0_0z a0_0 a0_1 a0_2 a1 := by kernel_rfl
theorem spec_l01Once.b_nat {R R' : Type} (e : R → R') (ret : Bool × Bool × (List Int) × Int × Int → Option R) (k : Nat) (a0_0z : Bool) (a0_0 : List Int) (a0_1 : Int) (a0_2 : Int) (a1 : Int) : spec_l01Once.b (fun r => (ret r).map e) k a0_0z a0_0 a0_1 a0_2 a1 = (spec_l01Once.b ret k a0_0z a0_0 a0_1 a0_2 a1).map e := by
  unfold spec_l01Once.b
  repeat' first | with_reducible refine nat_cond ?_ ?_ | with_reducible refine nat_bind fun _ => ?_ | rfl
theorem spec_l01Once.eq (k : Nat) (a0_0z : Bool) (a0_0 : List Int) (a0_1 : Int) (a0_2 : Int) (a1 : Int) : answer Try.prog spec_l01Once.Cs 100000 spec_l01Once.cuts [true, false, true, true] Try.f152 (k + 1) [.box [((.nums 5 .u8 a0_0z a0_0), false), ((.int .i64 a0_1), false), ((.int .i64 a0_2), false)], .v (.int .i64 a1)] = (spec_l01Once.f (k + 1) a0_0z a0_0 a0_1 a0_2 a1).map spec_l01Once.enc := by
  refine (spec_l01Once.s k a0_0z a0_0 a0_1 a0_2 a1).trans (Eq.trans ?_ (spec_l01Once.b_nat spec_l01Once.enc some k a0_0z a0_0 a0_1 a0_2 a1))
  simp only [Option.map_some]
theorem spec_l01Once.sound (k : Nat) : SoundF Try.prog 152 (fun a => (spec_l01Once.ans k a).val) := by
  refine sound_plain (fun args res h => ?_) (fun t n => rfl)
  unfold spec_l01Once.ans at h
  dsimp only at h
  split at h
  · cases k with
    | zero => cases h
    | succ k =>
      unfold Ans.val at h
      rw [← spec_l01Once.eq] at h
      exact answer_sound mixed Try.func152 _ _ _ (k + 1) (fun j _ => tab_sound (tab_cons (spec_l01Below.sound j) (tab_nil))) _ _ h
  · exact (Ans.no_val h).elim

/-! loop.example/g00790/spec.l02Draw -/
def spec_l02Draw.b {R : Type} (ret : Bool × (List Int) × Bool × (List Int) × Int × Int → Option R) (j0 : Int → Bool → (List Int) → Int → Bool → (List Int) → Int → Int → Option R) (k : Nat) (a0_0z : Bool) (a0_0 : List Int) (a0_1 : Int) (a0_2 : Int) (a1 : Int) : Option R :=
  (spec_BitsNew.f k a1).bind fun t0 => j0 a1 t0.1 t0.2 0 a0_0z a0_0 a0_1 a0_2
def spec_l02Draw.l0b {R : Type} (ret : Bool × (List Int) × Bool × (List Int) × Int × Int → Option R) (j0 : Int → Bool → (List Int) → Int → Bool → (List Int) → Int → Int → Option R) (k : Nat) (x1 : Int) (x5z : Bool) (x5 : List Int) (x6 : Int) (c0_0z : Bool) (c0_0 : List Int) (c0_1 : Int) (c0_2 : Int) : Option R :=
  cond (decide (x6 < x1)) ((spec_l01Once.f k c0_0z c0_0 c0_1 c0_2 3).bind fun t0 => cond (!t0.1) (cond (decide ((0 : Int) ≤ (RowKit.wrap64 (Int.tdiv x6 8)))) (cond (decide ((RowKit.wrap64 (Int.tdiv x6 8)) < ((x5).length : Int))) (cond (decide ((0 : Int) ≤ (Int.tmod x6 8))) (cond (decide ((0 : Int) ≤ (RowKit.wrap64 (Int.tdiv x6 8)))) (cond (decide ((RowKit.wrap64 (Int.tdiv x6 8)) < ((x5).length : Int))) (j0 x1 x5z ((x5).set ((RowKit.wrap64 (Int.tdiv x6 8))).toNat (Go.bits .or .u8 (rdI x5 (RowKit.wrap64 (Int.tdiv x6 8))) (shlI .u8 1 (Int.tmod x6 8)))) (RowKit.wrap64 (x6 + 1)) t0.2.1 t0.2.2.1 t0.2.2.2.1 t0.2.2.2.2) (none)) (none)) (none)) (none)) (none)) (j0 x1 x5z x5 (RowKit.wrap64 (x6 + 1)) t0.2.1 t0.2.2.1 t0.2.2.2.1 t0.2.2.2.2)) (ret (x5z, x5, c0_0z, c0_0, c0_1, c0_2))
def spec_l02Draw.l0 : Nat → Int → Bool → (List Int) → Int → Bool → (List Int) → Int → Int → Option (Bool × (List Int) × Bool × (List Int) × Int × Int)
  | 0, _, _, _, _, _, _, _, _ => none
  | k + 1, x1, x5z, x5, x6, c0_0z, c0_0, c0_1, c0_2 => spec_l02Draw.l0b some (spec_l02Draw.l0 k) k x1 x5z x5 x6 c0_0z c0_0 c0_1 c0_2
def spec_l02Draw.f : Nat → Bool → (List Int) → Int → Int → Int → Option (Bool × (List Int) × Bool × (List Int) × Int × Int)
  | 0, _, _, _, _, _ => none
  | k + 1, a0_0z, a0_0, a0_1, a0_2, a1 => spec_l02Draw.b some (spec_l02Draw.l0 k) k a0_0z a0_0 a0_1 a0_2 a1
def spec_l02Draw.enc (r : Bool × (List Int) × Bool × (List Int) × Int × Int) : Res := ⟨[.vals false [((.nums 5 .u8 r.1 r.2.1), true)]], [[((.nums 5 .u8 r.2.2.1 r.2.2.2.1), false), ((.int .i64 r.2.2.2.2.1), true), ((.int .i64 r.2.2.2.2.2), true)]]⟩
def spec_l02Draw.ans (k : Nat) : List Arg → Ans
  | [.box [((.nums 5 .u8 a0_0z a0_0), false), ((.int .i64 a0_1), false), ((.int .i64 a0_2), false)], .v (.int .i64 a1)] => ⟨spec_l02Draw.f k a0_0z a0_0 a0_1 a0_2 a1, spec_l02Draw.enc⟩
  | _ => Ans.no
def spec_l02Draw.Cs (k : Nat) : CallSem := tab [(151, spec_BitsNew.ans k), (152, spec_l01Once.ans k)]
def spec_l02Draw.cuts : List (Nat × Keep) := [(58, ⟨[(0, some []), (1, some []), (5, none), (6, some [])], [(0, [some [], some [], some []])]⟩)]
noncomputable def spec_l02Draw.K0 : List Fr := framesAt [true, true, false, true, false] (bodyOf Try.f86 spec_l02Draw.cuts) []
def spec_l02Draw.N0 (x1 : Int) (x5z : Bool) (x5 : List Int) (x6 : Int) (c0_0z : Bool) (c0_0 : List Int) (c0_1 : Int) (c0_2 : Int) : St := stOf 31 31 2 [(0, .bp 0 0), (1, .val (V.s (.int .i64 x1))), (5, .val ⟨(.nums 5 .u8 x5z x5), [.l 5 0], true, some (.l 5 0)⟩), (6, .val (V.s (.int .i64 x6)))] [(0, .cells [⟨(.nums 5 .u8 c0_0z c0_0), [], false, none⟩, V.s (.int .i64 c0_1), V.s (.int .i64 c0_2)])]
theorem spec_l02Draw.s (k : Nat) (a0_0z : Bool) (a0_0 : List Int) (a0_1 : Int) (a0_2 : Int) (a1 : Int) : answer Try.prog spec_l02Draw.Cs 100000 spec_l02Draw.cuts [true, false, true, true] Try.f86 (k + 1) [.box [((.nums 5 .u8 a0_0z a0_0), false), ((.int .i64 a0_1), false), ((.int .i64 a0_2), false)], .v (.int .i64 a1)] = spec_l02Draw.b (fun r => some (spec_l02Draw.enc r)) (fun x1 x5z x5 x6 c0_0z c0_0 c0_1 c0_2 => rounds Try.prog spec_l02Draw.Cs (finish Try.prog [true, false, true, true] Try.f86 [.box [((.nums 5 .u8 a0_0z a0_0), false), ((.int .i64 a0_1), false), ((.int .i64 a0_2), false)], .v (.int .i64 a1)]) 100000 k spec_l02Draw.K0 (spec_l02Draw.N0 x1 x5z x5 x6 c0_0z c0_0 c0_1 c0_2)) k a0_0z a0_0 a0_1 a0_2 a1 := by kernel_rfl
theorem spec_l02Draw.s0 (k : Nat) (G : List Fr → St → Option Res) (a0_0z : Bool) (a0_0 : List Int) (a0_1 : Int) (a0_2 : Int) (a1 : Int) (yx1 : Int) (yx5z : Bool) (yx5 : List Int) (yx6 : Int) (yc0_0z : Bool) (yc0_0 : List Int) (yc0_1 : Int) (yc0_2 : Int) : resume Try.prog (spec_l02Draw.Cs k) G (finish Try.prog [true, false, true, true] Try.f86 [.box [((.nums 5 .u8 a0_0z a0_0), false), ((.int .i64 a0_1), false), ((.int .i64 a0_2), false)], .v (.int .i64 a1)]) 100000 spec_l02Draw.K0 (spec_l02Draw.N0 yx1 yx5z yx5 yx6 yc0_0z yc0_0 yc0_1 yc0_2) = spec_l02Draw.l0b (fun r => some (spec_l02Draw.enc r)) (fun x1 x5z x5 x6 c0_0z c0_0 c0_1 c0_2 => G spec_l02Draw.K0 (spec_l02Draw.N0 x1 x5z x5 x6 c0_0z c0_0 c0_1 c0_2)) k yx1 yx5z yx5 yx6 yc0_0z yc0_0 yc0_1 yc0_2 := by kernel_rfl
theorem spec_l02Draw.b_nat {R R' : Type} (e : R → R') (ret : Bool × (List Int) × Bool × (List Int) × Int × Int → Option R) (j0 : Int → Bool → (List Int) → Int → Bool → (List Int) → Int → Int → Option R) (k : Nat) (a0_0z : Bool) (a0_0 : List Int) (a0_1 : Int) (a0_2 : Int) (a1 : Int) : spec_l02Draw.b (fun r => (ret r).map e) (fun x1 x5z x5 x6 c0_0z c0_0 c0_1 c0_2 => (j0 x1 x5z x5 x6 c0_0z c0_0 c0_1 c0_2).map e) k a0_0z a0_0 a0_1 a0_2 a1 = (spec_l02Draw.b ret j0 k a0_0z a0_0 a0_1 a0_2 a1).map e := by
  unfold spec_l02Draw.b
  repeat' first | with_reducible refine nat_cond ?_ ?_ | with_reducible refine nat_bind fun _ => ?_ | rfl
theorem spec_l02Draw.l0b_nat {R R' : Type} (e : R → R') (ret : Bool × (List Int) × Bool × (List Int) × Int × Int → Option R) (j0 : Int → Bool → (List Int) → Int → Bool → (List Int) → Int → Int → Option R) (k : Nat) (x1 : Int) (x5z : Bool) (x5 : List Int) (x6 : Int) (c0_0z : Bool) (c0_0 : List Int) (c0_1 : Int) (c0_2 : Int) : spec_l02Draw.l0b (fun r => (ret r).map e) (fun x1 x5z x5 x6 c0_0z c0_0 c0_1 c0_2 => (j0 x1 x5z x5 x6 c0_0z c0_0 c0_1 c0_2).map e) k x1 x5z x5 x6 c0_0z c0_0 c0_1 c0_2 = (spec_l02Draw.l0b ret j0 k x1 x5z x5 x6 c0_0z c0_0 c0_1 c0_2).map e := by
  unfold spec_l02Draw.l0b
  repeat' first | with_reducible refine nat_cond ?_ ?_ | with_reducible refine nat_bind fun _ => ?_ | rfl
theorem spec_l02Draw.rounds_eq (a0_0z : Bool) (a0_0 : List Int) (a0_1 : Int) (a0_2 : Int) (a1 : Int) : ∀ k, (∀ (x1 : Int) (x5z : Bool) (x5 : List Int) (x6 : Int) (c0_0z : Bool) (c0_0 : List Int) (c0_1 : Int) (c0_2 : Int), rounds Try.prog spec_l02Draw.Cs (finish Try.prog [true, false, true, true] Try.f86 [.box [((.nums 5 .u8 a0_0z a0_0), false), ((.int .i64 a0_1), false), ((.int .i64 a0_2), false)], .v (.int .i64 a1)]) 100000 k spec_l02Draw.K0 (spec_l02Draw.N0 x1 x5z x5 x6 c0_0z c0_0 c0_1 c0_2) = (spec_l02Draw.l0 k x1 x5z x5 x6 c0_0z c0_0 c0_1 c0_2).map spec_l02Draw.enc)
  | 0 => fun _ _ _ _ _ _ _ _ => rfl
  | k + 1 => by
    have ih := spec_l02Draw.rounds_eq a0_0z a0_0 a0_1 a0_2 a1 k
    refine fun _ _ _ _ _ _ _ _ => ?_
    · refine (spec_l02Draw.s0 k _ a0_0z a0_0 a0_1 a0_2 a1 _ _ _ _ _ _ _ _).trans (Eq.trans ?_ (spec_l02Draw.l0b_nat spec_l02Draw.enc some (spec_l02Draw.l0 k) k _ _ _ _ _ _ _ _))
      simp only [ih, Option.map_some]
theorem spec_l02Draw.eq (k : Nat) (a0_0z : Bool) (a0_0 : List Int) (a0_1 : Int) (a0_2 : Int) (a1 : Int) : answer Try.prog spec_l02Draw.Cs 100000 spec_l02Draw.cuts [true, false, true, true] Try.f86 (k + 1) [.box [((.nums 5 .u8 a0_0z a0_0), false), ((.int .i64 a0_1), false), ((.int .i64 a0_2), false)], .v (.int .i64 a1)] = (spec_l02Draw.f (k + 1) a0_0z a0_0 a0_1 a0_2 a1).map spec_l02Draw.enc := by
  have ih := spec_l02Draw.rounds_eq a0_0z a0_0 a0_1 a0_2 a1 k
  refine (spec_l02Draw.s k a0_0z a0_0 a0_1 a0_2 a1).trans (Eq.trans ?_ (spec_l02Draw.b_nat spec_l02Draw.enc some (spec_l02Draw.l0 k) k a0_0z a0_0 a0_1 a0_2 a1))
  simp only [ih, Option.map_some]
theorem spec_l02Draw.sound (k : Nat) : SoundF Try.prog 86 (fun a => (spec_l02Draw.ans k a).val) := by
  refine sound_plain (fun args res h => ?_) (fun t n => rfl)
  unfold spec_l02Draw.ans at h
  dsimp only at h
  split at h
  · cases k with
    | zero => cases h
    | succ k =>
      unfold Ans.val at h
      rw [← spec_l02Draw.eq] at h
      exact answer_sound mixed Try.func86 _ _ _ (k + 1) (fun j _ => tab_sound (tab_cons (spec_BitsNew.sound j) (tab_cons (spec_l01Once.sound j) (tab_nil)))) _ _ h
  · exact (Ans.no_val h).elim

/-! loop.example/g00790/spec.MakeBits -/
def spec_MakeBits.b {R : Type} (ret : Bool × List Int → Option R) (k : Nat) (a0z : Bool) (a0 : List Int) (a1 : Int) (a2 : Int) : Option R :=
  (spec_l01New.f k a0z a0).bind fun t0 => (spec_l02Draw.f k t0.1 t0.2.1 t0.2.2.1 (RowKit.wrap64 ((RowKit.wrap64 (t0.2.2.2 + (RowKit.wrap64 ((100 : Int) * a2)))) + 3)) a1).bind fun t1 => ret (t1.1, t1.2.1)
def spec_MakeBits.f : Nat → Bool → (List Int) → Int → Int → Option (Bool × List Int)
  | 0, _, _, _, _ => none
  | k + 1, a0z, a0, a1, a2 => spec_MakeBits.b some k a0z a0 a1 a2
def spec_MakeBits.enc (r : Bool × List Int) : Res := ⟨[.vals false [((.nums 5 .u8 r.1 r.2), true)]], []⟩
def spec_MakeBits.ans (k : Nat) : List Arg → Ans
  | [.v (.nums 5 .u8 a0z a0), .v (.int .i64 a1), .v (.int .i64 a2)] => ⟨spec_MakeBits.f k a0z a0 a1 a2, spec_MakeBits.enc⟩
  | _ => Ans.no
def spec_MakeBits.Cs (k : Nat) : CallSem := tab [(74, spec_l01New.ans k), (86, spec_l02Draw.ans k)]
def spec_MakeBits.cuts : List (Nat × Keep) := []
theorem spec_MakeBits.s (k : Nat) (a0z : Bool) (a0 : List Int) (a1 : Int) (a2 : Int) : answer Try.prog spec_MakeBits.Cs 100000 spec_MakeBits.cuts [] Try.f22 (k + 1) [.v (.nums 5 .u8 a0z a0), .v (.int .i64 a1), .v (.int .i64 a2)] = spec_MakeBits.b (fun r => some (spec_MakeBits.enc r)) k a0z a0 a1 a2 := by kernel_rfl
theorem spec_MakeBits.b_nat {R R' : Type} (e : R → R') (ret : Bool × List Int → Option R) (k : Nat) (a0z : Bool) (a0 : List Int) (a1 : Int) (a2 : Int) : spec_MakeBits.b (fun r => (ret r).map e) k a0z a0 a1 a2 = (spec_MakeBits.b ret k a0z a0 a1 a2).map e := by
  unfold spec_MakeBits.b
  repeat' first | with_reducible refine nat_cond ?_ ?_ | with_reducible refine nat_bind fun _ => ?_ | rfl
theorem spec_MakeBits.eq (k : Nat) (a0z : Bool) (a0 : List Int) (a1 : Int) (a2 : Int) : answer Try.prog spec_MakeBits.Cs 100000 spec_MakeBits.cuts [] Try.f22 (k + 1) [.v (.nums 5 .u8 a0z a0), .v (.int .i64 a1), .v (.int .i64 a2)] = (spec_MakeBits.f (k + 1) a0z a0 a1 a2).map spec_MakeBits.enc := by
  refine (spec_MakeBits.s k a0z a0 a1 a2).trans (Eq.trans ?_ (spec_MakeBits.b_nat spec_MakeBits.enc some k a0z a0 a1 a2))
  simp only [Option.map_some]
theorem spec_MakeBits.sound (k : Nat) : SoundF Try.prog 22 (fun a => (spec_MakeBits.ans k a).val) := by
  refine sound_plain (fun args res h => ?_) (fun t n => rfl)
  unfold spec_MakeBits.ans at h
  dsimp only at h
  split at h
  · cases k with
    | zero => cases h
    | succ k =>
      unfold Ans.val at h
      rw [← spec_MakeBits.eq] at h
      exact answer_sound mixed Try.func22 _ _ _ (k + 1) (fun j _ => tab_sound (tab_cons (spec_l01New.sound j) (tab_cons (spec_l02Draw.sound j) (tab_nil)))) _ _ h
  · exact (Ans.no_val h).elim

/-! loop.example/g00790/impl.within -/
def impl_within.b {R : Type} (ret : Bool → Option R) (k : Nat) (a0 : Int) (a1 : Int) (a2 : Int) : Option R :=
  cond (decide (a1 ≤ a0)) (ret (decide (a0 ≤ a2))) (ret false)
def impl_within.f : Nat → Int → Int → Int → Option Bool
  | 0, _, _, _ => none
  | k + 1, a0, a1, a2 => impl_within.b some k a0 a1 a2
def impl_within.enc (r : Bool) : Res := ⟨[.vals false [((.bool r), true)]], []⟩
def impl_within.ans (k : Nat) : List Arg → Ans
  | [.v (.int .i64 a0), .v (.int .i64 a1), .v (.int .i64 a2)] => ⟨impl_within.f k a0 a1 a2, impl_within.enc⟩
  | _ => Ans.no
def impl_within.Cs (k : Nat) : CallSem := tab []
def impl_within.cuts : List (Nat × Keep) := []
theorem impl_within.s (k : Nat) (a0 : Int) (a1 : Int) (a2 : Int) : answer Try.prog impl_within.Cs 100000 impl_within.cuts [] Try.f79 (k + 1) [.v (.int .i64 a0), .v (.int .i64 a1), .v (.int .i64 a2)] = impl_within.b (fun r => some (impl_within.enc r)) k a0 a1 a2 := by kernel_rfl
theorem impl_within.b_nat {R R' : Type} (e : R → R') (ret : Bool → Option R) (k : Nat) (a0 : Int) (a1 : Int) (a2 : Int) : impl_within.b (fun r => (ret r).map e) k a0 a1 a2 = (impl_within.b ret k a0 a1 a2).map e := by
  unfold impl_within.b
  repeat' first | with_reducible refine nat_cond ?_ ?_ | with_reducible refine nat_bind fun _ => ?_ | rfl
theorem impl_within.eq (k : Nat) (a0 : Int) (a1 : Int) (a2 : Int) : answer Try.prog impl_within.Cs 100000 impl_within.cuts [] Try.f79 (k + 1) [.v (.int .i64 a0), .v (.int .i64 a1), .v (.int .i64 a2)] = (impl_within.f (k + 1) a0 a1 a2).map impl_within.enc := by
  refine (impl_within.s k a0 a1 a2).trans (Eq.trans ?_ (impl_within.b_nat impl_within.enc some k a0 a1 a2))
  simp only [Option.map_some]
theorem impl_within.sound (k : Nat) : SoundF Try.prog 79 (fun a => (impl_within.ans k a).val) := by
  refine sound_plain (fun args res h => ?_) (fun t n => rfl)
  unfold impl_within.ans at h
  dsimp only at h
  split at h
  · cases k with
    | zero => cases h
    | succ k =>
      unfold Ans.val at h
      rw [← impl_within.eq] at h
      exact answer_sound mixed Try.func79 _ _ _ (k + 1) (fun j _ => tab_sound (tab_nil)) _ _ h
  · exact (Ans.no_val h).elim

/-! loop.example/g00790/impl.LimitsOk -/
def impl_LimitsOk.b {R : Type} (ret : Bool → Option R) (k : Nat) (a0_0 : Int) (a0_1 : Int) (a0_2 : Int) (a0_3 : Int) (a0_4 : Int) : Option R :=
  (impl_within.f k a0_0 1 10).bind fun t0 => cond t0 ((impl_within.f k a0_1 0 40).bind fun t1 => cond t1 ((impl_within.f k a0_2 0 8).bind fun t2 => cond t2 ((impl_within.f k a0_3 1 4000).bind fun t3 => cond t3 ((impl_within.f k a0_4 3 5).bind fun t4 => ret t4) (ret false)) (ret false)) (ret false)) (ret false)
def impl_LimitsOk.f : Nat → Int → Int → Int → Int → Int → Option Bool
  | 0, _, _, _, _, _ => none
  | k + 1, a0_0, a0_1, a0_2, a0_3, a0_4 => impl_LimitsOk.b some k a0_0 a0_1 a0_2 a0_3 a0_4
def impl_LimitsOk.enc (r : Bool) : Res := ⟨[.vals false [((.bool r), true)]], []⟩
def impl_LimitsOk.ans (k : Nat) : List Arg → Ans
  | [.v (.agg [(.int .i64 a0_0), (.int .i64 a0_1), (.int .i64 a0_2), (.int .i64 a0_3), (.int .i64 a0_4)])] => ⟨impl_LimitsOk.f k a0_0 a0_1 a0_2 a0_3 a0_4, impl_LimitsOk.enc⟩
  | _ => Ans.no
def impl_LimitsOk.Cs (k : Nat) : CallSem := tab [(79, impl_within.ans k)]
def impl_LimitsOk.cuts : List (Nat × Keep) := []
theorem impl_LimitsOk.s (k : Nat) (a0_0 : Int) (a0_1 : Int) (a0_2 : Int) (a0_3 : Int) (a0_4 : Int) : answer Try.prog impl_LimitsOk.Cs 100000 impl_LimitsOk.cuts [] Try.f92 (k + 1) [.v (.agg [(.int .i64 a0_0), (.int .i64 a0_1), (.int .i64 a0_2), (.int .i64 a0_3), (.int .i64 a0_4)])] = impl_LimitsOk.b (fun r => some (impl_LimitsOk.enc r)) k a0_0 a0_1 a0_2 a0_3 a0_4 := by kernel_rfl
theorem impl_LimitsOk.b_nat {R R' : Type} (e : R → R') (ret : Bool → Option R) (k : Nat) (a0_0 : Int) (a0_1 : Int) (a0_2 : Int) (a0_3 : Int) (a0_4 : Int) : impl_LimitsOk.b (fun r => (ret r).map e) k a0_0 a0_1 a0_2 a0_3 a0_4 = (impl_LimitsOk.b ret k a0_0 a0_1 a0_2 a0_3 a0_4).map e := by
  unfold impl_LimitsOk.b
  repeat' first | with_reducible refine nat_cond ?_ ?_ | with_reducible refine nat_bind fun _ => ?_ | rfl
theorem impl_LimitsOk.eq (k : Nat) (a0_0 : Int) (a0_1 : Int) (a0_2 : Int) (a0_3 : Int) (a0_4 : Int) : answer Try.prog impl_LimitsOk.Cs 100000 impl_LimitsOk.cuts [] Try.f92 (k + 1) [.v (.agg [(.int .i64 a0_0), (.int .i64 a0_1), (.int .i64 a0_2), (.int .i64 a0_3), (.int .i64 a0_4)])] = (impl_LimitsOk.f (k + 1) a0_0 a0_1 a0_2 a0_3 a0_4).map impl_LimitsOk.enc := by
  refine (impl_LimitsOk.s k a0_0 a0_1 a0_2 a0_3 a0_4).trans (Eq.trans ?_ (impl_LimitsOk.b_nat impl_LimitsOk.enc some k a0_0 a0_1 a0_2 a0_3 a0_4))
  simp only [Option.map_some]
theorem impl_LimitsOk.sound (k : Nat) : SoundF Try.prog 92 (fun a => (impl_LimitsOk.ans k a).val) := by
  refine sound_plain (fun args res h => ?_) (fun t n => rfl)
  unfold impl_LimitsOk.ans at h
  dsimp only at h
  split at h
  · cases k with
    | zero => cases h
    | succ k =>
      unfold Ans.val at h
      rw [← impl_LimitsOk.eq] at h
      exact answer_sound mixed Try.func92 _ _ _ (k + 1) (fun j _ => tab_sound (tab_cons (impl_within.sound j) (tab_nil))) _ _ h
  · exact (Ans.no_val h).elim

/-! loop.example/g00790/impl.TableOk -/
def impl_TableOk.b {R : Type} (ret : Bool → Option R) (j0 : Bool → (List T) → Int → Int → Bool → (List T) → Option R) (k : Nat) (a0_0z : Bool) (a0_0 : List T) : Option R :=
  j0 a0_0z a0_0 ((a0_0).length : Int) 0 a0_0z a0_0
def impl_TableOk.l0b {R : Type} (ret : Bool → Option R) (j0 : Bool → (List T) → Int → Int → Bool → (List T) → Option R) (k : Nat) (x6z : Bool) (x6 : List T) (x7 : Int) (x8 : Int) (c1_0z : Bool) (c1_0 : List T) : Option R :=
  cond (decide (x8 < x7)) (cond (decide ((0 : Int) ≤ x8)) (cond (decide (x8 < ((x6).length : Int))) ((impl_within.f k (((((x6).getD (x8).toNat .bad).cells.getD 0 .bad)).toInt) 1 1099511627776).bind fun t0 => cond (!t0) (ret false) ((impl_within.f k ((((((x6).getD (x8).toNat .bad).cells.getD 1 .bad)).toNums).length : Int) 1 64).bind fun t1 => cond (!t1) (ret false) (j0 x6z x6 x7 (RowKit.wrap64 (x8 + 1)) c1_0z c1_0))) (none)) (none)) ((impl_within.f k ((c1_0).length : Int) 1 10).bind fun t0 => ret t0)
def impl_TableOk.l0 : Nat → Bool → (List T) → Int → Int → Bool → (List T) → Option Bool
  | 0, _, _, _, _, _, _ => none
  | k + 1, x6z, x6, x7, x8, c1_0z, c1_0 => impl_TableOk.l0b some (impl_TableOk.l0 k) k x6z x6 x7 x8 c1_0z c1_0
def impl_TableOk.f : Nat → Bool → (List T) → Option Bool
  | 0, _, _ => none
  | k + 1, a0_0z, a0_0 => impl_TableOk.b some (impl_TableOk.l0 k) k a0_0z a0_0
def impl_TableOk.enc (r : Bool) : Res := ⟨[.vals false [((.bool r), true)]], []⟩
def impl_TableOk.ans (k : Nat) : List Arg → Ans
  | [.v (.agg [(.sl 44 a0_0z a0_0)])] => ⟨impl_TableOk.f k a0_0z a0_0, impl_TableOk.enc⟩
  | _ => Ans.no
def impl_TableOk.Cs (k : Nat) : CallSem := tab [(79, impl_within.ans k)]
def impl_TableOk.cuts : List (Nat × Keep) := [(26, ⟨[(1, some []), (6, some []), (7, some []), (8, some [])], [(1, [some []])]⟩)]
noncomputable def impl_TableOk.K0 : List Fr := framesAt [true, false, true, false] (bodyOf Try.f78 impl_TableOk.cuts) []
def impl_TableOk.N0 (x6z : Bool) (x6 : List T) (x7 : Int) (x8 : Int) (c1_0z : Bool) (c1_0 : List T) : St := stOf 28 28 1 [(1, .bp 1 0), (6, .val ⟨(.sl 44 x6z x6), [], false, none⟩), (7, .val (V.s (.int .i64 x7))), (8, .val (V.s (.int .i64 x8)))] [(1, .cells [⟨(.sl 44 c1_0z c1_0), [], false, none⟩])]
theorem impl_TableOk.s (k : Nat) (a0_0z : Bool) (a0_0 : List T) : answer Try.prog impl_TableOk.Cs 100000 impl_TableOk.cuts [] Try.f78 (k + 1) [.v (.agg [(.sl 44 a0_0z a0_0)])] = impl_TableOk.b (fun r => some (impl_TableOk.enc r)) (fun x6z x6 x7 x8 c1_0z c1_0 => rounds Try.prog impl_TableOk.Cs (finish Try.prog [] Try.f78 [.v (.agg [(.sl 44 a0_0z a0_0)])]) 100000 k impl_TableOk.K0 (impl_TableOk.N0 x6z x6 x7 x8 c1_0z c1_0)) k a0_0z a0_0 := by kernel_rfl
theorem impl_TableOk.s0 (k : Nat) (G : List Fr → St → Option Res) (a0_0z : Bool) (a0_0 : List T) (yx6z : Bool) (yx6 : List T) (yx7 : Int) (yx8 : Int) (yc1_0z : Bool) (yc1_0 : List T) : resume Try.prog (impl_TableOk.Cs k) G (finish Try.prog [] Try.f78 [.v (.agg [(.sl 44 a0_0z a0_0)])]) 100000 impl_TableOk.K0 (impl_TableOk.N0 yx6z yx6 yx7 yx8 yc1_0z yc1_0) = impl_TableOk.l0b (fun r => some (impl_TableOk.enc r)) (fun x6z x6 x7 x8 c1_0z c1_0 => G impl_TableOk.K0 (impl_TableOk.N0 x6z x6 x7 x8 c1_0z c1_0)) k yx6z yx6 yx7 yx8 yc1_0z yc1_0 := by kernel_rfl
theorem impl_TableOk.b_nat {R R' : Type} (e : R → R') (ret : Bool → Option R) (j0 : Bool → (List T) → Int → Int → Bool → (List T) → Option R) (k : Nat) (a0_0z : Bool) (a0_0 : List T) : impl_TableOk.b (fun r => (ret r).map e) (fun x6z x6 x7 x8 c1_0z c1_0 => (j0 x6z x6 x7 x8 c1_0z c1_0).map e) k a0_0z a0_0 = (impl_TableOk.b ret j0 k a0_0z a0_0).map e := by
  unfold impl_TableOk.b
  repeat' first | with_reducible refine nat_cond ?_ ?_ | with_reducible refine nat_bind fun _ => ?_ | rfl
theorem impl_TableOk.l0b_nat {R R' : Type} (e : R → R') (ret : Bool → Option R) (j0 : Bool → (List T) → Int → Int → Bool → (List T) → Option R) (k : Nat) (x6z : Bool) (x6 : List T) (x7 : Int) (x8 : Int) (c1_0z : Bool) (c1_0 : List T) : impl_TableOk.l0b (fun r => (ret r).map e) (fun x6z x6 x7 x8 c1_0z c1_0 => (j0 x6z x6 x7 x8 c1_0z c1_0).map e) k x6z x6 x7 x8 c1_0z c1_0 = (impl_TableOk.l0b ret j0 k x6z x6 x7 x8 c1_0z c1_0).map e := by
  unfold impl_TableOk.l0b
  repeat' first | with_reducible refine nat_cond ?_ ?_ | with_reducible refine nat_bind fun _ => ?_ | rfl
theorem impl_TableOk.rounds_eq (a0_0z : Bool) (a0_0 : List T) : ∀ k, (∀ (x6z : Bool) (x6 : List T) (x7 : Int) (x8 : Int) (c1_0z : Bool) (c1_0 : List T), rounds Try.prog impl_TableOk.Cs (finish Try.prog [] Try.f78 [.v (.agg [(.sl 44 a0_0z a0_0)])]) 100000 k impl_TableOk.K0 (impl_TableOk.N0 x6z x6 x7 x8 c1_0z c1_0) = (impl_TableOk.l0 k x6z x6 x7 x8 c1_0z c1_0).map impl_TableOk.enc)
  | 0 => fun _ _ _ _ _ _ => rfl
  | k + 1 => by
    have ih := impl_TableOk.rounds_eq a0_0z a0_0 k
    refine fun _ _ _ _ _ _ => ?_
    · refine (impl_TableOk.s0 k _ a0_0z a0_0 _ _ _ _ _ _).trans (Eq.trans ?_ (impl_TableOk.l0b_nat impl_TableOk.enc some (impl_TableOk.l0 k) k _ _ _ _ _ _))
      simp only [ih, Option.map_some]
theorem impl_TableOk.eq (k : Nat) (a0_0z : Bool) (a0_0 : List T) : answer Try.prog impl_TableOk.Cs 100000 impl_TableOk.cuts [] Try.f78 (k + 1) [.v (.agg [(.sl 44 a0_0z a0_0)])] = (impl_TableOk.f (k + 1) a0_0z a0_0).map impl_TableOk.enc := by
  have ih := impl_TableOk.rounds_eq a0_0z a0_0 k
  refine (impl_TableOk.s k a0_0z a0_0).trans (Eq.trans ?_ (impl_TableOk.b_nat impl_TableOk.enc some (impl_TableOk.l0 k) k a0_0z a0_0))
  simp only [ih, Option.map_some]
theorem impl_TableOk.sound (k : Nat) : SoundF Try.prog 78 (fun a => (impl_TableOk.ans k a).val) := by
  refine sound_plain (fun args res h => ?_) (fun t n => rfl)
  unfold impl_TableOk.ans at h
  dsimp only at h
  split at h
  · cases k with
    | zero => cases h
    | succ k =>
      unfold Ans.val at h
      rw [← impl_TableOk.eq] at h
      exact answer_sound mixed Try.func78 _ _ _ (k + 1) (fun j _ => tab_sound (tab_cons (impl_within.sound j) (tab_nil))) _ _ h
  · exact (Ans.no_val h).elim

/-! loop.example/g00790/impl.belongs -/
def impl_belongs.b {R : Type} (ret : Bool → Option R) (k : Nat) (a0_0 : Int) (a0_1 : Int) (a0_2 : Int) (a0_3 : Int) (a0_4 : Int) (a1_0z : Bool) (a1_0 : List T) : Option R :=
  (impl_LimitsOk.f k a0_0 a0_1 a0_2 a0_3 a0_4).bind fun t0 => cond t0 ((impl_TableOk.f k a1_0z a1_0).bind fun t1 => cond t1 (ret (decide (((a1_0).length : Int) = a0_0))) (ret false)) (ret false)
def impl_belongs.f : Nat → Int → Int → Int → Int → Int → Bool → (List T) → Option Bool
  | 0, _, _, _, _, _, _, _ => none
  | k + 1, a0_0, a0_1, a0_2, a0_3, a0_4, a1_0z, a1_0 => impl_belongs.b some k a0_0 a0_1 a0_2 a0_3 a0_4 a1_0z a1_0
def impl_belongs.enc (r : Bool) : Res := ⟨[.vals false [((.bool r), true)]], []⟩
def impl_belongs.ans (k : Nat) : List Arg → Ans
  | [.v (.agg [(.int .i64 a0_0), (.int .i64 a0_1), (.int .i64 a0_2), (.int .i64 a0_3), (.int .i64 a0_4)]), .v (.agg [(.sl 44 a1_0z a1_0)])] => ⟨impl_belongs.f k a0_0 a0_1 a0_2 a0_3 a0_4 a1_0z a1_0, impl_belongs.enc⟩
  | _ => Ans.no
def impl_belongs.Cs (k : Nat) : CallSem := tab [(92, impl_LimitsOk.ans k), (78, impl_TableOk.ans k)]
def impl_belongs.cuts : List (Nat × Keep) := []
theorem impl_belongs.s (k : Nat) (a0_0 : Int) (a0_1 : Int) (a0_2 : Int) (a0_3 : Int) (a0_4 : Int) (a1_0z : Bool) (a1_0 : List T) : answer Try.prog impl_belongs.Cs 100000 impl_belongs.cuts [] Try.f87 (k + 1) [.v (.agg [(.int .i64 a0_0), (.int .i64 a0_1), (.int .i64 a0_2), (.int .i64 a0_3), (.int .i64 a0_4)]), .v (.agg [(.sl 44 a1_0z a1_0)])] = impl_belongs.b (fun r => some (impl_belongs.enc r)) k a0_0 a0_1 a0_2 a0_3 a0_4 a1_0z a1_0 := by kernel_rfl
theorem impl_belongs.b_nat {R R' : Type} (e : R → R') (ret : Bool → Option R) (k : Nat) (a0_0 : Int) (a0_1 : Int) (a0_2 : Int) (a0_3 : Int) (a0_4 : Int) (a1_0z : Bool) (a1_0 : List T) : impl_belongs.b (fun r => (ret r).map e) k a0_0 a0_1 a0_2 a0_3 a0_4 a1_0z a1_0 = (impl_belongs.b ret k a0_0 a0_1 a0_2 a0_3 a0_4 a1_0z a1_0).map e := by
  unfold impl_belongs.b
  repeat' first | with_reducible refine nat_cond ?_ ?_ | with_reducible refine nat_bind fun _ => ?_ | rfl
theorem impl_belongs.eq (k : Nat) (a0_0 : Int) (a0_1 : Int) (a0_2 : Int) (a0_3 : Int) (a0_4 : Int) (a1_0z : Bool) (a1_0 : List T) : answer Try.prog impl_belongs.Cs 100000 impl_belongs.cuts [] Try.f87 (k + 1) [.v (.agg [(.int .i64 a0_0), (.int .i64 a0_1), (.int .i64 a0_2), (.int .i64 a0_3), (.int .i64 a0_4)]), .v (.agg [(.sl 44 a1_0z a1_0)])] = (impl_belongs.f (k + 1) a0_0 a0_1 a0_2 a0_3 a0_4 a1_0z a1_0).map impl_belongs.enc := by
  refine (impl_belongs.s k a0_0 a0_1 a0_2 a0_3 a0_4 a1_0z a1_0).trans (Eq.trans ?_ (impl_belongs.b_nat impl_belongs.enc some k a0_0 a0_1 a0_2 a0_3 a0_4 a1_0z a1_0))
  simp only [Option.map_some]
theorem impl_belongs.sound (k : Nat) : SoundF Try.prog 87 (fun a => (impl_belongs.ans k a).val) := by
  refine sound_plain (fun args res h => ?_) (fun t n => rfl)
  unfold impl_belongs.ans at h
  dsimp only at h
  split at h
  · cases k with
    | zero => cases h
    | succ k =>
      unfold Ans.val at h
      rw [← impl_belongs.eq] at h
      exact answer_sound mixed Try.func87 _ _ _ (k + 1) (fun j _ => tab_sound (tab_cons (impl_LimitsOk.sound j) (tab_cons (impl_TableOk.sound j) (tab_nil)))) _ _ h
  · exact (Ans.no_val h).elim

/-! loop.example/g00790/impl.BitsSize -/
def impl_BitsSize.b {R : Type} (ret : Int → Option R) (k : Nat) (a0 : Int) : Option R :=
  cond (decide (a0 < 1)) (ret 0) (ret (RowKit.wrap64 ((RowKit.wrap64 (Int.tdiv (RowKit.wrap64 (a0 - 1)) 8)) + 1)))
def impl_BitsSize.f : Nat → Int → Option Int
  | 0, _ => none
  | k + 1, a0 => impl_BitsSize.b some k a0
def impl_BitsSize.enc (r : Int) : Res := ⟨[.vals false [((.int .i64 r), true)]], []⟩
def impl_BitsSize.ans (k : Nat) : List Arg → Ans
  | [.v (.int .i64 a0)] => ⟨impl_BitsSize.f k a0, impl_BitsSize.enc⟩
  | _ => Ans.no
def impl_BitsSize.Cs (k : Nat) : CallSem := tab []
def impl_BitsSize.cuts : List (Nat × Keep) := []
theorem impl_BitsSize.s (k : Nat) (a0 : Int) : answer Try.prog impl_BitsSize.Cs 100000 impl_BitsSize.cuts [] Try.f153 (k + 1) [.v (.int .i64 a0)] = impl_BitsSize.b (fun r => some (impl_BitsSize.enc r)) k a0 := by kernel_rfl
theorem impl_BitsSize.b_nat {R R' : Type} (e : R → R') (ret : Int → Option R) (k : Nat) (a0 : Int) : impl_BitsSize.b (fun r => (ret r).map e) k a0 = (impl_BitsSize.b ret k a0).map e := by
  unfold impl_BitsSize.b
  repeat' first | with_reducible refine nat_cond ?_ ?_ | with_reducible refine nat_bind fun _ => ?_ | rfl
theorem impl_BitsSize.eq (k : Nat) (a0 : Int) : answer Try.prog impl_BitsSize.Cs 100000 impl_BitsSize.cuts [] Try.f153 (k + 1) [.v (.int .i64 a0)] = (impl_BitsSize.f (k + 1) a0).map impl_BitsSize.enc := by
  refine (impl_BitsSize.s k a0).trans (Eq.trans ?_ (impl_BitsSize.b_nat impl_BitsSize.enc some k a0))
  simp only [Option.map_some]
theorem impl_BitsSize.sound (k : Nat) : SoundF Try.prog 153 (fun a => (impl_BitsSize.ans k a).val) := by
  refine sound_plain (fun args res h => ?_) (fun t n => rfl)
  unfold impl_BitsSize.ans at h
  dsimp only at h
  split at h
  · cases k with
    | zero => cases h
    | succ k =>
      unfold Ans.val at h
      rw [← impl_BitsSize.eq] at h
      exact answer_sound mixed Try.func153 _ _ _ (k + 1) (fun j _ => tab_sound (tab_nil)) _ _ h
  · exact (Ans.no_val h).elim

/-! loop.example/g00790/impl.BitsHas -/
def impl_BitsHas.b {R : Type} (ret : Bool → Option R) (k : Nat) (a0z : Bool) (a0 : List Int) (a1 : Int) : Option R :=
  (impl_within.f k a1 0 (RowKit.wrap64 ((RowKit.wrap64 ((8 : Int) * ((a0).length : Int))) - 1))).bind fun t0 => cond t0 (cond (decide ((0 : Int) ≤ (RowKit.wrap64 (Int.tdiv a1 8)))) (cond (decide ((RowKit.wrap64 (Int.tdiv a1 8)) < ((a0).length : Int))) (cond (decide ((0 : Int) ≤ (Int.tmod a1 8))) (ret (decide ((Go.bits .and .u8 (shrI .u8 (rdI a0 (RowKit.wrap64 (Int.tdiv a1 8))) (Int.tmod a1 8)) 1) = 1))) (none)) (none)) (none)) (ret false)
def impl_BitsHas.f : Nat → Bool → (List Int) → Int → Option Bool
  | 0, _, _, _ => none
  | k + 1, a0z, a0, a1 => impl_BitsHas.b some k a0z a0 a1
def impl_BitsHas.enc (r : Bool) : Res := ⟨[.vals false [((.bool r), true)]], []⟩
def impl_BitsHas.ans (k : Nat) : List Arg → Ans
  | [.v (.nums 5 .u8 a0z a0), .v (.int .i64 a1)] => ⟨impl_BitsHas.f k a0z a0 a1, impl_BitsHas.enc⟩
  | _ => Ans.no
def impl_BitsHas.Cs (k : Nat) : CallSem := tab [(79, impl_within.ans k)]
def impl_BitsHas.cuts : List (Nat × Keep) := []
theorem impl_BitsHas.s (k : Nat) (a0z : Bool) (a0 : List Int) (a1 : Int) : answer Try.prog impl_BitsHas.Cs 100000 impl_BitsHas.cuts [] Try.f51 (k + 1) [.v (.nums 5 .u8 a0z a0), .v (.int .i64 a1)] = impl_BitsHas.b (fun r => some (impl_BitsHas.enc r)) k a0z a0 a1 := by kernel_rfl
theorem impl_BitsHas.b_nat {R R' : Type} (e : R → R') (ret : Bool → Option R) (k : Nat) (a0z : Bool) (a0 : List Int) (a1 : Int) : impl_BitsHas.b (fun r => (ret r).map e) k a0z a0 a1 = (impl_BitsHas.b ret k a0z a0 a1).map e := by
  unfold impl_BitsHas.b
  repeat' first | with_reducible refine nat_cond ?_ ?_ | with_reducible refine nat_bind fun _ => ?_ | rfl
theorem impl_BitsHas.eq (k : Nat) (a0z : Bool) (a0 : List Int) (a1 : Int) : answer Try.prog impl_BitsHas.Cs 100000 impl_BitsHas.cuts [] Try.f51 (k + 1) [.v (.nums 5 .u8 a0z a0), .v (.int .i64 a1)] = (impl_BitsHas.f (k + 1) a0z a0 a1).map impl_BitsHas.enc := by
  refine (impl_BitsHas.s k a0z a0 a1).trans (Eq.trans ?_ (impl_BitsHas.b_nat impl_BitsHas.enc some k a0z a0 a1))
  simp only [Option.map_some]
theorem impl_BitsHas.sound (k : Nat) : SoundF Try.prog 51 (fun a => (impl_BitsHas.ans k a).val) := by
  refine sound_plain (fun args res h => ?_) (fun t n => rfl)
  unfold impl_BitsHas.ans at h
  dsimp only at h
  split at h
  · cases k with
    | zero => cases h
    | succ k =>
      unfold Ans.val at h
      rw [← impl_BitsHas.eq] at h
      exact answer_sound mixed Try.func51 _ _ _ (k + 1) (fun j _ => tab_sound (tab_cons (impl_within.sound j) (tab_nil))) _ _ h
  · exact (Ans.no_val h).elim

/-! loop.example/g00790/impl.BitsList -/
def impl_BitsList.b {R : Type} (ret : Bool × List Int → Option R) (j0 : Bool → (List Int) → (List Int) → Int → Int → Option R) (k : Nat) (a0z : Bool) (a0 : List Int) : Option R :=
  j0 a0z a0 ([] : List Int) (RowKit.wrap64 ((8 : Int) * ((a0).length : Int))) 0
def impl_BitsList.l0b {R : Type} (ret : Bool × List Int → Option R) (j0 : Bool → (List Int) → (List Int) → Int → Int → Option R) (k : Nat) (x0z : Bool) (x0 : List Int) (x3 : List Int) (x8 : Int) (x9 : Int) : Option R :=
  cond (decide (x9 < x8)) ((impl_BitsHas.f k x0z x0 x9).bind fun t0 => cond t0 (cond (decide ((x3).length + 1 < 17592186044416)) (j0 x0z x0 (x3 ++ ([x9] : List Int)) x8 (RowKit.wrap64 (x9 + 1))) (none)) (j0 x0z x0 x3 x8 (RowKit.wrap64 (x9 + 1)))) (ret (false, x3))
def impl_BitsList.l0 : Nat → Bool → (List Int) → (List Int) → Int → Int → Option (Bool × List Int)
  | 0, _, _, _, _, _ => none
  | k + 1, x0z, x0, x3, x8, x9 => impl_BitsList.l0b some (impl_BitsList.l0 k) k x0z x0 x3 x8 x9
def impl_BitsList.f : Nat → Bool → (List Int) → Option (Bool × List Int)
  | 0, _, _ => none
  | k + 1, a0z, a0 => impl_BitsList.b some (impl_BitsList.l0 k) k a0z a0
def impl_BitsList.enc (r : Bool × List Int) : Res := ⟨[.vals false [((.nums 3 .i64 r.1 r.2), true)]], []⟩
def impl_BitsList.ans (k : Nat) : List Arg → Ans
  | [.v (.nums 5 .u8 a0z a0)] => ⟨impl_BitsList.f k a0z a0, impl_BitsList.enc⟩
  | _ => Ans.no
def impl_BitsList.Cs (k : Nat) : CallSem := tab [(51, impl_BitsHas.ans k)]
def impl_BitsList.cuts : List (Nat × Keep) := [(58, ⟨[(0, some []), (3, none), (8, some []), (9, some [])], []⟩)]
noncomputable def impl_BitsList.K0 : List Fr := framesAt [true, true, false, true, false] (bodyOf Try.f89 impl_BitsList.cuts) []
def impl_BitsList.N0 (x0z : Bool) (x0 : List Int) (x3 : List Int) (x8 : Int) (x9 : Int) : St := stOf 21 21 1 [(0, .val ⟨(.nums 5 .u8 x0z x0), [], false, none⟩), (3, .val ⟨(.nums 3 .i64 false x3), [.l 3 0], true, some (.l 3 0)⟩), (8, .val (V.s (.int .i64 x8))), (9, .val (V.s (.int .i64 x9)))] []
theorem impl_BitsList.s (k : Nat) (a0z : Bool) (a0 : List Int) : answer Try.prog impl_BitsList.Cs 100000 impl_BitsList.cuts [] Try.f89 (k + 1) [.v (.nums 5 .u8 a0z a0)] = impl_BitsList.b (fun r => some (impl_BitsList.enc r)) (fun x0z x0 x3 x8 x9 => rounds Try.prog impl_BitsList.Cs (finish Try.prog [] Try.f89 [.v (.nums 5 .u8 a0z a0)]) 100000 k impl_BitsList.K0 (impl_BitsList.N0 x0z x0 x3 x8 x9)) k a0z a0 := by kernel_rfl
theorem impl_BitsList.s0 (k : Nat) (G : List Fr → St → Option Res) (a0z : Bool) (a0 : List Int) (yx0z : Bool) (yx0 : List Int) (yx3 : List Int) (yx8 : Int) (yx9 : Int) : resume Try.prog (impl_BitsList.Cs k) G (finish Try.prog [] Try.f89 [.v (.nums 5 .u8 a0z a0)]) 100000 impl_BitsList.K0 (impl_BitsList.N0 yx0z yx0 yx3 yx8 yx9) = impl_BitsList.l0b (fun r => some (impl_BitsList.enc r)) (fun x0z x0 x3 x8 x9 => G impl_BitsList.K0 (impl_BitsList.N0 x0z x0 x3 x8 x9)) k yx0z yx0 yx3 yx8 yx9 := by kernel_rfl
theorem impl_BitsList.b_nat {R R' : Type} (e : R → R') (ret : Bool × List Int → Option R) (j0 : Bool → (List Int) → (List Int) → Int → Int → Option R) (k : Nat) (a0z : Bool) (a0 : List Int) : impl_BitsList.b (fun r => (ret r).map e) (fun x0z x0 x3 x8 x9 => (j0 x0z x0 x3 x8 x9).map e) k a0z a0 = (impl_BitsList.b ret j0 k a0z a0).map e := by
  unfold impl_BitsList.b
  repeat' first | with_reducible refine nat_cond ?_ ?_ | with_reducible refine nat_bind fun _ => ?_ | rfl
theorem impl_BitsList.l0b_nat {R R' : Type} (e : R → R') (ret : Bool × List Int → Option R) (j0 : Bool → (List Int) → (List Int) → Int → Int → Option R) (k : Nat) (x0z : Bool) (x0 : List Int) (x3 : List Int) (x8 : Int) (x9 : Int) : impl_BitsList.l0b (fun r => (ret r).map e) (fun x0z x0 x3 x8 x9 => (j0 x0z x0 x3 x8 x9).map e) k x0z x0 x3 x8 x9 = (impl_BitsList.l0b ret j0 k x0z x0 x3 x8 x9).map e := by
  unfold impl_BitsList.l0b
  repeat' first | with_reducible refine nat_cond ?_ ?_ | with_reducible refine nat_bind fun _ => ?_ | rfl
theorem impl_BitsList.rounds_eq (a0z : Bool) (a0 : List Int) : ∀ k, (∀ (x0z : Bool) (x0 : List Int) (x3 : List Int) (x8 : Int) (x9 : Int), rounds Try.prog impl_BitsList.Cs (finish Try.prog [] Try.f89 [.v (.nums 5 .u8 a0z a0)]) 100000 k impl_BitsList.K0 (impl_BitsList.N0 x0z x0 x3 x8 x9) = (impl_BitsList.l0 k x0z x0 x3 x8 x9).map impl_BitsList.enc)
  | 0 => fun _ _ _ _ _ => rfl
  | k + 1 => by
    have ih := impl_BitsList.rounds_eq a0z a0 k
    refine fun _ _ _ _ _ => ?_
    · refine (impl_BitsList.s0 k _ a0z a0 _ _ _ _ _).trans (Eq.trans ?_ (impl_BitsList.l0b_nat impl_BitsList.enc some (impl_BitsList.l0 k) k _ _ _ _ _))
      simp only [ih, Option.map_some]
theorem impl_BitsList.eq (k : Nat) (a0z : Bool) (a0 : List Int) : answer Try.prog impl_BitsList.Cs 100000 impl_BitsList.cuts [] Try.f89 (k + 1) [.v (.nums 5 .u8 a0z a0)] = (impl_BitsList.f (k + 1) a0z a0).map impl_BitsList.enc := by
  have ih := impl_BitsList.rounds_eq a0z a0 k
  refine (impl_BitsList.s k a0z a0).trans (Eq.trans ?_ (impl_BitsList.b_nat impl_BitsList.enc some (impl_BitsList.l0 k) k a0z a0))
  simp only [ih, Option.map_some]
theorem impl_BitsList.sound (k : Nat) : SoundF Try.prog 89 (fun a => (impl_BitsList.ans k a).val) := by
  refine sound_plain (fun args res h => ?_) (fun t n => rfl)
  unfold impl_BitsList.ans at h
  dsimp only at h
  split at h
  · cases k with
    | zero => cases h
    | succ k =>
      unfold Ans.val at h
      rw [← impl_BitsList.eq] at h
      exact answer_sound mixed Try.func89 _ _ _ (k + 1) (fun j _ => tab_sound (tab_cons (impl_BitsHas.sound j) (tab_nil))) _ _ h
  · exact (Ans.no_val h).elim

/-! loop.example/g00790/impl.BitsOk -/
def impl_BitsOk.b {R : Type} (ret : Bool → Option R) (j0 : Int → Bool → (List Int) → Int → Int → Option R) (k : Nat) (a0z : Bool) (a0 : List Int) (a1 : Int) : Option R :=
  (impl_within.f k a1 1 10).bind fun t0 => cond (!t0) (ret false) ((impl_BitsSize.f k a1).bind fun t1 => cond (!(decide (((a0).length : Int) = t1))) (ret false) ((impl_BitsList.f k a0z a0).bind fun t2 => j0 a1 t2.1 t2.2 ((t2.2).length : Int) 0))
def impl_BitsOk.l0b {R : Type} (ret : Bool → Option R) (j0 : Int → Bool → (List Int) → Int → Int → Option R) (k : Nat) (x1 : Int) (x18z : Bool) (x18 : List Int) (x19 : Int) (x20 : Int) : Option R :=
  cond (decide (x20 < x19)) (cond (decide ((0 : Int) ≤ x20)) (cond (decide (x20 < ((x18).length : Int))) (cond (decide ((rdI x18 x20) ≥ x1)) (ret false) (j0 x1 x18z x18 x19 (RowKit.wrap64 (x20 + 1)))) (none)) (none)) (ret true)
def impl_BitsOk.l0 : Nat → Int → Bool → (List Int) → Int → Int → Option Bool
  | 0, _, _, _, _, _ => none
  | k + 1, x1, x18z, x18, x19, x20 => impl_BitsOk.l0b some (impl_BitsOk.l0 k) k x1 x18z x18 x19 x20
def impl_BitsOk.f : Nat → Bool → (List Int) → Int → Option Bool
  | 0, _, _, _ => none
  | k + 1, a0z, a0, a1 => impl_BitsOk.b some (impl_BitsOk.l0 k) k a0z a0 a1
def impl_BitsOk.enc (r : Bool) : Res := ⟨[.vals false [((.bool r), true)]], []⟩
def impl_BitsOk.ans (k : Nat) : List Arg → Ans
  | [.v (.nums 5 .u8 a0z a0), .v (.int .i64 a1)] => ⟨impl_BitsOk.f k a0z a0 a1, impl_BitsOk.enc⟩
  | _ => Ans.no
def impl_BitsOk.Cs (k : Nat) : CallSem := tab [(79, impl_within.ans k), (153, impl_BitsSize.ans k), (89, impl_BitsList.ans k)]
def impl_BitsOk.cuts : List (Nat × Keep) := [(58, ⟨[(1, some []), (18, none), (19, some []), (20, some [])], []⟩)]
noncomputable def impl_BitsOk.K0 : List Fr := framesAt [true, true, false, true, false] (bodyOf Try.f88 impl_BitsOk.cuts) []
def impl_BitsOk.N0 (x1 : Int) (x18z : Bool) (x18 : List Int) (x19 : Int) (x20 : Int) : St := stOf 28 28 2 [(1, .val (V.s (.int .i64 x1))), (18, .val ⟨(.nums 3 .i64 x18z x18), [.l 18 0], true, some (.l 18 0)⟩), (19, .val (V.s (.int .i64 x19))), (20, .val (V.s (.int .i64 x20)))] []
theorem impl_BitsOk.s (k : Nat) (a0z : Bool) (a0 : List Int) (a1 : Int) : answer Try.prog impl_BitsOk.Cs 100000 impl_BitsOk.cuts [] Try.f88 (k + 1) [.v (.nums 5 .u8 a0z a0), .v (.int .i64 a1)] = impl_BitsOk.b (fun r => some (impl_BitsOk.enc r)) (fun x1 x18z x18 x19 x20 => rounds Try.prog impl_BitsOk.Cs (finish Try.prog [] Try.f88 [.v (.nums 5 .u8 a0z a0), .v (.int .i64 a1)]) 100000 k impl_BitsOk.K0 (impl_BitsOk.N0 x1 x18z x18 x19 x20)) k a0z a0 a1 := by kernel_rfl
theorem impl_BitsOk.s0 (k : Nat) (G : List Fr → St → Option Res) (a0z : Bool) (a0 : List Int) (a1 : Int) (yx1 : Int) (yx18z : Bool) (yx18 : List Int) (yx19 : Int) (yx20 : Int) : resume Try.prog (impl_BitsOk.Cs k) G (finish Try.prog [] Try.f88 [.v (.nums 5 .u8 a0z a0), .v (.int .i64 a1)]) 100000 impl_BitsOk.K0 (impl_BitsOk.N0 yx1 yx18z yx18 yx19 yx20) = impl_BitsOk.l0b (fun r => some (impl_BitsOk.enc r)) (fun x1 x18z x18 x19 x20 => G impl_BitsOk.K0 (impl_BitsOk.N0 x1 x18z x18 x19 x20)) k yx1 yx18z yx18 yx19 yx20 := by kernel_rfl
theorem impl_BitsOk.b_nat {R R' : Type} (e : R → R') (ret : Bool → Option R) (j0 : Int → Bool → (List Int) → Int → Int → Option R) (k : Nat) (a0z : Bool) (a0 : List Int) (a1 : Int) : impl_BitsOk.b (fun r => (ret r).map e) (fun x1 x18z x18 x19 x20 => (j0 x1 x18z x18 x19 x20).map e) k a0z a0 a1 = (impl_BitsOk.b ret j0 k a0z a0 a1).map e := by
  unfold impl_BitsOk.b
  repeat' first | with_reducible refine nat_cond ?_ ?_ | with_reducible refine nat_bind fun _ => ?_ | rfl
theorem impl_BitsOk.l0b_nat {R R' : Type} (e : R → R') (ret : Bool → Option R) (j0 : Int → Bool → (List Int) → Int → Int → Option R) (k : Nat) (x1 : Int) (x18z : Bool) (x18 : List Int) (x19 : Int) (x20 : Int) : impl_BitsOk.l0b (fun r => (ret r).map e) (fun x1 x18z x18 x19 x20 => (j0 x1 x18z x18 x19 x20).map e) k x1 x18z x18 x19 x20 = (impl_BitsOk.l0b ret j0 k x1 x18z x18 x19 x20).map e := by
  unfold impl_BitsOk.l0b
  repeat' first | with_reducible refine nat_cond ?_ ?_ | with_reducible refine nat_bind fun _ => ?_ | rfl
theorem impl_BitsOk.rounds_eq (a0z : Bool) (a0 : List Int) (a1 : Int) : ∀ k, (∀ (x1 : Int) (x18z : Bool) (x18 : List Int) (x19 : Int) (x20 : Int), rounds Try.prog impl_BitsOk.Cs (finish Try.prog [] Try.f88 [.v (.nums 5 .u8 a0z a0), .v (.int .i64 a1)]) 100000 k impl_BitsOk.K0 (impl_BitsOk.N0 x1 x18z x18 x19 x20) = (impl_BitsOk.l0 k x1 x18z x18 x19 x20).map impl_BitsOk.enc)
  | 0 => fun _ _ _ _ _ => rfl
  | k + 1 => by
    have ih := impl_BitsOk.rounds_eq a0z a0 a1 k
    refine fun _ _ _ _ _ => ?_
    · refine (impl_BitsOk.s0 k _ a0z a0 a1 _ _ _ _ _).trans (Eq.trans ?_ (impl_BitsOk.l0b_nat impl_BitsOk.enc some (impl_BitsOk.l0 k) k _ _ _ _ _))
      simp only [ih, Option.map_some]
theorem impl_BitsOk.eq (k : Nat) (a0z : Bool) (a0 : List Int) (a1 : Int) : answer Try.prog impl_BitsOk.Cs 100000 impl_BitsOk.cuts [] Try.f88 (k + 1) [.v (.nums 5 .u8 a0z a0), .v (.int .i64 a1)] = (impl_BitsOk.f (k + 1) a0z a0 a1).map impl_BitsOk.enc := by
  have ih := impl_BitsOk.rounds_eq a0z a0 a1 k
  refine (impl_BitsOk.s k a0z a0 a1).trans (Eq.trans ?_ (impl_BitsOk.b_nat impl_BitsOk.enc some (impl_BitsOk.l0 k) k a0z a0 a1))
  simp only [ih, Option.map_some]
theorem impl_BitsOk.sound (k : Nat) : SoundF Try.prog 88 (fun a => (impl_BitsOk.ans k a).val) := by
  refine sound_plain (fun args res h => ?_) (fun t n => rfl)
  unfold impl_BitsOk.ans at h
  dsimp only at h
  split at h
  · cases k with
    | zero => cases h
    | succ k =>
      unfold Ans.val at h
      rw [← impl_BitsOk.eq] at h
      exact answer_sound mixed Try.func88 _ _ _ (k + 1) (fun j _ => tab_sound (tab_cons (impl_within.sound j) (tab_cons (impl_BitsSize.sound j) (tab_cons (impl_BitsList.sound j) (tab_nil))))) _ _ h
  · exact (Ans.no_val h).elim

/-! loop.example/g00790/impl.copyBytes -/
def impl_copyBytes.b {R : Type} (ret : Bool × List Int → Option R) (k : Nat) (a0z : Bool) (a0 : List Int) : Option R :=
  cond (decide (0 + (a0).length < 140737488355328)) (ret (((a0).isEmpty && false), a0)) (none)
def impl_copyBytes.f : Nat → Bool → (List Int) → Option (Bool × List Int)
  | 0, _, _ => none
  | k + 1, a0z, a0 => impl_copyBytes.b some k a0z a0
def impl_copyBytes.enc (r : Bool × List Int) : Res := ⟨[.vals false [((.nums 5 .u8 r.1 r.2), true)]], []⟩
def impl_copyBytes.ans (k : Nat) : List Arg → Ans
  | [.v (.nums 5 .u8 a0z a0)] => ⟨impl_copyBytes.f k a0z a0, impl_copyBytes.enc⟩
  | _ => Ans.no
def impl_copyBytes.Cs (k : Nat) : CallSem := tab []
def impl_copyBytes.cuts : List (Nat × Keep) := []
theorem impl_copyBytes.s (k : Nat) (a0z : Bool) (a0 : List Int) : answer Try.prog impl_copyBytes.Cs 100000 impl_copyBytes.cuts [] Try.f80 (k + 1) [.v (.nums 5 .u8 a0z a0)] = impl_copyBytes.b (fun r => some (impl_copyBytes.enc r)) k a0z a0 := by kernel_rfl
theorem impl_copyBytes.b_nat {R R' : Type} (e : R → R') (ret : Bool × List Int → Option R) (k : Nat) (a0z : Bool) (a0 : List Int) : impl_copyBytes.b (fun r => (ret r).map e) k a0z a0 = (impl_copyBytes.b ret k a0z a0).map e := by
  unfold impl_copyBytes.b
  repeat' first | with_reducible refine nat_cond ?_ ?_ | with_reducible refine nat_bind fun _ => ?_ | rfl
theorem impl_copyBytes.eq (k : Nat) (a0z : Bool) (a0 : List Int) : answer Try.prog impl_copyBytes.Cs 100000 impl_copyBytes.cuts [] Try.f80 (k + 1) [.v (.nums 5 .u8 a0z a0)] = (impl_copyBytes.f (k + 1) a0z a0).map impl_copyBytes.enc := by
  refine (impl_copyBytes.s k a0z a0).trans (Eq.trans ?_ (impl_copyBytes.b_nat impl_copyBytes.enc some k a0z a0))
  simp only [Option.map_some]
theorem impl_copyBytes.sound (k : Nat) : SoundF Try.prog 80 (fun a => (impl_copyBytes.ans k a).val) := by
  refine sound_plain (fun args res h => ?_) (fun t n => rfl)
  unfold impl_copyBytes.ans at h
  dsimp only at h
  split at h
  · cases k with
    | zero => cases h
    | succ k =>
      unfold Ans.val at h
      rw [← impl_copyBytes.eq] at h
      exact answer_sound mixed Try.func80 _ _ _ (k + 1) (fun j _ => tab_sound (tab_nil)) _ _ h
  · exact (Ans.no_val h).elim

/-! loop.example/g00790/impl.isNum -/
def impl_isNum.b {R : Type} (ret : Bool → Option R) (k : Nat) (a0 : Int) : Option R :=
  (impl_within.f k a0 0 1152921504606846975).bind fun t0 => ret t0
def impl_isNum.f : Nat → Int → Option Bool
  | 0, _ => none
  | k + 1, a0 => impl_isNum.b some k a0
def impl_isNum.enc (r : Bool) : Res := ⟨[.vals false [((.bool r), true)]], []⟩
def impl_isNum.ans (k : Nat) : List Arg → Ans
  | [.v (.int .i64 a0)] => ⟨impl_isNum.f k a0, impl_isNum.enc⟩
  | _ => Ans.no
def impl_isNum.Cs (k : Nat) : CallSem := tab [(79, impl_within.ans k)]
def impl_isNum.cuts : List (Nat × Keep) := []
theorem impl_isNum.s (k : Nat) (a0 : Int) : answer Try.prog impl_isNum.Cs 100000 impl_isNum.cuts [] Try.f93 (k + 1) [.v (.int .i64 a0)] = impl_isNum.b (fun r => some (impl_isNum.enc r)) k a0 := by kernel_rfl
theorem impl_isNum.b_nat {R R' : Type} (e : R → R') (ret : Bool → Option R) (k : Nat) (a0 : Int) : impl_isNum.b (fun r => (ret r).map e) k a0 = (impl_isNum.b ret k a0).map e := by
  unfold impl_isNum.b
  repeat' first | with_reducible refine nat_cond ?_ ?_ | with_reducible refine nat_bind fun _ => ?_ | rfl
theorem impl_isNum.eq (k : Nat) (a0 : Int) : answer Try.prog impl_isNum.Cs 100000 impl_isNum.cuts [] Try.f93 (k + 1) [.v (.int .i64 a0)] = (impl_isNum.f (k + 1) a0).map impl_isNum.enc := by
  refine (impl_isNum.s k a0).trans (Eq.trans ?_ (impl_isNum.b_nat impl_isNum.enc some k a0))
  simp only [Option.map_some]
theorem impl_isNum.sound (k : Nat) : SoundF Try.prog 93 (fun a => (impl_isNum.ans k a).val) := by
  refine sound_plain (fun args res h => ?_) (fun t n => rfl)
  unfold impl_isNum.ans at h
  dsimp only at h
  split at h
  · cases k with
    | zero => cases h
    | succ k =>
      unfold Ans.val at h
      rw [← impl_isNum.eq] at h
      exact answer_sound mixed Try.func93 _ _ _ (k + 1) (fun j _ => tab_sound (tab_cons (impl_within.sound j) (tab_nil))) _ _ h
  · exact (Ans.no_val h).elim

/-! loop.example/g00790/impl.PutVar -/
def impl_PutVar.b {R : Type} (ret : Bool × (List Int) × Bool → Option R) (j0 : Int → Bool → (List Int) → Option R) (k : Nat) (a0z : Bool) (a0 : List Int) (a1 : Int) : Option R :=
  (impl_isNum.f k a1).bind fun t0 => cond (!t0) (ret (true, ([] : List Int), false)) ((impl_copyBytes.f k a0z a0).bind fun t1 => j0 a1 t1.1 t1.2)
def impl_PutVar.l0b {R : Type} (ret : Bool × (List Int) × Bool → Option R) (j0 : Int → Bool → (List Int) → Option R) (k : Nat) (x1 : Int) (x6z : Bool) (x6 : List Int) : Option R :=
  cond (decide (x1 ≥ 128)) (cond (decide ((x6).length + 1 < 140737488355328)) (j0 (RowKit.wrap64 (Int.tdiv x1 128)) false (x6 ++ ([(((RowKit.wrap64 ((Int.tmod x1 128) + 128))) % 256)] : List Int))) (none)) (cond (decide ((x6).length + 1 < 140737488355328)) (ret (false, (x6 ++ ([((x1) % 256)] : List Int)), true)) (none))
def impl_PutVar.l0 : Nat → Int → Bool → (List Int) → Option (Bool × (List Int) × Bool)
  | 0, _, _, _ => none
  | k + 1, x1, x6z, x6 => impl_PutVar.l0b some (impl_PutVar.l0 k) k x1 x6z x6
def impl_PutVar.f : Nat → Bool → (List Int) → Int → Option (Bool × (List Int) × Bool)
  | 0, _, _, _ => none
  | k + 1, a0z, a0, a1 => impl_PutVar.b some (impl_PutVar.l0 k) k a0z a0 a1
def impl_PutVar.enc (r : Bool × (List Int) × Bool) : Res := ⟨[.vals false [((.nums 5 .u8 r.1 r.2.1), true)], .vals false [((.bool r.2.2), true)]], []⟩
def impl_PutVar.ans (k : Nat) : List Arg → Ans
  | [.v (.nums 5 .u8 a0z a0), .v (.int .i64 a1)] => ⟨impl_PutVar.f k a0z a0 a1, impl_PutVar.enc⟩
  | _ => Ans.no
def impl_PutVar.Cs (k : Nat) : CallSem := tab [(80, impl_copyBytes.ans k), (93, impl_isNum.ans k)]
def impl_PutVar.cuts : List (Nat × Keep) := [(60, ⟨[(1, some []), (6, none)], []⟩)]
noncomputable def impl_PutVar.K0 : List Fr := framesAt [true, true, true, false, false] (bodyOf Try.f150 impl_PutVar.cuts) []
def impl_PutVar.N0 (x1 : Int) (x6z : Bool) (x6 : List Int) : St := stOf 28 28 2 [(1, .val (V.s (.int .i64 x1))), (6, .val ⟨(.nums 5 .u8 x6z x6), [.l 6 0], true, some (.l 6 0)⟩)] []
theorem impl_PutVar.s (k : Nat) (a0z : Bool) (a0 : List Int) (a1 : Int) : answer Try.prog impl_PutVar.Cs 100000 impl_PutVar.cuts [] Try.f150 (k + 1) [.v (.nums 5 .u8 a0z a0), .v (.int .i64 a1)] = impl_PutVar.b (fun r => some (impl_PutVar.enc r)) (fun x1 x6z x6 => rounds Try.prog impl_PutVar.Cs (finish Try.prog [] Try.f150 [.v (.nums 5 .u8 a0z a0), .v (.int .i64 a1)]) 100000 k impl_PutVar.K0 (impl_PutVar.N0 x1 x6z x6)) k a0z a0 a1 := by kernel_rfl
theorem impl_PutVar.s0 (k : Nat) (G : List Fr → St → Option Res) (a0z : Bool) (a0 : List Int) (a1 : Int) (yx1 : Int) (yx6z : Bool) (yx6 : List Int) : resume Try.prog (impl_PutVar.Cs k) G (finish Try.prog [] Try.f150 [.v (.nums 5 .u8 a0z a0), .v (.int .i64 a1)]) 100000 impl_PutVar.K0 (impl_PutVar.N0 yx1 yx6z yx6) = impl_PutVar.l0b (fun r => some (impl_PutVar.enc r)) (fun x1 x6z x6 => G impl_PutVar.K0 (impl_PutVar.N0 x1 x6z x6)) k yx1 yx6z yx6 := by kernel_rfl
theorem impl_PutVar.b_nat {R R' : Type} (e : R → R') (ret : Bool × (List Int) × Bool → Option R) (j0 : Int → Bool → (List Int) → Option R) (k : Nat) (a0z : Bool) (a0 : List Int) (a1 : Int) : impl_PutVar.b (fun r => (ret r).map e) (fun x1 x6z x6 => (j0 x1 x6z x6).map e) k a0z a0 a1 = (impl_PutVar.b ret j0 k a0z a0 a1).map e := by
  unfold impl_PutVar.b
  repeat' first | with_reducible refine nat_cond ?_ ?_ | with_reducible refine nat_bind fun _ => ?_ | rfl
theorem impl_PutVar.l0b_nat {R R' : Type} (e : R → R') (ret : Bool × (List Int) × Bool → Option R) (j0 : Int → Bool → (List Int) → Option R) (k : Nat) (x1 : Int) (x6z : Bool) (x6 : List Int) : impl_PutVar.l0b (fun r => (ret r).map e) (fun x1 x6z x6 => (j0 x1 x6z x6).map e) k x1 x6z x6 = (impl_PutVar.l0b ret j0 k x1 x6z x6).map e := by
  unfold impl_PutVar.l0b
  repeat' first | with_reducible refine nat_cond ?_ ?_ | with_reducible refine nat_bind fun _ => ?_ | rfl
theorem impl_PutVar.rounds_eq (a0z : Bool) (a0 : List Int) (a1 : Int) : ∀ k, (∀ (x1 : Int) (x6z : Bool) (x6 : List Int), rounds Try.prog impl_PutVar.Cs (finish Try.prog [] Try.f150 [.v (.nums 5 .u8 a0z a0), .v (.int .i64 a1)]) 100000 k impl_PutVar.K0 (impl_PutVar.N0 x1 x6z x6) = (impl_PutVar.l0 k x1 x6z x6).map impl_PutVar.enc)
  | 0 => fun _ _ _ => rfl
  | k + 1 => by
    have ih := impl_PutVar.rounds_eq a0z a0 a1 k
    refine fun _ _ _ => ?_
    · refine (impl_PutVar.s0 k _ a0z a0 a1 _ _ _).trans (Eq.trans ?_ (impl_PutVar.l0b_nat impl_PutVar.enc some (impl_PutVar.l0 k) k _ _ _))
      simp only [ih, Option.map_some]
theorem impl_PutVar.eq (k : Nat) (a0z : Bool) (a0 : List Int) (a1 : Int) : answer Try.prog impl_PutVar.Cs 100000 impl_PutVar.cuts [] Try.f150 (k + 1) [.v (.nums 5 .u8 a0z a0), .v (.int .i64 a1)] = (impl_PutVar.f (k + 1) a0z a0 a1).map impl_PutVar.enc := by
  have ih := impl_PutVar.rounds_eq a0z a0 a1 k
  refine (impl_PutVar.s k a0z a0 a1).trans (Eq.trans ?_ (impl_PutVar.b_nat impl_PutVar.enc some (impl_PutVar.l0 k) k a0z a0 a1))
  simp only [ih, Option.map_some]
theorem impl_PutVar.sound (k : Nat) : SoundF Try.prog 150 (fun a => (impl_PutVar.ans k a).val) := by
  refine sound_plain (fun args res h => ?_) (fun t n => rfl)
  unfold impl_PutVar.ans at h
  dsimp only at h
  split at h
  · cases k with
    | zero => cases h
    | succ k =>
      unfold Ans.val at h
      rw [← impl_PutVar.eq] at h
      exact answer_sound mixed Try.func150 _ _ _ (k + 1) (fun j _ => tab_sound (tab_cons (impl_copyBytes.sound j) (tab_cons (impl_isNum.sound j) (tab_nil)))) _ _ h
  · exact (Ans.no_val h).elim

end Go.Proofs.YtbpcnodmgphinaaG
