/- What the functions compute, printed by a program of this repo; each is shown to be what the machine of values answers. No condition. -/
import Derived.Test.YtbpcnodmgphinaaProg
import Derived.KernelRfl
import Derived.Test.YtbpcnodmgphinaaRvD
namespace Go.Proofs.YtbpcnodmgphinaaG
open Go Go.Proofs.YtbpcnodmgphinaaRv Go.Proofs
set_option linter.unusedVariables false
set_option linter.unusedSimpArgs false
theorem mixed : Try.prog.follows .mixedOrders = true := by kernel_rfl
/-! loop.example/g00790/spec.l01New -/
def spec_l01New.b {R : Type} (ret : Bool × (List Int) × Int × Int → Option R) (j0 : Bool → (List Int) → Int → Int → Option R) (k : Nat) (a0z : Bool) (a0 : List Int) : Option R :=
  j0 a0z a0 (RowKit.wrap64 ((1611 : Int) + ((a0).length : Int))) 0
def spec_l01New.l0b {R : Type} (ret : Bool × (List Int) × Int × Int → Option R) (j0 : Bool → (List Int) → Int → Int → Option R) (k : Nat) (x0z : Bool) (x0 : List Int) (x3 : Int) (x4 : Int) : Option R :=
  cond (decide (x4 < ((x0).length : Int))) (cond (decide (x4 < 4000)) (cond (decide ((0 : Int) ≤ x4)) (cond (decide (x4 < ((x0).length : Int))) (j0 x0z x0 (Go.bits .and .i64 (RowKit.wrap64 ((RowKit.wrap64 ((RowKit.wrap64 (x3 * 37)) + (RowKit.wrap64 ((rdI x0 x4))))) + 7)) 1073741823) (RowKit.wrap64 (x4 + 1))) (none)) (none)) (ret (x0z, x0, 0, x3))) (ret (x0z, x0, 0, x3))
def spec_l01New.l0 : Nat → Bool → (List Int) → Int → Int → Option (Bool × (List Int) × Int × Int)
  | 0, _, _, _, _ => none
  | k + 1, x0z, x0, x3, x4 => spec_l01New.l0b some (spec_l01New.l0 k) k x0z x0 x3 x4
def spec_l01New.f : Nat → Bool → (List Int) → Option (Bool × (List Int) × Int × Int)
  | 0, _, _ => none
  | k + 1, a0z, a0 => spec_l01New.b some (spec_l01New.l0 k) k a0z a0
def spec_l01New.enc (r : Bool × (List Int) × Int × Int) : Res := ⟨[.box [((.nums 5 .u8 r.1 r.2.1), false), ((.int .i64 r.2.2.1), true), ((.int .i64 r.2.2.2), true)]], []⟩
def spec_l01New.ans (k : Nat) : List Arg → Ans
  | [.v (.nums 5 .u8 a0z a0)] => ⟨spec_l01New.f k a0z a0, spec_l01New.enc⟩
  | _ => Ans.no
def spec_l01New.Cs (k : Nat) : CallSem := tab []
def spec_l01New.cuts : List (Nat × Keep) := [(58, ⟨[(0, some []), (3, some []), (4, some [])], []⟩)]
noncomputable def spec_l01New.K0 : List Fr := framesAt [true, true, false, true, false] (bodyOf Try.f74 spec_l01New.cuts) []
def spec_l01New.N0 (x0z : Bool) (x0 : List Int) (x3 : Int) (x4 : Int) : St := stOf 32 32 1 [(0, .val ⟨(.nums 5 .u8 x0z x0), [], false, none⟩), (3, .val (V.s (.int .i64 x3))), (4, .val (V.s (.int .i64 x4)))] []
theorem spec_l01New.s (k : Nat) (a0z : Bool) (a0 : List Int) : answer Try.prog spec_l01New.Cs 100000 spec_l01New.cuts [false, true, true] Try.f74 (k + 1) [.v (.nums 5 .u8 a0z a0)] = spec_l01New.b (fun r => some (spec_l01New.enc r)) (fun x0z x0 x3 x4 => rounds Try.prog spec_l01New.Cs (finish Try.prog [false, true, true] Try.f74 [.v (.nums 5 .u8 a0z a0)]) 100000 k spec_l01New.K0 (spec_l01New.N0 x0z x0 x3 x4)) k a0z a0 := by kernel_rfl
theorem spec_l01New.s0 (k : Nat) (G : List Fr → St → Option Res) (a0z : Bool) (a0 : List Int) (yx0z : Bool) (yx0 : List Int) (yx3 : Int) (yx4 : Int) : resume Try.prog (spec_l01New.Cs k) G (finish Try.prog [false, true, true] Try.f74 [.v (.nums 5 .u8 a0z a0)]) 100000 spec_l01New.K0 (spec_l01New.N0 yx0z yx0 yx3 yx4) = spec_l01New.l0b (fun r => some (spec_l01New.enc r)) (fun x0z x0 x3 x4 => G spec_l01New.K0 (spec_l01New.N0 x0z x0 x3 x4)) k yx0z yx0 yx3 yx4 := by kernel_rfl
theorem spec_l01New.b_nat {R R' : Type} (e : R → R') (ret : Bool × (List Int) × Int × Int → Option R) (j0 : Bool → (List Int) → Int → Int → Option R) (k : Nat) (a0z : Bool) (a0 : List Int) : spec_l01New.b (fun r => (ret r).map e) (fun x0z x0 x3 x4 => (j0 x0z x0 x3 x4).map e) k a0z a0 = (spec_l01New.b ret j0 k a0z a0).map e := by
  unfold spec_l01New.b
  repeat' first | with_reducible refine nat_cond ?_ ?_ | with_reducible refine nat_bind fun _ => ?_ | rfl
theorem spec_l01New.l0b_nat {R R' : Type} (e : R → R') (ret : Bool × (List Int) × Int × Int → Option R) (j0 : Bool → (List Int) → Int → Int → Option R) (k : Nat) (x0z : Bool) (x0 : List Int) (x3 : Int) (x4 : Int) : spec_l01New.l0b (fun r => (ret r).map e) (fun x0z x0 x3 x4 => (j0 x0z x0 x3 x4).map e) k x0z x0 x3 x4 = (spec_l01New.l0b ret j0 k x0z x0 x3 x4).map e := by
  unfold spec_l01New.l0b
  repeat' first | with_reducible refine nat_cond ?_ ?_ | with_reducible refine nat_bind fun _ => ?_ | rfl
theorem spec_l01New.rounds_eq (a0z : Bool) (a0 : List Int) : ∀ k, (∀ (x0z : Bool) (x0 : List Int) (x3 : Int) (x4 : Int), rounds Try.prog spec_l01New.Cs (finish Try.prog [false, true, true] Try.f74 [.v (.nums 5 .u8 a0z a0)]) 100000 k spec_l01New.K0 (spec_l01New.N0 x0z x0 x3 x4) = (spec_l01New.l0 k x0z x0 x3 x4).map spec_l01New.enc)
  | 0 => fun _ _ _ _ => rfl
  | k + 1 => by
    have ih := spec_l01New.rounds_eq a0z a0 k
    refine fun _ _ _ _ => ?_
    · refine (spec_l01New.s0 k _ a0z a0 _ _ _ _).trans (Eq.trans ?_ (spec_l01New.l0b_nat spec_l01New.enc some (spec_l01New.l0 k) k _ _ _ _))
      simp only [ih, Option.map_some]
theorem spec_l01New.eq (k : Nat) (a0z : Bool) (a0 : List Int) : answer Try.prog spec_l01New.Cs 100000 spec_l01New.cuts [false, true, true] Try.f74 (k + 1) [.v (.nums 5 .u8 a0z a0)] = (spec_l01New.f (k + 1) a0z a0).map spec_l01New.enc := by
  have ih := spec_l01New.rounds_eq a0z a0 k
  refine (spec_l01New.s k a0z a0).trans (Eq.trans ?_ (spec_l01New.b_nat spec_l01New.enc some (spec_l01New.l0 k) k a0z a0))
  simp only [ih, Option.map_some]
theorem spec_l01New.sound (k : Nat) : SoundF Try.prog 74 (fun a => (spec_l01New.ans k a).val) := by
  refine sound_plain (fun args res h => ?_) (fun t n => rfl)
  unfold spec_l01New.ans at h
  dsimp only at h
  split at h
  · cases k with
    | zero => cases h
    | succ k =>
      unfold Ans.val at h
      rw [← spec_l01New.eq] at h
      exact answer_sound mixed Try.func74 _ _ _ (k + 1) (fun j _ => tab_sound (tab_nil)) _ _ h
  · exact (Ans.no_val h).elim

/-! loop.example/g00790/spec.l01Byte -/
def spec_l01Byte.b {R : Type} (ret : Int × Bool × (List Int) × Int × Int → Option R) (k : Nat) (a0_0z : Bool) (a0_0 : List Int) (a0_1 : Int) (a0_2 : Int) : Option R :=
  cond (decide (a0_1 < ((a0_0).length : Int))) (cond (decide ((0 : Int) ≤ a0_1)) (cond (decide (a0_1 < ((a0_0).length : Int))) (ret ((Go.bits .and .i64 (RowKit.wrap64 ((Go.bits .and .i64 (Go.bits .xor .i64 (shrI .i64 (RowKit.wrap64 ((RowKit.wrap64 (a0_2 * 6364136223846793005)) + 1442695040888963407)) 33) (shrI .i64 (RowKit.wrap64 ((RowKit.wrap64 (a0_2 * 6364136223846793005)) + 1442695040888963407)) 45)) 255) + (RowKit.wrap64 ((rdI a0_0 a0_1))))) 255), a0_0z, a0_0, (RowKit.wrap64 (a0_1 + 1)), (RowKit.wrap64 ((RowKit.wrap64 (a0_2 * 6364136223846793005)) + 1442695040888963407)))) (none)) (none)) (ret ((Go.bits .and .i64 (Go.bits .xor .i64 (shrI .i64 (RowKit.wrap64 ((RowKit.wrap64 (a0_2 * 6364136223846793005)) + 1442695040888963407)) 33) (shrI .i64 (RowKit.wrap64 ((RowKit.wrap64 (a0_2 * 6364136223846793005)) + 1442695040888963407)) 45)) 255), a0_0z, a0_0, a0_1, (RowKit.wrap64 ((RowKit.wrap64 (a0_2 * 6364136223846793005)) + 1442695040888963407))))
def spec_l01Byte.f : Nat → Bool → (List Int) → Int → Int → Option (Int × Bool × (List Int) × Int × Int)
  | 0, _, _, _, _ => none
  | k + 1, a0_0z, a0_0, a0_1, a0_2 => spec_l01Byte.b some k a0_0z a0_0 a0_1 a0_2
def spec_l01Byte.enc (r : Int × Bool × (List Int) × Int × Int) : Res := ⟨[.vals false [((.int .i64 r.1), true)]], [[((.nums 5 .u8 r.2.1 r.2.2.1), false), ((.int .i64 r.2.2.2.1), true), ((.int .i64 r.2.2.2.2), true)]]⟩
def spec_l01Byte.ans (k : Nat) : List Arg → Ans
  | [.box [((.nums 5 .u8 a0_0z a0_0), false), ((.int .i64 a0_1), false), ((.int .i64 a0_2), false)]] => ⟨spec_l01Byte.f k a0_0z a0_0 a0_1 a0_2, spec_l01Byte.enc⟩
  | _ => Ans.no
def spec_l01Byte.Cs (k : Nat) : CallSem := tab []
def spec_l01Byte.cuts : List (Nat × Keep) := []
theorem spec_l01Byte.s (k : Nat) (a0_0z : Bool) (a0_0 : List Int) (a0_1 : Int) (a0_2 : Int) : answer Try.prog spec_l01Byte.Cs 100000 spec_l01Byte.cuts [true, false, true, true] Try.f147 (k + 1) [.box [((.nums 5 .u8 a0_0z a0_0), false), ((.int .i64 a0_1), false), ((.int .i64 a0_2), false)]] = spec_l01Byte.b (fun r => some (spec_l01Byte.enc r)) k a0_0z a0_0 a0_1 a0_2 := by kernel_rfl
theorem spec_l01Byte.b_nat {R R' : Type} (e : R → R') (ret : Int × Bool × (List Int) × Int × Int → Option R) (k : Nat) (a0_0z : Bool) (a0_0 : List Int) (a0_1 : Int) (a0_2 : Int) : spec_l01Byte.b (fun r => (ret r).map e) k a0_0z a0_0 a0_1 a0_2 = (spec_l01Byte.b ret k a0_0z a0_0 a0_1 a0_2).map e := by
  unfold spec_l01Byte.b
  repeat' first | with_reducible refine nat_cond ?_ ?_ | with_reducible refine nat_bind fun _ => ?_ | rfl
theorem spec_l01Byte.eq (k : Nat) (a0_0z : Bool) (a0_0 : List Int) (a0_1 : Int) (a0_2 : Int) : answer Try.prog spec_l01Byte.Cs 100000 spec_l01Byte.cuts [true, false, true, true] Try.f147 (k + 1) [.box [((.nums 5 .u8 a0_0z a0_0), false), ((.int .i64 a0_1), false), ((.int .i64 a0_2), false)]] = (spec_l01Byte.f (k + 1) a0_0z a0_0 a0_1 a0_2).map spec_l01Byte.enc := by
  refine (spec_l01Byte.s k a0_0z a0_0 a0_1 a0_2).trans (Eq.trans ?_ (spec_l01Byte.b_nat spec_l01Byte.enc some k a0_0z a0_0 a0_1 a0_2))
  simp only [Option.map_some]
theorem spec_l01Byte.sound (k : Nat) : SoundF Try.prog 147 (fun a => (spec_l01Byte.ans k a).val) := by
  refine sound_plain (fun args res h => ?_) (fun t n => rfl)
  unfold spec_l01Byte.ans at h
  dsimp only at h
  split at h
  · cases k with
    | zero => cases h
    | succ k =>
      unfold Ans.val at h
      rw [← spec_l01Byte.eq] at h
      exact answer_sound mixed Try.func147 _ _ _ (k + 1) (fun j _ => tab_sound (tab_nil)) _ _ h
  · exact (Ans.no_val h).elim

/-! loop.example/g00790/spec.l01Below -/
def spec_l01Below.b {R : Type} (ret : Int × Bool × (List Int) × Int × Int → Option R) (k : Nat) (a0_0z : Bool) (a0_0 : List Int) (a0_1 : Int) (a0_2 : Int) (a1 : Int) : Option R :=
  cond (decide (a1 ≤ 0)) (ret (0, a0_0z, a0_0, a0_1, a0_2)) (cond (decide (a1 ≤ 256)) ((spec_l01Byte.f k a0_0z a0_0 a0_1 a0_2).bind fun t0 => cond (!(decide (a1 = 0))) (ret ((Int.tmod t0.1 a1), t0.2.1, t0.2.2.1, t0.2.2.2.1, t0.2.2.2.2)) (none)) ((spec_l01Byte.f k a0_0z a0_0 a0_1 a0_2).bind fun t0 => (spec_l01Byte.f k t0.2.1 t0.2.2.1 t0.2.2.2.1 t0.2.2.2.2).bind fun t1 => (spec_l01Byte.f k t1.2.1 t1.2.2.1 t1.2.2.2.1 t1.2.2.2.2).bind fun t2 => (spec_l01Byte.f k t2.2.1 t2.2.2.1 t2.2.2.2.1 t2.2.2.2.2).bind fun t3 => cond (!(decide (a1 = 0))) (ret ((Int.tmod (RowKit.wrap64 ((RowKit.wrap64 ((RowKit.wrap64 ((RowKit.wrap64 (t0.1 * 16777216)) + (RowKit.wrap64 (t1.1 * 65536)))) + (RowKit.wrap64 (t2.1 * 256)))) + t3.1)) a1), t3.2.1, t3.2.2.1, t3.2.2.2.1, t3.2.2.2.2)) (none)))
def spec_l01Below.f : Nat → Bool → (List Int) → Int → Int → Int → Option (Int × Bool × (List Int) × Int × Int)
  | 0, _, _, _, _, _ => none
  | k + 1, a0_0z, a0_0, a0_1, a0_2, a1 => spec_l01Below.b some k a0_0z a0_0 a0_1 a0_2 a1
def spec_l01Below.enc (r : Int × Bool × (List Int) × Int × Int) : Res := ⟨[.vals false [((.int .i64 r.1), true)]], [[((.nums 5 .u8 r.2.1 r.2.2.1), false), ((.int .i64 r.2.2.2.1), true), ((.int .i64 r.2.2.2.2), true)]]⟩
def spec_l01Below.ans (k : Nat) : List Arg → Ans
  | [.box [((.nums 5 .u8 a0_0z a0_0), false), ((.int .i64 a0_1), false), ((.int .i64 a0_2), false)], .v (.int .i64 a1)] => ⟨spec_l01Below.f k a0_0z a0_0 a0_1 a0_2 a1, spec_l01Below.enc⟩
  | _ => Ans.no
def spec_l01Below.Cs (k : Nat) : CallSem := tab [(147, spec_l01Byte.ans k)]
def spec_l01Below.cuts : List (Nat × Keep) := []
theorem spec_l01Below.s (k : Nat) (a0_0z : Bool) (a0_0 : List Int) (a0_1 : Int) (a0_2 : Int) (a1 : Int) : answer Try.prog spec_l01Below.Cs 100000 spec_l01Below.cuts [true, false, true, true] Try.f76 (k + 1) [.box [((.nums 5 .u8 a0_0z a0_0), false), ((.int .i64 a0_1), false), ((.int .i64 a0_2), false)], .v (.int .i64 a1)] = spec_l01Below.b (fun r => some (spec_l01Below.enc r)) k a0_0z a0_0 a0_1 a0_2 a1 := by kernel_rfl
theorem spec_l01Below.b_nat {R R' : Type} (e : R → R') (ret : Int × Bool × (List Int) × Int × Int → Option R) (k : Nat) (a0_0z : Bool) (a0_0 : List Int) (a0_1 : Int) (a0_2 : Int) (a1 : Int) : spec_l01Below.b (fun r => (ret r).map e) k a0_0z a0_0 a0_1 a0_2 a1 = (spec_l01Below.b ret k a0_0z a0_0 a0_1 a0_2 a1).map e := by
  unfold spec_l01Below.b
  repeat' first | with_reducible refine nat_cond ?_ ?_ | with_reducible refine nat_bind fun _ => ?_ | rfl
theorem spec_l01Below.eq (k : Nat) (a0_0z : Bool) (a0_0 : List Int) (a0_1 : Int) (a0_2 : Int) (a1 : Int) : answer Try.prog spec_l01Below.Cs 100000 spec_l01Below.cuts [true, false, true, true] Try.f76 (k + 1) [.box [((.nums 5 .u8 a0_0z a0_0), false), ((.int .i64 a0_1), false), ((.int .i64 a0_2), false)], .v (.int .i64 a1)] = (spec_l01Below.f (k + 1) a0_0z a0_0 a0_1 a0_2 a1).map spec_l01Below.enc := by
  refine (spec_l01Below.s k a0_0z a0_0 a0_1 a0_2 a1).trans (Eq.trans ?_ (spec_l01Below.b_nat spec_l01Below.enc some k a0_0z a0_0 a0_1 a0_2 a1))
  simp only [Option.map_some]
theorem spec_l01Below.sound (k : Nat) : SoundF Try.prog 76 (fun a => (spec_l01Below.ans k a).val) := by
  refine sound_plain (fun args res h => ?_) (fun t n => rfl)
  unfold spec_l01Below.ans at h
  dsimp only at h
  split at h
  · cases k with
    | zero => cases h
    | succ k =>
      unfold Ans.val at h
      rw [← spec_l01Below.eq] at h
      exact answer_sound mixed Try.func76 _ _ _ (k + 1) (fun j _ => tab_sound (tab_cons (spec_l01Byte.sound j) (tab_nil))) _ _ h
  · exact (Ans.no_val h).elim

/-! loop.example/g00790/spec.l01Pick -/
def spec_l01Pick.b {R : Type} (ret : Int × Bool × (List Int) × Int × Int → Option R) (k : Nat) (a0_0z : Bool) (a0_0 : List Int) (a0_1 : Int) (a0_2 : Int) (a1z : Bool) (a1 : List Int) : Option R :=
  (spec_l01Below.f k a0_0z a0_0 a0_1 a0_2 ((a1).length : Int)).bind fun t0 => cond (decide ((0 : Int) ≤ t0.1)) (cond (decide (t0.1 < ((a1).length : Int))) (ret ((rdI a1 t0.1), t0.2.1, t0.2.2.1, t0.2.2.2.1, t0.2.2.2.2)) (none)) (none)
def spec_l01Pick.f : Nat → Bool → (List Int) → Int → Int → Bool → (List Int) → Option (Int × Bool × (List Int) × Int × Int)
  | 0, _, _, _, _, _, _ => none
  | k + 1, a0_0z, a0_0, a0_1, a0_2, a1z, a1 => spec_l01Pick.b some k a0_0z a0_0 a0_1 a0_2 a1z a1
def spec_l01Pick.enc (r : Int × Bool × (List Int) × Int × Int) : Res := ⟨[.vals false [((.int .i64 r.1), true)]], [[((.nums 5 .u8 r.2.1 r.2.2.1), false), ((.int .i64 r.2.2.2.1), true), ((.int .i64 r.2.2.2.2), true)]]⟩
def spec_l01Pick.ans (k : Nat) : List Arg → Ans
  | [.box [((.nums 5 .u8 a0_0z a0_0), false), ((.int .i64 a0_1), false), ((.int .i64 a0_2), false)], .v (.nums 3 .i64 a1z a1)] => ⟨spec_l01Pick.f k a0_0z a0_0 a0_1 a0_2 a1z a1, spec_l01Pick.enc⟩
  | _ => Ans.no
def spec_l01Pick.Cs (k : Nat) : CallSem := tab [(76, spec_l01Below.ans k)]
def spec_l01Pick.cuts : List (Nat × Keep) := []
theorem spec_l01Pick.s (k : Nat) (a0_0z : Bool) (a0_0 : List Int) (a0_1 : Int) (a0_2 : Int) (a1z : Bool) (a1 : List Int) : answer Try.prog spec_l01Pick.Cs 100000 spec_l01Pick.cuts [true, false, true, true] Try.f189 (k + 1) [.box [((.nums 5 .u8 a0_0z a0_0), false), ((.int .i64 a0_1), false), ((.int .i64 a0_2), false)], .v (.nums 3 .i64 a1z a1)] = spec_l01Pick.b (fun r => some (spec_l01Pick.enc r)) k a0_0z a0_0 a0_1 a0_2 a1z a1 := by kernel_rfl
theorem spec_l01Pick.b_nat {R R' : Type} (e : R → R') (ret : Int × Bool × (List Int) × Int × Int → Option R) (k : Nat) (a0_0z : Bool) (a0_0 : List Int) (a0_1 : Int) (a0_2 : Int) (a1z : Bool) (a1 : List Int) : spec_l01Pick.b (fun r => (ret r).map e) k a0_0z a0_0 a0_1 a0_2 a1z a1 = (spec_l01Pick.b ret k a0_0z a0_0 a0_1 a0_2 a1z a1).map e := by
  unfold spec_l01Pick.b
  repeat' first | with_reducible refine nat_cond ?_ ?_ | with_reducible refine nat_bind fun _ => ?_ | rfl
theorem spec_l01Pick.eq (k : Nat) (a0_0z : Bool) (a0_0 : List Int) (a0_1 : Int) (a0_2 : Int) (a1z : Bool) (a1 : List Int) : answer Try.prog spec_l01Pick.Cs 100000 spec_l01Pick.cuts [true, false, true, true] Try.f189 (k + 1) [.box [((.nums 5 .u8 a0_0z a0_0), false), ((.int .i64 a0_1), false), ((.int .i64 a0_2), false)], .v (.nums 3 .i64 a1z a1)] = (spec_l01Pick.f (k + 1) a0_0z a0_0 a0_1 a0_2 a1z a1).map spec_l01Pick.enc := by
  refine (spec_l01Pick.s k a0_0z a0_0 a0_1 a0_2 a1z a1).trans (Eq.trans ?_ (spec_l01Pick.b_nat spec_l01Pick.enc some k a0_0z a0_0 a0_1 a0_2 a1z a1))
  simp only [Option.map_some]
theorem spec_l01Pick.sound (k : Nat) : SoundF Try.prog 189 (fun a => (spec_l01Pick.ans k a).val) := by
  refine sound_plain (fun args res h => ?_) (fun t n => rfl)
  unfold spec_l01Pick.ans at h
  dsimp only at h
  split at h
  · cases k with
    | zero => cases h
    | succ k =>
      unfold Ans.val at h
      rw [← spec_l01Pick.eq] at h
      exact answer_sound mixed Try.func189 _ _ _ (k + 1) (fun j _ => tab_sound (tab_cons (spec_l01Below.sound j) (tab_nil))) _ _ h
  · exact (Ans.no_val h).elim

/-! loop.example/g00790/spec.l10Draw -/
def spec_l10Draw.b {R : Type} (ret : Int × Int × Int × Int × Int × Bool × (List Int) × Int × Int → Option R) (k : Nat) (a0_0z : Bool) (a0_0 : List Int) (a0_1 : Int) (a0_2 : Int) : Option R :=
  (spec_l01Pick.f k a0_0z a0_0 a0_1 a0_2 false ([1, 3, 4, 4, 7, 9, 10] : List Int)).bind fun t0 => (spec_l01Pick.f k t0.2.1 t0.2.2.1 t0.2.2.2.1 t0.2.2.2.2 false ([0, 4, 8, 40] : List Int)).bind fun t1 => (spec_l01Pick.f k t1.2.1 t1.2.2.1 t1.2.2.2.1 t1.2.2.2.2 false ([0, 3, 8] : List Int)).bind fun t2 => (spec_l01Pick.f k t2.2.1 t2.2.2.1 t2.2.2.2.1 t2.2.2.2.2 false ([4000, 4000, 300, 60] : List Int)).bind fun t3 => (spec_l01Below.f k t3.2.1 t3.2.2.1 t3.2.2.2.1 t3.2.2.2.2 3).bind fun t4 => ret (t0.1, t1.1, t2.1, t3.1, (RowKit.wrap64 ((3 : Int) + t4.1)), t4.2.1, t4.2.2.1, t4.2.2.2.1, t4.2.2.2.2)
def spec_l10Draw.f : Nat → Bool → (List Int) → Int → Int → Option (Int × Int × Int × Int × Int × Bool × (List Int) × Int × Int)
  | 0, _, _, _, _ => none
  | k + 1, a0_0z, a0_0, a0_1, a0_2 => spec_l10Draw.b some k a0_0z a0_0 a0_1 a0_2
def spec_l10Draw.enc (r : Int × Int × Int × Int × Int × Bool × (List Int) × Int × Int) : Res := ⟨[.vals true [((.int .i64 r.1), true), ((.int .i64 r.2.1), true), ((.int .i64 r.2.2.1), true), ((.int .i64 r.2.2.2.1), true), ((.int .i64 r.2.2.2.2.1), true)]], [[((.nums 5 .u8 r.2.2.2.2.2.1 r.2.2.2.2.2.2.1), false), ((.int .i64 r.2.2.2.2.2.2.2.1), true), ((.int .i64 r.2.2.2.2.2.2.2.2), true)]]⟩
def spec_l10Draw.ans (k : Nat) : List Arg → Ans
  | [.box [((.nums 5 .u8 a0_0z a0_0), false), ((.int .i64 a0_1), false), ((.int .i64 a0_2), false)]] => ⟨spec_l10Draw.f k a0_0z a0_0 a0_1 a0_2, spec_l10Draw.enc⟩
  | _ => Ans.no
def spec_l10Draw.Cs (k : Nat) : CallSem := tab [(189, spec_l01Pick.ans k), (76, spec_l01Below.ans k)]
def spec_l10Draw.cuts : List (Nat × Keep) := []
theorem spec_l10Draw.s (k : Nat) (a0_0z : Bool) (a0_0 : List Int) (a0_1 : Int) (a0_2 : Int) : answer Try.prog spec_l10Draw.Cs 100000 spec_l10Draw.cuts [true, true, true, true, true, false, true, true] Try.f145 (k + 1) [.box [((.nums 5 .u8 a0_0z a0_0), false), ((.int .i64 a0_1), false), ((.int .i64 a0_2), false)]] = spec_l10Draw.b (fun r => some (spec_l10Draw.enc r)) k a0_0z a0_0 a0_1 a0_2 := by kernel_rfl
theorem spec_l10Draw.b_nat {R R' : Type} (e : R → R') (ret : Int × Int × Int × Int × Int × Bool × (List Int) × Int × Int → Option R) (k : Nat) (a0_0z : Bool) (a0_0 : List Int) (a0_1 : Int) (a0_2 : Int) : spec_l10Draw.b (fun r => (ret r).map e) k a0_0z a0_0 a0_1 a0_2 = (spec_l10Draw.b ret k a0_0z a0_0 a0_1 a0_2).map e := by
  unfold spec_l10Draw.b
  repeat' first | with_reducible refine nat_cond ?_ ?_ | with_reducible refine nat_bind fun _ => ?_ | rfl
theorem spec_l10Draw.eq (k : Nat) (a0_0z : Bool) (a0_0 : List Int) (a0_1 : Int) (a0_2 : Int) : answer Try.prog spec_l10Draw.Cs 100000 spec_l10Draw.cuts [true, true, true, true, true, false, true, true] Try.f145 (k + 1) [.box [((.nums 5 .u8 a0_0z a0_0), false), ((.int .i64 a0_1), false), ((.int .i64 a0_2), false)]] = (spec_l10Draw.f (k + 1) a0_0z a0_0 a0_1 a0_2).map spec_l10Draw.enc := by
  refine (spec_l10Draw.s k a0_0z a0_0 a0_1 a0_2).trans (Eq.trans ?_ (spec_l10Draw.b_nat spec_l10Draw.enc some k a0_0z a0_0 a0_1 a0_2))
  simp only [Option.map_some]
theorem spec_l10Draw.sound (k : Nat) : SoundF Try.prog 145 (fun a => (spec_l10Draw.ans k a).val) := by
  refine sound_plain (fun args res h => ?_) (fun t n => rfl)
  unfold spec_l10Draw.ans at h
  dsimp only at h
  split at h
  · cases k with
    | zero => cases h
    | succ k =>
      unfold Ans.val at h
      rw [← spec_l10Draw.eq] at h
      exact answer_sound mixed Try.func145 _ _ _ (k + 1) (fun j _ => tab_sound (tab_cons (spec_l01Pick.sound j) (tab_cons (spec_l01Below.sound j) (tab_nil)))) _ _ h
  · exact (Ans.no_val h).elim

/-! loop.example/g00790/spec.l21Draw -/
def spec_l21Draw.b {R : Type} (ret : Bool × (List T) × Bool × (List Int) × Int × Int → Option R) (j0 : Int → Int → Bool → (List Int) → Int → Int → Bool → (List T) → Option R) (k : Nat) (a0_0z : Bool) (a0_0 : List Int) (a0_1 : Int) (a0_2 : Int) (a1 : Int) : Option R :=
  j0 a1 0 a0_0z a0_0 a0_1 a0_2 true ([] : List T)
def spec_l21Draw.l0b {R : Type} (ret : Bool × (List T) × Bool × (List Int) × Int × Int → Option R) (j0 : Int → Int → Bool → (List Int) → Int → Int → Bool → (List T) → Option R) (k : Nat) (x1 : Int) (x6 : Int) (c0_0z : Bool) (c0_0 : List Int) (c0_1 : Int) (c0_2 : Int) (c5_0z : Bool) (c5_0 : List T) : Option R :=
  cond (decide (x6 < x1)) ((spec_l01Below.f k c0_0z c0_0 c0_1 c0_2 9).bind fun t0 => (spec_l01Pick.f k t0.2.1 t0.2.2.1 t0.2.2.2.1 t0.2.2.2.2 false ([1, 1, 1, 2, 5, 1099511627776, (RowKit.wrap64 ((1 : Int) + t0.1))] : List Int)).bind fun t1 => (spec_l01Below.f k t1.2.1 t1.2.2.1 t1.2.2.2.1 t1.2.2.2.2 9).bind fun t2 => cond (decide ((c5_0).length + 1 < 4398046511104)) (j0 x1 (RowKit.wrap64 (x6 + 1)) t2.2.1 t2.2.2.1 t2.2.2.2.1 t2.2.2.2.2 false (c5_0 ++ ([(.agg [(.int .i64 t1.1), (.nums 5 .u8 false ([((x6) % 256), ((t2.1) % 256), 1] : List Int))])] : List T))) (none)) (ret (c5_0z, c5_0, c0_0z, c0_0, c0_1, c0_2))
def spec_l21Draw.l0 : Nat → Int → Int → Bool → (List Int) → Int → Int → Bool → (List T) → Option (Bool × (List T) × Bool × (List Int) × Int × Int)
  | 0, _, _, _, _, _, _, _, _ => none
  | k + 1, x1, x6, c0_0z, c0_0, c0_1, c0_2, c5_0z, c5_0 => spec_l21Draw.l0b some (spec_l21Draw.l0 k) k x1 x6 c0_0z c0_0 c0_1 c0_2 c5_0z c5_0
def spec_l21Draw.f : Nat → Bool → (List Int) → Int → Int → Int → Option (Bool × (List T) × Bool × (List Int) × Int × Int)
  | 0, _, _, _, _, _ => none
  | k + 1, a0_0z, a0_0, a0_1, a0_2, a1 => spec_l21Draw.b some (spec_l21Draw.l0 k) k a0_0z a0_0 a0_1 a0_2 a1
def spec_l21Draw.enc (r : Bool × (List T) × Bool × (List Int) × Int × Int) : Res := ⟨[.vals true [((.sl 44 r.1 r.2.1), true)]], [[((.nums 5 .u8 r.2.2.1 r.2.2.2.1), false), ((.int .i64 r.2.2.2.2.1), true), ((.int .i64 r.2.2.2.2.2), true)]]⟩
def spec_l21Draw.ans (k : Nat) : List Arg → Ans
  | [.box [((.nums 5 .u8 a0_0z a0_0), false), ((.int .i64 a0_1), false), ((.int .i64 a0_2), false)], .v (.int .i64 a1)] => ⟨spec_l21Draw.f k a0_0z a0_0 a0_1 a0_2 a1, spec_l21Draw.enc⟩
  | _ => Ans.no
def spec_l21Draw.Cs (k : Nat) : CallSem := tab [(189, spec_l01Pick.ans k), (76, spec_l01Below.ans k)]
def spec_l21Draw.cuts : List (Nat × Keep) := [(58, ⟨[(0, some []), (1, some []), (4, some []), (5, some []), (6, some [])], [(0, [some [], some [], some []]), (4, [none]), (5, [none])]⟩)]
noncomputable def spec_l21Draw.K0 : List Fr := framesAt [true, true, false, true, false] (bodyOf Try.f146 spec_l21Draw.cuts) []
def spec_l21Draw.N0 (x1 : Int) (x6 : Int) (c0_0z : Bool) (c0_0 : List Int) (c0_1 : Int) (c0_2 : Int) (c5_0z : Bool) (c5_0 : List T) : St := stOf 32 32 2 [(0, .bp 0 0), (1, .val (V.s (.int .i64 x1))), (4, .bp 4 0), (5, .bp 5 0), (6, .val (V.s (.int .i64 x6)))] [(0, .cells [⟨(.nums 5 .u8 c0_0z c0_0), [], false, none⟩, V.s (.int .i64 c0_1), V.s (.int .i64 c0_2)]), (4, .cells [⟨(.sl 44 true ([] : List T)), [.l 4 1], true, some (.l 4 1)⟩]), (5, .cells [⟨(.sl 44 c5_0z c5_0), [.l 5 1], true, some (.l 5 1)⟩])]
theorem spec_l21Draw.s (k : Nat) (a0_0z : Bool) (a0_0 : List Int) (a0_1 : Int) (a0_2 : Int) (a1 : Int) : answer Try.prog spec_l21Draw.Cs 100000 spec_l21Draw.cuts [true, false, true, true] Try.f146 (k + 1) [.box [((.nums 5 .u8 a0_0z a0_0), false), ((.int .i64 a0_1), false), ((.int .i64 a0_2), false)], .v (.int .i64 a1)] = spec_l21Draw.b (fun r => some (spec_l21Draw.enc r)) (fun x1 x6 c0_0z c0_0 c0_1 c0_2 c5_0z c5_0 => rounds Try.prog spec_l21Draw.Cs (finish Try.prog [true, false, true, true] Try.f146 [.box [((.nums 5 .u8 a0_0z a0_0), false), ((.int .i64 a0_1), false), ((.int .i64 a0_2), false)], .v (.int .i64 a1)]) 100000 k spec_l21Draw.K0 (spec_l21Draw.N0 x1 x6 c0_0z c0_0 c0_1 c0_2 c5_0z c5_0)) k a0_0z a0_0 a0_1 a0_2 a1 := by kernel_rfl
theorem spec_l21Draw.s0 (k : Nat) (G : List Fr → St → Option Res) (a0_0z : Bool) (a0_0 : List Int) (a0_1 : Int) (a0_2 : Int) (a1 : Int) (yx1 : Int) (yx6 : Int) (yc0_0z : Bool) (yc0_0 : List Int) (yc0_1 : Int) (yc0_2 : Int) (yc5_0z : Bool) (yc5_0 : List T) : resume Try.prog (spec_l21Draw.Cs k) G (finish Try.prog [true, false, true, true] Try.f146 [.box [((.nums 5 .u8 a0_0z a0_0), false), ((.int .i64 a0_1), false), ((.int .i64 a0_2), false)], .v (.int .i64 a1)]) 100000 spec_l21Draw.K0 (spec_l21Draw.N0 yx1 yx6 yc0_0z yc0_0 yc0_1 yc0_2 yc5_0z yc5_0) = spec_l21Draw.l0b (fun r => some (spec_l21Draw.enc r)) (fun x1 x6 c0_0z c0_0 c0_1 c0_2 c5_0z c5_0 => G spec_l21Draw.K0 (spec_l21Draw.N0 x1 x6 c0_0z c0_0 c0_1 c0_2 c5_0z c5_0)) k yx1 yx6 yc0_0z yc0_0 yc0_1 yc0_2 yc5_0z yc5_0 := by kernel_rfl
theorem spec_l21Draw.b_nat {R R' : Type} (e : R → R') (ret : Bool × (List T) × Bool × (List Int) × Int × Int → Option R) (j0 : Int → Int → Bool → (List Int) → Int → Int → Bool → (List T) → Option R) (k : Nat) (a0_0z : Bool) (a0_0 : List Int) (a0_1 : Int) (a0_2 : Int) (a1 : Int) : spec_l21Draw.b (fun r => (ret r).map e) (fun x1 x6 c0_0z c0_0 c0_1 c0_2 c5_0z c5_0 => (j0 x1 x6 c0_0z c0_0 c0_1 c0_2 c5_0z c5_0).map e) k a0_0z a0_0 a0_1 a0_2 a1 = (spec_l21Draw.b ret j0 k a0_0z a0_0 a0_1 a0_2 a1).map e := by
  unfold spec_l21Draw.b
  repeat' first | with_reducible refine nat_cond ?_ ?_ | with_reducible refine nat_bind fun _ => ?_ | rfl
theorem spec_l21Draw.l0b_nat {R R' : Type} (e : R → R') (ret : Bool × (List T) × Bool × (List Int) × Int × Int → Option R) (j0 : Int → Int → Bool → (List Int) → Int → Int → Bool → (List T) → Option R) (k : Nat) (x1 : Int) (x6 : Int) (c0_0z : Bool) (c0_0 : List Int) (c0_1 : Int) (c0_2 : Int) (c5_0z : Bool) (c5_0 : List T) : spec_l21Draw.l0b (fun r => (ret r).map e) (fun x1 x6 c0_0z c0_0 c0_1 c0_2 c5_0z c5_0 => (j0 x1 x6 c0_0z c0_0 c0_1 c0_2 c5_0z c5_0).map e) k x1 x6 c0_0z c0_0 c0_1 c0_2 c5_0z c5_0 = (spec_l21Draw.l0b ret j0 k x1 x6 c0_0z c0_0 c0_1 c0_2 c5_0z c5_0).map e := by
  unfold spec_l21Draw.l0b
  repeat' first | with_reducible refine nat_cond ?_ ?_ | with_reducible refine nat_bind fun _ => ?_ | rfl
theorem spec_l21Draw.rounds_eq (a0_0z : Bool) (a0_0 : List Int) (a0_1 : Int) (a0_2 : Int) (a1 : Int) : ∀ k, (∀ (x1 : Int) (x6 : Int) (c0_0z : Bool) (c0_0 : List Int) (c0_1 : Int) (c0_2 : Int) (c5_0z : Bool) (c5_0 : List T), rounds Try.prog spec_l21Draw.Cs (finish Try.prog [true, false, true, true] Try.f146 [.box [((.nums 5 .u8 a0_0z a0_0), false), ((.int .i64 a0_1), false), ((.int .i64 a0_2), false)], .v (.int .i64 a1)]) 100000 k spec_l21Draw.K0 (spec_l21Draw.N0 x1 x6 c0_0z c0_0 c0_1 c0_2 c5_0z c5_0) = (spec_l21Draw.l0 k x1 x6 c0_0z c0_0 c0_1 c0_2 c5_0z c5_0).map spec_l21Draw.enc)
  | 0 => fun _ _ _ _ _ _ _ _ => rfl
  | k + 1 => by
    have ih := spec_l21Draw.rounds_eq a0_0z a0_0 a0_1 a0_2 a1 k
    refine fun _ _ _ _ _ _ _ _ => ?_
    · refine (spec_l21Draw.s0 k _ a0_0z a0_0 a0_1 a0_2 a1 _ _ _ _ _ _ _ _).trans (Eq.trans ?_ (spec_l21Draw.l0b_nat spec_l21Draw.enc some (spec_l21Draw.l0 k) k _ _ _ _ _ _ _ _))
      simp only [ih, Option.map_some]
theorem spec_l21Draw.eq (k : Nat) (a0_0z : Bool) (a0_0 : List Int) (a0_1 : Int) (a0_2 : Int) (a1 : Int) : answer Try.prog spec_l21Draw.Cs 100000 spec_l21Draw.cuts [true, false, true, true] Try.f146 (k + 1) [.box [((.nums 5 .u8 a0_0z a0_0), false), ((.int .i64 a0_1), false), ((.int .i64 a0_2), false)], .v (.int .i64 a1)] = (spec_l21Draw.f (k + 1) a0_0z a0_0 a0_1 a0_2 a1).map spec_l21Draw.enc := by
  have ih := spec_l21Draw.rounds_eq a0_0z a0_0 a0_1 a0_2 a1 k
  refine (spec_l21Draw.s k a0_0z a0_0 a0_1 a0_2 a1).trans (Eq.trans ?_ (spec_l21Draw.b_nat spec_l21Draw.enc some (spec_l21Draw.l0 k) k a0_0z a0_0 a0_1 a0_2 a1))
  simp only [ih, Option.map_some]
theorem spec_l21Draw.sound (k : Nat) : SoundF Try.prog 146 (fun a => (spec_l21Draw.ans k a).val) := by
  refine sound_plain (fun args res h => ?_) (fun t n => rfl)
  unfold spec_l21Draw.ans at h
  dsimp only at h
  split at h
  · cases k with
    | zero => cases h
    | succ k =>
      unfold Ans.val at h
      rw [← spec_l21Draw.eq] at h
      exact answer_sound mixed Try.func146 _ _ _ (k + 1) (fun j _ => tab_sound (tab_cons (spec_l01Pick.sound j) (tab_cons (spec_l01Below.sound j) (tab_nil)))) _ _ h
  · exact (Ans.no_val h).elim

/-! loop.example/g00790/spec.l23Pair -/
def spec_l23Pair.b {R : Type} (ret : Int × Int × Int × Int × Int × Bool × (List T) × Bool × (List Int) × Int × Int → Option R) (k : Nat) (a0_0z : Bool) (a0_0 : List Int) (a0_1 : Int) (a0_2 : Int) : Option R :=
  (spec_l10Draw.f k a0_0z a0_0 a0_1 a0_2).bind fun t0 => (spec_l01Below.f k t0.2.2.2.2.2.1 t0.2.2.2.2.2.2.1 t0.2.2.2.2.2.2.2.1 t0.2.2.2.2.2.2.2.2 5).bind fun t1 => (spec_l21Draw.f k t1.2.1 t1.2.2.1 t1.2.2.2.1 t1.2.2.2.2 (RowKit.wrap64 ((1 : Int) + t1.1))).bind fun t2 => ret ((RowKit.wrap64 ((1 : Int) + t1.1)), t0.2.1, t0.2.2.1, 4000, t0.2.2.2.2.1, t2.1, t2.2.1, t2.2.2.1, t2.2.2.2.1, t2.2.2.2.2.1, t2.2.2.2.2.2)
def spec_l23Pair.f : Nat → Bool → (List Int) → Int → Int → Option (Int × Int × Int × Int × Int × Bool × (List T) × Bool × (List Int) × Int × Int)
  | 0, _, _, _, _ => none
  | k + 1, a0_0z, a0_0, a0_1, a0_2 => spec_l23Pair.b some k a0_0z a0_0 a0_1 a0_2
def spec_l23Pair.enc (r : Int × Int × Int × Int × Int × Bool × (List T) × Bool × (List Int) × Int × Int) : Res := ⟨[.vals true [((.int .i64 r.1), true), ((.int .i64 r.2.1), true), ((.int .i64 r.2.2.1), true), ((.int .i64 r.2.2.2.1), true), ((.int .i64 r.2.2.2.2.1), true)], .vals true [((.sl 44 r.2.2.2.2.2.1 r.2.2.2.2.2.2.1), true)]], [[((.nums 5 .u8 r.2.2.2.2.2.2.2.1 r.2.2.2.2.2.2.2.2.1), false), ((.int .i64 r.2.2.2.2.2.2.2.2.2.1), true), ((.int .i64 r.2.2.2.2.2.2.2.2.2.2), true)]]⟩
def spec_l23Pair.ans (k : Nat) : List Arg → Ans
  | [.box [((.nums 5 .u8 a0_0z a0_0), false), ((.int .i64 a0_1), false), ((.int .i64 a0_2), false)]] => ⟨spec_l23Pair.f k a0_0z a0_0 a0_1 a0_2, spec_l23Pair.enc⟩
  | _ => Ans.no
def spec_l23Pair.Cs (k : Nat) : CallSem := tab [(145, spec_l10Draw.ans k), (76, spec_l01Below.ans k), (146, spec_l21Draw.ans k)]
def spec_l23Pair.cuts : List (Nat × Keep) := []
theorem spec_l23Pair.s (k : Nat) (a0_0z : Bool) (a0_0 : List Int) (a0_1 : Int) (a0_2 : Int) : answer Try.prog spec_l23Pair.Cs 100000 spec_l23Pair.cuts [true, true, true, true, true, true, false, true, true] Try.f75 (k + 1) [.box [((.nums 5 .u8 a0_0z a0_0), false), ((.int .i64 a0_1), false), ((.int .i64 a0_2), false)]] = spec_l23Pair.b (fun r => some (spec_l23Pair.enc r)) k a0_0z a0_0 a0_1 a0_2 := by kernel_rfl
theorem spec_l23Pair.b_nat {R R' : Type} (e : R → R') (ret : Int × Int × Int × Int × Int × Bool × (List T) × Bool × (List Int) × Int × Int → Option R) (k : Nat) (a0_0z : Bool) (a0_0 : List Int) (a0_1 : Int) (a0_2 : Int) : spec_l23Pair.b (fun r => (ret r).map e) k a0_0z a0_0 a0_1 a0_2 = (spec_l23Pair.b ret k a0_0z a0_0 a0_1 a0_2).map e := by
  unfold spec_l23Pair.b
  repeat' first | with_reducible refine nat_cond ?_ ?_ | with_reducible refine nat_bind fun _ => ?_ | rfl
theorem spec_l23Pair.eq (k : Nat) (a0_0z : Bool) (a0_0 : List Int) (a0_1 : Int) (a0_2 : Int) : answer Try.prog spec_l23Pair.Cs 100000 spec_l23Pair.cuts [true, true, true, true, true, true, false, true, true] Try.f75 (k + 1) [.box [((.nums 5 .u8 a0_0z a0_0), false), ((.int .i64 a0_1), false), ((.int .i64 a0_2), false)]] = (spec_l23Pair.f (k + 1) a0_0z a0_0 a0_1 a0_2).map spec_l23Pair.enc := by
  refine (spec_l23Pair.s k a0_0z a0_0 a0_1 a0_2).trans (Eq.trans ?_ (spec_l23Pair.b_nat spec_l23Pair.enc some k a0_0z a0_0 a0_1 a0_2))
  simp only [Option.map_some]
theorem spec_l23Pair.sound (k : Nat) : SoundF Try.prog 75 (fun a => (spec_l23Pair.ans k a).val) := by
  refine sound_plain (fun args res h => ?_) (fun t n => rfl)
  unfold spec_l23Pair.ans at h
  dsimp only at h
  split at h
  · cases k with
    | zero => cases h
    | succ k =>
      unfold Ans.val at h
      rw [← spec_l23Pair.eq] at h
      exact answer_sound mixed Try.func75 _ _ _ (k + 1) (fun j _ => tab_sound (tab_cons (spec_l10Draw.sound j) (tab_cons (spec_l01Below.sound j) (tab_cons (spec_l21Draw.sound j) (tab_nil))))) _ _ h
  · exact (Ans.no_val h).elim

/-! loop.example/g00790/spec.MakeTable -/
def spec_MakeTable.b {R : Type} (ret : Int × Int × Int × Int × Int × Bool × List T → Option R) (k : Nat) (a0z : Bool) (a0 : List Int) : Option R :=
  (spec_l01New.f k a0z a0).bind fun t0 => (spec_l23Pair.f k t0.1 t0.2.1 t0.2.2.1 t0.2.2.2).bind fun t1 => ret (t1.1, t1.2.1, t1.2.2.1, t1.2.2.2.1, t1.2.2.2.2.1, t1.2.2.2.2.2.1, t1.2.2.2.2.2.2.1)
def spec_MakeTable.f : Nat → Bool → (List Int) → Option (Int × Int × Int × Int × Int × Bool × List T)
  | 0, _, _ => none
  | k + 1, a0z, a0 => spec_MakeTable.b some k a0z a0
def spec_MakeTable.enc (r : Int × Int × Int × Int × Int × Bool × List T) : Res := ⟨[.vals true [((.int .i64 r.1), true), ((.int .i64 r.2.1), true), ((.int .i64 r.2.2.1), true), ((.int .i64 r.2.2.2.1), true), ((.int .i64 r.2.2.2.2.1), true)], .vals true [((.sl 44 r.2.2.2.2.2.1 r.2.2.2.2.2.2), true)]], []⟩
def spec_MakeTable.ans (k : Nat) : List Arg → Ans
  | [.v (.nums 5 .u8 a0z a0)] => ⟨spec_MakeTable.f k a0z a0, spec_MakeTable.enc⟩
  | _ => Ans.no
def spec_MakeTable.Cs (k : Nat) : CallSem := tab [(74, spec_l01New.ans k), (75, spec_l23Pair.ans k)]
def spec_MakeTable.cuts : List (Nat × Keep) := []
theorem spec_MakeTable.s (k : Nat) (a0z : Bool) (a0 : List Int) : answer Try.prog spec_MakeTable.Cs 100000 spec_MakeTable.cuts [] Try.f12 (k + 1) [.v (.nums 5 .u8 a0z a0)] = spec_MakeTable.b (fun r => some (spec_MakeTable.enc r)) k a0z a0 := by kernel_rfl
theorem spec_MakeTable.b_nat {R R' : Type} (e : R → R') (ret : Int × Int × Int × Int × Int × Bool × List T → Option R) (k : Nat) (a0z : Bool) (a0 : List Int) : spec_MakeTable.b (fun r => (ret r).map e) k a0z a0 = (spec_MakeTable.b ret k a0z a0).map e := by
  unfold spec_MakeTable.b
  repeat' first | with_reducible refine nat_cond ?_ ?_ | with_reducible refine nat_bind fun _ => ?_ | rfl
theorem spec_MakeTable.eq (k : Nat) (a0z : Bool) (a0 : List Int) : answer Try.prog spec_MakeTable.Cs 100000 spec_MakeTable.cuts [] Try.f12 (k + 1) [.v (.nums 5 .u8 a0z a0)] = (spec_MakeTable.f (k + 1) a0z a0).map spec_MakeTable.enc := by
  refine (spec_MakeTable.s k a0z a0).trans (Eq.trans ?_ (spec_MakeTable.b_nat spec_MakeTable.enc some k a0z a0))
  simp only [Option.map_some]
theorem spec_MakeTable.sound (k : Nat) : SoundF Try.prog 12 (fun a => (spec_MakeTable.ans k a).val) := by
  refine sound_plain (fun args res h => ?_) (fun t n => rfl)
  unfold spec_MakeTable.ans at h
  dsimp only at h
  split at h
  · cases k with
    | zero => cases h
    | succ k =>
      unfold Ans.val at h
      rw [← spec_MakeTable.eq] at h
      exact answer_sound mixed Try.func12 _ _ _ (k + 1) (fun j _ => tab_sound (tab_cons (spec_l01New.sound j) (tab_cons (spec_l23Pair.sound j) (tab_nil)))) _ _ h
  · exact (Ans.no_val h).elim

/-! loop.example/g00790/spec.MakeNum -/
def spec_MakeNum.b {R : Type} (ret : Int → Option R) (k : Nat) (a0z : Bool) (a0 : List Int) (a1 : Int) : Option R :=
  (spec_l01New.f k a0z a0).bind fun t0 => (spec_l01Below.f k t0.1 t0.2.1 t0.2.2.1 (RowKit.wrap64 (t0.2.2.2 + 777)) a1).bind fun t1 => ret t1.1
def spec_MakeNum.f : Nat → Bool → (List Int) → Int → Option Int
  | 0, _, _, _ => none
  | k + 1, a0z, a0, a1 => spec_MakeNum.b some k a0z a0 a1
def spec_MakeNum.enc (r : Int) : Res := ⟨[.vals false [((.int .i64 r), true)]], []⟩
def spec_MakeNum.ans (k : Nat) : List Arg → Ans
  | [.v (.nums 5 .u8 a0z a0), .v (.int .i64 a1)] => ⟨spec_MakeNum.f k a0z a0 a1, spec_MakeNum.enc⟩
  | _ => Ans.no
def spec_MakeNum.Cs (k : Nat) : CallSem := tab [(74, spec_l01New.ans k), (76, spec_l01Below.ans k)]
def spec_MakeNum.cuts : List (Nat × Keep) := []
theorem spec_MakeNum.s (k : Nat) (a0z : Bool) (a0 : List Int) (a1 : Int) : answer Try.prog spec_MakeNum.Cs 100000 spec_MakeNum.cuts [] Try.f13 (k + 1) [.v (.nums 5 .u8 a0z a0), .v (.int .i64 a1)] = spec_MakeNum.b (fun r => some (spec_MakeNum.enc r)) k a0z a0 a1 := by kernel_rfl
theorem spec_MakeNum.b_nat {R R' : Type} (e : R → R') (ret : Int → Option R) (k : Nat) (a0z : Bool) (a0 : List Int) (a1 : Int) : spec_MakeNum.b (fun r => (ret r).map e) k a0z a0 a1 = (spec_MakeNum.b ret k a0z a0 a1).map e := by
  unfold spec_MakeNum.b
  repeat' first | with_reducible refine nat_cond ?_ ?_ | with_reducible refine nat_bind fun _ => ?_ | rfl
theorem spec_MakeNum.eq (k : Nat) (a0z : Bool) (a0 : List Int) (a1 : Int) : answer Try.prog spec_MakeNum.Cs 100000 spec_MakeNum.cuts [] Try.f13 (k + 1) [.v (.nums 5 .u8 a0z a0), .v (.int .i64 a1)] = (spec_MakeNum.f (k + 1) a0z a0 a1).map spec_MakeNum.enc := by
  refine (spec_MakeNum.s k a0z a0 a1).trans (Eq.trans ?_ (spec_MakeNum.b_nat spec_MakeNum.enc some k a0z a0 a1))
  simp only [Option.map_some]
theorem spec_MakeNum.sound (k : Nat) : SoundF Try.prog 13 (fun a => (spec_MakeNum.ans k a).val) := by
  refine sound_plain (fun args res h => ?_) (fun t n => rfl)
  unfold spec_MakeNum.ans at h
  dsimp only at h
  split at h
  · cases k with
    | zero => cases h
    | succ k =>
      unfold Ans.val at h
      rw [← spec_MakeNum.eq] at h
      exact answer_sound mixed Try.func13 _ _ _ (k + 1) (fun j _ => tab_sound (tab_cons (spec_l01New.sound j) (tab_cons (spec_l01Below.sound j) (tab_nil)))) _ _ h
  · exact (Ans.no_val h).elim

/-! loop.example/g00790/spec.l11Hash -/
def spec_l11Hash.b {R : Type} (ret : Bool × (List Int) × Bool × (List Int) × Int × Int → Option R) (k : Nat) (a0_0z : Bool) (a0_0 : List Int) (a0_1 : Int) (a0_2 : Int) : Option R :=
  (spec_l01Below.f k a0_0z a0_0 a0_1 a0_2 3).bind fun t0 => cond (decide ((0 : Int) < (((List.replicate 32 (0 : Int))).length : Int))) ((spec_l01Byte.f k t0.2.1 t0.2.2.1 t0.2.2.2.1 t0.2.2.2.2).bind fun t1 => cond (decide ((31 : Int) < (((((List.replicate 32 (0 : Int))).set 0 ((t0.1) % 256))).length : Int))) (ret (false, (((((List.replicate 32 (0 : Int))).set 0 ((t0.1) % 256))).set 31 ((t1.1) % 256)), t1.2.1, t1.2.2.1, t1.2.2.2.1, t1.2.2.2.2)) (none)) (none)
def spec_l11Hash.f : Nat → Bool → (List Int) → Int → Int → Option (Bool × (List Int) × Bool × (List Int) × Int × Int)
  | 0, _, _, _, _ => none
  | k + 1, a0_0z, a0_0, a0_1, a0_2 => spec_l11Hash.b some k a0_0z a0_0 a0_1 a0_2
def spec_l11Hash.enc (r : Bool × (List Int) × Bool × (List Int) × Int × Int) : Res := ⟨[.vals false [((.nums 5 .u8 r.1 r.2.1), true)]], [[((.nums 5 .u8 r.2.2.1 r.2.2.2.1), false), ((.int .i64 r.2.2.2.2.1), true), ((.int .i64 r.2.2.2.2.2), true)]]⟩
def spec_l11Hash.ans (k : Nat) : List Arg → Ans
  | [.box [((.nums 5 .u8 a0_0z a0_0), false), ((.int .i64 a0_1), false), ((.int .i64 a0_2), false)]] => ⟨spec_l11Hash.f k a0_0z a0_0 a0_1 a0_2, spec_l11Hash.enc⟩
  | _ => Ans.no
def spec_l11Hash.Cs (k : Nat) : CallSem := tab [(76, spec_l01Below.ans k), (147, spec_l01Byte.ans k)]
def spec_l11Hash.cuts : List (Nat × Keep) := []
theorem spec_l11Hash.s (k : Nat) (a0_0z : Bool) (a0_0 : List Int) (a0_1 : Int) (a0_2 : Int) : answer Try.prog spec_l11Hash.Cs 100000 spec_l11Hash.cuts [true, false, true, true] Try.f77 (k + 1) [.box [((.nums 5 .u8 a0_0z a0_0), false), ((.int .i64 a0_1), false), ((.int .i64 a0_2), false)]] = spec_l11Hash.b (fun r => some (spec_l11Hash.enc r)) k a0_0z a0_0 a0_1 a0_2 := by kernel_rfl
theorem spec_l11Hash.b_nat {R R' : Type} (e : R → R') (ret : Bool × (List Int) × Bool × (List Int) × Int × Int → Option R) (k : Nat) (a0_0z : Bool) (a0_0 : List Int) (a0_1 : Int) (a0_2 : Int) : spec_l11Hash.b (fun r => (ret r).map e) k a0_0z a0_0 a0_1 a0_2 = (spec_l11Hash.b ret k a0_0z a0_0 a0_1 a0_2).map e := by
  unfold spec_l11Hash.b
  repeat' first | with_reducible refine nat_cond ?_ ?_ | with_reducible refine nat_bind fun _ => ?_ | rfl
theorem spec_l11Hash.eq (k : Nat) (a0_0z : Bool) (a0_0 : List Int) (a0_1 : Int) (a0_2 : Int) : answer Try.prog spec_l11Hash.Cs 100000 spec_l11Hash.cuts [true, false, true, true] Try.f77 (k + 1) [.box [((.nums 5 .u8 a0_0z a0_0), false), ((.int .i64 a0_1), false), ((.int .i64 a0_2), false)]] = (spec_l11Hash.f (k + 1) a0_0z a0_0 a0_1 a0_2).map spec_l11Hash.enc := by
  refine (spec_l11Hash.s k a0_0z a0_0 a0_1 a0_2).trans (Eq.trans ?_ (spec_l11Hash.b_nat spec_l11Hash.enc some k a0_0z a0_0 a0_1 a0_2))
  simp only [Option.map_some]
theorem spec_l11Hash.sound (k : Nat) : SoundF Try.prog 77 (fun a => (spec_l11Hash.ans k a).val) := by
  refine sound_plain (fun args res h => ?_) (fun t n => rfl)
  unfold spec_l11Hash.ans at h
  dsimp only at h
  split at h
  · cases k with
    | zero => cases h
    | succ k =>
      unfold Ans.val at h
      rw [← spec_l11Hash.eq] at h
      exact answer_sound mixed Try.func77 _ _ _ (k + 1) (fun j _ => tab_sound (tab_cons (spec_l01Below.sound j) (tab_cons (spec_l01Byte.sound j) (tab_nil)))) _ _ h
  · exact (Ans.no_val h).elim

/-! loop.example/g00790/spec.MakeHash -/
def spec_MakeHash.b {R : Type} (ret : Bool × List Int → Option R) (k : Nat) (a0z : Bool) (a0 : List Int) (a1 : Int) : Option R :=
  (spec_l01New.f k a0z a0).bind fun t0 => (spec_l11Hash.f k t0.1 t0.2.1 t0.2.2.1 (RowKit.wrap64 (t0.2.2.2 + a1))).bind fun t1 => cond (decide ((7 : Int) < ((t1.2.1).length : Int))) (ret (t1.1, ((t1.2.1).set 7 ((a1) % 256)))) (none)
def spec_MakeHash.f : Nat → Bool → (List Int) → Int → Option (Bool × List Int)
  | 0, _, _, _ => none
  | k + 1, a0z, a0, a1 => spec_MakeHash.b some k a0z a0 a1
def spec_MakeHash.enc (r : Bool × List Int) : Res := ⟨[.vals false [((.nums 5 .u8 r.1 r.2), true)]], []⟩
def spec_MakeHash.ans (k : Nat) : List Arg → Ans
  | [.v (.nums 5 .u8 a0z a0), .v (.int .i64 a1)] => ⟨spec_MakeHash.f k a0z a0 a1, spec_MakeHash.enc⟩
  | _ => Ans.no
def spec_MakeHash.Cs (k : Nat) : CallSem := tab [(74, spec_l01New.ans k), (77, spec_l11Hash.ans k)]
def spec_MakeHash.cuts : List (Nat × Keep) := []
theorem spec_MakeHash.s (k : Nat) (a0z : Bool) (a0 : List Int) (a1 : Int) : answer Try.prog spec_MakeHash.Cs 100000 spec_MakeHash.cuts [] Try.f14 (k + 1) [.v (.nums 5 .u8 a0z a0), .v (.int .i64 a1)] = spec_MakeHash.b (fun r => some (spec_MakeHash.enc r)) k a0z a0 a1 := by kernel_rfl
theorem spec_MakeHash.b_nat {R R' : Type} (e : R → R') (ret : Bool × List Int → Option R) (k : Nat) (a0z : Bool) (a0 : List Int) (a1 : Int) : spec_MakeHash.b (fun r => (ret r).map e) k a0z a0 a1 = (spec_MakeHash.b ret k a0z a0 a1).map e := by
  unfold spec_MakeHash.b
  repeat' first | with_reducible refine nat_cond ?_ ?_ | with_reducible refine nat_bind fun _ => ?_ | rfl
theorem spec_MakeHash.eq (k : Nat) (a0z : Bool) (a0 : List Int) (a1 : Int) : answer Try.prog spec_MakeHash.Cs 100000 spec_MakeHash.cuts [] Try.f14 (k + 1) [.v (.nums 5 .u8 a0z a0), .v (.int .i64 a1)] = (spec_MakeHash.f (k + 1) a0z a0 a1).map spec_MakeHash.enc := by
  refine (spec_MakeHash.s k a0z a0 a1).trans (Eq.trans ?_ (spec_MakeHash.b_nat spec_MakeHash.enc some k a0z a0 a1))
  simp only [Option.map_some]
theorem spec_MakeHash.sound (k : Nat) : SoundF Try.prog 14 (fun a => (spec_MakeHash.ans k a).val) := by
  refine sound_plain (fun args res h => ?_) (fun t n => rfl)
  unfold spec_MakeHash.ans at h
  dsimp only at h
  split at h
  · cases k with
    | zero => cases h
    | succ k =>
      unfold Ans.val at h
      rw [← spec_MakeHash.eq] at h
      exact answer_sound mixed Try.func14 _ _ _ (k + 1) (fun j _ => tab_sound (tab_cons (spec_l01New.sound j) (tab_cons (spec_l11Hash.sound j) (tab_nil)))) _ _ h
  · exact (Ans.no_val h).elim

/-! loop.example/g00790/impl.within -/
def impl_within.b {R : Type} (ret : Bool → Option R) (k : Nat) (a0 : Int) (a1 : Int) (a2 : Int) : Option R :=
  cond (decide (a1 ≤ a0)) (ret (decide (a0 ≤ a2))) (ret false)
def impl_within.f : Nat → Int → Int → Int → Option Bool
  | 0, _, _, _ => none
  | k + 1, a0, a1, a2 => impl_within.b some k a0 a1 a2
def impl_within.enc (r : Bool) : Res := ⟨[.vals false [((.bool r), true)]], []⟩
def impl_within.ans (k : Nat) : List Arg → Ans
  | [.v (.int .i64 a0), .v (.int .i64 a1), .v (.int .i64 a2)] => ⟨impl_within.f k a0 a1 a2, impl_within.enc⟩
  | _ => Ans.no
def impl_within.Cs (k : Nat) : CallSem := tab []
def impl_within.cuts : List (Nat × Keep) := []
theorem impl_within.s (k : Nat) (a0 : Int) (a1 : Int) (a2 : Int) : answer Try.prog impl_within.Cs 100000 impl_within.cuts [] Try.f79 (k + 1) [.v (.int .i64 a0), .v (.int .i64 a1), .v (.int .i64 a2)] = impl_within.b (fun r => some (impl_within.enc r)) k a0 a1 a2 := by kernel_rfl
theorem impl_within.b_nat {R R' : Type} (e : R → R') (ret : Bool → Option R) (k : Nat) (a0 : Int) (a1 : Int) (a2 : Int) : impl_within.b (fun r => (ret r).map e) k a0 a1 a2 = (impl_within.b ret k a0 a1 a2).map e := by
  unfold impl_within.b
  repeat' first | with_reducible refine nat_cond ?_ ?_ | with_reducible refine nat_bind fun _ => ?_ | rfl
theorem impl_within.eq (k : Nat) (a0 : Int) (a1 : Int) (a2 : Int) : answer Try.prog impl_within.Cs 100000 impl_within.cuts [] Try.f79 (k + 1) [.v (.int .i64 a0), .v (.int .i64 a1), .v (.int .i64 a2)] = (impl_within.f (k + 1) a0 a1 a2).map impl_within.enc := by
  refine (impl_within.s k a0 a1 a2).trans (Eq.trans ?_ (impl_within.b_nat impl_within.enc some k a0 a1 a2))
  simp only [Option.map_some]
theorem impl_within.sound (k : Nat) : SoundF Try.prog 79 (fun a => (impl_within.ans k a).val) := by
  refine sound_plain (fun args res h => ?_) (fun t n => rfl)
  unfold impl_within.ans at h
  dsimp only at h
  split at h
  · cases k with
    | zero => cases h
    | succ k =>
      unfold Ans.val at h
      rw [← impl_within.eq] at h
      exact answer_sound mixed Try.func79 _ _ _ (k + 1) (fun j _ => tab_sound (tab_nil)) _ _ h
  · exact (Ans.no_val h).elim

/-! loop.example/g00790/impl.isNum -/
def impl_isNum.b {R : Type} (ret : Bool → Option R) (k : Nat) (a0 : Int) : Option R :=
  (impl_within.f k a0 0 1152921504606846975).bind fun t0 => ret t0
def impl_isNum.f : Nat → Int → Option Bool
  | 0, _ => none
  | k + 1, a0 => impl_isNum.b some k a0
def impl_isNum.enc (r : Bool) : Res := ⟨[.vals false [((.bool r), true)]], []⟩
def impl_isNum.ans (k : Nat) : List Arg → Ans
  | [.v (.int .i64 a0)] => ⟨impl_isNum.f k a0, impl_isNum.enc⟩
  | _ => Ans.no
def impl_isNum.Cs (k : Nat) : CallSem := tab [(79, impl_within.ans k)]
def impl_isNum.cuts : List (Nat × Keep) := []
theorem impl_isNum.s (k : Nat) (a0 : Int) : answer Try.prog impl_isNum.Cs 100000 impl_isNum.cuts [] Try.f93 (k + 1) [.v (.int .i64 a0)] = impl_isNum.b (fun r => some (impl_isNum.enc r)) k a0 := by kernel_rfl
theorem impl_isNum.b_nat {R R' : Type} (e : R → R') (ret : Bool → Option R) (k : Nat) (a0 : Int) : impl_isNum.b (fun r => (ret r).map e) k a0 = (impl_isNum.b ret k a0).map e := by
  unfold impl_isNum.b
  repeat' first | with_reducible refine nat_cond ?_ ?_ | with_reducible refine nat_bind fun _ => ?_ | rfl
theorem impl_isNum.eq (k : Nat) (a0 : Int) : answer Try.prog impl_isNum.Cs 100000 impl_isNum.cuts [] Try.f93 (k + 1) [.v (.int .i64 a0)] = (impl_isNum.f (k + 1) a0).map impl_isNum.enc := by
  refine (impl_isNum.s k a0).trans (Eq.trans ?_ (impl_isNum.b_nat impl_isNum.enc some k a0))
  simp only [Option.map_some]
theorem impl_isNum.sound (k : Nat) : SoundF Try.prog 93 (fun a => (impl_isNum.ans k a).val) := by
  refine sound_plain (fun args res h => ?_) (fun t n => rfl)
  unfold impl_isNum.ans at h
  dsimp only at h
  split at h
  · cases k with
    | zero => cases h
    | succ k =>
      unfold Ans.val at h
      rw [← impl_isNum.eq] at h
      exact answer_sound mixed Try.func93 _ _ _ (k + 1) (fun j _ => tab_sound (tab_cons (impl_within.sound j) (tab_nil))) _ _ h
  · exact (Ans.no_val h).elim

/-! loop.example/g00790/impl.copyBytes -/
def impl_copyBytes.b {R : Type} (ret : Bool × List Int → Option R) (k : Nat) (a0z : Bool) (a0 : List Int) : Option R :=
  cond (decide (0 + (a0).length < 140737488355328)) (ret (((a0).isEmpty && false), a0)) (none)
def impl_copyBytes.f : Nat → Bool → (List Int) → Option (Bool × List Int)
  | 0, _, _ => none
  | k + 1, a0z, a0 => impl_copyBytes.b some k a0z a0
def impl_copyBytes.enc (r : Bool × List Int) : Res := ⟨[.vals false [((.nums 5 .u8 r.1 r.2), true)]], []⟩
def impl_copyBytes.ans (k : Nat) : List Arg → Ans
  | [.v (.nums 5 .u8 a0z a0)] => ⟨impl_copyBytes.f k a0z a0, impl_copyBytes.enc⟩
  | _ => Ans.no
def impl_copyBytes.Cs (k : Nat) : CallSem := tab []
def impl_copyBytes.cuts : List (Nat × Keep) := []
theorem impl_copyBytes.s (k : Nat) (a0z : Bool) (a0 : List Int) : answer Try.prog impl_copyBytes.Cs 100000 impl_copyBytes.cuts [] Try.f80 (k + 1) [.v (.nums 5 .u8 a0z a0)] = impl_copyBytes.b (fun r => some (impl_copyBytes.enc r)) k a0z a0 := by kernel_rfl
theorem impl_copyBytes.b_nat {R R' : Type} (e : R → R') (ret : Bool × List Int → Option R) (k : Nat) (a0z : Bool) (a0 : List Int) : impl_copyBytes.b (fun r => (ret r).map e) k a0z a0 = (impl_copyBytes.b ret k a0z a0).map e := by
  unfold impl_copyBytes.b
  repeat' first | with_reducible refine nat_cond ?_ ?_ | with_reducible refine nat_bind fun _ => ?_ | rfl
theorem impl_copyBytes.eq (k : Nat) (a0z : Bool) (a0 : List Int) : answer Try.prog impl_copyBytes.Cs 100000 impl_copyBytes.cuts [] Try.f80 (k + 1) [.v (.nums 5 .u8 a0z a0)] = (impl_copyBytes.f (k + 1) a0z a0).map impl_copyBytes.enc := by
  refine (impl_copyBytes.s k a0z a0).trans (Eq.trans ?_ (impl_copyBytes.b_nat impl_copyBytes.enc some k a0z a0))
  simp only [Option.map_some]
theorem impl_copyBytes.sound (k : Nat) : SoundF Try.prog 80 (fun a => (impl_copyBytes.ans k a).val) := by
  refine sound_plain (fun args res h => ?_) (fun t n => rfl)
  unfold impl_copyBytes.ans at h
  dsimp only at h
  split at h
  · cases k with
    | zero => cases h
    | succ k =>
      unfold Ans.val at h
      rw [← impl_copyBytes.eq] at h
      exact answer_sound mixed Try.func80 _ _ _ (k + 1) (fun j _ => tab_sound (tab_nil)) _ _ h
  · exact (Ans.no_val h).elim

/-! loop.example/g00790/impl.PutVar -/
def impl_PutVar.b {R : Type} (ret : Bool × (List Int) × Bool → Option R) (j0 : Int → Bool → (List Int) → Option R) (k : Nat) (a0z : Bool) (a0 : List Int) (a1 : Int) : Option R :=
  (impl_isNum.f k a1).bind fun t0 => cond (!t0) (ret (true, ([] : List Int), false)) ((impl_copyBytes.f k a0z a0).bind fun t1 => j0 a1 t1.1 t1.2)
def impl_PutVar.l0b {R : Type} (ret : Bool × (List Int) × Bool → Option R) (j0 : Int → Bool → (List Int) → Option R) (k : Nat) (x1 : Int) (x6z : Bool) (x6 : List Int) : Option R :=
  cond (decide (x1 ≥ 128)) (cond (decide ((x6).length + 1 < 140737488355328)) (j0 (RowKit.wrap64 (Int.tdiv x1 128)) false (x6 ++ ([(((RowKit.wrap64 ((Int.tmod x1 128) + 128))) % 256)] : List Int))) (none)) (cond (decide ((x6).length + 1 < 140737488355328)) (ret (false, (x6 ++ ([((x1) % 256)] : List Int)), true)) (none))
def impl_PutVar.l0 : Nat → Int → Bool → (List Int) → Option (Bool × (List Int) × Bool)
  | 0, _, _, _ => none
  | k + 1, x1, x6z, x6 => impl_PutVar.l0b some (impl_PutVar.l0 k) k x1 x6z x6
def impl_PutVar.f : Nat → Bool → (List Int) → Int → Option (Bool × (List Int) × Bool)
  | 0, _, _, _ => none
  | k + 1, a0z, a0, a1 => impl_PutVar.b some (impl_PutVar.l0 k) k a0z a0 a1
def impl_PutVar.enc (r : Bool × (List Int) × Bool) : Res := ⟨[.vals false [((.nums 5 .u8 r.1 r.2.1), true)], .vals false [((.bool r.2.2), true)]], []⟩
def impl_PutVar.ans (k : Nat) : List Arg → Ans
  | [.v (.nums 5 .u8 a0z a0), .v (.int .i64 a1)] => ⟨impl_PutVar.f k a0z a0 a1, impl_PutVar.enc⟩
  | _ => Ans.no
def impl_PutVar.Cs (k : Nat) : CallSem := tab [(93, impl_isNum.ans k), (80, impl_copyBytes.ans k)]
def impl_PutVar.cuts : List (Nat × Keep) := [(60, ⟨[(1, some []), (6, none)], []⟩)]
noncomputable def impl_PutVar.K0 : List Fr := framesAt [true, true, true, false, false] (bodyOf Try.f150 impl_PutVar.cuts) []
def impl_PutVar.N0 (x1 : Int) (x6z : Bool) (x6 : List Int) : St := stOf 28 28 2 [(1, .val (V.s (.int .i64 x1))), (6, .val ⟨(.nums 5 .u8 x6z x6), [.l 6 0], true, some (.l 6 0)⟩)] []
theorem impl_PutVar.s (k : Nat) (a0z : Bool) (a0 : List Int) (a1 : Int) : answer Try.prog impl_PutVar.Cs 100000 impl_PutVar.cuts [] Try.f150 (k + 1) [.v (.nums 5 .u8 a0z a0), .v (.int .i64 a1)] = impl_PutVar.b (fun r => some (impl_PutVar.enc r)) (fun x1 x6z x6 => rounds Try.prog impl_PutVar.Cs (finish Try.prog [] Try.f150 [.v (.nums 5 .u8 a0z a0), .v (.int .i64 a1)]) 100000 k impl_PutVar.K0 (impl_PutVar.N0 x1 x6z x6)) k a0z a0 a1 := by kernel_rfl
theorem impl_PutVar.s0 (k : Nat) (G : List Fr → St → Option Res) (a0z : Bool) (a0 : List Int) (a1 : Int) (yx1 : Int) (yx6z : Bool) (yx6 : List Int) : resume Try.prog (impl_PutVar.Cs k) G (finish Try.prog [] Try.f150 [.v (.nums 5 .u8 a0z a0), .v (.int .i64 a1)]) 100000 impl_PutVar.K0 (impl_PutVar.N0 yx1 yx6z yx6) = impl_PutVar.l0b (fun r => some (impl_PutVar.enc r)) (fun x1 x6z x6 => G impl_PutVar.K0 (impl_PutVar.N0 x1 x6z x6)) k yx1 yx6z yx6 := by kernel_rfl
theorem impl_PutVar.b_nat {R R' : Type} (e : R → R') (ret : Bool × (List Int) × Bool → Option R) (j0 : Int → Bool → (List Int) → Option R) (k : Nat) (a0z : Bool) (a0 : List Int) (a1 : Int) : impl_PutVar.b (fun r => (ret r).map e) (fun x1 x6z x6 => (j0 x1 x6z x6).map e) k a0z a0 a1 = (impl_PutVar.b ret j0 k a0z a0 a1).map e := by
  unfold impl_PutVar.b
  repeat' first | with_reducible refine nat_cond ?_ ?_ | with_reducible refine nat_bind fun _ => ?_ | rfl
theorem impl_PutVar.l0b_nat {R R' : Type} (e : R → R') (ret : Bool × (List Int) × Bool → Option R) (j0 : Int → Bool → (List Int) → Option R) (k : Nat) (x1 : Int) (x6z : Bool) (x6 : List Int) : impl_PutVar.l0b (fun r => (ret r).map e) (fun x1 x6z x6 => (j0 x1 x6z x6).map e) k x1 x6z x6 = (impl_PutVar.l0b ret j0 k x1 x6z x6).map e := by
  unfold impl_PutVar.l0b
  repeat' first | with_reducible refine nat_cond ?_ ?_ | with_reducible refine nat_bind fun _ => ?_ | rfl
theorem impl_PutVar.rounds_eq (a0z : Bool) (a0 : List Int) (a1 : Int) : ∀ k, (∀ (x1 : Int) (x6z : Bool) (x6 : List Int), rounds Try.prog impl_PutVar.Cs (finish Try.prog [] Try.f150 [.v (.nums 5 .u8 a0z a0), .v (.int .i64 a1)]) 100000 k impl_PutVar.K0 (impl_PutVar.N0 x1 x6z x6) = (impl_PutVar.l0 k x1 x6z x6).map impl_PutVar.enc)
  | 0 => fun _ _ _ => rfl
  | k + 1 => by
    have ih := impl_PutVar.rounds_eq a0z a0 a1 k
    refine fun _ _ _ => ?_
    · refine (impl_PutVar.s0 k _ a0z a0 a1 _ _ _).trans (Eq.trans ?_ (impl_PutVar.l0b_nat impl_PutVar.enc some (impl_PutVar.l0 k) k _ _ _))
      simp only [ih, Option.map_some]
theorem impl_PutVar.eq (k : Nat) (a0z : Bool) (a0 : List Int) (a1 : Int) : answer Try.prog impl_PutVar.Cs 100000 impl_PutVar.cuts [] Try.f150 (k + 1) [.v (.nums 5 .u8 a0z a0), .v (.int .i64 a1)] = (impl_PutVar.f (k + 1) a0z a0 a1).map impl_PutVar.enc := by
  have ih := impl_PutVar.rounds_eq a0z a0 a1 k
  refine (impl_PutVar.s k a0z a0 a1).trans (Eq.trans ?_ (impl_PutVar.b_nat impl_PutVar.enc some (impl_PutVar.l0 k) k a0z a0 a1))
  simp only [ih, Option.map_some]
theorem impl_PutVar.sound (k : Nat) : SoundF Try.prog 150 (fun a => (impl_PutVar.ans k a).val) := by
  refine sound_plain (fun args res h => ?_) (fun t n => rfl)
  unfold impl_PutVar.ans at h
  dsimp only at h
  split at h
  · cases k with
    | zero => cases h
    | succ k =>
      unfold Ans.val at h
      rw [← impl_PutVar.eq] at h
      exact answer_sound mixed Try.func150 _ _ _ (k + 1) (fun j _ => tab_sound (tab_cons (impl_isNum.sound j) (tab_cons (impl_copyBytes.sound j) (tab_nil)))) _ _ h
  · exact (Ans.no_val h).elim

/-! loop.example/g00790/impl.numbers -/
def impl_numbers.b {R : Type} (ret : Bool × List Int → Option R) (j0 : Bool → (List Int) → Bool → (List Int) → Int → Int → Option R) (k : Nat) (a0 : Int) (a1z : Bool) (a1 : List Int) : Option R :=
  j0 false ([a0] : List Int) a1z a1 ((a1).length : Int) 0
def impl_numbers.l0b {R : Type} (ret : Bool × List Int → Option R) (j0 : Bool → (List Int) → Bool → (List Int) → Int → Int → Option R) (k : Nat) (x5z : Bool) (x5 : List Int) (x12z : Bool) (x12 : List Int) (x13 : Int) (x14 : Int) : Option R :=
  cond (decide (x14 < x13)) (cond (decide ((0 : Int) ≤ x14)) (cond (decide (x14 < ((x12).length : Int))) ((impl_PutVar.f k x5z x5 (rdI x12 x14)).bind fun t0 => cond (!t0.2.2) (ret (true, ([] : List Int))) (j0 t0.1 t0.2.1 x12z x12 x13 (RowKit.wrap64 (x14 + 1)))) (none)) (none)) (ret (x5z, x5))
def impl_numbers.l0 : Nat → Bool → (List Int) → Bool → (List Int) → Int → Int → Option (Bool × List Int)
  | 0, _, _, _, _, _, _ => none
  | k + 1, x5z, x5, x12z, x12, x13, x14 => impl_numbers.l0b some (impl_numbers.l0 k) k x5z x5 x12z x12 x13 x14
def impl_numbers.f : Nat → Int → Bool → (List Int) → Option (Bool × List Int)
  | 0, _, _, _ => none
  | k + 1, a0, a1z, a1 => impl_numbers.b some (impl_numbers.l0 k) k a0 a1z a1
def impl_numbers.enc (r : Bool × List Int) : Res := ⟨[.vals false [((.nums 5 .u8 r.1 r.2), true)]], []⟩
def impl_numbers.ans (k : Nat) : List Arg → Ans
  | [.v (.int .u8 a0), .v (.nums 3 .i64 a1z a1)] => ⟨impl_numbers.f k a0 a1z a1, impl_numbers.enc⟩
  | _ => Ans.no
def impl_numbers.Cs (k : Nat) : CallSem := tab [(150, impl_PutVar.ans k)]
def impl_numbers.cuts : List (Nat × Keep) := [(58, ⟨[(5, none), (12, some []), (13, some []), (14, some [])], []⟩)]
noncomputable def impl_numbers.K0 : List Fr := framesAt [true, true, false, true, false] (bodyOf Try.f84 impl_numbers.cuts) []
def impl_numbers.N0 (x5z : Bool) (x5 : List Int) (x12z : Bool) (x12 : List Int) (x13 : Int) (x14 : Int) : St := stOf 29 29 2 [(5, .val ⟨(.nums 5 .u8 x5z x5), [.l 5 0], true, some (.l 5 0)⟩), (12, .val ⟨(.nums 3 .i64 x12z x12), [], false, none⟩), (13, .val (V.s (.int .i64 x13))), (14, .val (V.s (.int .i64 x14)))] []
theorem impl_numbers.s (k : Nat) (a0 : Int) (a1z : Bool) (a1 : List Int) : answer Try.prog impl_numbers.Cs 100000 impl_numbers.cuts [] Try.f84 (k + 1) [.v (.int .u8 a0), .v (.nums 3 .i64 a1z a1)] = impl_numbers.b (fun r => some (impl_numbers.enc r)) (fun x5z x5 x12z x12 x13 x14 => rounds Try.prog impl_numbers.Cs (finish Try.prog [] Try.f84 [.v (.int .u8 a0), .v (.nums 3 .i64 a1z a1)]) 100000 k impl_numbers.K0 (impl_numbers.N0 x5z x5 x12z x12 x13 x14)) k a0 a1z a1 := by kernel_rfl
theorem impl_numbers.s0 (k : Nat) (G : List Fr → St → Option Res) (a0 : Int) (a1z : Bool) (a1 : List Int) (yx5z : Bool) (yx5 : List Int) (yx12z : Bool) (yx12 : List Int) (yx13 : Int) (yx14 : Int) : resume Try.prog (impl_numbers.Cs k) G (finish Try.prog [] Try.f84 [.v (.int .u8 a0), .v (.nums 3 .i64 a1z a1)]) 100000 impl_numbers.K0 (impl_numbers.N0 yx5z yx5 yx12z yx12 yx13 yx14) = impl_numbers.l0b (fun r => some (impl_numbers.enc r)) (fun x5z x5 x12z x12 x13 x14 => G impl_numbers.K0 (impl_numbers.N0 x5z x5 x12z x12 x13 x14)) k yx5z yx5 yx12z yx12 yx13 yx14 := by kernel_rfl
theorem impl_numbers.b_nat {R R' : Type} (e : R → R') (ret : Bool × List Int → Option R) (j0 : Bool → (List Int) → Bool → (List Int) → Int → Int → Option R) (k : Nat) (a0 : Int) (a1z : Bool) (a1 : List Int) : impl_numbers.b (fun r => (ret r).map e) (fun x5z x5 x12z x12 x13 x14 => (j0 x5z x5 x12z x12 x13 x14).map e) k a0 a1z a1 = (impl_numbers.b ret j0 k a0 a1z a1).map e := by
  unfold impl_numbers.b
  repeat' first | with_reducible refine nat_cond ?_ ?_ | with_reducible refine nat_bind fun _ => ?_ | rfl
theorem impl_numbers.l0b_nat {R R' : Type} (e : R → R') (ret : Bool × List Int → Option R) (j0 : Bool → (List Int) → Bool → (List Int) → Int → Int → Option R) (k : Nat) (x5z : Bool) (x5 : List Int) (x12z : Bool) (x12 : List Int) (x13 : Int) (x14 : Int) : impl_numbers.l0b (fun r => (ret r).map e) (fun x5z x5 x12z x12 x13 x14 => (j0 x5z x5 x12z x12 x13 x14).map e) k x5z x5 x12z x12 x13 x14 = (impl_numbers.l0b ret j0 k x5z x5 x12z x12 x13 x14).map e := by
  unfold impl_numbers.l0b
  repeat' first | with_reducible refine nat_cond ?_ ?_ | with_reducible refine nat_bind fun _ => ?_ | rfl
theorem impl_numbers.rounds_eq (a0 : Int) (a1z : Bool) (a1 : List Int) : ∀ k, (∀ (x5z : Bool) (x5 : List Int) (x12z : Bool) (x12 : List Int) (x13 : Int) (x14 : Int), rounds Try.prog impl_numbers.Cs (finish Try.prog [] Try.f84 [.v (.int .u8 a0), .v (.nums 3 .i64 a1z a1)]) 100000 k impl_numbers.K0 (impl_numbers.N0 x5z x5 x12z x12 x13 x14) = (impl_numbers.l0 k x5z x5 x12z x12 x13 x14).map impl_numbers.enc)
  | 0 => fun _ _ _ _ _ _ => rfl
  | k + 1 => by
    have ih := impl_numbers.rounds_eq a0 a1z a1 k
    refine fun _ _ _ _ _ _ => ?_
    · refine (impl_numbers.s0 k _ a0 a1z a1 _ _ _ _ _ _).trans (Eq.trans ?_ (impl_numbers.l0b_nat impl_numbers.enc some (impl_numbers.l0 k) k _ _ _ _ _ _))
      simp only [ih, Option.map_some]
theorem impl_numbers.eq (k : Nat) (a0 : Int) (a1z : Bool) (a1 : List Int) : answer Try.prog impl_numbers.Cs 100000 impl_numbers.cuts [] Try.f84 (k + 1) [.v (.int .u8 a0), .v (.nums 3 .i64 a1z a1)] = (impl_numbers.f (k + 1) a0 a1z a1).map impl_numbers.enc := by
  have ih := impl_numbers.rounds_eq a0 a1z a1 k
  refine (impl_numbers.s k a0 a1z a1).trans (Eq.trans ?_ (impl_numbers.b_nat impl_numbers.enc some (impl_numbers.l0 k) k a0 a1z a1))
  simp only [ih, Option.map_some]
theorem impl_numbers.sound (k : Nat) : SoundF Try.prog 84 (fun a => (impl_numbers.ans k a).val) := by
  refine sound_plain (fun args res h => ?_) (fun t n => rfl)
  unfold impl_numbers.ans at h
  dsimp only at h
  split at h
  · cases k with
    | zero => cases h
    | succ k =>
      unfold Ans.val at h
      rw [← impl_numbers.eq] at h
      exact answer_sound mixed Try.func84 _ _ _ (k + 1) (fun j _ => tab_sound (tab_cons (impl_PutVar.sound j) (tab_nil))) _ _ h
  · exact (Ans.no_val h).elim

/-! loop.example/g00790/impl.areHashes -/
def impl_areHashes.b {R : Type} (ret : Bool → Option R) (j0 : Bool → (List T) → Int → Int → Option R) (k : Nat) (a0z : Bool) (a0 : List T) : Option R :=
  j0 a0z a0 ((a0).length : Int) 0
def impl_areHashes.l0b {R : Type} (ret : Bool → Option R) (j0 : Bool → (List T) → Int → Int → Option R) (k : Nat) (x5z : Bool) (x5 : List T) (x6 : Int) (x7 : Int) : Option R :=
  cond (decide (x7 < x6)) (cond (decide ((0 : Int) ≤ x7)) (cond (decide (x7 < ((x5).length : Int))) (cond (!(decide (((((((x5).getD (x7).toNat .bad).cells.getD 0 .bad)).toNums).length : Int) = 32))) (ret false) (j0 x5z x5 x6 (RowKit.wrap64 (x7 + 1)))) (none)) (none)) (ret true)
def impl_areHashes.l0 : Nat → Bool → (List T) → Int → Int → Option Bool
  | 0, _, _, _, _ => none
  | k + 1, x5z, x5, x6, x7 => impl_areHashes.l0b some (impl_areHashes.l0 k) k x5z x5 x6 x7
def impl_areHashes.f : Nat → Bool → (List T) → Option Bool
  | 0, _, _ => none
  | k + 1, a0z, a0 => impl_areHashes.b some (impl_areHashes.l0 k) k a0z a0
def impl_areHashes.enc (r : Bool) : Res := ⟨[.vals false [((.bool r), true)]], []⟩
def impl_areHashes.ans (k : Nat) : List Arg → Ans
  | [.v (.sl 22 a0z a0)] => ⟨impl_areHashes.f k a0z a0, impl_areHashes.enc⟩
  | _ => Ans.no
def impl_areHashes.Cs (k : Nat) : CallSem := tab []
def impl_areHashes.cuts : List (Nat × Keep) := [(26, ⟨[(5, some []), (6, some []), (7, some [])], []⟩)]
noncomputable def impl_areHashes.K0 : List Fr := framesAt [true, false, true, false] (bodyOf Try.f85 impl_areHashes.cuts) []
def impl_areHashes.N0 (x5z : Bool) (x5 : List T) (x6 : Int) (x7 : Int) : St := stOf 15 15 1 [(5, .val ⟨(.sl 22 x5z x5), [], false, none⟩), (6, .val (V.s (.int .i64 x6))), (7, .val (V.s (.int .i64 x7)))] []
theorem impl_areHashes.s (k : Nat) (a0z : Bool) (a0 : List T) : answer Try.prog impl_areHashes.Cs 100000 impl_areHashes.cuts [] Try.f85 (k + 1) [.v (.sl 22 a0z a0)] = impl_areHashes.b (fun r => some (impl_areHashes.enc r)) (fun x5z x5 x6 x7 => rounds Try.prog impl_areHashes.Cs (finish Try.prog [] Try.f85 [.v (.sl 22 a0z a0)]) 100000 k impl_areHashes.K0 (impl_areHashes.N0 x5z x5 x6 x7)) k a0z a0 := by kernel_rfl
theorem impl_areHashes.s0 (k : Nat) (G : List Fr → St → Option Res) (a0z : Bool) (a0 : List T) (yx5z : Bool) (yx5 : List T) (yx6 : Int) (yx7 : Int) : resume Try.prog (impl_areHashes.Cs k) G (finish Try.prog [] Try.f85 [.v (.sl 22 a0z a0)]) 100000 impl_areHashes.K0 (impl_areHashes.N0 yx5z yx5 yx6 yx7) = impl_areHashes.l0b (fun r => some (impl_areHashes.enc r)) (fun x5z x5 x6 x7 => G impl_areHashes.K0 (impl_areHashes.N0 x5z x5 x6 x7)) k yx5z yx5 yx6 yx7 := by kernel_rfl
theorem impl_areHashes.b_nat {R R' : Type} (e : R → R') (ret : Bool → Option R) (j0 : Bool → (List T) → Int → Int → Option R) (k : Nat) (a0z : Bool) (a0 : List T) : impl_areHashes.b (fun r => (ret r).map e) (fun x5z x5 x6 x7 => (j0 x5z x5 x6 x7).map e) k a0z a0 = (impl_areHashes.b ret j0 k a0z a0).map e := by
  unfold impl_areHashes.b
  repeat' first | with_reducible refine nat_cond ?_ ?_ | with_reducible refine nat_bind fun _ => ?_ | rfl
theorem impl_areHashes.l0b_nat {R R' : Type} (e : R → R') (ret : Bool → Option R) (j0 : Bool → (List T) → Int → Int → Option R) (k : Nat) (x5z : Bool) (x5 : List T) (x6 : Int) (x7 : Int) : impl_areHashes.l0b (fun r => (ret r).map e) (fun x5z x5 x6 x7 => (j0 x5z x5 x6 x7).map e) k x5z x5 x6 x7 = (impl_areHashes.l0b ret j0 k x5z x5 x6 x7).map e := by
  unfold impl_areHashes.l0b
  repeat' first | with_reducible refine nat_cond ?_ ?_ | with_reducible refine nat_bind fun _ => ?_ | rfl
theorem impl_areHashes.rounds_eq (a0z : Bool) (a0 : List T) : ∀ k, (∀ (x5z : Bool) (x5 : List T) (x6 : Int) (x7 : Int), rounds Try.prog impl_areHashes.Cs (finish Try.prog [] Try.f85 [.v (.sl 22 a0z a0)]) 100000 k impl_areHashes.K0 (impl_areHashes.N0 x5z x5 x6 x7) = (impl_areHashes.l0 k x5z x5 x6 x7).map impl_areHashes.enc)
  | 0 => fun _ _ _ _ => rfl
  | k + 1 => by
    have ih := impl_areHashes.rounds_eq a0z a0 k
    refine fun _ _ _ _ => ?_
    · refine (impl_areHashes.s0 k _ a0z a0 _ _ _ _).trans (Eq.trans ?_ (impl_areHashes.l0b_nat impl_areHashes.enc some (impl_areHashes.l0 k) k _ _ _ _))
      simp only [ih, Option.map_some]
theorem impl_areHashes.eq (k : Nat) (a0z : Bool) (a0 : List T) : answer Try.prog impl_areHashes.Cs 100000 impl_areHashes.cuts [] Try.f85 (k + 1) [.v (.sl 22 a0z a0)] = (impl_areHashes.f (k + 1) a0z a0).map impl_areHashes.enc := by
  have ih := impl_areHashes.rounds_eq a0z a0 k
  refine (impl_areHashes.s k a0z a0).trans (Eq.trans ?_ (impl_areHashes.b_nat impl_areHashes.enc some (impl_areHashes.l0 k) k a0z a0))
  simp only [ih, Option.map_some]
theorem impl_areHashes.sound (k : Nat) : SoundF Try.prog 85 (fun a => (impl_areHashes.ans k a).val) := by
  refine sound_plain (fun args res h => ?_) (fun t n => rfl)
  unfold impl_areHashes.ans at h
  dsimp only at h
  split at h
  · cases k with
    | zero => cases h
    | succ k =>
      unfold Ans.val at h
      rw [← impl_areHashes.eq] at h
      exact answer_sound mixed Try.func85 _ _ _ (k + 1) (fun j _ => tab_sound (tab_nil)) _ _ h
  · exact (Ans.no_val h).elim

/-! loop.example/g00790/impl.VoteBytes -/
def impl_VoteBytes.b {R : Type} (ret : Bool × List Int → Option R) (k : Nat) (a0 : Int) (a1 : Int) (a2z : Bool) (a2 : List Int) : Option R :=
  (impl_numbers.f k 86 false ([a0, a1] : List Int)).bind fun t0 => cond t0.1 (ret (true, ([] : List Int))) ((impl_areHashes.f k false ([(.nums 5 .u8 a2z a2)] : List T)).bind fun t1 => cond (!t1) (ret (true, ([] : List Int))) (cond (decide ((t0.2).length + (a2).length < 140737488355328)) (ret (((a2).isEmpty && t0.1), (t0.2 ++ a2))) (none)))
def impl_VoteBytes.f : Nat → Int → Int → Bool → (List Int) → Option (Bool × List Int)
  | 0, _, _, _, _ => none
  | k + 1, a0, a1, a2z, a2 => impl_VoteBytes.b some k a0 a1 a2z a2
def impl_VoteBytes.enc (r : Bool × List Int) : Res := ⟨[.vals false [((.nums 5 .u8 r.1 r.2), true)]], []⟩
def impl_VoteBytes.ans (k : Nat) : List Arg → Ans
  | [.v (.int .i64 a0), .v (.int .i64 a1), .v (.nums 5 .u8 a2z a2)] => ⟨impl_VoteBytes.f k a0 a1 a2z a2, impl_VoteBytes.enc⟩
  | _ => Ans.no
def impl_VoteBytes.Cs (k : Nat) : CallSem := tab [(84, impl_numbers.ans k), (85, impl_areHashes.ans k)]
def impl_VoteBytes.cuts : List (Nat × Keep) := []
theorem impl_VoteBytes.s (k : Nat) (a0 : Int) (a1 : Int) (a2z : Bool) (a2 : List Int) : answer Try.prog impl_VoteBytes.Cs 100000 impl_VoteBytes.cuts [] Try.f20 (k + 1) [.v (.int .i64 a0), .v (.int .i64 a1), .v (.nums 5 .u8 a2z a2)] = impl_VoteBytes.b (fun r => some (impl_VoteBytes.enc r)) k a0 a1 a2z a2 := by kernel_rfl
theorem impl_VoteBytes.b_nat {R R' : Type} (e : R → R') (ret : Bool × List Int → Option R) (k : Nat) (a0 : Int) (a1 : Int) (a2z : Bool) (a2 : List Int) : impl_VoteBytes.b (fun r => (ret r).map e) k a0 a1 a2z a2 = (impl_VoteBytes.b ret k a0 a1 a2z a2).map e := by
  unfold impl_VoteBytes.b
  repeat' first | with_reducible refine nat_cond ?_ ?_ | with_reducible refine nat_bind fun _ => ?_ | rfl
theorem impl_VoteBytes.eq (k : Nat) (a0 : Int) (a1 : Int) (a2z : Bool) (a2 : List Int) : answer Try.prog impl_VoteBytes.Cs 100000 impl_VoteBytes.cuts [] Try.f20 (k + 1) [.v (.int .i64 a0), .v (.int .i64 a1), .v (.nums 5 .u8 a2z a2)] = (impl_VoteBytes.f (k + 1) a0 a1 a2z a2).map impl_VoteBytes.enc := by
  refine (impl_VoteBytes.s k a0 a1 a2z a2).trans (Eq.trans ?_ (impl_VoteBytes.b_nat impl_VoteBytes.enc some k a0 a1 a2z a2))
  simp only [Option.map_some]
theorem impl_VoteBytes.sound (k : Nat) : SoundF Try.prog 20 (fun a => (impl_VoteBytes.ans k a).val) := by
  refine sound_plain (fun args res h => ?_) (fun t n => rfl)
  unfold impl_VoteBytes.ans at h
  dsimp only at h
  split at h
  · cases k with
    | zero => cases h
    | succ k =>
      unfold Ans.val at h
      rw [← impl_VoteBytes.eq] at h
      exact answer_sound mixed Try.func20 _ _ _ (k + 1) (fun j _ => tab_sound (tab_cons (impl_numbers.sound j) (tab_cons (impl_areHashes.sound j) (tab_nil)))) _ _ h
  · exact (Ans.no_val h).elim

/-! loop.example/g00790/impl.TableOk -/
def impl_TableOk.b {R : Type} (ret : Bool → Option R) (j0 : Bool → (List T) → Int → Int → Bool → (List T) → Option R) (k : Nat) (a0_0z : Bool) (a0_0 : List T) : Option R :=
  j0 a0_0z a0_0 ((a0_0).length : Int) 0 a0_0z a0_0
def impl_TableOk.l0b {R : Type} (ret : Bool → Option R) (j0 : Bool → (List T) → Int → Int → Bool → (List T) → Option R) (k : Nat) (x6z : Bool) (x6 : List T) (x7 : Int) (x8 : Int) (c1_0z : Bool) (c1_0 : List T) : Option R :=
  cond (decide (x8 < x7)) (cond (decide ((0 : Int) ≤ x8)) (cond (decide (x8 < ((x6).length : Int))) ((impl_within.f k (((((x6).getD (x8).toNat .bad).cells.getD 0 .bad)).toInt) 1 1099511627776).bind fun t0 => cond (!t0) (ret false) ((impl_within.f k ((((((x6).getD (x8).toNat .bad).cells.getD 1 .bad)).toNums).length : Int) 1 64).bind fun t1 => cond (!t1) (ret false) (j0 x6z x6 x7 (RowKit.wrap64 (x8 + 1)) c1_0z c1_0))) (none)) (none)) ((impl_within.f k ((c1_0).length : Int) 1 10).bind fun t0 => ret t0)
def impl_TableOk.l0 : Nat → Bool → (List T) → Int → Int → Bool → (List T) → Option Bool
  | 0, _, _, _, _, _, _ => none
  | k + 1, x6z, x6, x7, x8, c1_0z, c1_0 => impl_TableOk.l0b some (impl_TableOk.l0 k) k x6z x6 x7 x8 c1_0z c1_0
def impl_TableOk.f : Nat → Bool → (List T) → Option Bool
  | 0, _, _ => none
  | k + 1, a0_0z, a0_0 => impl_TableOk.b some (impl_TableOk.l0 k) k a0_0z a0_0
def impl_TableOk.enc (r : Bool) : Res := ⟨[.vals false [((.bool r), true)]], []⟩
def impl_TableOk.ans (k : Nat) : List Arg → Ans
  | [.v (.agg [(.sl 44 a0_0z a0_0)])] => ⟨impl_TableOk.f k a0_0z a0_0, impl_TableOk.enc⟩
  | _ => Ans.no
def impl_TableOk.Cs (k : Nat) : CallSem := tab [(79, impl_within.ans k)]
def impl_TableOk.cuts : List (Nat × Keep) := [(26, ⟨[(1, some []), (6, some []), (7, some []), (8, some [])], [(1, [some []])]⟩)]
noncomputable def impl_TableOk.K0 : List Fr := framesAt [true, false, true, false] (bodyOf Try.f78 impl_TableOk.cuts) []
def impl_TableOk.N0 (x6z : Bool) (x6 : List T) (x7 : Int) (x8 : Int) (c1_0z : Bool) (c1_0 : List T) : St := stOf 28 28 1 [(1, .bp 1 0), (6, .val ⟨(.sl 44 x6z x6), [], false, none⟩), (7, .val (V.s (.int .i64 x7))), (8, .val (V.s (.int .i64 x8)))] [(1, .cells [⟨(.sl 44 c1_0z c1_0), [], false, none⟩])]
theorem impl_TableOk.s (k : Nat) (a0_0z : Bool) (a0_0 : List T) : answer Try.prog impl_TableOk.Cs 100000 impl_TableOk.cuts [] Try.f78 (k + 1) [.v (.agg [(.sl 44 a0_0z a0_0)])] = impl_TableOk.b (fun r => some (impl_TableOk.enc r)) (fun x6z x6 x7 x8 c1_0z c1_0 => rounds Try.prog impl_TableOk.Cs (finish Try.prog [] Try.f78 [.v (.agg [(.sl 44 a0_0z a0_0)])]) 100000 k impl_TableOk.K0 (impl_TableOk.N0 x6z x6 x7 x8 c1_0z c1_0)) k a0_0z a0_0 := by kernel_rfl
theorem impl_TableOk.s0 (k : Nat) (G : List Fr → St → Option Res) (a0_0z : Bool) (a0_0 : List T) (yx6z : Bool) (yx6 : List T) (yx7 : Int) (yx8 : Int) (yc1_0z : Bool) (yc1_0 : List T) : resume Try.prog (impl_TableOk.Cs k) G (finish Try.prog [] Try.f78 [.v (.agg [(.sl 44 a0_0z a0_0)])]) 100000 impl_TableOk.K0 (impl_TableOk.N0 yx6z yx6 yx7 yx8 yc1_0z yc1_0) = impl_TableOk.l0b (fun r => some (impl_TableOk.enc r)) (fun x6z x6 x7 x8 c1_0z c1_0 => G impl_TableOk.K0 (impl_TableOk.N0 x6z x6 x7 x8 c1_0z c1_0)) k yx6z yx6 yx7 yx8 yc1_0z yc1_0 := by kernel_rfl
theorem impl_TableOk.b_nat {R R' : Type} (e : R → R') (ret : Bool → Option R) (j0 : Bool → (List T) → Int → Int → Bool → (List T) → Option R) (k : Nat) (a0_0z : Bool) (a0_0 : List T) : impl_TableOk.b (fun r => (ret r).map e) (fun x6z x6 x7 x8 c1_0z c1_0 => (j0 x6z x6 x7 x8 c1_0z c1_0).map e) k a0_0z a0_0 = (impl_TableOk.b ret j0 k a0_0z a0_0).map e := by
  unfold impl_TableOk.b
  repeat' first | with_reducible refine nat_cond ?_ ?_ | with_reducible refine nat_bind fun _ => ?_ | rfl
theorem impl_TableOk.l0b_nat {R R' : Type} (e : R → R') (ret : Bool → Option R) (j0 : Bool → (List T) → Int → Int → Bool → (List T) → Option R) (k : Nat) (x6z : Bool) (x6 : List T) (x7 : Int) (x8 : Int) (c1_0z : Bool) (c1_0 : List T) : impl_TableOk.l0b (fun r => (ret r).map e) (fun x6z x6 x7 x8 c1_0z c1_0 => (j0 x6z x6 x7 x8 c1_0z c1_0).map e) k x6z x6 x7 x8 c1_0z c1_0 = (impl_TableOk.l0b ret j0 k x6z x6 x7 x8 c1_0z c1_0).map e := by
  unfold impl_TableOk.l0b
  repeat' first | with_reducible refine nat_cond ?_ ?_ | with_reducible refine nat_bind fun _ => ?_ | rfl
theorem impl_TableOk.rounds_eq (a0_0z : Bool) (a0_0 : List T) : ∀ k, (∀ (x6z : Bool) (x6 : List T) (x7 : Int) (x8 : Int) (c1_0z : Bool) (c1_0 : List T), rounds Try.prog impl_TableOk.Cs (finish Try.prog [] Try.f78 [.v (.agg [(.sl 44 a0_0z a0_0)])]) 100000 k impl_TableOk.K0 (impl_TableOk.N0 x6z x6 x7 x8 c1_0z c1_0) = (impl_TableOk.l0 k x6z x6 x7 x8 c1_0z c1_0).map impl_TableOk.enc)
  | 0 => fun _ _ _ _ _ _ => rfl
  | k + 1 => by
    have ih := impl_TableOk.rounds_eq a0_0z a0_0 k
    refine fun _ _ _ _ _ _ => ?_
    · refine (impl_TableOk.s0 k _ a0_0z a0_0 _ _ _ _ _ _).trans (Eq.trans ?_ (impl_TableOk.l0b_nat impl_TableOk.enc some (impl_TableOk.l0 k) k _ _ _ _ _ _))
      simp only [ih, Option.map_some]
theorem impl_TableOk.eq (k : Nat) (a0_0z : Bool) (a0_0 : List T) : answer Try.prog impl_TableOk.Cs 100000 impl_TableOk.cuts [] Try.f78 (k + 1) [.v (.agg [(.sl 44 a0_0z a0_0)])] = (impl_TableOk.f (k + 1) a0_0z a0_0).map impl_TableOk.enc := by
  have ih := impl_TableOk.rounds_eq a0_0z a0_0 k
  refine (impl_TableOk.s k a0_0z a0_0).trans (Eq.trans ?_ (impl_TableOk.b_nat impl_TableOk.enc some (impl_TableOk.l0 k) k a0_0z a0_0))
  simp only [ih, Option.map_some]
theorem impl_TableOk.sound (k : Nat) : SoundF Try.prog 78 (fun a => (impl_TableOk.ans k a).val) := by
  refine sound_plain (fun args res h => ?_) (fun t n => rfl)
  unfold impl_TableOk.ans at h
  dsimp only at h
  split at h
  · cases k with
    | zero => cases h
    | succ k =>
      unfold Ans.val at h
      rw [← impl_TableOk.eq] at h
      exact answer_sound mixed Try.func78 _ _ _ (k + 1) (fun j _ => tab_sound (tab_cons (impl_within.sound j) (tab_nil))) _ _ h
  · exact (Ans.no_val h).elim

/-! loop.example/g00790/impl.ShaInit -/
def impl_ShaInit.b {R : Type} (ret : Bool × List Int → Option R) (k : Nat) : Option R :=
  ret (false, ([1779033703, 3144134277, 1013904242, 2773480762, 1359893119, 2600822924, 528734635, 1541459225] : List Int))
def impl_ShaInit.f : Nat → Option (Bool × List Int)
  | 0 => none
  | k + 1 => impl_ShaInit.b some k
def impl_ShaInit.enc (r : Bool × List Int) : Res := ⟨[.vals false [((.nums 3 .i64 r.1 r.2), true)]], []⟩
def impl_ShaInit.ans (k : Nat) : List Arg → Ans
  | [] => ⟨impl_ShaInit.f k, impl_ShaInit.enc⟩
  | _ => Ans.no
def impl_ShaInit.Cs (k : Nat) : CallSem := tab []
def impl_ShaInit.cuts : List (Nat × Keep) := []
theorem impl_ShaInit.s (k : Nat) : answer Try.prog impl_ShaInit.Cs 100000 impl_ShaInit.cuts [] Try.f163 (k + 1) [] = impl_ShaInit.b (fun r => some (impl_ShaInit.enc r)) k := by kernel_rfl
theorem impl_ShaInit.b_nat {R R' : Type} (e : R → R') (ret : Bool × List Int → Option R) (k : Nat) : impl_ShaInit.b (fun r => (ret r).map e) k = (impl_ShaInit.b ret k).map e := by
  unfold impl_ShaInit.b
  repeat' first | with_reducible refine nat_cond ?_ ?_ | with_reducible refine nat_bind fun _ => ?_ | rfl
theorem impl_ShaInit.eq (k : Nat) : answer Try.prog impl_ShaInit.Cs 100000 impl_ShaInit.cuts [] Try.f163 (k + 1) [] = (impl_ShaInit.f (k + 1)).map impl_ShaInit.enc := by
  refine (impl_ShaInit.s k).trans (Eq.trans ?_ (impl_ShaInit.b_nat impl_ShaInit.enc some k))
  simp only [Option.map_some]
theorem impl_ShaInit.sound (k : Nat) : SoundF Try.prog 163 (fun a => (impl_ShaInit.ans k a).val) := by
  refine sound_plain (fun args res h => ?_) (fun t n => rfl)
  unfold impl_ShaInit.ans at h
  dsimp only at h
  split at h
  · cases k with
    | zero => cases h
    | succ k =>
      unfold Ans.val at h
      rw [← impl_ShaInit.eq] at h
      exact answer_sound mixed Try.func163 _ _ _ (k + 1) (fun j _ => tab_sound (tab_nil)) _ _ h
  · exact (Ans.no_val h).elim

/-! loop.example/g00790/impl.ShaPad -/
def impl_ShaPad.b {R : Type} (ret : Bool × List Int → Option R) (j0 : Bool → (List Int) → (List Int) → Option R) (j1 : Bool → (List Int) → (List Int) → Int → Option R) (k : Nat) (a0z : Bool) (a0 : List Int) : Option R :=
  (impl_copyBytes.f k a0z a0).bind fun t0 => cond (decide ((t0.2).length + 1 < 140737488355328)) (j0 a0z a0 (t0.2 ++ ([128] : List Int))) (none)
def impl_ShaPad.l0b {R : Type} (ret : Bool × List Int → Option R) (j0 : Bool → (List Int) → (List Int) → Option R) (j1 : Bool → (List Int) → (List Int) → Int → Option R) (k : Nat) (x0z : Bool) (x0 : List Int) (x3 : List Int) : Option R :=
  cond (!(decide ((Int.tmod ((x3).length : Int) 64) = 56))) (cond (decide ((x3).length + 1 < 140737488355328)) (j0 x0z x0 (x3 ++ ([0] : List Int))) (none)) (j1 x0z x0 x3 7)
def impl_ShaPad.l1b {R : Type} (ret : Bool × List Int → Option R) (j0 : Bool → (List Int) → (List Int) → Option R) (j1 : Bool → (List Int) → (List Int) → Int → Option R) (k : Nat) (x0z : Bool) (x0 : List Int) (x3 : List Int) (x4 : Int) : Option R :=
  cond (decide (x4 ≥ 0)) (cond (decide ((0 : Int) ≤ (RowKit.wrap64 ((8 : Int) * x4)))) (cond (decide ((x3).length + 1 < 140737488355328)) (j1 x0z x0 (x3 ++ ([(((shrI .i64 (RowKit.wrap64 ((8 : Int) * ((x0).length : Int))) (RowKit.wrap64 ((8 : Int) * x4)))) % 256)] : List Int)) (RowKit.wrap64 (x4 - 1))) (none)) (none)) (ret (false, x3))
mutual
def impl_ShaPad.l0 : Nat → Bool → (List Int) → (List Int) → Option (Bool × List Int)
  | 0, _, _, _ => none
  | k + 1, x0z, x0, x3 => impl_ShaPad.l0b some (impl_ShaPad.l0 k) (impl_ShaPad.l1 k) k x0z x0 x3
def impl_ShaPad.l1 : Nat → Bool → (List Int) → (List Int) → Int → Option (Bool × List Int)
  | 0, _, _, _, _ => none
  | k + 1, x0z, x0, x3, x4 => impl_ShaPad.l1b some (impl_ShaPad.l0 k) (impl_ShaPad.l1 k) k x0z x0 x3 x4
end
def impl_ShaPad.f : Nat → Bool → (List Int) → Option (Bool × List Int)
  | 0, _, _ => none
  | k + 1, a0z, a0 => impl_ShaPad.b some (impl_ShaPad.l0 k) (impl_ShaPad.l1 k) k a0z a0
def impl_ShaPad.enc (r : Bool × List Int) : Res := ⟨[.vals false [((.nums 5 .u8 r.1 r.2), true)]], []⟩
def impl_ShaPad.ans (k : Nat) : List Arg → Ans
  | [.v (.nums 5 .u8 a0z a0)] => ⟨impl_ShaPad.f k a0z a0, impl_ShaPad.enc⟩
  | _ => Ans.no
def impl_ShaPad.Cs (k : Nat) : CallSem := tab [(80, impl_copyBytes.ans k)]
def impl_ShaPad.cuts : List (Nat × Keep) := [(28, ⟨[(0, some []), (3, none)], []⟩), (122, ⟨[(0, some []), (3, none), (4, some [])], []⟩)]
noncomputable def impl_ShaPad.K0 : List Fr := framesAt [true, true, false, false] (bodyOf Try.f164 impl_ShaPad.cuts) []
def impl_ShaPad.N0 (x0z : Bool) (x0 : List Int) (x3 : List Int) : St := stOf 31 31 1 [(0, .val ⟨(.nums 5 .u8 x0z x0), [], false, none⟩), (3, .val ⟨(.nums 5 .u8 false x3), [.l 3 0], true, some (.l 3 0)⟩)] []
noncomputable def impl_ShaPad.K1 : List Fr := framesAt [true, true, true, false, true, false] (bodyOf Try.f164 impl_ShaPad.cuts) []
def impl_ShaPad.N1 (x0z : Bool) (x0 : List Int) (x3 : List Int) (x4 : Int) : St := stOf 31 31 1 [(0, .val ⟨(.nums 5 .u8 x0z x0), [], false, none⟩), (3, .val ⟨(.nums 5 .u8 false x3), [.l 3 0], true, some (.l 3 0)⟩), (4, .val (V.s (.int .i64 x4)))] []
theorem impl_ShaPad.s (k : Nat) (a0z : Bool) (a0 : List Int) : answer Try.prog impl_ShaPad.Cs 100000 impl_ShaPad.cuts [] Try.f164 (k + 1) [.v (.nums 5 .u8 a0z a0)] = impl_ShaPad.b (fun r => some (impl_ShaPad.enc r)) (fun x0z x0 x3 => rounds Try.prog impl_ShaPad.Cs (finish Try.prog [] Try.f164 [.v (.nums 5 .u8 a0z a0)]) 100000 k impl_ShaPad.K0 (impl_ShaPad.N0 x0z x0 x3)) (fun x0z x0 x3 x4 => rounds Try.prog impl_ShaPad.Cs (finish Try.prog [] Try.f164 [.v (.nums 5 .u8 a0z a0)]) 100000 k impl_ShaPad.K1 (impl_ShaPad.N1 x0z x0 x3 x4)) k a0z a0 := by kernel_rfl
theorem impl_ShaPad.s0 (k : Nat) (G : List Fr → St → Option Res) (a0z : Bool) (a0 : List Int) (yx0z : Bool) (yx0 : List Int) (yx3 : List Int) : resume Try.prog (impl_ShaPad.Cs k) G (finish Try.prog [] Try.f164 [.v (.nums 5 .u8 a0z a0)]) 100000 impl_ShaPad.K0 (impl_ShaPad.N0 yx0z yx0 yx3) = impl_ShaPad.l0b (fun r => some (impl_ShaPad.enc r)) (fun x0z x0 x3 => G impl_ShaPad.K0 (impl_ShaPad.N0 x0z x0 x3)) (fun x0z x0 x3 x4 => G impl_ShaPad.K1 (impl_ShaPad.N1 x0z x0 x3 x4)) k yx0z yx0 yx3 := by kernel_rfl
theorem impl_ShaPad.s1 (k : Nat) (G : List Fr → St → Option Res) (a0z : Bool) (a0 : List Int) (yx0z : Bool) (yx0 : List Int) (yx3 : List Int) (yx4 : Int) : resume Try.prog (impl_ShaPad.Cs k) G (finish Try.prog [] Try.f164 [.v (.nums 5 .u8 a0z a0)]) 100000 impl_ShaPad.K1 (impl_ShaPad.N1 yx0z yx0 yx3 yx4) = impl_ShaPad.l1b (fun r => some (impl_ShaPad.enc r)) (fun x0z x0 x3 => G impl_ShaPad.K0 (impl_ShaPad.N0 x0z x0 x3)) (fun x0z x0 x3 x4 => G impl_ShaPad.K1 (impl_ShaPad.N1 x0z x0 x3 x4)) k yx0z yx0 yx3 yx4 := by kernel_rfl
theorem impl_ShaPad.b_nat {R R' : Type} (e : R → R') (ret : Bool × List Int → Option R) (j0 : Bool → (List Int) → (List Int) → Option R) (j1 : Bool → (List Int) → (List Int) → Int → Option R) (k : Nat) (a0z : Bool) (a0 : List Int) : impl_ShaPad.b (fun r => (ret r).map e) (fun x0z x0 x3 => (j0 x0z x0 x3).map e) (fun x0z x0 x3 x4 => (j1 x0z x0 x3 x4).map e) k a0z a0 = (impl_ShaPad.b ret j0 j1 k a0z a0).map e := by
  unfold impl_ShaPad.b
  repeat' first | with_reducible refine nat_cond ?_ ?_ | with_reducible refine nat_bind fun _ => ?_ | rfl
theorem impl_ShaPad.l0b_nat {R R' : Type} (e : R → R') (ret : Bool × List Int → Option R) (j0 : Bool → (List Int) → (List Int) → Option R) (j1 : Bool → (List Int) → (List Int) → Int → Option R) (k : Nat) (x0z : Bool) (x0 : List Int) (x3 : List Int) : impl_ShaPad.l0b (fun r => (ret r).map e) (fun x0z x0 x3 => (j0 x0z x0 x3).map e) (fun x0z x0 x3 x4 => (j1 x0z x0 x3 x4).map e) k x0z x0 x3 = (impl_ShaPad.l0b ret j0 j1 k x0z x0 x3).map e := by
  unfold impl_ShaPad.l0b
  repeat' first | with_reducible refine nat_cond ?_ ?_ | with_reducible refine nat_bind fun _ => ?_ | rfl
theorem impl_ShaPad.l1b_nat {R R' : Type} (e : R → R') (ret : Bool × List Int → Option R) (j0 : Bool → (List Int) → (List Int) → Option R) (j1 : Bool → (List Int) → (List Int) → Int → Option R) (k : Nat) (x0z : Bool) (x0 : List Int) (x3 : List Int) (x4 : Int) : impl_ShaPad.l1b (fun r => (ret r).map e) (fun x0z x0 x3 => (j0 x0z x0 x3).map e) (fun x0z x0 x3 x4 => (j1 x0z x0 x3 x4).map e) k x0z x0 x3 x4 = (impl_ShaPad.l1b ret j0 j1 k x0z x0 x3 x4).map e := by
  unfold impl_ShaPad.l1b
  repeat' first | with_reducible refine nat_cond ?_ ?_ | with_reducible refine nat_bind fun _ => ?_ | rfl
theorem impl_ShaPad.rounds_eq (a0z : Bool) (a0 : List Int) : ∀ k, (∀ (x0z : Bool) (x0 : List Int) (x3 : List Int), rounds Try.prog impl_ShaPad.Cs (finish Try.prog [] Try.f164 [.v (.nums 5 .u8 a0z a0)]) 100000 k impl_ShaPad.K0 (impl_ShaPad.N0 x0z x0 x3) = (impl_ShaPad.l0 k x0z x0 x3).map impl_ShaPad.enc) ∧ (∀ (x0z : Bool) (x0 : List Int) (x3 : List Int) (x4 : Int), rounds Try.prog impl_ShaPad.Cs (finish Try.prog [] Try.f164 [.v (.nums 5 .u8 a0z a0)]) 100000 k impl_ShaPad.K1 (impl_ShaPad.N1 x0z x0 x3 x4) = (impl_ShaPad.l1 k x0z x0 x3 x4).map impl_ShaPad.enc)
  | 0 => ⟨fun _ _ _ => rfl, fun _ _ _ _ => rfl⟩
  | k + 1 => by
    have ih := impl_ShaPad.rounds_eq a0z a0 k
    refine ⟨fun _ _ _ => ?_, fun _ _ _ _ => ?_⟩
    · refine (impl_ShaPad.s0 k _ a0z a0 _ _ _).trans (Eq.trans ?_ (impl_ShaPad.l0b_nat impl_ShaPad.enc some (impl_ShaPad.l0 k) (impl_ShaPad.l1 k) k _ _ _))
      simp only [ih.1, ih.2, Option.map_some]
    · refine (impl_ShaPad.s1 k _ a0z a0 _ _ _ _).trans (Eq.trans ?_ (impl_ShaPad.l1b_nat impl_ShaPad.enc some (impl_ShaPad.l0 k) (impl_ShaPad.l1 k) k _ _ _ _))
      simp only [ih.1, ih.2, Option.map_some]
theorem impl_ShaPad.eq (k : Nat) (a0z : Bool) (a0 : List Int) : answer Try.prog impl_ShaPad.Cs 100000 impl_ShaPad.cuts [] Try.f164 (k + 1) [.v (.nums 5 .u8 a0z a0)] = (impl_ShaPad.f (k + 1) a0z a0).map impl_ShaPad.enc := by
  have ih := impl_ShaPad.rounds_eq a0z a0 k
  refine (impl_ShaPad.s k a0z a0).trans (Eq.trans ?_ (impl_ShaPad.b_nat impl_ShaPad.enc some (impl_ShaPad.l0 k) (impl_ShaPad.l1 k) k a0z a0))
  simp only [ih.1, ih.2, Option.map_some]
theorem impl_ShaPad.sound (k : Nat) : SoundF Try.prog 164 (fun a => (impl_ShaPad.ans k a).val) := by
  refine sound_plain (fun args res h => ?_) (fun t n => rfl)
  unfold impl_ShaPad.ans at h
  dsimp only at h
  split at h
  · cases k with
    | zero => cases h
    | succ k =>
      unfold Ans.val at h
      rw [← impl_ShaPad.eq] at h
      exact answer_sound mixed Try.func164 _ _ _ (k + 1) (fun j _ => tab_sound (tab_cons (impl_copyBytes.sound j) (tab_nil))) _ _ h
  · exact (Ans.no_val h).elim

/-! loop.example/g00790/impl.isWord -/
def impl_isWord.b {R : Type} (ret : Bool → Option R) (k : Nat) (a0 : Int) : Option R :=
  (impl_within.f k a0 0 4294967295).bind fun t0 => ret t0
def impl_isWord.f : Nat → Int → Option Bool
  | 0, _ => none
  | k + 1, a0 => impl_isWord.b some k a0
def impl_isWord.enc (r : Bool) : Res := ⟨[.vals false [((.bool r), true)]], []⟩
def impl_isWord.ans (k : Nat) : List Arg → Ans
  | [.v (.int .i64 a0)] => ⟨impl_isWord.f k a0, impl_isWord.enc⟩
  | _ => Ans.no
def impl_isWord.Cs (k : Nat) : CallSem := tab [(79, impl_within.ans k)]
def impl_isWord.cuts : List (Nat × Keep) := []
theorem impl_isWord.s (k : Nat) (a0 : Int) : answer Try.prog impl_isWord.Cs 100000 impl_isWord.cuts [] Try.f199 (k + 1) [.v (.int .i64 a0)] = impl_isWord.b (fun r => some (impl_isWord.enc r)) k a0 := by kernel_rfl
theorem impl_isWord.b_nat {R R' : Type} (e : R → R') (ret : Bool → Option R) (k : Nat) (a0 : Int) : impl_isWord.b (fun r => (ret r).map e) k a0 = (impl_isWord.b ret k a0).map e := by
  unfold impl_isWord.b
  repeat' first | with_reducible refine nat_cond ?_ ?_ | with_reducible refine nat_bind fun _ => ?_ | rfl
theorem impl_isWord.eq (k : Nat) (a0 : Int) : answer Try.prog impl_isWord.Cs 100000 impl_isWord.cuts [] Try.f199 (k + 1) [.v (.int .i64 a0)] = (impl_isWord.f (k + 1) a0).map impl_isWord.enc := by
  refine (impl_isWord.s k a0).trans (Eq.trans ?_ (impl_isWord.b_nat impl_isWord.enc some k a0))
  simp only [Option.map_some]
theorem impl_isWord.sound (k : Nat) : SoundF Try.prog 199 (fun a => (impl_isWord.ans k a).val) := by
  refine sound_plain (fun args res h => ?_) (fun t n => rfl)
  unfold impl_isWord.ans at h
  dsimp only at h
  split at h
  · cases k with
    | zero => cases h
    | succ k =>
      unfold Ans.val at h
      rw [← impl_isWord.eq] at h
      exact answer_sound mixed Try.func199 _ _ _ (k + 1) (fun j _ => tab_sound (tab_cons (impl_within.sound j) (tab_nil))) _ _ h
  · exact (Ans.no_val h).elim

/-! loop.example/g00790/impl.rounds -/
def impl_rounds.b {R : Type} (ret : Bool × List Int → Option R) (k : Nat) : Option R :=
  ret (false, ([1116352408, 1899447441, 3049323471, 3921009573, 961987163, 1508970993, 2453635748, 2870763221, 3624381080, 310598401, 607225278, 1426881987, 1925078388, 2162078206, 2614888103, 3248222580, 3835390401, 4022224774, 264347078, 604807628, 770255983, 1249150122, 1555081692, 1996064986, 2554220882, 2821834349, 2952996808, 3210313671, 3336571891, 3584528711, 113926993, 338241895, 666307205, 773529912, 1294757372, 1396182291, 1695183700, 1986661051, 2177026350, 2456956037, 2730485921, 2820302411, 3259730800, 3345764771, 3516065817, 3600352804, 4094571909, 275423344, 430227734, 506948616, 659060556, 883997877, 958139571, 1322822218, 1537002063, 1747873779, 1955562222, 2024104815, 2227730452, 2361852424, 2428436474, 2756734187, 3204031479, 3329325298] : List Int))
def impl_rounds.f : Nat → Option (Bool × List Int)
  | 0 => none
  | k + 1 => impl_rounds.b some k
def impl_rounds.enc (r : Bool × List Int) : Res := ⟨[.vals false [((.nums 3 .i64 r.1 r.2), true)]], []⟩
def impl_rounds.ans (k : Nat) : List Arg → Ans
  | [] => ⟨impl_rounds.f k, impl_rounds.enc⟩
  | _ => Ans.no
def impl_rounds.Cs (k : Nat) : CallSem := tab []
def impl_rounds.cuts : List (Nat × Keep) := []
theorem impl_rounds.s (k : Nat) : answer Try.prog impl_rounds.Cs 100000 impl_rounds.cuts [] Try.f200 (k + 1) [] = impl_rounds.b (fun r => some (impl_rounds.enc r)) k := by kernel_rfl
theorem impl_rounds.b_nat {R R' : Type} (e : R → R') (ret : Bool × List Int → Option R) (k : Nat) : impl_rounds.b (fun r => (ret r).map e) k = (impl_rounds.b ret k).map e := by
  unfold impl_rounds.b
  repeat' first | with_reducible refine nat_cond ?_ ?_ | with_reducible refine nat_bind fun _ => ?_ | rfl
theorem impl_rounds.eq (k : Nat) : answer Try.prog impl_rounds.Cs 100000 impl_rounds.cuts [] Try.f200 (k + 1) [] = (impl_rounds.f (k + 1)).map impl_rounds.enc := by
  refine (impl_rounds.s k).trans (Eq.trans ?_ (impl_rounds.b_nat impl_rounds.enc some k))
  simp only [Option.map_some]
theorem impl_rounds.sound (k : Nat) : SoundF Try.prog 200 (fun a => (impl_rounds.ans k a).val) := by
  refine sound_plain (fun args res h => ?_) (fun t n => rfl)
  unfold impl_rounds.ans at h
  dsimp only at h
  split at h
  · cases k with
    | zero => cases h
    | succ k =>
      unfold Ans.val at h
      rw [← impl_rounds.eq] at h
      exact answer_sound mixed Try.func200 _ _ _ (k + 1) (fun j _ => tab_sound (tab_nil)) _ _ h
  · exact (Ans.no_val h).elim

/-! loop.example/g00790/impl.TurnRight -/
def impl_TurnRight.b {R : Type} (ret : Int → Option R) (k : Nat) (a0 : Int) (a1 : Int) : Option R :=
  (impl_isWord.f k a0).bind fun t0 => cond (!t0) (ret 0) ((impl_within.f k a1 0 31).bind fun t1 => cond (!t1) (ret 0) (cond (decide ((0 : Int) ≤ a1)) (cond (decide ((0 : Int) ≤ (RowKit.wrap64 ((32 : Int) - a1)))) (ret (Go.bits .and .i64 (Go.bits .or .i64 (shrI .i64 a0 a1) (shlI .i64 a0 (RowKit.wrap64 ((32 : Int) - a1)))) 4294967295)) (none)) (none)))
def impl_TurnRight.f : Nat → Int → Int → Option Int
  | 0, _, _ => none
  | k + 1, a0, a1 => impl_TurnRight.b some k a0 a1
def impl_TurnRight.enc (r : Int) : Res := ⟨[.vals false [((.int .i64 r), true)]], []⟩
def impl_TurnRight.ans (k : Nat) : List Arg → Ans
  | [.v (.int .i64 a0), .v (.int .i64 a1)] => ⟨impl_TurnRight.f k a0 a1, impl_TurnRight.enc⟩
  | _ => Ans.no
def impl_TurnRight.Cs (k : Nat) : CallSem := tab [(79, impl_within.ans k), (199, impl_isWord.ans k)]
def impl_TurnRight.cuts : List (Nat × Keep) := []
theorem impl_TurnRight.s (k : Nat) (a0 : Int) (a1 : Int) : answer Try.prog impl_TurnRight.Cs 100000 impl_TurnRight.cuts [] Try.f201 (k + 1) [.v (.int .i64 a0), .v (.int .i64 a1)] = impl_TurnRight.b (fun r => some (impl_TurnRight.enc r)) k a0 a1 := by kernel_rfl
theorem impl_TurnRight.b_nat {R R' : Type} (e : R → R') (ret : Int → Option R) (k : Nat) (a0 : Int) (a1 : Int) : impl_TurnRight.b (fun r => (ret r).map e) k a0 a1 = (impl_TurnRight.b ret k a0 a1).map e := by
  unfold impl_TurnRight.b
  repeat' first | with_reducible refine nat_cond ?_ ?_ | with_reducible refine nat_bind fun _ => ?_ | rfl
theorem impl_TurnRight.eq (k : Nat) (a0 : Int) (a1 : Int) : answer Try.prog impl_TurnRight.Cs 100000 impl_TurnRight.cuts [] Try.f201 (k + 1) [.v (.int .i64 a0), .v (.int .i64 a1)] = (impl_TurnRight.f (k + 1) a0 a1).map impl_TurnRight.enc := by
  refine (impl_TurnRight.s k a0 a1).trans (Eq.trans ?_ (impl_TurnRight.b_nat impl_TurnRight.enc some k a0 a1))
  simp only [Option.map_some]
theorem impl_TurnRight.sound (k : Nat) : SoundF Try.prog 201 (fun a => (impl_TurnRight.ans k a).val) := by
  refine sound_plain (fun args res h => ?_) (fun t n => rfl)
  unfold impl_TurnRight.ans at h
  dsimp only at h
  split at h
  · cases k with
    | zero => cases h
    | succ k =>
      unfold Ans.val at h
      rw [← impl_TurnRight.eq] at h
      exact answer_sound mixed Try.func201 _ _ _ (k + 1) (fun j _ => tab_sound (tab_cons (impl_within.sound j) (tab_cons (impl_isWord.sound j) (tab_nil)))) _ _ h
  · exact (Ans.no_val h).elim

end Go.Proofs.YtbpcnodmgphinaaG
