/- What the functions compute, printed by a program of this repo; each is shown to be what the machine of values answers. No condition. -/
import Derived.Test.YthocpcfjfgnkgaaDoorProg
import Derived.KernelRfl
import Derived.Test.YthocpcfjfgnkgaaDoorLay
namespace Go.Proofs.YthocpcfjfgnkgaaDoorG
open Go Go.Proofs.YthocpcfjfgnkgaaDoorRv Go.Proofs
set_option linter.unusedVariables false
set_option linter.unusedSimpArgs false
theorem mixed : Tryd.prog.follows .mixedOrders = true := by kernel_rfl
/-! loop.example/g00790/spec.l01New -/
def spec_l01New.b {R : Type} (ret : Bool × (List Int) × Int × Int → Option R) (j0 : Bool → (List Int) → Int → Int → Option R) (k : Nat) (a0z : Bool) (a0 : List Int) : Option R :=
  j0 a0z a0 (RowKit.wrap64 ((1611 : Int) + ((a0).length : Int))) 0
def spec_l01New.l0b {R : Type} (ret : Bool × (List Int) × Int × Int → Option R) (j0 : Bool → (List Int) → Int → Int → Option R) (k : Nat) (x0z : Bool) (x0 : List Int) (x3 : Int) (x4 : Int) : Option R :=
  cond (decide (x4 < ((x0).length : Int))) (cond (decide (x4 < 4000)) (cond (decide ((0 : Int) ≤ x4)) (cond (decide (x4 < ((x0).length : Int))) (j0 x0z x0 (Go.bits .and .i64 (RowKit.wrap64 ((RowKit.wrap64 ((RowKit.wrap64 (x3 * 37)) + (RowKit.wrap64 ((rdI x0 x4))))) + 7)) 1073741823) (RowKit.wrap64 (x4 + 1))) (none)) (none)) (ret (x0z, x0, 0, x3))) (ret (x0z, x0, 0, x3))
def spec_l01New.l0 : Nat → Bool → (List Int) → Int → Int → Option (Bool × (List Int) × Int × Int)
  | 0, _, _, _, _ => none
  | k + 1, x0z, x0, x3, x4 => spec_l01New.l0b some (spec_l01New.l0 k) k x0z x0 x3 x4
def spec_l01New.f : Nat → Bool → (List Int) → Option (Bool × (List Int) × Int × Int)
  | 0, _, _ => none
  | k + 1, a0z, a0 => spec_l01New.b some (spec_l01New.l0 k) k a0z a0
def spec_l01New.enc (r : Bool × (List Int) × Int × Int) : Res := ⟨[.box [((.nums 5 .u8 r.1 r.2.1), false), ((.int .i64 r.2.2.1), true), ((.int .i64 r.2.2.2), true)]], []⟩
def spec_l01New.ans (k : Nat) : List Arg → Ans
  | [.v (.nums 5 .u8 a0z a0)] => ⟨spec_l01New.f k a0z a0, spec_l01New.enc⟩
  | _ => Ans.no
def spec_l01New.Cs (k : Nat) : CallSem := tab []
def spec_l01New.cuts : List (Nat × Keep) := [(58, ⟨[(0, some []), (3, some []), (4, some [])], []⟩)]
noncomputable def spec_l01New.K0 : List Fr := framesAt [true, true, false, true, false] (bodyOf Tryd.f12 spec_l01New.cuts) []
def spec_l01New.N0 (x0z : Bool) (x0 : List Int) (x3 : Int) (x4 : Int) : St := stOf 32 32 1 [(0, .val ⟨(.nums 5 .u8 x0z x0), [], false, none⟩), (3, .val (V.s (.int .i64 x3))), (4, .val (V.s (.int .i64 x4)))] []
theorem spec_l01New.s (k : Nat) (a0z : Bool) (a0 : List Int) : answer Tryd.prog spec_l01New.Cs 100000 spec_l01New.cuts [false, true, true] Tryd.f12 (k + 1) [.v (.nums 5 .u8 a0z a0)] = spec_l01New.b (fun r => some (spec_l01New.enc r)) (fun x0z x0 x3 x4 => rounds Tryd.prog spec_l01New.Cs (finish Tryd.prog [false, true, true] Tryd.f12 [.v (.nums 5 .u8 a0z a0)]) 100000 k spec_l01New.K0 (spec_l01New.N0 x0z x0 x3 x4)) k a0z a0 := by kernel_rfl
theorem spec_l01New.s0 (k : Nat) (G : List Fr → St → Option Res) (a0z : Bool) (a0 : List Int) (yx0z : Bool) (yx0 : List Int) (yx3 : Int) (yx4 : Int) : resume Tryd.prog (spec_l01New.Cs k) G (finish Tryd.prog [false, true, true] Tryd.f12 [.v (.nums 5 .u8 a0z a0)]) 100000 spec_l01New.K0 (spec_l01New.N0 yx0z yx0 yx3 yx4) = spec_l01New.l0b (fun r => some (spec_l01New.enc r)) (fun x0z x0 x3 x4 => G spec_l01New.K0 (spec_l01New.N0 x0z x0 x3 x4)) k yx0z yx0 yx3 yx4 := by kernel_rfl
theorem spec_l01New.b_nat {R R' : Type} (e : R → R') (ret : Bool × (List Int) × Int × Int → Option R) (j0 : Bool → (List Int) → Int → Int → Option R) (k : Nat) (a0z : Bool) (a0 : List Int) : spec_l01New.b (fun r => (ret r).map e) (fun x0z x0 x3 x4 => (j0 x0z x0 x3 x4).map e) k a0z a0 = (spec_l01New.b ret j0 k a0z a0).map e := by
  unfold spec_l01New.b
  repeat' first | with_reducible refine nat_cond ?_ ?_ | with_reducible refine nat_bind fun _ => ?_ | rfl
theorem spec_l01New.l0b_nat {R R' : Type} (e : R → R') (ret : Bool × (List Int) × Int × Int → Option R) (j0 : Bool → (List Int) → Int → Int → Option R) (k : Nat) (x0z : Bool) (x0 : List Int) (x3 : Int) (x4 : Int) : spec_l01New.l0b (fun r => (ret r).map e) (fun x0z x0 x3 x4 => (j0 x0z x0 x3 x4).map e) k x0z x0 x3 x4 = (spec_l01New.l0b ret j0 k x0z x0 x3 x4).map e := by
  unfold spec_l01New.l0b
  repeat' first | with_reducible refine nat_cond ?_ ?_ | with_reducible refine nat_bind fun _ => ?_ | rfl
theorem spec_l01New.rounds_eq (a0z : Bool) (a0 : List Int) : ∀ k, (∀ (x0z : Bool) (x0 : List Int) (x3 : Int) (x4 : Int), rounds Tryd.prog spec_l01New.Cs (finish Tryd.prog [false, true, true] Tryd.f12 [.v (.nums 5 .u8 a0z a0)]) 100000 k spec_l01New.K0 (spec_l01New.N0 x0z x0 x3 x4) = (spec_l01New.l0 k x0z x0 x3 x4).map spec_l01New.enc)
  | 0 => fun _ _ _ _ => rfl
  | k + 1 => by
    have ih := spec_l01New.rounds_eq a0z a0 k
    refine fun _ _ _ _ => ?_
    · refine (spec_l01New.s0 k _ a0z a0 _ _ _ _).trans (Eq.trans ?_ (spec_l01New.l0b_nat spec_l01New.enc some (spec_l01New.l0 k) k _ _ _ _))
      simp only [ih, Option.map_some]
theorem spec_l01New.eq (k : Nat) (a0z : Bool) (a0 : List Int) : answer Tryd.prog spec_l01New.Cs 100000 spec_l01New.cuts [false, true, true] Tryd.f12 (k + 1) [.v (.nums 5 .u8 a0z a0)] = (spec_l01New.f (k + 1) a0z a0).map spec_l01New.enc := by
  have ih := spec_l01New.rounds_eq a0z a0 k
  refine (spec_l01New.s k a0z a0).trans (Eq.trans ?_ (spec_l01New.b_nat spec_l01New.enc some (spec_l01New.l0 k) k a0z a0))
  simp only [ih, Option.map_some]
theorem spec_l01New.sound (k : Nat) : SoundF Tryd.prog 12 (fun a => (spec_l01New.ans k a).val) := by
  refine sound_plain (fun args res h => ?_) (fun t n => rfl)
  unfold spec_l01New.ans at h
  dsimp only at h
  split at h
  · cases k with
    | zero => cases h
    | succ k =>
      unfold Ans.val at h
      rw [← spec_l01New.eq] at h
      exact answer_sound mixed Tryd.func12 _ _ _ (k + 1) (fun j _ => tab_sound (tab_nil)) _ _ h
  · exact (Ans.no_val h).elim

/-! loop.example/g00790/spec.l01Byte -/
def spec_l01Byte.b {R : Type} (ret : Int × Bool × (List Int) × Int × Int → Option R) (k : Nat) (a0_0z : Bool) (a0_0 : List Int) (a0_1 : Int) (a0_2 : Int) : Option R :=
  cond (decide (a0_1 < ((a0_0).length : Int))) (cond (decide ((0 : Int) ≤ a0_1)) (cond (decide (a0_1 < ((a0_0).length : Int))) (ret ((Go.bits .and .i64 (RowKit.wrap64 ((Go.bits .and .i64 (Go.bits .xor .i64 (shrI .i64 (RowKit.wrap64 ((RowKit.wrap64 (a0_2 * 6364136223846793005)) + 1442695040888963407)) 33) (shrI .i64 (RowKit.wrap64 ((RowKit.wrap64 (a0_2 * 6364136223846793005)) + 1442695040888963407)) 45)) 255) + (RowKit.wrap64 ((rdI a0_0 a0_1))))) 255), a0_0z, a0_0, (RowKit.wrap64 (a0_1 + 1)), (RowKit.wrap64 ((RowKit.wrap64 (a0_2 * 6364136223846793005)) + 1442695040888963407)))) (none)) (none)) (ret ((Go.bits .and .i64 (Go.bits .xor .i64 (shrI .i64 (RowKit.wrap64 ((RowKit.wrap64 (a0_2 * 6364136223846793005)) + 1442695040888963407)) 33) (shrI .i64 (RowKit.wrap64 ((RowKit.wrap64 (a0_2 * 6364136223846793005)) + 1442695040888963407)) 45)) 255), a0_0z, a0_0, a0_1, (RowKit.wrap64 ((RowKit.wrap64 (a0_2 * 6364136223846793005)) + 1442695040888963407))))
def spec_l01Byte.f : Nat → Bool → (List Int) → Int → Int → Option (Int × Bool × (List Int) × Int × Int)
  | 0, _, _, _, _ => none
  | k + 1, a0_0z, a0_0, a0_1, a0_2 => spec_l01Byte.b some k a0_0z a0_0 a0_1 a0_2
def spec_l01Byte.enc (r : Int × Bool × (List Int) × Int × Int) : Res := ⟨[.vals false [((.int .i64 r.1), true)]], [[((.nums 5 .u8 r.2.1 r.2.2.1), false), ((.int .i64 r.2.2.2.1), true), ((.int .i64 r.2.2.2.2), true)]]⟩
def spec_l01Byte.ans (k : Nat) : List Arg → Ans
  | [.box [((.nums 5 .u8 a0_0z a0_0), false), ((.int .i64 a0_1), false), ((.int .i64 a0_2), false)]] => ⟨spec_l01Byte.f k a0_0z a0_0 a0_1 a0_2, spec_l01Byte.enc⟩
  | _ => Ans.no
def spec_l01Byte.Cs (k : Nat) : CallSem := tab []
def spec_l01Byte.cuts : List (Nat × Keep) := []
theorem spec_l01Byte.s (k : Nat) (a0_0z : Bool) (a0_0 : List Int) (a0_1 : Int) (a0_2 : Int) : answer Tryd.prog spec_l01Byte.Cs 100000 spec_l01Byte.cuts [true, false, true, true] Tryd.f39 (k + 1) [.box [((.nums 5 .u8 a0_0z a0_0), false), ((.int .i64 a0_1), false), ((.int .i64 a0_2), false)]] = spec_l01Byte.b (fun r => some (spec_l01Byte.enc r)) k a0_0z a0_0 a0_1 a0_2 := by kernel_rfl
theorem spec_l01Byte.b_nat {R R' : Type} (e : R → R') (ret : Int × Bool × (List Int) × Int × Int → Option R) (k : Nat) (a0_0z : Bool) (a0_0 : List Int) (a0_1 : Int) (a0_2 : Int) : spec_l01Byte.b (fun r => (ret r).map e) k a0_0z a0_0 a0_1 a0_2 = (spec_l01Byte.b ret k a0_0z a0_0 a0_1 a0_2).map e := by
  unfold spec_l01Byte.b
  repeat' first | with_reducible refine nat_cond ?_ ?_ | with_reducible refine nat_bind fun _ => ?_ | rfl
theorem spec_l01Byte.eq (k : Nat) (a0_0z : Bool) (a0_0 : List Int) (a0_1 : Int) (a0_2 : Int) : answer Tryd.prog spec_l01Byte.Cs 100000 spec_l01Byte.cuts [true, false, true, true] Tryd.f39 (k + 1) [.box [((.nums 5 .u8 a0_0z a0_0), false), ((.int .i64 a0_1), false), ((.int .i64 a0_2), false)]] = (spec_l01Byte.f (k + 1) a0_0z a0_0 a0_1 a0_2).map spec_l01Byte.enc := by
  refine (spec_l01Byte.s k a0_0z a0_0 a0_1 a0_2).trans (Eq.trans ?_ (spec_l01Byte.b_nat spec_l01Byte.enc some k a0_0z a0_0 a0_1 a0_2))
  simp only [Option.map_some]
theorem spec_l01Byte.sound (k : Nat) : SoundF Tryd.prog 39 (fun a => (spec_l01Byte.ans k a).val) := by
  refine sound_plain (fun args res h => ?_) (fun t n => rfl)
  unfold spec_l01Byte.ans at h
  dsimp only at h
  split at h
  · cases k with
    | zero => cases h
    | succ k =>
      unfold Ans.val at h
      rw [← spec_l01Byte.eq] at h
      exact answer_sound mixed Tryd.func39 _ _ _ (k + 1) (fun j _ => tab_sound (tab_nil)) _ _ h
  · exact (Ans.no_val h).elim

/-! loop.example/g00790/spec.l01Below -/
def spec_l01Below.b {R : Type} (ret : Int × Bool × (List Int) × Int × Int → Option R) (k : Nat) (a0_0z : Bool) (a0_0 : List Int) (a0_1 : Int) (a0_2 : Int) (a1 : Int) : Option R :=
  cond (decide (a1 ≤ 0)) (ret (0, a0_0z, a0_0, a0_1, a0_2)) (cond (decide (a1 ≤ 256)) ((spec_l01Byte.f k a0_0z a0_0 a0_1 a0_2).bind fun t0 => cond (!(decide (a1 = 0))) (ret ((Int.tmod t0.1 a1), t0.2.1, t0.2.2.1, t0.2.2.2.1, t0.2.2.2.2)) (none)) ((spec_l01Byte.f k a0_0z a0_0 a0_1 a0_2).bind fun t0 => (spec_l01Byte.f k t0.2.1 t0.2.2.1 t0.2.2.2.1 t0.2.2.2.2).bind fun t1 => (spec_l01Byte.f k t1.2.1 t1.2.2.1 t1.2.2.2.1 t1.2.2.2.2).bind fun t2 => (spec_l01Byte.f k t2.2.1 t2.2.2.1 t2.2.2.2.1 t2.2.2.2.2).bind fun t3 => cond (!(decide (a1 = 0))) (ret ((Int.tmod (RowKit.wrap64 ((RowKit.wrap64 ((RowKit.wrap64 ((RowKit.wrap64 (t0.1 * 16777216)) + (RowKit.wrap64 (t1.1 * 65536)))) + (RowKit.wrap64 (t2.1 * 256)))) + t3.1)) a1), t3.2.1, t3.2.2.1, t3.2.2.2.1, t3.2.2.2.2)) (none)))
def spec_l01Below.f : Nat → Bool → (List Int) → Int → Int → Int → Option (Int × Bool × (List Int) × Int × Int)
  | 0, _, _, _, _, _ => none
  | k + 1, a0_0z, a0_0, a0_1, a0_2, a1 => spec_l01Below.b some k a0_0z a0_0 a0_1 a0_2 a1
def spec_l01Below.enc (r : Int × Bool × (List Int) × Int × Int) : Res := ⟨[.vals false [((.int .i64 r.1), true)]], [[((.nums 5 .u8 r.2.1 r.2.2.1), false), ((.int .i64 r.2.2.2.1), true), ((.int .i64 r.2.2.2.2), true)]]⟩
def spec_l01Below.ans (k : Nat) : List Arg → Ans
  | [.box [((.nums 5 .u8 a0_0z a0_0), false), ((.int .i64 a0_1), false), ((.int .i64 a0_2), false)], .v (.int .i64 a1)] => ⟨spec_l01Below.f k a0_0z a0_0 a0_1 a0_2 a1, spec_l01Below.enc⟩
  | _ => Ans.no
def spec_l01Below.Cs (k : Nat) : CallSem := tab [(39, spec_l01Byte.ans k)]
def spec_l01Below.cuts : List (Nat × Keep) := []
theorem spec_l01Below.s (k : Nat) (a0_0z : Bool) (a0_0 : List Int) (a0_1 : Int) (a0_2 : Int) (a1 : Int) : answer Tryd.prog spec_l01Below.Cs 100000 spec_l01Below.cuts [true, false, true, true] Tryd.f26 (k + 1) [.box [((.nums 5 .u8 a0_0z a0_0), false), ((.int .i64 a0_1), false), ((.int .i64 a0_2), false)], .v (.int .i64 a1)] = spec_l01Below.b (fun r => some (spec_l01Below.enc r)) k a0_0z a0_0 a0_1 a0_2 a1 := by kernel_rfl
theorem spec_l01Below.b_nat {R R' : Type} (e : R → R') (ret : Int × Bool × (List Int) × Int × Int → Option R) (k : Nat) (a0_0z : Bool) (a0_0 : List Int) (a0_1 : Int) (a0_2 : Int) (a1 : Int) : spec_l01Below.b (fun r => (ret r).map e) k a0_0z a0_0 a0_1 a0_2 a1 = (spec_l01Below.b ret k a0_0z a0_0 a0_1 a0_2 a1).map e := by
  unfold spec_l01Below.b
  repeat' first | with_reducible refine nat_cond ?_ ?_ | with_reducible refine nat_bind fun _ => ?_ | rfl
theorem spec_l01Below.eq (k : Nat) (a0_0z : Bool) (a0_0 : List Int) (a0_1 : Int) (a0_2 : Int) (a1 : Int) : answer Tryd.prog spec_l01Below.Cs 100000 spec_l01Below.cuts [true, false, true, true] Tryd.f26 (k + 1) [.box [((.nums 5 .u8 a0_0z a0_0), false), ((.int .i64 a0_1), false), ((.int .i64 a0_2), false)], .v (.int .i64 a1)] = (spec_l01Below.f (k + 1) a0_0z a0_0 a0_1 a0_2 a1).map spec_l01Below.enc := by
  refine (spec_l01Below.s k a0_0z a0_0 a0_1 a0_2 a1).trans (Eq.trans ?_ (spec_l01Below.b_nat spec_l01Below.enc some k a0_0z a0_0 a0_1 a0_2 a1))
  simp only [Option.map_some]
theorem spec_l01Below.sound (k : Nat) : SoundF Tryd.prog 26 (fun a => (spec_l01Below.ans k a).val) := by
  refine sound_plain (fun args res h => ?_) (fun t n => rfl)
  unfold spec_l01Below.ans at h
  dsimp only at h
  split at h
  · cases k with
    | zero => cases h
    | succ k =>
      unfold Ans.val at h
      rw [← spec_l01Below.eq] at h
      exact answer_sound mixed Tryd.func26 _ _ _ (k + 1) (fun j _ => tab_sound (tab_cons (spec_l01Byte.sound j) (tab_nil))) _ _ h
  · exact (Ans.no_val h).elim

/-! loop.example/g00790/spec.l01Pick -/
def spec_l01Pick.b {R : Type} (ret : Int × Bool × (List Int) × Int × Int → Option R) (k : Nat) (a0_0z : Bool) (a0_0 : List Int) (a0_1 : Int) (a0_2 : Int) (a1z : Bool) (a1 : List Int) : Option R :=
  (spec_l01Below.f k a0_0z a0_0 a0_1 a0_2 ((a1).length : Int)).bind fun t0 => cond (decide ((0 : Int) ≤ t0.1)) (cond (decide (t0.1 < ((a1).length : Int))) (ret ((rdI a1 t0.1), t0.2.1, t0.2.2.1, t0.2.2.2.1, t0.2.2.2.2)) (none)) (none)
def spec_l01Pick.f : Nat → Bool → (List Int) → Int → Int → Bool → (List Int) → Option (Int × Bool × (List Int) × Int × Int)
  | 0, _, _, _, _, _, _ => none
  | k + 1, a0_0z, a0_0, a0_1, a0_2, a1z, a1 => spec_l01Pick.b some k a0_0z a0_0 a0_1 a0_2 a1z a1
def spec_l01Pick.enc (r : Int × Bool × (List Int) × Int × Int) : Res := ⟨[.vals false [((.int .i64 r.1), true)]], [[((.nums 5 .u8 r.2.1 r.2.2.1), false), ((.int .i64 r.2.2.2.1), true), ((.int .i64 r.2.2.2.2), true)]]⟩
def spec_l01Pick.ans (k : Nat) : List Arg → Ans
  | [.box [((.nums 5 .u8 a0_0z a0_0), false), ((.int .i64 a0_1), false), ((.int .i64 a0_2), false)], .v (.nums 3 .i64 a1z a1)] => ⟨spec_l01Pick.f k a0_0z a0_0 a0_1 a0_2 a1z a1, spec_l01Pick.enc⟩
  | _ => Ans.no
def spec_l01Pick.Cs (k : Nat) : CallSem := tab [(26, spec_l01Below.ans k)]
def spec_l01Pick.cuts : List (Nat × Keep) := []
theorem spec_l01Pick.s (k : Nat) (a0_0z : Bool) (a0_0 : List Int) (a0_1 : Int) (a0_2 : Int) (a1z : Bool) (a1 : List Int) : answer Tryd.prog spec_l01Pick.Cs 100000 spec_l01Pick.cuts [true, false, true, true] Tryd.f38 (k + 1) [.box [((.nums 5 .u8 a0_0z a0_0), false), ((.int .i64 a0_1), false), ((.int .i64 a0_2), false)], .v (.nums 3 .i64 a1z a1)] = spec_l01Pick.b (fun r => some (spec_l01Pick.enc r)) k a0_0z a0_0 a0_1 a0_2 a1z a1 := by kernel_rfl
theorem spec_l01Pick.b_nat {R R' : Type} (e : R → R') (ret : Int × Bool × (List Int) × Int × Int → Option R) (k : Nat) (a0_0z : Bool) (a0_0 : List Int) (a0_1 : Int) (a0_2 : Int) (a1z : Bool) (a1 : List Int) : spec_l01Pick.b (fun r => (ret r).map e) k a0_0z a0_0 a0_1 a0_2 a1z a1 = (spec_l01Pick.b ret k a0_0z a0_0 a0_1 a0_2 a1z a1).map e := by
  unfold spec_l01Pick.b
  repeat' first | with_reducible refine nat_cond ?_ ?_ | with_reducible refine nat_bind fun _ => ?_ | rfl
theorem spec_l01Pick.eq (k : Nat) (a0_0z : Bool) (a0_0 : List Int) (a0_1 : Int) (a0_2 : Int) (a1z : Bool) (a1 : List Int) : answer Tryd.prog spec_l01Pick.Cs 100000 spec_l01Pick.cuts [true, false, true, true] Tryd.f38 (k + 1) [.box [((.nums 5 .u8 a0_0z a0_0), false), ((.int .i64 a0_1), false), ((.int .i64 a0_2), false)], .v (.nums 3 .i64 a1z a1)] = (spec_l01Pick.f (k + 1) a0_0z a0_0 a0_1 a0_2 a1z a1).map spec_l01Pick.enc := by
  refine (spec_l01Pick.s k a0_0z a0_0 a0_1 a0_2 a1z a1).trans (Eq.trans ?_ (spec_l01Pick.b_nat spec_l01Pick.enc some k a0_0z a0_0 a0_1 a0_2 a1z a1))
  simp only [Option.map_some]
theorem spec_l01Pick.sound (k : Nat) : SoundF Tryd.prog 38 (fun a => (spec_l01Pick.ans k a).val) := by
  refine sound_plain (fun args res h => ?_) (fun t n => rfl)
  unfold spec_l01Pick.ans at h
  dsimp only at h
  split at h
  · cases k with
    | zero => cases h
    | succ k =>
      unfold Ans.val at h
      rw [← spec_l01Pick.eq] at h
      exact answer_sound mixed Tryd.func38 _ _ _ (k + 1) (fun j _ => tab_sound (tab_cons (spec_l01Below.sound j) (tab_nil))) _ _ h
  · exact (Ans.no_val h).elim

/-! loop.example/g00790/spec.l10Draw -/
def spec_l10Draw.b {R : Type} (ret : Int × Int × Int × Int × Int × Bool × (List Int) × Int × Int → Option R) (k : Nat) (a0_0z : Bool) (a0_0 : List Int) (a0_1 : Int) (a0_2 : Int) : Option R :=
  (spec_l01Pick.f k a0_0z a0_0 a0_1 a0_2 false ([1, 3, 4, 4, 7, 9, 10] : List Int)).bind fun t0 => (spec_l01Pick.f k t0.2.1 t0.2.2.1 t0.2.2.2.1 t0.2.2.2.2 false ([0, 4, 8, 40] : List Int)).bind fun t1 => (spec_l01Pick.f k t1.2.1 t1.2.2.1 t1.2.2.2.1 t1.2.2.2.2 false ([0, 3, 8] : List Int)).bind fun t2 => (spec_l01Pick.f k t2.2.1 t2.2.2.1 t2.2.2.2.1 t2.2.2.2.2 false ([4000, 4000, 300, 60] : List Int)).bind fun t3 => (spec_l01Below.f k t3.2.1 t3.2.2.1 t3.2.2.2.1 t3.2.2.2.2 3).bind fun t4 => ret (t0.1, t1.1, t2.1, t3.1, (RowKit.wrap64 ((3 : Int) + t4.1)), t4.2.1, t4.2.2.1, t4.2.2.2.1, t4.2.2.2.2)
def spec_l10Draw.f : Nat → Bool → (List Int) → Int → Int → Option (Int × Int × Int × Int × Int × Bool × (List Int) × Int × Int)
  | 0, _, _, _, _ => none
  | k + 1, a0_0z, a0_0, a0_1, a0_2 => spec_l10Draw.b some k a0_0z a0_0 a0_1 a0_2
def spec_l10Draw.enc (r : Int × Int × Int × Int × Int × Bool × (List Int) × Int × Int) : Res := ⟨[.vals true [((.int .i64 r.1), true), ((.int .i64 r.2.1), true), ((.int .i64 r.2.2.1), true), ((.int .i64 r.2.2.2.1), true), ((.int .i64 r.2.2.2.2.1), true)]], [[((.nums 5 .u8 r.2.2.2.2.2.1 r.2.2.2.2.2.2.1), false), ((.int .i64 r.2.2.2.2.2.2.2.1), true), ((.int .i64 r.2.2.2.2.2.2.2.2), true)]]⟩
def spec_l10Draw.ans (k : Nat) : List Arg → Ans
  | [.box [((.nums 5 .u8 a0_0z a0_0), false), ((.int .i64 a0_1), false), ((.int .i64 a0_2), false)]] => ⟨spec_l10Draw.f k a0_0z a0_0 a0_1 a0_2, spec_l10Draw.enc⟩
  | _ => Ans.no
def spec_l10Draw.Cs (k : Nat) : CallSem := tab [(38, spec_l01Pick.ans k), (26, spec_l01Below.ans k)]
def spec_l10Draw.cuts : List (Nat × Keep) := []
theorem spec_l10Draw.s (k : Nat) (a0_0z : Bool) (a0_0 : List Int) (a0_1 : Int) (a0_2 : Int) : answer Tryd.prog spec_l10Draw.Cs 100000 spec_l10Draw.cuts [true, true, true, true, true, false, true, true] Tryd.f25 (k + 1) [.box [((.nums 5 .u8 a0_0z a0_0), false), ((.int .i64 a0_1), false), ((.int .i64 a0_2), false)]] = spec_l10Draw.b (fun r => some (spec_l10Draw.enc r)) k a0_0z a0_0 a0_1 a0_2 := by kernel_rfl
theorem spec_l10Draw.b_nat {R R' : Type} (e : R → R') (ret : Int × Int × Int × Int × Int × Bool × (List Int) × Int × Int → Option R) (k : Nat) (a0_0z : Bool) (a0_0 : List Int) (a0_1 : Int) (a0_2 : Int) : spec_l10Draw.b (fun r => (ret r).map e) k a0_0z a0_0 a0_1 a0_2 = (spec_l10Draw.b ret k a0_0z a0_0 a0_1 a0_2).map e := by
  unfold spec_l10Draw.b
  repeat' first | with_reducible refine nat_cond ?_ ?_ | with_reducible refine nat_bind fun _ => ?_ | rfl
theorem spec_l10Draw.eq (k : Nat) (a0_0z : Bool) (a0_0 : List Int) (a0_1 : Int) (a0_2 : Int) : answer Tryd.prog spec_l10Draw.Cs 100000 spec_l10Draw.cuts [true, true, true, true, true, false, true, true] Tryd.f25 (k + 1) [.box [((.nums 5 .u8 a0_0z a0_0), false), ((.int .i64 a0_1), false), ((.int .i64 a0_2), false)]] = (spec_l10Draw.f (k + 1) a0_0z a0_0 a0_1 a0_2).map spec_l10Draw.enc := by
  refine (spec_l10Draw.s k a0_0z a0_0 a0_1 a0_2).trans (Eq.trans ?_ (spec_l10Draw.b_nat spec_l10Draw.enc some k a0_0z a0_0 a0_1 a0_2))
  simp only [Option.map_some]
theorem spec_l10Draw.sound (k : Nat) : SoundF Tryd.prog 25 (fun a => (spec_l10Draw.ans k a).val) := by
  refine sound_plain (fun args res h => ?_) (fun t n => rfl)
  unfold spec_l10Draw.ans at h
  dsimp only at h
  split at h
  · cases k with
    | zero => cases h
    | succ k =>
      unfold Ans.val at h
      rw [← spec_l10Draw.eq] at h
      exact answer_sound mixed Tryd.func25 _ _ _ (k + 1) (fun j _ => tab_sound (tab_cons (spec_l01Pick.sound j) (tab_cons (spec_l01Below.sound j) (tab_nil)))) _ _ h
  · exact (Ans.no_val h).elim

/-! loop.example/g00790/spec.l21Draw -/
def spec_l21Draw.b {R : Type} (ret : Bool × (List T) × Bool × (List Int) × Int × Int → Option R) (j0 : Int → Int → Bool → (List Int) → Int → Int → Bool → (List T) → Option R) (k : Nat) (a0_0z : Bool) (a0_0 : List Int) (a0_1 : Int) (a0_2 : Int) (a1 : Int) : Option R :=
  j0 a1 0 a0_0z a0_0 a0_1 a0_2 true ([] : List T)
def spec_l21Draw.l0b {R : Type} (ret : Bool × (List T) × Bool × (List Int) × Int × Int → Option R) (j0 : Int → Int → Bool → (List Int) → Int → Int → Bool → (List T) → Option R) (k : Nat) (x1 : Int) (x6 : Int) (c0_0z : Bool) (c0_0 : List Int) (c0_1 : Int) (c0_2 : Int) (c5_0z : Bool) (c5_0 : List T) : Option R :=
  cond (decide (x6 < x1)) ((spec_l01Below.f k c0_0z c0_0 c0_1 c0_2 9).bind fun t0 => (spec_l01Pick.f k t0.2.1 t0.2.2.1 t0.2.2.2.1 t0.2.2.2.2 false ([1, 1, 1, 2, 5, 1099511627776, (RowKit.wrap64 ((1 : Int) + t0.1))] : List Int)).bind fun t1 => (spec_l01Below.f k t1.2.1 t1.2.2.1 t1.2.2.2.1 t1.2.2.2.2 9).bind fun t2 => cond (decide ((c5_0).length + 1 < 4398046511104)) (j0 x1 (RowKit.wrap64 (x6 + 1)) t2.2.1 t2.2.2.1 t2.2.2.2.1 t2.2.2.2.2 false (c5_0 ++ ([(.agg [(.int .i64 t1.1), (.nums 5 .u8 false ([((x6) % 256), ((t2.1) % 256), 1] : List Int))])] : List T))) (none)) (ret (c5_0z, c5_0, c0_0z, c0_0, c0_1, c0_2))
def spec_l21Draw.l0 : Nat → Int → Int → Bool → (List Int) → Int → Int → Bool → (List T) → Option (Bool × (List T) × Bool × (List Int) × Int × Int)
  | 0, _, _, _, _, _, _, _, _ => none
  | k + 1, x1, x6, c0_0z, c0_0, c0_1, c0_2, c5_0z, c5_0 => spec_l21Draw.l0b some (spec_l21Draw.l0 k) k x1 x6 c0_0z c0_0 c0_1 c0_2 c5_0z c5_0
def spec_l21Draw.f : Nat → Bool → (List Int) → Int → Int → Int → Option (Bool × (List T) × Bool × (List Int) × Int × Int)
  | 0, _, _, _, _, _ => none
  | k + 1, a0_0z, a0_0, a0_1, a0_2, a1 => spec_l21Draw.b some (spec_l21Draw.l0 k) k a0_0z a0_0 a0_1 a0_2 a1
def spec_l21Draw.enc (r : Bool × (List T) × Bool × (List Int) × Int × Int) : Res := ⟨[.vals true [((.sl 56 r.1 r.2.1), true)]], [[((.nums 5 .u8 r.2.2.1 r.2.2.2.1), false), ((.int .i64 r.2.2.2.2.1), true), ((.int .i64 r.2.2.2.2.2), true)]]⟩
def spec_l21Draw.ans (k : Nat) : List Arg → Ans
  | [.box [((.nums 5 .u8 a0_0z a0_0), false), ((.int .i64 a0_1), false), ((.int .i64 a0_2), false)], .v (.int .i64 a1)] => ⟨spec_l21Draw.f k a0_0z a0_0 a0_1 a0_2 a1, spec_l21Draw.enc⟩
  | _ => Ans.no
def spec_l21Draw.Cs (k : Nat) : CallSem := tab [(38, spec_l01Pick.ans k), (26, spec_l01Below.ans k)]
def spec_l21Draw.cuts : List (Nat × Keep) := [(58, ⟨[(0, some []), (1, some []), (4, some []), (5, some []), (6, some [])], [(0, [some [], some [], some []]), (4, [none]), (5, [none])]⟩)]
noncomputable def spec_l21Draw.K0 : List Fr := framesAt [true, true, false, true, false] (bodyOf Tryd.f27 spec_l21Draw.cuts) []
def spec_l21Draw.N0 (x1 : Int) (x6 : Int) (c0_0z : Bool) (c0_0 : List Int) (c0_1 : Int) (c0_2 : Int) (c5_0z : Bool) (c5_0 : List T) : St := stOf 32 32 2 [(0, .bp 0 0), (1, .val (V.s (.int .i64 x1))), (4, .bp 4 0), (5, .bp 5 0), (6, .val (V.s (.int .i64 x6)))] [(0, .cells [⟨(.nums 5 .u8 c0_0z c0_0), [], false, none⟩, V.s (.int .i64 c0_1), V.s (.int .i64 c0_2)]), (4, .cells [⟨(.sl 56 true ([] : List T)), [.l 4 1], true, some (.l 4 1)⟩]), (5, .cells [⟨(.sl 56 c5_0z c5_0), [.l 5 1], true, some (.l 5 1)⟩])]
theorem spec_l21Draw.s (k : Nat) (a0_0z : Bool) (a0_0 : List Int) (a0_1 : Int) (a0_2 : Int) (a1 : Int) : answer Tryd.prog spec_l21Draw.Cs 100000 spec_l21Draw.cuts [true, false, true, true] Tryd.f27 (k + 1) [.box [((.nums 5 .u8 a0_0z a0_0), false), ((.int .i64 a0_1), false), ((.int .i64 a0_2), false)], .v (.int .i64 a1)] = spec_l21Draw.b (fun r => some (spec_l21Draw.enc r)) (fun x1 x6 c0_0z c0_0 c0_1 c0_2 c5_0z c5_0 => rounds Tryd.prog spec_l21Draw.Cs (finish Tryd.prog [true, false, true, true] Tryd.f27 [.box [((.nums 5 .u8 a0_0z a0_0), false), ((.int .i64 a0_1), false), ((.int .i64 a0_2), false)], .v (.int .i64 a1)]) 100000 k spec_l21Draw.K0 (spec_l21Draw.N0 x1 x6 c0_0z c0_0 c0_1 c0_2 c5_0z c5_0)) k a0_0z a0_0 a0_1 a0_2 a1 := by kernel_rfl
theorem spec_l21Draw.s0 (k : Nat) (G : List Fr → St → Option Res) (a0_0z : Bool) (a0_0 : List Int) (a0_1 : Int) (a0_2 : Int) (a1 : Int) (yx1 : Int) (yx6 : Int) (yc0_0z : Bool) (yc0_0 : List Int) (yc0_1 : Int) (yc0_2 : Int) (yc5_0z : Bool) (yc5_0 : List T) : resume Tryd.prog (spec_l21Draw.Cs k) G (finish Tryd.prog [true, false, true, true] Tryd.f27 [.box [((.nums 5 .u8 a0_0z a0_0), false), ((.int .i64 a0_1), false), ((.int .i64 a0_2), false)], .v (.int .i64 a1)]) 100000 spec_l21Draw.K0 (spec_l21Draw.N0 yx1 yx6 yc0_0z yc0_0 yc0_1 yc0_2 yc5_0z yc5_0) = spec_l21Draw.l0b (fun r => some (spec_l21Draw.enc r)) (fun x1 x6 c0_0z c0_0 c0_1 c0_2 c5_0z c5_0 => G spec_l21Draw.K0 (spec_l21Draw.N0 x1 x6 c0_0z c0_0 c0_1 c0_2 c5_0z c5_0)) k yx1 yx6 yc0_0z yc0_0 yc0_1 yc0_2 yc5_0z yc5_0 := by kernel_rfl
theorem spec_l21Draw.b_nat {R R' : Type} (e : R → R') (ret : Bool × (List T) × Bool × (List Int) × Int × Int → Option R) (j0 : Int → Int → Bool → (List Int) → Int → Int → Bool → (List T) → Option R) (k : Nat) (a0_0z : Bool) (a0_0 : List Int) (a0_1 : Int) (a0_2 : Int) (a1 : Int) : spec_l21Draw.b (fun r => (ret r).map e) (fun x1 x6 c0_0z c0_0 c0_1 c0_2 c5_0z c5_0 => (j0 x1 x6 c0_0z c0_0 c0_1 c0_2 c5_0z c5_0).map e) k a0_0z a0_0 a0_1 a0_2 a1 = (spec_l21Draw.b ret j0 k a0_0z a0_0 a0_1 a0_2 a1).map e := by
  unfold spec_l21Draw.b
  repeat' first | with_reducible refine nat_cond ?_ ?_ | with_reducible refine nat_bind fun _ => ?_ | rfl
theorem spec_l21Draw.l0b_nat {R R' : Type} (e : R → R') (ret : Bool × (List T) × Bool × (List Int) × Int × Int → Option R) (j0 : Int → Int → Bool → (List Int) → Int → Int → Bool → (List T) → Option R) (k : Nat) (x1 : Int) (x6 : Int) (c0_0z : Bool) (c0_0 : List Int) (c0_1 : Int) (c0_2 : Int) (c5_0z : Bool) (c5_0 : List T) : spec_l21Draw.l0b (fun r => (ret r).map e) (fun x1 x6 c0_0z c0_0 c0_1 c0_2 c5_0z c5_0 => (j0 x1 x6 c0_0z c0_0 c0_1 c0_2 c5_0z c5_0).map e) k x1 x6 c0_0z c0_0 c0_1 c0_2 c5_0z c5_0 = (spec_l21Draw.l0b ret j0 k x1 x6 c0_0z c0_0 c0_1 c0_2 c5_0z c5_0).map e := by
  unfold spec_l21Draw.l0b
  repeat' first | with_reducible refine nat_cond ?_ ?_ | with_reducible refine nat_bind fun _ => ?_ | rfl
theorem spec_l21Draw.rounds_eq (a0_0z : Bool) (a0_0 : List Int) (a0_1 : Int) (a0_2 : Int) (a1 : Int) : ∀ k, (∀ (x1 : Int) (x6 : Int) (c0_0z : Bool) (c0_0 : List Int) (c0_1 : Int) (c0_2 : Int) (c5_0z : Bool) (c5_0 : List T), rounds Tryd.prog spec_l21Draw.Cs (finish Tryd.prog [true, false, true, true] Tryd.f27 [.box [((.nums 5 .u8 a0_0z a0_0), false), ((.int .i64 a0_1), false), ((.int .i64 a0_2), false)], .v (.int .i64 a1)]) 100000 k spec_l21Draw.K0 (spec_l21Draw.N0 x1 x6 c0_0z c0_0 c0_1 c0_2 c5_0z c5_0) = (spec_l21Draw.l0 k x1 x6 c0_0z c0_0 c0_1 c0_2 c5_0z c5_0).map spec_l21Draw.enc)
  | 0 => fun _ _ _ _ _ _ _ _ => rfl
  | k + 1 => by
    have ih := spec_l21Draw.rounds_eq a0_0z a0_0 a0_1 a0_2 a1 k
    refine fun _ _ _ _ _ _ _ _ => ?_
    · refine (spec_l21Draw.s0 k _ a0_0z a0_0 a0_1 a0_2 a1 _ _ _ _ _ _ _ _).trans (Eq.trans ?_ (spec_l21Draw.l0b_nat spec_l21Draw.enc some (spec_l21Draw.l0 k) k _ _ _ _ _ _ _ _))
      simp only [ih, Option.map_some]
theorem spec_l21Draw.eq (k : Nat) (a0_0z : Bool) (a0_0 : List Int) (a0_1 : Int) (a0_2 : Int) (a1 : Int) : answer Tryd.prog spec_l21Draw.Cs 100000 spec_l21Draw.cuts [true, false, true, true] Tryd.f27 (k + 1) [.box [((.nums 5 .u8 a0_0z a0_0), false), ((.int .i64 a0_1), false), ((.int .i64 a0_2), false)], .v (.int .i64 a1)] = (spec_l21Draw.f (k + 1) a0_0z a0_0 a0_1 a0_2 a1).map spec_l21Draw.enc := by
  have ih := spec_l21Draw.rounds_eq a0_0z a0_0 a0_1 a0_2 a1 k
  refine (spec_l21Draw.s k a0_0z a0_0 a0_1 a0_2 a1).trans (Eq.trans ?_ (spec_l21Draw.b_nat spec_l21Draw.enc some (spec_l21Draw.l0 k) k a0_0z a0_0 a0_1 a0_2 a1))
  simp only [ih, Option.map_some]
theorem spec_l21Draw.sound (k : Nat) : SoundF Tryd.prog 27 (fun a => (spec_l21Draw.ans k a).val) := by
  refine sound_plain (fun args res h => ?_) (fun t n => rfl)
  unfold spec_l21Draw.ans at h
  dsimp only at h
  split at h
  · cases k with
    | zero => cases h
    | succ k =>
      unfold Ans.val at h
      rw [← spec_l21Draw.eq] at h
      exact answer_sound mixed Tryd.func27 _ _ _ (k + 1) (fun j _ => tab_sound (tab_cons (spec_l01Pick.sound j) (tab_cons (spec_l01Below.sound j) (tab_nil)))) _ _ h
  · exact (Ans.no_val h).elim

/-! loop.example/g00790/spec.l23Pair -/
def spec_l23Pair.b {R : Type} (ret : Int × Int × Int × Int × Int × Bool × (List T) × Bool × (List Int) × Int × Int → Option R) (k : Nat) (a0_0z : Bool) (a0_0 : List Int) (a0_1 : Int) (a0_2 : Int) : Option R :=
  (spec_l10Draw.f k a0_0z a0_0 a0_1 a0_2).bind fun t0 => (spec_l01Below.f k t0.2.2.2.2.2.1 t0.2.2.2.2.2.2.1 t0.2.2.2.2.2.2.2.1 t0.2.2.2.2.2.2.2.2 5).bind fun t1 => (spec_l21Draw.f k t1.2.1 t1.2.2.1 t1.2.2.2.1 t1.2.2.2.2 (RowKit.wrap64 ((1 : Int) + t1.1))).bind fun t2 => ret ((RowKit.wrap64 ((1 : Int) + t1.1)), t0.2.1, t0.2.2.1, 4000, t0.2.2.2.2.1, t2.1, t2.2.1, t2.2.2.1, t2.2.2.2.1, t2.2.2.2.2.1, t2.2.2.2.2.2)
def spec_l23Pair.f : Nat → Bool → (List Int) → Int → Int → Option (Int × Int × Int × Int × Int × Bool × (List T) × Bool × (List Int) × Int × Int)
  | 0, _, _, _, _ => none
  | k + 1, a0_0z, a0_0, a0_1, a0_2 => spec_l23Pair.b some k a0_0z a0_0 a0_1 a0_2
def spec_l23Pair.enc (r : Int × Int × Int × Int × Int × Bool × (List T) × Bool × (List Int) × Int × Int) : Res := ⟨[.vals true [((.int .i64 r.1), true), ((.int .i64 r.2.1), true), ((.int .i64 r.2.2.1), true), ((.int .i64 r.2.2.2.1), true), ((.int .i64 r.2.2.2.2.1), true)], .vals true [((.sl 56 r.2.2.2.2.2.1 r.2.2.2.2.2.2.1), true)]], [[((.nums 5 .u8 r.2.2.2.2.2.2.2.1 r.2.2.2.2.2.2.2.2.1), false), ((.int .i64 r.2.2.2.2.2.2.2.2.2.1), true), ((.int .i64 r.2.2.2.2.2.2.2.2.2.2), true)]]⟩
def spec_l23Pair.ans (k : Nat) : List Arg → Ans
  | [.box [((.nums 5 .u8 a0_0z a0_0), false), ((.int .i64 a0_1), false), ((.int .i64 a0_2), false)]] => ⟨spec_l23Pair.f k a0_0z a0_0 a0_1 a0_2, spec_l23Pair.enc⟩
  | _ => Ans.no
def spec_l23Pair.Cs (k : Nat) : CallSem := tab [(25, spec_l10Draw.ans k), (26, spec_l01Below.ans k), (27, spec_l21Draw.ans k)]
def spec_l23Pair.cuts : List (Nat × Keep) := []
theorem spec_l23Pair.s (k : Nat) (a0_0z : Bool) (a0_0 : List Int) (a0_1 : Int) (a0_2 : Int) : answer Tryd.prog spec_l23Pair.Cs 100000 spec_l23Pair.cuts [true, true, true, true, true, true, false, true, true] Tryd.f13 (k + 1) [.box [((.nums 5 .u8 a0_0z a0_0), false), ((.int .i64 a0_1), false), ((.int .i64 a0_2), false)]] = spec_l23Pair.b (fun r => some (spec_l23Pair.enc r)) k a0_0z a0_0 a0_1 a0_2 := by kernel_rfl
theorem spec_l23Pair.b_nat {R R' : Type} (e : R → R') (ret : Int × Int × Int × Int × Int × Bool × (List T) × Bool × (List Int) × Int × Int → Option R) (k : Nat) (a0_0z : Bool) (a0_0 : List Int) (a0_1 : Int) (a0_2 : Int) : spec_l23Pair.b (fun r => (ret r).map e) k a0_0z a0_0 a0_1 a0_2 = (spec_l23Pair.b ret k a0_0z a0_0 a0_1 a0_2).map e := by
  unfold spec_l23Pair.b
  repeat' first | with_reducible refine nat_cond ?_ ?_ | with_reducible refine nat_bind fun _ => ?_ | rfl
theorem spec_l23Pair.eq (k : Nat) (a0_0z : Bool) (a0_0 : List Int) (a0_1 : Int) (a0_2 : Int) : answer Tryd.prog spec_l23Pair.Cs 100000 spec_l23Pair.cuts [true, true, true, true, true, true, false, true, true] Tryd.f13 (k + 1) [.box [((.nums 5 .u8 a0_0z a0_0), false), ((.int .i64 a0_1), false), ((.int .i64 a0_2), false)]] = (spec_l23Pair.f (k + 1) a0_0z a0_0 a0_1 a0_2).map spec_l23Pair.enc := by
  refine (spec_l23Pair.s k a0_0z a0_0 a0_1 a0_2).trans (Eq.trans ?_ (spec_l23Pair.b_nat spec_l23Pair.enc some k a0_0z a0_0 a0_1 a0_2))
  simp only [Option.map_some]
theorem spec_l23Pair.sound (k : Nat) : SoundF Tryd.prog 13 (fun a => (spec_l23Pair.ans k a).val) := by
  refine sound_plain (fun args res h => ?_) (fun t n => rfl)
  unfold spec_l23Pair.ans at h
  dsimp only at h
  split at h
  · cases k with
    | zero => cases h
    | succ k =>
      unfold Ans.val at h
      rw [← spec_l23Pair.eq] at h
      exact answer_sound mixed Tryd.func13 _ _ _ (k + 1) (fun j _ => tab_sound (tab_cons (spec_l10Draw.sound j) (tab_cons (spec_l01Below.sound j) (tab_cons (spec_l21Draw.sound j) (tab_nil))))) _ _ h
  · exact (Ans.no_val h).elim

/-! loop.example/g00790/spec.MakeTable -/
def spec_MakeTable.b {R : Type} (ret : Int × Int × Int × Int × Int × Bool × List T → Option R) (k : Nat) (a0z : Bool) (a0 : List Int) : Option R :=
  (spec_l01New.f k a0z a0).bind fun t0 => (spec_l23Pair.f k t0.1 t0.2.1 t0.2.2.1 t0.2.2.2).bind fun t1 => ret (t1.1, t1.2.1, t1.2.2.1, t1.2.2.2.1, t1.2.2.2.2.1, t1.2.2.2.2.2.1, t1.2.2.2.2.2.2.1)
def spec_MakeTable.f : Nat → Bool → (List Int) → Option (Int × Int × Int × Int × Int × Bool × List T)
  | 0, _, _ => none
  | k + 1, a0z, a0 => spec_MakeTable.b some k a0z a0
def spec_MakeTable.enc (r : Int × Int × Int × Int × Int × Bool × List T) : Res := ⟨[.vals true [((.int .i64 r.1), true), ((.int .i64 r.2.1), true), ((.int .i64 r.2.2.1), true), ((.int .i64 r.2.2.2.1), true), ((.int .i64 r.2.2.2.2.1), true)], .vals true [((.sl 56 r.2.2.2.2.2.1 r.2.2.2.2.2.2), true)]], []⟩
def spec_MakeTable.ans (k : Nat) : List Arg → Ans
  | [.v (.nums 5 .u8 a0z a0)] => ⟨spec_MakeTable.f k a0z a0, spec_MakeTable.enc⟩
  | _ => Ans.no
def spec_MakeTable.Cs (k : Nat) : CallSem := tab [(12, spec_l01New.ans k), (13, spec_l23Pair.ans k)]
def spec_MakeTable.cuts : List (Nat × Keep) := []
theorem spec_MakeTable.s (k : Nat) (a0z : Bool) (a0 : List Int) : answer Tryd.prog spec_MakeTable.Cs 100000 spec_MakeTable.cuts [] Tryd.f4 (k + 1) [.v (.nums 5 .u8 a0z a0)] = spec_MakeTable.b (fun r => some (spec_MakeTable.enc r)) k a0z a0 := by kernel_rfl
theorem spec_MakeTable.b_nat {R R' : Type} (e : R → R') (ret : Int × Int × Int × Int × Int × Bool × List T → Option R) (k : Nat) (a0z : Bool) (a0 : List Int) : spec_MakeTable.b (fun r => (ret r).map e) k a0z a0 = (spec_MakeTable.b ret k a0z a0).map e := by
  unfold spec_MakeTable.b
  repeat' first | with_reducible refine nat_cond ?_ ?_ | with_reducible refine nat_bind fun _ => ?_ | rfl
theorem spec_MakeTable.eq (k : Nat) (a0z : Bool) (a0 : List Int) : answer Tryd.prog spec_MakeTable.Cs 100000 spec_MakeTable.cuts [] Tryd.f4 (k + 1) [.v (.nums 5 .u8 a0z a0)] = (spec_MakeTable.f (k + 1) a0z a0).map spec_MakeTable.enc := by
  refine (spec_MakeTable.s k a0z a0).trans (Eq.trans ?_ (spec_MakeTable.b_nat spec_MakeTable.enc some k a0z a0))
  simp only [Option.map_some]
theorem spec_MakeTable.sound (k : Nat) : SoundF Tryd.prog 4 (fun a => (spec_MakeTable.ans k a).val) := by
  refine sound_plain (fun args res h => ?_) (fun t n => rfl)
  unfold spec_MakeTable.ans at h
  dsimp only at h
  split at h
  · cases k with
    | zero => cases h
    | succ k =>
      unfold Ans.val at h
      rw [← spec_MakeTable.eq] at h
      exact answer_sound mixed Tryd.func4 _ _ _ (k + 1) (fun j _ => tab_sound (tab_cons (spec_l01New.sound j) (tab_cons (spec_l23Pair.sound j) (tab_nil)))) _ _ h
  · exact (Ans.no_val h).elim

/-! loop.example/g00790/impl.within -/
def impl_within.b {R : Type} (ret : Bool → Option R) (k : Nat) (a0 : Int) (a1 : Int) (a2 : Int) : Option R :=
  cond (decide (a1 ≤ a0)) (ret (decide (a0 ≤ a2))) (ret false)
def impl_within.f : Nat → Int → Int → Int → Option Bool
  | 0, _, _, _ => none
  | k + 1, a0, a1, a2 => impl_within.b some k a0 a1 a2
def impl_within.enc (r : Bool) : Res := ⟨[.vals false [((.bool r), true)]], []⟩
def impl_within.ans (k : Nat) : List Arg → Ans
  | [.v (.int .i64 a0), .v (.int .i64 a1), .v (.int .i64 a2)] => ⟨impl_within.f k a0 a1 a2, impl_within.enc⟩
  | _ => Ans.no
def impl_within.Cs (k : Nat) : CallSem := tab []
def impl_within.cuts : List (Nat × Keep) := []
theorem impl_within.s (k : Nat) (a0 : Int) (a1 : Int) (a2 : Int) : answer Tryd.prog impl_within.Cs 100000 impl_within.cuts [] Tryd.f24 (k + 1) [.v (.int .i64 a0), .v (.int .i64 a1), .v (.int .i64 a2)] = impl_within.b (fun r => some (impl_within.enc r)) k a0 a1 a2 := by kernel_rfl
theorem impl_within.b_nat {R R' : Type} (e : R → R') (ret : Bool → Option R) (k : Nat) (a0 : Int) (a1 : Int) (a2 : Int) : impl_within.b (fun r => (ret r).map e) k a0 a1 a2 = (impl_within.b ret k a0 a1 a2).map e := by
  unfold impl_within.b
  repeat' first | with_reducible refine nat_cond ?_ ?_ | with_reducible refine nat_bind fun _ => ?_ | rfl
theorem impl_within.eq (k : Nat) (a0 : Int) (a1 : Int) (a2 : Int) : answer Tryd.prog impl_within.Cs 100000 impl_within.cuts [] Tryd.f24 (k + 1) [.v (.int .i64 a0), .v (.int .i64 a1), .v (.int .i64 a2)] = (impl_within.f (k + 1) a0 a1 a2).map impl_within.enc := by
  refine (impl_within.s k a0 a1 a2).trans (Eq.trans ?_ (impl_within.b_nat impl_within.enc some k a0 a1 a2))
  simp only [Option.map_some]
theorem impl_within.sound (k : Nat) : SoundF Tryd.prog 24 (fun a => (impl_within.ans k a).val) := by
  refine sound_plain (fun args res h => ?_) (fun t n => rfl)
  unfold impl_within.ans at h
  dsimp only at h
  split at h
  · cases k with
    | zero => cases h
    | succ k =>
      unfold Ans.val at h
      rw [← impl_within.eq] at h
      exact answer_sound mixed Tryd.func24 _ _ _ (k + 1) (fun j _ => tab_sound (tab_nil)) _ _ h
  · exact (Ans.no_val h).elim

/-! loop.example/g00790/impl.LimitsOk -/
def impl_LimitsOk.b {R : Type} (ret : Bool → Option R) (k : Nat) (a0_0 : Int) (a0_1 : Int) (a0_2 : Int) (a0_3 : Int) (a0_4 : Int) : Option R :=
  (impl_within.f k a0_0 1 10).bind fun t0 => cond t0 ((impl_within.f k a0_1 0 40).bind fun t1 => cond t1 ((impl_within.f k a0_2 0 8).bind fun t2 => cond t2 ((impl_within.f k a0_3 1 4000).bind fun t3 => cond t3 ((impl_within.f k a0_4 3 5).bind fun t4 => ret t4) (ret false)) (ret false)) (ret false)) (ret false)
def impl_LimitsOk.f : Nat → Int → Int → Int → Int → Int → Option Bool
  | 0, _, _, _, _, _ => none
  | k + 1, a0_0, a0_1, a0_2, a0_3, a0_4 => impl_LimitsOk.b some k a0_0 a0_1 a0_2 a0_3 a0_4
def impl_LimitsOk.enc (r : Bool) : Res := ⟨[.vals false [((.bool r), true)]], []⟩
def impl_LimitsOk.ans (k : Nat) : List Arg → Ans
  | [.v (.agg [(.int .i64 a0_0), (.int .i64 a0_1), (.int .i64 a0_2), (.int .i64 a0_3), (.int .i64 a0_4)])] => ⟨impl_LimitsOk.f k a0_0 a0_1 a0_2 a0_3 a0_4, impl_LimitsOk.enc⟩
  | _ => Ans.no
def impl_LimitsOk.Cs (k : Nat) : CallSem := tab [(24, impl_within.ans k)]
def impl_LimitsOk.cuts : List (Nat × Keep) := []
theorem impl_LimitsOk.s (k : Nat) (a0_0 : Int) (a0_1 : Int) (a0_2 : Int) (a0_3 : Int) (a0_4 : Int) : answer Tryd.prog impl_LimitsOk.Cs 100000 impl_LimitsOk.cuts [] Tryd.f10 (k + 1) [.v (.agg [(.int .i64 a0_0), (.int .i64 a0_1), (.int .i64 a0_2), (.int .i64 a0_3), (.int .i64 a0_4)])] = impl_LimitsOk.b (fun r => some (impl_LimitsOk.enc r)) k a0_0 a0_1 a0_2 a0_3 a0_4 := by kernel_rfl
theorem impl_LimitsOk.b_nat {R R' : Type} (e : R → R') (ret : Bool → Option R) (k : Nat) (a0_0 : Int) (a0_1 : Int) (a0_2 : Int) (a0_3 : Int) (a0_4 : Int) : impl_LimitsOk.b (fun r => (ret r).map e) k a0_0 a0_1 a0_2 a0_3 a0_4 = (impl_LimitsOk.b ret k a0_0 a0_1 a0_2 a0_3 a0_4).map e := by
  unfold impl_LimitsOk.b
  repeat' first | with_reducible refine nat_cond ?_ ?_ | with_reducible refine nat_bind fun _ => ?_ | rfl
theorem impl_LimitsOk.eq (k : Nat) (a0_0 : Int) (a0_1 : Int) (a0_2 : Int) (a0_3 : Int) (a0_4 : Int) : answer Tryd.prog impl_LimitsOk.Cs 100000 impl_LimitsOk.cuts [] Tryd.f10 (k + 1) [.v (.agg [(.int .i64 a0_0), (.int .i64 a0_1), (.int .i64 a0_2), (.int .i64 a0_3), (.int .i64 a0_4)])] = (impl_LimitsOk.f (k + 1) a0_0 a0_1 a0_2 a0_3 a0_4).map impl_LimitsOk.enc := by
  refine (impl_LimitsOk.s k a0_0 a0_1 a0_2 a0_3 a0_4).trans (Eq.trans ?_ (impl_LimitsOk.b_nat impl_LimitsOk.enc some k a0_0 a0_1 a0_2 a0_3 a0_4))
  simp only [Option.map_some]
theorem impl_LimitsOk.sound (k : Nat) : SoundF Tryd.prog 10 (fun a => (impl_LimitsOk.ans k a).val) := by
  refine sound_plain (fun args res h => ?_) (fun t n => rfl)
  unfold impl_LimitsOk.ans at h
  dsimp only at h
  split at h
  · cases k with
    | zero => cases h
    | succ k =>
      unfold Ans.val at h
      rw [← impl_LimitsOk.eq] at h
      exact answer_sound mixed Tryd.func10 _ _ _ (k + 1) (fun j _ => tab_sound (tab_cons (impl_within.sound j) (tab_nil))) _ _ h
  · exact (Ans.no_val h).elim

/-! loop.example/g00790/impl.isNum -/
def impl_isNum.b {R : Type} (ret : Bool → Option R) (k : Nat) (a0 : Int) : Option R :=
  (impl_within.f k a0 0 1152921504606846975).bind fun t0 => ret t0
def impl_isNum.f : Nat → Int → Option Bool
  | 0, _ => none
  | k + 1, a0 => impl_isNum.b some k a0
def impl_isNum.enc (r : Bool) : Res := ⟨[.vals false [((.bool r), true)]], []⟩
def impl_isNum.ans (k : Nat) : List Arg → Ans
  | [.v (.int .i64 a0)] => ⟨impl_isNum.f k a0, impl_isNum.enc⟩
  | _ => Ans.no
def impl_isNum.Cs (k : Nat) : CallSem := tab [(24, impl_within.ans k)]
def impl_isNum.cuts : List (Nat × Keep) := []
theorem impl_isNum.s (k : Nat) (a0 : Int) : answer Tryd.prog impl_isNum.Cs 100000 impl_isNum.cuts [] Tryd.f29 (k + 1) [.v (.int .i64 a0)] = impl_isNum.b (fun r => some (impl_isNum.enc r)) k a0 := by kernel_rfl
theorem impl_isNum.b_nat {R R' : Type} (e : R → R') (ret : Bool → Option R) (k : Nat) (a0 : Int) : impl_isNum.b (fun r => (ret r).map e) k a0 = (impl_isNum.b ret k a0).map e := by
  unfold impl_isNum.b
  repeat' first | with_reducible refine nat_cond ?_ ?_ | with_reducible refine nat_bind fun _ => ?_ | rfl
theorem impl_isNum.eq (k : Nat) (a0 : Int) : answer Tryd.prog impl_isNum.Cs 100000 impl_isNum.cuts [] Tryd.f29 (k + 1) [.v (.int .i64 a0)] = (impl_isNum.f (k + 1) a0).map impl_isNum.enc := by
  refine (impl_isNum.s k a0).trans (Eq.trans ?_ (impl_isNum.b_nat impl_isNum.enc some k a0))
  simp only [Option.map_some]
theorem impl_isNum.sound (k : Nat) : SoundF Tryd.prog 29 (fun a => (impl_isNum.ans k a).val) := by
  refine sound_plain (fun args res h => ?_) (fun t n => rfl)
  unfold impl_isNum.ans at h
  dsimp only at h
  split at h
  · cases k with
    | zero => cases h
    | succ k =>
      unfold Ans.val at h
      rw [← impl_isNum.eq] at h
      exact answer_sound mixed Tryd.func29 _ _ _ (k + 1) (fun j _ => tab_sound (tab_cons (impl_within.sound j) (tab_nil))) _ _ h
  · exact (Ans.no_val h).elim

/-! strconv_Itoa -/
def strconv_Itoa.f (k : Nat) (a0 : Int) : Option ByteArray := cond (inI a0) (some (itoaB a0)) none
def strconv_Itoa.enc (r : ByteArray) : Res := ⟨[.vals false [((.str r), true)]], []⟩
def strconv_Itoa.ans (k : Nat) : List Arg → Ans
  | [.v (.int .i64 a0)] => ⟨strconv_Itoa.f k a0, strconv_Itoa.enc⟩
  | _ => Ans.no
theorem strconv_Itoa.sound (k : Nat) : SoundF Tryd.prog 30 (fun a => (strconv_Itoa.ans k a).val) := by
  refine sound_ext (fun _ _ => rfl) fun args res h => ?_
  unfold strconv_Itoa.ans at h
  split at h
  · exact ext_itoa lay_Itoa h
  · exact (Ans.no_val h).elim

/-! loop.example/g00790/impl.NumText -/
def impl_NumText.b {R : Type} (ret : ByteArray → Option R) (k : Nat) (a0 : Int) : Option R :=
  (impl_isNum.f k a0).bind fun t0 => cond (!t0) (ret (⟨#[]⟩ : ByteArray)) ((strconv_Itoa.f k a0).bind fun t1 => ret t1)
def impl_NumText.f : Nat → Int → Option ByteArray
  | 0, _ => none
  | k + 1, a0 => impl_NumText.b some k a0
def impl_NumText.enc (r : ByteArray) : Res := ⟨[.vals false [((.str r), true)]], []⟩
def impl_NumText.ans (k : Nat) : List Arg → Ans
  | [.v (.int .i64 a0)] => ⟨impl_NumText.f k a0, impl_NumText.enc⟩
  | _ => Ans.no
def impl_NumText.Cs (k : Nat) : CallSem := tab [(29, impl_isNum.ans k), (30, strconv_Itoa.ans k)]
def impl_NumText.cuts : List (Nat × Keep) := []
theorem impl_NumText.s (k : Nat) (a0 : Int) : answer Tryd.prog impl_NumText.Cs 100000 impl_NumText.cuts [] Tryd.f16 (k + 1) [.v (.int .i64 a0)] = impl_NumText.b (fun r => some (impl_NumText.enc r)) k a0 := by kernel_rfl
theorem impl_NumText.b_nat {R R' : Type} (e : R → R') (ret : ByteArray → Option R) (k : Nat) (a0 : Int) : impl_NumText.b (fun r => (ret r).map e) k a0 = (impl_NumText.b ret k a0).map e := by
  unfold impl_NumText.b
  repeat' first | with_reducible refine nat_cond ?_ ?_ | with_reducible refine nat_bind fun _ => ?_ | rfl
theorem impl_NumText.eq (k : Nat) (a0 : Int) : answer Tryd.prog impl_NumText.Cs 100000 impl_NumText.cuts [] Tryd.f16 (k + 1) [.v (.int .i64 a0)] = (impl_NumText.f (k + 1) a0).map impl_NumText.enc := by
  refine (impl_NumText.s k a0).trans (Eq.trans ?_ (impl_NumText.b_nat impl_NumText.enc some k a0))
  simp only [Option.map_some]
theorem impl_NumText.sound (k : Nat) : SoundF Tryd.prog 16 (fun a => (impl_NumText.ans k a).val) := by
  refine sound_plain (fun args res h => ?_) (fun t n => rfl)
  unfold impl_NumText.ans at h
  dsimp only at h
  split at h
  · cases k with
    | zero => cases h
    | succ k =>
      unfold Ans.val at h
      rw [← impl_NumText.eq] at h
      exact answer_sound mixed Tryd.func16 _ _ _ (k + 1) (fun j _ => tab_sound (tab_cons (impl_isNum.sound j) (tab_cons (strconv_Itoa.sound j) (tab_nil)))) _ _ h
  · exact (Ans.no_val h).elim

/-! loop.example/g00790/impl.LimitsText -/
def impl_LimitsText.b {R : Type} (ret : ByteArray → Option R) (j0 : ByteArray → (List Int) → Int → Option R) (k : Nat) (a0_0 : Int) (a0_1 : Int) (a0_2 : Int) (a0_3 : Int) (a0_4 : Int) : Option R :=
  (impl_LimitsOk.f k a0_0 a0_1 a0_2 a0_3 a0_4).bind fun t0 => cond (!t0) (ret (⟨#[]⟩ : ByteArray)) (j0 (⟨#[108, 105, 109, 105, 116, 115]⟩ : ByteArray) ([a0_0, a0_1, a0_2, a0_3, a0_4] : List Int) 0)
def impl_LimitsText.l0b {R : Type} (ret : ByteArray → Option R) (j0 : ByteArray → (List Int) → Int → Option R) (k : Nat) (x3 : ByteArray) (x19 : List Int) (x21 : Int) : Option R :=
  cond (decide (x21 < 5)) (cond (decide ((0 : Int) ≤ x21)) (cond (decide (x21 < ((x19).length : Int))) ((impl_NumText.f k (rdI x19 x21)).bind fun t0 => cond (decide (((⟨#[32]⟩ : ByteArray)).size + (t0).size ≤ 140737488355328)) (cond (decide ((x3).size + (((⟨#[32]⟩ : ByteArray) ++ t0)).size ≤ 140737488355328)) (j0 (x3 ++ ((⟨#[32]⟩ : ByteArray) ++ t0)) x19 (RowKit.wrap64 (x21 + 1))) (none)) (none)) (none)) (none)) (ret x3)
def impl_LimitsText.l0 : Nat → ByteArray → (List Int) → Int → Option ByteArray
  | 0, _, _, _ => none
  | k + 1, x3, x19, x21 => impl_LimitsText.l0b some (impl_LimitsText.l0 k) k x3 x19 x21
def impl_LimitsText.f : Nat → Int → Int → Int → Int → Int → Option ByteArray
  | 0, _, _, _, _, _ => none
  | k + 1, a0_0, a0_1, a0_2, a0_3, a0_4 => impl_LimitsText.b some (impl_LimitsText.l0 k) k a0_0 a0_1 a0_2 a0_3 a0_4
def impl_LimitsText.enc (r : ByteArray) : Res := ⟨[.vals false [((.str r), true)]], []⟩
def impl_LimitsText.ans (k : Nat) : List Arg → Ans
  | [.v (.agg [(.int .i64 a0_0), (.int .i64 a0_1), (.int .i64 a0_2), (.int .i64 a0_3), (.int .i64 a0_4)])] => ⟨impl_LimitsText.f k a0_0 a0_1 a0_2 a0_3 a0_4, impl_LimitsText.enc⟩
  | _ => Ans.no
def impl_LimitsText.Cs (k : Nat) : CallSem := tab [(10, impl_LimitsOk.ans k), (16, impl_NumText.ans k)]
def impl_LimitsText.cuts : List (Nat × Keep) := [(122, ⟨[(3, some []), (19, none), (20, some []), (21, some [])], []⟩)]
noncomputable def impl_LimitsText.K0 : List Fr := framesAt [true, true, true, false, true, false] (bodyOf Tryd.f6 impl_LimitsText.cuts) []
def impl_LimitsText.N0 (x3 : ByteArray) (x19 : List Int) (x21 : Int) : St := stOf 32 32 1 [(3, .val (V.s (.str x3))), (19, .val ⟨(.nums 3 .i64 false x19), [.l 19 0], true, some (.l 19 0)⟩), (20, .val (V.s (.int .i64 5))), (21, .val (V.s (.int .i64 x21)))] []
theorem impl_LimitsText.s (k : Nat) (a0_0 : Int) (a0_1 : Int) (a0_2 : Int) (a0_3 : Int) (a0_4 : Int) : answer Tryd.prog impl_LimitsText.Cs 100000 impl_LimitsText.cuts [] Tryd.f6 (k + 1) [.v (.agg [(.int .i64 a0_0), (.int .i64 a0_1), (.int .i64 a0_2), (.int .i64 a0_3), (.int .i64 a0_4)])] = impl_LimitsText.b (fun r => some (impl_LimitsText.enc r)) (fun x3 x19 x21 => rounds Tryd.prog impl_LimitsText.Cs (finish Tryd.prog [] Tryd.f6 [.v (.agg [(.int .i64 a0_0), (.int .i64 a0_1), (.int .i64 a0_2), (.int .i64 a0_3), (.int .i64 a0_4)])]) 100000 k impl_LimitsText.K0 (impl_LimitsText.N0 x3 x19 x21)) k a0_0 a0_1 a0_2 a0_3 a0_4 := by kernel_rfl
theorem impl_LimitsText.s0 (k : Nat) (G : List Fr → St → Option Res) (a0_0 : Int) (a0_1 : Int) (a0_2 : Int) (a0_3 : Int) (a0_4 : Int) (yx3 : ByteArray) (yx19 : List Int) (yx21 : Int) : resume Tryd.prog (impl_LimitsText.Cs k) G (finish Tryd.prog [] Tryd.f6 [.v (.agg [(.int .i64 a0_0), (.int .i64 a0_1), (.int .i64 a0_2), (.int .i64 a0_3), (.int .i64 a0_4)])]) 100000 impl_LimitsText.K0 (impl_LimitsText.N0 yx3 yx19 yx21) = impl_LimitsText.l0b (fun r => some (impl_LimitsText.enc r)) (fun x3 x19 x21 => G impl_LimitsText.K0 (impl_LimitsText.N0 x3 x19 x21)) k yx3 yx19 yx21 := by kernel_rfl
theorem impl_LimitsText.b_nat {R R' : Type} (e : R → R') (ret : ByteArray → Option R) (j0 : ByteArray → (List Int) → Int → Option R) (k : Nat) (a0_0 : Int) (a0_1 : Int) (a0_2 : Int) (a0_3 : Int) (a0_4 : Int) : impl_LimitsText.b (fun r => (ret r).map e) (fun x3 x19 x21 => (j0 x3 x19 x21).map e) k a0_0 a0_1 a0_2 a0_3 a0_4 = (impl_LimitsText.b ret j0 k a0_0 a0_1 a0_2 a0_3 a0_4).map e := by
  unfold impl_LimitsText.b
  repeat' first | with_reducible refine nat_cond ?_ ?_ | with_reducible refine nat_bind fun _ => ?_ | rfl
theorem impl_LimitsText.l0b_nat {R R' : Type} (e : R → R') (ret : ByteArray → Option R) (j0 : ByteArray → (List Int) → Int → Option R) (k : Nat) (x3 : ByteArray) (x19 : List Int) (x21 : Int) : impl_LimitsText.l0b (fun r => (ret r).map e) (fun x3 x19 x21 => (j0 x3 x19 x21).map e) k x3 x19 x21 = (impl_LimitsText.l0b ret j0 k x3 x19 x21).map e := by
  unfold impl_LimitsText.l0b
  repeat' first | with_reducible refine nat_cond ?_ ?_ | with_reducible refine nat_bind fun _ => ?_ | rfl
theorem impl_LimitsText.rounds_eq (a0_0 : Int) (a0_1 : Int) (a0_2 : Int) (a0_3 : Int) (a0_4 : Int) : ∀ k, (∀ (x3 : ByteArray) (x19 : List Int) (x21 : Int), rounds Tryd.prog impl_LimitsText.Cs (finish Tryd.prog [] Tryd.f6 [.v (.agg [(.int .i64 a0_0), (.int .i64 a0_1), (.int .i64 a0_2), (.int .i64 a0_3), (.int .i64 a0_4)])]) 100000 k impl_LimitsText.K0 (impl_LimitsText.N0 x3 x19 x21) = (impl_LimitsText.l0 k x3 x19 x21).map impl_LimitsText.enc)
  | 0 => fun _ _ _ => rfl
  | k + 1 => by
    have ih := impl_LimitsText.rounds_eq a0_0 a0_1 a0_2 a0_3 a0_4 k
    refine fun _ _ _ => ?_
    · refine (impl_LimitsText.s0 k _ a0_0 a0_1 a0_2 a0_3 a0_4 _ _ _).trans (Eq.trans ?_ (impl_LimitsText.l0b_nat impl_LimitsText.enc some (impl_LimitsText.l0 k) k _ _ _))
      simp only [ih, Option.map_some]
theorem impl_LimitsText.eq (k : Nat) (a0_0 : Int) (a0_1 : Int) (a0_2 : Int) (a0_3 : Int) (a0_4 : Int) : answer Tryd.prog impl_LimitsText.Cs 100000 impl_LimitsText.cuts [] Tryd.f6 (k + 1) [.v (.agg [(.int .i64 a0_0), (.int .i64 a0_1), (.int .i64 a0_2), (.int .i64 a0_3), (.int .i64 a0_4)])] = (impl_LimitsText.f (k + 1) a0_0 a0_1 a0_2 a0_3 a0_4).map impl_LimitsText.enc := by
  have ih := impl_LimitsText.rounds_eq a0_0 a0_1 a0_2 a0_3 a0_4 k
  refine (impl_LimitsText.s k a0_0 a0_1 a0_2 a0_3 a0_4).trans (Eq.trans ?_ (impl_LimitsText.b_nat impl_LimitsText.enc some (impl_LimitsText.l0 k) k a0_0 a0_1 a0_2 a0_3 a0_4))
  simp only [ih, Option.map_some]
theorem impl_LimitsText.sound (k : Nat) : SoundF Tryd.prog 6 (fun a => (impl_LimitsText.ans k a).val) := by
  refine sound_plain (fun args res h => ?_) (fun t n => rfl)
  unfold impl_LimitsText.ans at h
  dsimp only at h
  split at h
  · cases k with
    | zero => cases h
    | succ k =>
      unfold Ans.val at h
      rw [← impl_LimitsText.eq] at h
      exact answer_sound mixed Tryd.func6 _ _ _ (k + 1) (fun j _ => tab_sound (tab_cons (impl_LimitsOk.sound j) (tab_cons (impl_NumText.sound j) (tab_nil)))) _ _ h
  · exact (Ans.no_val h).elim

/-! strings_Split -/
def strings_Split.f (k : Nat) (a0 : ByteArray) (a1 : ByteArray) : Option (Bool × List T) := cond (splitOk a0 a1) (some (false, splitT a0 a1)) none
def strings_Split.enc (r : Bool × List T) : Res := ⟨[.vals false [((.sl 9 r.1 r.2), false)]], []⟩
def strings_Split.ans (k : Nat) : List Arg → Ans
  | [.v (.str a0), .v (.str a1)] => ⟨strings_Split.f k a0 a1, strings_Split.enc⟩
  | _ => Ans.no
theorem strings_Split.sound (k : Nat) : SoundF Tryd.prog 18 (fun a => (strings_Split.ans k a).val) := by
  refine sound_ext (fun _ _ => rfl) fun args res h => ?_
  unfold strings_Split.ans at h
  split at h
  · exact ext_split lay_Split Tryd.underlying9 (by kernel_rfl) (by kernel_rfl) (by kernel_rfl) h
  · exact (Ans.no_val h).elim

/-! loop.example/g00790/impl.Cut -/
def impl_Cut.b {R : Type} (ret : Bool × List T → Option R) (k : Nat) (a0 : ByteArray) : Option R :=
  (strings_Split.f k a0 (⟨#[32]⟩ : ByteArray)).bind fun t0 => ret (t0.1, t0.2)
def impl_Cut.f : Nat → ByteArray → Option (Bool × List T)
  | 0, _ => none
  | k + 1, a0 => impl_Cut.b some k a0
def impl_Cut.enc (r : Bool × List T) : Res := ⟨[.vals false [((.sl 9 r.1 r.2), false)]], []⟩
def impl_Cut.ans (k : Nat) : List Arg → Ans
  | [.v (.str a0)] => ⟨impl_Cut.f k a0, impl_Cut.enc⟩
  | _ => Ans.no
def impl_Cut.Cs (k : Nat) : CallSem := tab [(18, strings_Split.ans k)]
def impl_Cut.cuts : List (Nat × Keep) := []
theorem impl_Cut.s (k : Nat) (a0 : ByteArray) : answer Tryd.prog impl_Cut.Cs 100000 impl_Cut.cuts [false] Tryd.f14 (k + 1) [.v (.str a0)] = impl_Cut.b (fun r => some (impl_Cut.enc r)) k a0 := by kernel_rfl
theorem impl_Cut.b_nat {R R' : Type} (e : R → R') (ret : Bool × List T → Option R) (k : Nat) (a0 : ByteArray) : impl_Cut.b (fun r => (ret r).map e) k a0 = (impl_Cut.b ret k a0).map e := by
  unfold impl_Cut.b
  repeat' first | with_reducible refine nat_cond ?_ ?_ | with_reducible refine nat_bind fun _ => ?_ | rfl
theorem impl_Cut.eq (k : Nat) (a0 : ByteArray) : answer Tryd.prog impl_Cut.Cs 100000 impl_Cut.cuts [false] Tryd.f14 (k + 1) [.v (.str a0)] = (impl_Cut.f (k + 1) a0).map impl_Cut.enc := by
  refine (impl_Cut.s k a0).trans (Eq.trans ?_ (impl_Cut.b_nat impl_Cut.enc some k a0))
  simp only [Option.map_some]
theorem impl_Cut.sound (k : Nat) : SoundF Tryd.prog 14 (fun a => (impl_Cut.ans k a).val) := by
  refine sound_plain (fun args res h => ?_) (fun t n => rfl)
  unfold impl_Cut.ans at h
  dsimp only at h
  split at h
  · cases k with
    | zero => cases h
    | succ k =>
      unfold Ans.val at h
      rw [← impl_Cut.eq] at h
      exact answer_sound mixed Tryd.func14 _ _ _ (k + 1) (fun j _ => tab_sound (tab_cons (strings_Split.sound j) (tab_nil))) _ _ h
  · exact (Ans.no_val h).elim

/-! strconv_Atoi -/
def strconv_Atoi.f (k : Nat) (a0 : ByteArray) : Option Int := cond (atoiOk a0) (some (atoiV a0)) none
def strconv_Atoi.enc (r : Int) : Res := ⟨[.vals false [((.int .i64 r), true)], .vals false [(.ni, true)]], []⟩
def strconv_Atoi.ans (k : Nat) : List Arg → Ans
  | [.v (.str a0)] => ⟨strconv_Atoi.f k a0, strconv_Atoi.enc⟩
  | _ => Ans.no
theorem strconv_Atoi.sound (k : Nat) : SoundF Tryd.prog 28 (fun a => (strconv_Atoi.ans k a).val) := by
  refine sound_ext (fun _ _ => rfl) fun args res h => ?_
  unfold strconv_Atoi.ans at h
  split at h
  · exact ext_atoi lay_Atoi h
  · exact (Ans.no_val h).elim

/-! loop.example/g00790/impl.TextNum -/
def impl_TextNum.b {R : Type} (ret : Int × Bool → Option R) (k : Nat) (a0 : ByteArray) : Option R :=
  (strconv_Atoi.f k a0).bind fun t0 => (impl_isNum.f k t0).bind fun t1 => cond (!t1) (ret (0, false)) ((impl_NumText.f k t0).bind fun t2 => cond (!decide (t2 = a0)) (ret (0, false)) (ret (t0, true)))
def impl_TextNum.f : Nat → ByteArray → Option (Int × Bool)
  | 0, _ => none
  | k + 1, a0 => impl_TextNum.b some k a0
def impl_TextNum.enc (r : Int × Bool) : Res := ⟨[.vals false [((.int .i64 r.1), true)], .vals false [((.bool r.2), true)]], []⟩
def impl_TextNum.ans (k : Nat) : List Arg → Ans
  | [.v (.str a0)] => ⟨impl_TextNum.f k a0, impl_TextNum.enc⟩
  | _ => Ans.no
def impl_TextNum.Cs (k : Nat) : CallSem := tab [(16, impl_NumText.ans k), (29, impl_isNum.ans k), (28, strconv_Atoi.ans k)]
def impl_TextNum.cuts : List (Nat × Keep) := []
theorem impl_TextNum.s (k : Nat) (a0 : ByteArray) : answer Tryd.prog impl_TextNum.Cs 100000 impl_TextNum.cuts [] Tryd.f15 (k + 1) [.v (.str a0)] = impl_TextNum.b (fun r => some (impl_TextNum.enc r)) k a0 := by kernel_rfl
theorem impl_TextNum.b_nat {R R' : Type} (e : R → R') (ret : Int × Bool → Option R) (k : Nat) (a0 : ByteArray) : impl_TextNum.b (fun r => (ret r).map e) k a0 = (impl_TextNum.b ret k a0).map e := by
  unfold impl_TextNum.b
  repeat' first | with_reducible refine nat_cond ?_ ?_ | with_reducible refine nat_bind fun _ => ?_ | rfl
theorem impl_TextNum.eq (k : Nat) (a0 : ByteArray) : answer Tryd.prog impl_TextNum.Cs 100000 impl_TextNum.cuts [] Tryd.f15 (k + 1) [.v (.str a0)] = (impl_TextNum.f (k + 1) a0).map impl_TextNum.enc := by
  refine (impl_TextNum.s k a0).trans (Eq.trans ?_ (impl_TextNum.b_nat impl_TextNum.enc some k a0))
  simp only [Option.map_some]
theorem impl_TextNum.sound (k : Nat) : SoundF Tryd.prog 15 (fun a => (impl_TextNum.ans k a).val) := by
  refine sound_plain (fun args res h => ?_) (fun t n => rfl)
  unfold impl_TextNum.ans at h
  dsimp only at h
  split at h
  · cases k with
    | zero => cases h
    | succ k =>
      unfold Ans.val at h
      rw [← impl_TextNum.eq] at h
      exact answer_sound mixed Tryd.func15 _ _ _ (k + 1) (fun j _ => tab_sound (tab_cons (impl_NumText.sound j) (tab_cons (impl_isNum.sound j) (tab_cons (strconv_Atoi.sound j) (tab_nil))))) _ _ h
  · exact (Ans.no_val h).elim

/-! loop.example/g00790/impl.TextLimits -/
def impl_TextLimits.b {R : Type} (ret : Int × Int × Int × Int × Int × Bool → Option R) (j0 : ByteArray → Bool → (List T) → Int → (List Int) → Option R) (k : Nat) (a0 : ByteArray) : Option R :=
  (impl_Cut.f k a0).bind fun t0 => cond (!(decide (((t0.2).length : Int) = 6))) (ret (0, 0, 0, 0, 0, false)) (j0 a0 t0.1 t0.2 1 ([0, 0, 0, 0, 0, 0] : List Int))
def impl_TextLimits.l0b {R : Type} (ret : Int × Int × Int × Int × Int × Bool → Option R) (j0 : ByteArray → Bool → (List T) → Int → (List Int) → Option R) (k : Nat) (x0 : ByteArray) (x4z : Bool) (x4 : List T) (x6 : Int) (c5 : List Int) : Option R :=
  cond (decide (x6 < 6)) (cond (decide ((0 : Int) ≤ x6)) (cond (decide (x6 < ((x4).length : Int))) ((impl_TextNum.f k (((((x4).getD (x6).toNat .bad).cells.getD 0 .bad)).toStr)).bind fun t0 => cond (decide ((0 : Int) ≤ x6)) (cond (decide (x6 < 6)) (j0 x0 x4z x4 (RowKit.wrap64 (x6 + 1)) ((c5).set (x6).toNat t0.1)) (none)) (none)) (none)) (none)) ((impl_LimitsText.f k (rdI c5 1) (rdI c5 2) (rdI c5 3) (rdI c5 4) (rdI c5 5)).bind fun t0 => cond (!decide (t0 = x0)) (ret (0, 0, 0, 0, 0, false)) (ret ((rdI c5 1), (rdI c5 2), (rdI c5 3), (rdI c5 4), (rdI c5 5), true)))
def impl_TextLimits.l0 : Nat → ByteArray → Bool → (List T) → Int → (List Int) → Option (Int × Int × Int × Int × Int × Bool)
  | 0, _, _, _, _, _ => none
  | k + 1, x0, x4z, x4, x6, c5 => impl_TextLimits.l0b some (impl_TextLimits.l0 k) k x0 x4z x4 x6 c5
def impl_TextLimits.f : Nat → ByteArray → Option (Int × Int × Int × Int × Int × Bool)
  | 0, _ => none
  | k + 1, a0 => impl_TextLimits.b some (impl_TextLimits.l0 k) k a0
def impl_TextLimits.enc (r : Int × Int × Int × Int × Int × Bool) : Res := ⟨[.vals true [((.int .i64 r.1), true), ((.int .i64 r.2.1), true), ((.int .i64 r.2.2.1), true), ((.int .i64 r.2.2.2.1), true), ((.int .i64 r.2.2.2.2.1), true)], .vals false [((.bool r.2.2.2.2.2), true)]], []⟩
def impl_TextLimits.ans (k : Nat) : List Arg → Ans
  | [.v (.str a0)] => ⟨impl_TextLimits.f k a0, impl_TextLimits.enc⟩
  | _ => Ans.no
def impl_TextLimits.Cs (k : Nat) : CallSem := tab [(6, impl_LimitsText.ans k), (14, impl_Cut.ans k), (15, impl_TextNum.ans k)]
def impl_TextLimits.cuts : List (Nat × Keep) := [(250, ⟨[(0, some []), (2, some []), (4, some []), (5, some []), (6, some [])], [(2, [some [], some [], some [], some [], some []])]⟩)]
noncomputable def impl_TextLimits.K0 : List Fr := framesAt [true, true, true, true, false, true, false] (bodyOf Tryd.f5 impl_TextLimits.cuts) []
def impl_TextLimits.N0 (x0 : ByteArray) (x4z : Bool) (x4 : List T) (x6 : Int) (c5 : List Int) : St := stOf 46 46 1 [(0, .val (V.s (.str x0))), (2, .bp 2 0), (4, .val ⟨(.sl 9 x4z x4), [], false, none⟩), (5, .bp 5 0), (6, .val (V.s (.int .i64 x6)))] [(2, .cells [V.s (.int .i64 0), V.s (.int .i64 0), V.s (.int .i64 0), V.s (.int .i64 0), V.s (.int .i64 0)]), (5, .arr .i64 6 c5)]
theorem impl_TextLimits.s (k : Nat) (a0 : ByteArray) : answer Tryd.prog impl_TextLimits.Cs 100000 impl_TextLimits.cuts [] Tryd.f5 (k + 1) [.v (.str a0)] = impl_TextLimits.b (fun r => some (impl_TextLimits.enc r)) (fun x0 x4z x4 x6 c5 => rounds Tryd.prog impl_TextLimits.Cs (finish Tryd.prog [] Tryd.f5 [.v (.str a0)]) 100000 k impl_TextLimits.K0 (impl_TextLimits.N0 x0 x4z x4 x6 c5)) k a0 := by kernel_rfl
theorem impl_TextLimits.s0 (k : Nat) (G : List Fr → St → Option Res) (a0 : ByteArray) (yx0 : ByteArray) (yx4z : Bool) (yx4 : List T) (yx6 : Int) (yc5 : List Int) : resume Tryd.prog (impl_TextLimits.Cs k) G (finish Tryd.prog [] Tryd.f5 [.v (.str a0)]) 100000 impl_TextLimits.K0 (impl_TextLimits.N0 yx0 yx4z yx4 yx6 yc5) = impl_TextLimits.l0b (fun r => some (impl_TextLimits.enc r)) (fun x0 x4z x4 x6 c5 => G impl_TextLimits.K0 (impl_TextLimits.N0 x0 x4z x4 x6 c5)) k yx0 yx4z yx4 yx6 yc5 := by kernel_rfl
theorem impl_TextLimits.b_nat {R R' : Type} (e : R → R') (ret : Int × Int × Int × Int × Int × Bool → Option R) (j0 : ByteArray → Bool → (List T) → Int → (List Int) → Option R) (k : Nat) (a0 : ByteArray) : impl_TextLimits.b (fun r => (ret r).map e) (fun x0 x4z x4 x6 c5 => (j0 x0 x4z x4 x6 c5).map e) k a0 = (impl_TextLimits.b ret j0 k a0).map e := by
  unfold impl_TextLimits.b
  repeat' first | with_reducible refine nat_cond ?_ ?_ | with_reducible refine nat_bind fun _ => ?_ | rfl
theorem impl_TextLimits.l0b_nat {R R' : Type} (e : R → R') (ret : Int × Int × Int × Int × Int × Bool → Option R) (j0 : ByteArray → Bool → (List T) → Int → (List Int) → Option R) (k : Nat) (x0 : ByteArray) (x4z : Bool) (x4 : List T) (x6 : Int) (c5 : List Int) : impl_TextLimits.l0b (fun r => (ret r).map e) (fun x0 x4z x4 x6 c5 => (j0 x0 x4z x4 x6 c5).map e) k x0 x4z x4 x6 c5 = (impl_TextLimits.l0b ret j0 k x0 x4z x4 x6 c5).map e := by
  unfold impl_TextLimits.l0b
  repeat' first | with_reducible refine nat_cond ?_ ?_ | with_reducible refine nat_bind fun _ => ?_ | rfl
theorem impl_TextLimits.rounds_eq (a0 : ByteArray) : ∀ k, (∀ (x0 : ByteArray) (x4z : Bool) (x4 : List T) (x6 : Int) (c5 : List Int), rounds Tryd.prog impl_TextLimits.Cs (finish Tryd.prog [] Tryd.f5 [.v (.str a0)]) 100000 k impl_TextLimits.K0 (impl_TextLimits.N0 x0 x4z x4 x6 c5) = (impl_TextLimits.l0 k x0 x4z x4 x6 c5).map impl_TextLimits.enc)
  | 0 => fun _ _ _ _ _ => rfl
  | k + 1 => by
    have ih := impl_TextLimits.rounds_eq a0 k
    refine fun _ _ _ _ _ => ?_
    · refine (impl_TextLimits.s0 k _ a0 _ _ _ _ _).trans (Eq.trans ?_ (impl_TextLimits.l0b_nat impl_TextLimits.enc some (impl_TextLimits.l0 k) k _ _ _ _ _))
      simp only [ih, Option.map_some]
theorem impl_TextLimits.eq (k : Nat) (a0 : ByteArray) : answer Tryd.prog impl_TextLimits.Cs 100000 impl_TextLimits.cuts [] Tryd.f5 (k + 1) [.v (.str a0)] = (impl_TextLimits.f (k + 1) a0).map impl_TextLimits.enc := by
  have ih := impl_TextLimits.rounds_eq a0 k
  refine (impl_TextLimits.s k a0).trans (Eq.trans ?_ (impl_TextLimits.b_nat impl_TextLimits.enc some (impl_TextLimits.l0 k) k a0))
  simp only [ih, Option.map_some]
theorem impl_TextLimits.sound (k : Nat) : SoundF Tryd.prog 5 (fun a => (impl_TextLimits.ans k a).val) := by
  refine sound_plain (fun args res h => ?_) (fun t n => rfl)
  unfold impl_TextLimits.ans at h
  dsimp only at h
  split at h
  · cases k with
    | zero => cases h
    | succ k =>
      unfold Ans.val at h
      rw [← impl_TextLimits.eq] at h
      exact answer_sound mixed Tryd.func5 _ _ _ (k + 1) (fun j _ => tab_sound (tab_cons (impl_LimitsText.sound j) (tab_cons (impl_Cut.sound j) (tab_cons (impl_TextNum.sound j) (tab_nil))))) _ _ h
  · exact (Ans.no_val h).elim

/-! loop.example/g00790/impl.TableOk -/
def impl_TableOk.b {R : Type} (ret : Bool → Option R) (j0 : Bool → (List T) → Int → Int → Bool → (List T) → Option R) (k : Nat) (a0_0z : Bool) (a0_0 : List T) : Option R :=
  j0 a0_0z a0_0 ((a0_0).length : Int) 0 a0_0z a0_0
def impl_TableOk.l0b {R : Type} (ret : Bool → Option R) (j0 : Bool → (List T) → Int → Int → Bool → (List T) → Option R) (k : Nat) (x6z : Bool) (x6 : List T) (x7 : Int) (x8 : Int) (c1_0z : Bool) (c1_0 : List T) : Option R :=
  cond (decide (x8 < x7)) (cond (decide ((0 : Int) ≤ x8)) (cond (decide (x8 < ((x6).length : Int))) ((impl_within.f k (((((x6).getD (x8).toNat .bad).cells.getD 0 .bad)).toInt) 1 1099511627776).bind fun t0 => cond (!t0) (ret false) ((impl_within.f k ((((((x6).getD (x8).toNat .bad).cells.getD 1 .bad)).toNums).length : Int) 1 64).bind fun t1 => cond (!t1) (ret false) (j0 x6z x6 x7 (RowKit.wrap64 (x8 + 1)) c1_0z c1_0))) (none)) (none)) ((impl_within.f k ((c1_0).length : Int) 1 10).bind fun t0 => ret t0)
def impl_TableOk.l0 : Nat → Bool → (List T) → Int → Int → Bool → (List T) → Option Bool
  | 0, _, _, _, _, _, _ => none
  | k + 1, x6z, x6, x7, x8, c1_0z, c1_0 => impl_TableOk.l0b some (impl_TableOk.l0 k) k x6z x6 x7 x8 c1_0z c1_0
def impl_TableOk.f : Nat → Bool → (List T) → Option Bool
  | 0, _, _ => none
  | k + 1, a0_0z, a0_0 => impl_TableOk.b some (impl_TableOk.l0 k) k a0_0z a0_0
def impl_TableOk.enc (r : Bool) : Res := ⟨[.vals false [((.bool r), true)]], []⟩
def impl_TableOk.ans (k : Nat) : List Arg → Ans
  | [.v (.agg [(.sl 56 a0_0z a0_0)])] => ⟨impl_TableOk.f k a0_0z a0_0, impl_TableOk.enc⟩
  | _ => Ans.no
def impl_TableOk.Cs (k : Nat) : CallSem := tab [(24, impl_within.ans k)]
def impl_TableOk.cuts : List (Nat × Keep) := [(26, ⟨[(1, some []), (6, some []), (7, some []), (8, some [])], [(1, [some []])]⟩)]
noncomputable def impl_TableOk.K0 : List Fr := framesAt [true, false, true, false] (bodyOf Tryd.f11 impl_TableOk.cuts) []
def impl_TableOk.N0 (x6z : Bool) (x6 : List T) (x7 : Int) (x8 : Int) (c1_0z : Bool) (c1_0 : List T) : St := stOf 28 28 1 [(1, .bp 1 0), (6, .val ⟨(.sl 56 x6z x6), [], false, none⟩), (7, .val (V.s (.int .i64 x7))), (8, .val (V.s (.int .i64 x8)))] [(1, .cells [⟨(.sl 56 c1_0z c1_0), [], false, none⟩])]
theorem impl_TableOk.s (k : Nat) (a0_0z : Bool) (a0_0 : List T) : answer Tryd.prog impl_TableOk.Cs 100000 impl_TableOk.cuts [] Tryd.f11 (k + 1) [.v (.agg [(.sl 56 a0_0z a0_0)])] = impl_TableOk.b (fun r => some (impl_TableOk.enc r)) (fun x6z x6 x7 x8 c1_0z c1_0 => rounds Tryd.prog impl_TableOk.Cs (finish Tryd.prog [] Tryd.f11 [.v (.agg [(.sl 56 a0_0z a0_0)])]) 100000 k impl_TableOk.K0 (impl_TableOk.N0 x6z x6 x7 x8 c1_0z c1_0)) k a0_0z a0_0 := by kernel_rfl
theorem impl_TableOk.s0 (k : Nat) (G : List Fr → St → Option Res) (a0_0z : Bool) (a0_0 : List T) (yx6z : Bool) (yx6 : List T) (yx7 : Int) (yx8 : Int) (yc1_0z : Bool) (yc1_0 : List T) : resume Tryd.prog (impl_TableOk.Cs k) G (finish Tryd.prog [] Tryd.f11 [.v (.agg [(.sl 56 a0_0z a0_0)])]) 100000 impl_TableOk.K0 (impl_TableOk.N0 yx6z yx6 yx7 yx8 yc1_0z yc1_0) = impl_TableOk.l0b (fun r => some (impl_TableOk.enc r)) (fun x6z x6 x7 x8 c1_0z c1_0 => G impl_TableOk.K0 (impl_TableOk.N0 x6z x6 x7 x8 c1_0z c1_0)) k yx6z yx6 yx7 yx8 yc1_0z yc1_0 := by kernel_rfl
theorem impl_TableOk.b_nat {R R' : Type} (e : R → R') (ret : Bool → Option R) (j0 : Bool → (List T) → Int → Int → Bool → (List T) → Option R) (k : Nat) (a0_0z : Bool) (a0_0 : List T) : impl_TableOk.b (fun r => (ret r).map e) (fun x6z x6 x7 x8 c1_0z c1_0 => (j0 x6z x6 x7 x8 c1_0z c1_0).map e) k a0_0z a0_0 = (impl_TableOk.b ret j0 k a0_0z a0_0).map e := by
  unfold impl_TableOk.b
  repeat' first | with_reducible refine nat_cond ?_ ?_ | with_reducible refine nat_bind fun _ => ?_ | rfl
theorem impl_TableOk.l0b_nat {R R' : Type} (e : R → R') (ret : Bool → Option R) (j0 : Bool → (List T) → Int → Int → Bool → (List T) → Option R) (k : Nat) (x6z : Bool) (x6 : List T) (x7 : Int) (x8 : Int) (c1_0z : Bool) (c1_0 : List T) : impl_TableOk.l0b (fun r => (ret r).map e) (fun x6z x6 x7 x8 c1_0z c1_0 => (j0 x6z x6 x7 x8 c1_0z c1_0).map e) k x6z x6 x7 x8 c1_0z c1_0 = (impl_TableOk.l0b ret j0 k x6z x6 x7 x8 c1_0z c1_0).map e := by
  unfold impl_TableOk.l0b
  repeat' first | with_reducible refine nat_cond ?_ ?_ | with_reducible refine nat_bind fun _ => ?_ | rfl
theorem impl_TableOk.rounds_eq (a0_0z : Bool) (a0_0 : List T) : ∀ k, (∀ (x6z : Bool) (x6 : List T) (x7 : Int) (x8 : Int) (c1_0z : Bool) (c1_0 : List T), rounds Tryd.prog impl_TableOk.Cs (finish Tryd.prog [] Tryd.f11 [.v (.agg [(.sl 56 a0_0z a0_0)])]) 100000 k impl_TableOk.K0 (impl_TableOk.N0 x6z x6 x7 x8 c1_0z c1_0) = (impl_TableOk.l0 k x6z x6 x7 x8 c1_0z c1_0).map impl_TableOk.enc)
  | 0 => fun _ _ _ _ _ _ => rfl
  | k + 1 => by
    have ih := impl_TableOk.rounds_eq a0_0z a0_0 k
    refine fun _ _ _ _ _ _ => ?_
    · refine (impl_TableOk.s0 k _ a0_0z a0_0 _ _ _ _ _ _).trans (Eq.trans ?_ (impl_TableOk.l0b_nat impl_TableOk.enc some (impl_TableOk.l0 k) k _ _ _ _ _ _))
      simp only [ih, Option.map_some]
theorem impl_TableOk.eq (k : Nat) (a0_0z : Bool) (a0_0 : List T) : answer Tryd.prog impl_TableOk.Cs 100000 impl_TableOk.cuts [] Tryd.f11 (k + 1) [.v (.agg [(.sl 56 a0_0z a0_0)])] = (impl_TableOk.f (k + 1) a0_0z a0_0).map impl_TableOk.enc := by
  have ih := impl_TableOk.rounds_eq a0_0z a0_0 k
  refine (impl_TableOk.s k a0_0z a0_0).trans (Eq.trans ?_ (impl_TableOk.b_nat impl_TableOk.enc some (impl_TableOk.l0 k) k a0_0z a0_0))
  simp only [ih, Option.map_some]
theorem impl_TableOk.sound (k : Nat) : SoundF Tryd.prog 11 (fun a => (impl_TableOk.ans k a).val) := by
  refine sound_plain (fun args res h => ?_) (fun t n => rfl)
  unfold impl_TableOk.ans at h
  dsimp only at h
  split at h
  · cases k with
    | zero => cases h
    | succ k =>
      unfold Ans.val at h
      rw [← impl_TableOk.eq] at h
      exact answer_sound mixed Tryd.func11 _ _ _ (k + 1) (fun j _ => tab_sound (tab_cons (impl_within.sound j) (tab_nil))) _ _ h
  · exact (Ans.no_val h).elim

/-! loop.example/g00790/impl.HexText -/
def impl_HexText.b {R : Type} (ret : ByteArray → Option R) (j0 : (List Int) → Bool → (List Int) → Int → Int → Option R) (k : Nat) (a0z : Bool) (a0 : List Int) : Option R :=
  j0 ([] : List Int) a0z a0 ((a0).length : Int) 0
def impl_HexText.l0b {R : Type} (ret : ByteArray → Option R) (j0 : (List Int) → Bool → (List Int) → Int → Int → Option R) (k : Nat) (x3 : List Int) (x7z : Bool) (x7 : List Int) (x8 : Int) (x9 : Int) : Option R :=
  cond (decide (x9 < x8)) (cond (decide ((0 : Int) ≤ x9)) (cond (decide (x9 < ((x7).length : Int))) (cond (decide ((0 : Int) ≤ (shrI .u8 (rdI x7 x9) 4))) (cond (decide ((shrI .u8 (rdI x7 x9) 4) < (((⟨#[48, 49, 50, 51, 52, 53, 54, 55, 56, 57, 97, 98, 99, 100, 101, 102]⟩ : ByteArray)).size : Int))) (cond (decide ((0 : Int) ≤ (Go.bits .and .u8 (rdI x7 x9) 15))) (cond (decide ((Go.bits .and .u8 (rdI x7 x9) 15) < (((⟨#[48, 49, 50, 51, 52, 53, 54, 55, 56, 57, 97, 98, 99, 100, 101, 102]⟩ : ByteArray)).size : Int))) (cond (decide ((x3).length + 2 < 140737488355328)) (j0 (x3 ++ ([(btI (⟨#[48, 49, 50, 51, 52, 53, 54, 55, 56, 57, 97, 98, 99, 100, 101, 102]⟩ : ByteArray) (shrI .u8 (rdI x7 x9) 4)), (btI (⟨#[48, 49, 50, 51, 52, 53, 54, 55, 56, 57, 97, 98, 99, 100, 101, 102]⟩ : ByteArray) (Go.bits .and .u8 (rdI x7 x9) 15))] : List Int)) x7z x7 x8 (RowKit.wrap64 (x9 + 1))) (none)) (none)) (none)) (none)) (none)) (none)) (none)) (ret (strOf x3))
def impl_HexText.l0 : Nat → (List Int) → Bool → (List Int) → Int → Int → Option ByteArray
  | 0, _, _, _, _, _ => none
  | k + 1, x3, x7z, x7, x8, x9 => impl_HexText.l0b some (impl_HexText.l0 k) k x3 x7z x7 x8 x9
def impl_HexText.f : Nat → Bool → (List Int) → Option ByteArray
  | 0, _, _ => none
  | k + 1, a0z, a0 => impl_HexText.b some (impl_HexText.l0 k) k a0z a0
def impl_HexText.enc (r : ByteArray) : Res := ⟨[.vals false [((.str r), true)]], []⟩
def impl_HexText.ans (k : Nat) : List Arg → Ans
  | [.v (.nums 5 .u8 a0z a0)] => ⟨impl_HexText.f k a0z a0, impl_HexText.enc⟩
  | _ => Ans.no
def impl_HexText.Cs (k : Nat) : CallSem := tab []
def impl_HexText.cuts : List (Nat × Keep) := [(58, ⟨[(3, none), (7, some []), (8, some []), (9, some [])], []⟩)]
noncomputable def impl_HexText.K0 : List Fr := framesAt [true, true, false, true, false] (bodyOf Tryd.f21 impl_HexText.cuts) []
def impl_HexText.N0 (x3 : List Int) (x7z : Bool) (x7 : List Int) (x8 : Int) (x9 : Int) : St := stOf 25 25 1 [(3, .val ⟨(.nums 5 .u8 false x3), [.l 3 0], true, some (.l 3 0)⟩), (7, .val ⟨(.nums 5 .u8 x7z x7), [], false, none⟩), (8, .val (V.s (.int .i64 x8))), (9, .val (V.s (.int .i64 x9)))] []
theorem impl_HexText.s (k : Nat) (a0z : Bool) (a0 : List Int) : answer Tryd.prog impl_HexText.Cs 100000 impl_HexText.cuts [] Tryd.f21 (k + 1) [.v (.nums 5 .u8 a0z a0)] = impl_HexText.b (fun r => some (impl_HexText.enc r)) (fun x3 x7z x7 x8 x9 => rounds Tryd.prog impl_HexText.Cs (finish Tryd.prog [] Tryd.f21 [.v (.nums 5 .u8 a0z a0)]) 100000 k impl_HexText.K0 (impl_HexText.N0 x3 x7z x7 x8 x9)) k a0z a0 := by kernel_rfl
theorem impl_HexText.s0 (k : Nat) (G : List Fr → St → Option Res) (a0z : Bool) (a0 : List Int) (yx3 : List Int) (yx7z : Bool) (yx7 : List Int) (yx8 : Int) (yx9 : Int) : resume Tryd.prog (impl_HexText.Cs k) G (finish Tryd.prog [] Tryd.f21 [.v (.nums 5 .u8 a0z a0)]) 100000 impl_HexText.K0 (impl_HexText.N0 yx3 yx7z yx7 yx8 yx9) = impl_HexText.l0b (fun r => some (impl_HexText.enc r)) (fun x3 x7z x7 x8 x9 => G impl_HexText.K0 (impl_HexText.N0 x3 x7z x7 x8 x9)) k yx3 yx7z yx7 yx8 yx9 := by kernel_rfl
theorem impl_HexText.b_nat {R R' : Type} (e : R → R') (ret : ByteArray → Option R) (j0 : (List Int) → Bool → (List Int) → Int → Int → Option R) (k : Nat) (a0z : Bool) (a0 : List Int) : impl_HexText.b (fun r => (ret r).map e) (fun x3 x7z x7 x8 x9 => (j0 x3 x7z x7 x8 x9).map e) k a0z a0 = (impl_HexText.b ret j0 k a0z a0).map e := by
  unfold impl_HexText.b
  repeat' first | with_reducible refine nat_cond ?_ ?_ | with_reducible refine nat_bind fun _ => ?_ | rfl
theorem impl_HexText.l0b_nat {R R' : Type} (e : R → R') (ret : ByteArray → Option R) (j0 : (List Int) → Bool → (List Int) → Int → Int → Option R) (k : Nat) (x3 : List Int) (x7z : Bool) (x7 : List Int) (x8 : Int) (x9 : Int) : impl_HexText.l0b (fun r => (ret r).map e) (fun x3 x7z x7 x8 x9 => (j0 x3 x7z x7 x8 x9).map e) k x3 x7z x7 x8 x9 = (impl_HexText.l0b ret j0 k x3 x7z x7 x8 x9).map e := by
  unfold impl_HexText.l0b
  repeat' first | with_reducible refine nat_cond ?_ ?_ | with_reducible refine nat_bind fun _ => ?_ | rfl
theorem impl_HexText.rounds_eq (a0z : Bool) (a0 : List Int) : ∀ k, (∀ (x3 : List Int) (x7z : Bool) (x7 : List Int) (x8 : Int) (x9 : Int), rounds Tryd.prog impl_HexText.Cs (finish Tryd.prog [] Tryd.f21 [.v (.nums 5 .u8 a0z a0)]) 100000 k impl_HexText.K0 (impl_HexText.N0 x3 x7z x7 x8 x9) = (impl_HexText.l0 k x3 x7z x7 x8 x9).map impl_HexText.enc)
  | 0 => fun _ _ _ _ _ => rfl
  | k + 1 => by
    have ih := impl_HexText.rounds_eq a0z a0 k
    refine fun _ _ _ _ _ => ?_
    · refine (impl_HexText.s0 k _ a0z a0 _ _ _ _ _).trans (Eq.trans ?_ (impl_HexText.l0b_nat impl_HexText.enc some (impl_HexText.l0 k) k _ _ _ _ _))
      simp only [ih, Option.map_some]
theorem impl_HexText.eq (k : Nat) (a0z : Bool) (a0 : List Int) : answer Tryd.prog impl_HexText.Cs 100000 impl_HexText.cuts [] Tryd.f21 (k + 1) [.v (.nums 5 .u8 a0z a0)] = (impl_HexText.f (k + 1) a0z a0).map impl_HexText.enc := by
  have ih := impl_HexText.rounds_eq a0z a0 k
  refine (impl_HexText.s k a0z a0).trans (Eq.trans ?_ (impl_HexText.b_nat impl_HexText.enc some (impl_HexText.l0 k) k a0z a0))
  simp only [ih, Option.map_some]
theorem impl_HexText.sound (k : Nat) : SoundF Tryd.prog 21 (fun a => (impl_HexText.ans k a).val) := by
  refine sound_plain (fun args res h => ?_) (fun t n => rfl)
  unfold impl_HexText.ans at h
  dsimp only at h
  split at h
  · cases k with
    | zero => cases h
    | succ k =>
      unfold Ans.val at h
      rw [← impl_HexText.eq] at h
      exact answer_sound mixed Tryd.func21 _ _ _ (k + 1) (fun j _ => tab_sound (tab_nil)) _ _ h
  · exact (Ans.no_val h).elim

/-! strings_Join -/
def strings_Join.f (k : Nat) (a0z : Bool) (a0 : List T) (a1 : ByteArray) : Option ByteArray := cond (joinOk a0 a1) (some (joinB a0 a1)) none
def strings_Join.enc (r : ByteArray) : Res := ⟨[.vals false [((.str r), true)]], []⟩
def strings_Join.ans (k : Nat) : List Arg → Ans
  | [.v (.sl 9 a0z a0), .v (.str a1)] => ⟨strings_Join.f k a0z a0 a1, strings_Join.enc⟩
  | _ => Ans.no
theorem strings_Join.sound (k : Nat) : SoundF Tryd.prog 22 (fun a => (strings_Join.ans k a).val) := by
  refine sound_ext (fun _ _ => rfl) fun args res h => ?_
  unfold strings_Join.ans at h
  split at h
  · exact ext_join lay_Join (by kernel_rfl) h
  · exact (Ans.no_val h).elim

/-! loop.example/g00790/impl.TableText -/
def impl_TableText.b {R : Type} (ret : ByteArray → Option R) (j0 : (List T) → Bool → (List T) → Int → Int → Option R) (k : Nat) (a0_0z : Bool) (a0_0 : List T) : Option R :=
  (impl_TableOk.f k a0_0z a0_0).bind fun t0 => cond (!t0) (ret (⟨#[]⟩ : ByteArray)) (j0 ([] : List T) a0_0z a0_0 ((a0_0).length : Int) 0)
def impl_TableText.l0b {R : Type} (ret : ByteArray → Option R) (j0 : (List T) → Bool → (List T) → Int → Int → Option R) (k : Nat) (x3 : List T) (x11z : Bool) (x11 : List T) (x12 : Int) (x13 : Int) : Option R :=
  cond (decide (x13 < x12)) (cond (decide ((0 : Int) ≤ x13)) (cond (decide (x13 < ((x11).length : Int))) ((impl_NumText.f k (((((x11).getD (x13).toNat .bad).cells.getD 0 .bad)).toInt)).bind fun t0 => cond (decide ((t0).size + ((⟨#[58]⟩ : ByteArray)).size ≤ 140737488355328)) ((impl_HexText.f k (((((x11).getD (x13).toNat .bad).cells.getD 1 .bad)).isNil) (((((x11).getD (x13).toNat .bad).cells.getD 1 .bad)).toNums)).bind fun t1 => cond (decide (((t0 ++ (⟨#[58]⟩ : ByteArray))).size + (t1).size ≤ 140737488355328)) (cond (decide ((x3).length + 1 < 8796093022208)) (j0 (x3 ++ ([(.str ((t0 ++ (⟨#[58]⟩ : ByteArray)) ++ t1))] : List T)) x11z x11 x12 (RowKit.wrap64 (x13 + 1))) (none)) (none)) (none)) (none)) (none)) ((strings_Join.f k false x3 (⟨#[44]⟩ : ByteArray)).bind fun t0 => cond (decide (((⟨#[116, 97, 98, 108, 101, 32]⟩ : ByteArray)).size + (t0).size ≤ 140737488355328)) (ret ((⟨#[116, 97, 98, 108, 101, 32]⟩ : ByteArray) ++ t0)) (none))
def impl_TableText.l0 : Nat → (List T) → Bool → (List T) → Int → Int → Option ByteArray
  | 0, _, _, _, _, _ => none
  | k + 1, x3, x11z, x11, x12, x13 => impl_TableText.l0b some (impl_TableText.l0 k) k x3 x11z x11 x12 x13
def impl_TableText.f : Nat → Bool → (List T) → Option ByteArray
  | 0, _, _ => none
  | k + 1, a0_0z, a0_0 => impl_TableText.b some (impl_TableText.l0 k) k a0_0z a0_0
def impl_TableText.enc (r : ByteArray) : Res := ⟨[.vals false [((.str r), true)]], []⟩
def impl_TableText.ans (k : Nat) : List Arg → Ans
  | [.v (.agg [(.sl 56 a0_0z a0_0)])] => ⟨impl_TableText.f k a0_0z a0_0, impl_TableText.enc⟩
  | _ => Ans.no
def impl_TableText.Cs (k : Nat) : CallSem := tab [(16, impl_NumText.ans k), (11, impl_TableOk.ans k), (21, impl_HexText.ans k), (22, strings_Join.ans k)]
def impl_TableText.cuts : List (Nat × Keep) := [(122, ⟨[(3, none), (11, some []), (12, some []), (13, some [])], []⟩)]
noncomputable def impl_TableText.K0 : List Fr := framesAt [true, true, true, false, true, false] (bodyOf Tryd.f8 impl_TableText.cuts) []
def impl_TableText.N0 (x3 : List T) (x11z : Bool) (x11 : List T) (x12 : Int) (x13 : Int) : St := stOf 32 32 1 [(3, .val ⟨(.sl 9 false x3), [.l 3 0], true, some (.l 3 0)⟩), (11, .val ⟨(.sl 56 x11z x11), [], false, none⟩), (12, .val (V.s (.int .i64 x12))), (13, .val (V.s (.int .i64 x13)))] []
theorem impl_TableText.s (k : Nat) (a0_0z : Bool) (a0_0 : List T) : answer Tryd.prog impl_TableText.Cs 100000 impl_TableText.cuts [] Tryd.f8 (k + 1) [.v (.agg [(.sl 56 a0_0z a0_0)])] = impl_TableText.b (fun r => some (impl_TableText.enc r)) (fun x3 x11z x11 x12 x13 => rounds Tryd.prog impl_TableText.Cs (finish Tryd.prog [] Tryd.f8 [.v (.agg [(.sl 56 a0_0z a0_0)])]) 100000 k impl_TableText.K0 (impl_TableText.N0 x3 x11z x11 x12 x13)) k a0_0z a0_0 := by kernel_rfl
theorem impl_TableText.s0 (k : Nat) (G : List Fr → St → Option Res) (a0_0z : Bool) (a0_0 : List T) (yx3 : List T) (yx11z : Bool) (yx11 : List T) (yx12 : Int) (yx13 : Int) : resume Tryd.prog (impl_TableText.Cs k) G (finish Tryd.prog [] Tryd.f8 [.v (.agg [(.sl 56 a0_0z a0_0)])]) 100000 impl_TableText.K0 (impl_TableText.N0 yx3 yx11z yx11 yx12 yx13) = impl_TableText.l0b (fun r => some (impl_TableText.enc r)) (fun x3 x11z x11 x12 x13 => G impl_TableText.K0 (impl_TableText.N0 x3 x11z x11 x12 x13)) k yx3 yx11z yx11 yx12 yx13 := by kernel_rfl
theorem impl_TableText.b_nat {R R' : Type} (e : R → R') (ret : ByteArray → Option R) (j0 : (List T) → Bool → (List T) → Int → Int → Option R) (k : Nat) (a0_0z : Bool) (a0_0 : List T) : impl_TableText.b (fun r => (ret r).map e) (fun x3 x11z x11 x12 x13 => (j0 x3 x11z x11 x12 x13).map e) k a0_0z a0_0 = (impl_TableText.b ret j0 k a0_0z a0_0).map e := by
  unfold impl_TableText.b
  repeat' first | with_reducible refine nat_cond ?_ ?_ | with_reducible refine nat_bind fun _ => ?_ | rfl
theorem impl_TableText.l0b_nat {R R' : Type} (e : R → R') (ret : ByteArray → Option R) (j0 : (List T) → Bool → (List T) → Int → Int → Option R) (k : Nat) (x3 : List T) (x11z : Bool) (x11 : List T) (x12 : Int) (x13 : Int) : impl_TableText.l0b (fun r => (ret r).map e) (fun x3 x11z x11 x12 x13 => (j0 x3 x11z x11 x12 x13).map e) k x3 x11z x11 x12 x13 = (impl_TableText.l0b ret j0 k x3 x11z x11 x12 x13).map e := by
  unfold impl_TableText.l0b
  repeat' first | with_reducible refine nat_cond ?_ ?_ | with_reducible refine nat_bind fun _ => ?_ | rfl
theorem impl_TableText.rounds_eq (a0_0z : Bool) (a0_0 : List T) : ∀ k, (∀ (x3 : List T) (x11z : Bool) (x11 : List T) (x12 : Int) (x13 : Int), rounds Tryd.prog impl_TableText.Cs (finish Tryd.prog [] Tryd.f8 [.v (.agg [(.sl 56 a0_0z a0_0)])]) 100000 k impl_TableText.K0 (impl_TableText.N0 x3 x11z x11 x12 x13) = (impl_TableText.l0 k x3 x11z x11 x12 x13).map impl_TableText.enc)
  | 0 => fun _ _ _ _ _ => rfl
  | k + 1 => by
    have ih := impl_TableText.rounds_eq a0_0z a0_0 k
    refine fun _ _ _ _ _ => ?_
    · refine (impl_TableText.s0 k _ a0_0z a0_0 _ _ _ _ _).trans (Eq.trans ?_ (impl_TableText.l0b_nat impl_TableText.enc some (impl_TableText.l0 k) k _ _ _ _ _))
      simp only [ih, Option.map_some]
theorem impl_TableText.eq (k : Nat) (a0_0z : Bool) (a0_0 : List T) : answer Tryd.prog impl_TableText.Cs 100000 impl_TableText.cuts [] Tryd.f8 (k + 1) [.v (.agg [(.sl 56 a0_0z a0_0)])] = (impl_TableText.f (k + 1) a0_0z a0_0).map impl_TableText.enc := by
  have ih := impl_TableText.rounds_eq a0_0z a0_0 k
  refine (impl_TableText.s k a0_0z a0_0).trans (Eq.trans ?_ (impl_TableText.b_nat impl_TableText.enc some (impl_TableText.l0 k) k a0_0z a0_0))
  simp only [ih, Option.map_some]
theorem impl_TableText.sound (k : Nat) : SoundF Tryd.prog 8 (fun a => (impl_TableText.ans k a).val) := by
  refine sound_plain (fun args res h => ?_) (fun t n => rfl)
  unfold impl_TableText.ans at h
  dsimp only at h
  split at h
  · cases k with
    | zero => cases h
    | succ k =>
      unfold Ans.val at h
      rw [← impl_TableText.eq] at h
      exact answer_sound mixed Tryd.func8 _ _ _ (k + 1) (fun j _ => tab_sound (tab_cons (impl_NumText.sound j) (tab_cons (impl_TableOk.sound j) (tab_cons (impl_HexText.sound j) (tab_cons (strings_Join.sound j) (tab_nil)))))) _ _ h
  · exact (Ans.no_val h).elim

/-! strings_CutPrefix -/
def strings_CutPrefix.f (k : Nat) (a0 : ByteArray) (a1 : ByteArray) : Option (ByteArray × Bool) := some (preT a0 a1, preB a0 a1)
def strings_CutPrefix.enc (r : ByteArray × Bool) : Res := ⟨[.vals false [((.str r.1), true)], .vals false [((.bool r.2), true)]], []⟩
def strings_CutPrefix.ans (k : Nat) : List Arg → Ans
  | [.v (.str a0), .v (.str a1)] => ⟨strings_CutPrefix.f k a0 a1, strings_CutPrefix.enc⟩
  | _ => Ans.no
theorem strings_CutPrefix.sound (k : Nat) : SoundF Tryd.prog 17 (fun a => (strings_CutPrefix.ans k a).val) := by
  refine sound_ext (fun _ _ => rfl) fun args res h => ?_
  unfold strings_CutPrefix.ans at h
  split at h
  · exact ext_pre lay_CutPrefix h
  · exact (Ans.no_val h).elim

/-! strings_Cut -/
def strings_Cut.f (k : Nat) (a0 : ByteArray) (a1 : ByteArray) : Option (ByteArray × ByteArray × Bool) := cond (cutOk a0) (some (cutL a0 a1, cutR a0 a1, cutB a0 a1)) none
def strings_Cut.enc (r : ByteArray × ByteArray × Bool) : Res := ⟨[.vals false [((.str r.1), true)], .vals false [((.str r.2.1), true)], .vals false [((.bool r.2.2), true)]], []⟩
def strings_Cut.ans (k : Nat) : List Arg → Ans
  | [.v (.str a0), .v (.str a1)] => ⟨strings_Cut.f k a0 a1, strings_Cut.enc⟩
  | _ => Ans.no
theorem strings_Cut.sound (k : Nat) : SoundF Tryd.prog 19 (fun a => (strings_Cut.ans k a).val) := by
  refine sound_ext (fun _ _ => rfl) fun args res h => ?_
  unfold strings_Cut.ans at h
  split at h
  · exact ext_cut2 lay_Cut h
  · exact (Ans.no_val h).elim

/-! strings_IndexByte -/
def strings_IndexByte.f (k : Nat) (a0 : ByteArray) (a1 : Int) : Option Int := some (idxB a0 a1)
def strings_IndexByte.enc (r : Int) : Res := ⟨[.vals false [((.int .i64 r), true)]], []⟩
def strings_IndexByte.ans (k : Nat) : List Arg → Ans
  | [.v (.str a0), .v (.int .u8 a1)] => ⟨strings_IndexByte.f k a0 a1, strings_IndexByte.enc⟩
  | _ => Ans.no
theorem strings_IndexByte.sound (k : Nat) : SoundF Tryd.prog 34 (fun a => (strings_IndexByte.ans k a).val) := by
  refine sound_ext (fun _ _ => rfl) fun args res h => ?_
  unfold strings_IndexByte.ans at h
  split at h
  · exact ext_idx lay_IndexByte h
  · exact (Ans.no_val h).elim

/-! loop.example/g00790/impl.TextHex -/
def impl_TextHex.b {R : Type} (ret : Bool × (List Int) × Bool → Option R) (j0 : ByteArray → (List Int) → Int → Option R) (k : Nat) (a0 : ByteArray) : Option R :=
  cond (decide ((Int.tmod ((a0).size : Int) 2) = 1)) (ret (true, ([] : List Int), false)) (j0 a0 ([] : List Int) 0)
def impl_TextHex.l0b {R : Type} (ret : Bool × (List Int) × Bool → Option R) (j0 : ByteArray → (List Int) → Int → Option R) (k : Nat) (x0 : ByteArray) (x4 : List Int) (x5 : Int) : Option R :=
  cond (decide (x5 < ((x0).size : Int))) (cond (decide ((0 : Int) ≤ x5)) (cond (decide (x5 < ((x0).size : Int))) ((strings_IndexByte.f k (⟨#[48, 49, 50, 51, 52, 53, 54, 55, 56, 57, 97, 98, 99, 100, 101, 102]⟩ : ByteArray) (btI x0 x5)).bind fun t0 => cond (decide ((0 : Int) ≤ (RowKit.wrap64 (x5 + 1)))) (cond (decide ((RowKit.wrap64 (x5 + 1)) < ((x0).size : Int))) ((strings_IndexByte.f k (⟨#[48, 49, 50, 51, 52, 53, 54, 55, 56, 57, 97, 98, 99, 100, 101, 102]⟩ : ByteArray) (btI x0 (RowKit.wrap64 (x5 + 1)))).bind fun t1 => cond (decide (t0 < 0)) (ret (true, ([] : List Int), false)) (cond (decide (t1 < 0)) (ret (true, ([] : List Int), false)) (cond (decide ((x4).length + 1 < 140737488355328)) (j0 x0 (x4 ++ ([(((RowKit.wrap64 ((RowKit.wrap64 ((16 : Int) * t0)) + t1))) % 256)] : List Int)) (RowKit.wrap64 (x5 + 2))) (none)))) (none)) (none)) (none)) (none)) (ret (false, x4, true))
def impl_TextHex.l0 : Nat → ByteArray → (List Int) → Int → Option (Bool × (List Int) × Bool)
  | 0, _, _, _ => none
  | k + 1, x0, x4, x5 => impl_TextHex.l0b some (impl_TextHex.l0 k) k x0 x4 x5
def impl_TextHex.f : Nat → ByteArray → Option (Bool × (List Int) × Bool)
  | 0, _ => none
  | k + 1, a0 => impl_TextHex.b some (impl_TextHex.l0 k) k a0
def impl_TextHex.enc (r : Bool × (List Int) × Bool) : Res := ⟨[.vals false [((.nums 5 .u8 r.1 r.2.1), true)], .vals false [((.bool r.2.2), true)]], []⟩
def impl_TextHex.ans (k : Nat) : List Arg → Ans
  | [.v (.str a0)] => ⟨impl_TextHex.f k a0, impl_TextHex.enc⟩
  | _ => Ans.no
def impl_TextHex.Cs (k : Nat) : CallSem := tab [(34, strings_IndexByte.ans k)]
def impl_TextHex.cuts : List (Nat × Keep) := [(122, ⟨[(0, some []), (4, none), (5, some [])], []⟩)]
noncomputable def impl_TextHex.K0 : List Fr := framesAt [true, true, true, false, true, false] (bodyOf Tryd.f20 impl_TextHex.cuts) []
def impl_TextHex.N0 (x0 : ByteArray) (x4 : List Int) (x5 : Int) : St := stOf 43 43 1 [(0, .val (V.s (.str x0))), (4, .val ⟨(.nums 5 .u8 false x4), [.l 4 0], true, some (.l 4 0)⟩), (5, .val (V.s (.int .i64 x5)))] []
theorem impl_TextHex.s (k : Nat) (a0 : ByteArray) : answer Tryd.prog impl_TextHex.Cs 100000 impl_TextHex.cuts [] Tryd.f20 (k + 1) [.v (.str a0)] = impl_TextHex.b (fun r => some (impl_TextHex.enc r)) (fun x0 x4 x5 => rounds Tryd.prog impl_TextHex.Cs (finish Tryd.prog [] Tryd.f20 [.v (.str a0)]) 100000 k impl_TextHex.K0 (impl_TextHex.N0 x0 x4 x5)) k a0 := by kernel_rfl
theorem impl_TextHex.s0 (k : Nat) (G : List Fr → St → Option Res) (a0 : ByteArray) (yx0 : ByteArray) (yx4 : List Int) (yx5 : Int) : resume Tryd.prog (impl_TextHex.Cs k) G (finish Tryd.prog [] Tryd.f20 [.v (.str a0)]) 100000 impl_TextHex.K0 (impl_TextHex.N0 yx0 yx4 yx5) = impl_TextHex.l0b (fun r => some (impl_TextHex.enc r)) (fun x0 x4 x5 => G impl_TextHex.K0 (impl_TextHex.N0 x0 x4 x5)) k yx0 yx4 yx5 := by kernel_rfl
theorem impl_TextHex.b_nat {R R' : Type} (e : R → R') (ret : Bool × (List Int) × Bool → Option R) (j0 : ByteArray → (List Int) → Int → Option R) (k : Nat) (a0 : ByteArray) : impl_TextHex.b (fun r => (ret r).map e) (fun x0 x4 x5 => (j0 x0 x4 x5).map e) k a0 = (impl_TextHex.b ret j0 k a0).map e := by
  unfold impl_TextHex.b
  repeat' first | with_reducible refine nat_cond ?_ ?_ | with_reducible refine nat_bind fun _ => ?_ | rfl
theorem impl_TextHex.l0b_nat {R R' : Type} (e : R → R') (ret : Bool × (List Int) × Bool → Option R) (j0 : ByteArray → (List Int) → Int → Option R) (k : Nat) (x0 : ByteArray) (x4 : List Int) (x5 : Int) : impl_TextHex.l0b (fun r => (ret r).map e) (fun x0 x4 x5 => (j0 x0 x4 x5).map e) k x0 x4 x5 = (impl_TextHex.l0b ret j0 k x0 x4 x5).map e := by
  unfold impl_TextHex.l0b
  repeat' first | with_reducible refine nat_cond ?_ ?_ | with_reducible refine nat_bind fun _ => ?_ | rfl
theorem impl_TextHex.rounds_eq (a0 : ByteArray) : ∀ k, (∀ (x0 : ByteArray) (x4 : List Int) (x5 : Int), rounds Tryd.prog impl_TextHex.Cs (finish Tryd.prog [] Tryd.f20 [.v (.str a0)]) 100000 k impl_TextHex.K0 (impl_TextHex.N0 x0 x4 x5) = (impl_TextHex.l0 k x0 x4 x5).map impl_TextHex.enc)
  | 0 => fun _ _ _ => rfl
  | k + 1 => by
    have ih := impl_TextHex.rounds_eq a0 k
    refine fun _ _ _ => ?_
    · refine (impl_TextHex.s0 k _ a0 _ _ _).trans (Eq.trans ?_ (impl_TextHex.l0b_nat impl_TextHex.enc some (impl_TextHex.l0 k) k _ _ _))
      simp only [ih, Option.map_some]
theorem impl_TextHex.eq (k : Nat) (a0 : ByteArray) : answer Tryd.prog impl_TextHex.Cs 100000 impl_TextHex.cuts [] Tryd.f20 (k + 1) [.v (.str a0)] = (impl_TextHex.f (k + 1) a0).map impl_TextHex.enc := by
  have ih := impl_TextHex.rounds_eq a0 k
  refine (impl_TextHex.s k a0).trans (Eq.trans ?_ (impl_TextHex.b_nat impl_TextHex.enc some (impl_TextHex.l0 k) k a0))
  simp only [ih, Option.map_some]
theorem impl_TextHex.sound (k : Nat) : SoundF Tryd.prog 20 (fun a => (impl_TextHex.ans k a).val) := by
  refine sound_plain (fun args res h => ?_) (fun t n => rfl)
  unfold impl_TextHex.ans at h
  dsimp only at h
  split at h
  · cases k with
    | zero => cases h
    | succ k =>
      unfold Ans.val at h
      rw [← impl_TextHex.eq] at h
      exact answer_sound mixed Tryd.func20 _ _ _ (k + 1) (fun j _ => tab_sound (tab_cons (strings_IndexByte.sound j) (tab_nil))) _ _ h
  · exact (Ans.no_val h).elim

/-! loop.example/g00790/impl.TextTable -/
def impl_TextTable.b {R : Type} (ret : Bool × (List T) × Bool → Option R) (j0 : ByteArray → Bool → (List T) → Int → Int → Bool → (List T) → Option R) (k : Nat) (a0 : ByteArray) : Option R :=
  (strings_CutPrefix.f k a0 (⟨#[116, 97, 98, 108, 101, 32]⟩ : ByteArray)).bind fun t0 => cond (!t0.2) (ret (true, ([] : List T), false)) ((strings_Split.f k t0.1 (⟨#[44]⟩ : ByteArray)).bind fun t1 => j0 a0 t1.1 t1.2 ((t1.2).length : Int) 0 true ([] : List T))
def impl_TextTable.l0b {R : Type} (ret : Bool × (List T) × Bool → Option R) (j0 : ByteArray → Bool → (List T) → Int → Int → Bool → (List T) → Option R) (k : Nat) (x0 : ByteArray) (x23z : Bool) (x23 : List T) (x24 : Int) (x25 : Int) (c6_0z : Bool) (c6_0 : List T) : Option R :=
  cond (decide (x25 < x24)) (cond (decide ((0 : Int) ≤ x25)) (cond (decide (x25 < ((x23).length : Int))) ((strings_Cut.f k (((((x23).getD (x25).toNat .bad).cells.getD 0 .bad)).toStr) (⟨#[58]⟩ : ByteArray)).bind fun t0 => (impl_TextNum.f k t0.1).bind fun t1 => (impl_TextHex.f k t0.2.1).bind fun t2 => cond (decide ((c6_0).length + 1 < 4398046511104)) (j0 x0 x23z x23 x24 (RowKit.wrap64 (x25 + 1)) false (c6_0 ++ ([(.agg [(.int .i64 t1.1), (.nums 5 .u8 t2.1 t2.2.1)])] : List T))) (none)) (none)) (none)) ((impl_TableText.f k c6_0z c6_0).bind fun t0 => cond (!decide (t0 = x0)) (ret (true, ([] : List T), false)) (ret (c6_0z, c6_0, true)))
def impl_TextTable.l0 : Nat → ByteArray → Bool → (List T) → Int → Int → Bool → (List T) → Option (Bool × (List T) × Bool)
  | 0, _, _, _, _, _, _, _ => none
  | k + 1, x0, x23z, x23, x24, x25, c6_0z, c6_0 => impl_TextTable.l0b some (impl_TextTable.l0 k) k x0 x23z x23 x24 x25 c6_0z c6_0
def impl_TextTable.f : Nat → ByteArray → Option (Bool × (List T) × Bool)
  | 0, _ => none
  | k + 1, a0 => impl_TextTable.b some (impl_TextTable.l0 k) k a0
def impl_TextTable.enc (r : Bool × (List T) × Bool) : Res := ⟨[.vals true [((.sl 56 r.1 r.2.1), true)], .vals false [((.bool r.2.2), true)]], []⟩
def impl_TextTable.ans (k : Nat) : List Arg → Ans
  | [.v (.str a0)] => ⟨impl_TextTable.f k a0, impl_TextTable.enc⟩
  | _ => Ans.no
def impl_TextTable.Cs (k : Nat) : CallSem := tab [(18, strings_Split.ans k), (15, impl_TextNum.ans k), (8, impl_TableText.ans k), (17, strings_CutPrefix.ans k), (19, strings_Cut.ans k), (20, impl_TextHex.ans k)]
def impl_TextTable.cuts : List (Nat × Keep) := [(250, ⟨[(0, some []), (2, some []), (6, some []), (23, some []), (24, some []), (25, some [])], [(2, [none]), (6, [none])]⟩)]
noncomputable def impl_TextTable.K0 : List Fr := framesAt [true, true, true, true, false, true, false] (bodyOf Tryd.f7 impl_TextTable.cuts) []
def impl_TextTable.N0 (x0 : ByteArray) (x23z : Bool) (x23 : List T) (x24 : Int) (x25 : Int) (c6_0z : Bool) (c6_0 : List T) : St := stOf 61 61 1 [(0, .val (V.s (.str x0))), (2, .bp 2 0), (6, .bp 6 0), (23, .val ⟨(.sl 9 x23z x23), [], false, none⟩), (24, .val (V.s (.int .i64 x24))), (25, .val (V.s (.int .i64 x25)))] [(2, .cells [⟨(.sl 56 true ([] : List T)), [.l 2 1], true, some (.l 2 1)⟩]), (6, .cells [⟨(.sl 56 c6_0z c6_0), [.l 6 1], true, some (.l 6 1)⟩])]
theorem impl_TextTable.s (k : Nat) (a0 : ByteArray) : answer Tryd.prog impl_TextTable.Cs 100000 impl_TextTable.cuts [] Tryd.f7 (k + 1) [.v (.str a0)] = impl_TextTable.b (fun r => some (impl_TextTable.enc r)) (fun x0 x23z x23 x24 x25 c6_0z c6_0 => rounds Tryd.prog impl_TextTable.Cs (finish Tryd.prog [] Tryd.f7 [.v (.str a0)]) 100000 k impl_TextTable.K0 (impl_TextTable.N0 x0 x23z x23 x24 x25 c6_0z c6_0)) k a0 := by kernel_rfl
theorem impl_TextTable.s0 (k : Nat) (G : List Fr → St → Option Res) (a0 : ByteArray) (yx0 : ByteArray) (yx23z : Bool) (yx23 : List T) (yx24 : Int) (yx25 : Int) (yc6_0z : Bool) (yc6_0 : List T) : resume Tryd.prog (impl_TextTable.Cs k) G (finish Tryd.prog [] Tryd.f7 [.v (.str a0)]) 100000 impl_TextTable.K0 (impl_TextTable.N0 yx0 yx23z yx23 yx24 yx25 yc6_0z yc6_0) = impl_TextTable.l0b (fun r => some (impl_TextTable.enc r)) (fun x0 x23z x23 x24 x25 c6_0z c6_0 => G impl_TextTable.K0 (impl_TextTable.N0 x0 x23z x23 x24 x25 c6_0z c6_0)) k yx0 yx23z yx23 yx24 yx25 yc6_0z yc6_0 := by kernel_rfl
theorem impl_TextTable.b_nat {R R' : Type} (e : R → R') (ret : Bool × (List T) × Bool → Option R) (j0 : ByteArray → Bool → (List T) → Int → Int → Bool → (List T) → Option R) (k : Nat) (a0 : ByteArray) : impl_TextTable.b (fun r => (ret r).map e) (fun x0 x23z x23 x24 x25 c6_0z c6_0 => (j0 x0 x23z x23 x24 x25 c6_0z c6_0).map e) k a0 = (impl_TextTable.b ret j0 k a0).map e := by
  unfold impl_TextTable.b
  repeat' first | with_reducible refine nat_cond ?_ ?_ | with_reducible refine nat_bind fun _ => ?_ | rfl
theorem impl_TextTable.l0b_nat {R R' : Type} (e : R → R') (ret : Bool × (List T) × Bool → Option R) (j0 : ByteArray → Bool → (List T) → Int → Int → Bool → (List T) → Option R) (k : Nat) (x0 : ByteArray) (x23z : Bool) (x23 : List T) (x24 : Int) (x25 : Int) (c6_0z : Bool) (c6_0 : List T) : impl_TextTable.l0b (fun r => (ret r).map e) (fun x0 x23z x23 x24 x25 c6_0z c6_0 => (j0 x0 x23z x23 x24 x25 c6_0z c6_0).map e) k x0 x23z x23 x24 x25 c6_0z c6_0 = (impl_TextTable.l0b ret j0 k x0 x23z x23 x24 x25 c6_0z c6_0).map e := by
  unfold impl_TextTable.l0b
  repeat' first | with_reducible refine nat_cond ?_ ?_ | with_reducible refine nat_bind fun _ => ?_ | rfl
theorem impl_TextTable.rounds_eq (a0 : ByteArray) : ∀ k, (∀ (x0 : ByteArray) (x23z : Bool) (x23 : List T) (x24 : Int) (x25 : Int) (c6_0z : Bool) (c6_0 : List T), rounds Tryd.prog impl_TextTable.Cs (finish Tryd.prog [] Tryd.f7 [.v (.str a0)]) 100000 k impl_TextTable.K0 (impl_TextTable.N0 x0 x23z x23 x24 x25 c6_0z c6_0) = (impl_TextTable.l0 k x0 x23z x23 x24 x25 c6_0z c6_0).map impl_TextTable.enc)
  | 0 => fun _ _ _ _ _ _ _ => rfl
  | k + 1 => by
    have ih := impl_TextTable.rounds_eq a0 k
    refine fun _ _ _ _ _ _ _ => ?_
    · refine (impl_TextTable.s0 k _ a0 _ _ _ _ _ _ _).trans (Eq.trans ?_ (impl_TextTable.l0b_nat impl_TextTable.enc some (impl_TextTable.l0 k) k _ _ _ _ _ _ _))
      simp only [ih, Option.map_some]
theorem impl_TextTable.eq (k : Nat) (a0 : ByteArray) : answer Tryd.prog impl_TextTable.Cs 100000 impl_TextTable.cuts [] Tryd.f7 (k + 1) [.v (.str a0)] = (impl_TextTable.f (k + 1) a0).map impl_TextTable.enc := by
  have ih := impl_TextTable.rounds_eq a0 k
  refine (impl_TextTable.s k a0).trans (Eq.trans ?_ (impl_TextTable.b_nat impl_TextTable.enc some (impl_TextTable.l0 k) k a0))
  simp only [ih, Option.map_some]
theorem impl_TextTable.sound (k : Nat) : SoundF Tryd.prog 7 (fun a => (impl_TextTable.ans k a).val) := by
  refine sound_plain (fun args res h => ?_) (fun t n => rfl)
  unfold impl_TextTable.ans at h
  dsimp only at h
  split at h
  · cases k with
    | zero => cases h
    | succ k =>
      unfold Ans.val at h
      rw [← impl_TextTable.eq] at h
      exact answer_sound mixed Tryd.func7 _ _ _ (k + 1) (fun j _ => tab_sound (tab_cons (strings_Split.sound j) (tab_cons (impl_TextNum.sound j) (tab_cons (impl_TableText.sound j) (tab_cons (strings_CutPrefix.sound j) (tab_cons (strings_Cut.sound j) (tab_cons (impl_TextHex.sound j) (tab_nil)))))))) _ _ h
  · exact (Ans.no_val h).elim

/-! loop.example/g00790/impl.SameBytes -/
def impl_SameBytes.b {R : Type} (ret : Bool → Option R) (k : Nat) (a0z : Bool) (a0 : List Int) (a1z : Bool) (a1 : List Int) : Option R :=
  ret (decide ((strOf a0) = (strOf a1)))
def impl_SameBytes.f : Nat → Bool → (List Int) → Bool → (List Int) → Option Bool
  | 0, _, _, _, _ => none
  | k + 1, a0z, a0, a1z, a1 => impl_SameBytes.b some k a0z a0 a1z a1
def impl_SameBytes.enc (r : Bool) : Res := ⟨[.vals false [((.bool r), true)]], []⟩
def impl_SameBytes.ans (k : Nat) : List Arg → Ans
  | [.v (.nums 5 .u8 a0z a0), .v (.nums 5 .u8 a1z a1)] => ⟨impl_SameBytes.f k a0z a0 a1z a1, impl_SameBytes.enc⟩
  | _ => Ans.no
def impl_SameBytes.Cs (k : Nat) : CallSem := tab []
def impl_SameBytes.cuts : List (Nat × Keep) := []
theorem impl_SameBytes.s (k : Nat) (a0z : Bool) (a0 : List Int) (a1z : Bool) (a1 : List Int) : answer Tryd.prog impl_SameBytes.Cs 100000 impl_SameBytes.cuts [] Tryd.f23 (k + 1) [.v (.nums 5 .u8 a0z a0), .v (.nums 5 .u8 a1z a1)] = impl_SameBytes.b (fun r => some (impl_SameBytes.enc r)) k a0z a0 a1z a1 := by kernel_rfl
theorem impl_SameBytes.b_nat {R R' : Type} (e : R → R') (ret : Bool → Option R) (k : Nat) (a0z : Bool) (a0 : List Int) (a1z : Bool) (a1 : List Int) : impl_SameBytes.b (fun r => (ret r).map e) k a0z a0 a1z a1 = (impl_SameBytes.b ret k a0z a0 a1z a1).map e := by
  unfold impl_SameBytes.b
  repeat' first | with_reducible refine nat_cond ?_ ?_ | with_reducible refine nat_bind fun _ => ?_ | rfl
theorem impl_SameBytes.eq (k : Nat) (a0z : Bool) (a0 : List Int) (a1z : Bool) (a1 : List Int) : answer Tryd.prog impl_SameBytes.Cs 100000 impl_SameBytes.cuts [] Tryd.f23 (k + 1) [.v (.nums 5 .u8 a0z a0), .v (.nums 5 .u8 a1z a1)] = (impl_SameBytes.f (k + 1) a0z a0 a1z a1).map impl_SameBytes.enc := by
  refine (impl_SameBytes.s k a0z a0 a1z a1).trans (Eq.trans ?_ (impl_SameBytes.b_nat impl_SameBytes.enc some k a0z a0 a1z a1))
  simp only [Option.map_some]
theorem impl_SameBytes.sound (k : Nat) : SoundF Tryd.prog 23 (fun a => (impl_SameBytes.ans k a).val) := by
  refine sound_plain (fun args res h => ?_) (fun t n => rfl)
  unfold impl_SameBytes.ans at h
  dsimp only at h
  split at h
  · cases k with
    | zero => cases h
    | succ k =>
      unfold Ans.val at h
      rw [← impl_SameBytes.eq] at h
      exact answer_sound mixed Tryd.func23 _ _ _ (k + 1) (fun j _ => tab_sound (tab_nil)) _ _ h
  · exact (Ans.no_val h).elim

/-! loop.example/g00790/impl.TableSame -/
def impl_TableSame.b {R : Type} (ret : Bool → Option R) (j0 : Int → Int → Bool → (List T) → Bool → (List T) → Option R) (k : Nat) (a0_0z : Bool) (a0_0 : List T) (a1_0z : Bool) (a1_0 : List T) : Option R :=
  cond (!(decide (((a0_0).length : Int) = ((a1_0).length : Int)))) (ret false) (j0 ((a0_0).length : Int) 0 a0_0z a0_0 a1_0z a1_0)
def impl_TableSame.l0b {R : Type} (ret : Bool → Option R) (j0 : Int → Int → Bool → (List T) → Bool → (List T) → Option R) (k : Nat) (x15 : Int) (x16 : Int) (c2_0z : Bool) (c2_0 : List T) (c3_0z : Bool) (c3_0 : List T) : Option R :=
  cond (decide (x16 < x15)) (cond (decide ((0 : Int) ≤ x16)) (cond (decide (x16 < ((c2_0).length : Int))) (cond (decide ((0 : Int) ≤ x16)) (cond (decide (x16 < ((c3_0).length : Int))) (cond (!(decide (((((c2_0).getD (x16).toNat .bad).cells.getD 0 .bad)).toInt = ((((c3_0).getD (x16).toNat .bad).cells.getD 0 .bad)).toInt))) (ret false) (cond (decide ((0 : Int) ≤ x16)) (cond (decide (x16 < ((c2_0).length : Int))) (cond (decide ((0 : Int) ≤ x16)) (cond (decide (x16 < ((c3_0).length : Int))) ((impl_SameBytes.f k (((((c2_0).getD (x16).toNat .bad).cells.getD 1 .bad)).isNil) (((((c2_0).getD (x16).toNat .bad).cells.getD 1 .bad)).toNums) (((((c3_0).getD (x16).toNat .bad).cells.getD 1 .bad)).isNil) (((((c3_0).getD (x16).toNat .bad).cells.getD 1 .bad)).toNums)).bind fun t0 => cond (!t0) (ret false) (j0 x15 (RowKit.wrap64 (x16 + 1)) c2_0z c2_0 c3_0z c3_0)) (none)) (none)) (none)) (none))) (none)) (none)) (none)) (none)) (ret true)
def impl_TableSame.l0 : Nat → Int → Int → Bool → (List T) → Bool → (List T) → Option Bool
  | 0, _, _, _, _, _, _ => none
  | k + 1, x15, x16, c2_0z, c2_0, c3_0z, c3_0 => impl_TableSame.l0b some (impl_TableSame.l0 k) k x15 x16 c2_0z c2_0 c3_0z c3_0
def impl_TableSame.f : Nat → Bool → (List T) → Bool → (List T) → Option Bool
  | 0, _, _, _, _ => none
  | k + 1, a0_0z, a0_0, a1_0z, a1_0 => impl_TableSame.b some (impl_TableSame.l0 k) k a0_0z a0_0 a1_0z a1_0
def impl_TableSame.enc (r : Bool) : Res := ⟨[.vals false [((.bool r), true)]], []⟩
def impl_TableSame.ans (k : Nat) : List Arg → Ans
  | [.v (.agg [(.sl 56 a0_0z a0_0)]), .v (.agg [(.sl 56 a1_0z a1_0)])] => ⟨impl_TableSame.f k a0_0z a0_0 a1_0z a1_0, impl_TableSame.enc⟩
  | _ => Ans.no
def impl_TableSame.Cs (k : Nat) : CallSem := tab [(23, impl_SameBytes.ans k)]
def impl_TableSame.cuts : List (Nat × Keep) := [(58, ⟨[(2, some []), (3, some []), (15, some []), (16, some [])], [(2, [some []]), (3, [some []])]⟩)]
noncomputable def impl_TableSame.K0 : List Fr := framesAt [true, true, false, true, false] (bodyOf Tryd.f9 impl_TableSame.cuts) []
def impl_TableSame.N0 (x15 : Int) (x16 : Int) (c2_0z : Bool) (c2_0 : List T) (c3_0z : Bool) (c3_0 : List T) : St := stOf 49 49 2 [(2, .bp 2 0), (3, .bp 3 0), (15, .val (V.s (.int .i64 x15))), (16, .val (V.s (.int .i64 x16)))] [(2, .cells [⟨(.sl 56 c2_0z c2_0), [], false, none⟩]), (3, .cells [⟨(.sl 56 c3_0z c3_0), [], false, none⟩])]
theorem impl_TableSame.s (k : Nat) (a0_0z : Bool) (a0_0 : List T) (a1_0z : Bool) (a1_0 : List T) : answer Tryd.prog impl_TableSame.Cs 100000 impl_TableSame.cuts [] Tryd.f9 (k + 1) [.v (.agg [(.sl 56 a0_0z a0_0)]), .v (.agg [(.sl 56 a1_0z a1_0)])] = impl_TableSame.b (fun r => some (impl_TableSame.enc r)) (fun x15 x16 c2_0z c2_0 c3_0z c3_0 => rounds Tryd.prog impl_TableSame.Cs (finish Tryd.prog [] Tryd.f9 [.v (.agg [(.sl 56 a0_0z a0_0)]), .v (.agg [(.sl 56 a1_0z a1_0)])]) 100000 k impl_TableSame.K0 (impl_TableSame.N0 x15 x16 c2_0z c2_0 c3_0z c3_0)) k a0_0z a0_0 a1_0z a1_0 := by kernel_rfl
theorem impl_TableSame.s0 (k : Nat) (G : List Fr → St → Option Res) (a0_0z : Bool) (a0_0 : List T) (a1_0z : Bool) (a1_0 : List T) (yx15 : Int) (yx16 : Int) (yc2_0z : Bool) (yc2_0 : List T) (yc3_0z : Bool) (yc3_0 : List T) : resume Tryd.prog (impl_TableSame.Cs k) G (finish Tryd.prog [] Tryd.f9 [.v (.agg [(.sl 56 a0_0z a0_0)]), .v (.agg [(.sl 56 a1_0z a1_0)])]) 100000 impl_TableSame.K0 (impl_TableSame.N0 yx15 yx16 yc2_0z yc2_0 yc3_0z yc3_0) = impl_TableSame.l0b (fun r => some (impl_TableSame.enc r)) (fun x15 x16 c2_0z c2_0 c3_0z c3_0 => G impl_TableSame.K0 (impl_TableSame.N0 x15 x16 c2_0z c2_0 c3_0z c3_0)) k yx15 yx16 yc2_0z yc2_0 yc3_0z yc3_0 := by kernel_rfl
theorem impl_TableSame.b_nat {R R' : Type} (e : R → R') (ret : Bool → Option R) (j0 : Int → Int → Bool → (List T) → Bool → (List T) → Option R) (k : Nat) (a0_0z : Bool) (a0_0 : List T) (a1_0z : Bool) (a1_0 : List T) : impl_TableSame.b (fun r => (ret r).map e) (fun x15 x16 c2_0z c2_0 c3_0z c3_0 => (j0 x15 x16 c2_0z c2_0 c3_0z c3_0).map e) k a0_0z a0_0 a1_0z a1_0 = (impl_TableSame.b ret j0 k a0_0z a0_0 a1_0z a1_0).map e := by
  unfold impl_TableSame.b
  repeat' first | with_reducible refine nat_cond ?_ ?_ | with_reducible refine nat_bind fun _ => ?_ | rfl
theorem impl_TableSame.l0b_nat {R R' : Type} (e : R → R') (ret : Bool → Option R) (j0 : Int → Int → Bool → (List T) → Bool → (List T) → Option R) (k : Nat) (x15 : Int) (x16 : Int) (c2_0z : Bool) (c2_0 : List T) (c3_0z : Bool) (c3_0 : List T) : impl_TableSame.l0b (fun r => (ret r).map e) (fun x15 x16 c2_0z c2_0 c3_0z c3_0 => (j0 x15 x16 c2_0z c2_0 c3_0z c3_0).map e) k x15 x16 c2_0z c2_0 c3_0z c3_0 = (impl_TableSame.l0b ret j0 k x15 x16 c2_0z c2_0 c3_0z c3_0).map e := by
  unfold impl_TableSame.l0b
  repeat' first | with_reducible refine nat_cond ?_ ?_ | with_reducible refine nat_bind fun _ => ?_ | rfl
theorem impl_TableSame.rounds_eq (a0_0z : Bool) (a0_0 : List T) (a1_0z : Bool) (a1_0 : List T) : ∀ k, (∀ (x15 : Int) (x16 : Int) (c2_0z : Bool) (c2_0 : List T) (c3_0z : Bool) (c3_0 : List T), rounds Tryd.prog impl_TableSame.Cs (finish Tryd.prog [] Tryd.f9 [.v (.agg [(.sl 56 a0_0z a0_0)]), .v (.agg [(.sl 56 a1_0z a1_0)])]) 100000 k impl_TableSame.K0 (impl_TableSame.N0 x15 x16 c2_0z c2_0 c3_0z c3_0) = (impl_TableSame.l0 k x15 x16 c2_0z c2_0 c3_0z c3_0).map impl_TableSame.enc)
  | 0 => fun _ _ _ _ _ _ => rfl
  | k + 1 => by
    have ih := impl_TableSame.rounds_eq a0_0z a0_0 a1_0z a1_0 k
    refine fun _ _ _ _ _ _ => ?_
    · refine (impl_TableSame.s0 k _ a0_0z a0_0 a1_0z a1_0 _ _ _ _ _ _).trans (Eq.trans ?_ (impl_TableSame.l0b_nat impl_TableSame.enc some (impl_TableSame.l0 k) k _ _ _ _ _ _))
      simp only [ih, Option.map_some]
theorem impl_TableSame.eq (k : Nat) (a0_0z : Bool) (a0_0 : List T) (a1_0z : Bool) (a1_0 : List T) : answer Tryd.prog impl_TableSame.Cs 100000 impl_TableSame.cuts [] Tryd.f9 (k + 1) [.v (.agg [(.sl 56 a0_0z a0_0)]), .v (.agg [(.sl 56 a1_0z a1_0)])] = (impl_TableSame.f (k + 1) a0_0z a0_0 a1_0z a1_0).map impl_TableSame.enc := by
  have ih := impl_TableSame.rounds_eq a0_0z a0_0 a1_0z a1_0 k
  refine (impl_TableSame.s k a0_0z a0_0 a1_0z a1_0).trans (Eq.trans ?_ (impl_TableSame.b_nat impl_TableSame.enc some (impl_TableSame.l0 k) k a0_0z a0_0 a1_0z a1_0))
  simp only [ih, Option.map_some]
theorem impl_TableSame.sound (k : Nat) : SoundF Tryd.prog 9 (fun a => (impl_TableSame.ans k a).val) := by
  refine sound_plain (fun args res h => ?_) (fun t n => rfl)
  unfold impl_TableSame.ans at h
  dsimp only at h
  split at h
  · cases k with
    | zero => cases h
    | succ k =>
      unfold Ans.val at h
      rw [← impl_TableSame.eq] at h
      exact answer_sound mixed Tryd.func9 _ _ _ (k + 1) (fun j _ => tab_sound (tab_cons (impl_SameBytes.sound j) (tab_nil))) _ _ h
  · exact (Ans.no_val h).elim

end Go.Proofs.YthocpcfjfgnkgaaDoorG
