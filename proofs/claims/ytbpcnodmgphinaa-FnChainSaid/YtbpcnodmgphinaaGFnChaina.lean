/- What the functions compute, printed by a program of this repo; each is shown to be what the machine of values answers. No condition. -/
import Derived.Test.YtbpcnodmgphinaaProg
import Derived.KernelRfl
import Derived.Test.YtbpcnodmgphinaaRvD
namespace Go.Proofs.YtbpcnodmgphinaaG
open Go Go.Proofs.YtbpcnodmgphinaaRv Go.Proofs
set_option linter.unusedVariables false
set_option linter.unusedSimpArgs false
theorem mixed : Try.prog.follows .mixedOrders = true := by kernel_rfl
def spec_l01New.b {R : Type} (ret : Bool × (List Int) × Int × Int → Option R) (j0 : Bool → (List Int) → Int → Int → Option R) (k : Nat) (a0z : Bool) (a0 : List Int) : Option R :=
  j0 a0z a0 (RowKit.wrap64 ((1611 : Int) + ((a0).length : Int))) 0
def spec_l01New.l0b {R : Type} (ret : Bool × (List Int) × Int × Int → Option R) (j0 : Bool → (List Int) → Int → Int → Option R) (k : Nat) (x0z : Bool) (x0 : List Int) (x3 x4 : Int) : Option R :=
  cond (decide (x4 < ((x0).length : Int))) (cond (decide (x4 < 4000)) (cond (decide ((0 : Int) ≤ x4)) (cond (decide (x4 < ((x0).length : Int))) (j0 x0z x0 (Go.bits .and .i64 (RowKit.wrap64 ((RowKit.wrap64 ((RowKit.wrap64 (x3 * 37)) + (RowKit.wrap64 ((rdI x0 x4))))) + 7)) 1073741823) (RowKit.wrap64 (x4 + 1))) (none)) (none)) (ret (x0z, x0, 0, x3))) (ret (x0z, x0, 0, x3))
def spec_l01New.l0 : Nat → Bool → (List Int) → Int → Int → Option (Bool × (List Int) × Int × Int)
  | 0, _, _, _, _ => none
  | k + 1, x0z, x0, x3, x4 => spec_l01New.l0b some (spec_l01New.l0 k) k x0z x0 x3 x4
def spec_l01New.f : Nat → Bool → (List Int) → Option (Bool × (List Int) × Int × Int)
  | 0, _, _ => none
  | k + 1, a0z, a0 => spec_l01New.b some (spec_l01New.l0 k) k a0z a0
def spec_l01New.enc (r : Bool × (List Int) × Int × Int) : Res := ⟨[.box [((.nums 5 .u8 r.1 r.2.1), false), ((.int .i64 r.2.2.1), true), ((.int .i64 r.2.2.2), true)]], []⟩
def spec_l01New.ans (k : Nat) : List Arg → Ans
  | [.v (.nums 5 .u8 a0z a0)] => ⟨spec_l01New.f k a0z a0, spec_l01New.enc⟩
  | _ => Ans.no
def spec_l01New.Cs (k : Nat) : CallSem := tab []
def spec_l01New.cuts : List (Nat × Keep) := [(58, ⟨[(0, some []), (3, some []), (4, some [])], []⟩)]
noncomputable def spec_l01New.K0 : List Fr := framesAt [true, true, false, true, false] (bodyOf Try.f74 spec_l01New.cuts) []
def spec_l01New.N0 (x0z : Bool) (x0 : List Int) (x3 x4 : Int) : St := stOf 32 32 1 [(0, .val ⟨(.nums 5 .u8 x0z x0), [], false, none⟩), (3, .val (V.s (.int .i64 x3))), (4, .val (V.s (.int .i64 x4)))] []
theorem spec_l01New.s0 (k : Nat) (G : List Fr → St → Option Res) (a0z : Bool) (a0 : List Int) (yx0z : Bool) (yx0 : List Int) (yx3 yx4 : Int) : resume Try.prog (spec_l01New.Cs k) G (finish Try.prog [false, true, true] Try.f74 [.v (.nums 5 .u8 a0z a0)]) 100000 spec_l01New.K0 (spec_l01New.N0 yx0z yx0 yx3 yx4) = spec_l01New.l0b (fun r => some (spec_l01New.enc r)) (fun x0z x0 x3 x4 => G spec_l01New.K0 (spec_l01New.N0 x0z x0 x3 x4)) k yx0z yx0 yx3 yx4 := by kernel_rfl
theorem spec_l01New.bn {R R' : Type} (e : R → R') (ret : Bool × (List Int) × Int × Int → Option R) (j0 : Bool → (List Int) → Int → Int → Option R) (k : Nat) (a0z : Bool) (a0 : List Int) : spec_l01New.b (fun r => (ret r).map e) (fun x0z x0 x3 x4 => (j0 x0z x0 x3 x4).map e) k a0z a0 = (spec_l01New.b ret j0 k a0z a0).map e := by
  unfold spec_l01New.b
  repeat' first | with_reducible refine nat_cond ?_ ?_ | with_reducible refine nat_bind fun _ => ?_ | rfl
theorem spec_l01New.l0n {R R' : Type} (e : R → R') (ret : Bool × (List Int) × Int × Int → Option R) (j0 : Bool → (List Int) → Int → Int → Option R) (k : Nat) (x0z : Bool) (x0 : List Int) (x3 x4 : Int) : spec_l01New.l0b (fun r => (ret r).map e) (fun x0z x0 x3 x4 => (j0 x0z x0 x3 x4).map e) k x0z x0 x3 x4 = (spec_l01New.l0b ret j0 k x0z x0 x3 x4).map e := by
  unfold spec_l01New.l0b
  repeat' first | with_reducible refine nat_cond ?_ ?_ | with_reducible refine nat_bind fun _ => ?_ | rfl
theorem spec_l01New.rq (a0z : Bool) (a0 : List Int) : ∀ k, (∀ (x0z : Bool) (x0 : List Int) (x3 x4 : Int), rounds Try.prog spec_l01New.Cs (finish Try.prog [false, true, true] Try.f74 [.v (.nums 5 .u8 a0z a0)]) 100000 k spec_l01New.K0 (spec_l01New.N0 x0z x0 x3 x4) = (spec_l01New.l0 k x0z x0 x3 x4).map spec_l01New.enc)
  | 0 => fun _ _ _ _ => rfl
  | k + 1 => by
    have ih := spec_l01New.rq a0z a0 k
    refine fun _ _ _ _ => ?_
    · refine (spec_l01New.s0 k _ a0z a0 _ _ _ _).trans (Eq.trans ?_ (spec_l01New.l0n spec_l01New.enc some (spec_l01New.l0 k) k _ _ _ _))
      simp only [ih, Option.map_some]
theorem spec_l01New.eq (k : Nat) (a0z : Bool) (a0 : List Int) : answer Try.prog spec_l01New.Cs 100000 spec_l01New.cuts [false, true, true] Try.f74 (k + 1) [.v (.nums 5 .u8 a0z a0)] = (spec_l01New.f (k + 1) a0z a0).map spec_l01New.enc := by
  have ih := spec_l01New.rq a0z a0 k
  refine Eq.trans (b := spec_l01New.b (fun r => some (spec_l01New.enc r)) (fun x0z x0 x3 x4 => rounds Try.prog spec_l01New.Cs (finish Try.prog [false, true, true] Try.f74 [.v (.nums 5 .u8 a0z a0)]) 100000 k spec_l01New.K0 (spec_l01New.N0 x0z x0 x3 x4)) k a0z a0) (by kernel_rfl) (Eq.trans ?_ (spec_l01New.bn spec_l01New.enc some (spec_l01New.l0 k) k a0z a0))
  simp only [ih, Option.map_some]
theorem spec_l01New.sound (k : Nat) : SoundF Try.prog 74 (fun a => (spec_l01New.ans k a).val) := by
  refine sound_plain (fun args res h => ?_) (fun t n => rfl)
  unfold spec_l01New.ans at h
  dsimp only at h
  split at h
  · cases k with
    | zero => cases h
    | succ k =>
      unfold Ans.val at h
      rw [← spec_l01New.eq] at h
      exact answer_sound mixed Try.func74 _ _ _ (k + 1) (fun j _ => tab_sound (tab_nil)) _ _ h
  · exact (Ans.no_val h).elim

def spec_l01Byte.b {R : Type} (ret : Int × Bool × (List Int) × Int × Int → Option R) (k : Nat) (a0_0z : Bool) (a0_0 : List Int) (a0_1 a0_2 : Int) : Option R :=
  cond (decide (a0_1 < ((a0_0).length : Int))) (cond (decide ((0 : Int) ≤ a0_1)) (cond (decide (a0_1 < ((a0_0).length : Int))) (ret ((Go.bits .and .i64 (RowKit.wrap64 ((Go.bits .and .i64 (Go.bits .xor .i64 (shrI .i64 (RowKit.wrap64 ((RowKit.wrap64 (a0_2 * 6364136223846793005)) + 1442695040888963407)) 33) (shrI .i64 (RowKit.wrap64 ((RowKit.wrap64 (a0_2 * 6364136223846793005)) + 1442695040888963407)) 45)) 255) + (RowKit.wrap64 ((rdI a0_0 a0_1))))) 255), a0_0z, a0_0, (RowKit.wrap64 (a0_1 + 1)), (RowKit.wrap64 ((RowKit.wrap64 (a0_2 * 6364136223846793005)) + 1442695040888963407)))) (none)) (none)) (ret ((Go.bits .and .i64 (Go.bits .xor .i64 (shrI .i64 (RowKit.wrap64 ((RowKit.wrap64 (a0_2 * 6364136223846793005)) + 1442695040888963407)) 33) (shrI .i64 (RowKit.wrap64 ((RowKit.wrap64 (a0_2 * 6364136223846793005)) + 1442695040888963407)) 45)) 255), a0_0z, a0_0, a0_1, (RowKit.wrap64 ((RowKit.wrap64 (a0_2 * 6364136223846793005)) + 1442695040888963407))))
def spec_l01Byte.f : Nat → Bool → (List Int) → Int → Int → Option (Int × Bool × (List Int) × Int × Int)
  | 0, _, _, _, _ => none
  | k + 1, a0_0z, a0_0, a0_1, a0_2 => spec_l01Byte.b some k a0_0z a0_0 a0_1 a0_2
def spec_l01Byte.enc (r : Int × Bool × (List Int) × Int × Int) : Res := ⟨[.vals false [((.int .i64 r.1), true)]], [[((.nums 5 .u8 r.2.1 r.2.2.1), false), ((.int .i64 r.2.2.2.1), true), ((.int .i64 r.2.2.2.2), true)]]⟩
def spec_l01Byte.ans (k : Nat) : List Arg → Ans
  | [.box [((.nums 5 .u8 a0_0z a0_0), false), ((.int .i64 a0_1), false), ((.int .i64 a0_2), false)]] => ⟨spec_l01Byte.f k a0_0z a0_0 a0_1 a0_2, spec_l01Byte.enc⟩
  | _ => Ans.no
def spec_l01Byte.Cs (k : Nat) : CallSem := tab []
theorem spec_l01Byte.eq (k : Nat) (a0_0z : Bool) (a0_0 : List Int) (a0_1 a0_2 : Int) : answer Try.prog spec_l01Byte.Cs 100000 [] [true, false, true, true] Try.f147 (k + 1) [.box [((.nums 5 .u8 a0_0z a0_0), false), ((.int .i64 a0_1), false), ((.int .i64 a0_2), false)]] = (spec_l01Byte.f (k + 1) a0_0z a0_0 a0_1 a0_2).map spec_l01Byte.enc := by
  refine Eq.trans (b := spec_l01Byte.b (fun r => some (spec_l01Byte.enc r)) k a0_0z a0_0 a0_1 a0_2) (by kernel_rfl) ?_
  show _ = (spec_l01Byte.b some k a0_0z a0_0 a0_1 a0_2).map spec_l01Byte.enc
  unfold spec_l01Byte.b
  repeat' first | with_reducible refine nat_cond ?_ ?_ | with_reducible refine nat_bind fun _ => ?_ | rfl
theorem spec_l01Byte.sound (k : Nat) : SoundF Try.prog 147 (fun a => (spec_l01Byte.ans k a).val) := by
  refine sound_plain (fun args res h => ?_) (fun t n => rfl)
  unfold spec_l01Byte.ans at h
  dsimp only at h
  split at h
  · cases k with
    | zero => cases h
    | succ k =>
      unfold Ans.val at h
      rw [← spec_l01Byte.eq] at h
      exact answer_sound mixed Try.func147 _ _ _ (k + 1) (fun j _ => tab_sound (tab_nil)) _ _ h
  · exact (Ans.no_val h).elim

def spec_l01Below.b {R : Type} (ret : Int × Bool × (List Int) × Int × Int → Option R) (k : Nat) (a0_0z : Bool) (a0_0 : List Int) (a0_1 a0_2 a1 : Int) : Option R :=
  cond (decide (a1 ≤ 0)) (ret (0, a0_0z, a0_0, a0_1, a0_2)) (cond (decide (a1 ≤ 256)) ((spec_l01Byte.f k a0_0z a0_0 a0_1 a0_2).bind fun t0 => cond (!(decide (a1 = 0))) (ret ((Int.tmod t0.1 a1), t0.2.1, t0.2.2.1, t0.2.2.2.1, t0.2.2.2.2)) (none)) ((spec_l01Byte.f k a0_0z a0_0 a0_1 a0_2).bind fun t0 => (spec_l01Byte.f k t0.2.1 t0.2.2.1 t0.2.2.2.1 t0.2.2.2.2).bind fun t1 => (spec_l01Byte.f k t1.2.1 t1.2.2.1 t1.2.2.2.1 t1.2.2.2.2).bind fun t2 => (spec_l01Byte.f k t2.2.1 t2.2.2.1 t2.2.2.2.1 t2.2.2.2.2).bind fun t3 => cond (!(decide (a1 = 0))) (ret ((Int.tmod (RowKit.wrap64 ((RowKit.wrap64 ((RowKit.wrap64 ((RowKit.wrap64 (t0.1 * 16777216)) + (RowKit.wrap64 (t1.1 * 65536)))) + (RowKit.wrap64 (t2.1 * 256)))) + t3.1)) a1), t3.2.1, t3.2.2.1, t3.2.2.2.1, t3.2.2.2.2)) (none)))
def spec_l01Below.f : Nat → Bool → (List Int) → Int → Int → Int → Option (Int × Bool × (List Int) × Int × Int)
  | 0, _, _, _, _, _ => none
  | k + 1, a0_0z, a0_0, a0_1, a0_2, a1 => spec_l01Below.b some k a0_0z a0_0 a0_1 a0_2 a1
def spec_l01Below.enc (r : Int × Bool × (List Int) × Int × Int) : Res := ⟨[.vals false [((.int .i64 r.1), true)]], [[((.nums 5 .u8 r.2.1 r.2.2.1), false), ((.int .i64 r.2.2.2.1), true), ((.int .i64 r.2.2.2.2), true)]]⟩
def spec_l01Below.ans (k : Nat) : List Arg → Ans
  | [.box [((.nums 5 .u8 a0_0z a0_0), false), ((.int .i64 a0_1), false), ((.int .i64 a0_2), false)], .v (.int .i64 a1)] => ⟨spec_l01Below.f k a0_0z a0_0 a0_1 a0_2 a1, spec_l01Below.enc⟩
  | _ => Ans.no
def spec_l01Below.Cs (k : Nat) : CallSem := tab [(147, spec_l01Byte.ans k)]
theorem spec_l01Below.eq (k : Nat) (a0_0z : Bool) (a0_0 : List Int) (a0_1 a0_2 a1 : Int) : answer Try.prog spec_l01Below.Cs 100000 [] [true, false, true, true] Try.f76 (k + 1) [.box [((.nums 5 .u8 a0_0z a0_0), false), ((.int .i64 a0_1), false), ((.int .i64 a0_2), false)], .v (.int .i64 a1)] = (spec_l01Below.f (k + 1) a0_0z a0_0 a0_1 a0_2 a1).map spec_l01Below.enc := by
  refine Eq.trans (b := spec_l01Below.b (fun r => some (spec_l01Below.enc r)) k a0_0z a0_0 a0_1 a0_2 a1) (by kernel_rfl) ?_
  show _ = (spec_l01Below.b some k a0_0z a0_0 a0_1 a0_2 a1).map spec_l01Below.enc
  unfold spec_l01Below.b
  repeat' first | with_reducible refine nat_cond ?_ ?_ | with_reducible refine nat_bind fun _ => ?_ | rfl
theorem spec_l01Below.sound (k : Nat) : SoundF Try.prog 76 (fun a => (spec_l01Below.ans k a).val) := by
  refine sound_plain (fun args res h => ?_) (fun t n => rfl)
  unfold spec_l01Below.ans at h
  dsimp only at h
  split at h
  · cases k with
    | zero => cases h
    | succ k =>
      unfold Ans.val at h
      rw [← spec_l01Below.eq] at h
      exact answer_sound mixed Try.func76 _ _ _ (k + 1) (fun j _ => tab_sound (tab_cons (spec_l01Byte.sound j) (tab_nil))) _ _ h
  · exact (Ans.no_val h).elim

def spec_l01Pick.b {R : Type} (ret : Int × Bool × (List Int) × Int × Int → Option R) (k : Nat) (a0_0z : Bool) (a0_0 : List Int) (a0_1 a0_2 : Int) (a1z : Bool) (a1 : List Int) : Option R :=
  (spec_l01Below.f k a0_0z a0_0 a0_1 a0_2 ((a1).length : Int)).bind fun t0 => cond (decide ((0 : Int) ≤ t0.1)) (cond (decide (t0.1 < ((a1).length : Int))) (ret ((rdI a1 t0.1), t0.2.1, t0.2.2.1, t0.2.2.2.1, t0.2.2.2.2)) (none)) (none)
def spec_l01Pick.f : Nat → Bool → (List Int) → Int → Int → Bool → (List Int) → Option (Int × Bool × (List Int) × Int × Int)
  | 0, _, _, _, _, _, _ => none
  | k + 1, a0_0z, a0_0, a0_1, a0_2, a1z, a1 => spec_l01Pick.b some k a0_0z a0_0 a0_1 a0_2 a1z a1
def spec_l01Pick.enc (r : Int × Bool × (List Int) × Int × Int) : Res := ⟨[.vals false [((.int .i64 r.1), true)]], [[((.nums 5 .u8 r.2.1 r.2.2.1), false), ((.int .i64 r.2.2.2.1), true), ((.int .i64 r.2.2.2.2), true)]]⟩
def spec_l01Pick.ans (k : Nat) : List Arg → Ans
  | [.box [((.nums 5 .u8 a0_0z a0_0), false), ((.int .i64 a0_1), false), ((.int .i64 a0_2), false)], .v (.nums 3 .i64 a1z a1)] => ⟨spec_l01Pick.f k a0_0z a0_0 a0_1 a0_2 a1z a1, spec_l01Pick.enc⟩
  | _ => Ans.no
def spec_l01Pick.Cs (k : Nat) : CallSem := tab [(76, spec_l01Below.ans k)]
theorem spec_l01Pick.eq (k : Nat) (a0_0z : Bool) (a0_0 : List Int) (a0_1 a0_2 : Int) (a1z : Bool) (a1 : List Int) : answer Try.prog spec_l01Pick.Cs 100000 [] [true, false, true, true] Try.f189 (k + 1) [.box [((.nums 5 .u8 a0_0z a0_0), false), ((.int .i64 a0_1), false), ((.int .i64 a0_2), false)], .v (.nums 3 .i64 a1z a1)] = (spec_l01Pick.f (k + 1) a0_0z a0_0 a0_1 a0_2 a1z a1).map spec_l01Pick.enc := by
  refine Eq.trans (b := spec_l01Pick.b (fun r => some (spec_l01Pick.enc r)) k a0_0z a0_0 a0_1 a0_2 a1z a1) (by kernel_rfl) ?_
  show _ = (spec_l01Pick.b some k a0_0z a0_0 a0_1 a0_2 a1z a1).map spec_l01Pick.enc
  unfold spec_l01Pick.b
  repeat' first | with_reducible refine nat_cond ?_ ?_ | with_reducible refine nat_bind fun _ => ?_ | rfl
theorem spec_l01Pick.sound (k : Nat) : SoundF Try.prog 189 (fun a => (spec_l01Pick.ans k a).val) := by
  refine sound_plain (fun args res h => ?_) (fun t n => rfl)
  unfold spec_l01Pick.ans at h
  dsimp only at h
  split at h
  · cases k with
    | zero => cases h
    | succ k =>
      unfold Ans.val at h
      rw [← spec_l01Pick.eq] at h
      exact answer_sound mixed Try.func189 _ _ _ (k + 1) (fun j _ => tab_sound (tab_cons (spec_l01Below.sound j) (tab_nil))) _ _ h
  · exact (Ans.no_val h).elim

def spec_l10Draw.b {R : Type} (ret : Int × Int × Int × Int × Int × Bool × (List Int) × Int × Int → Option R) (k : Nat) (a0_0z : Bool) (a0_0 : List Int) (a0_1 a0_2 : Int) : Option R :=
  (spec_l01Pick.f k a0_0z a0_0 a0_1 a0_2 false ([1, 3, 4, 4, 7, 9, 10] : List Int)).bind fun t0 => (spec_l01Pick.f k t0.2.1 t0.2.2.1 t0.2.2.2.1 t0.2.2.2.2 false ([0, 4, 8, 40] : List Int)).bind fun t1 => (spec_l01Pick.f k t1.2.1 t1.2.2.1 t1.2.2.2.1 t1.2.2.2.2 false ([0, 3, 8] : List Int)).bind fun t2 => (spec_l01Pick.f k t2.2.1 t2.2.2.1 t2.2.2.2.1 t2.2.2.2.2 false ([4000, 4000, 300, 60] : List Int)).bind fun t3 => (spec_l01Below.f k t3.2.1 t3.2.2.1 t3.2.2.2.1 t3.2.2.2.2 3).bind fun t4 => ret (t0.1, t1.1, t2.1, t3.1, (RowKit.wrap64 ((3 : Int) + t4.1)), t4.2.1, t4.2.2.1, t4.2.2.2.1, t4.2.2.2.2)
def spec_l10Draw.f : Nat → Bool → (List Int) → Int → Int → Option (Int × Int × Int × Int × Int × Bool × (List Int) × Int × Int)
  | 0, _, _, _, _ => none
  | k + 1, a0_0z, a0_0, a0_1, a0_2 => spec_l10Draw.b some k a0_0z a0_0 a0_1 a0_2
def spec_l10Draw.enc (r : Int × Int × Int × Int × Int × Bool × (List Int) × Int × Int) : Res := ⟨[.vals true [((.int .i64 r.1), true), ((.int .i64 r.2.1), true), ((.int .i64 r.2.2.1), true), ((.int .i64 r.2.2.2.1), true), ((.int .i64 r.2.2.2.2.1), true)]], [[((.nums 5 .u8 r.2.2.2.2.2.1 r.2.2.2.2.2.2.1), false), ((.int .i64 r.2.2.2.2.2.2.2.1), true), ((.int .i64 r.2.2.2.2.2.2.2.2), true)]]⟩
def spec_l10Draw.ans (k : Nat) : List Arg → Ans
  | [.box [((.nums 5 .u8 a0_0z a0_0), false), ((.int .i64 a0_1), false), ((.int .i64 a0_2), false)]] => ⟨spec_l10Draw.f k a0_0z a0_0 a0_1 a0_2, spec_l10Draw.enc⟩
  | _ => Ans.no
def spec_l10Draw.Cs (k : Nat) : CallSem := tab [(189, spec_l01Pick.ans k), (76, spec_l01Below.ans k)]
theorem spec_l10Draw.eq (k : Nat) (a0_0z : Bool) (a0_0 : List Int) (a0_1 a0_2 : Int) : answer Try.prog spec_l10Draw.Cs 100000 [] [true, true, true, true, true, false, true, true] Try.f145 (k + 1) [.box [((.nums 5 .u8 a0_0z a0_0), false), ((.int .i64 a0_1), false), ((.int .i64 a0_2), false)]] = (spec_l10Draw.f (k + 1) a0_0z a0_0 a0_1 a0_2).map spec_l10Draw.enc := by
  refine Eq.trans (b := spec_l10Draw.b (fun r => some (spec_l10Draw.enc r)) k a0_0z a0_0 a0_1 a0_2) (by kernel_rfl) ?_
  show _ = (spec_l10Draw.b some k a0_0z a0_0 a0_1 a0_2).map spec_l10Draw.enc
  unfold spec_l10Draw.b
  repeat' first | with_reducible refine nat_cond ?_ ?_ | with_reducible refine nat_bind fun _ => ?_ | rfl
theorem spec_l10Draw.sound (k : Nat) : SoundF Try.prog 145 (fun a => (spec_l10Draw.ans k a).val) := by
  refine sound_plain (fun args res h => ?_) (fun t n => rfl)
  unfold spec_l10Draw.ans at h
  dsimp only at h
  split at h
  · cases k with
    | zero => cases h
    | succ k =>
      unfold Ans.val at h
      rw [← spec_l10Draw.eq] at h
      exact answer_sound mixed Try.func145 _ _ _ (k + 1) (fun j _ => tab_sound (tab_cons (spec_l01Pick.sound j) (tab_cons (spec_l01Below.sound j) (tab_nil)))) _ _ h
  · exact (Ans.no_val h).elim

def spec_l21Draw.b {R : Type} (ret : Bool × (List T) × Bool × (List Int) × Int × Int → Option R) (j0 : Int → Int → Bool → (List Int) → Int → Int → Bool → (List T) → Option R) (k : Nat) (a0_0z : Bool) (a0_0 : List Int) (a0_1 a0_2 a1 : Int) : Option R :=
  j0 a1 0 a0_0z a0_0 a0_1 a0_2 true ([] : List T)
def spec_l21Draw.l0b {R : Type} (ret : Bool × (List T) × Bool × (List Int) × Int × Int → Option R) (j0 : Int → Int → Bool → (List Int) → Int → Int → Bool → (List T) → Option R) (k : Nat) (x1 x6 : Int) (c0_0z : Bool) (c0_0 : List Int) (c0_1 c0_2 : Int) (c5_0z : Bool) (c5_0 : List T) : Option R :=
  cond (decide (x6 < x1)) ((spec_l01Below.f k c0_0z c0_0 c0_1 c0_2 9).bind fun t0 => (spec_l01Pick.f k t0.2.1 t0.2.2.1 t0.2.2.2.1 t0.2.2.2.2 false ([1, 1, 1, 2, 5, 1099511627776, (RowKit.wrap64 ((1 : Int) + t0.1))] : List Int)).bind fun t1 => (spec_l01Below.f k t1.2.1 t1.2.2.1 t1.2.2.2.1 t1.2.2.2.2 9).bind fun t2 => cond (decide ((c5_0).length + 1 < 4398046511104)) (j0 x1 (RowKit.wrap64 (x6 + 1)) t2.2.1 t2.2.2.1 t2.2.2.2.1 t2.2.2.2.2 false (c5_0 ++ ([(.agg [(.int .i64 t1.1), (.nums 5 .u8 false ([((x6) % 256), ((t2.1) % 256), 1] : List Int))])] : List T))) (none)) (ret (c5_0z, c5_0, c0_0z, c0_0, c0_1, c0_2))
def spec_l21Draw.l0 : Nat → Int → Int → Bool → (List Int) → Int → Int → Bool → (List T) → Option (Bool × (List T) × Bool × (List Int) × Int × Int)
  | 0, _, _, _, _, _, _, _, _ => none
  | k + 1, x1, x6, c0_0z, c0_0, c0_1, c0_2, c5_0z, c5_0 => spec_l21Draw.l0b some (spec_l21Draw.l0 k) k x1 x6 c0_0z c0_0 c0_1 c0_2 c5_0z c5_0
def spec_l21Draw.f : Nat → Bool → (List Int) → Int → Int → Int → Option (Bool × (List T) × Bool × (List Int) × Int × Int)
  | 0, _, _, _, _, _ => none
  | k + 1, a0_0z, a0_0, a0_1, a0_2, a1 => spec_l21Draw.b some (spec_l21Draw.l0 k) k a0_0z a0_0 a0_1 a0_2 a1
def spec_l21Draw.enc (r : Bool × (List T) × Bool × (List Int) × Int × Int) : Res := ⟨[.vals true [((.sl 44 r.1 r.2.1), true)]], [[((.nums 5 .u8 r.2.2.1 r.2.2.2.1), false), ((.int .i64 r.2.2.2.2.1), true), ((.int .i64 r.2.2.2.2.2), true)]]⟩
def spec_l21Draw.ans (k : Nat) : List Arg → Ans
  | [.box [((.nums 5 .u8 a0_0z a0_0), false), ((.int .i64 a0_1), false), ((.int .i64 a0_2), false)], .v (.int .i64 a1)] => ⟨spec_l21Draw.f k a0_0z a0_0 a0_1 a0_2 a1, spec_l21Draw.enc⟩
  | _ => Ans.no
def spec_l21Draw.Cs (k : Nat) : CallSem := tab [(189, spec_l01Pick.ans k), (76, spec_l01Below.ans k)]
def spec_l21Draw.cuts : List (Nat × Keep) := [(58, ⟨[(0, some []), (1, some []), (4, some []), (5, some []), (6, some [])], [(0, [some [], some [], some []]), (4, [none]), (5, [none])]⟩)]
noncomputable def spec_l21Draw.K0 : List Fr := framesAt [true, true, false, true, false] (bodyOf Try.f146 spec_l21Draw.cuts) []
def spec_l21Draw.N0 (x1 x6 : Int) (c0_0z : Bool) (c0_0 : List Int) (c0_1 c0_2 : Int) (c5_0z : Bool) (c5_0 : List T) : St := stOf 32 32 2 [(0, .bp 0 0), (1, .val (V.s (.int .i64 x1))), (4, .bp 4 0), (5, .bp 5 0), (6, .val (V.s (.int .i64 x6)))] [(0, .cells [⟨(.nums 5 .u8 c0_0z c0_0), [], false, none⟩, V.s (.int .i64 c0_1), V.s (.int .i64 c0_2)]), (4, .cells [⟨(.sl 44 true ([] : List T)), [.l 4 1], true, some (.l 4 1)⟩]), (5, .cells [⟨(.sl 44 c5_0z c5_0), [.l 5 1], true, some (.l 5 1)⟩])]
theorem spec_l21Draw.s0 (k : Nat) (G : List Fr → St → Option Res) (a0_0z : Bool) (a0_0 : List Int) (a0_1 a0_2 : Int) (a1 yx1 yx6 : Int) (yc0_0z : Bool) (yc0_0 : List Int) (yc0_1 yc0_2 : Int) (yc5_0z : Bool) (yc5_0 : List T) : resume Try.prog (spec_l21Draw.Cs k) G (finish Try.prog [true, false, true, true] Try.f146 [.box [((.nums 5 .u8 a0_0z a0_0), false), ((.int .i64 a0_1), false), ((.int .i64 a0_2), false)], .v (.int .i64 a1)]) 100000 spec_l21Draw.K0 (spec_l21Draw.N0 yx1 yx6 yc0_0z yc0_0 yc0_1 yc0_2 yc5_0z yc5_0) = spec_l21Draw.l0b (fun r => some (spec_l21Draw.enc r)) (fun x1 x6 c0_0z c0_0 c0_1 c0_2 c5_0z c5_0 => G spec_l21Draw.K0 (spec_l21Draw.N0 x1 x6 c0_0z c0_0 c0_1 c0_2 c5_0z c5_0)) k yx1 yx6 yc0_0z yc0_0 yc0_1 yc0_2 yc5_0z yc5_0 := by kernel_rfl
theorem spec_l21Draw.bn {R R' : Type} (e : R → R') (ret : Bool × (List T) × Bool × (List Int) × Int × Int → Option R) (j0 : Int → Int → Bool → (List Int) → Int → Int → Bool → (List T) → Option R) (k : Nat) (a0_0z : Bool) (a0_0 : List Int) (a0_1 a0_2 a1 : Int) : spec_l21Draw.b (fun r => (ret r).map e) (fun x1 x6 c0_0z c0_0 c0_1 c0_2 c5_0z c5_0 => (j0 x1 x6 c0_0z c0_0 c0_1 c0_2 c5_0z c5_0).map e) k a0_0z a0_0 a0_1 a0_2 a1 = (spec_l21Draw.b ret j0 k a0_0z a0_0 a0_1 a0_2 a1).map e := by
  unfold spec_l21Draw.b
  repeat' first | with_reducible refine nat_cond ?_ ?_ | with_reducible refine nat_bind fun _ => ?_ | rfl
theorem spec_l21Draw.l0n {R R' : Type} (e : R → R') (ret : Bool × (List T) × Bool × (List Int) × Int × Int → Option R) (j0 : Int → Int → Bool → (List Int) → Int → Int → Bool → (List T) → Option R) (k : Nat) (x1 x6 : Int) (c0_0z : Bool) (c0_0 : List Int) (c0_1 c0_2 : Int) (c5_0z : Bool) (c5_0 : List T) : spec_l21Draw.l0b (fun r => (ret r).map e) (fun x1 x6 c0_0z c0_0 c0_1 c0_2 c5_0z c5_0 => (j0 x1 x6 c0_0z c0_0 c0_1 c0_2 c5_0z c5_0).map e) k x1 x6 c0_0z c0_0 c0_1 c0_2 c5_0z c5_0 = (spec_l21Draw.l0b ret j0 k x1 x6 c0_0z c0_0 c0_1 c0_2 c5_0z c5_0).map e := by
  unfold spec_l21Draw.l0b
  repeat' first | with_reducible refine nat_cond ?_ ?_ | with_reducible refine nat_bind fun _ => ?_ | rfl
theorem spec_l21Draw.rq (a0_0z : Bool) (a0_0 : List Int) (a0_1 a0_2 a1 : Int) : ∀ k, (∀ (x1 x6 : Int) (c0_0z : Bool) (c0_0 : List Int) (c0_1 c0_2 : Int) (c5_0z : Bool) (c5_0 : List T), rounds Try.prog spec_l21Draw.Cs (finish Try.prog [true, false, true, true] Try.f146 [.box [((.nums 5 .u8 a0_0z a0_0), false), ((.int .i64 a0_1), false), ((.int .i64 a0_2), false)], .v (.int .i64 a1)]) 100000 k spec_l21Draw.K0 (spec_l21Draw.N0 x1 x6 c0_0z c0_0 c0_1 c0_2 c5_0z c5_0) = (spec_l21Draw.l0 k x1 x6 c0_0z c0_0 c0_1 c0_2 c5_0z c5_0).map spec_l21Draw.enc)
  | 0 => fun _ _ _ _ _ _ _ _ => rfl
  | k + 1 => by
    have ih := spec_l21Draw.rq a0_0z a0_0 a0_1 a0_2 a1 k
    refine fun _ _ _ _ _ _ _ _ => ?_
    · refine (spec_l21Draw.s0 k _ a0_0z a0_0 a0_1 a0_2 a1 _ _ _ _ _ _ _ _).trans (Eq.trans ?_ (spec_l21Draw.l0n spec_l21Draw.enc some (spec_l21Draw.l0 k) k _ _ _ _ _ _ _ _))
      simp only [ih, Option.map_some]
theorem spec_l21Draw.eq (k : Nat) (a0_0z : Bool) (a0_0 : List Int) (a0_1 a0_2 a1 : Int) : answer Try.prog spec_l21Draw.Cs 100000 spec_l21Draw.cuts [true, false, true, true] Try.f146 (k + 1) [.box [((.nums 5 .u8 a0_0z a0_0), false), ((.int .i64 a0_1), false), ((.int .i64 a0_2), false)], .v (.int .i64 a1)] = (spec_l21Draw.f (k + 1) a0_0z a0_0 a0_1 a0_2 a1).map spec_l21Draw.enc := by
  have ih := spec_l21Draw.rq a0_0z a0_0 a0_1 a0_2 a1 k
  refine Eq.trans (b := spec_l21Draw.b (fun r => some (spec_l21Draw.enc r)) (fun x1 x6 c0_0z c0_0 c0_1 c0_2 c5_0z c5_0 => rounds Try.prog spec_l21Draw.Cs (finish Try.prog [true, false, true, true] Try.f146 [.box [((.nums 5 .u8 a0_0z a0_0), false), ((.int .i64 a0_1), false), ((.int .i64 a0_2), false)], .v (.int .i64 a1)]) 100000 k spec_l21Draw.K0 (spec_l21Draw.N0 x1 x6 c0_0z c0_0 c0_1 c0_2 c5_0z c5_0)) k a0_0z a0_0 a0_1 a0_2 a1) (by kernel_rfl) (Eq.trans ?_ (spec_l21Draw.bn spec_l21Draw.enc some (spec_l21Draw.l0 k) k a0_0z a0_0 a0_1 a0_2 a1))
  simp only [ih, Option.map_some]
theorem spec_l21Draw.sound (k : Nat) : SoundF Try.prog 146 (fun a => (spec_l21Draw.ans k a).val) := by
  refine sound_plain (fun args res h => ?_) (fun t n => rfl)
  unfold spec_l21Draw.ans at h
  dsimp only at h
  split at h
  · cases k with
    | zero => cases h
    | succ k =>
      unfold Ans.val at h
      rw [← spec_l21Draw.eq] at h
      exact answer_sound mixed Try.func146 _ _ _ (k + 1) (fun j _ => tab_sound (tab_cons (spec_l01Pick.sound j) (tab_cons (spec_l01Below.sound j) (tab_nil)))) _ _ h
  · exact (Ans.no_val h).elim

def spec_l23Pair.b {R : Type} (ret : Int × Int × Int × Int × Int × Bool × (List T) × Bool × (List Int) × Int × Int → Option R) (k : Nat) (a0_0z : Bool) (a0_0 : List Int) (a0_1 a0_2 : Int) : Option R :=
  (spec_l10Draw.f k a0_0z a0_0 a0_1 a0_2).bind fun t0 => (spec_l01Below.f k t0.2.2.2.2.2.1 t0.2.2.2.2.2.2.1 t0.2.2.2.2.2.2.2.1 t0.2.2.2.2.2.2.2.2 5).bind fun t1 => (spec_l21Draw.f k t1.2.1 t1.2.2.1 t1.2.2.2.1 t1.2.2.2.2 (RowKit.wrap64 ((1 : Int) + t1.1))).bind fun t2 => ret ((RowKit.wrap64 ((1 : Int) + t1.1)), t0.2.1, t0.2.2.1, 4000, t0.2.2.2.2.1, t2.1, t2.2.1, t2.2.2.1, t2.2.2.2.1, t2.2.2.2.2.1, t2.2.2.2.2.2)
def spec_l23Pair.f : Nat → Bool → (List Int) → Int → Int → Option (Int × Int × Int × Int × Int × Bool × (List T) × Bool × (List Int) × Int × Int)
  | 0, _, _, _, _ => none
  | k + 1, a0_0z, a0_0, a0_1, a0_2 => spec_l23Pair.b some k a0_0z a0_0 a0_1 a0_2
def spec_l23Pair.enc (r : Int × Int × Int × Int × Int × Bool × (List T) × Bool × (List Int) × Int × Int) : Res := ⟨[.vals true [((.int .i64 r.1), true), ((.int .i64 r.2.1), true), ((.int .i64 r.2.2.1), true), ((.int .i64 r.2.2.2.1), true), ((.int .i64 r.2.2.2.2.1), true)], .vals true [((.sl 44 r.2.2.2.2.2.1 r.2.2.2.2.2.2.1), true)]], [[((.nums 5 .u8 r.2.2.2.2.2.2.2.1 r.2.2.2.2.2.2.2.2.1), false), ((.int .i64 r.2.2.2.2.2.2.2.2.2.1), true), ((.int .i64 r.2.2.2.2.2.2.2.2.2.2), true)]]⟩
def spec_l23Pair.ans (k : Nat) : List Arg → Ans
  | [.box [((.nums 5 .u8 a0_0z a0_0), false), ((.int .i64 a0_1), false), ((.int .i64 a0_2), false)]] => ⟨spec_l23Pair.f k a0_0z a0_0 a0_1 a0_2, spec_l23Pair.enc⟩
  | _ => Ans.no
def spec_l23Pair.Cs (k : Nat) : CallSem := tab [(145, spec_l10Draw.ans k), (76, spec_l01Below.ans k), (146, spec_l21Draw.ans k)]
theorem spec_l23Pair.eq (k : Nat) (a0_0z : Bool) (a0_0 : List Int) (a0_1 a0_2 : Int) : answer Try.prog spec_l23Pair.Cs 100000 [] [true, true, true, true, true, true, false, true, true] Try.f75 (k + 1) [.box [((.nums 5 .u8 a0_0z a0_0), false), ((.int .i64 a0_1), false), ((.int .i64 a0_2), false)]] = (spec_l23Pair.f (k + 1) a0_0z a0_0 a0_1 a0_2).map spec_l23Pair.enc := by
  refine Eq.trans (b := spec_l23Pair.b (fun r => some (spec_l23Pair.enc r)) k a0_0z a0_0 a0_1 a0_2) (by kernel_rfl) ?_
  show _ = (spec_l23Pair.b some k a0_0z a0_0 a0_1 a0_2).map spec_l23Pair.enc
  unfold spec_l23Pair.b
  repeat' first | with_reducible refine nat_cond ?_ ?_ | with_reducible refine nat_bind fun _ => ?_ | rfl
theorem spec_l23Pair.sound (k : Nat) : SoundF Try.prog 75 (fun a => (spec_l23Pair.ans k a).val) := by
  refine sound_plain (fun args res h => ?_) (fun t n => rfl)
  unfold spec_l23Pair.ans at h
  dsimp only at h
  split at h
  · cases k with
    | zero => cases h
    | succ k =>
      unfold Ans.val at h
      rw [← spec_l23Pair.eq] at h
      exact answer_sound mixed Try.func75 _ _ _ (k + 1) (fun j _ => tab_sound (tab_cons (spec_l10Draw.sound j) (tab_cons (spec_l01Below.sound j) (tab_cons (spec_l21Draw.sound j) (tab_nil))))) _ _ h
  · exact (Ans.no_val h).elim

def spec_l11Hash.b {R : Type} (ret : Bool × (List Int) × Bool × (List Int) × Int × Int → Option R) (k : Nat) (a0_0z : Bool) (a0_0 : List Int) (a0_1 a0_2 : Int) : Option R :=
  (spec_l01Below.f k a0_0z a0_0 a0_1 a0_2 3).bind fun t0 => cond (decide ((0 : Int) < (((List.replicate 32 (0 : Int))).length : Int))) ((spec_l01Byte.f k t0.2.1 t0.2.2.1 t0.2.2.2.1 t0.2.2.2.2).bind fun t1 => cond (decide ((31 : Int) < (((((List.replicate 32 (0 : Int))).set 0 ((t0.1) % 256))).length : Int))) (ret (false, (((((List.replicate 32 (0 : Int))).set 0 ((t0.1) % 256))).set 31 ((t1.1) % 256)), t1.2.1, t1.2.2.1, t1.2.2.2.1, t1.2.2.2.2)) (none)) (none)
def spec_l11Hash.f : Nat → Bool → (List Int) → Int → Int → Option (Bool × (List Int) × Bool × (List Int) × Int × Int)
  | 0, _, _, _, _ => none
  | k + 1, a0_0z, a0_0, a0_1, a0_2 => spec_l11Hash.b some k a0_0z a0_0 a0_1 a0_2
def spec_l11Hash.enc (r : Bool × (List Int) × Bool × (List Int) × Int × Int) : Res := ⟨[.vals false [((.nums 5 .u8 r.1 r.2.1), true)]], [[((.nums 5 .u8 r.2.2.1 r.2.2.2.1), false), ((.int .i64 r.2.2.2.2.1), true), ((.int .i64 r.2.2.2.2.2), true)]]⟩
def spec_l11Hash.ans (k : Nat) : List Arg → Ans
  | [.box [((.nums 5 .u8 a0_0z a0_0), false), ((.int .i64 a0_1), false), ((.int .i64 a0_2), false)]] => ⟨spec_l11Hash.f k a0_0z a0_0 a0_1 a0_2, spec_l11Hash.enc⟩
  | _ => Ans.no
def spec_l11Hash.Cs (k : Nat) : CallSem := tab [(76, spec_l01Below.ans k), (147, spec_l01Byte.ans k)]
theorem spec_l11Hash.eq (k : Nat) (a0_0z : Bool) (a0_0 : List Int) (a0_1 a0_2 : Int) : answer Try.prog spec_l11Hash.Cs 100000 [] [true, false, true, true] Try.f77 (k + 1) [.box [((.nums 5 .u8 a0_0z a0_0), false), ((.int .i64 a0_1), false), ((.int .i64 a0_2), false)]] = (spec_l11Hash.f (k + 1) a0_0z a0_0 a0_1 a0_2).map spec_l11Hash.enc := by
  refine Eq.trans (b := spec_l11Hash.b (fun r => some (spec_l11Hash.enc r)) k a0_0z a0_0 a0_1 a0_2) (by kernel_rfl) ?_
  show _ = (spec_l11Hash.b some k a0_0z a0_0 a0_1 a0_2).map spec_l11Hash.enc
  unfold spec_l11Hash.b
  repeat' first | with_reducible refine nat_cond ?_ ?_ | with_reducible refine nat_bind fun _ => ?_ | rfl
theorem spec_l11Hash.sound (k : Nat) : SoundF Try.prog 77 (fun a => (spec_l11Hash.ans k a).val) := by
  refine sound_plain (fun args res h => ?_) (fun t n => rfl)
  unfold spec_l11Hash.ans at h
  dsimp only at h
  split at h
  · cases k with
    | zero => cases h
    | succ k =>
      unfold Ans.val at h
      rw [← spec_l11Hash.eq] at h
      exact answer_sound mixed Try.func77 _ _ _ (k + 1) (fun j _ => tab_sound (tab_cons (spec_l01Below.sound j) (tab_cons (spec_l01Byte.sound j) (tab_nil)))) _ _ h
  · exact (Ans.no_val h).elim

def spec_l01Copy.b {R : Type} (ret : Bool × List Int → Option R) (k : Nat) (a0z : Bool) (a0 : List Int) : Option R :=
  cond (decide (0 + (a0).length < 140737488355328)) (ret (((a0).isEmpty && false), a0)) (none)
def spec_l01Copy.f : Nat → Bool → (List Int) → Option (Bool × List Int)
  | 0, _, _ => none
  | k + 1, a0z, a0 => spec_l01Copy.b some k a0z a0
def spec_l01Copy.enc (r : Bool × List Int) : Res := ⟨[.vals false [((.nums 5 .u8 r.1 r.2), true)]], []⟩
def spec_l01Copy.ans (k : Nat) : List Arg → Ans
  | [.v (.nums 5 .u8 a0z a0)] => ⟨spec_l01Copy.f k a0z a0, spec_l01Copy.enc⟩
  | _ => Ans.no
def spec_l01Copy.Cs (k : Nat) : CallSem := tab []
theorem spec_l01Copy.eq (k : Nat) (a0z : Bool) (a0 : List Int) : answer Try.prog spec_l01Copy.Cs 100000 [] [] Try.f155 (k + 1) [.v (.nums 5 .u8 a0z a0)] = (spec_l01Copy.f (k + 1) a0z a0).map spec_l01Copy.enc := by
  refine Eq.trans (b := spec_l01Copy.b (fun r => some (spec_l01Copy.enc r)) k a0z a0) (by kernel_rfl) ?_
  show _ = (spec_l01Copy.b some k a0z a0).map spec_l01Copy.enc
  unfold spec_l01Copy.b
  repeat' first | with_reducible refine nat_cond ?_ ?_ | with_reducible refine nat_bind fun _ => ?_ | rfl
theorem spec_l01Copy.sound (k : Nat) : SoundF Try.prog 155 (fun a => (spec_l01Copy.ans k a).val) := by
  refine sound_plain (fun args res h => ?_) (fun t n => rfl)
  unfold spec_l01Copy.ans at h
  dsimp only at h
  split at h
  · cases k with
    | zero => cases h
    | succ k =>
      unfold Ans.val at h
      rw [← spec_l01Copy.eq] at h
      exact answer_sound mixed Try.func155 _ _ _ (k + 1) (fun j _ => tab_sound (tab_nil)) _ _ h
  · exact (Ans.no_val h).elim

def spec_l01In.b {R : Type} (ret : Bool → Option R) (k : Nat) (a0 a1 a2 : Int) : Option R :=
  cond (decide (a0 ≥ a1)) (ret (decide (a0 ≤ a2))) (ret false)
def spec_l01In.f : Nat → Int → Int → Int → Option Bool
  | 0, _, _, _ => none
  | k + 1, a0, a1, a2 => spec_l01In.b some k a0 a1 a2
def spec_l01In.enc (r : Bool) : Res := ⟨[.vals false [((.bool r), true)]], []⟩
def spec_l01In.ans (k : Nat) : List Arg → Ans
  | [.v (.int .i64 a0), .v (.int .i64 a1), .v (.int .i64 a2)] => ⟨spec_l01In.f k a0 a1 a2, spec_l01In.enc⟩
  | _ => Ans.no
def spec_l01In.Cs (k : Nat) : CallSem := tab []
theorem spec_l01In.eq (k : Nat) (a0 a1 a2 : Int) : answer Try.prog spec_l01In.Cs 100000 [] [] Try.f170 (k + 1) [.v (.int .i64 a0), .v (.int .i64 a1), .v (.int .i64 a2)] = (spec_l01In.f (k + 1) a0 a1 a2).map spec_l01In.enc := by
  refine Eq.trans (b := spec_l01In.b (fun r => some (spec_l01In.enc r)) k a0 a1 a2) (by kernel_rfl) ?_
  show _ = (spec_l01In.b some k a0 a1 a2).map spec_l01In.enc
  unfold spec_l01In.b
  repeat' first | with_reducible refine nat_cond ?_ ?_ | with_reducible refine nat_bind fun _ => ?_ | rfl
theorem spec_l01In.sound (k : Nat) : SoundF Try.prog 170 (fun a => (spec_l01In.ans k a).val) := by
  refine sound_plain (fun args res h => ?_) (fun t n => rfl)
  unfold spec_l01In.ans at h
  dsimp only at h
  split at h
  · cases k with
    | zero => cases h
    | succ k =>
      unfold Ans.val at h
      rw [← spec_l01In.eq] at h
      exact answer_sound mixed Try.func170 _ _ _ (k + 1) (fun j _ => tab_sound (tab_nil)) _ _ h
  · exact (Ans.no_val h).elim

def spec_l02Signers.b {R : Type} (ret : Bool → Option R) (k : Nat) (a0 : Int) : Option R :=
  (spec_l01In.f k a0 1 10).bind fun t0 => ret t0
def spec_l02Signers.f : Nat → Int → Option Bool
  | 0, _ => none
  | k + 1, a0 => spec_l02Signers.b some k a0
def spec_l02Signers.enc (r : Bool) : Res := ⟨[.vals false [((.bool r), true)]], []⟩
def spec_l02Signers.ans (k : Nat) : List Arg → Ans
  | [.v (.int .i64 a0)] => ⟨spec_l02Signers.f k a0, spec_l02Signers.enc⟩
  | _ => Ans.no
def spec_l02Signers.Cs (k : Nat) : CallSem := tab [(170, spec_l01In.ans k)]
theorem spec_l02Signers.eq (k : Nat) (a0 : Int) : answer Try.prog spec_l02Signers.Cs 100000 [] [] Try.f171 (k + 1) [.v (.int .i64 a0)] = (spec_l02Signers.f (k + 1) a0).map spec_l02Signers.enc := by
  refine Eq.trans (b := spec_l02Signers.b (fun r => some (spec_l02Signers.enc r)) k a0) (by kernel_rfl) ?_
  show _ = (spec_l02Signers.b some k a0).map spec_l02Signers.enc
  unfold spec_l02Signers.b
  repeat' first | with_reducible refine nat_cond ?_ ?_ | with_reducible refine nat_bind fun _ => ?_ | rfl
theorem spec_l02Signers.sound (k : Nat) : SoundF Try.prog 171 (fun a => (spec_l02Signers.ans k a).val) := by
  refine sound_plain (fun args res h => ?_) (fun t n => rfl)
  unfold spec_l02Signers.ans at h
  dsimp only at h
  split at h
  · cases k with
    | zero => cases h
    | succ k =>
      unfold Ans.val at h
      rw [← spec_l02Signers.eq] at h
      exact answer_sound mixed Try.func171 _ _ _ (k + 1) (fun j _ => tab_sound (tab_cons (spec_l01In.sound j) (tab_nil))) _ _ h
  · exact (Ans.no_val h).elim

def spec_BitsSize.b {R : Type} (ret : Int → Option R) (k : Nat) (a0 : Int) : Option R :=
  cond (decide (a0 < 1)) (ret 0) (ret (RowKit.wrap64 ((RowKit.wrap64 (Int.tdiv (RowKit.wrap64 (a0 - 1)) 8)) + 1)))
def spec_BitsSize.f : Nat → Int → Option Int
  | 0, _ => none
  | k + 1, a0 => spec_BitsSize.b some k a0
def spec_BitsSize.enc (r : Int) : Res := ⟨[.vals false [((.int .i64 r), true)]], []⟩
def spec_BitsSize.ans (k : Nat) : List Arg → Ans
  | [.v (.int .i64 a0)] => ⟨spec_BitsSize.f k a0, spec_BitsSize.enc⟩
  | _ => Ans.no
def spec_BitsSize.Cs (k : Nat) : CallSem := tab []
theorem spec_BitsSize.eq (k : Nat) (a0 : Int) : answer Try.prog spec_BitsSize.Cs 100000 [] [] Try.f160 (k + 1) [.v (.int .i64 a0)] = (spec_BitsSize.f (k + 1) a0).map spec_BitsSize.enc := by
  refine Eq.trans (b := spec_BitsSize.b (fun r => some (spec_BitsSize.enc r)) k a0) (by kernel_rfl) ?_
  show _ = (spec_BitsSize.b some k a0).map spec_BitsSize.enc
  unfold spec_BitsSize.b
  repeat' first | with_reducible refine nat_cond ?_ ?_ | with_reducible refine nat_bind fun _ => ?_ | rfl
theorem spec_BitsSize.sound (k : Nat) : SoundF Try.prog 160 (fun a => (spec_BitsSize.ans k a).val) := by
  refine sound_plain (fun args res h => ?_) (fun t n => rfl)
  unfold spec_BitsSize.ans at h
  dsimp only at h
  split at h
  · cases k with
    | zero => cases h
    | succ k =>
      unfold Ans.val at h
      rw [← spec_BitsSize.eq] at h
      exact answer_sound mixed Try.func160 _ _ _ (k + 1) (fun j _ => tab_sound (tab_nil)) _ _ h
  · exact (Ans.no_val h).elim

def spec_BitsNew.b {R : Type} (ret : Bool × List Int → Option R) (k : Nat) (a0 : Int) : Option R :=
  (spec_l02Signers.f k a0).bind fun t0 => cond (!t0) (ret (true, ([] : List Int))) ((spec_BitsSize.f k a0).bind fun t1 => cond (decide (t1 = t1)) (cond (decide ((0 : Int) ≤ t1)) (cond (decide ((t1).toNat < 140737488355328)) (ret (false, (List.replicate (t1).toNat (0 : Int)))) (none)) (none)) (none))
def spec_BitsNew.f : Nat → Int → Option (Bool × List Int)
  | 0, _ => none
  | k + 1, a0 => spec_BitsNew.b some k a0
def spec_BitsNew.enc (r : Bool × List Int) : Res := ⟨[.vals false [((.nums 5 .u8 r.1 r.2), true)]], []⟩
def spec_BitsNew.ans (k : Nat) : List Arg → Ans
  | [.v (.int .i64 a0)] => ⟨spec_BitsNew.f k a0, spec_BitsNew.enc⟩
  | _ => Ans.no
def spec_BitsNew.Cs (k : Nat) : CallSem := tab [(171, spec_l02Signers.ans k), (160, spec_BitsSize.ans k)]
theorem spec_BitsNew.eq (k : Nat) (a0 : Int) : answer Try.prog spec_BitsNew.Cs 100000 [] [] Try.f151 (k + 1) [.v (.int .i64 a0)] = (spec_BitsNew.f (k + 1) a0).map spec_BitsNew.enc := by
  refine Eq.trans (b := spec_BitsNew.b (fun r => some (spec_BitsNew.enc r)) k a0) (by kernel_rfl) ?_
  show _ = (spec_BitsNew.b some k a0).map spec_BitsNew.enc
  unfold spec_BitsNew.b
  repeat' first | with_reducible refine nat_cond ?_ ?_ | with_reducible refine nat_bind fun _ => ?_ | rfl
theorem spec_BitsNew.sound (k : Nat) : SoundF Try.prog 151 (fun a => (spec_BitsNew.ans k a).val) := by
  refine sound_plain (fun args res h => ?_) (fun t n => rfl)
  unfold spec_BitsNew.ans at h
  dsimp only at h
  split at h
  · cases k with
    | zero => cases h
    | succ k =>
      unfold Ans.val at h
      rw [← spec_BitsNew.eq] at h
      exact answer_sound mixed Try.func151 _ _ _ (k + 1) (fun j _ => tab_sound (tab_cons (spec_l02Signers.sound j) (tab_cons (spec_BitsSize.sound j) (tab_nil)))) _ _ h
  · exact (Ans.no_val h).elim

def spec_LimitsOk.b {R : Type} (ret : Bool → Option R) (k : Nat) (a0_0 a0_1 : Int) (a0_2 a0_3 a0_4 : Int) : Option R :=
  (spec_l02Signers.f k a0_0).bind fun t0 => cond t0 ((spec_l01In.f k a0_1 0 40).bind fun t1 => cond t1 ((spec_l01In.f k a0_2 0 8).bind fun t2 => cond t2 ((spec_l01In.f k a0_3 1 4000).bind fun t3 => cond t3 ((spec_l01In.f k a0_4 3 5).bind fun t4 => ret t4) (ret false)) (ret false)) (ret false)) (ret false)
def spec_LimitsOk.f : Nat → Int → Int → Int → Int → Int → Option Bool
  | 0, _, _, _, _, _ => none
  | k + 1, a0_0, a0_1, a0_2, a0_3, a0_4 => spec_LimitsOk.b some k a0_0 a0_1 a0_2 a0_3 a0_4
def spec_LimitsOk.enc (r : Bool) : Res := ⟨[.vals false [((.bool r), true)]], []⟩
def spec_LimitsOk.ans (k : Nat) : List Arg → Ans
  | [.v (.agg [(.int .i64 a0_0), (.int .i64 a0_1), (.int .i64 a0_2), (.int .i64 a0_3), (.int .i64 a0_4)])] => ⟨spec_LimitsOk.f k a0_0 a0_1 a0_2 a0_3 a0_4, spec_LimitsOk.enc⟩
  | _ => Ans.no
def spec_LimitsOk.Cs (k : Nat) : CallSem := tab [(171, spec_l02Signers.ans k), (170, spec_l01In.ans k)]
theorem spec_LimitsOk.eq (k : Nat) (a0_0 a0_1 : Int) (a0_2 a0_3 a0_4 : Int) : answer Try.prog spec_LimitsOk.Cs 100000 [] [] Try.f179 (k + 1) [.v (.agg [(.int .i64 a0_0), (.int .i64 a0_1), (.int .i64 a0_2), (.int .i64 a0_3), (.int .i64 a0_4)])] = (spec_LimitsOk.f (k + 1) a0_0 a0_1 a0_2 a0_3 a0_4).map spec_LimitsOk.enc := by
  refine Eq.trans (b := spec_LimitsOk.b (fun r => some (spec_LimitsOk.enc r)) k a0_0 a0_1 a0_2 a0_3 a0_4) (by kernel_rfl) ?_
  show _ = (spec_LimitsOk.b some k a0_0 a0_1 a0_2 a0_3 a0_4).map spec_LimitsOk.enc
  unfold spec_LimitsOk.b
  repeat' first | with_reducible refine nat_cond ?_ ?_ | with_reducible refine nat_bind fun _ => ?_ | rfl
theorem spec_LimitsOk.sound (k : Nat) : SoundF Try.prog 179 (fun a => (spec_LimitsOk.ans k a).val) := by
  refine sound_plain (fun args res h => ?_) (fun t n => rfl)
  unfold spec_LimitsOk.ans at h
  dsimp only at h
  split at h
  · cases k with
    | zero => cases h
    | succ k =>
      unfold Ans.val at h
      rw [← spec_LimitsOk.eq] at h
      exact answer_sound mixed Try.func179 _ _ _ (k + 1) (fun j _ => tab_sound (tab_cons (spec_l02Signers.sound j) (tab_cons (spec_l01In.sound j) (tab_nil)))) _ _ h
  · exact (Ans.no_val h).elim

def spec_TableOk.b {R : Type} (ret : Bool → Option R) (j0 : Bool → (List T) → Int → Int → Bool → (List T) → Option R) (k : Nat) (a0_0z : Bool) (a0_0 : List T) : Option R :=
  j0 a0_0z a0_0 ((a0_0).length : Int) 0 a0_0z a0_0
def spec_TableOk.l0b {R : Type} (ret : Bool → Option R) (j0 : Bool → (List T) → Int → Int → Bool → (List T) → Option R) (k : Nat) (x6z : Bool) (x6 : List T) (x7 x8 : Int) (c1_0z : Bool) (c1_0 : List T) : Option R :=
  cond (decide (x8 < x7)) (cond (decide ((0 : Int) ≤ x8)) (cond (decide (x8 < ((x6).length : Int))) ((spec_l01In.f k (((((x6).getD (x8).toNat .bad).cells.getD 0 .bad)).toInt) 1 1099511627776).bind fun t0 => cond (!t0) (ret false) ((spec_l01In.f k ((((((x6).getD (x8).toNat .bad).cells.getD 1 .bad)).toNums).length : Int) 1 64).bind fun t1 => cond (!t1) (ret false) (j0 x6z x6 x7 (RowKit.wrap64 (x8 + 1)) c1_0z c1_0))) (none)) (none)) ((spec_l02Signers.f k ((c1_0).length : Int)).bind fun t0 => ret t0)
def spec_TableOk.l0 : Nat → Bool → (List T) → Int → Int → Bool → (List T) → Option Bool
  | 0, _, _, _, _, _, _ => none
  | k + 1, x6z, x6, x7, x8, c1_0z, c1_0 => spec_TableOk.l0b some (spec_TableOk.l0 k) k x6z x6 x7 x8 c1_0z c1_0
def spec_TableOk.f : Nat → Bool → (List T) → Option Bool
  | 0, _, _ => none
  | k + 1, a0_0z, a0_0 => spec_TableOk.b some (spec_TableOk.l0 k) k a0_0z a0_0
def spec_TableOk.enc (r : Bool) : Res := ⟨[.vals false [((.bool r), true)]], []⟩
def spec_TableOk.ans (k : Nat) : List Arg → Ans
  | [.v (.agg [(.sl 44 a0_0z a0_0)])] => ⟨spec_TableOk.f k a0_0z a0_0, spec_TableOk.enc⟩
  | _ => Ans.no
def spec_TableOk.Cs (k : Nat) : CallSem := tab [(171, spec_l02Signers.ans k), (170, spec_l01In.ans k)]
def spec_TableOk.cuts : List (Nat × Keep) := [(26, ⟨[(1, some []), (6, some []), (7, some []), (8, some [])], [(1, [some []])]⟩)]
noncomputable def spec_TableOk.K0 : List Fr := framesAt [true, false, true, false] (bodyOf Try.f112 spec_TableOk.cuts) []
def spec_TableOk.N0 (x6z : Bool) (x6 : List T) (x7 x8 : Int) (c1_0z : Bool) (c1_0 : List T) : St := stOf 28 28 1 [(1, .bp 1 0), (6, .val ⟨(.sl 44 x6z x6), [], false, none⟩), (7, .val (V.s (.int .i64 x7))), (8, .val (V.s (.int .i64 x8)))] [(1, .cells [⟨(.sl 44 c1_0z c1_0), [], false, none⟩])]
theorem spec_TableOk.s0 (k : Nat) (G : List Fr → St → Option Res) (a0_0z : Bool) (a0_0 : List T) (yx6z : Bool) (yx6 : List T) (yx7 yx8 : Int) (yc1_0z : Bool) (yc1_0 : List T) : resume Try.prog (spec_TableOk.Cs k) G (finish Try.prog [] Try.f112 [.v (.agg [(.sl 44 a0_0z a0_0)])]) 100000 spec_TableOk.K0 (spec_TableOk.N0 yx6z yx6 yx7 yx8 yc1_0z yc1_0) = spec_TableOk.l0b (fun r => some (spec_TableOk.enc r)) (fun x6z x6 x7 x8 c1_0z c1_0 => G spec_TableOk.K0 (spec_TableOk.N0 x6z x6 x7 x8 c1_0z c1_0)) k yx6z yx6 yx7 yx8 yc1_0z yc1_0 := by kernel_rfl
theorem spec_TableOk.bn {R R' : Type} (e : R → R') (ret : Bool → Option R) (j0 : Bool → (List T) → Int → Int → Bool → (List T) → Option R) (k : Nat) (a0_0z : Bool) (a0_0 : List T) : spec_TableOk.b (fun r => (ret r).map e) (fun x6z x6 x7 x8 c1_0z c1_0 => (j0 x6z x6 x7 x8 c1_0z c1_0).map e) k a0_0z a0_0 = (spec_TableOk.b ret j0 k a0_0z a0_0).map e := by
  unfold spec_TableOk.b
  repeat' first | with_reducible refine nat_cond ?_ ?_ | with_reducible refine nat_bind fun _ => ?_ | rfl
theorem spec_TableOk.l0n {R R' : Type} (e : R → R') (ret : Bool → Option R) (j0 : Bool → (List T) → Int → Int → Bool → (List T) → Option R) (k : Nat) (x6z : Bool) (x6 : List T) (x7 x8 : Int) (c1_0z : Bool) (c1_0 : List T) : spec_TableOk.l0b (fun r => (ret r).map e) (fun x6z x6 x7 x8 c1_0z c1_0 => (j0 x6z x6 x7 x8 c1_0z c1_0).map e) k x6z x6 x7 x8 c1_0z c1_0 = (spec_TableOk.l0b ret j0 k x6z x6 x7 x8 c1_0z c1_0).map e := by
  unfold spec_TableOk.l0b
  repeat' first | with_reducible refine nat_cond ?_ ?_ | with_reducible refine nat_bind fun _ => ?_ | rfl
theorem spec_TableOk.rq (a0_0z : Bool) (a0_0 : List T) : ∀ k, (∀ (x6z : Bool) (x6 : List T) (x7 x8 : Int) (c1_0z : Bool) (c1_0 : List T), rounds Try.prog spec_TableOk.Cs (finish Try.prog [] Try.f112 [.v (.agg [(.sl 44 a0_0z a0_0)])]) 100000 k spec_TableOk.K0 (spec_TableOk.N0 x6z x6 x7 x8 c1_0z c1_0) = (spec_TableOk.l0 k x6z x6 x7 x8 c1_0z c1_0).map spec_TableOk.enc)
  | 0 => fun _ _ _ _ _ _ => rfl
  | k + 1 => by
    have ih := spec_TableOk.rq a0_0z a0_0 k
    refine fun _ _ _ _ _ _ => ?_
    · refine (spec_TableOk.s0 k _ a0_0z a0_0 _ _ _ _ _ _).trans (Eq.trans ?_ (spec_TableOk.l0n spec_TableOk.enc some (spec_TableOk.l0 k) k _ _ _ _ _ _))
      simp only [ih, Option.map_some]
theorem spec_TableOk.eq (k : Nat) (a0_0z : Bool) (a0_0 : List T) : answer Try.prog spec_TableOk.Cs 100000 spec_TableOk.cuts [] Try.f112 (k + 1) [.v (.agg [(.sl 44 a0_0z a0_0)])] = (spec_TableOk.f (k + 1) a0_0z a0_0).map spec_TableOk.enc := by
  have ih := spec_TableOk.rq a0_0z a0_0 k
  refine Eq.trans (b := spec_TableOk.b (fun r => some (spec_TableOk.enc r)) (fun x6z x6 x7 x8 c1_0z c1_0 => rounds Try.prog spec_TableOk.Cs (finish Try.prog [] Try.f112 [.v (.agg [(.sl 44 a0_0z a0_0)])]) 100000 k spec_TableOk.K0 (spec_TableOk.N0 x6z x6 x7 x8 c1_0z c1_0)) k a0_0z a0_0) (by kernel_rfl) (Eq.trans ?_ (spec_TableOk.bn spec_TableOk.enc some (spec_TableOk.l0 k) k a0_0z a0_0))
  simp only [ih, Option.map_some]
theorem spec_TableOk.sound (k : Nat) : SoundF Try.prog 112 (fun a => (spec_TableOk.ans k a).val) := by
  refine sound_plain (fun args res h => ?_) (fun t n => rfl)
  unfold spec_TableOk.ans at h
  dsimp only at h
  split at h
  · cases k with
    | zero => cases h
    | succ k =>
      unfold Ans.val at h
      rw [← spec_TableOk.eq] at h
      exact answer_sound mixed Try.func112 _ _ _ (k + 1) (fun j _ => tab_sound (tab_cons (spec_l02Signers.sound j) (tab_cons (spec_l01In.sound j) (tab_nil)))) _ _ h
  · exact (Ans.no_val h).elim

def spec_l23Goes.b {R : Type} (ret : Bool → Option R) (k : Nat) (a0_0 a0_1 : Int) (a0_2 a0_3 a0_4 : Int) (a1_0z : Bool) (a1_0 : List T) : Option R :=
  (spec_LimitsOk.f k a0_0 a0_1 a0_2 a0_3 a0_4).bind fun t0 => cond t0 ((spec_TableOk.f k a1_0z a1_0).bind fun t1 => cond t1 (ret (decide (a0_0 = ((a1_0).length : Int)))) (ret false)) (ret false)
def spec_l23Goes.f : Nat → Int → Int → Int → Int → Int → Bool → (List T) → Option Bool
  | 0, _, _, _, _, _, _, _ => none
  | k + 1, a0_0, a0_1, a0_2, a0_3, a0_4, a1_0z, a1_0 => spec_l23Goes.b some k a0_0 a0_1 a0_2 a0_3 a0_4 a1_0z a1_0
def spec_l23Goes.enc (r : Bool) : Res := ⟨[.vals false [((.bool r), true)]], []⟩
def spec_l23Goes.ans (k : Nat) : List Arg → Ans
  | [.v (.agg [(.int .i64 a0_0), (.int .i64 a0_1), (.int .i64 a0_2), (.int .i64 a0_3), (.int .i64 a0_4)]), .v (.agg [(.sl 44 a1_0z a1_0)])] => ⟨spec_l23Goes.f k a0_0 a0_1 a0_2 a0_3 a0_4 a1_0z a1_0, spec_l23Goes.enc⟩
  | _ => Ans.no
def spec_l23Goes.Cs (k : Nat) : CallSem := tab [(179, spec_LimitsOk.ans k), (112, spec_TableOk.ans k)]
theorem spec_l23Goes.eq (k : Nat) (a0_0 a0_1 : Int) (a0_2 a0_3 a0_4 : Int) (a1_0z : Bool) (a1_0 : List T) : answer Try.prog spec_l23Goes.Cs 100000 [] [] Try.f156 (k + 1) [.v (.agg [(.int .i64 a0_0), (.int .i64 a0_1), (.int .i64 a0_2), (.int .i64 a0_3), (.int .i64 a0_4)]), .v (.agg [(.sl 44 a1_0z a1_0)])] = (spec_l23Goes.f (k + 1) a0_0 a0_1 a0_2 a0_3 a0_4 a1_0z a1_0).map spec_l23Goes.enc := by
  refine Eq.trans (b := spec_l23Goes.b (fun r => some (spec_l23Goes.enc r)) k a0_0 a0_1 a0_2 a0_3 a0_4 a1_0z a1_0) (by kernel_rfl) ?_
  show _ = (spec_l23Goes.b some k a0_0 a0_1 a0_2 a0_3 a0_4 a1_0z a1_0).map spec_l23Goes.enc
  unfold spec_l23Goes.b
  repeat' first | with_reducible refine nat_cond ?_ ?_ | with_reducible refine nat_bind fun _ => ?_ | rfl
theorem spec_l23Goes.sound (k : Nat) : SoundF Try.prog 156 (fun a => (spec_l23Goes.ans k a).val) := by
  refine sound_plain (fun args res h => ?_) (fun t n => rfl)
  unfold spec_l23Goes.ans at h
  dsimp only at h
  split at h
  · cases k with
    | zero => cases h
    | succ k =>
      unfold Ans.val at h
      rw [← spec_l23Goes.eq] at h
      exact answer_sound mixed Try.func156 _ _ _ (k + 1) (fun j _ => tab_sound (tab_cons (spec_LimitsOk.sound j) (tab_cons (spec_TableOk.sound j) (tab_nil)))) _ _ h
  · exact (Ans.no_val h).elim

def spec_l01Num.b {R : Type} (ret : Bool → Option R) (k : Nat) (a0 : Int) : Option R :=
  (spec_l01In.f k a0 0 1152921504606846975).bind fun t0 => ret t0
def spec_l01Num.f : Nat → Int → Option Bool
  | 0, _ => none
  | k + 1, a0 => spec_l01Num.b some k a0
def spec_l01Num.enc (r : Bool) : Res := ⟨[.vals false [((.bool r), true)]], []⟩
def spec_l01Num.ans (k : Nat) : List Arg → Ans
  | [.v (.int .i64 a0)] => ⟨spec_l01Num.f k a0, spec_l01Num.enc⟩
  | _ => Ans.no
def spec_l01Num.Cs (k : Nat) : CallSem := tab [(170, spec_l01In.ans k)]
theorem spec_l01Num.eq (k : Nat) (a0 : Int) : answer Try.prog spec_l01Num.Cs 100000 [] [] Try.f190 (k + 1) [.v (.int .i64 a0)] = (spec_l01Num.f (k + 1) a0).map spec_l01Num.enc := by
  refine Eq.trans (b := spec_l01Num.b (fun r => some (spec_l01Num.enc r)) k a0) (by kernel_rfl) ?_
  show _ = (spec_l01Num.b some k a0).map spec_l01Num.enc
  unfold spec_l01Num.b
  repeat' first | with_reducible refine nat_cond ?_ ?_ | with_reducible refine nat_bind fun _ => ?_ | rfl
theorem spec_l01Num.sound (k : Nat) : SoundF Try.prog 190 (fun a => (spec_l01Num.ans k a).val) := by
  refine sound_plain (fun args res h => ?_) (fun t n => rfl)
  unfold spec_l01Num.ans at h
  dsimp only at h
  split at h
  · cases k with
    | zero => cases h
    | succ k =>
      unfold Ans.val at h
      rw [← spec_l01Num.eq] at h
      exact answer_sound mixed Try.func190 _ _ _ (k + 1) (fun j _ => tab_sound (tab_cons (spec_l01In.sound j) (tab_nil))) _ _ h
  · exact (Ans.no_val h).elim

def spec_l07Hash.b {R : Type} (ret : Bool → Option R) (k : Nat) (a0z : Bool) (a0 : List Int) : Option R :=
  ret (decide (((a0).length : Int) = 32))
def spec_l07Hash.f : Nat → Bool → (List Int) → Option Bool
  | 0, _, _ => none
  | k + 1, a0z, a0 => spec_l07Hash.b some k a0z a0
def spec_l07Hash.enc (r : Bool) : Res := ⟨[.vals false [((.bool r), true)]], []⟩
def spec_l07Hash.ans (k : Nat) : List Arg → Ans
  | [.v (.nums 5 .u8 a0z a0)] => ⟨spec_l07Hash.f k a0z a0, spec_l07Hash.enc⟩
  | _ => Ans.no
def spec_l07Hash.Cs (k : Nat) : CallSem := tab []
theorem spec_l07Hash.eq (k : Nat) (a0z : Bool) (a0 : List Int) : answer Try.prog spec_l07Hash.Cs 100000 [] [] Try.f191 (k + 1) [.v (.nums 5 .u8 a0z a0)] = (spec_l07Hash.f (k + 1) a0z a0).map spec_l07Hash.enc := by
  refine Eq.trans (b := spec_l07Hash.b (fun r => some (spec_l07Hash.enc r)) k a0z a0) (by kernel_rfl) ?_
  show _ = (spec_l07Hash.b some k a0z a0).map spec_l07Hash.enc
  unfold spec_l07Hash.b
  repeat' first | with_reducible refine nat_cond ?_ ?_ | with_reducible refine nat_bind fun _ => ?_ | rfl
theorem spec_l07Hash.sound (k : Nat) : SoundF Try.prog 191 (fun a => (spec_l07Hash.ans k a).val) := by
  refine sound_plain (fun args res h => ?_) (fun t n => rfl)
  unfold spec_l07Hash.ans at h
  dsimp only at h
  split at h
  · cases k with
    | zero => cases h
    | succ k =>
      unfold Ans.val at h
      rw [← spec_l07Hash.eq] at h
      exact answer_sound mixed Try.func191 _ _ _ (k + 1) (fun j _ => tab_sound (tab_nil)) _ _ h
  · exact (Ans.no_val h).elim

def spec_BitsHas.b {R : Type} (ret : Bool → Option R) (k : Nat) (a0z : Bool) (a0 : List Int) (a1 : Int) : Option R :=
  cond (decide (a1 ≥ 0)) (cond (decide ((RowKit.wrap64 (Int.tdiv a1 8)) < ((a0).length : Int))) (cond (decide ((0 : Int) ≤ (RowKit.wrap64 (Int.tdiv a1 8)))) (cond (decide ((RowKit.wrap64 (Int.tdiv a1 8)) < ((a0).length : Int))) (cond (decide ((0 : Int) ≤ (Int.tmod a1 8))) (ret (decide ((Int.tmod (shrI .i64 (RowKit.wrap64 ((rdI a0 (RowKit.wrap64 (Int.tdiv a1 8))))) (Int.tmod a1 8)) 2) = 1))) (none)) (none)) (none)) (ret false)) (ret false)
def spec_BitsHas.f : Nat → Bool → (List Int) → Int → Option Bool
  | 0, _, _, _ => none
  | k + 1, a0z, a0, a1 => spec_BitsHas.b some k a0z a0 a1
def spec_BitsHas.enc (r : Bool) : Res := ⟨[.vals false [((.bool r), true)]], []⟩
def spec_BitsHas.ans (k : Nat) : List Arg → Ans
  | [.v (.nums 5 .u8 a0z a0), .v (.int .i64 a1)] => ⟨spec_BitsHas.f k a0z a0 a1, spec_BitsHas.enc⟩
  | _ => Ans.no
def spec_BitsHas.Cs (k : Nat) : CallSem := tab []
theorem spec_BitsHas.eq (k : Nat) (a0z : Bool) (a0 : List Int) (a1 : Int) : answer Try.prog spec_BitsHas.Cs 100000 [] [] Try.f173 (k + 1) [.v (.nums 5 .u8 a0z a0), .v (.int .i64 a1)] = (spec_BitsHas.f (k + 1) a0z a0 a1).map spec_BitsHas.enc := by
  refine Eq.trans (b := spec_BitsHas.b (fun r => some (spec_BitsHas.enc r)) k a0z a0 a1) (by kernel_rfl) ?_
  show _ = (spec_BitsHas.b some k a0z a0 a1).map spec_BitsHas.enc
  unfold spec_BitsHas.b
  repeat' first | with_reducible refine nat_cond ?_ ?_ | with_reducible refine nat_bind fun _ => ?_ | rfl
theorem spec_BitsHas.sound (k : Nat) : SoundF Try.prog 173 (fun a => (spec_BitsHas.ans k a).val) := by
  refine sound_plain (fun args res h => ?_) (fun t n => rfl)
  unfold spec_BitsHas.ans at h
  dsimp only at h
  split at h
  · cases k with
    | zero => cases h
    | succ k =>
      unfold Ans.val at h
      rw [← spec_BitsHas.eq] at h
      exact answer_sound mixed Try.func173 _ _ _ (k + 1) (fun j _ => tab_sound (tab_nil)) _ _ h
  · exact (Ans.no_val h).elim

def spec_BitsList.b {R : Type} (ret : Bool × List Int → Option R) (j0 : Bool → (List Int) → (List Int) → Int → Option R) (k : Nat) (a0z : Bool) (a0 : List Int) : Option R :=
  j0 a0z a0 ([] : List Int) 0
def spec_BitsList.l0b {R : Type} (ret : Bool × List Int → Option R) (j0 : Bool → (List Int) → (List Int) → Int → Option R) (k : Nat) (x0z : Bool) (x0 x3 : List Int) (x4 : Int) : Option R :=
  cond (decide (x4 < (RowKit.wrap64 ((8 : Int) * ((x0).length : Int))))) ((spec_BitsHas.f k x0z x0 x4).bind fun t0 => cond t0 (cond (decide ((x3).length + 1 < 17592186044416)) (j0 x0z x0 (x3 ++ ([x4] : List Int)) (RowKit.wrap64 (x4 + 1))) (none)) (j0 x0z x0 x3 (RowKit.wrap64 (x4 + 1)))) (ret (false, x3))
def spec_BitsList.l0 : Nat → Bool → (List Int) → (List Int) → Int → Option (Bool × List Int)
  | 0, _, _, _, _ => none
  | k + 1, x0z, x0, x3, x4 => spec_BitsList.l0b some (spec_BitsList.l0 k) k x0z x0 x3 x4
def spec_BitsList.f : Nat → Bool → (List Int) → Option (Bool × List Int)
  | 0, _, _ => none
  | k + 1, a0z, a0 => spec_BitsList.b some (spec_BitsList.l0 k) k a0z a0
def spec_BitsList.enc (r : Bool × List Int) : Res := ⟨[.vals false [((.nums 3 .i64 r.1 r.2), true)]], []⟩
def spec_BitsList.ans (k : Nat) : List Arg → Ans
  | [.v (.nums 5 .u8 a0z a0)] => ⟨spec_BitsList.f k a0z a0, spec_BitsList.enc⟩
  | _ => Ans.no
def spec_BitsList.Cs (k : Nat) : CallSem := tab [(173, spec_BitsHas.ans k)]
def spec_BitsList.cuts : List (Nat × Keep) := [(58, ⟨[(0, some []), (3, none), (4, some [])], []⟩)]
noncomputable def spec_BitsList.K0 : List Fr := framesAt [true, true, false, true, false] (bodyOf Try.f194 spec_BitsList.cuts) []
def spec_BitsList.N0 (x0z : Bool) (x0 x3 : List Int) (x4 : Int) : St := stOf 21 21 1 [(0, .val ⟨(.nums 5 .u8 x0z x0), [], false, none⟩), (3, .val ⟨(.nums 3 .i64 false x3), [.l 3 0], true, some (.l 3 0)⟩), (4, .val (V.s (.int .i64 x4)))] []
theorem spec_BitsList.s0 (k : Nat) (G : List Fr → St → Option Res) (a0z : Bool) (a0 : List Int) (yx0z : Bool) (yx0 yx3 : List Int) (yx4 : Int) : resume Try.prog (spec_BitsList.Cs k) G (finish Try.prog [] Try.f194 [.v (.nums 5 .u8 a0z a0)]) 100000 spec_BitsList.K0 (spec_BitsList.N0 yx0z yx0 yx3 yx4) = spec_BitsList.l0b (fun r => some (spec_BitsList.enc r)) (fun x0z x0 x3 x4 => G spec_BitsList.K0 (spec_BitsList.N0 x0z x0 x3 x4)) k yx0z yx0 yx3 yx4 := by kernel_rfl
theorem spec_BitsList.bn {R R' : Type} (e : R → R') (ret : Bool × List Int → Option R) (j0 : Bool → (List Int) → (List Int) → Int → Option R) (k : Nat) (a0z : Bool) (a0 : List Int) : spec_BitsList.b (fun r => (ret r).map e) (fun x0z x0 x3 x4 => (j0 x0z x0 x3 x4).map e) k a0z a0 = (spec_BitsList.b ret j0 k a0z a0).map e := by
  unfold spec_BitsList.b
  repeat' first | with_reducible refine nat_cond ?_ ?_ | with_reducible refine nat_bind fun _ => ?_ | rfl
theorem spec_BitsList.l0n {R R' : Type} (e : R → R') (ret : Bool × List Int → Option R) (j0 : Bool → (List Int) → (List Int) → Int → Option R) (k : Nat) (x0z : Bool) (x0 x3 : List Int) (x4 : Int) : spec_BitsList.l0b (fun r => (ret r).map e) (fun x0z x0 x3 x4 => (j0 x0z x0 x3 x4).map e) k x0z x0 x3 x4 = (spec_BitsList.l0b ret j0 k x0z x0 x3 x4).map e := by
  unfold spec_BitsList.l0b
  repeat' first | with_reducible refine nat_cond ?_ ?_ | with_reducible refine nat_bind fun _ => ?_ | rfl
theorem spec_BitsList.rq (a0z : Bool) (a0 : List Int) : ∀ k, (∀ (x0z : Bool) (x0 x3 : List Int) (x4 : Int), rounds Try.prog spec_BitsList.Cs (finish Try.prog [] Try.f194 [.v (.nums 5 .u8 a0z a0)]) 100000 k spec_BitsList.K0 (spec_BitsList.N0 x0z x0 x3 x4) = (spec_BitsList.l0 k x0z x0 x3 x4).map spec_BitsList.enc)
  | 0 => fun _ _ _ _ => rfl
  | k + 1 => by
    have ih := spec_BitsList.rq a0z a0 k
    refine fun _ _ _ _ => ?_
    · refine (spec_BitsList.s0 k _ a0z a0 _ _ _ _).trans (Eq.trans ?_ (spec_BitsList.l0n spec_BitsList.enc some (spec_BitsList.l0 k) k _ _ _ _))
      simp only [ih, Option.map_some]
theorem spec_BitsList.eq (k : Nat) (a0z : Bool) (a0 : List Int) : answer Try.prog spec_BitsList.Cs 100000 spec_BitsList.cuts [] Try.f194 (k + 1) [.v (.nums 5 .u8 a0z a0)] = (spec_BitsList.f (k + 1) a0z a0).map spec_BitsList.enc := by
  have ih := spec_BitsList.rq a0z a0 k
  refine Eq.trans (b := spec_BitsList.b (fun r => some (spec_BitsList.enc r)) (fun x0z x0 x3 x4 => rounds Try.prog spec_BitsList.Cs (finish Try.prog [] Try.f194 [.v (.nums 5 .u8 a0z a0)]) 100000 k spec_BitsList.K0 (spec_BitsList.N0 x0z x0 x3 x4)) k a0z a0) (by kernel_rfl) (Eq.trans ?_ (spec_BitsList.bn spec_BitsList.enc some (spec_BitsList.l0 k) k a0z a0))
  simp only [ih, Option.map_some]
theorem spec_BitsList.sound (k : Nat) : SoundF Try.prog 194 (fun a => (spec_BitsList.ans k a).val) := by
  refine sound_plain (fun args res h => ?_) (fun t n => rfl)
  unfold spec_BitsList.ans at h
  dsimp only at h
  split at h
  · cases k with
    | zero => cases h
    | succ k =>
      unfold Ans.val at h
      rw [← spec_BitsList.eq] at h
      exact answer_sound mixed Try.func194 _ _ _ (k + 1) (fun j _ => tab_sound (tab_cons (spec_BitsHas.sound j) (tab_nil))) _ _ h
  · exact (Ans.no_val h).elim

def spec_BitsOk.b {R : Type} (ret : Bool → Option R) (k : Nat) (a0z : Bool) (a0 : List Int) (a1 : Int) : Option R :=
  (spec_l02Signers.f k a1).bind fun t0 => cond (!t0) (ret false) ((spec_BitsSize.f k a1).bind fun t1 => cond (!(decide (((a0).length : Int) = t1))) (ret false) ((spec_BitsList.f k a0z a0).bind fun t2 => cond (decide (((t2.2).length : Int) = 0)) (ret true) (cond (decide ((0 : Int) ≤ (RowKit.wrap64 (((t2.2).length : Int) - 1)))) (cond (decide ((RowKit.wrap64 (((t2.2).length : Int) - 1)) < ((t2.2).length : Int))) (ret (decide ((rdI t2.2 (RowKit.wrap64 (((t2.2).length : Int) - 1))) < a1))) (none)) (none))))
def spec_BitsOk.f : Nat → Bool → (List Int) → Int → Option Bool
  | 0, _, _, _ => none
  | k + 1, a0z, a0, a1 => spec_BitsOk.b some k a0z a0 a1
def spec_BitsOk.enc (r : Bool) : Res := ⟨[.vals false [((.bool r), true)]], []⟩
def spec_BitsOk.ans (k : Nat) : List Arg → Ans
  | [.v (.nums 5 .u8 a0z a0), .v (.int .i64 a1)] => ⟨spec_BitsOk.f k a0z a0 a1, spec_BitsOk.enc⟩
  | _ => Ans.no
def spec_BitsOk.Cs (k : Nat) : CallSem := tab [(171, spec_l02Signers.ans k), (160, spec_BitsSize.ans k), (194, spec_BitsList.ans k)]
theorem spec_BitsOk.eq (k : Nat) (a0z : Bool) (a0 : List Int) (a1 : Int) : answer Try.prog spec_BitsOk.Cs 100000 [] [] Try.f172 (k + 1) [.v (.nums 5 .u8 a0z a0), .v (.int .i64 a1)] = (spec_BitsOk.f (k + 1) a0z a0 a1).map spec_BitsOk.enc := by
  refine Eq.trans (b := spec_BitsOk.b (fun r => some (spec_BitsOk.enc r)) k a0z a0 a1) (by kernel_rfl) ?_
  show _ = (spec_BitsOk.b some k a0z a0 a1).map spec_BitsOk.enc
  unfold spec_BitsOk.b
  repeat' first | with_reducible refine nat_cond ?_ ?_ | with_reducible refine nat_bind fun _ => ?_ | rfl
theorem spec_BitsOk.sound (k : Nat) : SoundF Try.prog 172 (fun a => (spec_BitsOk.ans k a).val) := by
  refine sound_plain (fun args res h => ?_) (fun t n => rfl)
  unfold spec_BitsOk.ans at h
  dsimp only at h
  split at h
  · cases k with
    | zero => cases h
    | succ k =>
      unfold Ans.val at h
      rw [← spec_BitsOk.eq] at h
      exact answer_sound mixed Try.func172 _ _ _ (k + 1) (fun j _ => tab_sound (tab_cons (spec_l02Signers.sound j) (tab_cons (spec_BitsSize.sound j) (tab_cons (spec_BitsList.sound j) (tab_nil))))) _ _ h
  · exact (Ans.no_val h).elim

def spec_BitsCount.b {R : Type} (ret : Int → Option R) (k : Nat) (a0z : Bool) (a0 : List Int) : Option R :=
  (spec_BitsList.f k a0z a0).bind fun t0 => ret ((t0.2).length : Int)
def spec_BitsCount.f : Nat → Bool → (List Int) → Option Int
  | 0, _, _ => none
  | k + 1, a0z, a0 => spec_BitsCount.b some k a0z a0
def spec_BitsCount.enc (r : Int) : Res := ⟨[.vals false [((.int .i64 r), true)]], []⟩
def spec_BitsCount.ans (k : Nat) : List Arg → Ans
  | [.v (.nums 5 .u8 a0z a0)] => ⟨spec_BitsCount.f k a0z a0, spec_BitsCount.enc⟩
  | _ => Ans.no
def spec_BitsCount.Cs (k : Nat) : CallSem := tab [(194, spec_BitsList.ans k)]
theorem spec_BitsCount.eq (k : Nat) (a0z : Bool) (a0 : List Int) : answer Try.prog spec_BitsCount.Cs 100000 [] [] Try.f224 (k + 1) [.v (.nums 5 .u8 a0z a0)] = (spec_BitsCount.f (k + 1) a0z a0).map spec_BitsCount.enc := by
  refine Eq.trans (b := spec_BitsCount.b (fun r => some (spec_BitsCount.enc r)) k a0z a0) (by kernel_rfl) ?_
  show _ = (spec_BitsCount.b some k a0z a0).map spec_BitsCount.enc
  unfold spec_BitsCount.b
  repeat' first | with_reducible refine nat_cond ?_ ?_ | with_reducible refine nat_bind fun _ => ?_ | rfl
theorem spec_BitsCount.sound (k : Nat) : SoundF Try.prog 224 (fun a => (spec_BitsCount.ans k a).val) := by
  refine sound_plain (fun args res h => ?_) (fun t n => rfl)
  unfold spec_BitsCount.ans at h
  dsimp only at h
  split at h
  · cases k with
    | zero => cases h
    | succ k =>
      unfold Ans.val at h
      rw [← spec_BitsCount.eq] at h
      exact answer_sound mixed Try.func224 _ _ _ (k + 1) (fun j _ => tab_sound (tab_cons (spec_BitsList.sound j) (tab_nil))) _ _ h
  · exact (Ans.no_val h).elim

def spec_l08Hashes.b {R : Type} (ret : Bool → Option R) (j0 : Bool → (List T) → Int → Int → Option R) (k : Nat) (a0z : Bool) (a0 : List T) : Option R :=
  j0 a0z a0 ((a0).length : Int) 0
def spec_l08Hashes.l0b {R : Type} (ret : Bool → Option R) (j0 : Bool → (List T) → Int → Int → Option R) (k : Nat) (x5z : Bool) (x5 : List T) (x6 x7 : Int) : Option R :=
  cond (decide (x7 < x6)) (cond (decide ((0 : Int) ≤ x7)) (cond (decide (x7 < ((x5).length : Int))) ((spec_l07Hash.f k (((((x5).getD (x7).toNat .bad).cells.getD 0 .bad)).isNil) (((((x5).getD (x7).toNat .bad).cells.getD 0 .bad)).toNums)).bind fun t0 => cond (!t0) (ret false) (j0 x5z x5 x6 (RowKit.wrap64 (x7 + 1)))) (none)) (none)) (ret true)
def spec_l08Hashes.l0 : Nat → Bool → (List T) → Int → Int → Option Bool
  | 0, _, _, _, _ => none
  | k + 1, x5z, x5, x6, x7 => spec_l08Hashes.l0b some (spec_l08Hashes.l0 k) k x5z x5 x6 x7
def spec_l08Hashes.f : Nat → Bool → (List T) → Option Bool
  | 0, _, _ => none
  | k + 1, a0z, a0 => spec_l08Hashes.b some (spec_l08Hashes.l0 k) k a0z a0
def spec_l08Hashes.enc (r : Bool) : Res := ⟨[.vals false [((.bool r), true)]], []⟩
def spec_l08Hashes.ans (k : Nat) : List Arg → Ans
  | [.v (.sl 22 a0z a0)] => ⟨spec_l08Hashes.f k a0z a0, spec_l08Hashes.enc⟩
  | _ => Ans.no
def spec_l08Hashes.Cs (k : Nat) : CallSem := tab [(191, spec_l07Hash.ans k)]
def spec_l08Hashes.cuts : List (Nat × Keep) := [(26, ⟨[(5, some []), (6, some []), (7, some [])], []⟩)]
noncomputable def spec_l08Hashes.K0 : List Fr := framesAt [true, false, true, false] (bodyOf Try.f225 spec_l08Hashes.cuts) []
def spec_l08Hashes.N0 (x5z : Bool) (x5 : List T) (x6 x7 : Int) : St := stOf 15 15 1 [(5, .val ⟨(.sl 22 x5z x5), [], false, none⟩), (6, .val (V.s (.int .i64 x6))), (7, .val (V.s (.int .i64 x7)))] []
theorem spec_l08Hashes.s0 (k : Nat) (G : List Fr → St → Option Res) (a0z : Bool) (a0 : List T) (yx5z : Bool) (yx5 : List T) (yx6 yx7 : Int) : resume Try.prog (spec_l08Hashes.Cs k) G (finish Try.prog [] Try.f225 [.v (.sl 22 a0z a0)]) 100000 spec_l08Hashes.K0 (spec_l08Hashes.N0 yx5z yx5 yx6 yx7) = spec_l08Hashes.l0b (fun r => some (spec_l08Hashes.enc r)) (fun x5z x5 x6 x7 => G spec_l08Hashes.K0 (spec_l08Hashes.N0 x5z x5 x6 x7)) k yx5z yx5 yx6 yx7 := by kernel_rfl
theorem spec_l08Hashes.bn {R R' : Type} (e : R → R') (ret : Bool → Option R) (j0 : Bool → (List T) → Int → Int → Option R) (k : Nat) (a0z : Bool) (a0 : List T) : spec_l08Hashes.b (fun r => (ret r).map e) (fun x5z x5 x6 x7 => (j0 x5z x5 x6 x7).map e) k a0z a0 = (spec_l08Hashes.b ret j0 k a0z a0).map e := by
  unfold spec_l08Hashes.b
  repeat' first | with_reducible refine nat_cond ?_ ?_ | with_reducible refine nat_bind fun _ => ?_ | rfl
theorem spec_l08Hashes.l0n {R R' : Type} (e : R → R') (ret : Bool → Option R) (j0 : Bool → (List T) → Int → Int → Option R) (k : Nat) (x5z : Bool) (x5 : List T) (x6 x7 : Int) : spec_l08Hashes.l0b (fun r => (ret r).map e) (fun x5z x5 x6 x7 => (j0 x5z x5 x6 x7).map e) k x5z x5 x6 x7 = (spec_l08Hashes.l0b ret j0 k x5z x5 x6 x7).map e := by
  unfold spec_l08Hashes.l0b
  repeat' first | with_reducible refine nat_cond ?_ ?_ | with_reducible refine nat_bind fun _ => ?_ | rfl
theorem spec_l08Hashes.rq (a0z : Bool) (a0 : List T) : ∀ k, (∀ (x5z : Bool) (x5 : List T) (x6 x7 : Int), rounds Try.prog spec_l08Hashes.Cs (finish Try.prog [] Try.f225 [.v (.sl 22 a0z a0)]) 100000 k spec_l08Hashes.K0 (spec_l08Hashes.N0 x5z x5 x6 x7) = (spec_l08Hashes.l0 k x5z x5 x6 x7).map spec_l08Hashes.enc)
  | 0 => fun _ _ _ _ => rfl
  | k + 1 => by
    have ih := spec_l08Hashes.rq a0z a0 k
    refine fun _ _ _ _ => ?_
    · refine (spec_l08Hashes.s0 k _ a0z a0 _ _ _ _).trans (Eq.trans ?_ (spec_l08Hashes.l0n spec_l08Hashes.enc some (spec_l08Hashes.l0 k) k _ _ _ _))
      simp only [ih, Option.map_some]
theorem spec_l08Hashes.eq (k : Nat) (a0z : Bool) (a0 : List T) : answer Try.prog spec_l08Hashes.Cs 100000 spec_l08Hashes.cuts [] Try.f225 (k + 1) [.v (.sl 22 a0z a0)] = (spec_l08Hashes.f (k + 1) a0z a0).map spec_l08Hashes.enc := by
  have ih := spec_l08Hashes.rq a0z a0 k
  refine Eq.trans (b := spec_l08Hashes.b (fun r => some (spec_l08Hashes.enc r)) (fun x5z x5 x6 x7 => rounds Try.prog spec_l08Hashes.Cs (finish Try.prog [] Try.f225 [.v (.sl 22 a0z a0)]) 100000 k spec_l08Hashes.K0 (spec_l08Hashes.N0 x5z x5 x6 x7)) k a0z a0) (by kernel_rfl) (Eq.trans ?_ (spec_l08Hashes.bn spec_l08Hashes.enc some (spec_l08Hashes.l0 k) k a0z a0))
  simp only [ih, Option.map_some]
theorem spec_l08Hashes.sound (k : Nat) : SoundF Try.prog 225 (fun a => (spec_l08Hashes.ans k a).val) := by
  refine sound_plain (fun args res h => ?_) (fun t n => rfl)
  unfold spec_l08Hashes.ans at h
  dsimp only at h
  split at h
  · cases k with
    | zero => cases h
    | succ k =>
      unfold Ans.val at h
      rw [← spec_l08Hashes.eq] at h
      exact answer_sound mixed Try.func225 _ _ _ (k + 1) (fun j _ => tab_sound (tab_cons (spec_l07Hash.sound j) (tab_nil))) _ _ h
  · exact (Ans.no_val h).elim

def spec_QcOk.b {R : Type} (ret : Bool → Option R) (k : Nat) (a0_0 a0_1 : Int) (a0_2 a0_3 : Int) (a0_4 a1_0 a1_1 : Int) (a1_2z : Bool) (a1_2 : List Int) (a1_3z : Bool) (a1_3 : List Int) (a1_4z : Bool) (a1_4 : List T) : Option R :=
  (spec_LimitsOk.f k a0_0 a0_1 a0_2 a0_3 a0_4).bind fun t0 => cond t0 ((spec_l01Num.f k a1_0).bind fun t1 => cond t1 ((spec_l01Num.f k a1_1).bind fun t2 => cond t2 ((spec_l07Hash.f k a1_2z a1_2).bind fun t3 => cond t3 ((spec_BitsOk.f k a1_3z a1_3 a0_0).bind fun t4 => cond t4 ((spec_BitsCount.f k a1_3z a1_3).bind fun t5 => cond (decide (((a1_4).length : Int) = t5)) ((spec_l08Hashes.f k a1_4z a1_4).bind fun t6 => ret t6) (ret false)) (ret false)) (ret false)) (ret false)) (ret false)) (ret false)
def spec_QcOk.f : Nat → Int → Int → Int → Int → Int → Int → Int → Bool → (List Int) → Bool → (List Int) → Bool → (List T) → Option Bool
  | 0, _, _, _, _, _, _, _, _, _, _, _, _, _ => none
  | k + 1, a0_0, a0_1, a0_2, a0_3, a0_4, a1_0, a1_1, a1_2z, a1_2, a1_3z, a1_3, a1_4z, a1_4 => spec_QcOk.b some k a0_0 a0_1 a0_2 a0_3 a0_4 a1_0 a1_1 a1_2z a1_2 a1_3z a1_3 a1_4z a1_4
def spec_QcOk.enc (r : Bool) : Res := ⟨[.vals false [((.bool r), true)]], []⟩
def spec_QcOk.ans (k : Nat) : List Arg → Ans
  | [.v (.agg [(.int .i64 a0_0), (.int .i64 a0_1), (.int .i64 a0_2), (.int .i64 a0_3), (.int .i64 a0_4)]), .v (.agg [(.int .i64 a1_0), (.int .i64 a1_1), (.nums 5 .u8 a1_2z a1_2), (.nums 5 .u8 a1_3z a1_3), (.sl 22 a1_4z a1_4)])] => ⟨spec_QcOk.f k a0_0 a0_1 a0_2 a0_3 a0_4 a1_0 a1_1 a1_2z a1_2 a1_3z a1_3 a1_4z a1_4, spec_QcOk.enc⟩
  | _ => Ans.no
def spec_QcOk.Cs (k : Nat) : CallSem := tab [(179, spec_LimitsOk.ans k), (190, spec_l01Num.ans k), (191, spec_l07Hash.ans k), (172, spec_BitsOk.ans k), (224, spec_BitsCount.ans k), (225, spec_l08Hashes.ans k)]
theorem spec_QcOk.eq (k : Nat) (a0_0 a0_1 : Int) (a0_2 a0_3 : Int) (a0_4 a1_0 a1_1 : Int) (a1_2z : Bool) (a1_2 : List Int) (a1_3z : Bool) (a1_3 : List Int) (a1_4z : Bool) (a1_4 : List T) : answer Try.prog spec_QcOk.Cs 100000 [] [] Try.f192 (k + 1) [.v (.agg [(.int .i64 a0_0), (.int .i64 a0_1), (.int .i64 a0_2), (.int .i64 a0_3), (.int .i64 a0_4)]), .v (.agg [(.int .i64 a1_0), (.int .i64 a1_1), (.nums 5 .u8 a1_2z a1_2), (.nums 5 .u8 a1_3z a1_3), (.sl 22 a1_4z a1_4)])] = (spec_QcOk.f (k + 1) a0_0 a0_1 a0_2 a0_3 a0_4 a1_0 a1_1 a1_2z a1_2 a1_3z a1_3 a1_4z a1_4).map spec_QcOk.enc := by
  refine Eq.trans (b := spec_QcOk.b (fun r => some (spec_QcOk.enc r)) k a0_0 a0_1 a0_2 a0_3 a0_4 a1_0 a1_1 a1_2z a1_2 a1_3z a1_3 a1_4z a1_4) (by kernel_rfl) ?_
  show _ = (spec_QcOk.b some k a0_0 a0_1 a0_2 a0_3 a0_4 a1_0 a1_1 a1_2z a1_2 a1_3z a1_3 a1_4z a1_4).map spec_QcOk.enc
  unfold spec_QcOk.b
  repeat' first | with_reducible refine nat_cond ?_ ?_ | with_reducible refine nat_bind fun _ => ?_ | rfl
theorem spec_QcOk.sound (k : Nat) : SoundF Try.prog 192 (fun a => (spec_QcOk.ans k a).val) := by
  refine sound_plain (fun args res h => ?_) (fun t n => rfl)
  unfold spec_QcOk.ans at h
  dsimp only at h
  split at h
  · cases k with
    | zero => cases h
    | succ k =>
      unfold Ans.val at h
      rw [← spec_QcOk.eq] at h
      exact answer_sound mixed Try.func192 _ _ _ (k + 1) (fun j _ => tab_sound (tab_cons (spec_LimitsOk.sound j) (tab_cons (spec_l01Num.sound j) (tab_cons (spec_l07Hash.sound j) (tab_cons (spec_BitsOk.sound j) (tab_cons (spec_BitsCount.sound j) (tab_cons (spec_l08Hashes.sound j) (tab_nil)))))))) _ _ h
  · exact (Ans.no_val h).elim

def spec_SameBytes.b {R : Type} (ret : Bool → Option R) (k : Nat) (a0z : Bool) (a0 : List Int) (a1z : Bool) (a1 : List Int) : Option R :=
  ret (decide ((strOf a0) = (strOf a1)))
def spec_SameBytes.f : Nat → Bool → (List Int) → Bool → (List Int) → Option Bool
  | 0, _, _, _, _ => none
  | k + 1, a0z, a0, a1z, a1 => spec_SameBytes.b some k a0z a0 a1z a1
def spec_SameBytes.enc (r : Bool) : Res := ⟨[.vals false [((.bool r), true)]], []⟩
def spec_SameBytes.ans (k : Nat) : List Arg → Ans
  | [.v (.nums 5 .u8 a0z a0), .v (.nums 5 .u8 a1z a1)] => ⟨spec_SameBytes.f k a0z a0 a1z a1, spec_SameBytes.enc⟩
  | _ => Ans.no
def spec_SameBytes.Cs (k : Nat) : CallSem := tab []
theorem spec_SameBytes.eq (k : Nat) (a0z : Bool) (a0 : List Int) (a1z : Bool) (a1 : List Int) : answer Try.prog spec_SameBytes.Cs 100000 [] [] Try.f115 (k + 1) [.v (.nums 5 .u8 a0z a0), .v (.nums 5 .u8 a1z a1)] = (spec_SameBytes.f (k + 1) a0z a0 a1z a1).map spec_SameBytes.enc := by
  refine Eq.trans (b := spec_SameBytes.b (fun r => some (spec_SameBytes.enc r)) k a0z a0 a1z a1) (by kernel_rfl) ?_
  show _ = (spec_SameBytes.b some k a0z a0 a1z a1).map spec_SameBytes.enc
  unfold spec_SameBytes.b
  repeat' first | with_reducible refine nat_cond ?_ ?_ | with_reducible refine nat_bind fun _ => ?_ | rfl
theorem spec_SameBytes.sound (k : Nat) : SoundF Try.prog 115 (fun a => (spec_SameBytes.ans k a).val) := by
  refine sound_plain (fun args res h => ?_) (fun t n => rfl)
  unfold spec_SameBytes.ans at h
  dsimp only at h
  split at h
  · cases k with
    | zero => cases h
    | succ k =>
      unfold Ans.val at h
      rw [← spec_SameBytes.eq] at h
      exact answer_sound mixed Try.func115 _ _ _ (k + 1) (fun j _ => tab_sound (tab_nil)) _ _ h
  · exact (Ans.no_val h).elim

def spec_l13Fits.b {R : Type} (ret : Bool → Option R) (k : Nat) (a0_0 a0_1 a0_2 : Int) (a0_3z : Bool) (a0_3 : List Int) (a0_4z : Bool) (a0_4 : List Int) (a0_5 a0_6 : Int) (a0_7z : Bool) (a0_7 : List Int) (a0_8z : Bool) (a0_8 : List Int) (a0_9z : Bool) (a0_9 : List T) : Option R :=
  cond (decide (a0_5 < a0_0)) (cond (decide (a0_6 = (RowKit.wrap64 (a0_1 - 1)))) ((spec_SameBytes.f k a0_7z a0_7 a0_3z a0_3).bind fun t0 => ret t0) (ret false)) (ret false)
def spec_l13Fits.f : Nat → Int → Int → Int → Bool → (List Int) → Bool → (List Int) → Int → Int → Bool → (List Int) → Bool → (List Int) → Bool → (List T) → Option Bool
  | 0, _, _, _, _, _, _, _, _, _, _, _, _, _, _, _ => none
  | k + 1, a0_0, a0_1, a0_2, a0_3z, a0_3, a0_4z, a0_4, a0_5, a0_6, a0_7z, a0_7, a0_8z, a0_8, a0_9z, a0_9 => spec_l13Fits.b some k a0_0 a0_1 a0_2 a0_3z a0_3 a0_4z a0_4 a0_5 a0_6 a0_7z a0_7 a0_8z a0_8 a0_9z a0_9
def spec_l13Fits.enc (r : Bool) : Res := ⟨[.vals false [((.bool r), true)]], []⟩
def spec_l13Fits.ans (k : Nat) : List Arg → Ans
  | [.v (.agg [(.int .i64 a0_0), (.int .i64 a0_1), (.int .i64 a0_2), (.nums 5 .u8 a0_3z a0_3), (.nums 5 .u8 a0_4z a0_4), (.int .i64 a0_5), (.int .i64 a0_6), (.nums 5 .u8 a0_7z a0_7), (.nums 5 .u8 a0_8z a0_8), (.sl 22 a0_9z a0_9)])] => ⟨spec_l13Fits.f k a0_0 a0_1 a0_2 a0_3z a0_3 a0_4z a0_4 a0_5 a0_6 a0_7z a0_7 a0_8z a0_8 a0_9z a0_9, spec_l13Fits.enc⟩
  | _ => Ans.no
def spec_l13Fits.Cs (k : Nat) : CallSem := tab [(115, spec_SameBytes.ans k)]
theorem spec_l13Fits.eq (k : Nat) (a0_0 a0_1 a0_2 : Int) (a0_3z : Bool) (a0_3 : List Int) (a0_4z : Bool) (a0_4 : List Int) (a0_5 a0_6 : Int) (a0_7z : Bool) (a0_7 : List Int) (a0_8z : Bool) (a0_8 : List Int) (a0_9z : Bool) (a0_9 : List T) : answer Try.prog spec_l13Fits.Cs 100000 [] [] Try.f193 (k + 1) [.v (.agg [(.int .i64 a0_0), (.int .i64 a0_1), (.int .i64 a0_2), (.nums 5 .u8 a0_3z a0_3), (.nums 5 .u8 a0_4z a0_4), (.int .i64 a0_5), (.int .i64 a0_6), (.nums 5 .u8 a0_7z a0_7), (.nums 5 .u8 a0_8z a0_8), (.sl 22 a0_9z a0_9)])] = (spec_l13Fits.f (k + 1) a0_0 a0_1 a0_2 a0_3z a0_3 a0_4z a0_4 a0_5 a0_6 a0_7z a0_7 a0_8z a0_8 a0_9z a0_9).map spec_l13Fits.enc := by
  refine Eq.trans (b := spec_l13Fits.b (fun r => some (spec_l13Fits.enc r)) k a0_0 a0_1 a0_2 a0_3z a0_3 a0_4z a0_4 a0_5 a0_6 a0_7z a0_7 a0_8z a0_8 a0_9z a0_9) (by kernel_rfl) ?_
  show _ = (spec_l13Fits.b some k a0_0 a0_1 a0_2 a0_3z a0_3 a0_4z a0_4 a0_5 a0_6 a0_7z a0_7 a0_8z a0_8 a0_9z a0_9).map spec_l13Fits.enc
  unfold spec_l13Fits.b
  repeat' first | with_reducible refine nat_cond ?_ ?_ | with_reducible refine nat_bind fun _ => ?_ | rfl
theorem spec_l13Fits.sound (k : Nat) : SoundF Try.prog 193 (fun a => (spec_l13Fits.ans k a).val) := by
  refine sound_plain (fun args res h => ?_) (fun t n => rfl)
  unfold spec_l13Fits.ans at h
  dsimp only at h
  split at h
  · cases k with
    | zero => cases h
    | succ k =>
      unfold Ans.val at h
      rw [← spec_l13Fits.eq] at h
      exact answer_sound mixed Try.func193 _ _ _ (k + 1) (fun j _ => tab_sound (tab_cons (spec_SameBytes.sound j) (tab_nil))) _ _ h
  · exact (Ans.no_val h).elim

def spec_HeadOk.b {R : Type} (ret : Bool → Option R) (k : Nat) (a0_0 a0_1 : Int) (a0_2 a0_3 : Int) (a0_4 a1_0 : Int) (a1_1 a1_2 : Int) (a1_3z : Bool) (a1_3 : List Int) (a1_4z : Bool) (a1_4 : List Int) (a1_5 a1_6 : Int) (a1_7z : Bool) (a1_7 : List Int) (a1_8z : Bool) (a1_8 : List Int) (a1_9z : Bool) (a1_9 : List T) : Option R :=
  (spec_LimitsOk.f k a0_0 a0_1 a0_2 a0_3 a0_4).bind fun t0 => cond t0 ((spec_l01Num.f k a1_0).bind fun t1 => cond t1 ((spec_l01In.f k a1_1 1 1152921504606846975).bind fun t2 => cond t2 ((spec_l01In.f k a1_2 0 (RowKit.wrap64 (a0_0 - 1))).bind fun t3 => cond t3 ((spec_l07Hash.f k a1_3z a1_3).bind fun t4 => cond t4 ((spec_l07Hash.f k a1_4z a1_4).bind fun t5 => cond t5 ((spec_QcOk.f k a0_0 a0_1 a0_2 a0_3 a0_4 a1_5 a1_6 a1_7z a1_7 a1_8z a1_8 a1_9z a1_9).bind fun t6 => cond t6 ((spec_l13Fits.f k a1_0 a1_1 a1_2 a1_3z a1_3 a1_4z a1_4 a1_5 a1_6 a1_7z a1_7 a1_8z a1_8 a1_9z a1_9).bind fun t7 => ret t7) (ret false)) (ret false)) (ret false)) (ret false)) (ret false)) (ret false)) (ret false)
def spec_HeadOk.f : Nat → Int → Int → Int → Int → Int → Int → Int → Int → Bool → (List Int) → Bool → (List Int) → Int → Int → Bool → (List Int) → Bool → (List Int) → Bool → (List T) → Option Bool
  | 0, _, _, _, _, _, _, _, _, _, _, _, _, _, _, _, _, _, _, _, _ => none
  | k + 1, a0_0, a0_1, a0_2, a0_3, a0_4, a1_0, a1_1, a1_2, a1_3z, a1_3, a1_4z, a1_4, a1_5, a1_6, a1_7z, a1_7, a1_8z, a1_8, a1_9z, a1_9 => spec_HeadOk.b some k a0_0 a0_1 a0_2 a0_3 a0_4 a1_0 a1_1 a1_2 a1_3z a1_3 a1_4z a1_4 a1_5 a1_6 a1_7z a1_7 a1_8z a1_8 a1_9z a1_9
def spec_HeadOk.enc (r : Bool) : Res := ⟨[.vals false [((.bool r), true)]], []⟩
def spec_HeadOk.ans (k : Nat) : List Arg → Ans
  | [.v (.agg [(.int .i64 a0_0), (.int .i64 a0_1), (.int .i64 a0_2), (.int .i64 a0_3), (.int .i64 a0_4)]), .v (.agg [(.int .i64 a1_0), (.int .i64 a1_1), (.int .i64 a1_2), (.nums 5 .u8 a1_3z a1_3), (.nums 5 .u8 a1_4z a1_4), (.int .i64 a1_5), (.int .i64 a1_6), (.nums 5 .u8 a1_7z a1_7), (.nums 5 .u8 a1_8z a1_8), (.sl 22 a1_9z a1_9)])] => ⟨spec_HeadOk.f k a0_0 a0_1 a0_2 a0_3 a0_4 a1_0 a1_1 a1_2 a1_3z a1_3 a1_4z a1_4 a1_5 a1_6 a1_7z a1_7 a1_8z a1_8 a1_9z a1_9, spec_HeadOk.enc⟩
  | _ => Ans.no
def spec_HeadOk.Cs (k : Nat) : CallSem := tab [(170, spec_l01In.ans k), (179, spec_LimitsOk.ans k), (190, spec_l01Num.ans k), (191, spec_l07Hash.ans k), (192, spec_QcOk.ans k), (193, spec_l13Fits.ans k)]
theorem spec_HeadOk.eq (k : Nat) (a0_0 a0_1 : Int) (a0_2 a0_3 : Int) (a0_4 a1_0 : Int) (a1_1 a1_2 : Int) (a1_3z : Bool) (a1_3 : List Int) (a1_4z : Bool) (a1_4 : List Int) (a1_5 a1_6 : Int) (a1_7z : Bool) (a1_7 : List Int) (a1_8z : Bool) (a1_8 : List Int) (a1_9z : Bool) (a1_9 : List T) : answer Try.prog spec_HeadOk.Cs 100000 [] [] Try.f157 (k + 1) [.v (.agg [(.int .i64 a0_0), (.int .i64 a0_1), (.int .i64 a0_2), (.int .i64 a0_3), (.int .i64 a0_4)]), .v (.agg [(.int .i64 a1_0), (.int .i64 a1_1), (.int .i64 a1_2), (.nums 5 .u8 a1_3z a1_3), (.nums 5 .u8 a1_4z a1_4), (.int .i64 a1_5), (.int .i64 a1_6), (.nums 5 .u8 a1_7z a1_7), (.nums 5 .u8 a1_8z a1_8), (.sl 22 a1_9z a1_9)])] = (spec_HeadOk.f (k + 1) a0_0 a0_1 a0_2 a0_3 a0_4 a1_0 a1_1 a1_2 a1_3z a1_3 a1_4z a1_4 a1_5 a1_6 a1_7z a1_7 a1_8z a1_8 a1_9z a1_9).map spec_HeadOk.enc := by
  refine Eq.trans (b := spec_HeadOk.b (fun r => some (spec_HeadOk.enc r)) k a0_0 a0_1 a0_2 a0_3 a0_4 a1_0 a1_1 a1_2 a1_3z a1_3 a1_4z a1_4 a1_5 a1_6 a1_7z a1_7 a1_8z a1_8 a1_9z a1_9) (by kernel_rfl) ?_
  show _ = (spec_HeadOk.b some k a0_0 a0_1 a0_2 a0_3 a0_4 a1_0 a1_1 a1_2 a1_3z a1_3 a1_4z a1_4 a1_5 a1_6 a1_7z a1_7 a1_8z a1_8 a1_9z a1_9).map spec_HeadOk.enc
  unfold spec_HeadOk.b
  repeat' first | with_reducible refine nat_cond ?_ ?_ | with_reducible refine nat_bind fun _ => ?_ | rfl
theorem spec_HeadOk.sound (k : Nat) : SoundF Try.prog 157 (fun a => (spec_HeadOk.ans k a).val) := by
  refine sound_plain (fun args res h => ?_) (fun t n => rfl)
  unfold spec_HeadOk.ans at h
  dsimp only at h
  split at h
  · cases k with
    | zero => cases h
    | succ k =>
      unfold Ans.val at h
      rw [← spec_HeadOk.eq] at h
      exact answer_sound mixed Try.func157 _ _ _ (k + 1) (fun j _ => tab_sound (tab_cons (spec_l01In.sound j) (tab_cons (spec_LimitsOk.sound j) (tab_cons (spec_l01Num.sound j) (tab_cons (spec_l07Hash.sound j) (tab_cons (spec_QcOk.sound j) (tab_cons (spec_l13Fits.sound j) (tab_nil)))))))) _ _ h
  · exact (Ans.no_val h).elim

def spec_FirstHead.b {R : Type} (ret : Int × Int × Int × Bool × (List Int) × Bool × (List Int) × Int × Int × Bool × (List Int) × Bool × (List Int) × Bool × (List T) × Bool → Option R) (k : Nat) (a0_0 a0_1 : Int) (a0_2 a0_3 a0_4 : Int) (a1_0z : Bool) (a1_0 : List T) (a2 : Int) (a3z : Bool) (a3 : List Int) : Option R :=
  (spec_l01Copy.f k a3z a3).bind fun t0 => (spec_BitsNew.f k a0_0).bind fun t1 => (spec_l23Goes.f k a0_0 a0_1 a0_2 a0_3 a0_4 a1_0z a1_0).bind fun t2 => cond (!t2) (ret (0, 0, 0, true, ([] : List Int), true, ([] : List Int), 0, 0, true, ([] : List Int), true, ([] : List Int), true, ([] : List T), false)) ((spec_HeadOk.f k a0_0 a0_1 a0_2 a0_3 a0_4 a2 1 0 false (List.replicate 32 (0 : Int)) t0.1 t0.2 0 0 false (List.replicate 32 (0 : Int)) t1.1 t1.2 true ([] : List T)).bind fun t3 => cond (!t3) (ret (0, 0, 0, true, ([] : List Int), true, ([] : List Int), 0, 0, true, ([] : List Int), true, ([] : List Int), true, ([] : List T), false)) (ret (a2, 1, 0, false, (List.replicate 32 (0 : Int)), t0.1, t0.2, 0, 0, false, (List.replicate 32 (0 : Int)), t1.1, t1.2, true, ([] : List T), true)))
def spec_FirstHead.f : Nat → Int → Int → Int → Int → Int → Bool → (List T) → Int → Bool → (List Int) → Option (Int × Int × Int × Bool × (List Int) × Bool × (List Int) × Int × Int × Bool × (List Int) × Bool × (List Int) × Bool × (List T) × Bool)
  | 0, _, _, _, _, _, _, _, _, _, _ => none
  | k + 1, a0_0, a0_1, a0_2, a0_3, a0_4, a1_0z, a1_0, a2, a3z, a3 => spec_FirstHead.b some k a0_0 a0_1 a0_2 a0_3 a0_4 a1_0z a1_0 a2 a3z a3
def spec_FirstHead.enc (r : Int × Int × Int × Bool × (List Int) × Bool × (List Int) × Int × Int × Bool × (List Int) × Bool × (List Int) × Bool × (List T) × Bool) : Res := ⟨[.vals true [((.int .i64 r.1), true), ((.int .i64 r.2.1), true), ((.int .i64 r.2.2.1), true), ((.nums 5 .u8 r.2.2.2.1 r.2.2.2.2.1), true), ((.nums 5 .u8 r.2.2.2.2.2.1 r.2.2.2.2.2.2.1), true), ((.int .i64 r.2.2.2.2.2.2.2.1), true), ((.int .i64 r.2.2.2.2.2.2.2.2.1), true), ((.nums 5 .u8 r.2.2.2.2.2.2.2.2.2.1 r.2.2.2.2.2.2.2.2.2.2.1), true), ((.nums 5 .u8 r.2.2.2.2.2.2.2.2.2.2.2.1 r.2.2.2.2.2.2.2.2.2.2.2.2.1), true), ((.sl 22 r.2.2.2.2.2.2.2.2.2.2.2.2.2.1 r.2.2.2.2.2.2.2.2.2.2.2.2.2.2.1), true)], .vals false [((.bool r.2.2.2.2.2.2.2.2.2.2.2.2.2.2.2), true)]], []⟩
def spec_FirstHead.ans (k : Nat) : List Arg → Ans
  | [.v (.agg [(.int .i64 a0_0), (.int .i64 a0_1), (.int .i64 a0_2), (.int .i64 a0_3), (.int .i64 a0_4)]), .v (.agg [(.sl 44 a1_0z a1_0)]), .v (.int .i64 a2), .v (.nums 5 .u8 a3z a3)] => ⟨spec_FirstHead.f k a0_0 a0_1 a0_2 a0_3 a0_4 a1_0z a1_0 a2 a3z a3, spec_FirstHead.enc⟩
  | _ => Ans.no
def spec_FirstHead.Cs (k : Nat) : CallSem := tab [(155, spec_l01Copy.ans k), (151, spec_BitsNew.ans k), (156, spec_l23Goes.ans k), (157, spec_HeadOk.ans k)]
theorem spec_FirstHead.eq (k : Nat) (a0_0 a0_1 : Int) (a0_2 a0_3 a0_4 : Int) (a1_0z : Bool) (a1_0 : List T) (a2 : Int) (a3z : Bool) (a3 : List Int) : answer Try.prog spec_FirstHead.Cs 100000 [] [] Try.f98 (k + 1) [.v (.agg [(.int .i64 a0_0), (.int .i64 a0_1), (.int .i64 a0_2), (.int .i64 a0_3), (.int .i64 a0_4)]), .v (.agg [(.sl 44 a1_0z a1_0)]), .v (.int .i64 a2), .v (.nums 5 .u8 a3z a3)] = (spec_FirstHead.f (k + 1) a0_0 a0_1 a0_2 a0_3 a0_4 a1_0z a1_0 a2 a3z a3).map spec_FirstHead.enc := by
  refine Eq.trans (b := spec_FirstHead.b (fun r => some (spec_FirstHead.enc r)) k a0_0 a0_1 a0_2 a0_3 a0_4 a1_0z a1_0 a2 a3z a3) (by kernel_rfl) ?_
  show _ = (spec_FirstHead.b some k a0_0 a0_1 a0_2 a0_3 a0_4 a1_0z a1_0 a2 a3z a3).map spec_FirstHead.enc
  unfold spec_FirstHead.b
  repeat' first | with_reducible refine nat_cond ?_ ?_ | with_reducible refine nat_bind fun _ => ?_ | rfl
theorem spec_FirstHead.sound (k : Nat) : SoundF Try.prog 98 (fun a => (spec_FirstHead.ans k a).val) := by
  refine sound_plain (fun args res h => ?_) (fun t n => rfl)
  unfold spec_FirstHead.ans at h
  dsimp only at h
  split at h
  · cases k with
    | zero => cases h
    | succ k =>
      unfold Ans.val at h
      rw [← spec_FirstHead.eq] at h
      exact answer_sound mixed Try.func98 _ _ _ (k + 1) (fun j _ => tab_sound (tab_cons (spec_l01Copy.sound j) (tab_cons (spec_BitsNew.sound j) (tab_cons (spec_l23Goes.sound j) (tab_cons (spec_HeadOk.sound j) (tab_nil)))))) _ _ h
  · exact (Ans.no_val h).elim

def spec_l01Top.b {R : Type} (ret : Int → Option R) (k : Nat) (a0 : Int) : Option R :=
  cond (decide ((0 : Int) ≤ (RowKit.wrap64 ((8 : Int) * a0)))) (ret (shlI .i64 1 (RowKit.wrap64 ((8 : Int) * a0)))) (none)
def spec_l01Top.f : Nat → Int → Option Int
  | 0, _ => none
  | k + 1, a0 => spec_l01Top.b some k a0
def spec_l01Top.enc (r : Int) : Res := ⟨[.vals false [((.int .i64 r), true)]], []⟩
def spec_l01Top.ans (k : Nat) : List Arg → Ans
  | [.v (.int .i64 a0)] => ⟨spec_l01Top.f k a0, spec_l01Top.enc⟩
  | _ => Ans.no
def spec_l01Top.Cs (k : Nat) : CallSem := tab []
theorem spec_l01Top.eq (k : Nat) (a0 : Int) : answer Try.prog spec_l01Top.Cs 100000 [] [] Try.f195 (k + 1) [.v (.int .i64 a0)] = (spec_l01Top.f (k + 1) a0).map spec_l01Top.enc := by
  refine Eq.trans (b := spec_l01Top.b (fun r => some (spec_l01Top.enc r)) k a0) (by kernel_rfl) ?_
  show _ = (spec_l01Top.b some k a0).map spec_l01Top.enc
  unfold spec_l01Top.b
  repeat' first | with_reducible refine nat_cond ?_ ?_ | with_reducible refine nat_bind fun _ => ?_ | rfl
theorem spec_l01Top.sound (k : Nat) : SoundF Try.prog 195 (fun a => (spec_l01Top.ans k a).val) := by
  refine sound_plain (fun args res h => ?_) (fun t n => rfl)
  unfold spec_l01Top.ans at h
  dsimp only at h
  split at h
  · cases k with
    | zero => cases h
    | succ k =>
      unfold Ans.val at h
      rw [← spec_l01Top.eq] at h
      exact answer_sound mixed Try.func195 _ _ _ (k + 1) (fun j _ => tab_sound (tab_nil)) _ _ h
  · exact (Ans.no_val h).elim

def spec_PutFix.b {R : Type} (ret : Bool × (List Int) × Bool → Option R) (j0 : Int → Int → Bool → (List Int) → Int → Option R) (k : Nat) (a0z : Bool) (a0 : List Int) (a1 a2 : Int) : Option R :=
  (spec_l01In.f k a2 1 7).bind fun t0 => cond (!t0) (ret (true, ([] : List Int), false)) (cond (decide (a1 < 0)) (ret (true, ([] : List Int), false)) ((spec_l01Top.f k a2).bind fun t1 => cond (decide (a1 ≥ t1)) (ret (true, ([] : List Int), false)) ((spec_l01Copy.f k a0z a0).bind fun t2 => j0 a1 a2 t2.1 t2.2 0)))
def spec_PutFix.l0b {R : Type} (ret : Bool × (List Int) × Bool → Option R) (j0 : Int → Int → Bool → (List Int) → Int → Option R) (k : Nat) (x1 x2 : Int) (x8z : Bool) (x8 : List Int) (x9 : Int) : Option R :=
  cond (decide (x9 < x2)) (cond (decide ((x8).length + 1 < 140737488355328)) (j0 (RowKit.wrap64 (Int.tdiv x1 256)) x2 false (x8 ++ ([(((Int.tmod x1 256)) % 256)] : List Int)) (RowKit.wrap64 (x9 + 1))) (none)) (ret (x8z, x8, true))
def spec_PutFix.l0 : Nat → Int → Int → Bool → (List Int) → Int → Option (Bool × (List Int) × Bool)
  | 0, _, _, _, _, _ => none
  | k + 1, x1, x2, x8z, x8, x9 => spec_PutFix.l0b some (spec_PutFix.l0 k) k x1 x2 x8z x8 x9
def spec_PutFix.f : Nat → Bool → (List Int) → Int → Int → Option (Bool × (List Int) × Bool)
  | 0, _, _, _, _ => none
  | k + 1, a0z, a0, a1, a2 => spec_PutFix.b some (spec_PutFix.l0 k) k a0z a0 a1 a2
def spec_PutFix.enc (r : Bool × (List Int) × Bool) : Res := ⟨[.vals false [((.nums 5 .u8 r.1 r.2.1), true)], .vals false [((.bool r.2.2), true)]], []⟩
def spec_PutFix.ans (k : Nat) : List Arg → Ans
  | [.v (.nums 5 .u8 a0z a0), .v (.int .i64 a1), .v (.int .i64 a2)] => ⟨spec_PutFix.f k a0z a0 a1 a2, spec_PutFix.enc⟩
  | _ => Ans.no
def spec_PutFix.Cs (k : Nat) : CallSem := tab [(155, spec_l01Copy.ans k), (170, spec_l01In.ans k), (195, spec_l01Top.ans k)]
def spec_PutFix.cuts : List (Nat × Keep) := [(122, ⟨[(1, some []), (2, some []), (8, none), (9, some [])], []⟩)]
noncomputable def spec_PutFix.K0 : List Fr := framesAt [true, true, true, false, true, false] (bodyOf Try.f159 spec_PutFix.cuts) []
def spec_PutFix.N0 (x1 x2 : Int) (x8z : Bool) (x8 : List Int) (x9 : Int) : St := stOf 39 39 3 [(1, .val (V.s (.int .i64 x1))), (2, .val (V.s (.int .i64 x2))), (8, .val ⟨(.nums 5 .u8 x8z x8), [.l 8 0], true, some (.l 8 0)⟩), (9, .val (V.s (.int .i64 x9)))] []
theorem spec_PutFix.s0 (k : Nat) (G : List Fr → St → Option Res) (a0z : Bool) (a0 : List Int) (a1 a2 : Int) (yx1 yx2 : Int) (yx8z : Bool) (yx8 : List Int) (yx9 : Int) : resume Try.prog (spec_PutFix.Cs k) G (finish Try.prog [] Try.f159 [.v (.nums 5 .u8 a0z a0), .v (.int .i64 a1), .v (.int .i64 a2)]) 100000 spec_PutFix.K0 (spec_PutFix.N0 yx1 yx2 yx8z yx8 yx9) = spec_PutFix.l0b (fun r => some (spec_PutFix.enc r)) (fun x1 x2 x8z x8 x9 => G spec_PutFix.K0 (spec_PutFix.N0 x1 x2 x8z x8 x9)) k yx1 yx2 yx8z yx8 yx9 := by kernel_rfl
theorem spec_PutFix.bn {R R' : Type} (e : R → R') (ret : Bool × (List Int) × Bool → Option R) (j0 : Int → Int → Bool → (List Int) → Int → Option R) (k : Nat) (a0z : Bool) (a0 : List Int) (a1 a2 : Int) : spec_PutFix.b (fun r => (ret r).map e) (fun x1 x2 x8z x8 x9 => (j0 x1 x2 x8z x8 x9).map e) k a0z a0 a1 a2 = (spec_PutFix.b ret j0 k a0z a0 a1 a2).map e := by
  unfold spec_PutFix.b
  repeat' first | with_reducible refine nat_cond ?_ ?_ | with_reducible refine nat_bind fun _ => ?_ | rfl
theorem spec_PutFix.l0n {R R' : Type} (e : R → R') (ret : Bool × (List Int) × Bool → Option R) (j0 : Int → Int → Bool → (List Int) → Int → Option R) (k : Nat) (x1 x2 : Int) (x8z : Bool) (x8 : List Int) (x9 : Int) : spec_PutFix.l0b (fun r => (ret r).map e) (fun x1 x2 x8z x8 x9 => (j0 x1 x2 x8z x8 x9).map e) k x1 x2 x8z x8 x9 = (spec_PutFix.l0b ret j0 k x1 x2 x8z x8 x9).map e := by
  unfold spec_PutFix.l0b
  repeat' first | with_reducible refine nat_cond ?_ ?_ | with_reducible refine nat_bind fun _ => ?_ | rfl
theorem spec_PutFix.rq (a0z : Bool) (a0 : List Int) (a1 a2 : Int) : ∀ k, (∀ (x1 x2 : Int) (x8z : Bool) (x8 : List Int) (x9 : Int), rounds Try.prog spec_PutFix.Cs (finish Try.prog [] Try.f159 [.v (.nums 5 .u8 a0z a0), .v (.int .i64 a1), .v (.int .i64 a2)]) 100000 k spec_PutFix.K0 (spec_PutFix.N0 x1 x2 x8z x8 x9) = (spec_PutFix.l0 k x1 x2 x8z x8 x9).map spec_PutFix.enc)
  | 0 => fun _ _ _ _ _ => rfl
  | k + 1 => by
    have ih := spec_PutFix.rq a0z a0 a1 a2 k
    refine fun _ _ _ _ _ => ?_
    · refine (spec_PutFix.s0 k _ a0z a0 a1 a2 _ _ _ _ _).trans (Eq.trans ?_ (spec_PutFix.l0n spec_PutFix.enc some (spec_PutFix.l0 k) k _ _ _ _ _))
      simp only [ih, Option.map_some]
theorem spec_PutFix.eq (k : Nat) (a0z : Bool) (a0 : List Int) (a1 a2 : Int) : answer Try.prog spec_PutFix.Cs 100000 spec_PutFix.cuts [] Try.f159 (k + 1) [.v (.nums 5 .u8 a0z a0), .v (.int .i64 a1), .v (.int .i64 a2)] = (spec_PutFix.f (k + 1) a0z a0 a1 a2).map spec_PutFix.enc := by
  have ih := spec_PutFix.rq a0z a0 a1 a2 k
  refine Eq.trans (b := spec_PutFix.b (fun r => some (spec_PutFix.enc r)) (fun x1 x2 x8z x8 x9 => rounds Try.prog spec_PutFix.Cs (finish Try.prog [] Try.f159 [.v (.nums 5 .u8 a0z a0), .v (.int .i64 a1), .v (.int .i64 a2)]) 100000 k spec_PutFix.K0 (spec_PutFix.N0 x1 x2 x8z x8 x9)) k a0z a0 a1 a2) (by kernel_rfl) (Eq.trans ?_ (spec_PutFix.bn spec_PutFix.enc some (spec_PutFix.l0 k) k a0z a0 a1 a2))
  simp only [ih, Option.map_some]
theorem spec_PutFix.sound (k : Nat) : SoundF Try.prog 159 (fun a => (spec_PutFix.ans k a).val) := by
  refine sound_plain (fun args res h => ?_) (fun t n => rfl)
  unfold spec_PutFix.ans at h
  dsimp only at h
  split at h
  · cases k with
    | zero => cases h
    | succ k =>
      unfold Ans.val at h
      rw [← spec_PutFix.eq] at h
      exact answer_sound mixed Try.func159 _ _ _ (k + 1) (fun j _ => tab_sound (tab_cons (spec_l01Copy.sound j) (tab_cons (spec_l01In.sound j) (tab_cons (spec_l01Top.sound j) (tab_nil))))) _ _ h
  · exact (Ans.no_val h).elim

def spec_l30Full.b {R : Type} (ret : Bool × List Int → Option R) (k : Nat) (a0 : Int) : Option R :=
  cond (decide ((0 : Int) ≤ a0)) ((spec_BitsSize.f k a0).bind fun t0 => (spec_PutFix.f k true ([] : List Int) (RowKit.wrap64 ((shlI .i64 1 a0) - 1)) t0).bind fun t1 => ret (t1.1, t1.2.1)) (none)
def spec_l30Full.f : Nat → Int → Option (Bool × List Int)
  | 0, _ => none
  | k + 1, a0 => spec_l30Full.b some k a0
def spec_l30Full.enc (r : Bool × List Int) : Res := ⟨[.vals false [((.nums 5 .u8 r.1 r.2), true)]], []⟩
def spec_l30Full.ans (k : Nat) : List Arg → Ans
  | [.v (.int .i64 a0)] => ⟨spec_l30Full.f k a0, spec_l30Full.enc⟩
  | _ => Ans.no
def spec_l30Full.Cs (k : Nat) : CallSem := tab [(160, spec_BitsSize.ans k), (159, spec_PutFix.ans k)]
theorem spec_l30Full.eq (k : Nat) (a0 : Int) : answer Try.prog spec_l30Full.Cs 100000 [] [] Try.f100 (k + 1) [.v (.int .i64 a0)] = (spec_l30Full.f (k + 1) a0).map spec_l30Full.enc := by
  refine Eq.trans (b := spec_l30Full.b (fun r => some (spec_l30Full.enc r)) k a0) (by kernel_rfl) ?_
  show _ = (spec_l30Full.b some k a0).map spec_l30Full.enc
  unfold spec_l30Full.b
  repeat' first | with_reducible refine nat_cond ?_ ?_ | with_reducible refine nat_bind fun _ => ?_ | rfl
theorem spec_l30Full.sound (k : Nat) : SoundF Try.prog 100 (fun a => (spec_l30Full.ans k a).val) := by
  refine sound_plain (fun args res h => ?_) (fun t n => rfl)
  unfold spec_l30Full.ans at h
  dsimp only at h
  split at h
  · cases k with
    | zero => cases h
    | succ k =>
      unfold Ans.val at h
      rw [← spec_l30Full.eq] at h
      exact answer_sound mixed Try.func100 _ _ _ (k + 1) (fun j _ => tab_sound (tab_cons (spec_BitsSize.sound j) (tab_cons (spec_PutFix.sound j) (tab_nil)))) _ _ h
  · exact (Ans.no_val h).elim

def spec_PutVar.b {R : Type} (ret : Bool × (List Int) × Bool → Option R) (j0 : Int → Bool → (List Int) → Option R) (k : Nat) (a0z : Bool) (a0 : List Int) (a1 : Int) : Option R :=
  (spec_l01Num.f k a1).bind fun t0 => cond (!t0) (ret (true, ([] : List Int), false)) ((spec_l01Copy.f k a0z a0).bind fun t1 => j0 a1 t1.1 t1.2)
def spec_PutVar.l0b {R : Type} (ret : Bool × (List Int) × Bool → Option R) (j0 : Int → Bool → (List Int) → Option R) (k : Nat) (x1 : Int) (x6z : Bool) (x6 : List Int) : Option R :=
  cond (decide (x1 > 127)) (cond (decide ((x6).length + 1 < 140737488355328)) (j0 (RowKit.wrap64 (Int.tdiv x1 128)) false (x6 ++ ([(((RowKit.wrap64 ((128 : Int) + (Int.tmod x1 128)))) % 256)] : List Int))) (none)) (cond (decide ((x6).length + 1 < 140737488355328)) (ret (false, (x6 ++ ([((x1) % 256)] : List Int)), true)) (none))
def spec_PutVar.l0 : Nat → Int → Bool → (List Int) → Option (Bool × (List Int) × Bool)
  | 0, _, _, _ => none
  | k + 1, x1, x6z, x6 => spec_PutVar.l0b some (spec_PutVar.l0 k) k x1 x6z x6
def spec_PutVar.f : Nat → Bool → (List Int) → Int → Option (Bool × (List Int) × Bool)
  | 0, _, _, _ => none
  | k + 1, a0z, a0, a1 => spec_PutVar.b some (spec_PutVar.l0 k) k a0z a0 a1
def spec_PutVar.enc (r : Bool × (List Int) × Bool) : Res := ⟨[.vals false [((.nums 5 .u8 r.1 r.2.1), true)], .vals false [((.bool r.2.2), true)]], []⟩
def spec_PutVar.ans (k : Nat) : List Arg → Ans
  | [.v (.nums 5 .u8 a0z a0), .v (.int .i64 a1)] => ⟨spec_PutVar.f k a0z a0 a1, spec_PutVar.enc⟩
  | _ => Ans.no
def spec_PutVar.Cs (k : Nat) : CallSem := tab [(155, spec_l01Copy.ans k), (190, spec_l01Num.ans k)]
def spec_PutVar.cuts : List (Nat × Keep) := [(60, ⟨[(1, some []), (6, none)], []⟩)]
noncomputable def spec_PutVar.K0 : List Fr := framesAt [true, true, true, false, false] (bodyOf Try.f234 spec_PutVar.cuts) []
def spec_PutVar.N0 (x1 : Int) (x6z : Bool) (x6 : List Int) : St := stOf 28 28 2 [(1, .val (V.s (.int .i64 x1))), (6, .val ⟨(.nums 5 .u8 x6z x6), [.l 6 0], true, some (.l 6 0)⟩)] []
theorem spec_PutVar.s0 (k : Nat) (G : List Fr → St → Option Res) (a0z : Bool) (a0 : List Int) (a1 yx1 : Int) (yx6z : Bool) (yx6 : List Int) : resume Try.prog (spec_PutVar.Cs k) G (finish Try.prog [] Try.f234 [.v (.nums 5 .u8 a0z a0), .v (.int .i64 a1)]) 100000 spec_PutVar.K0 (spec_PutVar.N0 yx1 yx6z yx6) = spec_PutVar.l0b (fun r => some (spec_PutVar.enc r)) (fun x1 x6z x6 => G spec_PutVar.K0 (spec_PutVar.N0 x1 x6z x6)) k yx1 yx6z yx6 := by kernel_rfl
theorem spec_PutVar.bn {R R' : Type} (e : R → R') (ret : Bool × (List Int) × Bool → Option R) (j0 : Int → Bool → (List Int) → Option R) (k : Nat) (a0z : Bool) (a0 : List Int) (a1 : Int) : spec_PutVar.b (fun r => (ret r).map e) (fun x1 x6z x6 => (j0 x1 x6z x6).map e) k a0z a0 a1 = (spec_PutVar.b ret j0 k a0z a0 a1).map e := by
  unfold spec_PutVar.b
  repeat' first | with_reducible refine nat_cond ?_ ?_ | with_reducible refine nat_bind fun _ => ?_ | rfl
theorem spec_PutVar.l0n {R R' : Type} (e : R → R') (ret : Bool × (List Int) × Bool → Option R) (j0 : Int → Bool → (List Int) → Option R) (k : Nat) (x1 : Int) (x6z : Bool) (x6 : List Int) : spec_PutVar.l0b (fun r => (ret r).map e) (fun x1 x6z x6 => (j0 x1 x6z x6).map e) k x1 x6z x6 = (spec_PutVar.l0b ret j0 k x1 x6z x6).map e := by
  unfold spec_PutVar.l0b
  repeat' first | with_reducible refine nat_cond ?_ ?_ | with_reducible refine nat_bind fun _ => ?_ | rfl
theorem spec_PutVar.rq (a0z : Bool) (a0 : List Int) (a1 : Int) : ∀ k, (∀ (x1 : Int) (x6z : Bool) (x6 : List Int), rounds Try.prog spec_PutVar.Cs (finish Try.prog [] Try.f234 [.v (.nums 5 .u8 a0z a0), .v (.int .i64 a1)]) 100000 k spec_PutVar.K0 (spec_PutVar.N0 x1 x6z x6) = (spec_PutVar.l0 k x1 x6z x6).map spec_PutVar.enc)
  | 0 => fun _ _ _ => rfl
  | k + 1 => by
    have ih := spec_PutVar.rq a0z a0 a1 k
    refine fun _ _ _ => ?_
    · refine (spec_PutVar.s0 k _ a0z a0 a1 _ _ _).trans (Eq.trans ?_ (spec_PutVar.l0n spec_PutVar.enc some (spec_PutVar.l0 k) k _ _ _))
      simp only [ih, Option.map_some]
theorem spec_PutVar.eq (k : Nat) (a0z : Bool) (a0 : List Int) (a1 : Int) : answer Try.prog spec_PutVar.Cs 100000 spec_PutVar.cuts [] Try.f234 (k + 1) [.v (.nums 5 .u8 a0z a0), .v (.int .i64 a1)] = (spec_PutVar.f (k + 1) a0z a0 a1).map spec_PutVar.enc := by
  have ih := spec_PutVar.rq a0z a0 a1 k
  refine Eq.trans (b := spec_PutVar.b (fun r => some (spec_PutVar.enc r)) (fun x1 x6z x6 => rounds Try.prog spec_PutVar.Cs (finish Try.prog [] Try.f234 [.v (.nums 5 .u8 a0z a0), .v (.int .i64 a1)]) 100000 k spec_PutVar.K0 (spec_PutVar.N0 x1 x6z x6)) k a0z a0 a1) (by kernel_rfl) (Eq.trans ?_ (spec_PutVar.bn spec_PutVar.enc some (spec_PutVar.l0 k) k a0z a0 a1))
  simp only [ih, Option.map_some]
theorem spec_PutVar.sound (k : Nat) : SoundF Try.prog 234 (fun a => (spec_PutVar.ans k a).val) := by
  refine sound_plain (fun args res h => ?_) (fun t n => rfl)
  unfold spec_PutVar.ans at h
  dsimp only at h
  split at h
  · cases k with
    | zero => cases h
    | succ k =>
      unfold Ans.val at h
      rw [← spec_PutVar.eq] at h
      exact answer_sound mixed Try.func234 _ _ _ (k + 1) (fun j _ => tab_sound (tab_cons (spec_l01Copy.sound j) (tab_cons (spec_l01Num.sound j) (tab_nil)))) _ _ h
  · exact (Ans.no_val h).elim

def spec_l11Num.b {R : Type} (ret : Bool × List Int → Option R) (k : Nat) (a0z : Bool) (a0 : List Int) (a1 : Int) : Option R :=
  (spec_PutVar.f k a0z a0 a1).bind fun t0 => ret (t0.1, t0.2.1)
def spec_l11Num.f : Nat → Bool → (List Int) → Int → Option (Bool × List Int)
  | 0, _, _, _ => none
  | k + 1, a0z, a0, a1 => spec_l11Num.b some k a0z a0 a1
def spec_l11Num.enc (r : Bool × List Int) : Res := ⟨[.vals false [((.nums 5 .u8 r.1 r.2), true)]], []⟩
def spec_l11Num.ans (k : Nat) : List Arg → Ans
  | [.v (.nums 5 .u8 a0z a0), .v (.int .i64 a1)] => ⟨spec_l11Num.f k a0z a0 a1, spec_l11Num.enc⟩
  | _ => Ans.no
def spec_l11Num.Cs (k : Nat) : CallSem := tab [(234, spec_PutVar.ans k)]
theorem spec_l11Num.eq (k : Nat) (a0z : Bool) (a0 : List Int) (a1 : Int) : answer Try.prog spec_l11Num.Cs 100000 [] [] Try.f217 (k + 1) [.v (.nums 5 .u8 a0z a0), .v (.int .i64 a1)] = (spec_l11Num.f (k + 1) a0z a0 a1).map spec_l11Num.enc := by
  refine Eq.trans (b := spec_l11Num.b (fun r => some (spec_l11Num.enc r)) k a0z a0 a1) (by kernel_rfl) ?_
  show _ = (spec_l11Num.b some k a0z a0 a1).map spec_l11Num.enc
  unfold spec_l11Num.b
  repeat' first | with_reducible refine nat_cond ?_ ?_ | with_reducible refine nat_bind fun _ => ?_ | rfl
theorem spec_l11Num.sound (k : Nat) : SoundF Try.prog 217 (fun a => (spec_l11Num.ans k a).val) := by
  refine sound_plain (fun args res h => ?_) (fun t n => rfl)
  unfold spec_l11Num.ans at h
  dsimp only at h
  split at h
  · cases k with
    | zero => cases h
    | succ k =>
      unfold Ans.val at h
      rw [← spec_l11Num.eq] at h
      exact answer_sound mixed Try.func217 _ _ _ (k + 1) (fun j _ => tab_sound (tab_cons (spec_PutVar.sound j) (tab_nil))) _ _ h
  · exact (Ans.no_val h).elim

end Go.Proofs.YtbpcnodmgphinaaG
