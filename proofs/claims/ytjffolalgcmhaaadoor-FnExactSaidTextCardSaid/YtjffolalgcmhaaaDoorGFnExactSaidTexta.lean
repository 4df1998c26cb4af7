/- What the functions compute, printed by a program of this repo; each is shown to be what the machine of values answers. No condition. -/
import Derived.Test.YtjffolalgcmhaaaDoorProg
import Derived.KernelRfl
import Derived.Test.YtjffolalgcmhaaaDoorLay
namespace Go.Proofs.YtjffolalgcmhaaaDoorG
open Go Go.Proofs.YtjffolalgcmhaaaDoorRv Go.Proofs
set_option linter.unusedVariables false
set_option linter.unusedSimpArgs false
theorem mixed : Tryd.prog.follows .mixedOrders = true := by kernel_rfl
/-! loop.example/g00790/laws.toSaid -/
def laws_toSaid.b {R : Type} (ret : Int × Int → Option R) (k : Nat) (a0_0 : Int) (a0_1 : Int) : Option R :=
  ret (a0_0, a0_1)
def laws_toSaid.f : Nat → Int → Int → Option (Int × Int)
  | 0, _, _ => none
  | k + 1, a0_0, a0_1 => laws_toSaid.b some k a0_0 a0_1
def laws_toSaid.enc (r : Int × Int) : Res := ⟨[.vals true [((.int .i64 r.1), true), ((.int .i64 r.2), true)]], []⟩
def laws_toSaid.ans (k : Nat) : List Arg → Ans
  | [.v (.agg [(.int .i64 a0_0), (.int .i64 a0_1)])] => ⟨laws_toSaid.f k a0_0 a0_1, laws_toSaid.enc⟩
  | _ => Ans.no
def laws_toSaid.Cs (k : Nat) : CallSem := tab []
def laws_toSaid.cuts : List (Nat × Keep) := []
theorem laws_toSaid.s (k : Nat) (a0_0 : Int) (a0_1 : Int) : answer Tryd.prog laws_toSaid.Cs 100000 laws_toSaid.cuts [] Tryd.f14 (k + 1) [.v (.agg [(.int .i64 a0_0), (.int .i64 a0_1)])] = laws_toSaid.b (fun r => some (laws_toSaid.enc r)) k a0_0 a0_1 := by kernel_rfl
theorem laws_toSaid.b_nat {R R' : Type} (e : R → R') (ret : Int × Int → Option R) (k : Nat) (a0_0 : Int) (a0_1 : Int) : laws_toSaid.b (fun r => (ret r).map e) k a0_0 a0_1 = (laws_toSaid.b ret k a0_0 a0_1).map e := by
  unfold laws_toSaid.b
  repeat' first | with_reducible refine nat_cond ?_ ?_ | with_reducible refine nat_bind fun _ => ?_ | rfl
theorem laws_toSaid.eq (k : Nat) (a0_0 : Int) (a0_1 : Int) : answer Tryd.prog laws_toSaid.Cs 100000 laws_toSaid.cuts [] Tryd.f14 (k + 1) [.v (.agg [(.int .i64 a0_0), (.int .i64 a0_1)])] = (laws_toSaid.f (k + 1) a0_0 a0_1).map laws_toSaid.enc := by
  refine (laws_toSaid.s k a0_0 a0_1).trans (Eq.trans ?_ (laws_toSaid.b_nat laws_toSaid.enc some k a0_0 a0_1))
  simp only [Option.map_some]
theorem laws_toSaid.sound (k : Nat) : SoundF Tryd.prog 14 (fun a => (laws_toSaid.ans k a).val) := by
  refine sound_plain (fun args res h => ?_) (fun t n => rfl)
  unfold laws_toSaid.ans at h
  dsimp only at h
  split at h
  · cases k with
    | zero => cases h
    | succ k =>
      unfold Ans.val at h
      rw [← laws_toSaid.eq] at h
      exact answer_sound mixed Tryd.func14 _ _ _ (k + 1) (fun j _ => tab_sound (tab_nil)) _ _ h
  · exact (Ans.no_val h).elim

/-! loop.example/g00790/spec.l01In -/
def spec_l01In.b {R : Type} (ret : Bool → Option R) (k : Nat) (a0 : Int) (a1 : Int) (a2 : Int) : Option R :=
  cond (decide (a0 ≥ a1)) (ret (decide (a0 ≤ a2))) (ret false)
def spec_l01In.f : Nat → Int → Int → Int → Option Bool
  | 0, _, _, _ => none
  | k + 1, a0, a1, a2 => spec_l01In.b some k a0 a1 a2
def spec_l01In.enc (r : Bool) : Res := ⟨[.vals false [((.bool r), true)]], []⟩
def spec_l01In.ans (k : Nat) : List Arg → Ans
  | [.v (.int .i64 a0), .v (.int .i64 a1), .v (.int .i64 a2)] => ⟨spec_l01In.f k a0 a1 a2, spec_l01In.enc⟩
  | _ => Ans.no
def spec_l01In.Cs (k : Nat) : CallSem := tab []
def spec_l01In.cuts : List (Nat × Keep) := []
theorem spec_l01In.s (k : Nat) (a0 : Int) (a1 : Int) (a2 : Int) : answer Tryd.prog spec_l01In.Cs 100000 spec_l01In.cuts [] Tryd.f107 (k + 1) [.v (.int .i64 a0), .v (.int .i64 a1), .v (.int .i64 a2)] = spec_l01In.b (fun r => some (spec_l01In.enc r)) k a0 a1 a2 := by kernel_rfl
theorem spec_l01In.b_nat {R R' : Type} (e : R → R') (ret : Bool → Option R) (k : Nat) (a0 : Int) (a1 : Int) (a2 : Int) : spec_l01In.b (fun r => (ret r).map e) k a0 a1 a2 = (spec_l01In.b ret k a0 a1 a2).map e := by
  unfold spec_l01In.b
  repeat' first | with_reducible refine nat_cond ?_ ?_ | with_reducible refine nat_bind fun _ => ?_ | rfl
theorem spec_l01In.eq (k : Nat) (a0 : Int) (a1 : Int) (a2 : Int) : answer Tryd.prog spec_l01In.Cs 100000 spec_l01In.cuts [] Tryd.f107 (k + 1) [.v (.int .i64 a0), .v (.int .i64 a1), .v (.int .i64 a2)] = (spec_l01In.f (k + 1) a0 a1 a2).map spec_l01In.enc := by
  refine (spec_l01In.s k a0 a1 a2).trans (Eq.trans ?_ (spec_l01In.b_nat spec_l01In.enc some k a0 a1 a2))
  simp only [Option.map_some]
theorem spec_l01In.sound (k : Nat) : SoundF Tryd.prog 107 (fun a => (spec_l01In.ans k a).val) := by
  refine sound_plain (fun args res h => ?_) (fun t n => rfl)
  unfold spec_l01In.ans at h
  dsimp only at h
  split at h
  · cases k with
    | zero => cases h
    | succ k =>
      unfold Ans.val at h
      rw [← spec_l01In.eq] at h
      exact answer_sound mixed Tryd.func107 _ _ _ (k + 1) (fun j _ => tab_sound (tab_nil)) _ _ h
  · exact (Ans.no_val h).elim

/-! loop.example/g00790/spec.l01Num -/
def spec_l01Num.b {R : Type} (ret : Bool → Option R) (k : Nat) (a0 : Int) : Option R :=
  (spec_l01In.f k a0 0 1152921504606846975).bind fun t0 => ret t0
def spec_l01Num.f : Nat → Int → Option Bool
  | 0, _ => none
  | k + 1, a0 => spec_l01Num.b some k a0
def spec_l01Num.enc (r : Bool) : Res := ⟨[.vals false [((.bool r), true)]], []⟩
def spec_l01Num.ans (k : Nat) : List Arg → Ans
  | [.v (.int .i64 a0)] => ⟨spec_l01Num.f k a0, spec_l01Num.enc⟩
  | _ => Ans.no
def spec_l01Num.Cs (k : Nat) : CallSem := tab [(107, spec_l01In.ans k)]
def spec_l01Num.cuts : List (Nat × Keep) := []
theorem spec_l01Num.s (k : Nat) (a0 : Int) : answer Tryd.prog spec_l01Num.Cs 100000 spec_l01Num.cuts [] Tryd.f106 (k + 1) [.v (.int .i64 a0)] = spec_l01Num.b (fun r => some (spec_l01Num.enc r)) k a0 := by kernel_rfl
theorem spec_l01Num.b_nat {R R' : Type} (e : R → R') (ret : Bool → Option R) (k : Nat) (a0 : Int) : spec_l01Num.b (fun r => (ret r).map e) k a0 = (spec_l01Num.b ret k a0).map e := by
  unfold spec_l01Num.b
  repeat' first | with_reducible refine nat_cond ?_ ?_ | with_reducible refine nat_bind fun _ => ?_ | rfl
theorem spec_l01Num.eq (k : Nat) (a0 : Int) : answer Tryd.prog spec_l01Num.Cs 100000 spec_l01Num.cuts [] Tryd.f106 (k + 1) [.v (.int .i64 a0)] = (spec_l01Num.f (k + 1) a0).map spec_l01Num.enc := by
  refine (spec_l01Num.s k a0).trans (Eq.trans ?_ (spec_l01Num.b_nat spec_l01Num.enc some k a0))
  simp only [Option.map_some]
theorem spec_l01Num.sound (k : Nat) : SoundF Tryd.prog 106 (fun a => (spec_l01Num.ans k a).val) := by
  refine sound_plain (fun args res h => ?_) (fun t n => rfl)
  unfold spec_l01Num.ans at h
  dsimp only at h
  split at h
  · cases k with
    | zero => cases h
    | succ k =>
      unfold Ans.val at h
      rw [← spec_l01Num.eq] at h
      exact answer_sound mixed Tryd.func106 _ _ _ (k + 1) (fun j _ => tab_sound (tab_cons (spec_l01In.sound j) (tab_nil))) _ _ h
  · exact (Ans.no_val h).elim

/-! loop.example/g00790/spec.NumText -/
def spec_NumText.b {R : Type} (ret : ByteArray → Option R) (j0 : Int → ByteArray → Option R) (k : Nat) (a0 : Int) : Option R :=
  (spec_l01Num.f k a0).bind fun t0 => cond (!t0) (ret (⟨#[]⟩ : ByteArray)) (j0 a0 (⟨#[]⟩ : ByteArray))
def spec_NumText.l0b {R : Type} (ret : ByteArray → Option R) (j0 : Int → ByteArray → Option R) (k : Nat) (x0 : Int) (x3 : ByteArray) : Option R :=
  cond (decide (x0 > 9)) (cond (decide (((strOf ([(((RowKit.wrap64 ((48 : Int) + (Int.tmod x0 10)))) % 256)] : List Int))).size + (x3).size ≤ 140737488355328)) (j0 (RowKit.wrap64 (Int.tdiv x0 10)) ((strOf ([(((RowKit.wrap64 ((48 : Int) + (Int.tmod x0 10)))) % 256)] : List Int)) ++ x3)) (none)) (cond (decide (((strOf ([(((RowKit.wrap64 ((48 : Int) + x0))) % 256)] : List Int))).size + (x3).size ≤ 140737488355328)) (ret ((strOf ([(((RowKit.wrap64 ((48 : Int) + x0))) % 256)] : List Int)) ++ x3)) (none))
def spec_NumText.l0 : Nat → Int → ByteArray → Option ByteArray
  | 0, _, _ => none
  | k + 1, x0, x3 => spec_NumText.l0b some (spec_NumText.l0 k) k x0 x3
def spec_NumText.f : Nat → Int → Option ByteArray
  | 0, _ => none
  | k + 1, a0 => spec_NumText.b some (spec_NumText.l0 k) k a0
def spec_NumText.enc (r : ByteArray) : Res := ⟨[.vals false [((.str r), true)]], []⟩
def spec_NumText.ans (k : Nat) : List Arg → Ans
  | [.v (.int .i64 a0)] => ⟨spec_NumText.f k a0, spec_NumText.enc⟩
  | _ => Ans.no
def spec_NumText.Cs (k : Nat) : CallSem := tab [(106, spec_l01Num.ans k)]
def spec_NumText.cuts : List (Nat × Keep) := [(60, ⟨[(0, some []), (3, some [])], []⟩)]
noncomputable def spec_NumText.K0 : List Fr := framesAt [true, true, true, false, false] (bodyOf Tryd.f63 spec_NumText.cuts) []
def spec_NumText.N0 (x0 : Int) (x3 : ByteArray) : St := stOf 26 26 1 [(0, .val (V.s (.int .i64 x0))), (3, .val (V.s (.str x3)))] []
theorem spec_NumText.s (k : Nat) (a0 : Int) : answer Tryd.prog spec_NumText.Cs 100000 spec_NumText.cuts [] Tryd.f63 (k + 1) [.v (.int .i64 a0)] = spec_NumText.b (fun r => some (spec_NumText.enc r)) (fun x0 x3 => rounds Tryd.prog spec_NumText.Cs (finish Tryd.prog [] Tryd.f63 [.v (.int .i64 a0)]) 100000 k spec_NumText.K0 (spec_NumText.N0 x0 x3)) k a0 := by kernel_rfl
theorem spec_NumText.s0 (k : Nat) (G : List Fr → St → Option Res) (a0 : Int) (yx0 : Int) (yx3 : ByteArray) : resume Tryd.prog (spec_NumText.Cs k) G (finish Tryd.prog [] Tryd.f63 [.v (.int .i64 a0)]) 100000 spec_NumText.K0 (spec_NumText.N0 yx0 yx3) = spec_NumText.l0b (fun r => some (spec_NumText.enc r)) (fun x0 x3 => G spec_NumText.K0 (spec_NumText.N0 x0 x3)) k yx0 yx3 := by kernel_rfl
theorem spec_NumText.b_nat {R R' : Type} (e : R → R') (ret : ByteArray → Option R) (j0 : Int → ByteArray → Option R) (k : Nat) (a0 : Int) : spec_NumText.b (fun r => (ret r).map e) (fun x0 x3 => (j0 x0 x3).map e) k a0 = (spec_NumText.b ret j0 k a0).map e := by
  unfold spec_NumText.b
  repeat' first | with_reducible refine nat_cond ?_ ?_ | with_reducible refine nat_bind fun _ => ?_ | rfl
theorem spec_NumText.l0b_nat {R R' : Type} (e : R → R') (ret : ByteArray → Option R) (j0 : Int → ByteArray → Option R) (k : Nat) (x0 : Int) (x3 : ByteArray) : spec_NumText.l0b (fun r => (ret r).map e) (fun x0 x3 => (j0 x0 x3).map e) k x0 x3 = (spec_NumText.l0b ret j0 k x0 x3).map e := by
  unfold spec_NumText.l0b
  repeat' first | with_reducible refine nat_cond ?_ ?_ | with_reducible refine nat_bind fun _ => ?_ | rfl
theorem spec_NumText.rounds_eq (a0 : Int) : ∀ k, (∀ (x0 : Int) (x3 : ByteArray), rounds Tryd.prog spec_NumText.Cs (finish Tryd.prog [] Tryd.f63 [.v (.int .i64 a0)]) 100000 k spec_NumText.K0 (spec_NumText.N0 x0 x3) = (spec_NumText.l0 k x0 x3).map spec_NumText.enc)
  | 0 => fun _ _ => rfl
  | k + 1 => by
    have ih := spec_NumText.rounds_eq a0 k
    refine fun _ _ => ?_
    · refine (spec_NumText.s0 k _ a0 _ _).trans (Eq.trans ?_ (spec_NumText.l0b_nat spec_NumText.enc some (spec_NumText.l0 k) k _ _))
      simp only [ih, Option.map_some]
theorem spec_NumText.eq (k : Nat) (a0 : Int) : answer Tryd.prog spec_NumText.Cs 100000 spec_NumText.cuts [] Tryd.f63 (k + 1) [.v (.int .i64 a0)] = (spec_NumText.f (k + 1) a0).map spec_NumText.enc := by
  have ih := spec_NumText.rounds_eq a0 k
  refine (spec_NumText.s k a0).trans (Eq.trans ?_ (spec_NumText.b_nat spec_NumText.enc some (spec_NumText.l0 k) k a0))
  simp only [ih, Option.map_some]
theorem spec_NumText.sound (k : Nat) : SoundF Tryd.prog 63 (fun a => (spec_NumText.ans k a).val) := by
  refine sound_plain (fun args res h => ?_) (fun t n => rfl)
  unfold spec_NumText.ans at h
  dsimp only at h
  split at h
  · cases k with
    | zero => cases h
    | succ k =>
      unfold Ans.val at h
      rw [← spec_NumText.eq] at h
      exact answer_sound mixed Tryd.func63 _ _ _ (k + 1) (fun j _ => tab_sound (tab_cons (spec_l01Num.sound j) (tab_nil))) _ _ h
  · exact (Ans.no_val h).elim

/-! loop.example/g00790/spec.ErName -/
def spec_ErName.b {R : Type} (ret : ByteArray → Option R) (k : Nat) (a0 : Int) : Option R :=
  (spec_l01In.f k a0 0 9).bind fun t0 => cond (!t0) (ret (⟨#[]⟩ : ByteArray)) (cond (decide ((0 : Int) ≤ a0)) (cond (decide (a0 < 10)) (ret (((((([(.str (⟨#[111, 107]⟩ : ByteArray)), (.str (⟨#[115, 104, 111, 114, 116]⟩ : ByteArray)), (.str (⟨#[118, 97, 114]⟩ : ByteArray)), (.str (⟨#[108, 111, 110, 103]⟩ : ByteArray)), (.str (⟨#[112, 97, 100]⟩ : ByteArray)), (.str (⟨#[118, 97, 108, 117, 101]⟩ : ByteArray)), (.str (⟨#[111, 114, 100, 101, 114]⟩ : ByteArray)), (.str (⟨#[114, 111, 111, 116]⟩ : ByteArray)), (.str (⟨#[107, 105, 110, 100]⟩ : ByteArray)), (.str (⟨#[108, 101, 102, 116]⟩ : ByteArray))] : List T)).getD (a0).toNat .bad).cells.getD 0 .bad)).toStr)) (none)) (none))
def spec_ErName.f : Nat → Int → Option ByteArray
  | 0, _ => none
  | k + 1, a0 => spec_ErName.b some k a0
def spec_ErName.enc (r : ByteArray) : Res := ⟨[.vals false [((.str r), true)]], []⟩
def spec_ErName.ans (k : Nat) : List Arg → Ans
  | [.v (.int .i64 a0)] => ⟨spec_ErName.f k a0, spec_ErName.enc⟩
  | _ => Ans.no
def spec_ErName.Cs (k : Nat) : CallSem := tab [(107, spec_l01In.ans k)]
def spec_ErName.cuts : List (Nat × Keep) := []
theorem spec_ErName.s (k : Nat) (a0 : Int) : answer Tryd.prog spec_ErName.Cs 100000 spec_ErName.cuts [] Tryd.f64 (k + 1) [.v (.int .i64 a0)] = spec_ErName.b (fun r => some (spec_ErName.enc r)) k a0 := by kernel_rfl
theorem spec_ErName.b_nat {R R' : Type} (e : R → R') (ret : ByteArray → Option R) (k : Nat) (a0 : Int) : spec_ErName.b (fun r => (ret r).map e) k a0 = (spec_ErName.b ret k a0).map e := by
  unfold spec_ErName.b
  repeat' first | with_reducible refine nat_cond ?_ ?_ | with_reducible refine nat_bind fun _ => ?_ | rfl
theorem spec_ErName.eq (k : Nat) (a0 : Int) : answer Tryd.prog spec_ErName.Cs 100000 spec_ErName.cuts [] Tryd.f64 (k + 1) [.v (.int .i64 a0)] = (spec_ErName.f (k + 1) a0).map spec_ErName.enc := by
  refine (spec_ErName.s k a0).trans (Eq.trans ?_ (spec_ErName.b_nat spec_ErName.enc some k a0))
  simp only [Option.map_some]
theorem spec_ErName.sound (k : Nat) : SoundF Tryd.prog 64 (fun a => (spec_ErName.ans k a).val) := by
  refine sound_plain (fun args res h => ?_) (fun t n => rfl)
  unfold spec_ErName.ans at h
  dsimp only at h
  split at h
  · cases k with
    | zero => cases h
    | succ k =>
      unfold Ans.val at h
      rw [← spec_ErName.eq] at h
      exact answer_sound mixed Tryd.func64 _ _ _ (k + 1) (fun j _ => tab_sound (tab_cons (spec_l01In.sound j) (tab_nil))) _ _ h
  · exact (Ans.no_val h).elim

/-! loop.example/g00790/spec.VdName -/
def spec_VdName.b {R : Type} (ret : ByteArray → Option R) (k : Nat) (a0 : Int) : Option R :=
  (spec_l01In.f k a0 0 9).bind fun t0 => cond (!t0) (ret (⟨#[]⟩ : ByteArray)) (cond (decide ((0 : Int) ≤ a0)) (cond (decide (a0 < 10)) (ret (((((([(.str (⟨#[111, 116, 104, 101, 114]⟩ : ByteArray)), (.str (⟨#[99, 111, 109, 109, 105, 116]⟩ : ByteArray)), (.str (⟨#[107, 110, 111, 119, 110]⟩ : ByteArray)), (.str (⟨#[114, 101, 102, 117, 115, 101, 100]⟩ : ByteArray)), (.str (⟨#[99, 108, 97, 115, 104]⟩ : ByteArray)), (.str (⟨#[111, 108, 100]⟩ : ByteArray)), (.str (⟨#[105, 110]⟩ : ByteArray)), (.str (⟨#[110, 111, 116]⟩ : ByteArray)), (.str (⟨#[117, 110, 107, 110, 111, 119, 110]⟩ : ByteArray)), (.str (⟨#[103, 111, 111, 100]⟩ : ByteArray))] : List T)).getD (a0).toNat .bad).cells.getD 0 .bad)).toStr)) (none)) (none))
def spec_VdName.f : Nat → Int → Option ByteArray
  | 0, _ => none
  | k + 1, a0 => spec_VdName.b some k a0
def spec_VdName.enc (r : ByteArray) : Res := ⟨[.vals false [((.str r), true)]], []⟩
def spec_VdName.ans (k : Nat) : List Arg → Ans
  | [.v (.int .i64 a0)] => ⟨spec_VdName.f k a0, spec_VdName.enc⟩
  | _ => Ans.no
def spec_VdName.Cs (k : Nat) : CallSem := tab [(107, spec_l01In.ans k)]
def spec_VdName.cuts : List (Nat × Keep) := []
theorem spec_VdName.s (k : Nat) (a0 : Int) : answer Tryd.prog spec_VdName.Cs 100000 spec_VdName.cuts [] Tryd.f65 (k + 1) [.v (.int .i64 a0)] = spec_VdName.b (fun r => some (spec_VdName.enc r)) k a0 := by kernel_rfl
theorem spec_VdName.b_nat {R R' : Type} (e : R → R') (ret : ByteArray → Option R) (k : Nat) (a0 : Int) : spec_VdName.b (fun r => (ret r).map e) k a0 = (spec_VdName.b ret k a0).map e := by
  unfold spec_VdName.b
  repeat' first | with_reducible refine nat_cond ?_ ?_ | with_reducible refine nat_bind fun _ => ?_ | rfl
theorem spec_VdName.eq (k : Nat) (a0 : Int) : answer Tryd.prog spec_VdName.Cs 100000 spec_VdName.cuts [] Tryd.f65 (k + 1) [.v (.int .i64 a0)] = (spec_VdName.f (k + 1) a0).map spec_VdName.enc := by
  refine (spec_VdName.s k a0).trans (Eq.trans ?_ (spec_VdName.b_nat spec_VdName.enc some k a0))
  simp only [Option.map_some]
theorem spec_VdName.sound (k : Nat) : SoundF Tryd.prog 65 (fun a => (spec_VdName.ans k a).val) := by
  refine sound_plain (fun args res h => ?_) (fun t n => rfl)
  unfold spec_VdName.ans at h
  dsimp only at h
  split at h
  · cases k with
    | zero => cases h
    | succ k =>
      unfold Ans.val at h
      rw [← spec_VdName.eq] at h
      exact answer_sound mixed Tryd.func65 _ _ _ (k + 1) (fun j _ => tab_sound (tab_cons (spec_l01In.sound j) (tab_nil))) _ _ h
  · exact (Ans.no_val h).elim

/-! loop.example/g00790/spec.SaidText -/
def spec_SaidText.b {R : Type} (ret : ByteArray → Option R) (k : Nat) (a0_0 : Int) (a0_1 : Int) : Option R :=
  cond (decide (a0_0 = 1)) ((spec_NumText.f k a0_1).bind fun t0 => cond (decide (((⟨#[115, 107, 105, 112, 32]⟩ : ByteArray)).size + (t0).size ≤ 140737488355328)) (ret ((⟨#[115, 107, 105, 112, 32]⟩ : ByteArray) ++ t0)) (none)) (cond (decide (a0_0 = 2)) ((spec_ErName.f k a0_1).bind fun t0 => cond (decide (((⟨#[98, 97, 100, 32]⟩ : ByteArray)).size + (t0).size ≤ 140737488355328)) (ret ((⟨#[98, 97, 100, 32]⟩ : ByteArray) ++ t0)) (none)) (cond (decide (a0_0 = 3)) ((spec_VdName.f k a0_1).bind fun t0 => cond (decide (((⟨#[109, 115, 103, 32]⟩ : ByteArray)).size + (t0).size ≤ 140737488355328)) (ret ((⟨#[109, 115, 103, 32]⟩ : ByteArray) ++ t0)) (none)) (ret (⟨#[]⟩ : ByteArray))))
def spec_SaidText.f : Nat → Int → Int → Option ByteArray
  | 0, _, _ => none
  | k + 1, a0_0, a0_1 => spec_SaidText.b some k a0_0 a0_1
def spec_SaidText.enc (r : ByteArray) : Res := ⟨[.vals false [((.str r), true)]], []⟩
def spec_SaidText.ans (k : Nat) : List Arg → Ans
  | [.v (.agg [(.int .i64 a0_0), (.int .i64 a0_1)])] => ⟨spec_SaidText.f k a0_0 a0_1, spec_SaidText.enc⟩
  | _ => Ans.no
def spec_SaidText.Cs (k : Nat) : CallSem := tab [(63, spec_NumText.ans k), (64, spec_ErName.ans k), (65, spec_VdName.ans k)]
def spec_SaidText.cuts : List (Nat × Keep) := []
theorem spec_SaidText.s (k : Nat) (a0_0 : Int) (a0_1 : Int) : answer Tryd.prog spec_SaidText.Cs 100000 spec_SaidText.cuts [] Tryd.f13 (k + 1) [.v (.agg [(.int .i64 a0_0), (.int .i64 a0_1)])] = spec_SaidText.b (fun r => some (spec_SaidText.enc r)) k a0_0 a0_1 := by kernel_rfl
theorem spec_SaidText.b_nat {R R' : Type} (e : R → R') (ret : ByteArray → Option R) (k : Nat) (a0_0 : Int) (a0_1 : Int) : spec_SaidText.b (fun r => (ret r).map e) k a0_0 a0_1 = (spec_SaidText.b ret k a0_0 a0_1).map e := by
  unfold spec_SaidText.b
  repeat' first | with_reducible refine nat_cond ?_ ?_ | with_reducible refine nat_bind fun _ => ?_ | rfl
theorem spec_SaidText.eq (k : Nat) (a0_0 : Int) (a0_1 : Int) : answer Tryd.prog spec_SaidText.Cs 100000 spec_SaidText.cuts [] Tryd.f13 (k + 1) [.v (.agg [(.int .i64 a0_0), (.int .i64 a0_1)])] = (spec_SaidText.f (k + 1) a0_0 a0_1).map spec_SaidText.enc := by
  refine (spec_SaidText.s k a0_0 a0_1).trans (Eq.trans ?_ (spec_SaidText.b_nat spec_SaidText.enc some k a0_0 a0_1))
  simp only [Option.map_some]
theorem spec_SaidText.sound (k : Nat) : SoundF Tryd.prog 13 (fun a => (spec_SaidText.ans k a).val) := by
  refine sound_plain (fun args res h => ?_) (fun t n => rfl)
  unfold spec_SaidText.ans at h
  dsimp only at h
  split at h
  · cases k with
    | zero => cases h
    | succ k =>
      unfold Ans.val at h
      rw [← spec_SaidText.eq] at h
      exact answer_sound mixed Tryd.func13 _ _ _ (k + 1) (fun j _ => tab_sound (tab_cons (spec_NumText.sound j) (tab_cons (spec_ErName.sound j) (tab_cons (spec_VdName.sound j) (tab_nil))))) _ _ h
  · exact (Ans.no_val h).elim

/-! loop.example/g00790/impl.within -/
def impl_within.b {R : Type} (ret : Bool → Option R) (k : Nat) (a0 : Int) (a1 : Int) (a2 : Int) : Option R :=
  cond (decide (a1 ≤ a0)) (ret (decide (a0 ≤ a2))) (ret false)
def impl_within.f : Nat → Int → Int → Int → Option Bool
  | 0, _, _, _ => none
  | k + 1, a0, a1, a2 => impl_within.b some k a0 a1 a2
def impl_within.enc (r : Bool) : Res := ⟨[.vals false [((.bool r), true)]], []⟩
def impl_within.ans (k : Nat) : List Arg → Ans
  | [.v (.int .i64 a0), .v (.int .i64 a1), .v (.int .i64 a2)] => ⟨impl_within.f k a0 a1 a2, impl_within.enc⟩
  | _ => Ans.no
def impl_within.Cs (k : Nat) : CallSem := tab []
def impl_within.cuts : List (Nat × Keep) := []
theorem impl_within.s (k : Nat) (a0 : Int) (a1 : Int) (a2 : Int) : answer Tryd.prog impl_within.Cs 100000 impl_within.cuts [] Tryd.f105 (k + 1) [.v (.int .i64 a0), .v (.int .i64 a1), .v (.int .i64 a2)] = impl_within.b (fun r => some (impl_within.enc r)) k a0 a1 a2 := by kernel_rfl
theorem impl_within.b_nat {R R' : Type} (e : R → R') (ret : Bool → Option R) (k : Nat) (a0 : Int) (a1 : Int) (a2 : Int) : impl_within.b (fun r => (ret r).map e) k a0 a1 a2 = (impl_within.b ret k a0 a1 a2).map e := by
  unfold impl_within.b
  repeat' first | with_reducible refine nat_cond ?_ ?_ | with_reducible refine nat_bind fun _ => ?_ | rfl
theorem impl_within.eq (k : Nat) (a0 : Int) (a1 : Int) (a2 : Int) : answer Tryd.prog impl_within.Cs 100000 impl_within.cuts [] Tryd.f105 (k + 1) [.v (.int .i64 a0), .v (.int .i64 a1), .v (.int .i64 a2)] = (impl_within.f (k + 1) a0 a1 a2).map impl_within.enc := by
  refine (impl_within.s k a0 a1 a2).trans (Eq.trans ?_ (impl_within.b_nat impl_within.enc some k a0 a1 a2))
  simp only [Option.map_some]
theorem impl_within.sound (k : Nat) : SoundF Tryd.prog 105 (fun a => (impl_within.ans k a).val) := by
  refine sound_plain (fun args res h => ?_) (fun t n => rfl)
  unfold impl_within.ans at h
  dsimp only at h
  split at h
  · cases k with
    | zero => cases h
    | succ k =>
      unfold Ans.val at h
      rw [← impl_within.eq] at h
      exact answer_sound mixed Tryd.func105 _ _ _ (k + 1) (fun j _ => tab_sound (tab_nil)) _ _ h
  · exact (Ans.no_val h).elim

/-! loop.example/g00790/impl.isNum -/
def impl_isNum.b {R : Type} (ret : Bool → Option R) (k : Nat) (a0 : Int) : Option R :=
  (impl_within.f k a0 0 1152921504606846975).bind fun t0 => ret t0
def impl_isNum.f : Nat → Int → Option Bool
  | 0, _ => none
  | k + 1, a0 => impl_isNum.b some k a0
def impl_isNum.enc (r : Bool) : Res := ⟨[.vals false [((.bool r), true)]], []⟩
def impl_isNum.ans (k : Nat) : List Arg → Ans
  | [.v (.int .i64 a0)] => ⟨impl_isNum.f k a0, impl_isNum.enc⟩
  | _ => Ans.no
def impl_isNum.Cs (k : Nat) : CallSem := tab [(105, impl_within.ans k)]
def impl_isNum.cuts : List (Nat × Keep) := []
theorem impl_isNum.s (k : Nat) (a0 : Int) : answer Tryd.prog impl_isNum.Cs 100000 impl_isNum.cuts [] Tryd.f108 (k + 1) [.v (.int .i64 a0)] = impl_isNum.b (fun r => some (impl_isNum.enc r)) k a0 := by kernel_rfl
theorem impl_isNum.b_nat {R R' : Type} (e : R → R') (ret : Bool → Option R) (k : Nat) (a0 : Int) : impl_isNum.b (fun r => (ret r).map e) k a0 = (impl_isNum.b ret k a0).map e := by
  unfold impl_isNum.b
  repeat' first | with_reducible refine nat_cond ?_ ?_ | with_reducible refine nat_bind fun _ => ?_ | rfl
theorem impl_isNum.eq (k : Nat) (a0 : Int) : answer Tryd.prog impl_isNum.Cs 100000 impl_isNum.cuts [] Tryd.f108 (k + 1) [.v (.int .i64 a0)] = (impl_isNum.f (k + 1) a0).map impl_isNum.enc := by
  refine (impl_isNum.s k a0).trans (Eq.trans ?_ (impl_isNum.b_nat impl_isNum.enc some k a0))
  simp only [Option.map_some]
theorem impl_isNum.sound (k : Nat) : SoundF Tryd.prog 108 (fun a => (impl_isNum.ans k a).val) := by
  refine sound_plain (fun args res h => ?_) (fun t n => rfl)
  unfold impl_isNum.ans at h
  dsimp only at h
  split at h
  · cases k with
    | zero => cases h
    | succ k =>
      unfold Ans.val at h
      rw [← impl_isNum.eq] at h
      exact answer_sound mixed Tryd.func108 _ _ _ (k + 1) (fun j _ => tab_sound (tab_cons (impl_within.sound j) (tab_nil))) _ _ h
  · exact (Ans.no_val h).elim

/-! strconv_Itoa -/
def strconv_Itoa.f (k : Nat) (a0 : Int) : Option ByteArray := cond (inI a0) (some (itoaB a0)) none
def strconv_Itoa.enc (r : ByteArray) : Res := ⟨[.vals false [((.str r), true)]], []⟩
def strconv_Itoa.ans (k : Nat) : List Arg → Ans
  | [.v (.int .i64 a0)] => ⟨strconv_Itoa.f k a0, strconv_Itoa.enc⟩
  | _ => Ans.no
theorem strconv_Itoa.sound (k : Nat) : SoundF Tryd.prog 109 (fun a => (strconv_Itoa.ans k a).val) := by
  refine sound_ext (fun _ _ => rfl) fun args res h => ?_
  unfold strconv_Itoa.ans at h
  split at h
  · exact ext_itoa lay_Itoa h
  · exact (Ans.no_val h).elim

/-! loop.example/g00790/impl.NumText -/
def impl_NumText.b {R : Type} (ret : ByteArray → Option R) (k : Nat) (a0 : Int) : Option R :=
  (impl_isNum.f k a0).bind fun t0 => cond (!t0) (ret (⟨#[]⟩ : ByteArray)) ((strconv_Itoa.f k a0).bind fun t1 => ret t1)
def impl_NumText.f : Nat → Int → Option ByteArray
  | 0, _ => none
  | k + 1, a0 => impl_NumText.b some k a0
def impl_NumText.enc (r : ByteArray) : Res := ⟨[.vals false [((.str r), true)]], []⟩
def impl_NumText.ans (k : Nat) : List Arg → Ans
  | [.v (.int .i64 a0)] => ⟨impl_NumText.f k a0, impl_NumText.enc⟩
  | _ => Ans.no
def impl_NumText.Cs (k : Nat) : CallSem := tab [(108, impl_isNum.ans k), (109, strconv_Itoa.ans k)]
def impl_NumText.cuts : List (Nat × Keep) := []
theorem impl_NumText.s (k : Nat) (a0 : Int) : answer Tryd.prog impl_NumText.Cs 100000 impl_NumText.cuts [] Tryd.f66 (k + 1) [.v (.int .i64 a0)] = impl_NumText.b (fun r => some (impl_NumText.enc r)) k a0 := by kernel_rfl
theorem impl_NumText.b_nat {R R' : Type} (e : R → R') (ret : ByteArray → Option R) (k : Nat) (a0 : Int) : impl_NumText.b (fun r => (ret r).map e) k a0 = (impl_NumText.b ret k a0).map e := by
  unfold impl_NumText.b
  repeat' first | with_reducible refine nat_cond ?_ ?_ | with_reducible refine nat_bind fun _ => ?_ | rfl
theorem impl_NumText.eq (k : Nat) (a0 : Int) : answer Tryd.prog impl_NumText.Cs 100000 impl_NumText.cuts [] Tryd.f66 (k + 1) [.v (.int .i64 a0)] = (impl_NumText.f (k + 1) a0).map impl_NumText.enc := by
  refine (impl_NumText.s k a0).trans (Eq.trans ?_ (impl_NumText.b_nat impl_NumText.enc some k a0))
  simp only [Option.map_some]
theorem impl_NumText.sound (k : Nat) : SoundF Tryd.prog 66 (fun a => (impl_NumText.ans k a).val) := by
  refine sound_plain (fun args res h => ?_) (fun t n => rfl)
  unfold impl_NumText.ans at h
  dsimp only at h
  split at h
  · cases k with
    | zero => cases h
    | succ k =>
      unfold Ans.val at h
      rw [← impl_NumText.eq] at h
      exact answer_sound mixed Tryd.func66 _ _ _ (k + 1) (fun j _ => tab_sound (tab_cons (impl_isNum.sound j) (tab_cons (strconv_Itoa.sound j) (tab_nil)))) _ _ h
  · exact (Ans.no_val h).elim

/-! loop.example/g00790/impl.nameAt -/
def impl_nameAt.b {R : Type} (ret : ByteArray → Option R) (k : Nat) (a0 : Int) (a1z : Bool) (a1 : List T) : Option R :=
  (impl_within.f k a0 0 (RowKit.wrap64 (((a1).length : Int) - 1))).bind fun t0 => cond (!t0) (ret (⟨#[]⟩ : ByteArray)) (cond (decide ((0 : Int) ≤ a0)) (cond (decide (a0 < ((a1).length : Int))) (ret (((((a1).getD (a0).toNat .bad).cells.getD 0 .bad)).toStr)) (none)) (none))
def impl_nameAt.f : Nat → Int → Bool → (List T) → Option ByteArray
  | 0, _, _, _ => none
  | k + 1, a0, a1z, a1 => impl_nameAt.b some k a0 a1z a1
def impl_nameAt.enc (r : ByteArray) : Res := ⟨[.vals false [((.str r), true)]], []⟩
def impl_nameAt.ans (k : Nat) : List Arg → Ans
  | [.v (.int .i64 a0), .v (.sl 9 a1z a1)] => ⟨impl_nameAt.f k a0 a1z a1, impl_nameAt.enc⟩
  | _ => Ans.no
def impl_nameAt.Cs (k : Nat) : CallSem := tab [(105, impl_within.ans k)]
def impl_nameAt.cuts : List (Nat × Keep) := []
theorem impl_nameAt.s (k : Nat) (a0 : Int) (a1z : Bool) (a1 : List T) : answer Tryd.prog impl_nameAt.Cs 100000 impl_nameAt.cuts [] Tryd.f110 (k + 1) [.v (.int .i64 a0), .v (.sl 9 a1z a1)] = impl_nameAt.b (fun r => some (impl_nameAt.enc r)) k a0 a1z a1 := by kernel_rfl
theorem impl_nameAt.b_nat {R R' : Type} (e : R → R') (ret : ByteArray → Option R) (k : Nat) (a0 : Int) (a1z : Bool) (a1 : List T) : impl_nameAt.b (fun r => (ret r).map e) k a0 a1z a1 = (impl_nameAt.b ret k a0 a1z a1).map e := by
  unfold impl_nameAt.b
  repeat' first | with_reducible refine nat_cond ?_ ?_ | with_reducible refine nat_bind fun _ => ?_ | rfl
theorem impl_nameAt.eq (k : Nat) (a0 : Int) (a1z : Bool) (a1 : List T) : answer Tryd.prog impl_nameAt.Cs 100000 impl_nameAt.cuts [] Tryd.f110 (k + 1) [.v (.int .i64 a0), .v (.sl 9 a1z a1)] = (impl_nameAt.f (k + 1) a0 a1z a1).map impl_nameAt.enc := by
  refine (impl_nameAt.s k a0 a1z a1).trans (Eq.trans ?_ (impl_nameAt.b_nat impl_nameAt.enc some k a0 a1z a1))
  simp only [Option.map_some]
theorem impl_nameAt.sound (k : Nat) : SoundF Tryd.prog 110 (fun a => (impl_nameAt.ans k a).val) := by
  refine sound_plain (fun args res h => ?_) (fun t n => rfl)
  unfold impl_nameAt.ans at h
  dsimp only at h
  split at h
  · cases k with
    | zero => cases h
    | succ k =>
      unfold Ans.val at h
      rw [← impl_nameAt.eq] at h
      exact answer_sound mixed Tryd.func110 _ _ _ (k + 1) (fun j _ => tab_sound (tab_cons (impl_within.sound j) (tab_nil))) _ _ h
  · exact (Ans.no_val h).elim

/-! loop.example/g00790/impl.ErName -/
def impl_ErName.b {R : Type} (ret : ByteArray → Option R) (k : Nat) (a0 : Int) : Option R :=
  (impl_nameAt.f k a0 false ([(.str (⟨#[111, 107]⟩ : ByteArray)), (.str (⟨#[115, 104, 111, 114, 116]⟩ : ByteArray)), (.str (⟨#[118, 97, 114]⟩ : ByteArray)), (.str (⟨#[108, 111, 110, 103]⟩ : ByteArray)), (.str (⟨#[112, 97, 100]⟩ : ByteArray)), (.str (⟨#[118, 97, 108, 117, 101]⟩ : ByteArray)), (.str (⟨#[111, 114, 100, 101, 114]⟩ : ByteArray)), (.str (⟨#[114, 111, 111, 116]⟩ : ByteArray)), (.str (⟨#[107, 105, 110, 100]⟩ : ByteArray)), (.str (⟨#[108, 101, 102, 116]⟩ : ByteArray))] : List T)).bind fun t0 => ret t0
def impl_ErName.f : Nat → Int → Option ByteArray
  | 0, _ => none
  | k + 1, a0 => impl_ErName.b some k a0
def impl_ErName.enc (r : ByteArray) : Res := ⟨[.vals false [((.str r), true)]], []⟩
def impl_ErName.ans (k : Nat) : List Arg → Ans
  | [.v (.int .i64 a0)] => ⟨impl_ErName.f k a0, impl_ErName.enc⟩
  | _ => Ans.no
def impl_ErName.Cs (k : Nat) : CallSem := tab [(110, impl_nameAt.ans k)]
def impl_ErName.cuts : List (Nat × Keep) := []
theorem impl_ErName.s (k : Nat) (a0 : Int) : answer Tryd.prog impl_ErName.Cs 100000 impl_ErName.cuts [] Tryd.f67 (k + 1) [.v (.int .i64 a0)] = impl_ErName.b (fun r => some (impl_ErName.enc r)) k a0 := by kernel_rfl
theorem impl_ErName.b_nat {R R' : Type} (e : R → R') (ret : ByteArray → Option R) (k : Nat) (a0 : Int) : impl_ErName.b (fun r => (ret r).map e) k a0 = (impl_ErName.b ret k a0).map e := by
  unfold impl_ErName.b
  repeat' first | with_reducible refine nat_cond ?_ ?_ | with_reducible refine nat_bind fun _ => ?_ | rfl
theorem impl_ErName.eq (k : Nat) (a0 : Int) : answer Tryd.prog impl_ErName.Cs 100000 impl_ErName.cuts [] Tryd.f67 (k + 1) [.v (.int .i64 a0)] = (impl_ErName.f (k + 1) a0).map impl_ErName.enc := by
  refine (impl_ErName.s k a0).trans (Eq.trans ?_ (impl_ErName.b_nat impl_ErName.enc some k a0))
  simp only [Option.map_some]
theorem impl_ErName.sound (k : Nat) : SoundF Tryd.prog 67 (fun a => (impl_ErName.ans k a).val) := by
  refine sound_plain (fun args res h => ?_) (fun t n => rfl)
  unfold impl_ErName.ans at h
  dsimp only at h
  split at h
  · cases k with
    | zero => cases h
    | succ k =>
      unfold Ans.val at h
      rw [← impl_ErName.eq] at h
      exact answer_sound mixed Tryd.func67 _ _ _ (k + 1) (fun j _ => tab_sound (tab_cons (impl_nameAt.sound j) (tab_nil))) _ _ h
  · exact (Ans.no_val h).elim

/-! loop.example/g00790/impl.VdName -/
def impl_VdName.b {R : Type} (ret : ByteArray → Option R) (k : Nat) (a0 : Int) : Option R :=
  (impl_nameAt.f k a0 false ([(.str (⟨#[111, 116, 104, 101, 114]⟩ : ByteArray)), (.str (⟨#[99, 111, 109, 109, 105, 116]⟩ : ByteArray)), (.str (⟨#[107, 110, 111, 119, 110]⟩ : ByteArray)), (.str (⟨#[114, 101, 102, 117, 115, 101, 100]⟩ : ByteArray)), (.str (⟨#[99, 108, 97, 115, 104]⟩ : ByteArray)), (.str (⟨#[111, 108, 100]⟩ : ByteArray)), (.str (⟨#[105, 110]⟩ : ByteArray)), (.str (⟨#[110, 111, 116]⟩ : ByteArray)), (.str (⟨#[117, 110, 107, 110, 111, 119, 110]⟩ : ByteArray)), (.str (⟨#[103, 111, 111, 100]⟩ : ByteArray))] : List T)).bind fun t0 => ret t0
def impl_VdName.f : Nat → Int → Option ByteArray
  | 0, _ => none
  | k + 1, a0 => impl_VdName.b some k a0
def impl_VdName.enc (r : ByteArray) : Res := ⟨[.vals false [((.str r), true)]], []⟩
def impl_VdName.ans (k : Nat) : List Arg → Ans
  | [.v (.int .i64 a0)] => ⟨impl_VdName.f k a0, impl_VdName.enc⟩
  | _ => Ans.no
def impl_VdName.Cs (k : Nat) : CallSem := tab [(110, impl_nameAt.ans k)]
def impl_VdName.cuts : List (Nat × Keep) := []
theorem impl_VdName.s (k : Nat) (a0 : Int) : answer Tryd.prog impl_VdName.Cs 100000 impl_VdName.cuts [] Tryd.f68 (k + 1) [.v (.int .i64 a0)] = impl_VdName.b (fun r => some (impl_VdName.enc r)) k a0 := by kernel_rfl
theorem impl_VdName.b_nat {R R' : Type} (e : R → R') (ret : ByteArray → Option R) (k : Nat) (a0 : Int) : impl_VdName.b (fun r => (ret r).map e) k a0 = (impl_VdName.b ret k a0).map e := by
  unfold impl_VdName.b
  repeat' first | with_reducible refine nat_cond ?_ ?_ | with_reducible refine nat_bind fun _ => ?_ | rfl
theorem impl_VdName.eq (k : Nat) (a0 : Int) : answer Tryd.prog impl_VdName.Cs 100000 impl_VdName.cuts [] Tryd.f68 (k + 1) [.v (.int .i64 a0)] = (impl_VdName.f (k + 1) a0).map impl_VdName.enc := by
  refine (impl_VdName.s k a0).trans (Eq.trans ?_ (impl_VdName.b_nat impl_VdName.enc some k a0))
  simp only [Option.map_some]
theorem impl_VdName.sound (k : Nat) : SoundF Tryd.prog 68 (fun a => (impl_VdName.ans k a).val) := by
  refine sound_plain (fun args res h => ?_) (fun t n => rfl)
  unfold impl_VdName.ans at h
  dsimp only at h
  split at h
  · cases k with
    | zero => cases h
    | succ k =>
      unfold Ans.val at h
      rw [← impl_VdName.eq] at h
      exact answer_sound mixed Tryd.func68 _ _ _ (k + 1) (fun j _ => tab_sound (tab_cons (impl_nameAt.sound j) (tab_nil))) _ _ h
  · exact (Ans.no_val h).elim

/-! loop.example/g00790/impl.SaidText -/
def impl_SaidText.b {R : Type} (ret : ByteArray → Option R) (k : Nat) (a0_0 : Int) (a0_1 : Int) : Option R :=
  cond (decide (a0_0 = 1)) ((impl_NumText.f k a0_1).bind fun t0 => cond (decide (((⟨#[115, 107, 105, 112, 32]⟩ : ByteArray)).size + (t0).size ≤ 140737488355328)) (ret ((⟨#[115, 107, 105, 112, 32]⟩ : ByteArray) ++ t0)) (none)) (cond (decide (a0_0 = 2)) ((impl_ErName.f k a0_1).bind fun t0 => cond (decide (((⟨#[98, 97, 100, 32]⟩ : ByteArray)).size + (t0).size ≤ 140737488355328)) (ret ((⟨#[98, 97, 100, 32]⟩ : ByteArray) ++ t0)) (none)) (cond (decide (a0_0 = 3)) ((impl_VdName.f k a0_1).bind fun t0 => cond (decide (((⟨#[109, 115, 103, 32]⟩ : ByteArray)).size + (t0).size ≤ 140737488355328)) (ret ((⟨#[109, 115, 103, 32]⟩ : ByteArray) ++ t0)) (none)) (ret (⟨#[]⟩ : ByteArray))))
def impl_SaidText.f : Nat → Int → Int → Option ByteArray
  | 0, _, _ => none
  | k + 1, a0_0, a0_1 => impl_SaidText.b some k a0_0 a0_1
def impl_SaidText.enc (r : ByteArray) : Res := ⟨[.vals false [((.str r), true)]], []⟩
def impl_SaidText.ans (k : Nat) : List Arg → Ans
  | [.v (.agg [(.int .i64 a0_0), (.int .i64 a0_1)])] => ⟨impl_SaidText.f k a0_0 a0_1, impl_SaidText.enc⟩
  | _ => Ans.no
def impl_SaidText.Cs (k : Nat) : CallSem := tab [(66, impl_NumText.ans k), (67, impl_ErName.ans k), (68, impl_VdName.ans k)]
def impl_SaidText.cuts : List (Nat × Keep) := []
theorem impl_SaidText.s (k : Nat) (a0_0 : Int) (a0_1 : Int) : answer Tryd.prog impl_SaidText.Cs 100000 impl_SaidText.cuts [] Tryd.f15 (k + 1) [.v (.agg [(.int .i64 a0_0), (.int .i64 a0_1)])] = impl_SaidText.b (fun r => some (impl_SaidText.enc r)) k a0_0 a0_1 := by kernel_rfl
theorem impl_SaidText.b_nat {R R' : Type} (e : R → R') (ret : ByteArray → Option R) (k : Nat) (a0_0 : Int) (a0_1 : Int) : impl_SaidText.b (fun r => (ret r).map e) k a0_0 a0_1 = (impl_SaidText.b ret k a0_0 a0_1).map e := by
  unfold impl_SaidText.b
  repeat' first | with_reducible refine nat_cond ?_ ?_ | with_reducible refine nat_bind fun _ => ?_ | rfl
theorem impl_SaidText.eq (k : Nat) (a0_0 : Int) (a0_1 : Int) : answer Tryd.prog impl_SaidText.Cs 100000 impl_SaidText.cuts [] Tryd.f15 (k + 1) [.v (.agg [(.int .i64 a0_0), (.int .i64 a0_1)])] = (impl_SaidText.f (k + 1) a0_0 a0_1).map impl_SaidText.enc := by
  refine (impl_SaidText.s k a0_0 a0_1).trans (Eq.trans ?_ (impl_SaidText.b_nat impl_SaidText.enc some k a0_0 a0_1))
  simp only [Option.map_some]
theorem impl_SaidText.sound (k : Nat) : SoundF Tryd.prog 15 (fun a => (impl_SaidText.ans k a).val) := by
  refine sound_plain (fun args res h => ?_) (fun t n => rfl)
  unfold impl_SaidText.ans at h
  dsimp only at h
  split at h
  · cases k with
    | zero => cases h
    | succ k =>
      unfold Ans.val at h
      rw [← impl_SaidText.eq] at h
      exact answer_sound mixed Tryd.func15 _ _ _ (k + 1) (fun j _ => tab_sound (tab_cons (impl_NumText.sound j) (tab_cons (impl_ErName.sound j) (tab_cons (impl_VdName.sound j) (tab_nil))))) _ _ h
  · exact (Ans.no_val h).elim

/-! loop.example/g00790/laws.FnExactSaidText -/
def laws_FnExactSaidText.b {R : Type} (ret : Bool → Option R) (k : Nat) (a0_0 : Int) (a0_1 : Int) : Option R :=
  (laws_toSaid.f k a0_0 a0_1).bind fun t0 => (spec_SaidText.f k t0.1 t0.2).bind fun t1 => (laws_toSaid.f k a0_0 a0_1).bind fun t2 => (impl_SaidText.f k t2.1 t2.2).bind fun t3 => cond (!decide (t3 = t1)) (ret false) (ret true)
def laws_FnExactSaidText.f : Nat → Int → Int → Option Bool
  | 0, _, _ => none
  | k + 1, a0_0, a0_1 => laws_FnExactSaidText.b some k a0_0 a0_1
def laws_FnExactSaidText.enc (r : Bool) : Res := ⟨[.vals false [((.bool r), true)]], []⟩
def laws_FnExactSaidText.ans (k : Nat) : List Arg → Ans
  | [.v (.agg [(.int .i64 a0_0), (.int .i64 a0_1)])] => ⟨laws_FnExactSaidText.f k a0_0 a0_1, laws_FnExactSaidText.enc⟩
  | _ => Ans.no
def laws_FnExactSaidText.Cs (k : Nat) : CallSem := tab [(14, laws_toSaid.ans k), (13, spec_SaidText.ans k), (15, impl_SaidText.ans k)]
def laws_FnExactSaidText.cuts : List (Nat × Keep) := []
theorem laws_FnExactSaidText.s (k : Nat) (a0_0 : Int) (a0_1 : Int) : answer Tryd.prog laws_FnExactSaidText.Cs 100000 laws_FnExactSaidText.cuts [] Tryd.f3 (k + 1) [.v (.agg [(.int .i64 a0_0), (.int .i64 a0_1)])] = laws_FnExactSaidText.b (fun r => some (laws_FnExactSaidText.enc r)) k a0_0 a0_1 := by kernel_rfl
theorem laws_FnExactSaidText.b_nat {R R' : Type} (e : R → R') (ret : Bool → Option R) (k : Nat) (a0_0 : Int) (a0_1 : Int) : laws_FnExactSaidText.b (fun r => (ret r).map e) k a0_0 a0_1 = (laws_FnExactSaidText.b ret k a0_0 a0_1).map e := by
  unfold laws_FnExactSaidText.b
  repeat' first | with_reducible refine nat_cond ?_ ?_ | with_reducible refine nat_bind fun _ => ?_ | rfl
theorem laws_FnExactSaidText.eq (k : Nat) (a0_0 : Int) (a0_1 : Int) : answer Tryd.prog laws_FnExactSaidText.Cs 100000 laws_FnExactSaidText.cuts [] Tryd.f3 (k + 1) [.v (.agg [(.int .i64 a0_0), (.int .i64 a0_1)])] = (laws_FnExactSaidText.f (k + 1) a0_0 a0_1).map laws_FnExactSaidText.enc := by
  refine (laws_FnExactSaidText.s k a0_0 a0_1).trans (Eq.trans ?_ (laws_FnExactSaidText.b_nat laws_FnExactSaidText.enc some k a0_0 a0_1))
  simp only [Option.map_some]
theorem laws_FnExactSaidText.sound (k : Nat) : SoundF Tryd.prog 3 (fun a => (laws_FnExactSaidText.ans k a).val) := by
  refine sound_plain (fun args res h => ?_) (fun t n => rfl)
  unfold laws_FnExactSaidText.ans at h
  dsimp only at h
  split at h
  · cases k with
    | zero => cases h
    | succ k =>
      unfold Ans.val at h
      rw [← laws_FnExactSaidText.eq] at h
      exact answer_sound mixed Tryd.func3 _ _ _ (k + 1) (fun j _ => tab_sound (tab_cons (laws_toSaid.sound j) (tab_cons (spec_SaidText.sound j) (tab_cons (impl_SaidText.sound j) (tab_nil))))) _ _ h
  · exact (Ans.no_val h).elim
end Go.Proofs.YtjffolalgcmhaaaDoorG
