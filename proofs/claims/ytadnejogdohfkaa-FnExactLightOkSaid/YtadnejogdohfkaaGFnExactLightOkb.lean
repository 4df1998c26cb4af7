/- What the functions compute, printed by a program of this repo; each is shown to be what the machine of values answers. No condition. -/
import Derived.Test.YtadnejogdohfkaaProg
import Derived.KernelRfl
import Derived.Test.YtadnejogdohfkaaGFnExactLightOka
namespace Go.Proofs.YtadnejogdohfkaaG
open Go Go.Proofs.YtadnejogdohfkaaRv Go.Proofs
set_option linter.unusedVariables false
set_option linter.unusedSimpArgs false
/-! loop.example/g00790/spec.GetFix -/
def spec_GetFix.b {R : Type} (ret : Int × Int × Int → Option R) (j0 : Bool → (List Int) → Int → Int → Int → Int → Option R) (k : Nat) (a0z : Bool) (a0 : List Int) (a1 : Int) (a2 : Int) : Option R :=
  (spec_l01In.f k a2 1 7).bind fun t0 => cond (!t0) (ret (0, 0, 5)) (cond (decide (a1 < 0)) (ret (0, 0, 1)) (cond (decide (a1 > (RowKit.wrap64 (((a0).length : Int) - a2)))) (ret (0, 0, 1)) (j0 a0z a0 a1 a2 0 (RowKit.wrap64 (a2 - 1)))))
def spec_GetFix.l0b {R : Type} (ret : Int × Int × Int → Option R) (j0 : Bool → (List Int) → Int → Int → Int → Int → Option R) (k : Nat) (x0z : Bool) (x0 : List Int) (x1 : Int) (x2 : Int) (x9 : Int) (x10 : Int) : Option R :=
  cond (decide (x10 ≥ 0)) (cond (decide ((0 : Int) ≤ (RowKit.wrap64 (x1 + x10)))) (cond (decide ((RowKit.wrap64 (x1 + x10)) < ((x0).length : Int))) (j0 x0z x0 x1 x2 (RowKit.wrap64 ((RowKit.wrap64 (x9 * 256)) + (RowKit.wrap64 ((rdI x0 (RowKit.wrap64 (x1 + x10))))))) (RowKit.wrap64 (x10 - 1))) (none)) (none)) (ret (x9, (RowKit.wrap64 (x1 + x2)), 0))
def spec_GetFix.l0 : Nat → Bool → (List Int) → Int → Int → Int → Int → Option (Int × Int × Int)
  | 0, _, _, _, _, _, _ => none
  | k + 1, x0z, x0, x1, x2, x9, x10 => spec_GetFix.l0b some (spec_GetFix.l0 k) k x0z x0 x1 x2 x9 x10
def spec_GetFix.f : Nat → Bool → (List Int) → Int → Int → Option (Int × Int × Int)
  | 0, _, _, _, _ => none
  | k + 1, a0z, a0, a1, a2 => spec_GetFix.b some (spec_GetFix.l0 k) k a0z a0 a1 a2
def spec_GetFix.enc (r : Int × Int × Int) : Res := ⟨[.vals false [((.int .i64 r.1), true)], .vals false [((.int .i64 r.2.1), true)], .vals false [((.int .i64 r.2.2), true)]], []⟩
def spec_GetFix.ans (k : Nat) : List Arg → Ans
  | [.v (.nums 5 .u8 a0z a0), .v (.int .i64 a1), .v (.int .i64 a2)] => ⟨spec_GetFix.f k a0z a0 a1 a2, spec_GetFix.enc⟩
  | _ => Ans.no
def spec_GetFix.Cs (k : Nat) : CallSem := tab [(122, spec_l01In.ans k)]
def spec_GetFix.cuts : List (Nat × Keep) := [(250, ⟨[(0, some []), (1, some []), (2, some []), (9, some []), (10, some [])], []⟩)]
noncomputable def spec_GetFix.K0 : List Fr := framesAt [true, true, true, true, false, true, false] (bodyOf Try.f201 spec_GetFix.cuts) []
def spec_GetFix.N0 (x0z : Bool) (x0 : List Int) (x1 : Int) (x2 : Int) (x9 : Int) (x10 : Int) : St := stOf 44 44 3 [(0, .val ⟨(.nums 5 .u8 x0z x0), [], false, none⟩), (1, .val (V.s (.int .i64 x1))), (2, .val (V.s (.int .i64 x2))), (9, .val (V.s (.int .i64 x9))), (10, .val (V.s (.int .i64 x10)))] []
theorem spec_GetFix.s (k : Nat) (a0z : Bool) (a0 : List Int) (a1 : Int) (a2 : Int) : answer Try.prog spec_GetFix.Cs 100000 spec_GetFix.cuts [] Try.f201 (k + 1) [.v (.nums 5 .u8 a0z a0), .v (.int .i64 a1), .v (.int .i64 a2)] = spec_GetFix.b (fun r => some (spec_GetFix.enc r)) (fun x0z x0 x1 x2 x9 x10 => rounds Try.prog spec_GetFix.Cs (finish Try.prog [] Try.f201 [.v (.nums 5 .u8 a0z a0), .v (.int .i64 a1), .v (.int .i64 a2)]) 100000 k spec_GetFix.K0 (spec_GetFix.N0 x0z x0 x1 x2 x9 x10)) k a0z a0 a1 a2 := by kernel_rfl
theorem spec_GetFix.s0 (k : Nat) (G : List Fr → St → Option Res) (a0z : Bool) (a0 : List Int) (a1 : Int) (a2 : Int) (yx0z : Bool) (yx0 : List Int) (yx1 : Int) (yx2 : Int) (yx9 : Int) (yx10 : Int) : resume Try.prog (spec_GetFix.Cs k) G (finish Try.prog [] Try.f201 [.v (.nums 5 .u8 a0z a0), .v (.int .i64 a1), .v (.int .i64 a2)]) 100000 spec_GetFix.K0 (spec_GetFix.N0 yx0z yx0 yx1 yx2 yx9 yx10) = spec_GetFix.l0b (fun r => some (spec_GetFix.enc r)) (fun x0z x0 x1 x2 x9 x10 => G spec_GetFix.K0 (spec_GetFix.N0 x0z x0 x1 x2 x9 x10)) k yx0z yx0 yx1 yx2 yx9 yx10 := by kernel_rfl
theorem spec_GetFix.b_nat {R R' : Type} (e : R → R') (ret : Int × Int × Int → Option R) (j0 : Bool → (List Int) → Int → Int → Int → Int → Option R) (k : Nat) (a0z : Bool) (a0 : List Int) (a1 : Int) (a2 : Int) : spec_GetFix.b (fun r => (ret r).map e) (fun x0z x0 x1 x2 x9 x10 => (j0 x0z x0 x1 x2 x9 x10).map e) k a0z a0 a1 a2 = (spec_GetFix.b ret j0 k a0z a0 a1 a2).map e := by
  unfold spec_GetFix.b
  repeat' first | with_reducible refine nat_cond ?_ ?_ | with_reducible refine nat_bind fun _ => ?_ | rfl
theorem spec_GetFix.l0b_nat {R R' : Type} (e : R → R') (ret : Int × Int × Int → Option R) (j0 : Bool → (List Int) → Int → Int → Int → Int → Option R) (k : Nat) (x0z : Bool) (x0 : List Int) (x1 : Int) (x2 : Int) (x9 : Int) (x10 : Int) : spec_GetFix.l0b (fun r => (ret r).map e) (fun x0z x0 x1 x2 x9 x10 => (j0 x0z x0 x1 x2 x9 x10).map e) k x0z x0 x1 x2 x9 x10 = (spec_GetFix.l0b ret j0 k x0z x0 x1 x2 x9 x10).map e := by
  unfold spec_GetFix.l0b
  repeat' first | with_reducible refine nat_cond ?_ ?_ | with_reducible refine nat_bind fun _ => ?_ | rfl
theorem spec_GetFix.rounds_eq (a0z : Bool) (a0 : List Int) (a1 : Int) (a2 : Int) : ∀ k, (∀ (x0z : Bool) (x0 : List Int) (x1 : Int) (x2 : Int) (x9 : Int) (x10 : Int), rounds Try.prog spec_GetFix.Cs (finish Try.prog [] Try.f201 [.v (.nums 5 .u8 a0z a0), .v (.int .i64 a1), .v (.int .i64 a2)]) 100000 k spec_GetFix.K0 (spec_GetFix.N0 x0z x0 x1 x2 x9 x10) = (spec_GetFix.l0 k x0z x0 x1 x2 x9 x10).map spec_GetFix.enc)
  | 0 => fun _ _ _ _ _ _ => rfl
  | k + 1 => by
    have ih := spec_GetFix.rounds_eq a0z a0 a1 a2 k
    refine fun _ _ _ _ _ _ => ?_
    · refine (spec_GetFix.s0 k _ a0z a0 a1 a2 _ _ _ _ _ _).trans (Eq.trans ?_ (spec_GetFix.l0b_nat spec_GetFix.enc some (spec_GetFix.l0 k) k _ _ _ _ _ _))
      simp only [ih, Option.map_some]
theorem spec_GetFix.eq (k : Nat) (a0z : Bool) (a0 : List Int) (a1 : Int) (a2 : Int) : answer Try.prog spec_GetFix.Cs 100000 spec_GetFix.cuts [] Try.f201 (k + 1) [.v (.nums 5 .u8 a0z a0), .v (.int .i64 a1), .v (.int .i64 a2)] = (spec_GetFix.f (k + 1) a0z a0 a1 a2).map spec_GetFix.enc := by
  have ih := spec_GetFix.rounds_eq a0z a0 a1 a2 k
  refine (spec_GetFix.s k a0z a0 a1 a2).trans (Eq.trans ?_ (spec_GetFix.b_nat spec_GetFix.enc some (spec_GetFix.l0 k) k a0z a0 a1 a2))
  simp only [ih, Option.map_some]
theorem spec_GetFix.sound (k : Nat) : SoundF Try.prog 201 (fun a => (spec_GetFix.ans k a).val) := by
  refine sound_plain (fun args res h => ?_) (fun t n => rfl)
  unfold spec_GetFix.ans at h
  dsimp only at h
  split at h
  · cases k with
    | zero => cases h
    | succ k =>
      unfold Ans.val at h
      rw [← spec_GetFix.eq] at h
      exact answer_sound mixed Try.func201 _ _ _ (k + 1) (fun j _ => tab_sound (tab_cons (spec_l01In.sound j) (tab_nil))) _ _ h
  · exact (Ans.no_val h).elim

/-! loop.example/g00790/spec.l03Sum -/
def spec_l03Sum.b {R : Type} (ret : Bool → Option R) (k : Nat) (a0 : Int) : Option R :=
  (spec_l01In.f k a0 0 4294967295).bind fun t0 => ret t0
def spec_l03Sum.f : Nat → Int → Option Bool
  | 0, _ => none
  | k + 1, a0 => spec_l03Sum.b some k a0
def spec_l03Sum.enc (r : Bool) : Res := ⟨[.vals false [((.bool r), true)]], []⟩
def spec_l03Sum.ans (k : Nat) : List Arg → Ans
  | [.v (.int .i64 a0)] => ⟨spec_l03Sum.f k a0, spec_l03Sum.enc⟩
  | _ => Ans.no
def spec_l03Sum.Cs (k : Nat) : CallSem := tab [(122, spec_l01In.ans k)]
def spec_l03Sum.cuts : List (Nat × Keep) := []
theorem spec_l03Sum.s (k : Nat) (a0 : Int) : answer Try.prog spec_l03Sum.Cs 100000 spec_l03Sum.cuts [] Try.f224 (k + 1) [.v (.int .i64 a0)] = spec_l03Sum.b (fun r => some (spec_l03Sum.enc r)) k a0 := by kernel_rfl
theorem spec_l03Sum.b_nat {R R' : Type} (e : R → R') (ret : Bool → Option R) (k : Nat) (a0 : Int) : spec_l03Sum.b (fun r => (ret r).map e) k a0 = (spec_l03Sum.b ret k a0).map e := by
  unfold spec_l03Sum.b
  repeat' first | with_reducible refine nat_cond ?_ ?_ | with_reducible refine nat_bind fun _ => ?_ | rfl
theorem spec_l03Sum.eq (k : Nat) (a0 : Int) : answer Try.prog spec_l03Sum.Cs 100000 spec_l03Sum.cuts [] Try.f224 (k + 1) [.v (.int .i64 a0)] = (spec_l03Sum.f (k + 1) a0).map spec_l03Sum.enc := by
  refine (spec_l03Sum.s k a0).trans (Eq.trans ?_ (spec_l03Sum.b_nat spec_l03Sum.enc some k a0))
  simp only [Option.map_some]
theorem spec_l03Sum.sound (k : Nat) : SoundF Try.prog 224 (fun a => (spec_l03Sum.ans k a).val) := by
  refine sound_plain (fun args res h => ?_) (fun t n => rfl)
  unfold spec_l03Sum.ans at h
  dsimp only at h
  split at h
  · cases k with
    | zero => cases h
    | succ k =>
      unfold Ans.val at h
      rw [← spec_l03Sum.eq] at h
      exact answer_sound mixed Try.func224 _ _ _ (k + 1) (fun j _ => tab_sound (tab_cons (spec_l01In.sound j) (tab_nil))) _ _ h
  · exact (Ans.no_val h).elim

/-! loop.example/g00790/spec.l03Turn -/
def spec_l03Turn.b {R : Type} (ret : Int → Option R) (k : Nat) (a0 : Int) : Option R :=
  cond (decide ((Int.tmod a0 2) = 1)) (ret (Go.bits .xor .i64 (RowKit.wrap64 (Int.tdiv a0 2)) 3988292384)) (ret (RowKit.wrap64 (Int.tdiv a0 2)))
def spec_l03Turn.f : Nat → Int → Option Int
  | 0, _ => none
  | k + 1, a0 => spec_l03Turn.b some k a0
def spec_l03Turn.enc (r : Int) : Res := ⟨[.vals false [((.int .i64 r), true)]], []⟩
def spec_l03Turn.ans (k : Nat) : List Arg → Ans
  | [.v (.int .i64 a0)] => ⟨spec_l03Turn.f k a0, spec_l03Turn.enc⟩
  | _ => Ans.no
def spec_l03Turn.Cs (k : Nat) : CallSem := tab []
def spec_l03Turn.cuts : List (Nat × Keep) := []
theorem spec_l03Turn.s (k : Nat) (a0 : Int) : answer Try.prog spec_l03Turn.Cs 100000 spec_l03Turn.cuts [] Try.f225 (k + 1) [.v (.int .i64 a0)] = spec_l03Turn.b (fun r => some (spec_l03Turn.enc r)) k a0 := by kernel_rfl
theorem spec_l03Turn.b_nat {R R' : Type} (e : R → R') (ret : Int → Option R) (k : Nat) (a0 : Int) : spec_l03Turn.b (fun r => (ret r).map e) k a0 = (spec_l03Turn.b ret k a0).map e := by
  unfold spec_l03Turn.b
  repeat' first | with_reducible refine nat_cond ?_ ?_ | with_reducible refine nat_bind fun _ => ?_ | rfl
theorem spec_l03Turn.eq (k : Nat) (a0 : Int) : answer Try.prog spec_l03Turn.Cs 100000 spec_l03Turn.cuts [] Try.f225 (k + 1) [.v (.int .i64 a0)] = (spec_l03Turn.f (k + 1) a0).map spec_l03Turn.enc := by
  refine (spec_l03Turn.s k a0).trans (Eq.trans ?_ (spec_l03Turn.b_nat spec_l03Turn.enc some k a0))
  simp only [Option.map_some]
theorem spec_l03Turn.sound (k : Nat) : SoundF Try.prog 225 (fun a => (spec_l03Turn.ans k a).val) := by
  refine sound_plain (fun args res h => ?_) (fun t n => rfl)
  unfold spec_l03Turn.ans at h
  dsimp only at h
  split at h
  · cases k with
    | zero => cases h
    | succ k =>
      unfold Ans.val at h
      rw [← spec_l03Turn.eq] at h
      exact answer_sound mixed Try.func225 _ _ _ (k + 1) (fun j _ => tab_sound (tab_nil)) _ _ h
  · exact (Ans.no_val h).elim

/-! loop.example/g00790/spec.CrcMore -/
def spec_CrcMore.b {R : Type} (ret : Int → Option R) (j0 : Int → Bool → (List Int) → Int → Int → Option R) (j1 : Int → Int → Bool → (List Int) → Int → Int → Option R) (k : Nat) (a0 : Int) (a1z : Bool) (a1 : List Int) : Option R :=
  (spec_l03Sum.f k a0).bind fun t0 => cond (!t0) (ret 0) (j0 (Go.bits .xor .i64 a0 4294967295) a1z a1 ((a1).length : Int) 0)
def spec_CrcMore.l0b {R : Type} (ret : Int → Option R) (j0 : Int → Bool → (List Int) → Int → Int → Option R) (j1 : Int → Int → Bool → (List Int) → Int → Int → Option R) (k : Nat) (x5 : Int) (x14z : Bool) (x14 : List Int) (x15 : Int) (x16 : Int) : Option R :=
  cond (decide (x16 < x15)) (cond (decide ((0 : Int) ≤ x16)) (cond (decide (x16 < ((x14).length : Int))) (j1 (Go.bits .xor .i64 x5 (RowKit.wrap64 ((rdI x14 x16)))) 0 x14z x14 x15 x16) (none)) (none)) (ret (Go.bits .xor .i64 x5 4294967295))
def spec_CrcMore.l1b {R : Type} (ret : Int → Option R) (j0 : Int → Bool → (List Int) → Int → Int → Option R) (j1 : Int → Int → Bool → (List Int) → Int → Int → Option R) (k : Nat) (x5 : Int) (x8 : Int) (x14z : Bool) (x14 : List Int) (x15 : Int) (x16 : Int) : Option R :=
  cond (decide (x8 < 8)) ((spec_l03Turn.f k x5).bind fun t0 => j1 t0 (RowKit.wrap64 (x8 + 1)) x14z x14 x15 x16) (j0 x5 x14z x14 x15 (RowKit.wrap64 (x16 + 1)))
mutual
def spec_CrcMore.l0 : Nat → Int → Bool → (List Int) → Int → Int → Option Int
  | 0, _, _, _, _, _ => none
  | k + 1, x5, x14z, x14, x15, x16 => spec_CrcMore.l0b some (spec_CrcMore.l0 k) (spec_CrcMore.l1 k) k x5 x14z x14 x15 x16
def spec_CrcMore.l1 : Nat → Int → Int → Bool → (List Int) → Int → Int → Option Int
  | 0, _, _, _, _, _, _ => none
  | k + 1, x5, x8, x14z, x14, x15, x16 => spec_CrcMore.l1b some (spec_CrcMore.l0 k) (spec_CrcMore.l1 k) k x5 x8 x14z x14 x15 x16
end
def spec_CrcMore.f : Nat → Int → Bool → (List Int) → Option Int
  | 0, _, _, _ => none
  | k + 1, a0, a1z, a1 => spec_CrcMore.b some (spec_CrcMore.l0 k) (spec_CrcMore.l1 k) k a0 a1z a1
def spec_CrcMore.enc (r : Int) : Res := ⟨[.vals false [((.int .i64 r), true)]], []⟩
def spec_CrcMore.ans (k : Nat) : List Arg → Ans
  | [.v (.int .i64 a0), .v (.nums 5 .u8 a1z a1)] => ⟨spec_CrcMore.f k a0 a1z a1, spec_CrcMore.enc⟩
  | _ => Ans.no
def spec_CrcMore.Cs (k : Nat) : CallSem := tab [(224, spec_l03Sum.ans k), (225, spec_l03Turn.ans k)]
def spec_CrcMore.cuts : List (Nat × Keep) := [(122, ⟨[(5, some []), (14, some []), (15, some []), (16, some [])], []⟩), (62670, ⟨[(5, some []), (8, some []), (14, some []), (15, some []), (16, some [])], []⟩)]
noncomputable def spec_CrcMore.K0 : List Fr := framesAt [true, true, true, false, true, false] (bodyOf Try.f221 spec_CrcMore.cuts) []
def spec_CrcMore.N0 (x5 : Int) (x14z : Bool) (x14 : List Int) (x15 : Int) (x16 : Int) : St := stOf 33 33 2 [(5, .val (V.s (.int .i64 x5))), (14, .val ⟨(.nums 5 .u8 x14z x14), [], false, none⟩), (15, .val (V.s (.int .i64 x15))), (16, .val (V.s (.int .i64 x16)))] []
noncomputable def spec_CrcMore.K1 : List Fr := framesAt [true, true, true, false, true, false, false, true, true, false, false, true, true, true, false] (bodyOf Try.f221 spec_CrcMore.cuts) []
def spec_CrcMore.N1 (x5 : Int) (x8 : Int) (x14z : Bool) (x14 : List Int) (x15 : Int) (x16 : Int) : St := stOf 33 33 2 [(5, .val (V.s (.int .i64 x5))), (8, .val (V.s (.int .i64 x8))), (14, .val ⟨(.nums 5 .u8 x14z x14), [], false, none⟩), (15, .val (V.s (.int .i64 x15))), (16, .val (V.s (.int .i64 x16)))] []
theorem spec_CrcMore.s (k : Nat) (a0 : Int) (a1z : Bool) (a1 : List Int) : answer Try.prog spec_CrcMore.Cs 100000 spec_CrcMore.cuts [] Try.f221 (k + 1) [.v (.int .i64 a0), .v (.nums 5 .u8 a1z a1)] = spec_CrcMore.b (fun r => some (spec_CrcMore.enc r)) (fun x5 x14z x14 x15 x16 => rounds Try.prog spec_CrcMore.Cs (finish Try.prog [] Try.f221 [.v (.int .i64 a0), .v (.nums 5 .u8 a1z a1)]) 100000 k spec_CrcMore.K0 (spec_CrcMore.N0 x5 x14z x14 x15 x16)) (fun x5 x8 x14z x14 x15 x16 => rounds Try.prog spec_CrcMore.Cs (finish Try.prog [] Try.f221 [.v (.int .i64 a0), .v (.nums 5 .u8 a1z a1)]) 100000 k spec_CrcMore.K1 (spec_CrcMore.N1 x5 x8 x14z x14 x15 x16)) k a0 a1z a1 := by kernel_rfl
theorem spec_CrcMore.s0 (k : Nat) (G : List Fr → St → Option Res) (a0 : Int) (a1z : Bool) (a1 : List Int) (yx5 : Int) (yx14z : Bool) (yx14 : List Int) (yx15 : Int) (yx16 : Int) : resume Try.prog (spec_CrcMore.Cs k) G (finish Try.prog [] Try.f221 [.v (.int .i64 a0), .v (.nums 5 .u8 a1z a1)]) 100000 spec_CrcMore.K0 (spec_CrcMore.N0 yx5 yx14z yx14 yx15 yx16) = spec_CrcMore.l0b (fun r => some (spec_CrcMore.enc r)) (fun x5 x14z x14 x15 x16 => G spec_CrcMore.K0 (spec_CrcMore.N0 x5 x14z x14 x15 x16)) (fun x5 x8 x14z x14 x15 x16 => G spec_CrcMore.K1 (spec_CrcMore.N1 x5 x8 x14z x14 x15 x16)) k yx5 yx14z yx14 yx15 yx16 := by kernel_rfl
theorem spec_CrcMore.s1 (k : Nat) (G : List Fr → St → Option Res) (a0 : Int) (a1z : Bool) (a1 : List Int) (yx5 : Int) (yx8 : Int) (yx14z : Bool) (yx14 : List Int) (yx15 : Int) (yx16 : Int) : resume Try.prog (spec_CrcMore.Cs k) G (finish Try.prog [] Try.f221 [.v (.int .i64 a0), .v (.nums 5 .u8 a1z a1)]) 100000 spec_CrcMore.K1 (spec_CrcMore.N1 yx5 yx8 yx14z yx14 yx15 yx16) = spec_CrcMore.l1b (fun r => some (spec_CrcMore.enc r)) (fun x5 x14z x14 x15 x16 => G spec_CrcMore.K0 (spec_CrcMore.N0 x5 x14z x14 x15 x16)) (fun x5 x8 x14z x14 x15 x16 => G spec_CrcMore.K1 (spec_CrcMore.N1 x5 x8 x14z x14 x15 x16)) k yx5 yx8 yx14z yx14 yx15 yx16 := by kernel_rfl
theorem spec_CrcMore.b_nat {R R' : Type} (e : R → R') (ret : Int → Option R) (j0 : Int → Bool → (List Int) → Int → Int → Option R) (j1 : Int → Int → Bool → (List Int) → Int → Int → Option R) (k : Nat) (a0 : Int) (a1z : Bool) (a1 : List Int) : spec_CrcMore.b (fun r => (ret r).map e) (fun x5 x14z x14 x15 x16 => (j0 x5 x14z x14 x15 x16).map e) (fun x5 x8 x14z x14 x15 x16 => (j1 x5 x8 x14z x14 x15 x16).map e) k a0 a1z a1 = (spec_CrcMore.b ret j0 j1 k a0 a1z a1).map e := by
  unfold spec_CrcMore.b
  repeat' first | with_reducible refine nat_cond ?_ ?_ | with_reducible refine nat_bind fun _ => ?_ | rfl
theorem spec_CrcMore.l0b_nat {R R' : Type} (e : R → R') (ret : Int → Option R) (j0 : Int → Bool → (List Int) → Int → Int → Option R) (j1 : Int → Int → Bool → (List Int) → Int → Int → Option R) (k : Nat) (x5 : Int) (x14z : Bool) (x14 : List Int) (x15 : Int) (x16 : Int) : spec_CrcMore.l0b (fun r => (ret r).map e) (fun x5 x14z x14 x15 x16 => (j0 x5 x14z x14 x15 x16).map e) (fun x5 x8 x14z x14 x15 x16 => (j1 x5 x8 x14z x14 x15 x16).map e) k x5 x14z x14 x15 x16 = (spec_CrcMore.l0b ret j0 j1 k x5 x14z x14 x15 x16).map e := by
  unfold spec_CrcMore.l0b
  repeat' first | with_reducible refine nat_cond ?_ ?_ | with_reducible refine nat_bind fun _ => ?_ | rfl
theorem spec_CrcMore.l1b_nat {R R' : Type} (e : R → R') (ret : Int → Option R) (j0 : Int → Bool → (List Int) → Int → Int → Option R) (j1 : Int → Int → Bool → (List Int) → Int → Int → Option R) (k : Nat) (x5 : Int) (x8 : Int) (x14z : Bool) (x14 : List Int) (x15 : Int) (x16 : Int) : spec_CrcMore.l1b (fun r => (ret r).map e) (fun x5 x14z x14 x15 x16 => (j0 x5 x14z x14 x15 x16).map e) (fun x5 x8 x14z x14 x15 x16 => (j1 x5 x8 x14z x14 x15 x16).map e) k x5 x8 x14z x14 x15 x16 = (spec_CrcMore.l1b ret j0 j1 k x5 x8 x14z x14 x15 x16).map e := by
  unfold spec_CrcMore.l1b
  repeat' first | with_reducible refine nat_cond ?_ ?_ | with_reducible refine nat_bind fun _ => ?_ | rfl
theorem spec_CrcMore.rounds_eq (a0 : Int) (a1z : Bool) (a1 : List Int) : ∀ k, (∀ (x5 : Int) (x14z : Bool) (x14 : List Int) (x15 : Int) (x16 : Int), rounds Try.prog spec_CrcMore.Cs (finish Try.prog [] Try.f221 [.v (.int .i64 a0), .v (.nums 5 .u8 a1z a1)]) 100000 k spec_CrcMore.K0 (spec_CrcMore.N0 x5 x14z x14 x15 x16) = (spec_CrcMore.l0 k x5 x14z x14 x15 x16).map spec_CrcMore.enc) ∧ (∀ (x5 : Int) (x8 : Int) (x14z : Bool) (x14 : List Int) (x15 : Int) (x16 : Int), rounds Try.prog spec_CrcMore.Cs (finish Try.prog [] Try.f221 [.v (.int .i64 a0), .v (.nums 5 .u8 a1z a1)]) 100000 k spec_CrcMore.K1 (spec_CrcMore.N1 x5 x8 x14z x14 x15 x16) = (spec_CrcMore.l1 k x5 x8 x14z x14 x15 x16).map spec_CrcMore.enc)
  | 0 => ⟨fun _ _ _ _ _ => rfl, fun _ _ _ _ _ _ => rfl⟩
  | k + 1 => by
    have ih := spec_CrcMore.rounds_eq a0 a1z a1 k
    refine ⟨fun _ _ _ _ _ => ?_, fun _ _ _ _ _ _ => ?_⟩
    · refine (spec_CrcMore.s0 k _ a0 a1z a1 _ _ _ _ _).trans (Eq.trans ?_ (spec_CrcMore.l0b_nat spec_CrcMore.enc some (spec_CrcMore.l0 k) (spec_CrcMore.l1 k) k _ _ _ _ _))
      simp only [ih.1, ih.2, Option.map_some]
    · refine (spec_CrcMore.s1 k _ a0 a1z a1 _ _ _ _ _ _).trans (Eq.trans ?_ (spec_CrcMore.l1b_nat spec_CrcMore.enc some (spec_CrcMore.l0 k) (spec_CrcMore.l1 k) k _ _ _ _ _ _))
      simp only [ih.1, ih.2, Option.map_some]
theorem spec_CrcMore.eq (k : Nat) (a0 : Int) (a1z : Bool) (a1 : List Int) : answer Try.prog spec_CrcMore.Cs 100000 spec_CrcMore.cuts [] Try.f221 (k + 1) [.v (.int .i64 a0), .v (.nums 5 .u8 a1z a1)] = (spec_CrcMore.f (k + 1) a0 a1z a1).map spec_CrcMore.enc := by
  have ih := spec_CrcMore.rounds_eq a0 a1z a1 k
  refine (spec_CrcMore.s k a0 a1z a1).trans (Eq.trans ?_ (spec_CrcMore.b_nat spec_CrcMore.enc some (spec_CrcMore.l0 k) (spec_CrcMore.l1 k) k a0 a1z a1))
  simp only [ih.1, ih.2, Option.map_some]
theorem spec_CrcMore.sound (k : Nat) : SoundF Try.prog 221 (fun a => (spec_CrcMore.ans k a).val) := by
  refine sound_plain (fun args res h => ?_) (fun t n => rfl)
  unfold spec_CrcMore.ans at h
  dsimp only at h
  split at h
  · cases k with
    | zero => cases h
    | succ k =>
      unfold Ans.val at h
      rw [← spec_CrcMore.eq] at h
      exact answer_sound mixed Try.func221 _ _ _ (k + 1) (fun j _ => tab_sound (tab_cons (spec_l03Sum.sound j) (tab_cons (spec_l03Turn.sound j) (tab_nil)))) _ _ h
  · exact (Ans.no_val h).elim

/-! loop.example/g00790/spec.Crc -/
def spec_Crc.b {R : Type} (ret : Int → Option R) (k : Nat) (a0z : Bool) (a0 : List Int) : Option R :=
  (spec_CrcMore.f k 0 a0z a0).bind fun t0 => ret t0
def spec_Crc.f : Nat → Bool → (List Int) → Option Int
  | 0, _, _ => none
  | k + 1, a0z, a0 => spec_Crc.b some k a0z a0
def spec_Crc.enc (r : Int) : Res := ⟨[.vals false [((.int .i64 r), true)]], []⟩
def spec_Crc.ans (k : Nat) : List Arg → Ans
  | [.v (.nums 5 .u8 a0z a0)] => ⟨spec_Crc.f k a0z a0, spec_Crc.enc⟩
  | _ => Ans.no
def spec_Crc.Cs (k : Nat) : CallSem := tab [(221, spec_CrcMore.ans k)]
def spec_Crc.cuts : List (Nat × Keep) := []
theorem spec_Crc.s (k : Nat) (a0z : Bool) (a0 : List Int) : answer Try.prog spec_Crc.Cs 100000 spec_Crc.cuts [] Try.f202 (k + 1) [.v (.nums 5 .u8 a0z a0)] = spec_Crc.b (fun r => some (spec_Crc.enc r)) k a0z a0 := by kernel_rfl
theorem spec_Crc.b_nat {R R' : Type} (e : R → R') (ret : Int → Option R) (k : Nat) (a0z : Bool) (a0 : List Int) : spec_Crc.b (fun r => (ret r).map e) k a0z a0 = (spec_Crc.b ret k a0z a0).map e := by
  unfold spec_Crc.b
  repeat' first | with_reducible refine nat_cond ?_ ?_ | with_reducible refine nat_bind fun _ => ?_ | rfl
theorem spec_Crc.eq (k : Nat) (a0z : Bool) (a0 : List Int) : answer Try.prog spec_Crc.Cs 100000 spec_Crc.cuts [] Try.f202 (k + 1) [.v (.nums 5 .u8 a0z a0)] = (spec_Crc.f (k + 1) a0z a0).map spec_Crc.enc := by
  refine (spec_Crc.s k a0z a0).trans (Eq.trans ?_ (spec_Crc.b_nat spec_Crc.enc some k a0z a0))
  simp only [Option.map_some]
theorem spec_Crc.sound (k : Nat) : SoundF Try.prog 202 (fun a => (spec_Crc.ans k a).val) := by
  refine sound_plain (fun args res h => ?_) (fun t n => rfl)
  unfold spec_Crc.ans at h
  dsimp only at h
  split at h
  · cases k with
    | zero => cases h
    | succ k =>
      unfold Ans.val at h
      rw [← spec_Crc.eq] at h
      exact answer_sound mixed Try.func202 _ _ _ (k + 1) (fun j _ => tab_sound (tab_cons (spec_CrcMore.sound j) (tab_nil))) _ _ h
  · exact (Ans.no_val h).elim

/-! loop.example/g00790/spec.FrameAt -/
def spec_FrameAt.b {R : Type} (ret : Int × Int → Option R) (j0 : Bool → (List Int) → Int → Int → Int → Int → Int → Int → Option R) (k : Nat) (a0_0 : Int) (a0_1 : Int) (a0_2 : Int) (a0_3 : Int) (a0_4 : Int) (a1z : Bool) (a1 : List Int) (a2 : Int) : Option R :=
  (spec_LimitsOk.f k a0_0 a0_1 a0_2 a0_3 a0_4).bind fun t0 => cond (!t0) (ret (0, 0)) ((spec_l01In.f k a2 0 (RowKit.wrap64 (((a1).length : Int) - 1))).bind fun t1 => cond (!t1) (ret (0, 0)) (cond (decide ((0 : Int) ≤ a2)) (cond (decide (a2 < ((a1).length : Int))) (cond (!(decide ((rdI a1 a2) = 181))) (ret (0, 0)) (cond (decide ((RowKit.wrap64 (a2 + 1)) < ((a1).length : Int))) (cond (decide ((0 : Int) ≤ (RowKit.wrap64 (a2 + 1)))) (cond (decide ((RowKit.wrap64 (a2 + 1)) < ((a1).length : Int))) (cond (!(decide ((rdI a1 (RowKit.wrap64 (a2 + 1))) = 70))) (ret (0, 0)) (j0 a1z a1 a2 a0_0 a0_1 a0_2 a0_3 a0_4)) (none)) (none)) (j0 a1z a1 a2 a0_0 a0_1 a0_2 a0_3 a0_4))) (none)) (none)))
def spec_FrameAt.l0b {R : Type} (ret : Int × Int → Option R) (j0 : Bool → (List Int) → Int → Int → Int → Int → Int → Int → Option R) (k : Nat) (x1z : Bool) (x1 : List Int) (x2 : Int) (c3_0 : Int) (c3_1 : Int) (c3_2 : Int) (c3_3 : Int) (c3_4 : Int) : Option R :=
  cond (decide ((RowKit.wrap64 (((x1).length : Int) - x2)) < 4)) (ret (1, 0)) ((spec_GetFix.f k x1z x1 (RowKit.wrap64 (x2 + 2)) 2).bind fun t0 => (spec_l01In.f k t0.1 1 c3_3).bind fun t1 => cond (!t1) (ret (0, 0)) (cond (decide ((RowKit.wrap64 (((x1).length : Int) - x2)) < (RowKit.wrap64 ((8 : Int) + t0.1)))) (ret (1, (RowKit.wrap64 ((8 : Int) + t0.1)))) ((spec_GetFix.f k x1z x1 (RowKit.wrap64 (x2 + 4)) 4).bind fun t2 => cond (decide ((0 : Int) ≤ (RowKit.wrap64 ((RowKit.wrap64 (x2 + 8)) + t0.1)))) (cond (decide ((RowKit.wrap64 ((RowKit.wrap64 (x2 + 8)) + t0.1)) ≤ ((x1).length : Int))) (cond (decide ((0 : Int) ≤ (RowKit.wrap64 (x2 + 8)))) (cond (decide ((RowKit.wrap64 (x2 + 8)) ≤ (RowKit.wrap64 ((RowKit.wrap64 (x2 + 8)) + t0.1)))) ((spec_Crc.f k x1z (((x1).take ((RowKit.wrap64 ((RowKit.wrap64 (x2 + 8)) + t0.1))).toNat).drop ((RowKit.wrap64 (x2 + 8))).toNat)).bind fun t3 => cond (!(decide (t2.1 = t3))) (ret (2, (RowKit.wrap64 ((8 : Int) + t0.1)))) (ret (3, (RowKit.wrap64 ((8 : Int) + t0.1))))) (none)) (none)) (none)) (none))))
def spec_FrameAt.l0 : Nat → Bool → (List Int) → Int → Int → Int → Int → Int → Int → Option (Int × Int)
  | 0, _, _, _, _, _, _, _, _ => none
  | k + 1, x1z, x1, x2, c3_0, c3_1, c3_2, c3_3, c3_4 => spec_FrameAt.l0b some (spec_FrameAt.l0 k) k x1z x1 x2 c3_0 c3_1 c3_2 c3_3 c3_4
def spec_FrameAt.f : Nat → Int → Int → Int → Int → Int → Bool → (List Int) → Int → Option (Int × Int)
  | 0, _, _, _, _, _, _, _, _ => none
  | k + 1, a0_0, a0_1, a0_2, a0_3, a0_4, a1z, a1, a2 => spec_FrameAt.b some (spec_FrameAt.l0 k) k a0_0 a0_1 a0_2 a0_3 a0_4 a1z a1 a2
def spec_FrameAt.enc (r : Int × Int) : Res := ⟨[.vals false [((.int .i64 r.1), true)], .vals false [((.int .i64 r.2), true)]], []⟩
def spec_FrameAt.ans (k : Nat) : List Arg → Ans
  | [.v (.agg [(.int .i64 a0_0), (.int .i64 a0_1), (.int .i64 a0_2), (.int .i64 a0_3), (.int .i64 a0_4)]), .v (.nums 5 .u8 a1z a1), .v (.int .i64 a2)] => ⟨spec_FrameAt.f k a0_0 a0_1 a0_2 a0_3 a0_4 a1z a1 a2, spec_FrameAt.enc⟩
  | _ => Ans.no
def spec_FrameAt.Cs (k : Nat) : CallSem := tab [(81, spec_LimitsOk.ans k), (122, spec_l01In.ans k), (201, spec_GetFix.ans k), (202, spec_Crc.ans k)]
def spec_FrameAt.cuts : List (Nat × Keep) := [(3, ⟨[(1, some []), (2, some []), (3, some [])], [(3, [some [], some [], some [], some [], some []])]⟩)]
noncomputable def spec_FrameAt.K0 : List Fr := framesAt [true] (bodyOf Try.f160 spec_FrameAt.cuts) []
def spec_FrameAt.N0 (x1z : Bool) (x1 : List Int) (x2 : Int) (c3_0 : Int) (c3_1 : Int) (c3_2 : Int) (c3_3 : Int) (c3_4 : Int) : St := stOf 97 97 3 [(1, .val ⟨(.nums 5 .u8 x1z x1), [], false, none⟩), (2, .val (V.s (.int .i64 x2))), (3, .bp 3 0)] [(3, .cells [V.s (.int .i64 c3_0), V.s (.int .i64 c3_1), V.s (.int .i64 c3_2), V.s (.int .i64 c3_3), V.s (.int .i64 c3_4)])]
theorem spec_FrameAt.s (k : Nat) (a0_0 : Int) (a0_1 : Int) (a0_2 : Int) (a0_3 : Int) (a0_4 : Int) (a1z : Bool) (a1 : List Int) (a2 : Int) : answer Try.prog spec_FrameAt.Cs 100000 spec_FrameAt.cuts [] Try.f160 (k + 1) [.v (.agg [(.int .i64 a0_0), (.int .i64 a0_1), (.int .i64 a0_2), (.int .i64 a0_3), (.int .i64 a0_4)]), .v (.nums 5 .u8 a1z a1), .v (.int .i64 a2)] = spec_FrameAt.b (fun r => some (spec_FrameAt.enc r)) (fun x1z x1 x2 c3_0 c3_1 c3_2 c3_3 c3_4 => rounds Try.prog spec_FrameAt.Cs (finish Try.prog [] Try.f160 [.v (.agg [(.int .i64 a0_0), (.int .i64 a0_1), (.int .i64 a0_2), (.int .i64 a0_3), (.int .i64 a0_4)]), .v (.nums 5 .u8 a1z a1), .v (.int .i64 a2)]) 100000 k spec_FrameAt.K0 (spec_FrameAt.N0 x1z x1 x2 c3_0 c3_1 c3_2 c3_3 c3_4)) k a0_0 a0_1 a0_2 a0_3 a0_4 a1z a1 a2 := by kernel_rfl
theorem spec_FrameAt.s0 (k : Nat) (G : List Fr → St → Option Res) (a0_0 : Int) (a0_1 : Int) (a0_2 : Int) (a0_3 : Int) (a0_4 : Int) (a1z : Bool) (a1 : List Int) (a2 : Int) (yx1z : Bool) (yx1 : List Int) (yx2 : Int) (yc3_0 : Int) (yc3_1 : Int) (yc3_2 : Int) (yc3_3 : Int) (yc3_4 : Int) : resume Try.prog (spec_FrameAt.Cs k) G (finish Try.prog [] Try.f160 [.v (.agg [(.int .i64 a0_0), (.int .i64 a0_1), (.int .i64 a0_2), (.int .i64 a0_3), (.int .i64 a0_4)]), .v (.nums 5 .u8 a1z a1), .v (.int .i64 a2)]) 100000 spec_FrameAt.K0 (spec_FrameAt.N0 yx1z yx1 yx2 yc3_0 yc3_1 yc3_2 yc3_3 yc3_4) = spec_FrameAt.l0b (fun r => some (spec_FrameAt.enc r)) (fun x1z x1 x2 c3_0 c3_1 c3_2 c3_3 c3_4 => G spec_FrameAt.K0 (spec_FrameAt.N0 x1z x1 x2 c3_0 c3_1 c3_2 c3_3 c3_4)) k yx1z yx1 yx2 yc3_0 yc3_1 yc3_2 yc3_3 yc3_4 := by kernel_rfl
theorem spec_FrameAt.b_nat {R R' : Type} (e : R → R') (ret : Int × Int → Option R) (j0 : Bool → (List Int) → Int → Int → Int → Int → Int → Int → Option R) (k : Nat) (a0_0 : Int) (a0_1 : Int) (a0_2 : Int) (a0_3 : Int) (a0_4 : Int) (a1z : Bool) (a1 : List Int) (a2 : Int) : spec_FrameAt.b (fun r => (ret r).map e) (fun x1z x1 x2 c3_0 c3_1 c3_2 c3_3 c3_4 => (j0 x1z x1 x2 c3_0 c3_1 c3_2 c3_3 c3_4).map e) k a0_0 a0_1 a0_2 a0_3 a0_4 a1z a1 a2 = (spec_FrameAt.b ret j0 k a0_0 a0_1 a0_2 a0_3 a0_4 a1z a1 a2).map e := by
  unfold spec_FrameAt.b
  repeat' first | with_reducible refine nat_cond ?_ ?_ | with_reducible refine nat_bind fun _ => ?_ | rfl
theorem spec_FrameAt.l0b_nat {R R' : Type} (e : R → R') (ret : Int × Int → Option R) (j0 : Bool → (List Int) → Int → Int → Int → Int → Int → Int → Option R) (k : Nat) (x1z : Bool) (x1 : List Int) (x2 : Int) (c3_0 : Int) (c3_1 : Int) (c3_2 : Int) (c3_3 : Int) (c3_4 : Int) : spec_FrameAt.l0b (fun r => (ret r).map e) (fun x1z x1 x2 c3_0 c3_1 c3_2 c3_3 c3_4 => (j0 x1z x1 x2 c3_0 c3_1 c3_2 c3_3 c3_4).map e) k x1z x1 x2 c3_0 c3_1 c3_2 c3_3 c3_4 = (spec_FrameAt.l0b ret j0 k x1z x1 x2 c3_0 c3_1 c3_2 c3_3 c3_4).map e := by
  unfold spec_FrameAt.l0b
  repeat' first | with_reducible refine nat_cond ?_ ?_ | with_reducible refine nat_bind fun _ => ?_ | rfl
theorem spec_FrameAt.rounds_eq (a0_0 : Int) (a0_1 : Int) (a0_2 : Int) (a0_3 : Int) (a0_4 : Int) (a1z : Bool) (a1 : List Int) (a2 : Int) : ∀ k, (∀ (x1z : Bool) (x1 : List Int) (x2 : Int) (c3_0 : Int) (c3_1 : Int) (c3_2 : Int) (c3_3 : Int) (c3_4 : Int), rounds Try.prog spec_FrameAt.Cs (finish Try.prog [] Try.f160 [.v (.agg [(.int .i64 a0_0), (.int .i64 a0_1), (.int .i64 a0_2), (.int .i64 a0_3), (.int .i64 a0_4)]), .v (.nums 5 .u8 a1z a1), .v (.int .i64 a2)]) 100000 k spec_FrameAt.K0 (spec_FrameAt.N0 x1z x1 x2 c3_0 c3_1 c3_2 c3_3 c3_4) = (spec_FrameAt.l0 k x1z x1 x2 c3_0 c3_1 c3_2 c3_3 c3_4).map spec_FrameAt.enc)
  | 0 => fun _ _ _ _ _ _ _ _ => rfl
  | k + 1 => by
    have ih := spec_FrameAt.rounds_eq a0_0 a0_1 a0_2 a0_3 a0_4 a1z a1 a2 k
    refine fun _ _ _ _ _ _ _ _ => ?_
    · refine (spec_FrameAt.s0 k _ a0_0 a0_1 a0_2 a0_3 a0_4 a1z a1 a2 _ _ _ _ _ _ _ _).trans (Eq.trans ?_ (spec_FrameAt.l0b_nat spec_FrameAt.enc some (spec_FrameAt.l0 k) k _ _ _ _ _ _ _ _))
      simp only [ih, Option.map_some]
theorem spec_FrameAt.eq (k : Nat) (a0_0 : Int) (a0_1 : Int) (a0_2 : Int) (a0_3 : Int) (a0_4 : Int) (a1z : Bool) (a1 : List Int) (a2 : Int) : answer Try.prog spec_FrameAt.Cs 100000 spec_FrameAt.cuts [] Try.f160 (k + 1) [.v (.agg [(.int .i64 a0_0), (.int .i64 a0_1), (.int .i64 a0_2), (.int .i64 a0_3), (.int .i64 a0_4)]), .v (.nums 5 .u8 a1z a1), .v (.int .i64 a2)] = (spec_FrameAt.f (k + 1) a0_0 a0_1 a0_2 a0_3 a0_4 a1z a1 a2).map spec_FrameAt.enc := by
  have ih := spec_FrameAt.rounds_eq a0_0 a0_1 a0_2 a0_3 a0_4 a1z a1 a2 k
  refine (spec_FrameAt.s k a0_0 a0_1 a0_2 a0_3 a0_4 a1z a1 a2).trans (Eq.trans ?_ (spec_FrameAt.b_nat spec_FrameAt.enc some (spec_FrameAt.l0 k) k a0_0 a0_1 a0_2 a0_3 a0_4 a1z a1 a2))
  simp only [ih, Option.map_some]
theorem spec_FrameAt.sound (k : Nat) : SoundF Try.prog 160 (fun a => (spec_FrameAt.ans k a).val) := by
  refine sound_plain (fun args res h => ?_) (fun t n => rfl)
  unfold spec_FrameAt.ans at h
  dsimp only at h
  split at h
  · cases k with
    | zero => cases h
    | succ k =>
      unfold Ans.val at h
      rw [← spec_FrameAt.eq] at h
      exact answer_sound mixed Try.func160 _ _ _ (k + 1) (fun j _ => tab_sound (tab_cons (spec_LimitsOk.sound j) (tab_cons (spec_l01In.sound j) (tab_cons (spec_GetFix.sound j) (tab_cons (spec_Crc.sound j) (tab_nil)))))) _ _ h
  · exact (Ans.no_val h).elim

/-! loop.example/g00790/spec.PushOk -/
def spec_PushOk.b {R : Type} (ret : Bool → Option R) (k : Nat) (a0_0 : Int) (a0_1 : Int) (a0_2 : Int) (a0_3 : Int) (a0_4 : Int) (a1_0 : Int) (a1_1z : Bool) (a1_1 : List Int) : Option R :=
  (spec_LimitsOk.f k a0_0 a0_1 a0_2 a0_3 a0_4).bind fun t0 => cond (!t0) (ret false) ((spec_l01Num.f k a1_0).bind fun t1 => cond (!t1) (ret false) ((spec_FrameAt.f k a0_0 a0_1 a0_2 a0_3 a0_4 a1_1z a1_1 0).bind fun t2 => cond (decide (((a1_1).length : Int) = 0)) (ret true) (ret (decide (t2.1 = 1)))))
def spec_PushOk.f : Nat → Int → Int → Int → Int → Int → Int → Bool → (List Int) → Option Bool
  | 0, _, _, _, _, _, _, _, _ => none
  | k + 1, a0_0, a0_1, a0_2, a0_3, a0_4, a1_0, a1_1z, a1_1 => spec_PushOk.b some k a0_0 a0_1 a0_2 a0_3 a0_4 a1_0 a1_1z a1_1
def spec_PushOk.enc (r : Bool) : Res := ⟨[.vals false [((.bool r), true)]], []⟩
def spec_PushOk.ans (k : Nat) : List Arg → Ans
  | [.v (.agg [(.int .i64 a0_0), (.int .i64 a0_1), (.int .i64 a0_2), (.int .i64 a0_3), (.int .i64 a0_4)]), .v (.agg [(.int .i64 a1_0), (.nums 5 .u8 a1_1z a1_1)])] => ⟨spec_PushOk.f k a0_0 a0_1 a0_2 a0_3 a0_4 a1_0 a1_1z a1_1, spec_PushOk.enc⟩
  | _ => Ans.no
def spec_PushOk.Cs (k : Nat) : CallSem := tab [(81, spec_LimitsOk.ans k), (152, spec_l01Num.ans k), (160, spec_FrameAt.ans k)]
def spec_PushOk.cuts : List (Nat × Keep) := []
theorem spec_PushOk.s (k : Nat) (a0_0 : Int) (a0_1 : Int) (a0_2 : Int) (a0_3 : Int) (a0_4 : Int) (a1_0 : Int) (a1_1z : Bool) (a1_1 : List Int) : answer Try.prog spec_PushOk.Cs 100000 spec_PushOk.cuts [] Try.f90 (k + 1) [.v (.agg [(.int .i64 a0_0), (.int .i64 a0_1), (.int .i64 a0_2), (.int .i64 a0_3), (.int .i64 a0_4)]), .v (.agg [(.int .i64 a1_0), (.nums 5 .u8 a1_1z a1_1)])] = spec_PushOk.b (fun r => some (spec_PushOk.enc r)) k a0_0 a0_1 a0_2 a0_3 a0_4 a1_0 a1_1z a1_1 := by kernel_rfl
theorem spec_PushOk.b_nat {R R' : Type} (e : R → R') (ret : Bool → Option R) (k : Nat) (a0_0 : Int) (a0_1 : Int) (a0_2 : Int) (a0_3 : Int) (a0_4 : Int) (a1_0 : Int) (a1_1z : Bool) (a1_1 : List Int) : spec_PushOk.b (fun r => (ret r).map e) k a0_0 a0_1 a0_2 a0_3 a0_4 a1_0 a1_1z a1_1 = (spec_PushOk.b ret k a0_0 a0_1 a0_2 a0_3 a0_4 a1_0 a1_1z a1_1).map e := by
  unfold spec_PushOk.b
  repeat' first | with_reducible refine nat_cond ?_ ?_ | with_reducible refine nat_bind fun _ => ?_ | rfl
theorem spec_PushOk.eq (k : Nat) (a0_0 : Int) (a0_1 : Int) (a0_2 : Int) (a0_3 : Int) (a0_4 : Int) (a1_0 : Int) (a1_1z : Bool) (a1_1 : List Int) : answer Try.prog spec_PushOk.Cs 100000 spec_PushOk.cuts [] Try.f90 (k + 1) [.v (.agg [(.int .i64 a0_0), (.int .i64 a0_1), (.int .i64 a0_2), (.int .i64 a0_3), (.int .i64 a0_4)]), .v (.agg [(.int .i64 a1_0), (.nums 5 .u8 a1_1z a1_1)])] = (spec_PushOk.f (k + 1) a0_0 a0_1 a0_2 a0_3 a0_4 a1_0 a1_1z a1_1).map spec_PushOk.enc := by
  refine (spec_PushOk.s k a0_0 a0_1 a0_2 a0_3 a0_4 a1_0 a1_1z a1_1).trans (Eq.trans ?_ (spec_PushOk.b_nat spec_PushOk.enc some k a0_0 a0_1 a0_2 a0_3 a0_4 a1_0 a1_1z a1_1))
  simp only [Option.map_some]
theorem spec_PushOk.sound (k : Nat) : SoundF Try.prog 90 (fun a => (spec_PushOk.ans k a).val) := by
  refine sound_plain (fun args res h => ?_) (fun t n => rfl)
  unfold spec_PushOk.ans at h
  dsimp only at h
  split at h
  · cases k with
    | zero => cases h
    | succ k =>
      unfold Ans.val at h
      rw [← spec_PushOk.eq] at h
      exact answer_sound mixed Try.func90 _ _ _ (k + 1) (fun j _ => tab_sound (tab_cons (spec_LimitsOk.sound j) (tab_cons (spec_l01Num.sound j) (tab_cons (spec_FrameAt.sound j) (tab_nil))))) _ _ h
  · exact (Ans.no_val h).elim

/-! loop.example/g00790/spec.l07Hash -/
def spec_l07Hash.b {R : Type} (ret : Bool → Option R) (k : Nat) (a0z : Bool) (a0 : List Int) : Option R :=
  ret (decide (((a0).length : Int) = 32))
def spec_l07Hash.f : Nat → Bool → (List Int) → Option Bool
  | 0, _, _ => none
  | k + 1, a0z, a0 => spec_l07Hash.b some k a0z a0
def spec_l07Hash.enc (r : Bool) : Res := ⟨[.vals false [((.bool r), true)]], []⟩
def spec_l07Hash.ans (k : Nat) : List Arg → Ans
  | [.v (.nums 5 .u8 a0z a0)] => ⟨spec_l07Hash.f k a0z a0, spec_l07Hash.enc⟩
  | _ => Ans.no
def spec_l07Hash.Cs (k : Nat) : CallSem := tab []
def spec_l07Hash.cuts : List (Nat × Keep) := []
theorem spec_l07Hash.s (k : Nat) (a0z : Bool) (a0 : List Int) : answer Try.prog spec_l07Hash.Cs 100000 spec_l07Hash.cuts [] Try.f153 (k + 1) [.v (.nums 5 .u8 a0z a0)] = spec_l07Hash.b (fun r => some (spec_l07Hash.enc r)) k a0z a0 := by kernel_rfl
theorem spec_l07Hash.b_nat {R R' : Type} (e : R → R') (ret : Bool → Option R) (k : Nat) (a0z : Bool) (a0 : List Int) : spec_l07Hash.b (fun r => (ret r).map e) k a0z a0 = (spec_l07Hash.b ret k a0z a0).map e := by
  unfold spec_l07Hash.b
  repeat' first | with_reducible refine nat_cond ?_ ?_ | with_reducible refine nat_bind fun _ => ?_ | rfl
theorem spec_l07Hash.eq (k : Nat) (a0z : Bool) (a0 : List Int) : answer Try.prog spec_l07Hash.Cs 100000 spec_l07Hash.cuts [] Try.f153 (k + 1) [.v (.nums 5 .u8 a0z a0)] = (spec_l07Hash.f (k + 1) a0z a0).map spec_l07Hash.enc := by
  refine (spec_l07Hash.s k a0z a0).trans (Eq.trans ?_ (spec_l07Hash.b_nat spec_l07Hash.enc some k a0z a0))
  simp only [Option.map_some]
theorem spec_l07Hash.sound (k : Nat) : SoundF Try.prog 153 (fun a => (spec_l07Hash.ans k a).val) := by
  refine sound_plain (fun args res h => ?_) (fun t n => rfl)
  unfold spec_l07Hash.ans at h
  dsimp only at h
  split at h
  · cases k with
    | zero => cases h
    | succ k =>
      unfold Ans.val at h
      rw [← spec_l07Hash.eq] at h
      exact answer_sound mixed Try.func153 _ _ _ (k + 1) (fun j _ => tab_sound (tab_nil)) _ _ h
  · exact (Ans.no_val h).elim

/-! loop.example/g00790/spec.BitsSize -/
def spec_BitsSize.b {R : Type} (ret : Int → Option R) (k : Nat) (a0 : Int) : Option R :=
  cond (decide (a0 < 1)) (ret 0) (ret (RowKit.wrap64 ((RowKit.wrap64 (Int.tdiv (RowKit.wrap64 (a0 - 1)) 8)) + 1)))
def spec_BitsSize.f : Nat → Int → Option Int
  | 0, _ => none
  | k + 1, a0 => spec_BitsSize.b some k a0
def spec_BitsSize.enc (r : Int) : Res := ⟨[.vals false [((.int .i64 r), true)]], []⟩
def spec_BitsSize.ans (k : Nat) : List Arg → Ans
  | [.v (.int .i64 a0)] => ⟨spec_BitsSize.f k a0, spec_BitsSize.enc⟩
  | _ => Ans.no
def spec_BitsSize.Cs (k : Nat) : CallSem := tab []
def spec_BitsSize.cuts : List (Nat × Keep) := []
theorem spec_BitsSize.s (k : Nat) (a0 : Int) : answer Try.prog spec_BitsSize.Cs 100000 spec_BitsSize.cuts [] Try.f134 (k + 1) [.v (.int .i64 a0)] = spec_BitsSize.b (fun r => some (spec_BitsSize.enc r)) k a0 := by kernel_rfl
theorem spec_BitsSize.b_nat {R R' : Type} (e : R → R') (ret : Int → Option R) (k : Nat) (a0 : Int) : spec_BitsSize.b (fun r => (ret r).map e) k a0 = (spec_BitsSize.b ret k a0).map e := by
  unfold spec_BitsSize.b
  repeat' first | with_reducible refine nat_cond ?_ ?_ | with_reducible refine nat_bind fun _ => ?_ | rfl
theorem spec_BitsSize.eq (k : Nat) (a0 : Int) : answer Try.prog spec_BitsSize.Cs 100000 spec_BitsSize.cuts [] Try.f134 (k + 1) [.v (.int .i64 a0)] = (spec_BitsSize.f (k + 1) a0).map spec_BitsSize.enc := by
  refine (spec_BitsSize.s k a0).trans (Eq.trans ?_ (spec_BitsSize.b_nat spec_BitsSize.enc some k a0))
  simp only [Option.map_some]
theorem spec_BitsSize.sound (k : Nat) : SoundF Try.prog 134 (fun a => (spec_BitsSize.ans k a).val) := by
  refine sound_plain (fun args res h => ?_) (fun t n => rfl)
  unfold spec_BitsSize.ans at h
  dsimp only at h
  split at h
  · cases k with
    | zero => cases h
    | succ k =>
      unfold Ans.val at h
      rw [← spec_BitsSize.eq] at h
      exact answer_sound mixed Try.func134 _ _ _ (k + 1) (fun j _ => tab_sound (tab_nil)) _ _ h
  · exact (Ans.no_val h).elim

/-! loop.example/g00790/spec.BitsHas -/
def spec_BitsHas.b {R : Type} (ret : Bool → Option R) (k : Nat) (a0z : Bool) (a0 : List Int) (a1 : Int) : Option R :=
  cond (decide (a1 ≥ 0)) (cond (decide ((RowKit.wrap64 (Int.tdiv a1 8)) < ((a0).length : Int))) (cond (decide ((0 : Int) ≤ (RowKit.wrap64 (Int.tdiv a1 8)))) (cond (decide ((RowKit.wrap64 (Int.tdiv a1 8)) < ((a0).length : Int))) (cond (decide ((0 : Int) ≤ (Int.tmod a1 8))) (ret (decide ((Int.tmod (shrI .i64 (RowKit.wrap64 ((rdI a0 (RowKit.wrap64 (Int.tdiv a1 8))))) (Int.tmod a1 8)) 2) = 1))) (none)) (none)) (none)) (ret false)) (ret false)
def spec_BitsHas.f : Nat → Bool → (List Int) → Int → Option Bool
  | 0, _, _, _ => none
  | k + 1, a0z, a0, a1 => spec_BitsHas.b some k a0z a0 a1
def spec_BitsHas.enc (r : Bool) : Res := ⟨[.vals false [((.bool r), true)]], []⟩
def spec_BitsHas.ans (k : Nat) : List Arg → Ans
  | [.v (.nums 5 .u8 a0z a0), .v (.int .i64 a1)] => ⟨spec_BitsHas.f k a0z a0 a1, spec_BitsHas.enc⟩
  | _ => Ans.no
def spec_BitsHas.Cs (k : Nat) : CallSem := tab []
def spec_BitsHas.cuts : List (Nat × Keep) := []
theorem spec_BitsHas.s (k : Nat) (a0z : Bool) (a0 : List Int) (a1 : Int) : answer Try.prog spec_BitsHas.Cs 100000 spec_BitsHas.cuts [] Try.f188 (k + 1) [.v (.nums 5 .u8 a0z a0), .v (.int .i64 a1)] = spec_BitsHas.b (fun r => some (spec_BitsHas.enc r)) k a0z a0 a1 := by kernel_rfl
theorem spec_BitsHas.b_nat {R R' : Type} (e : R → R') (ret : Bool → Option R) (k : Nat) (a0z : Bool) (a0 : List Int) (a1 : Int) : spec_BitsHas.b (fun r => (ret r).map e) k a0z a0 a1 = (spec_BitsHas.b ret k a0z a0 a1).map e := by
  unfold spec_BitsHas.b
  repeat' first | with_reducible refine nat_cond ?_ ?_ | with_reducible refine nat_bind fun _ => ?_ | rfl
theorem spec_BitsHas.eq (k : Nat) (a0z : Bool) (a0 : List Int) (a1 : Int) : answer Try.prog spec_BitsHas.Cs 100000 spec_BitsHas.cuts [] Try.f188 (k + 1) [.v (.nums 5 .u8 a0z a0), .v (.int .i64 a1)] = (spec_BitsHas.f (k + 1) a0z a0 a1).map spec_BitsHas.enc := by
  refine (spec_BitsHas.s k a0z a0 a1).trans (Eq.trans ?_ (spec_BitsHas.b_nat spec_BitsHas.enc some k a0z a0 a1))
  simp only [Option.map_some]
theorem spec_BitsHas.sound (k : Nat) : SoundF Try.prog 188 (fun a => (spec_BitsHas.ans k a).val) := by
  refine sound_plain (fun args res h => ?_) (fun t n => rfl)
  unfold spec_BitsHas.ans at h
  dsimp only at h
  split at h
  · cases k with
    | zero => cases h
    | succ k =>
      unfold Ans.val at h
      rw [← spec_BitsHas.eq] at h
      exact answer_sound mixed Try.func188 _ _ _ (k + 1) (fun j _ => tab_sound (tab_nil)) _ _ h
  · exact (Ans.no_val h).elim

/-! loop.example/g00790/spec.BitsList -/
def spec_BitsList.b {R : Type} (ret : Bool × List Int → Option R) (j0 : Bool → (List Int) → (List Int) → Int → Option R) (k : Nat) (a0z : Bool) (a0 : List Int) : Option R :=
  j0 a0z a0 ([] : List Int) 0
def spec_BitsList.l0b {R : Type} (ret : Bool × List Int → Option R) (j0 : Bool → (List Int) → (List Int) → Int → Option R) (k : Nat) (x0z : Bool) (x0 : List Int) (x3 : List Int) (x4 : Int) : Option R :=
  cond (decide (x4 < (RowKit.wrap64 ((8 : Int) * ((x0).length : Int))))) ((spec_BitsHas.f k x0z x0 x4).bind fun t0 => cond t0 (cond (decide ((x3).length + 1 < 17592186044416)) (j0 x0z x0 (x3 ++ ([x4] : List Int)) (RowKit.wrap64 (x4 + 1))) (none)) (j0 x0z x0 x3 (RowKit.wrap64 (x4 + 1)))) (ret (false, x3))
def spec_BitsList.l0 : Nat → Bool → (List Int) → (List Int) → Int → Option (Bool × List Int)
  | 0, _, _, _, _ => none
  | k + 1, x0z, x0, x3, x4 => spec_BitsList.l0b some (spec_BitsList.l0 k) k x0z x0 x3 x4
def spec_BitsList.f : Nat → Bool → (List Int) → Option (Bool × List Int)
  | 0, _, _ => none
  | k + 1, a0z, a0 => spec_BitsList.b some (spec_BitsList.l0 k) k a0z a0
def spec_BitsList.enc (r : Bool × List Int) : Res := ⟨[.vals false [((.nums 3 .i64 r.1 r.2), true)]], []⟩
def spec_BitsList.ans (k : Nat) : List Arg → Ans
  | [.v (.nums 5 .u8 a0z a0)] => ⟨spec_BitsList.f k a0z a0, spec_BitsList.enc⟩
  | _ => Ans.no
def spec_BitsList.Cs (k : Nat) : CallSem := tab [(188, spec_BitsHas.ans k)]
def spec_BitsList.cuts : List (Nat × Keep) := [(58, ⟨[(0, some []), (3, none), (4, some [])], []⟩)]
noncomputable def spec_BitsList.K0 : List Fr := framesAt [true, true, false, true, false] (bodyOf Try.f136 spec_BitsList.cuts) []
def spec_BitsList.N0 (x0z : Bool) (x0 : List Int) (x3 : List Int) (x4 : Int) : St := stOf 21 21 1 [(0, .val ⟨(.nums 5 .u8 x0z x0), [], false, none⟩), (3, .val ⟨(.nums 3 .i64 false x3), [.l 3 0], true, some (.l 3 0)⟩), (4, .val (V.s (.int .i64 x4)))] []
theorem spec_BitsList.s (k : Nat) (a0z : Bool) (a0 : List Int) : answer Try.prog spec_BitsList.Cs 100000 spec_BitsList.cuts [] Try.f136 (k + 1) [.v (.nums 5 .u8 a0z a0)] = spec_BitsList.b (fun r => some (spec_BitsList.enc r)) (fun x0z x0 x3 x4 => rounds Try.prog spec_BitsList.Cs (finish Try.prog [] Try.f136 [.v (.nums 5 .u8 a0z a0)]) 100000 k spec_BitsList.K0 (spec_BitsList.N0 x0z x0 x3 x4)) k a0z a0 := by kernel_rfl
theorem spec_BitsList.s0 (k : Nat) (G : List Fr → St → Option Res) (a0z : Bool) (a0 : List Int) (yx0z : Bool) (yx0 : List Int) (yx3 : List Int) (yx4 : Int) : resume Try.prog (spec_BitsList.Cs k) G (finish Try.prog [] Try.f136 [.v (.nums 5 .u8 a0z a0)]) 100000 spec_BitsList.K0 (spec_BitsList.N0 yx0z yx0 yx3 yx4) = spec_BitsList.l0b (fun r => some (spec_BitsList.enc r)) (fun x0z x0 x3 x4 => G spec_BitsList.K0 (spec_BitsList.N0 x0z x0 x3 x4)) k yx0z yx0 yx3 yx4 := by kernel_rfl
theorem spec_BitsList.b_nat {R R' : Type} (e : R → R') (ret : Bool × List Int → Option R) (j0 : Bool → (List Int) → (List Int) → Int → Option R) (k : Nat) (a0z : Bool) (a0 : List Int) : spec_BitsList.b (fun r => (ret r).map e) (fun x0z x0 x3 x4 => (j0 x0z x0 x3 x4).map e) k a0z a0 = (spec_BitsList.b ret j0 k a0z a0).map e := by
  unfold spec_BitsList.b
  repeat' first | with_reducible refine nat_cond ?_ ?_ | with_reducible refine nat_bind fun _ => ?_ | rfl
theorem spec_BitsList.l0b_nat {R R' : Type} (e : R → R') (ret : Bool × List Int → Option R) (j0 : Bool → (List Int) → (List Int) → Int → Option R) (k : Nat) (x0z : Bool) (x0 : List Int) (x3 : List Int) (x4 : Int) : spec_BitsList.l0b (fun r => (ret r).map e) (fun x0z x0 x3 x4 => (j0 x0z x0 x3 x4).map e) k x0z x0 x3 x4 = (spec_BitsList.l0b ret j0 k x0z x0 x3 x4).map e := by
  unfold spec_BitsList.l0b
  repeat' first | with_reducible refine nat_cond ?_ ?_ | with_reducible refine nat_bind fun _ => ?_ | rfl
theorem spec_BitsList.rounds_eq (a0z : Bool) (a0 : List Int) : ∀ k, (∀ (x0z : Bool) (x0 : List Int) (x3 : List Int) (x4 : Int), rounds Try.prog spec_BitsList.Cs (finish Try.prog [] Try.f136 [.v (.nums 5 .u8 a0z a0)]) 100000 k spec_BitsList.K0 (spec_BitsList.N0 x0z x0 x3 x4) = (spec_BitsList.l0 k x0z x0 x3 x4).map spec_BitsList.enc)
  | 0 => fun _ _ _ _ => rfl
  | k + 1 => by
    have ih := spec_BitsList.rounds_eq a0z a0 k
    refine fun _ _ _ _ => ?_
    · refine (spec_BitsList.s0 k _ a0z a0 _ _ _ _).trans (Eq.trans ?_ (spec_BitsList.l0b_nat spec_BitsList.enc some (spec_BitsList.l0 k) k _ _ _ _))
      simp only [ih, Option.map_some]
theorem spec_BitsList.eq (k : Nat) (a0z : Bool) (a0 : List Int) : answer Try.prog spec_BitsList.Cs 100000 spec_BitsList.cuts [] Try.f136 (k + 1) [.v (.nums 5 .u8 a0z a0)] = (spec_BitsList.f (k + 1) a0z a0).map spec_BitsList.enc := by
  have ih := spec_BitsList.rounds_eq a0z a0 k
  refine (spec_BitsList.s k a0z a0).trans (Eq.trans ?_ (spec_BitsList.b_nat spec_BitsList.enc some (spec_BitsList.l0 k) k a0z a0))
  simp only [ih, Option.map_some]
theorem spec_BitsList.sound (k : Nat) : SoundF Try.prog 136 (fun a => (spec_BitsList.ans k a).val) := by
  refine sound_plain (fun args res h => ?_) (fun t n => rfl)
  unfold spec_BitsList.ans at h
  dsimp only at h
  split at h
  · cases k with
    | zero => cases h
    | succ k =>
      unfold Ans.val at h
      rw [← spec_BitsList.eq] at h
      exact answer_sound mixed Try.func136 _ _ _ (k + 1) (fun j _ => tab_sound (tab_cons (spec_BitsHas.sound j) (tab_nil))) _ _ h
  · exact (Ans.no_val h).elim

/-! loop.example/g00790/spec.BitsOk -/
def spec_BitsOk.b {R : Type} (ret : Bool → Option R) (k : Nat) (a0z : Bool) (a0 : List Int) (a1 : Int) : Option R :=
  (spec_l02Signers.f k a1).bind fun t0 => cond (!t0) (ret false) ((spec_BitsSize.f k a1).bind fun t1 => cond (!(decide (((a0).length : Int) = t1))) (ret false) ((spec_BitsList.f k a0z a0).bind fun t2 => cond (decide (((t2.2).length : Int) = 0)) (ret true) (cond (decide ((0 : Int) ≤ (RowKit.wrap64 (((t2.2).length : Int) - 1)))) (cond (decide ((RowKit.wrap64 (((t2.2).length : Int) - 1)) < ((t2.2).length : Int))) (ret (decide ((rdI t2.2 (RowKit.wrap64 (((t2.2).length : Int) - 1))) < a1))) (none)) (none))))
def spec_BitsOk.f : Nat → Bool → (List Int) → Int → Option Bool
  | 0, _, _, _ => none
  | k + 1, a0z, a0, a1 => spec_BitsOk.b some k a0z a0 a1
def spec_BitsOk.enc (r : Bool) : Res := ⟨[.vals false [((.bool r), true)]], []⟩
def spec_BitsOk.ans (k : Nat) : List Arg → Ans
  | [.v (.nums 5 .u8 a0z a0), .v (.int .i64 a1)] => ⟨spec_BitsOk.f k a0z a0 a1, spec_BitsOk.enc⟩
  | _ => Ans.no
def spec_BitsOk.Cs (k : Nat) : CallSem := tab [(155, spec_l02Signers.ans k), (134, spec_BitsSize.ans k), (136, spec_BitsList.ans k)]
def spec_BitsOk.cuts : List (Nat × Keep) := []
theorem spec_BitsOk.s (k : Nat) (a0z : Bool) (a0 : List Int) (a1 : Int) : answer Try.prog spec_BitsOk.Cs 100000 spec_BitsOk.cuts [] Try.f138 (k + 1) [.v (.nums 5 .u8 a0z a0), .v (.int .i64 a1)] = spec_BitsOk.b (fun r => some (spec_BitsOk.enc r)) k a0z a0 a1 := by kernel_rfl
theorem spec_BitsOk.b_nat {R R' : Type} (e : R → R') (ret : Bool → Option R) (k : Nat) (a0z : Bool) (a0 : List Int) (a1 : Int) : spec_BitsOk.b (fun r => (ret r).map e) k a0z a0 a1 = (spec_BitsOk.b ret k a0z a0 a1).map e := by
  unfold spec_BitsOk.b
  repeat' first | with_reducible refine nat_cond ?_ ?_ | with_reducible refine nat_bind fun _ => ?_ | rfl
theorem spec_BitsOk.eq (k : Nat) (a0z : Bool) (a0 : List Int) (a1 : Int) : answer Try.prog spec_BitsOk.Cs 100000 spec_BitsOk.cuts [] Try.f138 (k + 1) [.v (.nums 5 .u8 a0z a0), .v (.int .i64 a1)] = (spec_BitsOk.f (k + 1) a0z a0 a1).map spec_BitsOk.enc := by
  refine (spec_BitsOk.s k a0z a0 a1).trans (Eq.trans ?_ (spec_BitsOk.b_nat spec_BitsOk.enc some k a0z a0 a1))
  simp only [Option.map_some]
theorem spec_BitsOk.sound (k : Nat) : SoundF Try.prog 138 (fun a => (spec_BitsOk.ans k a).val) := by
  refine sound_plain (fun args res h => ?_) (fun t n => rfl)
  unfold spec_BitsOk.ans at h
  dsimp only at h
  split at h
  · cases k with
    | zero => cases h
    | succ k =>
      unfold Ans.val at h
      rw [← spec_BitsOk.eq] at h
      exact answer_sound mixed Try.func138 _ _ _ (k + 1) (fun j _ => tab_sound (tab_cons (spec_l02Signers.sound j) (tab_cons (spec_BitsSize.sound j) (tab_cons (spec_BitsList.sound j) (tab_nil))))) _ _ h
  · exact (Ans.no_val h).elim

/-! loop.example/g00790/spec.BitsCount -/
def spec_BitsCount.b {R : Type} (ret : Int → Option R) (k : Nat) (a0z : Bool) (a0 : List Int) : Option R :=
  (spec_BitsList.f k a0z a0).bind fun t0 => ret ((t0.2).length : Int)
def spec_BitsCount.f : Nat → Bool → (List Int) → Option Int
  | 0, _, _ => none
  | k + 1, a0z, a0 => spec_BitsCount.b some k a0z a0
def spec_BitsCount.enc (r : Int) : Res := ⟨[.vals false [((.int .i64 r), true)]], []⟩
def spec_BitsCount.ans (k : Nat) : List Arg → Ans
  | [.v (.nums 5 .u8 a0z a0)] => ⟨spec_BitsCount.f k a0z a0, spec_BitsCount.enc⟩
  | _ => Ans.no
def spec_BitsCount.Cs (k : Nat) : CallSem := tab [(136, spec_BitsList.ans k)]
def spec_BitsCount.cuts : List (Nat × Keep) := []
theorem spec_BitsCount.s (k : Nat) (a0z : Bool) (a0 : List Int) : answer Try.prog spec_BitsCount.Cs 100000 spec_BitsCount.cuts [] Try.f166 (k + 1) [.v (.nums 5 .u8 a0z a0)] = spec_BitsCount.b (fun r => some (spec_BitsCount.enc r)) k a0z a0 := by kernel_rfl
theorem spec_BitsCount.b_nat {R R' : Type} (e : R → R') (ret : Int → Option R) (k : Nat) (a0z : Bool) (a0 : List Int) : spec_BitsCount.b (fun r => (ret r).map e) k a0z a0 = (spec_BitsCount.b ret k a0z a0).map e := by
  unfold spec_BitsCount.b
  repeat' first | with_reducible refine nat_cond ?_ ?_ | with_reducible refine nat_bind fun _ => ?_ | rfl
theorem spec_BitsCount.eq (k : Nat) (a0z : Bool) (a0 : List Int) : answer Try.prog spec_BitsCount.Cs 100000 spec_BitsCount.cuts [] Try.f166 (k + 1) [.v (.nums 5 .u8 a0z a0)] = (spec_BitsCount.f (k + 1) a0z a0).map spec_BitsCount.enc := by
  refine (spec_BitsCount.s k a0z a0).trans (Eq.trans ?_ (spec_BitsCount.b_nat spec_BitsCount.enc some k a0z a0))
  simp only [Option.map_some]
theorem spec_BitsCount.sound (k : Nat) : SoundF Try.prog 166 (fun a => (spec_BitsCount.ans k a).val) := by
  refine sound_plain (fun args res h => ?_) (fun t n => rfl)
  unfold spec_BitsCount.ans at h
  dsimp only at h
  split at h
  · cases k with
    | zero => cases h
    | succ k =>
      unfold Ans.val at h
      rw [← spec_BitsCount.eq] at h
      exact answer_sound mixed Try.func166 _ _ _ (k + 1) (fun j _ => tab_sound (tab_cons (spec_BitsList.sound j) (tab_nil))) _ _ h
  · exact (Ans.no_val h).elim

/-! loop.example/g00790/spec.l08Hashes -/
def spec_l08Hashes.b {R : Type} (ret : Bool → Option R) (j0 : Bool → (List T) → Int → Int → Option R) (k : Nat) (a0z : Bool) (a0 : List T) : Option R :=
  j0 a0z a0 ((a0).length : Int) 0
def spec_l08Hashes.l0b {R : Type} (ret : Bool → Option R) (j0 : Bool → (List T) → Int → Int → Option R) (k : Nat) (x5z : Bool) (x5 : List T) (x6 : Int) (x7 : Int) : Option R :=
  cond (decide (x7 < x6)) (cond (decide ((0 : Int) ≤ x7)) (cond (decide (x7 < ((x5).length : Int))) ((spec_l07Hash.f k (((((x5).getD (x7).toNat .bad).cells.getD 0 .bad)).isNil) (((((x5).getD (x7).toNat .bad).cells.getD 0 .bad)).toNums)).bind fun t0 => cond (!t0) (ret false) (j0 x5z x5 x6 (RowKit.wrap64 (x7 + 1)))) (none)) (none)) (ret true)
def spec_l08Hashes.l0 : Nat → Bool → (List T) → Int → Int → Option Bool
  | 0, _, _, _, _ => none
  | k + 1, x5z, x5, x6, x7 => spec_l08Hashes.l0b some (spec_l08Hashes.l0 k) k x5z x5 x6 x7
def spec_l08Hashes.f : Nat → Bool → (List T) → Option Bool
  | 0, _, _ => none
  | k + 1, a0z, a0 => spec_l08Hashes.b some (spec_l08Hashes.l0 k) k a0z a0
def spec_l08Hashes.enc (r : Bool) : Res := ⟨[.vals false [((.bool r), true)]], []⟩
def spec_l08Hashes.ans (k : Nat) : List Arg → Ans
  | [.v (.sl 45 a0z a0)] => ⟨spec_l08Hashes.f k a0z a0, spec_l08Hashes.enc⟩
  | _ => Ans.no
def spec_l08Hashes.Cs (k : Nat) : CallSem := tab [(153, spec_l07Hash.ans k)]
def spec_l08Hashes.cuts : List (Nat × Keep) := [(26, ⟨[(5, some []), (6, some []), (7, some [])], []⟩)]
noncomputable def spec_l08Hashes.K0 : List Fr := framesAt [true, false, true, false] (bodyOf Try.f167 spec_l08Hashes.cuts) []
def spec_l08Hashes.N0 (x5z : Bool) (x5 : List T) (x6 : Int) (x7 : Int) : St := stOf 15 15 1 [(5, .val ⟨(.sl 45 x5z x5), [], false, none⟩), (6, .val (V.s (.int .i64 x6))), (7, .val (V.s (.int .i64 x7)))] []
theorem spec_l08Hashes.s (k : Nat) (a0z : Bool) (a0 : List T) : answer Try.prog spec_l08Hashes.Cs 100000 spec_l08Hashes.cuts [] Try.f167 (k + 1) [.v (.sl 45 a0z a0)] = spec_l08Hashes.b (fun r => some (spec_l08Hashes.enc r)) (fun x5z x5 x6 x7 => rounds Try.prog spec_l08Hashes.Cs (finish Try.prog [] Try.f167 [.v (.sl 45 a0z a0)]) 100000 k spec_l08Hashes.K0 (spec_l08Hashes.N0 x5z x5 x6 x7)) k a0z a0 := by kernel_rfl
theorem spec_l08Hashes.s0 (k : Nat) (G : List Fr → St → Option Res) (a0z : Bool) (a0 : List T) (yx5z : Bool) (yx5 : List T) (yx6 : Int) (yx7 : Int) : resume Try.prog (spec_l08Hashes.Cs k) G (finish Try.prog [] Try.f167 [.v (.sl 45 a0z a0)]) 100000 spec_l08Hashes.K0 (spec_l08Hashes.N0 yx5z yx5 yx6 yx7) = spec_l08Hashes.l0b (fun r => some (spec_l08Hashes.enc r)) (fun x5z x5 x6 x7 => G spec_l08Hashes.K0 (spec_l08Hashes.N0 x5z x5 x6 x7)) k yx5z yx5 yx6 yx7 := by kernel_rfl
theorem spec_l08Hashes.b_nat {R R' : Type} (e : R → R') (ret : Bool → Option R) (j0 : Bool → (List T) → Int → Int → Option R) (k : Nat) (a0z : Bool) (a0 : List T) : spec_l08Hashes.b (fun r => (ret r).map e) (fun x5z x5 x6 x7 => (j0 x5z x5 x6 x7).map e) k a0z a0 = (spec_l08Hashes.b ret j0 k a0z a0).map e := by
  unfold spec_l08Hashes.b
  repeat' first | with_reducible refine nat_cond ?_ ?_ | with_reducible refine nat_bind fun _ => ?_ | rfl
theorem spec_l08Hashes.l0b_nat {R R' : Type} (e : R → R') (ret : Bool → Option R) (j0 : Bool → (List T) → Int → Int → Option R) (k : Nat) (x5z : Bool) (x5 : List T) (x6 : Int) (x7 : Int) : spec_l08Hashes.l0b (fun r => (ret r).map e) (fun x5z x5 x6 x7 => (j0 x5z x5 x6 x7).map e) k x5z x5 x6 x7 = (spec_l08Hashes.l0b ret j0 k x5z x5 x6 x7).map e := by
  unfold spec_l08Hashes.l0b
  repeat' first | with_reducible refine nat_cond ?_ ?_ | with_reducible refine nat_bind fun _ => ?_ | rfl
theorem spec_l08Hashes.rounds_eq (a0z : Bool) (a0 : List T) : ∀ k, (∀ (x5z : Bool) (x5 : List T) (x6 : Int) (x7 : Int), rounds Try.prog spec_l08Hashes.Cs (finish Try.prog [] Try.f167 [.v (.sl 45 a0z a0)]) 100000 k spec_l08Hashes.K0 (spec_l08Hashes.N0 x5z x5 x6 x7) = (spec_l08Hashes.l0 k x5z x5 x6 x7).map spec_l08Hashes.enc)
  | 0 => fun _ _ _ _ => rfl
  | k + 1 => by
    have ih := spec_l08Hashes.rounds_eq a0z a0 k
    refine fun _ _ _ _ => ?_
    · refine (spec_l08Hashes.s0 k _ a0z a0 _ _ _ _).trans (Eq.trans ?_ (spec_l08Hashes.l0b_nat spec_l08Hashes.enc some (spec_l08Hashes.l0 k) k _ _ _ _))
      simp only [ih, Option.map_some]
theorem spec_l08Hashes.eq (k : Nat) (a0z : Bool) (a0 : List T) : answer Try.prog spec_l08Hashes.Cs 100000 spec_l08Hashes.cuts [] Try.f167 (k + 1) [.v (.sl 45 a0z a0)] = (spec_l08Hashes.f (k + 1) a0z a0).map spec_l08Hashes.enc := by
  have ih := spec_l08Hashes.rounds_eq a0z a0 k
  refine (spec_l08Hashes.s k a0z a0).trans (Eq.trans ?_ (spec_l08Hashes.b_nat spec_l08Hashes.enc some (spec_l08Hashes.l0 k) k a0z a0))
  simp only [ih, Option.map_some]
theorem spec_l08Hashes.sound (k : Nat) : SoundF Try.prog 167 (fun a => (spec_l08Hashes.ans k a).val) := by
  refine sound_plain (fun args res h => ?_) (fun t n => rfl)
  unfold spec_l08Hashes.ans at h
  dsimp only at h
  split at h
  · cases k with
    | zero => cases h
    | succ k =>
      unfold Ans.val at h
      rw [← spec_l08Hashes.eq] at h
      exact answer_sound mixed Try.func167 _ _ _ (k + 1) (fun j _ => tab_sound (tab_cons (spec_l07Hash.sound j) (tab_nil))) _ _ h
  · exact (Ans.no_val h).elim

/-! loop.example/g00790/spec.QcOk -/
def spec_QcOk.b {R : Type} (ret : Bool → Option R) (k : Nat) (a0_0 : Int) (a0_1 : Int) (a0_2 : Int) (a0_3 : Int) (a0_4 : Int) (a1_0 : Int) (a1_1 : Int) (a1_2z : Bool) (a1_2 : List Int) (a1_3z : Bool) (a1_3 : List Int) (a1_4z : Bool) (a1_4 : List T) : Option R :=
  (spec_LimitsOk.f k a0_0 a0_1 a0_2 a0_3 a0_4).bind fun t0 => cond t0 ((spec_l01Num.f k a1_0).bind fun t1 => cond t1 ((spec_l01Num.f k a1_1).bind fun t2 => cond t2 ((spec_l07Hash.f k a1_2z a1_2).bind fun t3 => cond t3 ((spec_BitsOk.f k a1_3z a1_3 a0_0).bind fun t4 => cond t4 ((spec_BitsCount.f k a1_3z a1_3).bind fun t5 => cond (decide (((a1_4).length : Int) = t5)) ((spec_l08Hashes.f k a1_4z a1_4).bind fun t6 => ret t6) (ret false)) (ret false)) (ret false)) (ret false)) (ret false)) (ret false)
def spec_QcOk.f : Nat → Int → Int → Int → Int → Int → Int → Int → Bool → (List Int) → Bool → (List Int) → Bool → (List T) → Option Bool
  | 0, _, _, _, _, _, _, _, _, _, _, _, _, _ => none
  | k + 1, a0_0, a0_1, a0_2, a0_3, a0_4, a1_0, a1_1, a1_2z, a1_2, a1_3z, a1_3, a1_4z, a1_4 => spec_QcOk.b some k a0_0 a0_1 a0_2 a0_3 a0_4 a1_0 a1_1 a1_2z a1_2 a1_3z a1_3 a1_4z a1_4
def spec_QcOk.enc (r : Bool) : Res := ⟨[.vals false [((.bool r), true)]], []⟩
def spec_QcOk.ans (k : Nat) : List Arg → Ans
  | [.v (.agg [(.int .i64 a0_0), (.int .i64 a0_1), (.int .i64 a0_2), (.int .i64 a0_3), (.int .i64 a0_4)]), .v (.agg [(.int .i64 a1_0), (.int .i64 a1_1), (.nums 5 .u8 a1_2z a1_2), (.nums 5 .u8 a1_3z a1_3), (.sl 45 a1_4z a1_4)])] => ⟨spec_QcOk.f k a0_0 a0_1 a0_2 a0_3 a0_4 a1_0 a1_1 a1_2z a1_2 a1_3z a1_3 a1_4z a1_4, spec_QcOk.enc⟩
  | _ => Ans.no
def spec_QcOk.Cs (k : Nat) : CallSem := tab [(81, spec_LimitsOk.ans k), (152, spec_l01Num.ans k), (153, spec_l07Hash.ans k), (138, spec_BitsOk.ans k), (166, spec_BitsCount.ans k), (167, spec_l08Hashes.ans k)]
def spec_QcOk.cuts : List (Nat × Keep) := []
theorem spec_QcOk.s (k : Nat) (a0_0 : Int) (a0_1 : Int) (a0_2 : Int) (a0_3 : Int) (a0_4 : Int) (a1_0 : Int) (a1_1 : Int) (a1_2z : Bool) (a1_2 : List Int) (a1_3z : Bool) (a1_3 : List Int) (a1_4z : Bool) (a1_4 : List T) : answer Try.prog spec_QcOk.Cs 100000 spec_QcOk.cuts [] Try.f99 (k + 1) [.v (.agg [(.int .i64 a0_0), (.int .i64 a0_1), (.int .i64 a0_2), (.int .i64 a0_3), (.int .i64 a0_4)]), .v (.agg [(.int .i64 a1_0), (.int .i64 a1_1), (.nums 5 .u8 a1_2z a1_2), (.nums 5 .u8 a1_3z a1_3), (.sl 45 a1_4z a1_4)])] = spec_QcOk.b (fun r => some (spec_QcOk.enc r)) k a0_0 a0_1 a0_2 a0_3 a0_4 a1_0 a1_1 a1_2z a1_2 a1_3z a1_3 a1_4z a1_4 := by kernel_rfl
theorem spec_QcOk.b_nat {R R' : Type} (e : R → R') (ret : Bool → Option R) (k : Nat) (a0_0 : Int) (a0_1 : Int) (a0_2 : Int) (a0_3 : Int) (a0_4 : Int) (a1_0 : Int) (a1_1 : Int) (a1_2z : Bool) (a1_2 : List Int) (a1_3z : Bool) (a1_3 : List Int) (a1_4z : Bool) (a1_4 : List T) : spec_QcOk.b (fun r => (ret r).map e) k a0_0 a0_1 a0_2 a0_3 a0_4 a1_0 a1_1 a1_2z a1_2 a1_3z a1_3 a1_4z a1_4 = (spec_QcOk.b ret k a0_0 a0_1 a0_2 a0_3 a0_4 a1_0 a1_1 a1_2z a1_2 a1_3z a1_3 a1_4z a1_4).map e := by
  unfold spec_QcOk.b
  repeat' first | with_reducible refine nat_cond ?_ ?_ | with_reducible refine nat_bind fun _ => ?_ | rfl
theorem spec_QcOk.eq (k : Nat) (a0_0 : Int) (a0_1 : Int) (a0_2 : Int) (a0_3 : Int) (a0_4 : Int) (a1_0 : Int) (a1_1 : Int) (a1_2z : Bool) (a1_2 : List Int) (a1_3z : Bool) (a1_3 : List Int) (a1_4z : Bool) (a1_4 : List T) : answer Try.prog spec_QcOk.Cs 100000 spec_QcOk.cuts [] Try.f99 (k + 1) [.v (.agg [(.int .i64 a0_0), (.int .i64 a0_1), (.int .i64 a0_2), (.int .i64 a0_3), (.int .i64 a0_4)]), .v (.agg [(.int .i64 a1_0), (.int .i64 a1_1), (.nums 5 .u8 a1_2z a1_2), (.nums 5 .u8 a1_3z a1_3), (.sl 45 a1_4z a1_4)])] = (spec_QcOk.f (k + 1) a0_0 a0_1 a0_2 a0_3 a0_4 a1_0 a1_1 a1_2z a1_2 a1_3z a1_3 a1_4z a1_4).map spec_QcOk.enc := by
  refine (spec_QcOk.s k a0_0 a0_1 a0_2 a0_3 a0_4 a1_0 a1_1 a1_2z a1_2 a1_3z a1_3 a1_4z a1_4).trans (Eq.trans ?_ (spec_QcOk.b_nat spec_QcOk.enc some k a0_0 a0_1 a0_2 a0_3 a0_4 a1_0 a1_1 a1_2z a1_2 a1_3z a1_3 a1_4z a1_4))
  simp only [Option.map_some]
theorem spec_QcOk.sound (k : Nat) : SoundF Try.prog 99 (fun a => (spec_QcOk.ans k a).val) := by
  refine sound_plain (fun args res h => ?_) (fun t n => rfl)
  unfold spec_QcOk.ans at h
  dsimp only at h
  split at h
  · cases k with
    | zero => cases h
    | succ k =>
      unfold Ans.val at h
      rw [← spec_QcOk.eq] at h
      exact answer_sound mixed Try.func99 _ _ _ (k + 1) (fun j _ => tab_sound (tab_cons (spec_LimitsOk.sound j) (tab_cons (spec_l01Num.sound j) (tab_cons (spec_l07Hash.sound j) (tab_cons (spec_BitsOk.sound j) (tab_cons (spec_BitsCount.sound j) (tab_cons (spec_l08Hashes.sound j) (tab_nil)))))))) _ _ h
  · exact (Ans.no_val h).elim

/-! loop.example/g00790/spec.SameBytes -/
def spec_SameBytes.b {R : Type} (ret : Bool → Option R) (k : Nat) (a0z : Bool) (a0 : List Int) (a1z : Bool) (a1 : List Int) : Option R :=
  ret (decide ((strOf a0) = (strOf a1)))
def spec_SameBytes.f : Nat → Bool → (List Int) → Bool → (List Int) → Option Bool
  | 0, _, _, _, _ => none
  | k + 1, a0z, a0, a1z, a1 => spec_SameBytes.b some k a0z a0 a1z a1
def spec_SameBytes.enc (r : Bool) : Res := ⟨[.vals false [((.bool r), true)]], []⟩
def spec_SameBytes.ans (k : Nat) : List Arg → Ans
  | [.v (.nums 5 .u8 a0z a0), .v (.nums 5 .u8 a1z a1)] => ⟨spec_SameBytes.f k a0z a0 a1z a1, spec_SameBytes.enc⟩
  | _ => Ans.no
def spec_SameBytes.Cs (k : Nat) : CallSem := tab []
def spec_SameBytes.cuts : List (Nat × Keep) := []
theorem spec_SameBytes.s (k : Nat) (a0z : Bool) (a0 : List Int) (a1z : Bool) (a1 : List Int) : answer Try.prog spec_SameBytes.Cs 100000 spec_SameBytes.cuts [] Try.f82 (k + 1) [.v (.nums 5 .u8 a0z a0), .v (.nums 5 .u8 a1z a1)] = spec_SameBytes.b (fun r => some (spec_SameBytes.enc r)) k a0z a0 a1z a1 := by kernel_rfl
theorem spec_SameBytes.b_nat {R R' : Type} (e : R → R') (ret : Bool → Option R) (k : Nat) (a0z : Bool) (a0 : List Int) (a1z : Bool) (a1 : List Int) : spec_SameBytes.b (fun r => (ret r).map e) k a0z a0 a1z a1 = (spec_SameBytes.b ret k a0z a0 a1z a1).map e := by
  unfold spec_SameBytes.b
  repeat' first | with_reducible refine nat_cond ?_ ?_ | with_reducible refine nat_bind fun _ => ?_ | rfl
theorem spec_SameBytes.eq (k : Nat) (a0z : Bool) (a0 : List Int) (a1z : Bool) (a1 : List Int) : answer Try.prog spec_SameBytes.Cs 100000 spec_SameBytes.cuts [] Try.f82 (k + 1) [.v (.nums 5 .u8 a0z a0), .v (.nums 5 .u8 a1z a1)] = (spec_SameBytes.f (k + 1) a0z a0 a1z a1).map spec_SameBytes.enc := by
  refine (spec_SameBytes.s k a0z a0 a1z a1).trans (Eq.trans ?_ (spec_SameBytes.b_nat spec_SameBytes.enc some k a0z a0 a1z a1))
  simp only [Option.map_some]
theorem spec_SameBytes.sound (k : Nat) : SoundF Try.prog 82 (fun a => (spec_SameBytes.ans k a).val) := by
  refine sound_plain (fun args res h => ?_) (fun t n => rfl)
  unfold spec_SameBytes.ans at h
  dsimp only at h
  split at h
  · cases k with
    | zero => cases h
    | succ k =>
      unfold Ans.val at h
      rw [← spec_SameBytes.eq] at h
      exact answer_sound mixed Try.func82 _ _ _ (k + 1) (fun j _ => tab_sound (tab_nil)) _ _ h
  · exact (Ans.no_val h).elim

/-! loop.example/g00790/spec.l13Fits -/
def spec_l13Fits.b {R : Type} (ret : Bool → Option R) (k : Nat) (a0_0 : Int) (a0_1 : Int) (a0_2 : Int) (a0_3z : Bool) (a0_3 : List Int) (a0_4z : Bool) (a0_4 : List Int) (a0_5 : Int) (a0_6 : Int) (a0_7z : Bool) (a0_7 : List Int) (a0_8z : Bool) (a0_8 : List Int) (a0_9z : Bool) (a0_9 : List T) : Option R :=
  cond (decide (a0_5 < a0_0)) (cond (decide (a0_6 = (RowKit.wrap64 (a0_1 - 1)))) ((spec_SameBytes.f k a0_7z a0_7 a0_3z a0_3).bind fun t0 => ret t0) (ret false)) (ret false)
def spec_l13Fits.f : Nat → Int → Int → Int → Bool → (List Int) → Bool → (List Int) → Int → Int → Bool → (List Int) → Bool → (List Int) → Bool → (List T) → Option Bool
  | 0, _, _, _, _, _, _, _, _, _, _, _, _, _, _, _ => none
  | k + 1, a0_0, a0_1, a0_2, a0_3z, a0_3, a0_4z, a0_4, a0_5, a0_6, a0_7z, a0_7, a0_8z, a0_8, a0_9z, a0_9 => spec_l13Fits.b some k a0_0 a0_1 a0_2 a0_3z a0_3 a0_4z a0_4 a0_5 a0_6 a0_7z a0_7 a0_8z a0_8 a0_9z a0_9
def spec_l13Fits.enc (r : Bool) : Res := ⟨[.vals false [((.bool r), true)]], []⟩
def spec_l13Fits.ans (k : Nat) : List Arg → Ans
  | [.v (.agg [(.int .i64 a0_0), (.int .i64 a0_1), (.int .i64 a0_2), (.nums 5 .u8 a0_3z a0_3), (.nums 5 .u8 a0_4z a0_4), (.int .i64 a0_5), (.int .i64 a0_6), (.nums 5 .u8 a0_7z a0_7), (.nums 5 .u8 a0_8z a0_8), (.sl 45 a0_9z a0_9)])] => ⟨spec_l13Fits.f k a0_0 a0_1 a0_2 a0_3z a0_3 a0_4z a0_4 a0_5 a0_6 a0_7z a0_7 a0_8z a0_8 a0_9z a0_9, spec_l13Fits.enc⟩
  | _ => Ans.no
def spec_l13Fits.Cs (k : Nat) : CallSem := tab [(82, spec_SameBytes.ans k)]
def spec_l13Fits.cuts : List (Nat × Keep) := []
theorem spec_l13Fits.s (k : Nat) (a0_0 : Int) (a0_1 : Int) (a0_2 : Int) (a0_3z : Bool) (a0_3 : List Int) (a0_4z : Bool) (a0_4 : List Int) (a0_5 : Int) (a0_6 : Int) (a0_7z : Bool) (a0_7 : List Int) (a0_8z : Bool) (a0_8 : List Int) (a0_9z : Bool) (a0_9 : List T) : answer Try.prog spec_l13Fits.Cs 100000 spec_l13Fits.cuts [] Try.f154 (k + 1) [.v (.agg [(.int .i64 a0_0), (.int .i64 a0_1), (.int .i64 a0_2), (.nums 5 .u8 a0_3z a0_3), (.nums 5 .u8 a0_4z a0_4), (.int .i64 a0_5), (.int .i64 a0_6), (.nums 5 .u8 a0_7z a0_7), (.nums 5 .u8 a0_8z a0_8), (.sl 45 a0_9z a0_9)])] = spec_l13Fits.b (fun r => some (spec_l13Fits.enc r)) k a0_0 a0_1 a0_2 a0_3z a0_3 a0_4z a0_4 a0_5 a0_6 a0_7z a0_7 a0_8z a0_8 a0_9z a0_9 := by kernel_rfl
theorem spec_l13Fits.b_nat {R R' : Type} (e : R → R') (ret : Bool → Option R) (k : Nat) (a0_0 : Int) (a0_1 : Int) (a0_2 : Int) (a0_3z : Bool) (a0_3 : List Int) (a0_4z : Bool) (a0_4 : List Int) (a0_5 : Int) (a0_6 : Int) (a0_7z : Bool) (a0_7 : List Int) (a0_8z : Bool) (a0_8 : List Int) (a0_9z : Bool) (a0_9 : List T) : spec_l13Fits.b (fun r => (ret r).map e) k a0_0 a0_1 a0_2 a0_3z a0_3 a0_4z a0_4 a0_5 a0_6 a0_7z a0_7 a0_8z a0_8 a0_9z a0_9 = (spec_l13Fits.b ret k a0_0 a0_1 a0_2 a0_3z a0_3 a0_4z a0_4 a0_5 a0_6 a0_7z a0_7 a0_8z a0_8 a0_9z a0_9).map e := by
  unfold spec_l13Fits.b
  repeat' first | with_reducible refine nat_cond ?_ ?_ | with_reducible refine nat_bind fun _ => ?_ | rfl
theorem spec_l13Fits.eq (k : Nat) (a0_0 : Int) (a0_1 : Int) (a0_2 : Int) (a0_3z : Bool) (a0_3 : List Int) (a0_4z : Bool) (a0_4 : List Int) (a0_5 : Int) (a0_6 : Int) (a0_7z : Bool) (a0_7 : List Int) (a0_8z : Bool) (a0_8 : List Int) (a0_9z : Bool) (a0_9 : List T) : answer Try.prog spec_l13Fits.Cs 100000 spec_l13Fits.cuts [] Try.f154 (k + 1) [.v (.agg [(.int .i64 a0_0), (.int .i64 a0_1), (.int .i64 a0_2), (.nums 5 .u8 a0_3z a0_3), (.nums 5 .u8 a0_4z a0_4), (.int .i64 a0_5), (.int .i64 a0_6), (.nums 5 .u8 a0_7z a0_7), (.nums 5 .u8 a0_8z a0_8), (.sl 45 a0_9z a0_9)])] = (spec_l13Fits.f (k + 1) a0_0 a0_1 a0_2 a0_3z a0_3 a0_4z a0_4 a0_5 a0_6 a0_7z a0_7 a0_8z a0_8 a0_9z a0_9).map spec_l13Fits.enc := by
  refine (spec_l13Fits.s k a0_0 a0_1 a0_2 a0_3z a0_3 a0_4z a0_4 a0_5 a0_6 a0_7z a0_7 a0_8z a0_8 a0_9z a0_9).trans (Eq.trans ?_ (spec_l13Fits.b_nat spec_l13Fits.enc some k a0_0 a0_1 a0_2 a0_3z a0_3 a0_4z a0_4 a0_5 a0_6 a0_7z a0_7 a0_8z a0_8 a0_9z a0_9))
  simp only [Option.map_some]
theorem spec_l13Fits.sound (k : Nat) : SoundF Try.prog 154 (fun a => (spec_l13Fits.ans k a).val) := by
  refine sound_plain (fun args res h => ?_) (fun t n => rfl)
  unfold spec_l13Fits.ans at h
  dsimp only at h
  split at h
  · cases k with
    | zero => cases h
    | succ k =>
      unfold Ans.val at h
      rw [← spec_l13Fits.eq] at h
      exact answer_sound mixed Try.func154 _ _ _ (k + 1) (fun j _ => tab_sound (tab_cons (spec_SameBytes.sound j) (tab_nil))) _ _ h
  · exact (Ans.no_val h).elim

/-! loop.example/g00790/spec.HeadOk -/
def spec_HeadOk.b {R : Type} (ret : Bool → Option R) (k : Nat) (a0_0 : Int) (a0_1 : Int) (a0_2 : Int) (a0_3 : Int) (a0_4 : Int) (a1_0 : Int) (a1_1 : Int) (a1_2 : Int) (a1_3z : Bool) (a1_3 : List Int) (a1_4z : Bool) (a1_4 : List Int) (a1_5 : Int) (a1_6 : Int) (a1_7z : Bool) (a1_7 : List Int) (a1_8z : Bool) (a1_8 : List Int) (a1_9z : Bool) (a1_9 : List T) : Option R :=
  (spec_LimitsOk.f k a0_0 a0_1 a0_2 a0_3 a0_4).bind fun t0 => cond t0 ((spec_l01Num.f k a1_0).bind fun t1 => cond t1 ((spec_l01In.f k a1_1 1 1152921504606846975).bind fun t2 => cond t2 ((spec_l01In.f k a1_2 0 (RowKit.wrap64 (a0_0 - 1))).bind fun t3 => cond t3 ((spec_l07Hash.f k a1_3z a1_3).bind fun t4 => cond t4 ((spec_l07Hash.f k a1_4z a1_4).bind fun t5 => cond t5 ((spec_QcOk.f k a0_0 a0_1 a0_2 a0_3 a0_4 a1_5 a1_6 a1_7z a1_7 a1_8z a1_8 a1_9z a1_9).bind fun t6 => cond t6 ((spec_l13Fits.f k a1_0 a1_1 a1_2 a1_3z a1_3 a1_4z a1_4 a1_5 a1_6 a1_7z a1_7 a1_8z a1_8 a1_9z a1_9).bind fun t7 => ret t7) (ret false)) (ret false)) (ret false)) (ret false)) (ret false)) (ret false)) (ret false)
def spec_HeadOk.f : Nat → Int → Int → Int → Int → Int → Int → Int → Int → Bool → (List Int) → Bool → (List Int) → Int → Int → Bool → (List Int) → Bool → (List Int) → Bool → (List T) → Option Bool
  | 0, _, _, _, _, _, _, _, _, _, _, _, _, _, _, _, _, _, _, _, _ => none
  | k + 1, a0_0, a0_1, a0_2, a0_3, a0_4, a1_0, a1_1, a1_2, a1_3z, a1_3, a1_4z, a1_4, a1_5, a1_6, a1_7z, a1_7, a1_8z, a1_8, a1_9z, a1_9 => spec_HeadOk.b some k a0_0 a0_1 a0_2 a0_3 a0_4 a1_0 a1_1 a1_2 a1_3z a1_3 a1_4z a1_4 a1_5 a1_6 a1_7z a1_7 a1_8z a1_8 a1_9z a1_9
def spec_HeadOk.enc (r : Bool) : Res := ⟨[.vals false [((.bool r), true)]], []⟩
def spec_HeadOk.ans (k : Nat) : List Arg → Ans
  | [.v (.agg [(.int .i64 a0_0), (.int .i64 a0_1), (.int .i64 a0_2), (.int .i64 a0_3), (.int .i64 a0_4)]), .v (.agg [(.int .i64 a1_0), (.int .i64 a1_1), (.int .i64 a1_2), (.nums 5 .u8 a1_3z a1_3), (.nums 5 .u8 a1_4z a1_4), (.int .i64 a1_5), (.int .i64 a1_6), (.nums 5 .u8 a1_7z a1_7), (.nums 5 .u8 a1_8z a1_8), (.sl 45 a1_9z a1_9)])] => ⟨spec_HeadOk.f k a0_0 a0_1 a0_2 a0_3 a0_4 a1_0 a1_1 a1_2 a1_3z a1_3 a1_4z a1_4 a1_5 a1_6 a1_7z a1_7 a1_8z a1_8 a1_9z a1_9, spec_HeadOk.enc⟩
  | _ => Ans.no
def spec_HeadOk.Cs (k : Nat) : CallSem := tab [(81, spec_LimitsOk.ans k), (122, spec_l01In.ans k), (152, spec_l01Num.ans k), (153, spec_l07Hash.ans k), (99, spec_QcOk.ans k), (154, spec_l13Fits.ans k)]
def spec_HeadOk.cuts : List (Nat × Keep) := []
theorem spec_HeadOk.s (k : Nat) (a0_0 : Int) (a0_1 : Int) (a0_2 : Int) (a0_3 : Int) (a0_4 : Int) (a1_0 : Int) (a1_1 : Int) (a1_2 : Int) (a1_3z : Bool) (a1_3 : List Int) (a1_4z : Bool) (a1_4 : List Int) (a1_5 : Int) (a1_6 : Int) (a1_7z : Bool) (a1_7 : List Int) (a1_8z : Bool) (a1_8 : List Int) (a1_9z : Bool) (a1_9 : List T) : answer Try.prog spec_HeadOk.Cs 100000 spec_HeadOk.cuts [] Try.f75 (k + 1) [.v (.agg [(.int .i64 a0_0), (.int .i64 a0_1), (.int .i64 a0_2), (.int .i64 a0_3), (.int .i64 a0_4)]), .v (.agg [(.int .i64 a1_0), (.int .i64 a1_1), (.int .i64 a1_2), (.nums 5 .u8 a1_3z a1_3), (.nums 5 .u8 a1_4z a1_4), (.int .i64 a1_5), (.int .i64 a1_6), (.nums 5 .u8 a1_7z a1_7), (.nums 5 .u8 a1_8z a1_8), (.sl 45 a1_9z a1_9)])] = spec_HeadOk.b (fun r => some (spec_HeadOk.enc r)) k a0_0 a0_1 a0_2 a0_3 a0_4 a1_0 a1_1 a1_2 a1_3z a1_3 a1_4z a1_4 a1_5 a1_6 a1_7z a1_7 a1_8z a1_8 a1_9z a1_9 := by kernel_rfl
theorem spec_HeadOk.b_nat {R R' : Type} (e : R → R') (ret : Bool → Option R) (k : Nat) (a0_0 : Int) (a0_1 : Int) (a0_2 : Int) (a0_3 : Int) (a0_4 : Int) (a1_0 : Int) (a1_1 : Int) (a1_2 : Int) (a1_3z : Bool) (a1_3 : List Int) (a1_4z : Bool) (a1_4 : List Int) (a1_5 : Int) (a1_6 : Int) (a1_7z : Bool) (a1_7 : List Int) (a1_8z : Bool) (a1_8 : List Int) (a1_9z : Bool) (a1_9 : List T) : spec_HeadOk.b (fun r => (ret r).map e) k a0_0 a0_1 a0_2 a0_3 a0_4 a1_0 a1_1 a1_2 a1_3z a1_3 a1_4z a1_4 a1_5 a1_6 a1_7z a1_7 a1_8z a1_8 a1_9z a1_9 = (spec_HeadOk.b ret k a0_0 a0_1 a0_2 a0_3 a0_4 a1_0 a1_1 a1_2 a1_3z a1_3 a1_4z a1_4 a1_5 a1_6 a1_7z a1_7 a1_8z a1_8 a1_9z a1_9).map e := by
  unfold spec_HeadOk.b
  repeat' first | with_reducible refine nat_cond ?_ ?_ | with_reducible refine nat_bind fun _ => ?_ | rfl
theorem spec_HeadOk.eq (k : Nat) (a0_0 : Int) (a0_1 : Int) (a0_2 : Int) (a0_3 : Int) (a0_4 : Int) (a1_0 : Int) (a1_1 : Int) (a1_2 : Int) (a1_3z : Bool) (a1_3 : List Int) (a1_4z : Bool) (a1_4 : List Int) (a1_5 : Int) (a1_6 : Int) (a1_7z : Bool) (a1_7 : List Int) (a1_8z : Bool) (a1_8 : List Int) (a1_9z : Bool) (a1_9 : List T) : answer Try.prog spec_HeadOk.Cs 100000 spec_HeadOk.cuts [] Try.f75 (k + 1) [.v (.agg [(.int .i64 a0_0), (.int .i64 a0_1), (.int .i64 a0_2), (.int .i64 a0_3), (.int .i64 a0_4)]), .v (.agg [(.int .i64 a1_0), (.int .i64 a1_1), (.int .i64 a1_2), (.nums 5 .u8 a1_3z a1_3), (.nums 5 .u8 a1_4z a1_4), (.int .i64 a1_5), (.int .i64 a1_6), (.nums 5 .u8 a1_7z a1_7), (.nums 5 .u8 a1_8z a1_8), (.sl 45 a1_9z a1_9)])] = (spec_HeadOk.f (k + 1) a0_0 a0_1 a0_2 a0_3 a0_4 a1_0 a1_1 a1_2 a1_3z a1_3 a1_4z a1_4 a1_5 a1_6 a1_7z a1_7 a1_8z a1_8 a1_9z a1_9).map spec_HeadOk.enc := by
  refine (spec_HeadOk.s k a0_0 a0_1 a0_2 a0_3 a0_4 a1_0 a1_1 a1_2 a1_3z a1_3 a1_4z a1_4 a1_5 a1_6 a1_7z a1_7 a1_8z a1_8 a1_9z a1_9).trans (Eq.trans ?_ (spec_HeadOk.b_nat spec_HeadOk.enc some k a0_0 a0_1 a0_2 a0_3 a0_4 a1_0 a1_1 a1_2 a1_3z a1_3 a1_4z a1_4 a1_5 a1_6 a1_7z a1_7 a1_8z a1_8 a1_9z a1_9))
  simp only [Option.map_some]
theorem spec_HeadOk.sound (k : Nat) : SoundF Try.prog 75 (fun a => (spec_HeadOk.ans k a).val) := by
  refine sound_plain (fun args res h => ?_) (fun t n => rfl)
  unfold spec_HeadOk.ans at h
  dsimp only at h
  split at h
  · cases k with
    | zero => cases h
    | succ k =>
      unfold Ans.val at h
      rw [← spec_HeadOk.eq] at h
      exact answer_sound mixed Try.func75 _ _ _ (k + 1) (fun j _ => tab_sound (tab_cons (spec_LimitsOk.sound j) (tab_cons (spec_l01In.sound j) (tab_cons (spec_l01Num.sound j) (tab_cons (spec_l07Hash.sound j) (tab_cons (spec_QcOk.sound j) (tab_cons (spec_l13Fits.sound j) (tab_nil)))))))) _ _ h
  · exact (Ans.no_val h).elim

/-! loop.example/g00790/spec.LightOk -/
def spec_LightOk.b {R : Type} (ret : Bool → Option R) (j0 : Bool → (List T) → Int → Int → Int → Int → Int → Int → Int → Bool → (List T) → Int → Bool → (List Int) → Bool → (List T) → Option R) (k : Nat) (a0_0 : Int) (a0_1 : Int) (a0_2 : Int) (a0_3 : Int) (a0_4 : Int) (a0_5z : Bool) (a0_5 : List T) (a0_6 : Int) (a0_7z : Bool) (a0_7 : List Int) (a0_8z : Bool) (a0_8 : List T) : Option R :=
  (spec_l23Goes.f k a0_0 a0_1 a0_2 a0_3 a0_4 a0_5z a0_5).bind fun t0 => cond (!t0) (ret false) ((spec_PushOk.f k a0_0 a0_1 a0_2 a0_3 a0_4 a0_6 a0_7z a0_7).bind fun t1 => cond (!t1) (ret false) (cond (decide (((a0_8).length : Int) > 8)) (ret false) (j0 a0_8z a0_8 ((a0_8).length : Int) 0 a0_0 a0_1 a0_2 a0_3 a0_4 a0_5z a0_5 a0_6 a0_7z a0_7 a0_8z a0_8)))
def spec_LightOk.l0b {R : Type} (ret : Bool → Option R) (j0 : Bool → (List T) → Int → Int → Int → Int → Int → Int → Int → Bool → (List T) → Int → Bool → (List Int) → Bool → (List T) → Option R) (k : Nat) (x26z : Bool) (x26 : List T) (x27 : Int) (x28 : Int) (c1_0 : Int) (c1_1 : Int) (c1_2 : Int) (c1_3 : Int) (c1_4 : Int) (c1_5z : Bool) (c1_5 : List T) (c1_6 : Int) (c1_7z : Bool) (c1_7 : List Int) (c1_8z : Bool) (c1_8 : List T) : Option R :=
  cond (decide (x28 < x27)) (cond (decide ((0 : Int) ≤ x28)) (cond (decide (x28 < ((x26).length : Int))) ((spec_HeadOk.f k c1_0 c1_1 c1_2 c1_3 c1_4 (((((x26).getD (x28).toNat .bad).cells.getD 0 .bad)).toInt) (((((x26).getD (x28).toNat .bad).cells.getD 1 .bad)).toInt) (((((x26).getD (x28).toNat .bad).cells.getD 2 .bad)).toInt) (((((x26).getD (x28).toNat .bad).cells.getD 3 .bad)).isNil) (((((x26).getD (x28).toNat .bad).cells.getD 3 .bad)).toNums) (((((x26).getD (x28).toNat .bad).cells.getD 4 .bad)).isNil) (((((x26).getD (x28).toNat .bad).cells.getD 4 .bad)).toNums) (((((x26).getD (x28).toNat .bad).cells.getD 5 .bad)).toInt) (((((x26).getD (x28).toNat .bad).cells.getD 6 .bad)).toInt) (((((x26).getD (x28).toNat .bad).cells.getD 7 .bad)).isNil) (((((x26).getD (x28).toNat .bad).cells.getD 7 .bad)).toNums) (((((x26).getD (x28).toNat .bad).cells.getD 8 .bad)).isNil) (((((x26).getD (x28).toNat .bad).cells.getD 8 .bad)).toNums) (((((x26).getD (x28).toNat .bad).cells.getD 9 .bad)).isNil) (((((x26).getD (x28).toNat .bad).cells.getD 9 .bad)).toList)).bind fun t0 => cond (!t0) (ret false) (cond (decide (x28 > 0)) (cond (decide ((0 : Int) ≤ (RowKit.wrap64 (x28 - 1)))) (cond (decide ((RowKit.wrap64 (x28 - 1)) < ((c1_8).length : Int))) (cond (decide (((((c1_8).getD ((RowKit.wrap64 (x28 - 1))).toNat .bad).cells.getD 1 .bad)).toInt ≥ ((((x26).getD (x28).toNat .bad).cells.getD 1 .bad)).toInt)) (ret false) (j0 x26z x26 x27 (RowKit.wrap64 (x28 + 1)) c1_0 c1_1 c1_2 c1_3 c1_4 c1_5z c1_5 c1_6 c1_7z c1_7 c1_8z c1_8)) (none)) (none)) (j0 x26z x26 x27 (RowKit.wrap64 (x28 + 1)) c1_0 c1_1 c1_2 c1_3 c1_4 c1_5z c1_5 c1_6 c1_7z c1_7 c1_8z c1_8))) (none)) (none)) (ret true)
def spec_LightOk.l0 : Nat → Bool → (List T) → Int → Int → Int → Int → Int → Int → Int → Bool → (List T) → Int → Bool → (List Int) → Bool → (List T) → Option Bool
  | 0, _, _, _, _, _, _, _, _, _, _, _, _, _, _, _, _ => none
  | k + 1, x26z, x26, x27, x28, c1_0, c1_1, c1_2, c1_3, c1_4, c1_5z, c1_5, c1_6, c1_7z, c1_7, c1_8z, c1_8 => spec_LightOk.l0b some (spec_LightOk.l0 k) k x26z x26 x27 x28 c1_0 c1_1 c1_2 c1_3 c1_4 c1_5z c1_5 c1_6 c1_7z c1_7 c1_8z c1_8
def spec_LightOk.f : Nat → Int → Int → Int → Int → Int → Bool → (List T) → Int → Bool → (List Int) → Bool → (List T) → Option Bool
  | 0, _, _, _, _, _, _, _, _, _, _, _, _ => none
  | k + 1, a0_0, a0_1, a0_2, a0_3, a0_4, a0_5z, a0_5, a0_6, a0_7z, a0_7, a0_8z, a0_8 => spec_LightOk.b some (spec_LightOk.l0 k) k a0_0 a0_1 a0_2 a0_3 a0_4 a0_5z a0_5 a0_6 a0_7z a0_7 a0_8z a0_8
def spec_LightOk.enc (r : Bool) : Res := ⟨[.vals false [((.bool r), true)]], []⟩
def spec_LightOk.ans (k : Nat) : List Arg → Ans
  | [.v (.agg [(.int .i64 a0_0), (.int .i64 a0_1), (.int .i64 a0_2), (.int .i64 a0_3), (.int .i64 a0_4), (.sl 160 a0_5z a0_5), (.int .i64 a0_6), (.nums 5 .u8 a0_7z a0_7), (.sl 124 a0_8z a0_8)])] => ⟨spec_LightOk.f k a0_0 a0_1 a0_2 a0_3 a0_4 a0_5z a0_5 a0_6 a0_7z a0_7 a0_8z a0_8, spec_LightOk.enc⟩
  | _ => Ans.no
def spec_LightOk.Cs (k : Nat) : CallSem := tab [(89, spec_l23Goes.ans k), (90, spec_PushOk.ans k), (75, spec_HeadOk.ans k)]
def spec_LightOk.cuts : List (Nat × Keep) := [(58, ⟨[(1, some []), (26, some []), (27, some []), (28, some [])], [(1, [some [], some [], some [], some [], some [], some [], some [], some [], some []])]⟩)]
noncomputable def spec_LightOk.K0 : List Fr := framesAt [true, true, false, true, false] (bodyOf Try.f26 spec_LightOk.cuts) []
def spec_LightOk.N0 (x26z : Bool) (x26 : List T) (x27 : Int) (x28 : Int) (c1_0 : Int) (c1_1 : Int) (c1_2 : Int) (c1_3 : Int) (c1_4 : Int) (c1_5z : Bool) (c1_5 : List T) (c1_6 : Int) (c1_7z : Bool) (c1_7 : List Int) (c1_8z : Bool) (c1_8 : List T) : St := stOf 55 55 1 [(1, .bp 1 0), (26, .val ⟨(.sl 124 x26z x26), [], false, none⟩), (27, .val (V.s (.int .i64 x27))), (28, .val (V.s (.int .i64 x28)))] [(1, .cells [V.s (.int .i64 c1_0), V.s (.int .i64 c1_1), V.s (.int .i64 c1_2), V.s (.int .i64 c1_3), V.s (.int .i64 c1_4), ⟨(.sl 160 c1_5z c1_5), [], false, none⟩, V.s (.int .i64 c1_6), ⟨(.nums 5 .u8 c1_7z c1_7), [], false, none⟩, ⟨(.sl 124 c1_8z c1_8), [], false, none⟩])]
theorem spec_LightOk.s (k : Nat) (a0_0 : Int) (a0_1 : Int) (a0_2 : Int) (a0_3 : Int) (a0_4 : Int) (a0_5z : Bool) (a0_5 : List T) (a0_6 : Int) (a0_7z : Bool) (a0_7 : List Int) (a0_8z : Bool) (a0_8 : List T) : answer Try.prog spec_LightOk.Cs 100000 spec_LightOk.cuts [] Try.f26 (k + 1) [.v (.agg [(.int .i64 a0_0), (.int .i64 a0_1), (.int .i64 a0_2), (.int .i64 a0_3), (.int .i64 a0_4), (.sl 160 a0_5z a0_5), (.int .i64 a0_6), (.nums 5 .u8 a0_7z a0_7), (.sl 124 a0_8z a0_8)])] = spec_LightOk.b (fun r => some (spec_LightOk.enc r)) (fun x26z x26 x27 x28 c1_0 c1_1 c1_2 c1_3 c1_4 c1_5z c1_5 c1_6 c1_7z c1_7 c1_8z c1_8 => rounds Try.prog spec_LightOk.Cs (finish Try.prog [] Try.f26 [.v (.agg [(.int .i64 a0_0), (.int .i64 a0_1), (.int .i64 a0_2), (.int .i64 a0_3), (.int .i64 a0_4), (.sl 160 a0_5z a0_5), (.int .i64 a0_6), (.nums 5 .u8 a0_7z a0_7), (.sl 124 a0_8z a0_8)])]) 100000 k spec_LightOk.K0 (spec_LightOk.N0 x26z x26 x27 x28 c1_0 c1_1 c1_2 c1_3 c1_4 c1_5z c1_5 c1_6 c1_7z c1_7 c1_8z c1_8)) k a0_0 a0_1 a0_2 a0_3 a0_4 a0_5z a0_5 a0_6 a0_7z a0_7 a0_8z a0_8 := by kernel_rfl
theorem spec_LightOk.s0 (k : Nat) (G : List Fr → St → Option Res) (a0_0 : Int) (a0_1 : Int) (a0_2 : Int) (a0_3 : Int) (a0_4 : Int) (a0_5z : Bool) (a0_5 : List T) (a0_6 : Int) (a0_7z : Bool) (a0_7 : List Int) (a0_8z : Bool) (a0_8 : List T) (yx26z : Bool) (yx26 : List T) (yx27 : Int) (yx28 : Int) (yc1_0 : Int) (yc1_1 : Int) (yc1_2 : Int) (yc1_3 : Int) (yc1_4 : Int) (yc1_5z : Bool) (yc1_5 : List T) (yc1_6 : Int) (yc1_7z : Bool) (yc1_7 : List Int) (yc1_8z : Bool) (yc1_8 : List T) : resume Try.prog (spec_LightOk.Cs k) G (finish Try.prog [] Try.f26 [.v (.agg [(.int .i64 a0_0), (.int .i64 a0_1), (.int .i64 a0_2), (.int .i64 a0_3), (.int .i64 a0_4), (.sl 160 a0_5z a0_5), (.int .i64 a0_6), (.nums 5 .u8 a0_7z a0_7), (.sl 124 a0_8z a0_8)])]) 100000 spec_LightOk.K0 (spec_LightOk.N0 yx26z yx26 yx27 yx28 yc1_0 yc1_1 yc1_2 yc1_3 yc1_4 yc1_5z yc1_5 yc1_6 yc1_7z yc1_7 yc1_8z yc1_8) = spec_LightOk.l0b (fun r => some (spec_LightOk.enc r)) (fun x26z x26 x27 x28 c1_0 c1_1 c1_2 c1_3 c1_4 c1_5z c1_5 c1_6 c1_7z c1_7 c1_8z c1_8 => G spec_LightOk.K0 (spec_LightOk.N0 x26z x26 x27 x28 c1_0 c1_1 c1_2 c1_3 c1_4 c1_5z c1_5 c1_6 c1_7z c1_7 c1_8z c1_8)) k yx26z yx26 yx27 yx28 yc1_0 yc1_1 yc1_2 yc1_3 yc1_4 yc1_5z yc1_5 yc1_6 yc1_7z yc1_7 yc1_8z yc1_8 := by kernel_rfl
theorem spec_LightOk.b_nat {R R' : Type} (e : R → R') (ret : Bool → Option R) (j0 : Bool → (List T) → Int → Int → Int → Int → Int → Int → Int → Bool → (List T) → Int → Bool → (List Int) → Bool → (List T) → Option R) (k : Nat) (a0_0 : Int) (a0_1 : Int) (a0_2 : Int) (a0_3 : Int) (a0_4 : Int) (a0_5z : Bool) (a0_5 : List T) (a0_6 : Int) (a0_7z : Bool) (a0_7 : List Int) (a0_8z : Bool) (a0_8 : List T) : spec_LightOk.b (fun r => (ret r).map e) (fun x26z x26 x27 x28 c1_0 c1_1 c1_2 c1_3 c1_4 c1_5z c1_5 c1_6 c1_7z c1_7 c1_8z c1_8 => (j0 x26z x26 x27 x28 c1_0 c1_1 c1_2 c1_3 c1_4 c1_5z c1_5 c1_6 c1_7z c1_7 c1_8z c1_8).map e) k a0_0 a0_1 a0_2 a0_3 a0_4 a0_5z a0_5 a0_6 a0_7z a0_7 a0_8z a0_8 = (spec_LightOk.b ret j0 k a0_0 a0_1 a0_2 a0_3 a0_4 a0_5z a0_5 a0_6 a0_7z a0_7 a0_8z a0_8).map e := by
  unfold spec_LightOk.b
  repeat' first | with_reducible refine nat_cond ?_ ?_ | with_reducible refine nat_bind fun _ => ?_ | rfl
theorem spec_LightOk.l0b_nat {R R' : Type} (e : R → R') (ret : Bool → Option R) (j0 : Bool → (List T) → Int → Int → Int → Int → Int → Int → Int → Bool → (List T) → Int → Bool → (List Int) → Bool → (List T) → Option R) (k : Nat) (x26z : Bool) (x26 : List T) (x27 : Int) (x28 : Int) (c1_0 : Int) (c1_1 : Int) (c1_2 : Int) (c1_3 : Int) (c1_4 : Int) (c1_5z : Bool) (c1_5 : List T) (c1_6 : Int) (c1_7z : Bool) (c1_7 : List Int) (c1_8z : Bool) (c1_8 : List T) : spec_LightOk.l0b (fun r => (ret r).map e) (fun x26z x26 x27 x28 c1_0 c1_1 c1_2 c1_3 c1_4 c1_5z c1_5 c1_6 c1_7z c1_7 c1_8z c1_8 => (j0 x26z x26 x27 x28 c1_0 c1_1 c1_2 c1_3 c1_4 c1_5z c1_5 c1_6 c1_7z c1_7 c1_8z c1_8).map e) k x26z x26 x27 x28 c1_0 c1_1 c1_2 c1_3 c1_4 c1_5z c1_5 c1_6 c1_7z c1_7 c1_8z c1_8 = (spec_LightOk.l0b ret j0 k x26z x26 x27 x28 c1_0 c1_1 c1_2 c1_3 c1_4 c1_5z c1_5 c1_6 c1_7z c1_7 c1_8z c1_8).map e := by
  unfold spec_LightOk.l0b
  repeat' first | with_reducible refine nat_cond ?_ ?_ | with_reducible refine nat_bind fun _ => ?_ | rfl
theorem spec_LightOk.rounds_eq (a0_0 : Int) (a0_1 : Int) (a0_2 : Int) (a0_3 : Int) (a0_4 : Int) (a0_5z : Bool) (a0_5 : List T) (a0_6 : Int) (a0_7z : Bool) (a0_7 : List Int) (a0_8z : Bool) (a0_8 : List T) : ∀ k, (∀ (x26z : Bool) (x26 : List T) (x27 : Int) (x28 : Int) (c1_0 : Int) (c1_1 : Int) (c1_2 : Int) (c1_3 : Int) (c1_4 : Int) (c1_5z : Bool) (c1_5 : List T) (c1_6 : Int) (c1_7z : Bool) (c1_7 : List Int) (c1_8z : Bool) (c1_8 : List T), rounds Try.prog spec_LightOk.Cs (finish Try.prog [] Try.f26 [.v (.agg [(.int .i64 a0_0), (.int .i64 a0_1), (.int .i64 a0_2), (.int .i64 a0_3), (.int .i64 a0_4), (.sl 160 a0_5z a0_5), (.int .i64 a0_6), (.nums 5 .u8 a0_7z a0_7), (.sl 124 a0_8z a0_8)])]) 100000 k spec_LightOk.K0 (spec_LightOk.N0 x26z x26 x27 x28 c1_0 c1_1 c1_2 c1_3 c1_4 c1_5z c1_5 c1_6 c1_7z c1_7 c1_8z c1_8) = (spec_LightOk.l0 k x26z x26 x27 x28 c1_0 c1_1 c1_2 c1_3 c1_4 c1_5z c1_5 c1_6 c1_7z c1_7 c1_8z c1_8).map spec_LightOk.enc)
  | 0 => fun _ _ _ _ _ _ _ _ _ _ _ _ _ _ _ _ => rfl
  | k + 1 => by
    have ih := spec_LightOk.rounds_eq a0_0 a0_1 a0_2 a0_3 a0_4 a0_5z a0_5 a0_6 a0_7z a0_7 a0_8z a0_8 k
    refine fun _ _ _ _ _ _ _ _ _ _ _ _ _ _ _ _ => ?_
    · refine (spec_LightOk.s0 k _ a0_0 a0_1 a0_2 a0_3 a0_4 a0_5z a0_5 a0_6 a0_7z a0_7 a0_8z a0_8 _ _ _ _ _ _ _ _ _ _ _ _ _ _ _ _).trans (Eq.trans ?_ (spec_LightOk.l0b_nat spec_LightOk.enc some (spec_LightOk.l0 k) k _ _ _ _ _ _ _ _ _ _ _ _ _ _ _ _))
      simp only [ih, Option.map_some]
theorem spec_LightOk.eq (k : Nat) (a0_0 : Int) (a0_1 : Int) (a0_2 : Int) (a0_3 : Int) (a0_4 : Int) (a0_5z : Bool) (a0_5 : List T) (a0_6 : Int) (a0_7z : Bool) (a0_7 : List Int) (a0_8z : Bool) (a0_8 : List T) : answer Try.prog spec_LightOk.Cs 100000 spec_LightOk.cuts [] Try.f26 (k + 1) [.v (.agg [(.int .i64 a0_0), (.int .i64 a0_1), (.int .i64 a0_2), (.int .i64 a0_3), (.int .i64 a0_4), (.sl 160 a0_5z a0_5), (.int .i64 a0_6), (.nums 5 .u8 a0_7z a0_7), (.sl 124 a0_8z a0_8)])] = (spec_LightOk.f (k + 1) a0_0 a0_1 a0_2 a0_3 a0_4 a0_5z a0_5 a0_6 a0_7z a0_7 a0_8z a0_8).map spec_LightOk.enc := by
  have ih := spec_LightOk.rounds_eq a0_0 a0_1 a0_2 a0_3 a0_4 a0_5z a0_5 a0_6 a0_7z a0_7 a0_8z a0_8 k
  refine (spec_LightOk.s k a0_0 a0_1 a0_2 a0_3 a0_4 a0_5z a0_5 a0_6 a0_7z a0_7 a0_8z a0_8).trans (Eq.trans ?_ (spec_LightOk.b_nat spec_LightOk.enc some (spec_LightOk.l0 k) k a0_0 a0_1 a0_2 a0_3 a0_4 a0_5z a0_5 a0_6 a0_7z a0_7 a0_8z a0_8))
  simp only [ih, Option.map_some]
theorem spec_LightOk.sound (k : Nat) : SoundF Try.prog 26 (fun a => (spec_LightOk.ans k a).val) := by
  refine sound_plain (fun args res h => ?_) (fun t n => rfl)
  unfold spec_LightOk.ans at h
  dsimp only at h
  split at h
  · cases k with
    | zero => cases h
    | succ k =>
      unfold Ans.val at h
      rw [← spec_LightOk.eq] at h
      exact answer_sound mixed Try.func26 _ _ _ (k + 1) (fun j _ => tab_sound (tab_cons (spec_l23Goes.sound j) (tab_cons (spec_PushOk.sound j) (tab_cons (spec_HeadOk.sound j) (tab_nil))))) _ _ h
  · exact (Ans.no_val h).elim

/-! loop.example/g00790/impl.within -/
def impl_within.b {R : Type} (ret : Bool → Option R) (k : Nat) (a0 : Int) (a1 : Int) (a2 : Int) : Option R :=
  cond (decide (a1 ≤ a0)) (ret (decide (a0 ≤ a2))) (ret false)
def impl_within.f : Nat → Int → Int → Int → Option Bool
  | 0, _, _, _ => none
  | k + 1, a0, a1, a2 => impl_within.b some k a0 a1 a2
def impl_within.enc (r : Bool) : Res := ⟨[.vals false [((.bool r), true)]], []⟩
def impl_within.ans (k : Nat) : List Arg → Ans
  | [.v (.int .i64 a0), .v (.int .i64 a1), .v (.int .i64 a2)] => ⟨impl_within.f k a0 a1 a2, impl_within.enc⟩
  | _ => Ans.no
def impl_within.Cs (k : Nat) : CallSem := tab []
def impl_within.cuts : List (Nat × Keep) := []
theorem impl_within.s (k : Nat) (a0 : Int) (a1 : Int) (a2 : Int) : answer Try.prog impl_within.Cs 100000 impl_within.cuts [] Try.f126 (k + 1) [.v (.int .i64 a0), .v (.int .i64 a1), .v (.int .i64 a2)] = impl_within.b (fun r => some (impl_within.enc r)) k a0 a1 a2 := by kernel_rfl
theorem impl_within.b_nat {R R' : Type} (e : R → R') (ret : Bool → Option R) (k : Nat) (a0 : Int) (a1 : Int) (a2 : Int) : impl_within.b (fun r => (ret r).map e) k a0 a1 a2 = (impl_within.b ret k a0 a1 a2).map e := by
  unfold impl_within.b
  repeat' first | with_reducible refine nat_cond ?_ ?_ | with_reducible refine nat_bind fun _ => ?_ | rfl
theorem impl_within.eq (k : Nat) (a0 : Int) (a1 : Int) (a2 : Int) : answer Try.prog impl_within.Cs 100000 impl_within.cuts [] Try.f126 (k + 1) [.v (.int .i64 a0), .v (.int .i64 a1), .v (.int .i64 a2)] = (impl_within.f (k + 1) a0 a1 a2).map impl_within.enc := by
  refine (impl_within.s k a0 a1 a2).trans (Eq.trans ?_ (impl_within.b_nat impl_within.enc some k a0 a1 a2))
  simp only [Option.map_some]
theorem impl_within.sound (k : Nat) : SoundF Try.prog 126 (fun a => (impl_within.ans k a).val) := by
  refine sound_plain (fun args res h => ?_) (fun t n => rfl)
  unfold impl_within.ans at h
  dsimp only at h
  split at h
  · cases k with
    | zero => cases h
    | succ k =>
      unfold Ans.val at h
      rw [← impl_within.eq] at h
      exact answer_sound mixed Try.func126 _ _ _ (k + 1) (fun j _ => tab_sound (tab_nil)) _ _ h
  · exact (Ans.no_val h).elim

/-! loop.example/g00790/impl.LimitsOk -/
def impl_LimitsOk.b {R : Type} (ret : Bool → Option R) (k : Nat) (a0_0 : Int) (a0_1 : Int) (a0_2 : Int) (a0_3 : Int) (a0_4 : Int) : Option R :=
  (impl_within.f k a0_0 1 10).bind fun t0 => cond t0 ((impl_within.f k a0_1 0 40).bind fun t1 => cond t1 ((impl_within.f k a0_2 0 8).bind fun t2 => cond t2 ((impl_within.f k a0_3 1 4000).bind fun t3 => cond t3 ((impl_within.f k a0_4 3 5).bind fun t4 => ret t4) (ret false)) (ret false)) (ret false)) (ret false)
def impl_LimitsOk.f : Nat → Int → Int → Int → Int → Int → Option Bool
  | 0, _, _, _, _, _ => none
  | k + 1, a0_0, a0_1, a0_2, a0_3, a0_4 => impl_LimitsOk.b some k a0_0 a0_1 a0_2 a0_3 a0_4
def impl_LimitsOk.enc (r : Bool) : Res := ⟨[.vals false [((.bool r), true)]], []⟩
def impl_LimitsOk.ans (k : Nat) : List Arg → Ans
  | [.v (.agg [(.int .i64 a0_0), (.int .i64 a0_1), (.int .i64 a0_2), (.int .i64 a0_3), (.int .i64 a0_4)])] => ⟨impl_LimitsOk.f k a0_0 a0_1 a0_2 a0_3 a0_4, impl_LimitsOk.enc⟩
  | _ => Ans.no
def impl_LimitsOk.Cs (k : Nat) : CallSem := tab [(126, impl_within.ans k)]
def impl_LimitsOk.cuts : List (Nat × Keep) := []
theorem impl_LimitsOk.s (k : Nat) (a0_0 : Int) (a0_1 : Int) (a0_2 : Int) (a0_3 : Int) (a0_4 : Int) : answer Try.prog impl_LimitsOk.Cs 100000 impl_LimitsOk.cuts [] Try.f86 (k + 1) [.v (.agg [(.int .i64 a0_0), (.int .i64 a0_1), (.int .i64 a0_2), (.int .i64 a0_3), (.int .i64 a0_4)])] = impl_LimitsOk.b (fun r => some (impl_LimitsOk.enc r)) k a0_0 a0_1 a0_2 a0_3 a0_4 := by kernel_rfl
theorem impl_LimitsOk.b_nat {R R' : Type} (e : R → R') (ret : Bool → Option R) (k : Nat) (a0_0 : Int) (a0_1 : Int) (a0_2 : Int) (a0_3 : Int) (a0_4 : Int) : impl_LimitsOk.b (fun r => (ret r).map e) k a0_0 a0_1 a0_2 a0_3 a0_4 = (impl_LimitsOk.b ret k a0_0 a0_1 a0_2 a0_3 a0_4).map e := by
  unfold impl_LimitsOk.b
  repeat' first | with_reducible refine nat_cond ?_ ?_ | with_reducible refine nat_bind fun _ => ?_ | rfl
theorem impl_LimitsOk.eq (k : Nat) (a0_0 : Int) (a0_1 : Int) (a0_2 : Int) (a0_3 : Int) (a0_4 : Int) : answer Try.prog impl_LimitsOk.Cs 100000 impl_LimitsOk.cuts [] Try.f86 (k + 1) [.v (.agg [(.int .i64 a0_0), (.int .i64 a0_1), (.int .i64 a0_2), (.int .i64 a0_3), (.int .i64 a0_4)])] = (impl_LimitsOk.f (k + 1) a0_0 a0_1 a0_2 a0_3 a0_4).map impl_LimitsOk.enc := by
  refine (impl_LimitsOk.s k a0_0 a0_1 a0_2 a0_3 a0_4).trans (Eq.trans ?_ (impl_LimitsOk.b_nat impl_LimitsOk.enc some k a0_0 a0_1 a0_2 a0_3 a0_4))
  simp only [Option.map_some]
theorem impl_LimitsOk.sound (k : Nat) : SoundF Try.prog 86 (fun a => (impl_LimitsOk.ans k a).val) := by
  refine sound_plain (fun args res h => ?_) (fun t n => rfl)
  unfold impl_LimitsOk.ans at h
  dsimp only at h
  split at h
  · cases k with
    | zero => cases h
    | succ k =>
      unfold Ans.val at h
      rw [← impl_LimitsOk.eq] at h
      exact answer_sound mixed Try.func86 _ _ _ (k + 1) (fun j _ => tab_sound (tab_cons (impl_within.sound j) (tab_nil))) _ _ h
  · exact (Ans.no_val h).elim

/-! loop.example/g00790/impl.isNum -/
def impl_isNum.b {R : Type} (ret : Bool → Option R) (k : Nat) (a0 : Int) : Option R :=
  (impl_within.f k a0 0 1152921504606846975).bind fun t0 => ret t0
def impl_isNum.f : Nat → Int → Option Bool
  | 0, _ => none
  | k + 1, a0 => impl_isNum.b some k a0
def impl_isNum.enc (r : Bool) : Res := ⟨[.vals false [((.bool r), true)]], []⟩
def impl_isNum.ans (k : Nat) : List Arg → Ans
  | [.v (.int .i64 a0)] => ⟨impl_isNum.f k a0, impl_isNum.enc⟩
  | _ => Ans.no
def impl_isNum.Cs (k : Nat) : CallSem := tab [(126, impl_within.ans k)]
def impl_isNum.cuts : List (Nat × Keep) := []
theorem impl_isNum.s (k : Nat) (a0 : Int) : answer Try.prog impl_isNum.Cs 100000 impl_isNum.cuts [] Try.f161 (k + 1) [.v (.int .i64 a0)] = impl_isNum.b (fun r => some (impl_isNum.enc r)) k a0 := by kernel_rfl
theorem impl_isNum.b_nat {R R' : Type} (e : R → R') (ret : Bool → Option R) (k : Nat) (a0 : Int) : impl_isNum.b (fun r => (ret r).map e) k a0 = (impl_isNum.b ret k a0).map e := by
  unfold impl_isNum.b
  repeat' first | with_reducible refine nat_cond ?_ ?_ | with_reducible refine nat_bind fun _ => ?_ | rfl
theorem impl_isNum.eq (k : Nat) (a0 : Int) : answer Try.prog impl_isNum.Cs 100000 impl_isNum.cuts [] Try.f161 (k + 1) [.v (.int .i64 a0)] = (impl_isNum.f (k + 1) a0).map impl_isNum.enc := by
  refine (impl_isNum.s k a0).trans (Eq.trans ?_ (impl_isNum.b_nat impl_isNum.enc some k a0))
  simp only [Option.map_some]
theorem impl_isNum.sound (k : Nat) : SoundF Try.prog 161 (fun a => (impl_isNum.ans k a).val) := by
  refine sound_plain (fun args res h => ?_) (fun t n => rfl)
  unfold impl_isNum.ans at h
  dsimp only at h
  split at h
  · cases k with
    | zero => cases h
    | succ k =>
      unfold Ans.val at h
      rw [← impl_isNum.eq] at h
      exact answer_sound mixed Try.func161 _ _ _ (k + 1) (fun j _ => tab_sound (tab_cons (impl_within.sound j) (tab_nil))) _ _ h
  · exact (Ans.no_val h).elim

/-! loop.example/g00790/impl.areHashes -/
def impl_areHashes.b {R : Type} (ret : Bool → Option R) (j0 : Bool → (List T) → Int → Int → Option R) (k : Nat) (a0z : Bool) (a0 : List T) : Option R :=
  j0 a0z a0 ((a0).length : Int) 0
def impl_areHashes.l0b {R : Type} (ret : Bool → Option R) (j0 : Bool → (List T) → Int → Int → Option R) (k : Nat) (x5z : Bool) (x5 : List T) (x6 : Int) (x7 : Int) : Option R :=
  cond (decide (x7 < x6)) (cond (decide ((0 : Int) ≤ x7)) (cond (decide (x7 < ((x5).length : Int))) (cond (!(decide (((((((x5).getD (x7).toNat .bad).cells.getD 0 .bad)).toNums).length : Int) = 32))) (ret false) (j0 x5z x5 x6 (RowKit.wrap64 (x7 + 1)))) (none)) (none)) (ret true)
def impl_areHashes.l0 : Nat → Bool → (List T) → Int → Int → Option Bool
  | 0, _, _, _, _ => none
  | k + 1, x5z, x5, x6, x7 => impl_areHashes.l0b some (impl_areHashes.l0 k) k x5z x5 x6 x7
def impl_areHashes.f : Nat → Bool → (List T) → Option Bool
  | 0, _, _ => none
  | k + 1, a0z, a0 => impl_areHashes.b some (impl_areHashes.l0 k) k a0z a0
def impl_areHashes.enc (r : Bool) : Res := ⟨[.vals false [((.bool r), true)]], []⟩
def impl_areHashes.ans (k : Nat) : List Arg → Ans
  | [.v (.sl 45 a0z a0)] => ⟨impl_areHashes.f k a0z a0, impl_areHashes.enc⟩
  | _ => Ans.no
def impl_areHashes.Cs (k : Nat) : CallSem := tab []
def impl_areHashes.cuts : List (Nat × Keep) := [(26, ⟨[(5, some []), (6, some []), (7, some [])], []⟩)]
noncomputable def impl_areHashes.K0 : List Fr := framesAt [true, false, true, false] (bodyOf Try.f162 impl_areHashes.cuts) []
def impl_areHashes.N0 (x5z : Bool) (x5 : List T) (x6 : Int) (x7 : Int) : St := stOf 15 15 1 [(5, .val ⟨(.sl 45 x5z x5), [], false, none⟩), (6, .val (V.s (.int .i64 x6))), (7, .val (V.s (.int .i64 x7)))] []
theorem impl_areHashes.s (k : Nat) (a0z : Bool) (a0 : List T) : answer Try.prog impl_areHashes.Cs 100000 impl_areHashes.cuts [] Try.f162 (k + 1) [.v (.sl 45 a0z a0)] = impl_areHashes.b (fun r => some (impl_areHashes.enc r)) (fun x5z x5 x6 x7 => rounds Try.prog impl_areHashes.Cs (finish Try.prog [] Try.f162 [.v (.sl 45 a0z a0)]) 100000 k impl_areHashes.K0 (impl_areHashes.N0 x5z x5 x6 x7)) k a0z a0 := by kernel_rfl
theorem impl_areHashes.s0 (k : Nat) (G : List Fr → St → Option Res) (a0z : Bool) (a0 : List T) (yx5z : Bool) (yx5 : List T) (yx6 : Int) (yx7 : Int) : resume Try.prog (impl_areHashes.Cs k) G (finish Try.prog [] Try.f162 [.v (.sl 45 a0z a0)]) 100000 impl_areHashes.K0 (impl_areHashes.N0 yx5z yx5 yx6 yx7) = impl_areHashes.l0b (fun r => some (impl_areHashes.enc r)) (fun x5z x5 x6 x7 => G impl_areHashes.K0 (impl_areHashes.N0 x5z x5 x6 x7)) k yx5z yx5 yx6 yx7 := by kernel_rfl
theorem impl_areHashes.b_nat {R R' : Type} (e : R → R') (ret : Bool → Option R) (j0 : Bool → (List T) → Int → Int → Option R) (k : Nat) (a0z : Bool) (a0 : List T) : impl_areHashes.b (fun r => (ret r).map e) (fun x5z x5 x6 x7 => (j0 x5z x5 x6 x7).map e) k a0z a0 = (impl_areHashes.b ret j0 k a0z a0).map e := by
  unfold impl_areHashes.b
  repeat' first | with_reducible refine nat_cond ?_ ?_ | with_reducible refine nat_bind fun _ => ?_ | rfl
theorem impl_areHashes.l0b_nat {R R' : Type} (e : R → R') (ret : Bool → Option R) (j0 : Bool → (List T) → Int → Int → Option R) (k : Nat) (x5z : Bool) (x5 : List T) (x6 : Int) (x7 : Int) : impl_areHashes.l0b (fun r => (ret r).map e) (fun x5z x5 x6 x7 => (j0 x5z x5 x6 x7).map e) k x5z x5 x6 x7 = (impl_areHashes.l0b ret j0 k x5z x5 x6 x7).map e := by
  unfold impl_areHashes.l0b
  repeat' first | with_reducible refine nat_cond ?_ ?_ | with_reducible refine nat_bind fun _ => ?_ | rfl
theorem impl_areHashes.rounds_eq (a0z : Bool) (a0 : List T) : ∀ k, (∀ (x5z : Bool) (x5 : List T) (x6 : Int) (x7 : Int), rounds Try.prog impl_areHashes.Cs (finish Try.prog [] Try.f162 [.v (.sl 45 a0z a0)]) 100000 k impl_areHashes.K0 (impl_areHashes.N0 x5z x5 x6 x7) = (impl_areHashes.l0 k x5z x5 x6 x7).map impl_areHashes.enc)
  | 0 => fun _ _ _ _ => rfl
  | k + 1 => by
    have ih := impl_areHashes.rounds_eq a0z a0 k
    refine fun _ _ _ _ => ?_
    · refine (impl_areHashes.s0 k _ a0z a0 _ _ _ _).trans (Eq.trans ?_ (impl_areHashes.l0b_nat impl_areHashes.enc some (impl_areHashes.l0 k) k _ _ _ _))
      simp only [ih, Option.map_some]
theorem impl_areHashes.eq (k : Nat) (a0z : Bool) (a0 : List T) : answer Try.prog impl_areHashes.Cs 100000 impl_areHashes.cuts [] Try.f162 (k + 1) [.v (.sl 45 a0z a0)] = (impl_areHashes.f (k + 1) a0z a0).map impl_areHashes.enc := by
  have ih := impl_areHashes.rounds_eq a0z a0 k
  refine (impl_areHashes.s k a0z a0).trans (Eq.trans ?_ (impl_areHashes.b_nat impl_areHashes.enc some (impl_areHashes.l0 k) k a0z a0))
  simp only [ih, Option.map_some]
theorem impl_areHashes.sound (k : Nat) : SoundF Try.prog 162 (fun a => (impl_areHashes.ans k a).val) := by
  refine sound_plain (fun args res h => ?_) (fun t n => rfl)
  unfold impl_areHashes.ans at h
  dsimp only at h
  split at h
  · cases k with
    | zero => cases h
    | succ k =>
      unfold Ans.val at h
      rw [← impl_areHashes.eq] at h
      exact answer_sound mixed Try.func162 _ _ _ (k + 1) (fun j _ => tab_sound (tab_nil)) _ _ h
  · exact (Ans.no_val h).elim

/-! loop.example/g00790/impl.BitsSize -/
def impl_BitsSize.b {R : Type} (ret : Int → Option R) (k : Nat) (a0 : Int) : Option R :=
  cond (decide (a0 < 1)) (ret 0) (ret (RowKit.wrap64 ((RowKit.wrap64 (Int.tdiv (RowKit.wrap64 (a0 - 1)) 8)) + 1)))
def impl_BitsSize.f : Nat → Int → Option Int
  | 0, _ => none
  | k + 1, a0 => impl_BitsSize.b some k a0
def impl_BitsSize.enc (r : Int) : Res := ⟨[.vals false [((.int .i64 r), true)]], []⟩
def impl_BitsSize.ans (k : Nat) : List Arg → Ans
  | [.v (.int .i64 a0)] => ⟨impl_BitsSize.f k a0, impl_BitsSize.enc⟩
  | _ => Ans.no
def impl_BitsSize.Cs (k : Nat) : CallSem := tab []
def impl_BitsSize.cuts : List (Nat × Keep) := []
theorem impl_BitsSize.s (k : Nat) (a0 : Int) : answer Try.prog impl_BitsSize.Cs 100000 impl_BitsSize.cuts [] Try.f189 (k + 1) [.v (.int .i64 a0)] = impl_BitsSize.b (fun r => some (impl_BitsSize.enc r)) k a0 := by kernel_rfl
theorem impl_BitsSize.b_nat {R R' : Type} (e : R → R') (ret : Int → Option R) (k : Nat) (a0 : Int) : impl_BitsSize.b (fun r => (ret r).map e) k a0 = (impl_BitsSize.b ret k a0).map e := by
  unfold impl_BitsSize.b
  repeat' first | with_reducible refine nat_cond ?_ ?_ | with_reducible refine nat_bind fun _ => ?_ | rfl
theorem impl_BitsSize.eq (k : Nat) (a0 : Int) : answer Try.prog impl_BitsSize.Cs 100000 impl_BitsSize.cuts [] Try.f189 (k + 1) [.v (.int .i64 a0)] = (impl_BitsSize.f (k + 1) a0).map impl_BitsSize.enc := by
  refine (impl_BitsSize.s k a0).trans (Eq.trans ?_ (impl_BitsSize.b_nat impl_BitsSize.enc some k a0))
  simp only [Option.map_some]
theorem impl_BitsSize.sound (k : Nat) : SoundF Try.prog 189 (fun a => (impl_BitsSize.ans k a).val) := by
  refine sound_plain (fun args res h => ?_) (fun t n => rfl)
  unfold impl_BitsSize.ans at h
  dsimp only at h
  split at h
  · cases k with
    | zero => cases h
    | succ k =>
      unfold Ans.val at h
      rw [← impl_BitsSize.eq] at h
      exact answer_sound mixed Try.func189 _ _ _ (k + 1) (fun j _ => tab_sound (tab_nil)) _ _ h
  · exact (Ans.no_val h).elim

/-! loop.example/g00790/impl.BitsHas -/
def impl_BitsHas.b {R : Type} (ret : Bool → Option R) (k : Nat) (a0z : Bool) (a0 : List Int) (a1 : Int) : Option R :=
  (impl_within.f k a1 0 (RowKit.wrap64 ((RowKit.wrap64 ((8 : Int) * ((a0).length : Int))) - 1))).bind fun t0 => cond t0 (cond (decide ((0 : Int) ≤ (RowKit.wrap64 (Int.tdiv a1 8)))) (cond (decide ((RowKit.wrap64 (Int.tdiv a1 8)) < ((a0).length : Int))) (cond (decide ((0 : Int) ≤ (Int.tmod a1 8))) (ret (decide ((Go.bits .and .u8 (shrI .u8 (rdI a0 (RowKit.wrap64 (Int.tdiv a1 8))) (Int.tmod a1 8)) 1) = 1))) (none)) (none)) (none)) (ret false)
def impl_BitsHas.f : Nat → Bool → (List Int) → Int → Option Bool
  | 0, _, _, _ => none
  | k + 1, a0z, a0, a1 => impl_BitsHas.b some k a0z a0 a1
def impl_BitsHas.enc (r : Bool) : Res := ⟨[.vals false [((.bool r), true)]], []⟩
def impl_BitsHas.ans (k : Nat) : List Arg → Ans
  | [.v (.nums 5 .u8 a0z a0), .v (.int .i64 a1)] => ⟨impl_BitsHas.f k a0z a0 a1, impl_BitsHas.enc⟩
  | _ => Ans.no
def impl_BitsHas.Cs (k : Nat) : CallSem := tab [(126, impl_within.ans k)]
def impl_BitsHas.cuts : List (Nat × Keep) := []
theorem impl_BitsHas.s (k : Nat) (a0z : Bool) (a0 : List Int) (a1 : Int) : answer Try.prog impl_BitsHas.Cs 100000 impl_BitsHas.cuts [] Try.f190 (k + 1) [.v (.nums 5 .u8 a0z a0), .v (.int .i64 a1)] = impl_BitsHas.b (fun r => some (impl_BitsHas.enc r)) k a0z a0 a1 := by kernel_rfl
theorem impl_BitsHas.b_nat {R R' : Type} (e : R → R') (ret : Bool → Option R) (k : Nat) (a0z : Bool) (a0 : List Int) (a1 : Int) : impl_BitsHas.b (fun r => (ret r).map e) k a0z a0 a1 = (impl_BitsHas.b ret k a0z a0 a1).map e := by
  unfold impl_BitsHas.b
  repeat' first | with_reducible refine nat_cond ?_ ?_ | with_reducible refine nat_bind fun _ => ?_ | rfl
theorem impl_BitsHas.eq (k : Nat) (a0z : Bool) (a0 : List Int) (a1 : Int) : answer Try.prog impl_BitsHas.Cs 100000 impl_BitsHas.cuts [] Try.f190 (k + 1) [.v (.nums 5 .u8 a0z a0), .v (.int .i64 a1)] = (impl_BitsHas.f (k + 1) a0z a0 a1).map impl_BitsHas.enc := by
  refine (impl_BitsHas.s k a0z a0 a1).trans (Eq.trans ?_ (impl_BitsHas.b_nat impl_BitsHas.enc some k a0z a0 a1))
  simp only [Option.map_some]
theorem impl_BitsHas.sound (k : Nat) : SoundF Try.prog 190 (fun a => (impl_BitsHas.ans k a).val) := by
  refine sound_plain (fun args res h => ?_) (fun t n => rfl)
  unfold impl_BitsHas.ans at h
  dsimp only at h
  split at h
  · cases k with
    | zero => cases h
    | succ k =>
      unfold Ans.val at h
      rw [← impl_BitsHas.eq] at h
      exact answer_sound mixed Try.func190 _ _ _ (k + 1) (fun j _ => tab_sound (tab_cons (impl_within.sound j) (tab_nil))) _ _ h
  · exact (Ans.no_val h).elim

end Go.Proofs.YtadnejogdohfkaaG
