/- What the functions compute, printed by a program of this repo; each is shown to be what the machine of values answers. No condition. -/
import Derived.Test.YtadnejogdohfkaaProg
import Derived.KernelRfl
import Derived.Test.YtadnejogdohfkaaGFnExactForestOka
namespace Go.Proofs.YtadnejogdohfkaaG
open Go Go.Proofs.YtadnejogdohfkaaRv Go.Proofs
set_option linter.unusedVariables false
set_option linter.unusedSimpArgs false
/-! loop.example/g00790/spec.HeadOk -/
def spec_HeadOk.b {R : Type} (ret : Bool → Option R) (k : Nat) (a0_0 : Int) (a0_1 : Int) (a0_2 : Int) (a0_3 : Int) (a0_4 : Int) (a1_0 : Int) (a1_1 : Int) (a1_2 : Int) (a1_3z : Bool) (a1_3 : List Int) (a1_4z : Bool) (a1_4 : List Int) (a1_5 : Int) (a1_6 : Int) (a1_7z : Bool) (a1_7 : List Int) (a1_8z : Bool) (a1_8 : List Int) (a1_9z : Bool) (a1_9 : List T) : Option R :=
  (spec_LimitsOk.f k a0_0 a0_1 a0_2 a0_3 a0_4).bind fun t0 => cond t0 ((spec_l01Num.f k a1_0).bind fun t1 => cond t1 ((spec_l01In.f k a1_1 1 1152921504606846975).bind fun t2 => cond t2 ((spec_l01In.f k a1_2 0 (RowKit.wrap64 (a0_0 - 1))).bind fun t3 => cond t3 ((spec_l07Hash.f k a1_3z a1_3).bind fun t4 => cond t4 ((spec_l07Hash.f k a1_4z a1_4).bind fun t5 => cond t5 ((spec_QcOk.f k a0_0 a0_1 a0_2 a0_3 a0_4 a1_5 a1_6 a1_7z a1_7 a1_8z a1_8 a1_9z a1_9).bind fun t6 => cond t6 ((spec_l13Fits.f k a1_0 a1_1 a1_2 a1_3z a1_3 a1_4z a1_4 a1_5 a1_6 a1_7z a1_7 a1_8z a1_8 a1_9z a1_9).bind fun t7 => ret t7) (ret false)) (ret false)) (ret false)) (ret false)) (ret false)) (ret false)) (ret false)
def spec_HeadOk.f : Nat → Int → Int → Int → Int → Int → Int → Int → Int → Bool → (List Int) → Bool → (List Int) → Int → Int → Bool → (List Int) → Bool → (List Int) → Bool → (List T) → Option Bool
  | 0, _, _, _, _, _, _, _, _, _, _, _, _, _, _, _, _, _, _, _, _ => none
  | k + 1, a0_0, a0_1, a0_2, a0_3, a0_4, a1_0, a1_1, a1_2, a1_3z, a1_3, a1_4z, a1_4, a1_5, a1_6, a1_7z, a1_7, a1_8z, a1_8, a1_9z, a1_9 => spec_HeadOk.b some k a0_0 a0_1 a0_2 a0_3 a0_4 a1_0 a1_1 a1_2 a1_3z a1_3 a1_4z a1_4 a1_5 a1_6 a1_7z a1_7 a1_8z a1_8 a1_9z a1_9
def spec_HeadOk.enc (r : Bool) : Res := ⟨[.vals false [((.bool r), true)]], []⟩
def spec_HeadOk.ans (k : Nat) : List Arg → Ans
  | [.v (.agg [(.int .i64 a0_0), (.int .i64 a0_1), (.int .i64 a0_2), (.int .i64 a0_3), (.int .i64 a0_4)]), .v (.agg [(.int .i64 a1_0), (.int .i64 a1_1), (.int .i64 a1_2), (.nums 5 .u8 a1_3z a1_3), (.nums 5 .u8 a1_4z a1_4), (.int .i64 a1_5), (.int .i64 a1_6), (.nums 5 .u8 a1_7z a1_7), (.nums 5 .u8 a1_8z a1_8), (.sl 45 a1_9z a1_9)])] => ⟨spec_HeadOk.f k a0_0 a0_1 a0_2 a0_3 a0_4 a1_0 a1_1 a1_2 a1_3z a1_3 a1_4z a1_4 a1_5 a1_6 a1_7z a1_7 a1_8z a1_8 a1_9z a1_9, spec_HeadOk.enc⟩
  | _ => Ans.no
def spec_HeadOk.Cs (k : Nat) : CallSem := tab [(81, spec_LimitsOk.ans k), (122, spec_l01In.ans k), (152, spec_l01Num.ans k), (153, spec_l07Hash.ans k), (99, spec_QcOk.ans k), (154, spec_l13Fits.ans k)]
def spec_HeadOk.cuts : List (Nat × Keep) := []
theorem spec_HeadOk.s (k : Nat) (a0_0 : Int) (a0_1 : Int) (a0_2 : Int) (a0_3 : Int) (a0_4 : Int) (a1_0 : Int) (a1_1 : Int) (a1_2 : Int) (a1_3z : Bool) (a1_3 : List Int) (a1_4z : Bool) (a1_4 : List Int) (a1_5 : Int) (a1_6 : Int) (a1_7z : Bool) (a1_7 : List Int) (a1_8z : Bool) (a1_8 : List Int) (a1_9z : Bool) (a1_9 : List T) : answer Try.prog spec_HeadOk.Cs 100000 spec_HeadOk.cuts [] Try.f75 (k + 1) [.v (.agg [(.int .i64 a0_0), (.int .i64 a0_1), (.int .i64 a0_2), (.int .i64 a0_3), (.int .i64 a0_4)]), .v (.agg [(.int .i64 a1_0), (.int .i64 a1_1), (.int .i64 a1_2), (.nums 5 .u8 a1_3z a1_3), (.nums 5 .u8 a1_4z a1_4), (.int .i64 a1_5), (.int .i64 a1_6), (.nums 5 .u8 a1_7z a1_7), (.nums 5 .u8 a1_8z a1_8), (.sl 45 a1_9z a1_9)])] = spec_HeadOk.b (fun r => some (spec_HeadOk.enc r)) k a0_0 a0_1 a0_2 a0_3 a0_4 a1_0 a1_1 a1_2 a1_3z a1_3 a1_4z a1_4 a1_5 a1_6 a1_7z a1_7 a1_8z a1_8 a1_9z a1_9 := by kernel_rfl
theorem spec_HeadOk.b_nat {R R' : Type} (e : R → R') (ret : Bool → Option R) (k : Nat) (a0_0 : Int) (a0_1 : Int) (a0_2 : Int) (a0_3 : Int) (a0_4 : Int) (a1_0 : Int) (a1_1 : Int) (a1_2 : Int) (a1_3z : Bool) (a1_3 : List Int) (a1_4z : Bool) (a1_4 : List Int) (a1_5 : Int) (a1_6 : Int) (a1_7z : Bool) (a1_7 : List Int) (a1_8z : Bool) (a1_8 : List Int) (a1_9z : Bool) (a1_9 : List T) : spec_HeadOk.b (fun r => (ret r).map e) k a0_0 a0_1 a0_2 a0_3 a0_4 a1_0 a1_1 a1_2 a1_3z a1_3 a1_4z a1_4 a1_5 a1_6 a1_7z a1_7 a1_8z a1_8 a1_9z a1_9 = (spec_HeadOk.b ret k a0_0 a0_1 a0_2 a0_3 a0_4 a1_0 a1_1 a1_2 a1_3z a1_3 a1_4z a1_4 a1_5 a1_6 a1_7z a1_7 a1_8z a1_8 a1_9z a1_9).map e := by
  unfold spec_HeadOk.b
  repeat' first | with_reducible refine nat_cond ?_ ?_ | with_reducible refine nat_bind fun _ => ?_ | rfl
theorem spec_HeadOk.eq (k : Nat) (a0_0 : Int) (a0_1 : Int) (a0_2 : Int) (a0_3 : Int) (a0_4 : Int) (a1_0 : Int) (a1_1 : Int) (a1_2 : Int) (a1_3z : Bool) (a1_3 : List Int) (a1_4z : Bool) (a1_4 : List Int) (a1_5 : Int) (a1_6 : Int) (a1_7z : Bool) (a1_7 : List Int) (a1_8z : Bool) (a1_8 : List Int) (a1_9z : Bool) (a1_9 : List T) : answer Try.prog spec_HeadOk.Cs 100000 spec_HeadOk.cuts [] Try.f75 (k + 1) [.v (.agg [(.int .i64 a0_0), (.int .i64 a0_1), (.int .i64 a0_2), (.int .i64 a0_3), (.int .i64 a0_4)]), .v (.agg [(.int .i64 a1_0), (.int .i64 a1_1), (.int .i64 a1_2), (.nums 5 .u8 a1_3z a1_3), (.nums 5 .u8 a1_4z a1_4), (.int .i64 a1_5), (.int .i64 a1_6), (.nums 5 .u8 a1_7z a1_7), (.nums 5 .u8 a1_8z a1_8), (.sl 45 a1_9z a1_9)])] = (spec_HeadOk.f (k + 1) a0_0 a0_1 a0_2 a0_3 a0_4 a1_0 a1_1 a1_2 a1_3z a1_3 a1_4z a1_4 a1_5 a1_6 a1_7z a1_7 a1_8z a1_8 a1_9z a1_9).map spec_HeadOk.enc := by
  refine (spec_HeadOk.s k a0_0 a0_1 a0_2 a0_3 a0_4 a1_0 a1_1 a1_2 a1_3z a1_3 a1_4z a1_4 a1_5 a1_6 a1_7z a1_7 a1_8z a1_8 a1_9z a1_9).trans (Eq.trans ?_ (spec_HeadOk.b_nat spec_HeadOk.enc some k a0_0 a0_1 a0_2 a0_3 a0_4 a1_0 a1_1 a1_2 a1_3z a1_3 a1_4z a1_4 a1_5 a1_6 a1_7z a1_7 a1_8z a1_8 a1_9z a1_9))
  simp only [Option.map_some]
theorem spec_HeadOk.sound (k : Nat) : SoundF Try.prog 75 (fun a => (spec_HeadOk.ans k a).val) := by
  refine sound_plain (fun args res h => ?_) (fun t n => rfl)
  unfold spec_HeadOk.ans at h
  dsimp only at h
  split at h
  · cases k with
    | zero => cases h
    | succ k =>
      unfold Ans.val at h
      rw [← spec_HeadOk.eq] at h
      exact answer_sound mixed Try.func75 _ _ _ (k + 1) (fun j _ => tab_sound (tab_cons (spec_LimitsOk.sound j) (tab_cons (spec_l01In.sound j) (tab_cons (spec_l01Num.sound j) (tab_cons (spec_l07Hash.sound j) (tab_cons (spec_QcOk.sound j) (tab_cons (spec_l13Fits.sound j) (tab_nil)))))))) _ _ h
  · exact (Ans.no_val h).elim

/-! loop.example/g00790/spec.l01Copy -/
def spec_l01Copy.b {R : Type} (ret : Bool × List Int → Option R) (k : Nat) (a0z : Bool) (a0 : List Int) : Option R :=
  cond (decide (0 + (a0).length < 140737488355328)) (ret (((a0).isEmpty && false), a0)) (none)
def spec_l01Copy.f : Nat → Bool → (List Int) → Option (Bool × List Int)
  | 0, _, _ => none
  | k + 1, a0z, a0 => spec_l01Copy.b some k a0z a0
def spec_l01Copy.enc (r : Bool × List Int) : Res := ⟨[.vals false [((.nums 5 .u8 r.1 r.2), true)]], []⟩
def spec_l01Copy.ans (k : Nat) : List Arg → Ans
  | [.v (.nums 5 .u8 a0z a0)] => ⟨spec_l01Copy.f k a0z a0, spec_l01Copy.enc⟩
  | _ => Ans.no
def spec_l01Copy.Cs (k : Nat) : CallSem := tab []
def spec_l01Copy.cuts : List (Nat × Keep) := []
theorem spec_l01Copy.s (k : Nat) (a0z : Bool) (a0 : List Int) : answer Try.prog spec_l01Copy.Cs 100000 spec_l01Copy.cuts [] Try.f130 (k + 1) [.v (.nums 5 .u8 a0z a0)] = spec_l01Copy.b (fun r => some (spec_l01Copy.enc r)) k a0z a0 := by kernel_rfl
theorem spec_l01Copy.b_nat {R R' : Type} (e : R → R') (ret : Bool × List Int → Option R) (k : Nat) (a0z : Bool) (a0 : List Int) : spec_l01Copy.b (fun r => (ret r).map e) k a0z a0 = (spec_l01Copy.b ret k a0z a0).map e := by
  unfold spec_l01Copy.b
  repeat' first | with_reducible refine nat_cond ?_ ?_ | with_reducible refine nat_bind fun _ => ?_ | rfl
theorem spec_l01Copy.eq (k : Nat) (a0z : Bool) (a0 : List Int) : answer Try.prog spec_l01Copy.Cs 100000 spec_l01Copy.cuts [] Try.f130 (k + 1) [.v (.nums 5 .u8 a0z a0)] = (spec_l01Copy.f (k + 1) a0z a0).map spec_l01Copy.enc := by
  refine (spec_l01Copy.s k a0z a0).trans (Eq.trans ?_ (spec_l01Copy.b_nat spec_l01Copy.enc some k a0z a0))
  simp only [Option.map_some]
theorem spec_l01Copy.sound (k : Nat) : SoundF Try.prog 130 (fun a => (spec_l01Copy.ans k a).val) := by
  refine sound_plain (fun args res h => ?_) (fun t n => rfl)
  unfold spec_l01Copy.ans at h
  dsimp only at h
  split at h
  · cases k with
    | zero => cases h
    | succ k =>
      unfold Ans.val at h
      rw [← spec_l01Copy.eq] at h
      exact answer_sound mixed Try.func130 _ _ _ (k + 1) (fun j _ => tab_sound (tab_nil)) _ _ h
  · exact (Ans.no_val h).elim

/-! loop.example/g00790/spec.PutVar -/
def spec_PutVar.b {R : Type} (ret : Bool × (List Int) × Bool → Option R) (j0 : Int → Bool → (List Int) → Option R) (k : Nat) (a0z : Bool) (a0 : List Int) (a1 : Int) : Option R :=
  (spec_l01Num.f k a1).bind fun t0 => cond (!t0) (ret (true, ([] : List Int), false)) ((spec_l01Copy.f k a0z a0).bind fun t1 => j0 a1 t1.1 t1.2)
def spec_PutVar.l0b {R : Type} (ret : Bool × (List Int) × Bool → Option R) (j0 : Int → Bool → (List Int) → Option R) (k : Nat) (x1 : Int) (x6z : Bool) (x6 : List Int) : Option R :=
  cond (decide (x1 > 127)) (cond (decide ((x6).length + 1 < 140737488355328)) (j0 (RowKit.wrap64 (Int.tdiv x1 128)) false (x6 ++ ([(((RowKit.wrap64 ((128 : Int) + (Int.tmod x1 128)))) % 256)] : List Int))) (none)) (cond (decide ((x6).length + 1 < 140737488355328)) (ret (false, (x6 ++ ([((x1) % 256)] : List Int)), true)) (none))
def spec_PutVar.l0 : Nat → Int → Bool → (List Int) → Option (Bool × (List Int) × Bool)
  | 0, _, _, _ => none
  | k + 1, x1, x6z, x6 => spec_PutVar.l0b some (spec_PutVar.l0 k) k x1 x6z x6
def spec_PutVar.f : Nat → Bool → (List Int) → Int → Option (Bool × (List Int) × Bool)
  | 0, _, _, _ => none
  | k + 1, a0z, a0, a1 => spec_PutVar.b some (spec_PutVar.l0 k) k a0z a0 a1
def spec_PutVar.enc (r : Bool × (List Int) × Bool) : Res := ⟨[.vals false [((.nums 5 .u8 r.1 r.2.1), true)], .vals false [((.bool r.2.2), true)]], []⟩
def spec_PutVar.ans (k : Nat) : List Arg → Ans
  | [.v (.nums 5 .u8 a0z a0), .v (.int .i64 a1)] => ⟨spec_PutVar.f k a0z a0 a1, spec_PutVar.enc⟩
  | _ => Ans.no
def spec_PutVar.Cs (k : Nat) : CallSem := tab [(152, spec_l01Num.ans k), (130, spec_l01Copy.ans k)]
def spec_PutVar.cuts : List (Nat × Keep) := [(60, ⟨[(1, some []), (6, none)], []⟩)]
noncomputable def spec_PutVar.K0 : List Fr := framesAt [true, true, true, false, false] (bodyOf Try.f209 spec_PutVar.cuts) []
def spec_PutVar.N0 (x1 : Int) (x6z : Bool) (x6 : List Int) : St := stOf 28 28 2 [(1, .val (V.s (.int .i64 x1))), (6, .val ⟨(.nums 5 .u8 x6z x6), [.l 6 0], true, some (.l 6 0)⟩)] []
theorem spec_PutVar.s (k : Nat) (a0z : Bool) (a0 : List Int) (a1 : Int) : answer Try.prog spec_PutVar.Cs 100000 spec_PutVar.cuts [] Try.f209 (k + 1) [.v (.nums 5 .u8 a0z a0), .v (.int .i64 a1)] = spec_PutVar.b (fun r => some (spec_PutVar.enc r)) (fun x1 x6z x6 => rounds Try.prog spec_PutVar.Cs (finish Try.prog [] Try.f209 [.v (.nums 5 .u8 a0z a0), .v (.int .i64 a1)]) 100000 k spec_PutVar.K0 (spec_PutVar.N0 x1 x6z x6)) k a0z a0 a1 := by kernel_rfl
theorem spec_PutVar.s0 (k : Nat) (G : List Fr → St → Option Res) (a0z : Bool) (a0 : List Int) (a1 : Int) (yx1 : Int) (yx6z : Bool) (yx6 : List Int) : resume Try.prog (spec_PutVar.Cs k) G (finish Try.prog [] Try.f209 [.v (.nums 5 .u8 a0z a0), .v (.int .i64 a1)]) 100000 spec_PutVar.K0 (spec_PutVar.N0 yx1 yx6z yx6) = spec_PutVar.l0b (fun r => some (spec_PutVar.enc r)) (fun x1 x6z x6 => G spec_PutVar.K0 (spec_PutVar.N0 x1 x6z x6)) k yx1 yx6z yx6 := by kernel_rfl
theorem spec_PutVar.b_nat {R R' : Type} (e : R → R') (ret : Bool × (List Int) × Bool → Option R) (j0 : Int → Bool → (List Int) → Option R) (k : Nat) (a0z : Bool) (a0 : List Int) (a1 : Int) : spec_PutVar.b (fun r => (ret r).map e) (fun x1 x6z x6 => (j0 x1 x6z x6).map e) k a0z a0 a1 = (spec_PutVar.b ret j0 k a0z a0 a1).map e := by
  unfold spec_PutVar.b
  repeat' first | with_reducible refine nat_cond ?_ ?_ | with_reducible refine nat_bind fun _ => ?_ | rfl
theorem spec_PutVar.l0b_nat {R R' : Type} (e : R → R') (ret : Bool × (List Int) × Bool → Option R) (j0 : Int → Bool → (List Int) → Option R) (k : Nat) (x1 : Int) (x6z : Bool) (x6 : List Int) : spec_PutVar.l0b (fun r => (ret r).map e) (fun x1 x6z x6 => (j0 x1 x6z x6).map e) k x1 x6z x6 = (spec_PutVar.l0b ret j0 k x1 x6z x6).map e := by
  unfold spec_PutVar.l0b
  repeat' first | with_reducible refine nat_cond ?_ ?_ | with_reducible refine nat_bind fun _ => ?_ | rfl
theorem spec_PutVar.rounds_eq (a0z : Bool) (a0 : List Int) (a1 : Int) : ∀ k, (∀ (x1 : Int) (x6z : Bool) (x6 : List Int), rounds Try.prog spec_PutVar.Cs (finish Try.prog [] Try.f209 [.v (.nums 5 .u8 a0z a0), .v (.int .i64 a1)]) 100000 k spec_PutVar.K0 (spec_PutVar.N0 x1 x6z x6) = (spec_PutVar.l0 k x1 x6z x6).map spec_PutVar.enc)
  | 0 => fun _ _ _ => rfl
  | k + 1 => by
    have ih := spec_PutVar.rounds_eq a0z a0 a1 k
    refine fun _ _ _ => ?_
    · refine (spec_PutVar.s0 k _ a0z a0 a1 _ _ _).trans (Eq.trans ?_ (spec_PutVar.l0b_nat spec_PutVar.enc some (spec_PutVar.l0 k) k _ _ _))
      simp only [ih, Option.map_some]
theorem spec_PutVar.eq (k : Nat) (a0z : Bool) (a0 : List Int) (a1 : Int) : answer Try.prog spec_PutVar.Cs 100000 spec_PutVar.cuts [] Try.f209 (k + 1) [.v (.nums 5 .u8 a0z a0), .v (.int .i64 a1)] = (spec_PutVar.f (k + 1) a0z a0 a1).map spec_PutVar.enc := by
  have ih := spec_PutVar.rounds_eq a0z a0 a1 k
  refine (spec_PutVar.s k a0z a0 a1).trans (Eq.trans ?_ (spec_PutVar.b_nat spec_PutVar.enc some (spec_PutVar.l0 k) k a0z a0 a1))
  simp only [ih, Option.map_some]
theorem spec_PutVar.sound (k : Nat) : SoundF Try.prog 209 (fun a => (spec_PutVar.ans k a).val) := by
  refine sound_plain (fun args res h => ?_) (fun t n => rfl)
  unfold spec_PutVar.ans at h
  dsimp only at h
  split at h
  · cases k with
    | zero => cases h
    | succ k =>
      unfold Ans.val at h
      rw [← spec_PutVar.eq] at h
      exact answer_sound mixed Try.func209 _ _ _ (k + 1) (fun j _ => tab_sound (tab_cons (spec_l01Num.sound j) (tab_cons (spec_l01Copy.sound j) (tab_nil)))) _ _ h
  · exact (Ans.no_val h).elim

/-! loop.example/g00790/spec.l11Num -/
def spec_l11Num.b {R : Type} (ret : Bool × List Int → Option R) (k : Nat) (a0z : Bool) (a0 : List Int) (a1 : Int) : Option R :=
  (spec_PutVar.f k a0z a0 a1).bind fun t0 => ret (t0.1, t0.2.1)
def spec_l11Num.f : Nat → Bool → (List Int) → Int → Option (Bool × List Int)
  | 0, _, _, _ => none
  | k + 1, a0z, a0, a1 => spec_l11Num.b some k a0z a0 a1
def spec_l11Num.enc (r : Bool × List Int) : Res := ⟨[.vals false [((.nums 5 .u8 r.1 r.2), true)]], []⟩
def spec_l11Num.ans (k : Nat) : List Arg → Ans
  | [.v (.nums 5 .u8 a0z a0), .v (.int .i64 a1)] => ⟨spec_l11Num.f k a0z a0 a1, spec_l11Num.enc⟩
  | _ => Ans.no
def spec_l11Num.Cs (k : Nat) : CallSem := tab [(209, spec_PutVar.ans k)]
def spec_l11Num.cuts : List (Nat × Keep) := []
theorem spec_l11Num.s (k : Nat) (a0z : Bool) (a0 : List Int) (a1 : Int) : answer Try.prog spec_l11Num.Cs 100000 spec_l11Num.cuts [] Try.f182 (k + 1) [.v (.nums 5 .u8 a0z a0), .v (.int .i64 a1)] = spec_l11Num.b (fun r => some (spec_l11Num.enc r)) k a0z a0 a1 := by kernel_rfl
theorem spec_l11Num.b_nat {R R' : Type} (e : R → R') (ret : Bool × List Int → Option R) (k : Nat) (a0z : Bool) (a0 : List Int) (a1 : Int) : spec_l11Num.b (fun r => (ret r).map e) k a0z a0 a1 = (spec_l11Num.b ret k a0z a0 a1).map e := by
  unfold spec_l11Num.b
  repeat' first | with_reducible refine nat_cond ?_ ?_ | with_reducible refine nat_bind fun _ => ?_ | rfl
theorem spec_l11Num.eq (k : Nat) (a0z : Bool) (a0 : List Int) (a1 : Int) : answer Try.prog spec_l11Num.Cs 100000 spec_l11Num.cuts [] Try.f182 (k + 1) [.v (.nums 5 .u8 a0z a0), .v (.int .i64 a1)] = (spec_l11Num.f (k + 1) a0z a0 a1).map spec_l11Num.enc := by
  refine (spec_l11Num.s k a0z a0 a1).trans (Eq.trans ?_ (spec_l11Num.b_nat spec_l11Num.enc some k a0z a0 a1))
  simp only [Option.map_some]
theorem spec_l11Num.sound (k : Nat) : SoundF Try.prog 182 (fun a => (spec_l11Num.ans k a).val) := by
  refine sound_plain (fun args res h => ?_) (fun t n => rfl)
  unfold spec_l11Num.ans at h
  dsimp only at h
  split at h
  · cases k with
    | zero => cases h
    | succ k =>
      unfold Ans.val at h
      rw [← spec_l11Num.eq] at h
      exact answer_sound mixed Try.func182 _ _ _ (k + 1) (fun j _ => tab_sound (tab_cons (spec_PutVar.sound j) (tab_nil))) _ _ h
  · exact (Ans.no_val h).elim

/-! loop.example/g00790/spec.PutQc -/
def spec_PutQc.b {R : Type} (ret : Bool × (List Int) × Bool → Option R) (j0 : Bool → (List Int) → Bool → (List T) → Int → Int → Option R) (k : Nat) (a0_0 : Int) (a0_1 : Int) (a0_2 : Int) (a0_3 : Int) (a0_4 : Int) (a1z : Bool) (a1 : List Int) (a2_0 : Int) (a2_1 : Int) (a2_2z : Bool) (a2_2 : List Int) (a2_3z : Bool) (a2_3 : List Int) (a2_4z : Bool) (a2_4 : List T) : Option R :=
  (spec_QcOk.f k a0_0 a0_1 a0_2 a0_3 a0_4 a2_0 a2_1 a2_2z a2_2 a2_3z a2_3 a2_4z a2_4).bind fun t0 => cond (!t0) (ret (true, ([] : List Int), false)) ((spec_l11Num.f k a1z a1 a2_0).bind fun t1 => (spec_l11Num.f k t1.1 t1.2 a2_1).bind fun t2 => cond (decide ((t2.2).length + (a2_2).length < 140737488355328)) (cond (decide (((t2.2 ++ a2_2)).length + (a2_3).length < 140737488355328)) (j0 ((a2_3).isEmpty && ((a2_2).isEmpty && t2.1)) ((t2.2 ++ a2_2) ++ a2_3) a2_4z a2_4 ((a2_4).length : Int) 0) (none)) (none))
def spec_PutQc.l0b {R : Type} (ret : Bool × (List Int) × Bool → Option R) (j0 : Bool → (List Int) → Bool → (List T) → Int → Int → Option R) (k : Nat) (x8z : Bool) (x8 : List Int) (x30z : Bool) (x30 : List T) (x31 : Int) (x32 : Int) : Option R :=
  cond (decide (x32 < x31)) (cond (decide ((0 : Int) ≤ x32)) (cond (decide (x32 < ((x30).length : Int))) (cond (decide ((x8).length + (((((x30).getD (x32).toNat .bad).cells.getD 0 .bad)).toNums).length < 140737488355328)) (j0 ((((((x30).getD (x32).toNat .bad).cells.getD 0 .bad)).toNums).isEmpty && x8z) (x8 ++ ((((x30).getD (x32).toNat .bad).cells.getD 0 .bad)).toNums) x30z x30 x31 (RowKit.wrap64 (x32 + 1))) (none)) (none)) (none)) (ret (x8z, x8, true))
def spec_PutQc.l0 : Nat → Bool → (List Int) → Bool → (List T) → Int → Int → Option (Bool × (List Int) × Bool)
  | 0, _, _, _, _, _, _ => none
  | k + 1, x8z, x8, x30z, x30, x31, x32 => spec_PutQc.l0b some (spec_PutQc.l0 k) k x8z x8 x30z x30 x31 x32
def spec_PutQc.f : Nat → Int → Int → Int → Int → Int → Bool → (List Int) → Int → Int → Bool → (List Int) → Bool → (List Int) → Bool → (List T) → Option (Bool × (List Int) × Bool)
  | 0, _, _, _, _, _, _, _, _, _, _, _, _, _, _, _ => none
  | k + 1, a0_0, a0_1, a0_2, a0_3, a0_4, a1z, a1, a2_0, a2_1, a2_2z, a2_2, a2_3z, a2_3, a2_4z, a2_4 => spec_PutQc.b some (spec_PutQc.l0 k) k a0_0 a0_1 a0_2 a0_3 a0_4 a1z a1 a2_0 a2_1 a2_2z a2_2 a2_3z a2_3 a2_4z a2_4
def spec_PutQc.enc (r : Bool × (List Int) × Bool) : Res := ⟨[.vals false [((.nums 5 .u8 r.1 r.2.1), true)], .vals false [((.bool r.2.2), true)]], []⟩
def spec_PutQc.ans (k : Nat) : List Arg → Ans
  | [.v (.agg [(.int .i64 a0_0), (.int .i64 a0_1), (.int .i64 a0_2), (.int .i64 a0_3), (.int .i64 a0_4)]), .v (.nums 5 .u8 a1z a1), .v (.agg [(.int .i64 a2_0), (.int .i64 a2_1), (.nums 5 .u8 a2_2z a2_2), (.nums 5 .u8 a2_3z a2_3), (.sl 45 a2_4z a2_4)])] => ⟨spec_PutQc.f k a0_0 a0_1 a0_2 a0_3 a0_4 a1z a1 a2_0 a2_1 a2_2z a2_2 a2_3z a2_3 a2_4z a2_4, spec_PutQc.enc⟩
  | _ => Ans.no
def spec_PutQc.Cs (k : Nat) : CallSem := tab [(99, spec_QcOk.ans k), (182, spec_l11Num.ans k)]
def spec_PutQc.cuts : List (Nat × Keep) := [(250, ⟨[(8, none), (30, some []), (31, some []), (32, some [])], []⟩)]
noncomputable def spec_PutQc.K0 : List Fr := framesAt [true, true, true, true, false, true, false] (bodyOf Try.f193 spec_PutQc.cuts) []
def spec_PutQc.N0 (x8z : Bool) (x8 : List Int) (x30z : Bool) (x30 : List T) (x31 : Int) (x32 : Int) : St := stOf 41 41 3 [(8, .val ⟨(.nums 5 .u8 x8z x8), [.l 8 0], true, some (.l 8 0)⟩), (30, .val ⟨(.sl 45 x30z x30), [], false, none⟩), (31, .val (V.s (.int .i64 x31))), (32, .val (V.s (.int .i64 x32)))] []
theorem spec_PutQc.s (k : Nat) (a0_0 : Int) (a0_1 : Int) (a0_2 : Int) (a0_3 : Int) (a0_4 : Int) (a1z : Bool) (a1 : List Int) (a2_0 : Int) (a2_1 : Int) (a2_2z : Bool) (a2_2 : List Int) (a2_3z : Bool) (a2_3 : List Int) (a2_4z : Bool) (a2_4 : List T) : answer Try.prog spec_PutQc.Cs 100000 spec_PutQc.cuts [] Try.f193 (k + 1) [.v (.agg [(.int .i64 a0_0), (.int .i64 a0_1), (.int .i64 a0_2), (.int .i64 a0_3), (.int .i64 a0_4)]), .v (.nums 5 .u8 a1z a1), .v (.agg [(.int .i64 a2_0), (.int .i64 a2_1), (.nums 5 .u8 a2_2z a2_2), (.nums 5 .u8 a2_3z a2_3), (.sl 45 a2_4z a2_4)])] = spec_PutQc.b (fun r => some (spec_PutQc.enc r)) (fun x8z x8 x30z x30 x31 x32 => rounds Try.prog spec_PutQc.Cs (finish Try.prog [] Try.f193 [.v (.agg [(.int .i64 a0_0), (.int .i64 a0_1), (.int .i64 a0_2), (.int .i64 a0_3), (.int .i64 a0_4)]), .v (.nums 5 .u8 a1z a1), .v (.agg [(.int .i64 a2_0), (.int .i64 a2_1), (.nums 5 .u8 a2_2z a2_2), (.nums 5 .u8 a2_3z a2_3), (.sl 45 a2_4z a2_4)])]) 100000 k spec_PutQc.K0 (spec_PutQc.N0 x8z x8 x30z x30 x31 x32)) k a0_0 a0_1 a0_2 a0_3 a0_4 a1z a1 a2_0 a2_1 a2_2z a2_2 a2_3z a2_3 a2_4z a2_4 := by kernel_rfl
theorem spec_PutQc.s0 (k : Nat) (G : List Fr → St → Option Res) (a0_0 : Int) (a0_1 : Int) (a0_2 : Int) (a0_3 : Int) (a0_4 : Int) (a1z : Bool) (a1 : List Int) (a2_0 : Int) (a2_1 : Int) (a2_2z : Bool) (a2_2 : List Int) (a2_3z : Bool) (a2_3 : List Int) (a2_4z : Bool) (a2_4 : List T) (yx8z : Bool) (yx8 : List Int) (yx30z : Bool) (yx30 : List T) (yx31 : Int) (yx32 : Int) : resume Try.prog (spec_PutQc.Cs k) G (finish Try.prog [] Try.f193 [.v (.agg [(.int .i64 a0_0), (.int .i64 a0_1), (.int .i64 a0_2), (.int .i64 a0_3), (.int .i64 a0_4)]), .v (.nums 5 .u8 a1z a1), .v (.agg [(.int .i64 a2_0), (.int .i64 a2_1), (.nums 5 .u8 a2_2z a2_2), (.nums 5 .u8 a2_3z a2_3), (.sl 45 a2_4z a2_4)])]) 100000 spec_PutQc.K0 (spec_PutQc.N0 yx8z yx8 yx30z yx30 yx31 yx32) = spec_PutQc.l0b (fun r => some (spec_PutQc.enc r)) (fun x8z x8 x30z x30 x31 x32 => G spec_PutQc.K0 (spec_PutQc.N0 x8z x8 x30z x30 x31 x32)) k yx8z yx8 yx30z yx30 yx31 yx32 := by kernel_rfl
theorem spec_PutQc.b_nat {R R' : Type} (e : R → R') (ret : Bool × (List Int) × Bool → Option R) (j0 : Bool → (List Int) → Bool → (List T) → Int → Int → Option R) (k : Nat) (a0_0 : Int) (a0_1 : Int) (a0_2 : Int) (a0_3 : Int) (a0_4 : Int) (a1z : Bool) (a1 : List Int) (a2_0 : Int) (a2_1 : Int) (a2_2z : Bool) (a2_2 : List Int) (a2_3z : Bool) (a2_3 : List Int) (a2_4z : Bool) (a2_4 : List T) : spec_PutQc.b (fun r => (ret r).map e) (fun x8z x8 x30z x30 x31 x32 => (j0 x8z x8 x30z x30 x31 x32).map e) k a0_0 a0_1 a0_2 a0_3 a0_4 a1z a1 a2_0 a2_1 a2_2z a2_2 a2_3z a2_3 a2_4z a2_4 = (spec_PutQc.b ret j0 k a0_0 a0_1 a0_2 a0_3 a0_4 a1z a1 a2_0 a2_1 a2_2z a2_2 a2_3z a2_3 a2_4z a2_4).map e := by
  unfold spec_PutQc.b
  repeat' first | with_reducible refine nat_cond ?_ ?_ | with_reducible refine nat_bind fun _ => ?_ | rfl
theorem spec_PutQc.l0b_nat {R R' : Type} (e : R → R') (ret : Bool × (List Int) × Bool → Option R) (j0 : Bool → (List Int) → Bool → (List T) → Int → Int → Option R) (k : Nat) (x8z : Bool) (x8 : List Int) (x30z : Bool) (x30 : List T) (x31 : Int) (x32 : Int) : spec_PutQc.l0b (fun r => (ret r).map e) (fun x8z x8 x30z x30 x31 x32 => (j0 x8z x8 x30z x30 x31 x32).map e) k x8z x8 x30z x30 x31 x32 = (spec_PutQc.l0b ret j0 k x8z x8 x30z x30 x31 x32).map e := by
  unfold spec_PutQc.l0b
  repeat' first | with_reducible refine nat_cond ?_ ?_ | with_reducible refine nat_bind fun _ => ?_ | rfl
theorem spec_PutQc.rounds_eq (a0_0 : Int) (a0_1 : Int) (a0_2 : Int) (a0_3 : Int) (a0_4 : Int) (a1z : Bool) (a1 : List Int) (a2_0 : Int) (a2_1 : Int) (a2_2z : Bool) (a2_2 : List Int) (a2_3z : Bool) (a2_3 : List Int) (a2_4z : Bool) (a2_4 : List T) : ∀ k, (∀ (x8z : Bool) (x8 : List Int) (x30z : Bool) (x30 : List T) (x31 : Int) (x32 : Int), rounds Try.prog spec_PutQc.Cs (finish Try.prog [] Try.f193 [.v (.agg [(.int .i64 a0_0), (.int .i64 a0_1), (.int .i64 a0_2), (.int .i64 a0_3), (.int .i64 a0_4)]), .v (.nums 5 .u8 a1z a1), .v (.agg [(.int .i64 a2_0), (.int .i64 a2_1), (.nums 5 .u8 a2_2z a2_2), (.nums 5 .u8 a2_3z a2_3), (.sl 45 a2_4z a2_4)])]) 100000 k spec_PutQc.K0 (spec_PutQc.N0 x8z x8 x30z x30 x31 x32) = (spec_PutQc.l0 k x8z x8 x30z x30 x31 x32).map spec_PutQc.enc)
  | 0 => fun _ _ _ _ _ _ => rfl
  | k + 1 => by
    have ih := spec_PutQc.rounds_eq a0_0 a0_1 a0_2 a0_3 a0_4 a1z a1 a2_0 a2_1 a2_2z a2_2 a2_3z a2_3 a2_4z a2_4 k
    refine fun _ _ _ _ _ _ => ?_
    · refine (spec_PutQc.s0 k _ a0_0 a0_1 a0_2 a0_3 a0_4 a1z a1 a2_0 a2_1 a2_2z a2_2 a2_3z a2_3 a2_4z a2_4 _ _ _ _ _ _).trans (Eq.trans ?_ (spec_PutQc.l0b_nat spec_PutQc.enc some (spec_PutQc.l0 k) k _ _ _ _ _ _))
      simp only [ih, Option.map_some]
theorem spec_PutQc.eq (k : Nat) (a0_0 : Int) (a0_1 : Int) (a0_2 : Int) (a0_3 : Int) (a0_4 : Int) (a1z : Bool) (a1 : List Int) (a2_0 : Int) (a2_1 : Int) (a2_2z : Bool) (a2_2 : List Int) (a2_3z : Bool) (a2_3 : List Int) (a2_4z : Bool) (a2_4 : List T) : answer Try.prog spec_PutQc.Cs 100000 spec_PutQc.cuts [] Try.f193 (k + 1) [.v (.agg [(.int .i64 a0_0), (.int .i64 a0_1), (.int .i64 a0_2), (.int .i64 a0_3), (.int .i64 a0_4)]), .v (.nums 5 .u8 a1z a1), .v (.agg [(.int .i64 a2_0), (.int .i64 a2_1), (.nums 5 .u8 a2_2z a2_2), (.nums 5 .u8 a2_3z a2_3), (.sl 45 a2_4z a2_4)])] = (spec_PutQc.f (k + 1) a0_0 a0_1 a0_2 a0_3 a0_4 a1z a1 a2_0 a2_1 a2_2z a2_2 a2_3z a2_3 a2_4z a2_4).map spec_PutQc.enc := by
  have ih := spec_PutQc.rounds_eq a0_0 a0_1 a0_2 a0_3 a0_4 a1z a1 a2_0 a2_1 a2_2z a2_2 a2_3z a2_3 a2_4z a2_4 k
  refine (spec_PutQc.s k a0_0 a0_1 a0_2 a0_3 a0_4 a1z a1 a2_0 a2_1 a2_2z a2_2 a2_3z a2_3 a2_4z a2_4).trans (Eq.trans ?_ (spec_PutQc.b_nat spec_PutQc.enc some (spec_PutQc.l0 k) k a0_0 a0_1 a0_2 a0_3 a0_4 a1z a1 a2_0 a2_1 a2_2z a2_2 a2_3z a2_3 a2_4z a2_4))
  simp only [ih, Option.map_some]
theorem spec_PutQc.sound (k : Nat) : SoundF Try.prog 193 (fun a => (spec_PutQc.ans k a).val) := by
  refine sound_plain (fun args res h => ?_) (fun t n => rfl)
  unfold spec_PutQc.ans at h
  dsimp only at h
  split at h
  · cases k with
    | zero => cases h
    | succ k =>
      unfold Ans.val at h
      rw [← spec_PutQc.eq] at h
      exact answer_sound mixed Try.func193 _ _ _ (k + 1) (fun j _ => tab_sound (tab_cons (spec_QcOk.sound j) (tab_cons (spec_l11Num.sound j) (tab_nil)))) _ _ h
  · exact (Ans.no_val h).elim

/-! loop.example/g00790/spec.PutHead -/
def spec_PutHead.b {R : Type} (ret : Bool × (List Int) × Bool → Option R) (k : Nat) (a0_0 : Int) (a0_1 : Int) (a0_2 : Int) (a0_3 : Int) (a0_4 : Int) (a1z : Bool) (a1 : List Int) (a2_0 : Int) (a2_1 : Int) (a2_2 : Int) (a2_3z : Bool) (a2_3 : List Int) (a2_4z : Bool) (a2_4 : List Int) (a2_5 : Int) (a2_6 : Int) (a2_7z : Bool) (a2_7 : List Int) (a2_8z : Bool) (a2_8 : List Int) (a2_9z : Bool) (a2_9 : List T) : Option R :=
  (spec_HeadOk.f k a0_0 a0_1 a0_2 a0_3 a0_4 a2_0 a2_1 a2_2 a2_3z a2_3 a2_4z a2_4 a2_5 a2_6 a2_7z a2_7 a2_8z a2_8 a2_9z a2_9).bind fun t0 => cond (!t0) (ret (true, ([] : List Int), false)) ((spec_l11Num.f k a1z a1 a2_0).bind fun t1 => (spec_l11Num.f k t1.1 t1.2 a2_1).bind fun t2 => (spec_l11Num.f k t2.1 t2.2 a2_2).bind fun t3 => cond (decide ((t3.2).length + (a2_3).length < 140737488355328)) (cond (decide (((t3.2 ++ a2_3)).length + (a2_4).length < 140737488355328)) ((spec_PutQc.f k a0_0 a0_1 a0_2 a0_3 a0_4 ((a2_4).isEmpty && ((a2_3).isEmpty && t3.1)) ((t3.2 ++ a2_3) ++ a2_4) a2_5 a2_6 a2_7z a2_7 a2_8z a2_8 a2_9z a2_9).bind fun t4 => ret (t4.1, t4.2.1, t4.2.2)) (none)) (none))
def spec_PutHead.f : Nat → Int → Int → Int → Int → Int → Bool → (List Int) → Int → Int → Int → Bool → (List Int) → Bool → (List Int) → Int → Int → Bool → (List Int) → Bool → (List Int) → Bool → (List T) → Option (Bool × (List Int) × Bool)
  | 0, _, _, _, _, _, _, _, _, _, _, _, _, _, _, _, _, _, _, _, _, _, _ => none
  | k + 1, a0_0, a0_1, a0_2, a0_3, a0_4, a1z, a1, a2_0, a2_1, a2_2, a2_3z, a2_3, a2_4z, a2_4, a2_5, a2_6, a2_7z, a2_7, a2_8z, a2_8, a2_9z, a2_9 => spec_PutHead.b some k a0_0 a0_1 a0_2 a0_3 a0_4 a1z a1 a2_0 a2_1 a2_2 a2_3z a2_3 a2_4z a2_4 a2_5 a2_6 a2_7z a2_7 a2_8z a2_8 a2_9z a2_9
def spec_PutHead.enc (r : Bool × (List Int) × Bool) : Res := ⟨[.vals false [((.nums 5 .u8 r.1 r.2.1), true)], .vals false [((.bool r.2.2), true)]], []⟩
def spec_PutHead.ans (k : Nat) : List Arg → Ans
  | [.v (.agg [(.int .i64 a0_0), (.int .i64 a0_1), (.int .i64 a0_2), (.int .i64 a0_3), (.int .i64 a0_4)]), .v (.nums 5 .u8 a1z a1), .v (.agg [(.int .i64 a2_0), (.int .i64 a2_1), (.int .i64 a2_2), (.nums 5 .u8 a2_3z a2_3), (.nums 5 .u8 a2_4z a2_4), (.int .i64 a2_5), (.int .i64 a2_6), (.nums 5 .u8 a2_7z a2_7), (.nums 5 .u8 a2_8z a2_8), (.sl 45 a2_9z a2_9)])] => ⟨spec_PutHead.f k a0_0 a0_1 a0_2 a0_3 a0_4 a1z a1 a2_0 a2_1 a2_2 a2_3z a2_3 a2_4z a2_4 a2_5 a2_6 a2_7z a2_7 a2_8z a2_8 a2_9z a2_9, spec_PutHead.enc⟩
  | _ => Ans.no
def spec_PutHead.Cs (k : Nat) : CallSem := tab [(75, spec_HeadOk.ans k), (182, spec_l11Num.ans k), (193, spec_PutQc.ans k)]
def spec_PutHead.cuts : List (Nat × Keep) := []
theorem spec_PutHead.s (k : Nat) (a0_0 : Int) (a0_1 : Int) (a0_2 : Int) (a0_3 : Int) (a0_4 : Int) (a1z : Bool) (a1 : List Int) (a2_0 : Int) (a2_1 : Int) (a2_2 : Int) (a2_3z : Bool) (a2_3 : List Int) (a2_4z : Bool) (a2_4 : List Int) (a2_5 : Int) (a2_6 : Int) (a2_7z : Bool) (a2_7 : List Int) (a2_8z : Bool) (a2_8 : List Int) (a2_9z : Bool) (a2_9 : List T) : answer Try.prog spec_PutHead.Cs 100000 spec_PutHead.cuts [] Try.f156 (k + 1) [.v (.agg [(.int .i64 a0_0), (.int .i64 a0_1), (.int .i64 a0_2), (.int .i64 a0_3), (.int .i64 a0_4)]), .v (.nums 5 .u8 a1z a1), .v (.agg [(.int .i64 a2_0), (.int .i64 a2_1), (.int .i64 a2_2), (.nums 5 .u8 a2_3z a2_3), (.nums 5 .u8 a2_4z a2_4), (.int .i64 a2_5), (.int .i64 a2_6), (.nums 5 .u8 a2_7z a2_7), (.nums 5 .u8 a2_8z a2_8), (.sl 45 a2_9z a2_9)])] = spec_PutHead.b (fun r => some (spec_PutHead.enc r)) k a0_0 a0_1 a0_2 a0_3 a0_4 a1z a1 a2_0 a2_1 a2_2 a2_3z a2_3 a2_4z a2_4 a2_5 a2_6 a2_7z a2_7 a2_8z a2_8 a2_9z a2_9 := by kernel_rfl
theorem spec_PutHead.b_nat {R R' : Type} (e : R → R') (ret : Bool × (List Int) × Bool → Option R) (k : Nat) (a0_0 : Int) (a0_1 : Int) (a0_2 : Int) (a0_3 : Int) (a0_4 : Int) (a1z : Bool) (a1 : List Int) (a2_0 : Int) (a2_1 : Int) (a2_2 : Int) (a2_3z : Bool) (a2_3 : List Int) (a2_4z : Bool) (a2_4 : List Int) (a2_5 : Int) (a2_6 : Int) (a2_7z : Bool) (a2_7 : List Int) (a2_8z : Bool) (a2_8 : List Int) (a2_9z : Bool) (a2_9 : List T) : spec_PutHead.b (fun r => (ret r).map e) k a0_0 a0_1 a0_2 a0_3 a0_4 a1z a1 a2_0 a2_1 a2_2 a2_3z a2_3 a2_4z a2_4 a2_5 a2_6 a2_7z a2_7 a2_8z a2_8 a2_9z a2_9 = (spec_PutHead.b ret k a0_0 a0_1 a0_2 a0_3 a0_4 a1z a1 a2_0 a2_1 a2_2 a2_3z a2_3 a2_4z a2_4 a2_5 a2_6 a2_7z a2_7 a2_8z a2_8 a2_9z a2_9).map e := by
  unfold spec_PutHead.b
  repeat' first | with_reducible refine nat_cond ?_ ?_ | with_reducible refine nat_bind fun _ => ?_ | rfl
theorem spec_PutHead.eq (k : Nat) (a0_0 : Int) (a0_1 : Int) (a0_2 : Int) (a0_3 : Int) (a0_4 : Int) (a1z : Bool) (a1 : List Int) (a2_0 : Int) (a2_1 : Int) (a2_2 : Int) (a2_3z : Bool) (a2_3 : List Int) (a2_4z : Bool) (a2_4 : List Int) (a2_5 : Int) (a2_6 : Int) (a2_7z : Bool) (a2_7 : List Int) (a2_8z : Bool) (a2_8 : List Int) (a2_9z : Bool) (a2_9 : List T) : answer Try.prog spec_PutHead.Cs 100000 spec_PutHead.cuts [] Try.f156 (k + 1) [.v (.agg [(.int .i64 a0_0), (.int .i64 a0_1), (.int .i64 a0_2), (.int .i64 a0_3), (.int .i64 a0_4)]), .v (.nums 5 .u8 a1z a1), .v (.agg [(.int .i64 a2_0), (.int .i64 a2_1), (.int .i64 a2_2), (.nums 5 .u8 a2_3z a2_3), (.nums 5 .u8 a2_4z a2_4), (.int .i64 a2_5), (.int .i64 a2_6), (.nums 5 .u8 a2_7z a2_7), (.nums 5 .u8 a2_8z a2_8), (.sl 45 a2_9z a2_9)])] = (spec_PutHead.f (k + 1) a0_0 a0_1 a0_2 a0_3 a0_4 a1z a1 a2_0 a2_1 a2_2 a2_3z a2_3 a2_4z a2_4 a2_5 a2_6 a2_7z a2_7 a2_8z a2_8 a2_9z a2_9).map spec_PutHead.enc := by
  refine (spec_PutHead.s k a0_0 a0_1 a0_2 a0_3 a0_4 a1z a1 a2_0 a2_1 a2_2 a2_3z a2_3 a2_4z a2_4 a2_5 a2_6 a2_7z a2_7 a2_8z a2_8 a2_9z a2_9).trans (Eq.trans ?_ (spec_PutHead.b_nat spec_PutHead.enc some k a0_0 a0_1 a0_2 a0_3 a0_4 a1z a1 a2_0 a2_1 a2_2 a2_3z a2_3 a2_4z a2_4 a2_5 a2_6 a2_7z a2_7 a2_8z a2_8 a2_9z a2_9))
  simp only [Option.map_some]
theorem spec_PutHead.sound (k : Nat) : SoundF Try.prog 156 (fun a => (spec_PutHead.ans k a).val) := by
  refine sound_plain (fun args res h => ?_) (fun t n => rfl)
  unfold spec_PutHead.ans at h
  dsimp only at h
  split at h
  · cases k with
    | zero => cases h
    | succ k =>
      unfold Ans.val at h
      rw [← spec_PutHead.eq] at h
      exact answer_sound mixed Try.func156 _ _ _ (k + 1) (fun j _ => tab_sound (tab_cons (spec_HeadOk.sound j) (tab_cons (spec_l11Num.sound j) (tab_cons (spec_PutQc.sound j) (tab_nil))))) _ _ h
  · exact (Ans.no_val h).elim

/-! loop.example/g00790/spec.ShaInit -/
def spec_ShaInit.b {R : Type} (ret : Bool × List Int → Option R) (k : Nat) : Option R :=
  ret (false, ([1779033703, 3144134277, 1013904242, 2773480762, 1359893119, 2600822924, 528734635, 1541459225] : List Int))
def spec_ShaInit.f : Nat → Option (Bool × List Int)
  | 0 => none
  | k + 1 => spec_ShaInit.b some k
def spec_ShaInit.enc (r : Bool × List Int) : Res := ⟨[.vals false [((.nums 3 .i64 r.1 r.2), true)]], []⟩
def spec_ShaInit.ans (k : Nat) : List Arg → Ans
  | [] => ⟨spec_ShaInit.f k, spec_ShaInit.enc⟩
  | _ => Ans.no
def spec_ShaInit.Cs (k : Nat) : CallSem := tab []
def spec_ShaInit.cuts : List (Nat × Keep) := []
theorem spec_ShaInit.s (k : Nat) : answer Try.prog spec_ShaInit.Cs 100000 spec_ShaInit.cuts [] Try.f194 (k + 1) [] = spec_ShaInit.b (fun r => some (spec_ShaInit.enc r)) k := by kernel_rfl
theorem spec_ShaInit.b_nat {R R' : Type} (e : R → R') (ret : Bool × List Int → Option R) (k : Nat) : spec_ShaInit.b (fun r => (ret r).map e) k = (spec_ShaInit.b ret k).map e := by
  unfold spec_ShaInit.b
  repeat' first | with_reducible refine nat_cond ?_ ?_ | with_reducible refine nat_bind fun _ => ?_ | rfl
theorem spec_ShaInit.eq (k : Nat) : answer Try.prog spec_ShaInit.Cs 100000 spec_ShaInit.cuts [] Try.f194 (k + 1) [] = (spec_ShaInit.f (k + 1)).map spec_ShaInit.enc := by
  refine (spec_ShaInit.s k).trans (Eq.trans ?_ (spec_ShaInit.b_nat spec_ShaInit.enc some k))
  simp only [Option.map_some]
theorem spec_ShaInit.sound (k : Nat) : SoundF Try.prog 194 (fun a => (spec_ShaInit.ans k a).val) := by
  refine sound_plain (fun args res h => ?_) (fun t n => rfl)
  unfold spec_ShaInit.ans at h
  dsimp only at h
  split at h
  · cases k with
    | zero => cases h
    | succ k =>
      unfold Ans.val at h
      rw [← spec_ShaInit.eq] at h
      exact answer_sound mixed Try.func194 _ _ _ (k + 1) (fun j _ => tab_sound (tab_nil)) _ _ h
  · exact (Ans.no_val h).elim

/-! loop.example/g00790/spec.ShaPad -/
def spec_ShaPad.b {R : Type} (ret : Bool × List Int → Option R) (j0 : Bool → (List Int) → (List Int) → Option R) (j1 : (List Int) → Int → Int → Option R) (k : Nat) (a0z : Bool) (a0 : List Int) : Option R :=
  (spec_l01Copy.f k a0z a0).bind fun t0 => cond (decide ((t0.2).length + 1 < 140737488355328)) (j0 a0z a0 (t0.2 ++ ([128] : List Int))) (none)
def spec_ShaPad.l0b {R : Type} (ret : Bool × List Int → Option R) (j0 : Bool → (List Int) → (List Int) → Option R) (j1 : (List Int) → Int → Int → Option R) (k : Nat) (x0z : Bool) (x0 : List Int) (x3 : List Int) : Option R :=
  cond (!(decide ((Int.tmod ((x3).length : Int) 64) = 56))) (cond (decide ((x3).length + 1 < 140737488355328)) (j0 x0z x0 (x3 ++ ([0] : List Int))) (none)) (j1 x3 (RowKit.wrap64 ((8 : Int) * ((x0).length : Int))) 7)
def spec_ShaPad.l1b {R : Type} (ret : Bool × List Int → Option R) (j0 : Bool → (List Int) → (List Int) → Option R) (j1 : (List Int) → Int → Int → Option R) (k : Nat) (x3 : List Int) (x4 : Int) (x5 : Int) : Option R :=
  cond (decide (x5 ≥ 0)) (cond (decide ((0 : Int) ≤ (RowKit.wrap64 ((8 : Int) * x5)))) (cond (decide ((x3).length + 1 < 140737488355328)) (j1 (x3 ++ ([(((shrI .i64 x4 (RowKit.wrap64 ((8 : Int) * x5)))) % 256)] : List Int)) x4 (RowKit.wrap64 (x5 - 1))) (none)) (none)) (ret (false, x3))
mutual
def spec_ShaPad.l0 : Nat → Bool → (List Int) → (List Int) → Option (Bool × List Int)
  | 0, _, _, _ => none
  | k + 1, x0z, x0, x3 => spec_ShaPad.l0b some (spec_ShaPad.l0 k) (spec_ShaPad.l1 k) k x0z x0 x3
def spec_ShaPad.l1 : Nat → (List Int) → Int → Int → Option (Bool × List Int)
  | 0, _, _, _ => none
  | k + 1, x3, x4, x5 => spec_ShaPad.l1b some (spec_ShaPad.l0 k) (spec_ShaPad.l1 k) k x3 x4 x5
end
def spec_ShaPad.f : Nat → Bool → (List Int) → Option (Bool × List Int)
  | 0, _, _ => none
  | k + 1, a0z, a0 => spec_ShaPad.b some (spec_ShaPad.l0 k) (spec_ShaPad.l1 k) k a0z a0
def spec_ShaPad.enc (r : Bool × List Int) : Res := ⟨[.vals false [((.nums 5 .u8 r.1 r.2), true)]], []⟩
def spec_ShaPad.ans (k : Nat) : List Arg → Ans
  | [.v (.nums 5 .u8 a0z a0)] => ⟨spec_ShaPad.f k a0z a0, spec_ShaPad.enc⟩
  | _ => Ans.no
def spec_ShaPad.Cs (k : Nat) : CallSem := tab [(130, spec_l01Copy.ans k)]
def spec_ShaPad.cuts : List (Nat × Keep) := [(28, ⟨[(0, some []), (3, none)], []⟩), (250, ⟨[(3, none), (4, some []), (5, some [])], []⟩)]
noncomputable def spec_ShaPad.K0 : List Fr := framesAt [true, true, false, false] (bodyOf Try.f195 spec_ShaPad.cuts) []
def spec_ShaPad.N0 (x0z : Bool) (x0 : List Int) (x3 : List Int) : St := stOf 33 33 1 [(0, .val ⟨(.nums 5 .u8 x0z x0), [], false, none⟩), (3, .val ⟨(.nums 5 .u8 false x3), [.l 3 0], true, some (.l 3 0)⟩)] []
noncomputable def spec_ShaPad.K1 : List Fr := framesAt [true, true, true, true, false, true, false] (bodyOf Try.f195 spec_ShaPad.cuts) []
def spec_ShaPad.N1 (x3 : List Int) (x4 : Int) (x5 : Int) : St := stOf 33 33 1 [(3, .val ⟨(.nums 5 .u8 false x3), [.l 3 0], true, some (.l 3 0)⟩), (4, .val (V.s (.int .i64 x4))), (5, .val (V.s (.int .i64 x5)))] []
theorem spec_ShaPad.s (k : Nat) (a0z : Bool) (a0 : List Int) : answer Try.prog spec_ShaPad.Cs 100000 spec_ShaPad.cuts [] Try.f195 (k + 1) [.v (.nums 5 .u8 a0z a0)] = spec_ShaPad.b (fun r => some (spec_ShaPad.enc r)) (fun x0z x0 x3 => rounds Try.prog spec_ShaPad.Cs (finish Try.prog [] Try.f195 [.v (.nums 5 .u8 a0z a0)]) 100000 k spec_ShaPad.K0 (spec_ShaPad.N0 x0z x0 x3)) (fun x3 x4 x5 => rounds Try.prog spec_ShaPad.Cs (finish Try.prog [] Try.f195 [.v (.nums 5 .u8 a0z a0)]) 100000 k spec_ShaPad.K1 (spec_ShaPad.N1 x3 x4 x5)) k a0z a0 := by kernel_rfl
theorem spec_ShaPad.s0 (k : Nat) (G : List Fr → St → Option Res) (a0z : Bool) (a0 : List Int) (yx0z : Bool) (yx0 : List Int) (yx3 : List Int) : resume Try.prog (spec_ShaPad.Cs k) G (finish Try.prog [] Try.f195 [.v (.nums 5 .u8 a0z a0)]) 100000 spec_ShaPad.K0 (spec_ShaPad.N0 yx0z yx0 yx3) = spec_ShaPad.l0b (fun r => some (spec_ShaPad.enc r)) (fun x0z x0 x3 => G spec_ShaPad.K0 (spec_ShaPad.N0 x0z x0 x3)) (fun x3 x4 x5 => G spec_ShaPad.K1 (spec_ShaPad.N1 x3 x4 x5)) k yx0z yx0 yx3 := by kernel_rfl
theorem spec_ShaPad.s1 (k : Nat) (G : List Fr → St → Option Res) (a0z : Bool) (a0 : List Int) (yx3 : List Int) (yx4 : Int) (yx5 : Int) : resume Try.prog (spec_ShaPad.Cs k) G (finish Try.prog [] Try.f195 [.v (.nums 5 .u8 a0z a0)]) 100000 spec_ShaPad.K1 (spec_ShaPad.N1 yx3 yx4 yx5) = spec_ShaPad.l1b (fun r => some (spec_ShaPad.enc r)) (fun x0z x0 x3 => G spec_ShaPad.K0 (spec_ShaPad.N0 x0z x0 x3)) (fun x3 x4 x5 => G spec_ShaPad.K1 (spec_ShaPad.N1 x3 x4 x5)) k yx3 yx4 yx5 := by kernel_rfl
theorem spec_ShaPad.b_nat {R R' : Type} (e : R → R') (ret : Bool × List Int → Option R) (j0 : Bool → (List Int) → (List Int) → Option R) (j1 : (List Int) → Int → Int → Option R) (k : Nat) (a0z : Bool) (a0 : List Int) : spec_ShaPad.b (fun r => (ret r).map e) (fun x0z x0 x3 => (j0 x0z x0 x3).map e) (fun x3 x4 x5 => (j1 x3 x4 x5).map e) k a0z a0 = (spec_ShaPad.b ret j0 j1 k a0z a0).map e := by
  unfold spec_ShaPad.b
  repeat' first | with_reducible refine nat_cond ?_ ?_ | with_reducible refine nat_bind fun _ => ?_ | rfl
theorem spec_ShaPad.l0b_nat {R R' : Type} (e : R → R') (ret : Bool × List Int → Option R) (j0 : Bool → (List Int) → (List Int) → Option R) (j1 : (List Int) → Int → Int → Option R) (k : Nat) (x0z : Bool) (x0 : List Int) (x3 : List Int) : spec_ShaPad.l0b (fun r => (ret r).map e) (fun x0z x0 x3 => (j0 x0z x0 x3).map e) (fun x3 x4 x5 => (j1 x3 x4 x5).map e) k x0z x0 x3 = (spec_ShaPad.l0b ret j0 j1 k x0z x0 x3).map e := by
  unfold spec_ShaPad.l0b
  repeat' first | with_reducible refine nat_cond ?_ ?_ | with_reducible refine nat_bind fun _ => ?_ | rfl
theorem spec_ShaPad.l1b_nat {R R' : Type} (e : R → R') (ret : Bool × List Int → Option R) (j0 : Bool → (List Int) → (List Int) → Option R) (j1 : (List Int) → Int → Int → Option R) (k : Nat) (x3 : List Int) (x4 : Int) (x5 : Int) : spec_ShaPad.l1b (fun r => (ret r).map e) (fun x0z x0 x3 => (j0 x0z x0 x3).map e) (fun x3 x4 x5 => (j1 x3 x4 x5).map e) k x3 x4 x5 = (spec_ShaPad.l1b ret j0 j1 k x3 x4 x5).map e := by
  unfold spec_ShaPad.l1b
  repeat' first | with_reducible refine nat_cond ?_ ?_ | with_reducible refine nat_bind fun _ => ?_ | rfl
theorem spec_ShaPad.rounds_eq (a0z : Bool) (a0 : List Int) : ∀ k, (∀ (x0z : Bool) (x0 : List Int) (x3 : List Int), rounds Try.prog spec_ShaPad.Cs (finish Try.prog [] Try.f195 [.v (.nums 5 .u8 a0z a0)]) 100000 k spec_ShaPad.K0 (spec_ShaPad.N0 x0z x0 x3) = (spec_ShaPad.l0 k x0z x0 x3).map spec_ShaPad.enc) ∧ (∀ (x3 : List Int) (x4 : Int) (x5 : Int), rounds Try.prog spec_ShaPad.Cs (finish Try.prog [] Try.f195 [.v (.nums 5 .u8 a0z a0)]) 100000 k spec_ShaPad.K1 (spec_ShaPad.N1 x3 x4 x5) = (spec_ShaPad.l1 k x3 x4 x5).map spec_ShaPad.enc)
  | 0 => ⟨fun _ _ _ => rfl, fun _ _ _ => rfl⟩
  | k + 1 => by
    have ih := spec_ShaPad.rounds_eq a0z a0 k
    refine ⟨fun _ _ _ => ?_, fun _ _ _ => ?_⟩
    · refine (spec_ShaPad.s0 k _ a0z a0 _ _ _).trans (Eq.trans ?_ (spec_ShaPad.l0b_nat spec_ShaPad.enc some (spec_ShaPad.l0 k) (spec_ShaPad.l1 k) k _ _ _))
      simp only [ih.1, ih.2, Option.map_some]
    · refine (spec_ShaPad.s1 k _ a0z a0 _ _ _).trans (Eq.trans ?_ (spec_ShaPad.l1b_nat spec_ShaPad.enc some (spec_ShaPad.l0 k) (spec_ShaPad.l1 k) k _ _ _))
      simp only [ih.1, ih.2, Option.map_some]
theorem spec_ShaPad.eq (k : Nat) (a0z : Bool) (a0 : List Int) : answer Try.prog spec_ShaPad.Cs 100000 spec_ShaPad.cuts [] Try.f195 (k + 1) [.v (.nums 5 .u8 a0z a0)] = (spec_ShaPad.f (k + 1) a0z a0).map spec_ShaPad.enc := by
  have ih := spec_ShaPad.rounds_eq a0z a0 k
  refine (spec_ShaPad.s k a0z a0).trans (Eq.trans ?_ (spec_ShaPad.b_nat spec_ShaPad.enc some (spec_ShaPad.l0 k) (spec_ShaPad.l1 k) k a0z a0))
  simp only [ih.1, ih.2, Option.map_some]
theorem spec_ShaPad.sound (k : Nat) : SoundF Try.prog 195 (fun a => (spec_ShaPad.ans k a).val) := by
  refine sound_plain (fun args res h => ?_) (fun t n => rfl)
  unfold spec_ShaPad.ans at h
  dsimp only at h
  split at h
  · cases k with
    | zero => cases h
    | succ k =>
      unfold Ans.val at h
      rw [← spec_ShaPad.eq] at h
      exact answer_sound mixed Try.func195 _ _ _ (k + 1) (fun j _ => tab_sound (tab_cons (spec_l01Copy.sound j) (tab_nil))) _ _ h
  · exact (Ans.no_val h).elim

/-! loop.example/g00790/spec.l04Word -/
def spec_l04Word.b {R : Type} (ret : Bool → Option R) (k : Nat) (a0 : Int) : Option R :=
  (spec_l01In.f k a0 0 4294967295).bind fun t0 => ret t0
def spec_l04Word.f : Nat → Int → Option Bool
  | 0, _ => none
  | k + 1, a0 => spec_l04Word.b some k a0
def spec_l04Word.enc (r : Bool) : Res := ⟨[.vals false [((.bool r), true)]], []⟩
def spec_l04Word.ans (k : Nat) : List Arg → Ans
  | [.v (.int .i64 a0)] => ⟨spec_l04Word.f k a0, spec_l04Word.enc⟩
  | _ => Ans.no
def spec_l04Word.Cs (k : Nat) : CallSem := tab [(122, spec_l01In.ans k)]
def spec_l04Word.cuts : List (Nat × Keep) := []
theorem spec_l04Word.s (k : Nat) (a0 : Int) : answer Try.prog spec_l04Word.Cs 100000 spec_l04Word.cuts [] Try.f212 (k + 1) [.v (.int .i64 a0)] = spec_l04Word.b (fun r => some (spec_l04Word.enc r)) k a0 := by kernel_rfl
theorem spec_l04Word.b_nat {R R' : Type} (e : R → R') (ret : Bool → Option R) (k : Nat) (a0 : Int) : spec_l04Word.b (fun r => (ret r).map e) k a0 = (spec_l04Word.b ret k a0).map e := by
  unfold spec_l04Word.b
  repeat' first | with_reducible refine nat_cond ?_ ?_ | with_reducible refine nat_bind fun _ => ?_ | rfl
theorem spec_l04Word.eq (k : Nat) (a0 : Int) : answer Try.prog spec_l04Word.Cs 100000 spec_l04Word.cuts [] Try.f212 (k + 1) [.v (.int .i64 a0)] = (spec_l04Word.f (k + 1) a0).map spec_l04Word.enc := by
  refine (spec_l04Word.s k a0).trans (Eq.trans ?_ (spec_l04Word.b_nat spec_l04Word.enc some k a0))
  simp only [Option.map_some]
theorem spec_l04Word.sound (k : Nat) : SoundF Try.prog 212 (fun a => (spec_l04Word.ans k a).val) := by
  refine sound_plain (fun args res h => ?_) (fun t n => rfl)
  unfold spec_l04Word.ans at h
  dsimp only at h
  split at h
  · cases k with
    | zero => cases h
    | succ k =>
      unfold Ans.val at h
      rw [← spec_l04Word.eq] at h
      exact answer_sound mixed Try.func212 _ _ _ (k + 1) (fun j _ => tab_sound (tab_cons (spec_l01In.sound j) (tab_nil))) _ _ h
  · exact (Ans.no_val h).elim

/-! loop.example/g00790/spec.l04Turn -/
def spec_l04Turn.b {R : Type} (ret : Int → Option R) (k : Nat) (a0 : Int) (a1 : Int) : Option R :=
  cond (decide ((0 : Int) ≤ a1)) (cond (decide ((0 : Int) ≤ (RowKit.wrap64 ((32 : Int) - a1)))) (ret (Go.bits .and .i64 (Go.bits .or .i64 (shrI .i64 a0 a1) (shlI .i64 a0 (RowKit.wrap64 ((32 : Int) - a1)))) 4294967295)) (none)) (none)
def spec_l04Turn.f : Nat → Int → Int → Option Int
  | 0, _, _ => none
  | k + 1, a0, a1 => spec_l04Turn.b some k a0 a1
def spec_l04Turn.enc (r : Int) : Res := ⟨[.vals false [((.int .i64 r), true)]], []⟩
def spec_l04Turn.ans (k : Nat) : List Arg → Ans
  | [.v (.int .i64 a0), .v (.int .i64 a1)] => ⟨spec_l04Turn.f k a0 a1, spec_l04Turn.enc⟩
  | _ => Ans.no
def spec_l04Turn.Cs (k : Nat) : CallSem := tab []
def spec_l04Turn.cuts : List (Nat × Keep) := []
theorem spec_l04Turn.s (k : Nat) (a0 : Int) (a1 : Int) : answer Try.prog spec_l04Turn.Cs 100000 spec_l04Turn.cuts [] Try.f213 (k + 1) [.v (.int .i64 a0), .v (.int .i64 a1)] = spec_l04Turn.b (fun r => some (spec_l04Turn.enc r)) k a0 a1 := by kernel_rfl
theorem spec_l04Turn.b_nat {R R' : Type} (e : R → R') (ret : Int → Option R) (k : Nat) (a0 : Int) (a1 : Int) : spec_l04Turn.b (fun r => (ret r).map e) k a0 a1 = (spec_l04Turn.b ret k a0 a1).map e := by
  unfold spec_l04Turn.b
  repeat' first | with_reducible refine nat_cond ?_ ?_ | with_reducible refine nat_bind fun _ => ?_ | rfl
theorem spec_l04Turn.eq (k : Nat) (a0 : Int) (a1 : Int) : answer Try.prog spec_l04Turn.Cs 100000 spec_l04Turn.cuts [] Try.f213 (k + 1) [.v (.int .i64 a0), .v (.int .i64 a1)] = (spec_l04Turn.f (k + 1) a0 a1).map spec_l04Turn.enc := by
  refine (spec_l04Turn.s k a0 a1).trans (Eq.trans ?_ (spec_l04Turn.b_nat spec_l04Turn.enc some k a0 a1))
  simp only [Option.map_some]
theorem spec_l04Turn.sound (k : Nat) : SoundF Try.prog 213 (fun a => (spec_l04Turn.ans k a).val) := by
  refine sound_plain (fun args res h => ?_) (fun t n => rfl)
  unfold spec_l04Turn.ans at h
  dsimp only at h
  split at h
  · cases k with
    | zero => cases h
    | succ k =>
      unfold Ans.val at h
      rw [← spec_l04Turn.eq] at h
      exact answer_sound mixed Try.func213 _ _ _ (k + 1) (fun j _ => tab_sound (tab_nil)) _ _ h
  · exact (Ans.no_val h).elim

/-! loop.example/g00790/spec.l04K -/
def spec_l04K.b {R : Type} (ret : Bool × List Int → Option R) (k : Nat) : Option R :=
  ret (false, ([1116352408, 1899447441, 3049323471, 3921009573, 961987163, 1508970993, 2453635748, 2870763221, 3624381080, 310598401, 607225278, 1426881987, 1925078388, 2162078206, 2614888103, 3248222580, 3835390401, 4022224774, 264347078, 604807628, 770255983, 1249150122, 1555081692, 1996064986, 2554220882, 2821834349, 2952996808, 3210313671, 3336571891, 3584528711, 113926993, 338241895, 666307205, 773529912, 1294757372, 1396182291, 1695183700, 1986661051, 2177026350, 2456956037, 2730485921, 2820302411, 3259730800, 3345764771, 3516065817, 3600352804, 4094571909, 275423344, 430227734, 506948616, 659060556, 883997877, 958139571, 1322822218, 1537002063, 1747873779, 1955562222, 2024104815, 2227730452, 2361852424, 2428436474, 2756734187, 3204031479, 3329325298] : List Int))
def spec_l04K.f : Nat → Option (Bool × List Int)
  | 0 => none
  | k + 1 => spec_l04K.b some k
def spec_l04K.enc (r : Bool × List Int) : Res := ⟨[.vals false [((.nums 3 .i64 r.1 r.2), true)]], []⟩
def spec_l04K.ans (k : Nat) : List Arg → Ans
  | [] => ⟨spec_l04K.f k, spec_l04K.enc⟩
  | _ => Ans.no
def spec_l04K.Cs (k : Nat) : CallSem := tab []
def spec_l04K.cuts : List (Nat × Keep) := []
theorem spec_l04K.s (k : Nat) : answer Try.prog spec_l04K.Cs 100000 spec_l04K.cuts [] Try.f214 (k + 1) [] = spec_l04K.b (fun r => some (spec_l04K.enc r)) k := by kernel_rfl
theorem spec_l04K.b_nat {R R' : Type} (e : R → R') (ret : Bool × List Int → Option R) (k : Nat) : spec_l04K.b (fun r => (ret r).map e) k = (spec_l04K.b ret k).map e := by
  unfold spec_l04K.b
  repeat' first | with_reducible refine nat_cond ?_ ?_ | with_reducible refine nat_bind fun _ => ?_ | rfl
theorem spec_l04K.eq (k : Nat) : answer Try.prog spec_l04K.Cs 100000 spec_l04K.cuts [] Try.f214 (k + 1) [] = (spec_l04K.f (k + 1)).map spec_l04K.enc := by
  refine (spec_l04K.s k).trans (Eq.trans ?_ (spec_l04K.b_nat spec_l04K.enc some k))
  simp only [Option.map_some]
theorem spec_l04K.sound (k : Nat) : SoundF Try.prog 214 (fun a => (spec_l04K.ans k a).val) := by
  refine sound_plain (fun args res h => ?_) (fun t n => rfl)
  unfold spec_l04K.ans at h
  dsimp only at h
  split at h
  · cases k with
    | zero => cases h
    | succ k =>
      unfold Ans.val at h
      rw [← spec_l04K.eq] at h
      exact answer_sound mixed Try.func214 _ _ _ (k + 1) (fun j _ => tab_sound (tab_nil)) _ _ h
  · exact (Ans.no_val h).elim

/-! loop.example/g00790/spec.ShaBlock -/
def spec_ShaBlock.b {R : Type} (ret : Bool × List Int → Option R) (j0 : Bool → (List Int) → Bool → (List Int) → Bool → (List Int) → Int → Int → Option R) (j1 : Bool → (List Int) → Bool → (List Int) → (List Int) → Int → Option R) (j2 : Bool → (List Int) → (List Int) → Int → Option R) (j3 : Bool → (List Int) → (List Int) → Bool → (List Int) → Bool → (List Int) → Int → Option R) (j4 : Bool → (List Int) → Bool → (List Int) → (List Int) → Int → Int → Option R) (k : Nat) (a0z : Bool) (a0 : List Int) (a1z : Bool) (a1 : List Int) : Option R :=
  cond (!(decide (((a0).length : Int) = 8))) (ret (true, ([] : List Int))) (cond (!(decide (((a1).length : Int) = 64))) (ret (true, ([] : List Int))) (j0 a0z a0 a1z a1 a0z a0 ((a0).length : Int) 0))
def spec_ShaBlock.l0b {R : Type} (ret : Bool × List Int → Option R) (j0 : Bool → (List Int) → Bool → (List Int) → Bool → (List Int) → Int → Int → Option R) (j1 : Bool → (List Int) → Bool → (List Int) → (List Int) → Int → Option R) (j2 : Bool → (List Int) → (List Int) → Int → Option R) (j3 : Bool → (List Int) → (List Int) → Bool → (List Int) → Bool → (List Int) → Int → Option R) (j4 : Bool → (List Int) → Bool → (List Int) → (List Int) → Int → Int → Option R) (k : Nat) (x0z : Bool) (x0 : List Int) (x1z : Bool) (x1 : List Int) (x31z : Bool) (x31 : List Int) (x32 : Int) (x33 : Int) : Option R :=
  cond (decide (x33 < x32)) (cond (decide ((0 : Int) ≤ x33)) (cond (decide (x33 < ((x31).length : Int))) ((spec_l04Word.f k (rdI x31 x33)).bind fun t0 => cond (!t0) (ret (true, ([] : List Int))) (j0 x0z x0 x1z x1 x31z x31 x32 (RowKit.wrap64 (x33 + 1)))) (none)) (none)) (j1 x0z x0 x1z x1 ([] : List Int) 0)
def spec_ShaBlock.l1b {R : Type} (ret : Bool × List Int → Option R) (j0 : Bool → (List Int) → Bool → (List Int) → Bool → (List Int) → Int → Int → Option R) (j1 : Bool → (List Int) → Bool → (List Int) → (List Int) → Int → Option R) (j2 : Bool → (List Int) → (List Int) → Int → Option R) (j3 : Bool → (List Int) → (List Int) → Bool → (List Int) → Bool → (List Int) → Int → Option R) (j4 : Bool → (List Int) → Bool → (List Int) → (List Int) → Int → Int → Option R) (k : Nat) (x0z : Bool) (x0 : List Int) (x1z : Bool) (x1 : List Int) (x7 : List Int) (x8 : Int) : Option R :=
  cond (decide (x8 < 64)) (cond (decide ((0 : Int) ≤ x8)) (cond (decide (x8 < ((x1).length : Int))) (cond (decide ((0 : Int) ≤ (RowKit.wrap64 (x8 + 1)))) (cond (decide ((RowKit.wrap64 (x8 + 1)) < ((x1).length : Int))) (cond (decide ((0 : Int) ≤ (RowKit.wrap64 (x8 + 2)))) (cond (decide ((RowKit.wrap64 (x8 + 2)) < ((x1).length : Int))) (cond (decide ((0 : Int) ≤ (RowKit.wrap64 (x8 + 3)))) (cond (decide ((RowKit.wrap64 (x8 + 3)) < ((x1).length : Int))) (cond (decide ((x7).length + 1 < 17592186044416)) (j1 x0z x0 x1z x1 (x7 ++ ([(Go.bits .or .i64 (Go.bits .or .i64 (Go.bits .or .i64 (shlI .i64 (RowKit.wrap64 ((rdI x1 x8))) 24) (shlI .i64 (RowKit.wrap64 ((rdI x1 (RowKit.wrap64 (x8 + 1))))) 16)) (shlI .i64 (RowKit.wrap64 ((rdI x1 (RowKit.wrap64 (x8 + 2))))) 8)) (RowKit.wrap64 ((rdI x1 (RowKit.wrap64 (x8 + 3))))))] : List Int)) (RowKit.wrap64 (x8 + 4))) (none)) (none)) (none)) (none)) (none)) (none)) (none)) (none)) (none)) (j2 x0z x0 x7 16)
def spec_ShaBlock.l2b {R : Type} (ret : Bool × List Int → Option R) (j0 : Bool → (List Int) → Bool → (List Int) → Bool → (List Int) → Int → Int → Option R) (j1 : Bool → (List Int) → Bool → (List Int) → (List Int) → Int → Option R) (j2 : Bool → (List Int) → (List Int) → Int → Option R) (j3 : Bool → (List Int) → (List Int) → Bool → (List Int) → Bool → (List Int) → Int → Option R) (j4 : Bool → (List Int) → Bool → (List Int) → (List Int) → Int → Int → Option R) (k : Nat) (x0z : Bool) (x0 : List Int) (x7 : List Int) (x9 : Int) : Option R :=
  cond (decide (x9 < 64)) (cond (decide ((0 : Int) ≤ (RowKit.wrap64 (x9 - 15)))) (cond (decide ((RowKit.wrap64 (x9 - 15)) < ((x7).length : Int))) (cond (decide ((0 : Int) ≤ (RowKit.wrap64 (x9 - 2)))) (cond (decide ((RowKit.wrap64 (x9 - 2)) < ((x7).length : Int))) ((spec_l04Turn.f k (rdI x7 (RowKit.wrap64 (x9 - 15))) 7).bind fun t0 => (spec_l04Turn.f k (rdI x7 (RowKit.wrap64 (x9 - 15))) 18).bind fun t1 => (spec_l04Turn.f k (rdI x7 (RowKit.wrap64 (x9 - 2))) 17).bind fun t2 => (spec_l04Turn.f k (rdI x7 (RowKit.wrap64 (x9 - 2))) 19).bind fun t3 => cond (decide ((0 : Int) ≤ (RowKit.wrap64 (x9 - 16)))) (cond (decide ((RowKit.wrap64 (x9 - 16)) < ((x7).length : Int))) (cond (decide ((0 : Int) ≤ (RowKit.wrap64 (x9 - 7)))) (cond (decide ((RowKit.wrap64 (x9 - 7)) < ((x7).length : Int))) (cond (decide ((x7).length + 1 < 17592186044416)) (j2 x0z x0 (x7 ++ ([(Go.bits .and .i64 (RowKit.wrap64 ((RowKit.wrap64 ((RowKit.wrap64 ((rdI x7 (RowKit.wrap64 (x9 - 16))) + (Go.bits .xor .i64 (Go.bits .xor .i64 t0 t1) (shrI .i64 (rdI x7 (RowKit.wrap64 (x9 - 15))) 3)))) + (rdI x7 (RowKit.wrap64 (x9 - 7))))) + (Go.bits .xor .i64 (Go.bits .xor .i64 t2 t3) (shrI .i64 (rdI x7 (RowKit.wrap64 (x9 - 2))) 10)))) 4294967295)] : List Int)) (RowKit.wrap64 (x9 + 1))) (none)) (none)) (none)) (none)) (none)) (none)) (none)) (none)) (none)) ((spec_l04K.f k).bind fun t0 => cond (decide (0 + (x0).length < 17592186044416)) (j3 x0z x0 x7 t0.1 t0.2 ((x0).isEmpty && false) x0 0) (none))
def spec_ShaBlock.l3b {R : Type} (ret : Bool × List Int → Option R) (j0 : Bool → (List Int) → Bool → (List Int) → Bool → (List Int) → Int → Int → Option R) (j1 : Bool → (List Int) → Bool → (List Int) → (List Int) → Int → Option R) (j2 : Bool → (List Int) → (List Int) → Int → Option R) (j3 : Bool → (List Int) → (List Int) → Bool → (List Int) → Bool → (List Int) → Int → Option R) (j4 : Bool → (List Int) → Bool → (List Int) → (List Int) → Int → Int → Option R) (k : Nat) (x0z : Bool) (x0 : List Int) (x7 : List Int) (x14z : Bool) (x14 : List Int) (x15z : Bool) (x15 : List Int) (x16 : Int) : Option R :=
  cond (decide (x16 < 64)) (cond (decide ((4 : Int) < ((x15).length : Int))) (cond (decide ((0 : Int) < ((x15).length : Int))) (cond (decide ((7 : Int) < ((x15).length : Int))) ((spec_l04Turn.f k (rdI x15 4) 6).bind fun t0 => (spec_l04Turn.f k (rdI x15 4) 11).bind fun t1 => (spec_l04Turn.f k (rdI x15 4) 25).bind fun t2 => cond (decide ((5 : Int) < ((x15).length : Int))) (cond (decide ((6 : Int) < ((x15).length : Int))) (cond (decide ((0 : Int) ≤ x16)) (cond (decide (x16 < ((x14).length : Int))) (cond (decide ((0 : Int) ≤ x16)) (cond (decide (x16 < ((x7).length : Int))) ((spec_l04Turn.f k (rdI x15 0) 2).bind fun t3 => (spec_l04Turn.f k (rdI x15 0) 13).bind fun t4 => (spec_l04Turn.f k (rdI x15 0) 22).bind fun t5 => cond (decide ((1 : Int) < ((x15).length : Int))) (cond (decide ((2 : Int) < ((x15).length : Int))) (cond (decide ((1 : Int) < ((x15).length : Int))) (cond (decide ((2 : Int) < ((x15).length : Int))) (cond (decide ((0 : Int) < ((x15).length : Int))) (cond (decide ((1 : Int) < ((x15).length : Int))) (cond (decide ((2 : Int) < ((x15).length : Int))) (cond (decide ((3 : Int) < ((x15).length : Int))) (cond (decide ((4 : Int) < ((x15).length : Int))) (cond (decide ((5 : Int) < ((x15).length : Int))) (cond (decide ((6 : Int) < ((x15).length : Int))) (j3 x0z x0 x7 x14z x14 false ([(Go.bits .and .i64 (RowKit.wrap64 ((RowKit.wrap64 ((RowKit.wrap64 ((RowKit.wrap64 ((RowKit.wrap64 ((rdI x15 7) + (Go.bits .xor .i64 (Go.bits .xor .i64 t0 t1) t2))) + (Go.bits .xor .i64 (Go.bits .and .i64 (rdI x15 4) (rdI x15 5)) (Go.bits .and .i64 (Go.bits .xor .i64 4294967295 (rdI x15 4)) (rdI x15 6))))) + (rdI x14 x16))) + (rdI x7 x16))) + (RowKit.wrap64 ((Go.bits .xor .i64 (Go.bits .xor .i64 t3 t4) t5) + (Go.bits .xor .i64 (Go.bits .xor .i64 (Go.bits .and .i64 (rdI x15 0) (rdI x15 1)) (Go.bits .and .i64 (rdI x15 0) (rdI x15 2))) (Go.bits .and .i64 (rdI x15 1) (rdI x15 2))))))) 4294967295), (rdI x15 0), (rdI x15 1), (rdI x15 2), (Go.bits .and .i64 (RowKit.wrap64 ((rdI x15 3) + (RowKit.wrap64 ((RowKit.wrap64 ((RowKit.wrap64 ((RowKit.wrap64 ((rdI x15 7) + (Go.bits .xor .i64 (Go.bits .xor .i64 t0 t1) t2))) + (Go.bits .xor .i64 (Go.bits .and .i64 (rdI x15 4) (rdI x15 5)) (Go.bits .and .i64 (Go.bits .xor .i64 4294967295 (rdI x15 4)) (rdI x15 6))))) + (rdI x14 x16))) + (rdI x7 x16))))) 4294967295), (rdI x15 4), (rdI x15 5), (rdI x15 6)] : List Int) (RowKit.wrap64 (x16 + 1))) (none)) (none)) (none)) (none)) (none)) (none)) (none)) (none)) (none)) (none)) (none)) (none)) (none)) (none)) (none)) (none)) (none)) (none)) (none)) (none)) (j4 x0z x0 x15z x15 ([] : List Int) ((x0).length : Int) 0)
def spec_ShaBlock.l4b {R : Type} (ret : Bool × List Int → Option R) (j0 : Bool → (List Int) → Bool → (List Int) → Bool → (List Int) → Int → Int → Option R) (j1 : Bool → (List Int) → Bool → (List Int) → (List Int) → Int → Option R) (j2 : Bool → (List Int) → (List Int) → Int → Option R) (j3 : Bool → (List Int) → (List Int) → Bool → (List Int) → Bool → (List Int) → Int → Option R) (j4 : Bool → (List Int) → Bool → (List Int) → (List Int) → Int → Int → Option R) (k : Nat) (x0z : Bool) (x0 : List Int) (x15z : Bool) (x15 : List Int) (x21 : List Int) (x235 : Int) (x236 : Int) : Option R :=
  cond (decide (x236 < x235)) (cond (decide ((0 : Int) ≤ x236)) (cond (decide (x236 < ((x0).length : Int))) (cond (decide ((0 : Int) ≤ x236)) (cond (decide (x236 < ((x15).length : Int))) (cond (decide ((x21).length + 1 < 17592186044416)) (j4 x0z x0 x15z x15 (x21 ++ ([(Go.bits .and .i64 (RowKit.wrap64 ((rdI x0 x236) + (rdI x15 x236))) 4294967295)] : List Int)) x235 (RowKit.wrap64 (x236 + 1))) (none)) (none)) (none)) (none)) (none)) (ret (false, x21))
mutual
def spec_ShaBlock.l0 : Nat → Bool → (List Int) → Bool → (List Int) → Bool → (List Int) → Int → Int → Option (Bool × List Int)
  | 0, _, _, _, _, _, _, _, _ => none
  | k + 1, x0z, x0, x1z, x1, x31z, x31, x32, x33 => spec_ShaBlock.l0b some (spec_ShaBlock.l0 k) (spec_ShaBlock.l1 k) (spec_ShaBlock.l2 k) (spec_ShaBlock.l3 k) (spec_ShaBlock.l4 k) k x0z x0 x1z x1 x31z x31 x32 x33
def spec_ShaBlock.l1 : Nat → Bool → (List Int) → Bool → (List Int) → (List Int) → Int → Option (Bool × List Int)
  | 0, _, _, _, _, _, _ => none
  | k + 1, x0z, x0, x1z, x1, x7, x8 => spec_ShaBlock.l1b some (spec_ShaBlock.l0 k) (spec_ShaBlock.l1 k) (spec_ShaBlock.l2 k) (spec_ShaBlock.l3 k) (spec_ShaBlock.l4 k) k x0z x0 x1z x1 x7 x8
def spec_ShaBlock.l2 : Nat → Bool → (List Int) → (List Int) → Int → Option (Bool × List Int)
  | 0, _, _, _, _ => none
  | k + 1, x0z, x0, x7, x9 => spec_ShaBlock.l2b some (spec_ShaBlock.l0 k) (spec_ShaBlock.l1 k) (spec_ShaBlock.l2 k) (spec_ShaBlock.l3 k) (spec_ShaBlock.l4 k) k x0z x0 x7 x9
def spec_ShaBlock.l3 : Nat → Bool → (List Int) → (List Int) → Bool → (List Int) → Bool → (List Int) → Int → Option (Bool × List Int)
  | 0, _, _, _, _, _, _, _, _ => none
  | k + 1, x0z, x0, x7, x14z, x14, x15z, x15, x16 => spec_ShaBlock.l3b some (spec_ShaBlock.l0 k) (spec_ShaBlock.l1 k) (spec_ShaBlock.l2 k) (spec_ShaBlock.l3 k) (spec_ShaBlock.l4 k) k x0z x0 x7 x14z x14 x15z x15 x16
def spec_ShaBlock.l4 : Nat → Bool → (List Int) → Bool → (List Int) → (List Int) → Int → Int → Option (Bool × List Int)
  | 0, _, _, _, _, _, _, _ => none
  | k + 1, x0z, x0, x15z, x15, x21, x235, x236 => spec_ShaBlock.l4b some (spec_ShaBlock.l0 k) (spec_ShaBlock.l1 k) (spec_ShaBlock.l2 k) (spec_ShaBlock.l3 k) (spec_ShaBlock.l4 k) k x0z x0 x15z x15 x21 x235 x236
end
def spec_ShaBlock.f : Nat → Bool → (List Int) → Bool → (List Int) → Option (Bool × List Int)
  | 0, _, _, _, _ => none
  | k + 1, a0z, a0, a1z, a1 => spec_ShaBlock.b some (spec_ShaBlock.l0 k) (spec_ShaBlock.l1 k) (spec_ShaBlock.l2 k) (spec_ShaBlock.l3 k) (spec_ShaBlock.l4 k) k a0z a0 a1z a1
def spec_ShaBlock.enc (r : Bool × List Int) : Res := ⟨[.vals false [((.nums 3 .i64 r.1 r.2), true)]], []⟩
def spec_ShaBlock.ans (k : Nat) : List Arg → Ans
  | [.v (.nums 3 .i64 a0z a0), .v (.nums 5 .u8 a1z a1)] => ⟨spec_ShaBlock.f k a0z a0 a1z a1, spec_ShaBlock.enc⟩
  | _ => Ans.no
def spec_ShaBlock.Cs (k : Nat) : CallSem := tab [(212, spec_l04Word.ans k), (213, spec_l04Turn.ans k), (214, spec_l04K.ans k)]
def spec_ShaBlock.cuts : List (Nat × Keep) := [(58, ⟨[(0, some []), (1, some []), (31, some []), (32, some []), (33, some [])], []⟩), (250, ⟨[(0, some []), (1, some []), (7, none), (8, some [])], []⟩), (506, ⟨[(0, some []), (7, none), (9, some [])], []⟩), (4090, ⟨[(0, some []), (7, none), (14, none), (15, none), (16, some [])], []⟩), (16378, ⟨[(0, some []), (15, none), (21, none), (235, some []), (236, some [])], []⟩)]
noncomputable def spec_ShaBlock.K0 : List Fr := framesAt [true, true, false, true, false] (bodyOf Try.f196 spec_ShaBlock.cuts) []
def spec_ShaBlock.N0 (x0z : Bool) (x0 : List Int) (x1z : Bool) (x1 : List Int) (x31z : Bool) (x31 : List Int) (x32 : Int) (x33 : Int) : St := stOf 254 254 2 [(0, .val ⟨(.nums 3 .i64 x0z x0), [], false, none⟩), (1, .val ⟨(.nums 5 .u8 x1z x1), [], false, none⟩), (31, .val ⟨(.nums 3 .i64 x31z x31), [], false, none⟩), (32, .val (V.s (.int .i64 x32))), (33, .val (V.s (.int .i64 x33)))] []
noncomputable def spec_ShaBlock.K1 : List Fr := framesAt [true, true, true, true, false, true, false] (bodyOf Try.f196 spec_ShaBlock.cuts) []
def spec_ShaBlock.N1 (x0z : Bool) (x0 : List Int) (x1z : Bool) (x1 : List Int) (x7 : List Int) (x8 : Int) : St := stOf 254 254 2 [(0, .val ⟨(.nums 3 .i64 x0z x0), [], false, none⟩), (1, .val ⟨(.nums 5 .u8 x1z x1), [], false, none⟩), (7, .val ⟨(.nums 3 .i64 false x7), [.l 7 0], true, some (.l 7 0)⟩), (8, .val (V.s (.int .i64 x8)))] []
noncomputable def spec_ShaBlock.K2 : List Fr := framesAt [true, true, true, true, true, false, true, false] (bodyOf Try.f196 spec_ShaBlock.cuts) []
def spec_ShaBlock.N2 (x0z : Bool) (x0 : List Int) (x7 : List Int) (x9 : Int) : St := stOf 254 254 2 [(0, .val ⟨(.nums 3 .i64 x0z x0), [], false, none⟩), (7, .val ⟨(.nums 3 .i64 false x7), [.l 7 0], true, some (.l 7 0)⟩), (9, .val (V.s (.int .i64 x9)))] []
noncomputable def spec_ShaBlock.K3 : List Fr := framesAt [true, true, true, true, true, true, true, true, false, true, false] (bodyOf Try.f196 spec_ShaBlock.cuts) []
def spec_ShaBlock.N3 (x0z : Bool) (x0 : List Int) (x7 : List Int) (x14z : Bool) (x14 : List Int) (x15z : Bool) (x15 : List Int) (x16 : Int) : St := stOf 254 254 2 [(0, .val ⟨(.nums 3 .i64 x0z x0), [], false, none⟩), (7, .val ⟨(.nums 3 .i64 false x7), [.l 7 0], true, some (.l 7 0)⟩), (14, .val ⟨(.nums 3 .i64 x14z x14), [.l 14 0], true, some (.l 14 0)⟩), (15, .val ⟨(.nums 3 .i64 x15z x15), [.l 15 0], true, some (.l 15 0)⟩), (16, .val (V.s (.int .i64 x16)))] []
noncomputable def spec_ShaBlock.K4 : List Fr := framesAt [true, true, true, true, true, true, true, true, true, true, false, true, false] (bodyOf Try.f196 spec_ShaBlock.cuts) []
def spec_ShaBlock.N4 (x0z : Bool) (x0 : List Int) (x15z : Bool) (x15 : List Int) (x21 : List Int) (x235 : Int) (x236 : Int) : St := stOf 254 254 2 [(0, .val ⟨(.nums 3 .i64 x0z x0), [], false, none⟩), (15, .val ⟨(.nums 3 .i64 x15z x15), [.l 15 0], true, some (.l 15 0)⟩), (21, .val ⟨(.nums 3 .i64 false x21), [.l 21 0], true, some (.l 21 0)⟩), (235, .val (V.s (.int .i64 x235))), (236, .val (V.s (.int .i64 x236)))] []
theorem spec_ShaBlock.s (k : Nat) (a0z : Bool) (a0 : List Int) (a1z : Bool) (a1 : List Int) : answer Try.prog spec_ShaBlock.Cs 100000 spec_ShaBlock.cuts [] Try.f196 (k + 1) [.v (.nums 3 .i64 a0z a0), .v (.nums 5 .u8 a1z a1)] = spec_ShaBlock.b (fun r => some (spec_ShaBlock.enc r)) (fun x0z x0 x1z x1 x31z x31 x32 x33 => rounds Try.prog spec_ShaBlock.Cs (finish Try.prog [] Try.f196 [.v (.nums 3 .i64 a0z a0), .v (.nums 5 .u8 a1z a1)]) 100000 k spec_ShaBlock.K0 (spec_ShaBlock.N0 x0z x0 x1z x1 x31z x31 x32 x33)) (fun x0z x0 x1z x1 x7 x8 => rounds Try.prog spec_ShaBlock.Cs (finish Try.prog [] Try.f196 [.v (.nums 3 .i64 a0z a0), .v (.nums 5 .u8 a1z a1)]) 100000 k spec_ShaBlock.K1 (spec_ShaBlock.N1 x0z x0 x1z x1 x7 x8)) (fun x0z x0 x7 x9 => rounds Try.prog spec_ShaBlock.Cs (finish Try.prog [] Try.f196 [.v (.nums 3 .i64 a0z a0), .v (.nums 5 .u8 a1z a1)]) 100000 k spec_ShaBlock.K2 (spec_ShaBlock.N2 x0z x0 x7 x9)) (fun x0z x0 x7 x14z x14 x15z x15 x16 => rounds Try.prog spec_ShaBlock.Cs (finish Try.prog [] Try.f196 [.v (.nums 3 .i64 a0z a0), .v (.nums 5 .u8 a1z a1)]) 100000 k spec_ShaBlock.K3 (spec_ShaBlock.N3 x0z x0 x7 x14z x14 x15z x15 x16)) (fun x0z x0 x15z x15 x21 x235 x236 => rounds Try.prog spec_ShaBlock.Cs (finish Try.prog [] Try.f196 [.v (.nums 3 .i64 a0z a0), .v (.nums 5 .u8 a1z a1)]) 100000 k spec_ShaBlock.K4 (spec_ShaBlock.N4 x0z x0 x15z x15 x21 x235 x236)) k a0z a0 a1z a1 := by kernel_rfl
theorem spec_ShaBlock.s0 (k : Nat) (G : List Fr → St → Option Res) (a0z : Bool) (a0 : List Int) (a1z : Bool) (a1 : List Int) (yx0z : Bool) (yx0 : List Int) (yx1z : Bool) (yx1 : List Int) (yx31z : Bool) (yx31 : List Int) (yx32 : Int) (yx33 : Int) : resume Try.prog (spec_ShaBlock.Cs k) G (finish Try.prog [] Try.f196 [.v (.nums 3 .i64 a0z a0), .v (.nums 5 .u8 a1z a1)]) 100000 spec_ShaBlock.K0 (spec_ShaBlock.N0 yx0z yx0 yx1z yx1 yx31z yx31 yx32 yx33) = spec_ShaBlock.l0b (fun r => some (spec_ShaBlock.enc r)) (fun x0z x0 x1z x1 x31z x31 x32 x33 => G spec_ShaBlock.K0 (spec_ShaBlock.N0 x0z x0 x1z x1 x31z x31 x32 x33)) (fun x0z x0 x1z x1 x7 x8 => G spec_ShaBlock.K1 (spec_ShaBlock.N1 x0z x0 x1z x1 x7 x8)) (fun x0z x0 x7 x9 => G spec_ShaBlock.K2 (spec_ShaBlock.N2 x0z x0 x7 x9)) (fun x0z x0 x7 x14z x14 x15z x15 x16 => G spec_ShaBlock.K3 (spec_ShaBlock.N3 x0z x0 x7 x14z x14 x15z x15 x16)) (fun x0z x0 x15z x15 x21 x235 x236 => G spec_ShaBlock.K4 (spec_ShaBlock.N4 x0z x0 x15z x15 x21 x235 x236)) k yx0z yx0 yx1z yx1 yx31z yx31 yx32 yx33 := by kernel_rfl
theorem spec_ShaBlock.s1 (k : Nat) (G : List Fr → St → Option Res) (a0z : Bool) (a0 : List Int) (a1z : Bool) (a1 : List Int) (yx0z : Bool) (yx0 : List Int) (yx1z : Bool) (yx1 : List Int) (yx7 : List Int) (yx8 : Int) : resume Try.prog (spec_ShaBlock.Cs k) G (finish Try.prog [] Try.f196 [.v (.nums 3 .i64 a0z a0), .v (.nums 5 .u8 a1z a1)]) 100000 spec_ShaBlock.K1 (spec_ShaBlock.N1 yx0z yx0 yx1z yx1 yx7 yx8) = spec_ShaBlock.l1b (fun r => some (spec_ShaBlock.enc r)) (fun x0z x0 x1z x1 x31z x31 x32 x33 => G spec_ShaBlock.K0 (spec_ShaBlock.N0 x0z x0 x1z x1 x31z x31 x32 x33)) (fun x0z x0 x1z x1 x7 x8 => G spec_ShaBlock.K1 (spec_ShaBlock.N1 x0z x0 x1z x1 x7 x8)) (fun x0z x0 x7 x9 => G spec_ShaBlock.K2 (spec_ShaBlock.N2 x0z x0 x7 x9)) (fun x0z x0 x7 x14z x14 x15z x15 x16 => G spec_ShaBlock.K3 (spec_ShaBlock.N3 x0z x0 x7 x14z x14 x15z x15 x16)) (fun x0z x0 x15z x15 x21 x235 x236 => G spec_ShaBlock.K4 (spec_ShaBlock.N4 x0z x0 x15z x15 x21 x235 x236)) k yx0z yx0 yx1z yx1 yx7 yx8 := by kernel_rfl
theorem spec_ShaBlock.s2 (k : Nat) (G : List Fr → St → Option Res) (a0z : Bool) (a0 : List Int) (a1z : Bool) (a1 : List Int) (yx0z : Bool) (yx0 : List Int) (yx7 : List Int) (yx9 : Int) : resume Try.prog (spec_ShaBlock.Cs k) G (finish Try.prog [] Try.f196 [.v (.nums 3 .i64 a0z a0), .v (.nums 5 .u8 a1z a1)]) 100000 spec_ShaBlock.K2 (spec_ShaBlock.N2 yx0z yx0 yx7 yx9) = spec_ShaBlock.l2b (fun r => some (spec_ShaBlock.enc r)) (fun x0z x0 x1z x1 x31z x31 x32 x33 => G spec_ShaBlock.K0 (spec_ShaBlock.N0 x0z x0 x1z x1 x31z x31 x32 x33)) (fun x0z x0 x1z x1 x7 x8 => G spec_ShaBlock.K1 (spec_ShaBlock.N1 x0z x0 x1z x1 x7 x8)) (fun x0z x0 x7 x9 => G spec_ShaBlock.K2 (spec_ShaBlock.N2 x0z x0 x7 x9)) (fun x0z x0 x7 x14z x14 x15z x15 x16 => G spec_ShaBlock.K3 (spec_ShaBlock.N3 x0z x0 x7 x14z x14 x15z x15 x16)) (fun x0z x0 x15z x15 x21 x235 x236 => G spec_ShaBlock.K4 (spec_ShaBlock.N4 x0z x0 x15z x15 x21 x235 x236)) k yx0z yx0 yx7 yx9 := by kernel_rfl
theorem spec_ShaBlock.s3 (k : Nat) (G : List Fr → St → Option Res) (a0z : Bool) (a0 : List Int) (a1z : Bool) (a1 : List Int) (yx0z : Bool) (yx0 : List Int) (yx7 : List Int) (yx14z : Bool) (yx14 : List Int) (yx15z : Bool) (yx15 : List Int) (yx16 : Int) : resume Try.prog (spec_ShaBlock.Cs k) G (finish Try.prog [] Try.f196 [.v (.nums 3 .i64 a0z a0), .v (.nums 5 .u8 a1z a1)]) 100000 spec_ShaBlock.K3 (spec_ShaBlock.N3 yx0z yx0 yx7 yx14z yx14 yx15z yx15 yx16) = spec_ShaBlock.l3b (fun r => some (spec_ShaBlock.enc r)) (fun x0z x0 x1z x1 x31z x31 x32 x33 => G spec_ShaBlock.K0 (spec_ShaBlock.N0 x0z x0 x1z x1 x31z x31 x32 x33)) (fun x0z x0 x1z x1 x7 x8 => G spec_ShaBlock.K1 (spec_ShaBlock.N1 x0z x0 x1z x1 x7 x8)) (fun x0z x0 x7 x9 => G spec_ShaBlock.K2 (spec_ShaBlock.N2 x0z x0 x7 x9)) (fun x0z x0 x7 x14z x14 x15z x15 x16 => G spec_ShaBlock.K3 (spec_ShaBlock.N3 x0z x0 x7 x14z x14 x15z x15 x16)) (fun x0z x0 x15z x15 x21 x235 x236 => G spec_ShaBlock.K4 (spec_ShaBlock.N4 x0z x0 x15z x15 x21 x235 x236)) k yx0z yx0 yx7 yx14z yx14 yx15z yx15 yx16 := by kernel_rfl
theorem spec_ShaBlock.s4 (k : Nat) (G : List Fr → St → Option Res) (a0z : Bool) (a0 : List Int) (a1z : Bool) (a1 : List Int) (yx0z : Bool) (yx0 : List Int) (yx15z : Bool) (yx15 : List Int) (yx21 : List Int) (yx235 : Int) (yx236 : Int) : resume Try.prog (spec_ShaBlock.Cs k) G (finish Try.prog [] Try.f196 [.v (.nums 3 .i64 a0z a0), .v (.nums 5 .u8 a1z a1)]) 100000 spec_ShaBlock.K4 (spec_ShaBlock.N4 yx0z yx0 yx15z yx15 yx21 yx235 yx236) = spec_ShaBlock.l4b (fun r => some (spec_ShaBlock.enc r)) (fun x0z x0 x1z x1 x31z x31 x32 x33 => G spec_ShaBlock.K0 (spec_ShaBlock.N0 x0z x0 x1z x1 x31z x31 x32 x33)) (fun x0z x0 x1z x1 x7 x8 => G spec_ShaBlock.K1 (spec_ShaBlock.N1 x0z x0 x1z x1 x7 x8)) (fun x0z x0 x7 x9 => G spec_ShaBlock.K2 (spec_ShaBlock.N2 x0z x0 x7 x9)) (fun x0z x0 x7 x14z x14 x15z x15 x16 => G spec_ShaBlock.K3 (spec_ShaBlock.N3 x0z x0 x7 x14z x14 x15z x15 x16)) (fun x0z x0 x15z x15 x21 x235 x236 => G spec_ShaBlock.K4 (spec_ShaBlock.N4 x0z x0 x15z x15 x21 x235 x236)) k yx0z yx0 yx15z yx15 yx21 yx235 yx236 := by kernel_rfl
theorem spec_ShaBlock.b_nat {R R' : Type} (e : R → R') (ret : Bool × List Int → Option R) (j0 : Bool → (List Int) → Bool → (List Int) → Bool → (List Int) → Int → Int → Option R) (j1 : Bool → (List Int) → Bool → (List Int) → (List Int) → Int → Option R) (j2 : Bool → (List Int) → (List Int) → Int → Option R) (j3 : Bool → (List Int) → (List Int) → Bool → (List Int) → Bool → (List Int) → Int → Option R) (j4 : Bool → (List Int) → Bool → (List Int) → (List Int) → Int → Int → Option R) (k : Nat) (a0z : Bool) (a0 : List Int) (a1z : Bool) (a1 : List Int) : spec_ShaBlock.b (fun r => (ret r).map e) (fun x0z x0 x1z x1 x31z x31 x32 x33 => (j0 x0z x0 x1z x1 x31z x31 x32 x33).map e) (fun x0z x0 x1z x1 x7 x8 => (j1 x0z x0 x1z x1 x7 x8).map e) (fun x0z x0 x7 x9 => (j2 x0z x0 x7 x9).map e) (fun x0z x0 x7 x14z x14 x15z x15 x16 => (j3 x0z x0 x7 x14z x14 x15z x15 x16).map e) (fun x0z x0 x15z x15 x21 x235 x236 => (j4 x0z x0 x15z x15 x21 x235 x236).map e) k a0z a0 a1z a1 = (spec_ShaBlock.b ret j0 j1 j2 j3 j4 k a0z a0 a1z a1).map e := by
  unfold spec_ShaBlock.b
  repeat' first | with_reducible refine nat_cond ?_ ?_ | with_reducible refine nat_bind fun _ => ?_ | rfl
theorem spec_ShaBlock.l0b_nat {R R' : Type} (e : R → R') (ret : Bool × List Int → Option R) (j0 : Bool → (List Int) → Bool → (List Int) → Bool → (List Int) → Int → Int → Option R) (j1 : Bool → (List Int) → Bool → (List Int) → (List Int) → Int → Option R) (j2 : Bool → (List Int) → (List Int) → Int → Option R) (j3 : Bool → (List Int) → (List Int) → Bool → (List Int) → Bool → (List Int) → Int → Option R) (j4 : Bool → (List Int) → Bool → (List Int) → (List Int) → Int → Int → Option R) (k : Nat) (x0z : Bool) (x0 : List Int) (x1z : Bool) (x1 : List Int) (x31z : Bool) (x31 : List Int) (x32 : Int) (x33 : Int) : spec_ShaBlock.l0b (fun r => (ret r).map e) (fun x0z x0 x1z x1 x31z x31 x32 x33 => (j0 x0z x0 x1z x1 x31z x31 x32 x33).map e) (fun x0z x0 x1z x1 x7 x8 => (j1 x0z x0 x1z x1 x7 x8).map e) (fun x0z x0 x7 x9 => (j2 x0z x0 x7 x9).map e) (fun x0z x0 x7 x14z x14 x15z x15 x16 => (j3 x0z x0 x7 x14z x14 x15z x15 x16).map e) (fun x0z x0 x15z x15 x21 x235 x236 => (j4 x0z x0 x15z x15 x21 x235 x236).map e) k x0z x0 x1z x1 x31z x31 x32 x33 = (spec_ShaBlock.l0b ret j0 j1 j2 j3 j4 k x0z x0 x1z x1 x31z x31 x32 x33).map e := by
  unfold spec_ShaBlock.l0b
  repeat' first | with_reducible refine nat_cond ?_ ?_ | with_reducible refine nat_bind fun _ => ?_ | rfl
theorem spec_ShaBlock.l1b_nat {R R' : Type} (e : R → R') (ret : Bool × List Int → Option R) (j0 : Bool → (List Int) → Bool → (List Int) → Bool → (List Int) → Int → Int → Option R) (j1 : Bool → (List Int) → Bool → (List Int) → (List Int) → Int → Option R) (j2 : Bool → (List Int) → (List Int) → Int → Option R) (j3 : Bool → (List Int) → (List Int) → Bool → (List Int) → Bool → (List Int) → Int → Option R) (j4 : Bool → (List Int) → Bool → (List Int) → (List Int) → Int → Int → Option R) (k : Nat) (x0z : Bool) (x0 : List Int) (x1z : Bool) (x1 : List Int) (x7 : List Int) (x8 : Int) : spec_ShaBlock.l1b (fun r => (ret r).map e) (fun x0z x0 x1z x1 x31z x31 x32 x33 => (j0 x0z x0 x1z x1 x31z x31 x32 x33).map e) (fun x0z x0 x1z x1 x7 x8 => (j1 x0z x0 x1z x1 x7 x8).map e) (fun x0z x0 x7 x9 => (j2 x0z x0 x7 x9).map e) (fun x0z x0 x7 x14z x14 x15z x15 x16 => (j3 x0z x0 x7 x14z x14 x15z x15 x16).map e) (fun x0z x0 x15z x15 x21 x235 x236 => (j4 x0z x0 x15z x15 x21 x235 x236).map e) k x0z x0 x1z x1 x7 x8 = (spec_ShaBlock.l1b ret j0 j1 j2 j3 j4 k x0z x0 x1z x1 x7 x8).map e := by
  unfold spec_ShaBlock.l1b
  repeat' first | with_reducible refine nat_cond ?_ ?_ | with_reducible refine nat_bind fun _ => ?_ | rfl
theorem spec_ShaBlock.l2b_nat {R R' : Type} (e : R → R') (ret : Bool × List Int → Option R) (j0 : Bool → (List Int) → Bool → (List Int) → Bool → (List Int) → Int → Int → Option R) (j1 : Bool → (List Int) → Bool → (List Int) → (List Int) → Int → Option R) (j2 : Bool → (List Int) → (List Int) → Int → Option R) (j3 : Bool → (List Int) → (List Int) → Bool → (List Int) → Bool → (List Int) → Int → Option R) (j4 : Bool → (List Int) → Bool → (List Int) → (List Int) → Int → Int → Option R) (k : Nat) (x0z : Bool) (x0 : List Int) (x7 : List Int) (x9 : Int) : spec_ShaBlock.l2b (fun r => (ret r).map e) (fun x0z x0 x1z x1 x31z x31 x32 x33 => (j0 x0z x0 x1z x1 x31z x31 x32 x33).map e) (fun x0z x0 x1z x1 x7 x8 => (j1 x0z x0 x1z x1 x7 x8).map e) (fun x0z x0 x7 x9 => (j2 x0z x0 x7 x9).map e) (fun x0z x0 x7 x14z x14 x15z x15 x16 => (j3 x0z x0 x7 x14z x14 x15z x15 x16).map e) (fun x0z x0 x15z x15 x21 x235 x236 => (j4 x0z x0 x15z x15 x21 x235 x236).map e) k x0z x0 x7 x9 = (spec_ShaBlock.l2b ret j0 j1 j2 j3 j4 k x0z x0 x7 x9).map e := by
  unfold spec_ShaBlock.l2b
  repeat' first | with_reducible refine nat_cond ?_ ?_ | with_reducible refine nat_bind fun _ => ?_ | rfl
theorem spec_ShaBlock.l3b_nat {R R' : Type} (e : R → R') (ret : Bool × List Int → Option R) (j0 : Bool → (List Int) → Bool → (List Int) → Bool → (List Int) → Int → Int → Option R) (j1 : Bool → (List Int) → Bool → (List Int) → (List Int) → Int → Option R) (j2 : Bool → (List Int) → (List Int) → Int → Option R) (j3 : Bool → (List Int) → (List Int) → Bool → (List Int) → Bool → (List Int) → Int → Option R) (j4 : Bool → (List Int) → Bool → (List Int) → (List Int) → Int → Int → Option R) (k : Nat) (x0z : Bool) (x0 : List Int) (x7 : List Int) (x14z : Bool) (x14 : List Int) (x15z : Bool) (x15 : List Int) (x16 : Int) : spec_ShaBlock.l3b (fun r => (ret r).map e) (fun x0z x0 x1z x1 x31z x31 x32 x33 => (j0 x0z x0 x1z x1 x31z x31 x32 x33).map e) (fun x0z x0 x1z x1 x7 x8 => (j1 x0z x0 x1z x1 x7 x8).map e) (fun x0z x0 x7 x9 => (j2 x0z x0 x7 x9).map e) (fun x0z x0 x7 x14z x14 x15z x15 x16 => (j3 x0z x0 x7 x14z x14 x15z x15 x16).map e) (fun x0z x0 x15z x15 x21 x235 x236 => (j4 x0z x0 x15z x15 x21 x235 x236).map e) k x0z x0 x7 x14z x14 x15z x15 x16 = (spec_ShaBlock.l3b ret j0 j1 j2 j3 j4 k x0z x0 x7 x14z x14 x15z x15 x16).map e := by
  unfold spec_ShaBlock.l3b
  repeat' first | with_reducible refine nat_cond ?_ ?_ | with_reducible refine nat_bind fun _ => ?_ | rfl
theorem spec_ShaBlock.l4b_nat {R R' : Type} (e : R → R') (ret : Bool × List Int → Option R) (j0 : Bool → (List Int) → Bool → (List Int) → Bool → (List Int) → Int → Int → Option R) (j1 : Bool → (List Int) → Bool → (List Int) → (List Int) → Int → Option R) (j2 : Bool → (List Int) → (List Int) → Int → Option R) (j3 : Bool → (List Int) → (List Int) → Bool → (List Int) → Bool → (List Int) → Int → Option R) (j4 : Bool → (List Int) → Bool → (List Int) → (List Int) → Int → Int → Option R) (k : Nat) (x0z : Bool) (x0 : List Int) (x15z : Bool) (x15 : List Int) (x21 : List Int) (x235 : Int) (x236 : Int) : spec_ShaBlock.l4b (fun r => (ret r).map e) (fun x0z x0 x1z x1 x31z x31 x32 x33 => (j0 x0z x0 x1z x1 x31z x31 x32 x33).map e) (fun x0z x0 x1z x1 x7 x8 => (j1 x0z x0 x1z x1 x7 x8).map e) (fun x0z x0 x7 x9 => (j2 x0z x0 x7 x9).map e) (fun x0z x0 x7 x14z x14 x15z x15 x16 => (j3 x0z x0 x7 x14z x14 x15z x15 x16).map e) (fun x0z x0 x15z x15 x21 x235 x236 => (j4 x0z x0 x15z x15 x21 x235 x236).map e) k x0z x0 x15z x15 x21 x235 x236 = (spec_ShaBlock.l4b ret j0 j1 j2 j3 j4 k x0z x0 x15z x15 x21 x235 x236).map e := by
  unfold spec_ShaBlock.l4b
  repeat' first | with_reducible refine nat_cond ?_ ?_ | with_reducible refine nat_bind fun _ => ?_ | rfl
theorem spec_ShaBlock.rounds_eq (a0z : Bool) (a0 : List Int) (a1z : Bool) (a1 : List Int) : ∀ k, (∀ (x0z : Bool) (x0 : List Int) (x1z : Bool) (x1 : List Int) (x31z : Bool) (x31 : List Int) (x32 : Int) (x33 : Int), rounds Try.prog spec_ShaBlock.Cs (finish Try.prog [] Try.f196 [.v (.nums 3 .i64 a0z a0), .v (.nums 5 .u8 a1z a1)]) 100000 k spec_ShaBlock.K0 (spec_ShaBlock.N0 x0z x0 x1z x1 x31z x31 x32 x33) = (spec_ShaBlock.l0 k x0z x0 x1z x1 x31z x31 x32 x33).map spec_ShaBlock.enc) ∧ (∀ (x0z : Bool) (x0 : List Int) (x1z : Bool) (x1 : List Int) (x7 : List Int) (x8 : Int), rounds Try.prog spec_ShaBlock.Cs (finish Try.prog [] Try.f196 [.v (.nums 3 .i64 a0z a0), .v (.nums 5 .u8 a1z a1)]) 100000 k spec_ShaBlock.K1 (spec_ShaBlock.N1 x0z x0 x1z x1 x7 x8) = (spec_ShaBlock.l1 k x0z x0 x1z x1 x7 x8).map spec_ShaBlock.enc) ∧ (∀ (x0z : Bool) (x0 : List Int) (x7 : List Int) (x9 : Int), rounds Try.prog spec_ShaBlock.Cs (finish Try.prog [] Try.f196 [.v (.nums 3 .i64 a0z a0), .v (.nums 5 .u8 a1z a1)]) 100000 k spec_ShaBlock.K2 (spec_ShaBlock.N2 x0z x0 x7 x9) = (spec_ShaBlock.l2 k x0z x0 x7 x9).map spec_ShaBlock.enc) ∧ (∀ (x0z : Bool) (x0 : List Int) (x7 : List Int) (x14z : Bool) (x14 : List Int) (x15z : Bool) (x15 : List Int) (x16 : Int), rounds Try.prog spec_ShaBlock.Cs (finish Try.prog [] Try.f196 [.v (.nums 3 .i64 a0z a0), .v (.nums 5 .u8 a1z a1)]) 100000 k spec_ShaBlock.K3 (spec_ShaBlock.N3 x0z x0 x7 x14z x14 x15z x15 x16) = (spec_ShaBlock.l3 k x0z x0 x7 x14z x14 x15z x15 x16).map spec_ShaBlock.enc) ∧ (∀ (x0z : Bool) (x0 : List Int) (x15z : Bool) (x15 : List Int) (x21 : List Int) (x235 : Int) (x236 : Int), rounds Try.prog spec_ShaBlock.Cs (finish Try.prog [] Try.f196 [.v (.nums 3 .i64 a0z a0), .v (.nums 5 .u8 a1z a1)]) 100000 k spec_ShaBlock.K4 (spec_ShaBlock.N4 x0z x0 x15z x15 x21 x235 x236) = (spec_ShaBlock.l4 k x0z x0 x15z x15 x21 x235 x236).map spec_ShaBlock.enc)
  | 0 => ⟨fun _ _ _ _ _ _ _ _ => rfl, fun _ _ _ _ _ _ => rfl, fun _ _ _ _ => rfl, fun _ _ _ _ _ _ _ _ => rfl, fun _ _ _ _ _ _ _ => rfl⟩
  | k + 1 => by
    have ih := spec_ShaBlock.rounds_eq a0z a0 a1z a1 k
    refine ⟨fun _ _ _ _ _ _ _ _ => ?_, fun _ _ _ _ _ _ => ?_, fun _ _ _ _ => ?_, fun _ _ _ _ _ _ _ _ => ?_, fun _ _ _ _ _ _ _ => ?_⟩
    · refine (spec_ShaBlock.s0 k _ a0z a0 a1z a1 _ _ _ _ _ _ _ _).trans (Eq.trans ?_ (spec_ShaBlock.l0b_nat spec_ShaBlock.enc some (spec_ShaBlock.l0 k) (spec_ShaBlock.l1 k) (spec_ShaBlock.l2 k) (spec_ShaBlock.l3 k) (spec_ShaBlock.l4 k) k _ _ _ _ _ _ _ _))
      simp only [ih.1, ih.2.1, ih.2.2.1, ih.2.2.2.1, ih.2.2.2.2, Option.map_some]
    · refine (spec_ShaBlock.s1 k _ a0z a0 a1z a1 _ _ _ _ _ _).trans (Eq.trans ?_ (spec_ShaBlock.l1b_nat spec_ShaBlock.enc some (spec_ShaBlock.l0 k) (spec_ShaBlock.l1 k) (spec_ShaBlock.l2 k) (spec_ShaBlock.l3 k) (spec_ShaBlock.l4 k) k _ _ _ _ _ _))
      simp only [ih.1, ih.2.1, ih.2.2.1, ih.2.2.2.1, ih.2.2.2.2, Option.map_some]
    · refine (spec_ShaBlock.s2 k _ a0z a0 a1z a1 _ _ _ _).trans (Eq.trans ?_ (spec_ShaBlock.l2b_nat spec_ShaBlock.enc some (spec_ShaBlock.l0 k) (spec_ShaBlock.l1 k) (spec_ShaBlock.l2 k) (spec_ShaBlock.l3 k) (spec_ShaBlock.l4 k) k _ _ _ _))
      simp only [ih.1, ih.2.1, ih.2.2.1, ih.2.2.2.1, ih.2.2.2.2, Option.map_some]
    · refine (spec_ShaBlock.s3 k _ a0z a0 a1z a1 _ _ _ _ _ _ _ _).trans (Eq.trans ?_ (spec_ShaBlock.l3b_nat spec_ShaBlock.enc some (spec_ShaBlock.l0 k) (spec_ShaBlock.l1 k) (spec_ShaBlock.l2 k) (spec_ShaBlock.l3 k) (spec_ShaBlock.l4 k) k _ _ _ _ _ _ _ _))
      simp only [ih.1, ih.2.1, ih.2.2.1, ih.2.2.2.1, ih.2.2.2.2, Option.map_some]
    · refine (spec_ShaBlock.s4 k _ a0z a0 a1z a1 _ _ _ _ _ _ _).trans (Eq.trans ?_ (spec_ShaBlock.l4b_nat spec_ShaBlock.enc some (spec_ShaBlock.l0 k) (spec_ShaBlock.l1 k) (spec_ShaBlock.l2 k) (spec_ShaBlock.l3 k) (spec_ShaBlock.l4 k) k _ _ _ _ _ _ _))
      simp only [ih.1, ih.2.1, ih.2.2.1, ih.2.2.2.1, ih.2.2.2.2, Option.map_some]
theorem spec_ShaBlock.eq (k : Nat) (a0z : Bool) (a0 : List Int) (a1z : Bool) (a1 : List Int) : answer Try.prog spec_ShaBlock.Cs 100000 spec_ShaBlock.cuts [] Try.f196 (k + 1) [.v (.nums 3 .i64 a0z a0), .v (.nums 5 .u8 a1z a1)] = (spec_ShaBlock.f (k + 1) a0z a0 a1z a1).map spec_ShaBlock.enc := by
  have ih := spec_ShaBlock.rounds_eq a0z a0 a1z a1 k
  refine (spec_ShaBlock.s k a0z a0 a1z a1).trans (Eq.trans ?_ (spec_ShaBlock.b_nat spec_ShaBlock.enc some (spec_ShaBlock.l0 k) (spec_ShaBlock.l1 k) (spec_ShaBlock.l2 k) (spec_ShaBlock.l3 k) (spec_ShaBlock.l4 k) k a0z a0 a1z a1))
  simp only [ih.1, ih.2.1, ih.2.2.1, ih.2.2.2.1, ih.2.2.2.2, Option.map_some]
theorem spec_ShaBlock.sound (k : Nat) : SoundF Try.prog 196 (fun a => (spec_ShaBlock.ans k a).val) := by
  refine sound_plain (fun args res h => ?_) (fun t n => rfl)
  unfold spec_ShaBlock.ans at h
  dsimp only at h
  split at h
  · cases k with
    | zero => cases h
    | succ k =>
      unfold Ans.val at h
      rw [← spec_ShaBlock.eq] at h
      exact answer_sound mixed Try.func196 _ _ _ (k + 1) (fun j _ => tab_sound (tab_cons (spec_l04Word.sound j) (tab_cons (spec_l04Turn.sound j) (tab_cons (spec_l04K.sound j) (tab_nil))))) _ _ h
  · exact (Ans.no_val h).elim

/-! loop.example/g00790/spec.Sha -/
def spec_Sha.b {R : Type} (ret : Bool × List Int → Option R) (j0 : Bool → (List Int) → Bool → (List Int) → Int → Option R) (j1 : (List Int) → Bool → (List Int) → Int → Int → Option R) (k : Nat) (a0z : Bool) (a0 : List Int) : Option R :=
  (spec_ShaInit.f k).bind fun t0 => (spec_ShaPad.f k a0z a0).bind fun t1 => j0 t0.1 t0.2 t1.1 t1.2 0
def spec_Sha.l0b {R : Type} (ret : Bool × List Int → Option R) (j0 : Bool → (List Int) → Bool → (List Int) → Int → Option R) (j1 : (List Int) → Bool → (List Int) → Int → Int → Option R) (k : Nat) (x3z : Bool) (x3 : List Int) (x4z : Bool) (x4 : List Int) (x5 : Int) : Option R :=
  cond (decide (x5 < ((x4).length : Int))) (cond (decide ((0 : Int) ≤ (RowKit.wrap64 (x5 + 64)))) (cond (decide ((RowKit.wrap64 (x5 + 64)) ≤ ((x4).length : Int))) (cond (decide ((0 : Int) ≤ x5)) (cond (decide (x5 ≤ (RowKit.wrap64 (x5 + 64)))) ((spec_ShaBlock.f k x3z x3 x4z (((x4).take ((RowKit.wrap64 (x5 + 64))).toNat).drop (x5).toNat)).bind fun t0 => j0 t0.1 t0.2 x4z x4 (RowKit.wrap64 (x5 + 64))) (none)) (none)) (none)) (none)) (j1 ([] : List Int) x3z x3 ((x3).length : Int) 0)
def spec_Sha.l1b {R : Type} (ret : Bool × List Int → Option R) (j0 : Bool → (List Int) → Bool → (List Int) → Int → Option R) (j1 : (List Int) → Bool → (List Int) → Int → Int → Option R) (k : Nat) (x6 : List Int) (x26z : Bool) (x26 : List Int) (x27 : Int) (x28 : Int) : Option R :=
  cond (decide (x28 < x27)) (cond (decide ((0 : Int) ≤ x28)) (cond (decide (x28 < ((x26).length : Int))) (cond (decide ((x6).length + 4 < 140737488355328)) (j1 (x6 ++ ([(((shrI .i64 (rdI x26 x28) 24)) % 256), (((shrI .i64 (rdI x26 x28) 16)) % 256), (((shrI .i64 (rdI x26 x28) 8)) % 256), (((rdI x26 x28)) % 256)] : List Int)) x26z x26 x27 (RowKit.wrap64 (x28 + 1))) (none)) (none)) (none)) (ret (false, x6))
mutual
def spec_Sha.l0 : Nat → Bool → (List Int) → Bool → (List Int) → Int → Option (Bool × List Int)
  | 0, _, _, _, _, _ => none
  | k + 1, x3z, x3, x4z, x4, x5 => spec_Sha.l0b some (spec_Sha.l0 k) (spec_Sha.l1 k) k x3z x3 x4z x4 x5
def spec_Sha.l1 : Nat → (List Int) → Bool → (List Int) → Int → Int → Option (Bool × List Int)
  | 0, _, _, _, _, _ => none
  | k + 1, x6, x26z, x26, x27, x28 => spec_Sha.l1b some (spec_Sha.l0 k) (spec_Sha.l1 k) k x6 x26z x26 x27 x28
end
def spec_Sha.f : Nat → Bool → (List Int) → Option (Bool × List Int)
  | 0, _, _ => none
  | k + 1, a0z, a0 => spec_Sha.b some (spec_Sha.l0 k) (spec_Sha.l1 k) k a0z a0
def spec_Sha.enc (r : Bool × List Int) : Res := ⟨[.vals false [((.nums 5 .u8 r.1 r.2), true)]], []⟩
def spec_Sha.ans (k : Nat) : List Arg → Ans
  | [.v (.nums 5 .u8 a0z a0)] => ⟨spec_Sha.f k a0z a0, spec_Sha.enc⟩
  | _ => Ans.no
def spec_Sha.Cs (k : Nat) : CallSem := tab [(194, spec_ShaInit.ans k), (195, spec_ShaPad.ans k), (196, spec_ShaBlock.ans k)]
def spec_Sha.cuts : List (Nat × Keep) := [(122, ⟨[(3, none), (4, none), (5, some [])], []⟩), (506, ⟨[(6, none), (26, none), (27, some []), (28, some [])], []⟩)]
noncomputable def spec_Sha.K0 : List Fr := framesAt [true, true, true, false, true, false] (bodyOf Try.f157 spec_Sha.cuts) []
def spec_Sha.N0 (x3z : Bool) (x3 : List Int) (x4z : Bool) (x4 : List Int) (x5 : Int) : St := stOf 48 48 1 [(3, .val ⟨(.nums 3 .i64 x3z x3), [.l 3 0], true, some (.l 3 0)⟩), (4, .val ⟨(.nums 5 .u8 x4z x4), [.l 4 0], true, some (.l 4 0)⟩), (5, .val (V.s (.int .i64 x5)))] []
noncomputable def spec_Sha.K1 : List Fr := framesAt [true, true, true, true, true, false, true, false] (bodyOf Try.f157 spec_Sha.cuts) []
def spec_Sha.N1 (x6 : List Int) (x26z : Bool) (x26 : List Int) (x27 : Int) (x28 : Int) : St := stOf 48 48 1 [(6, .val ⟨(.nums 5 .u8 false x6), [.l 6 0], true, some (.l 6 0)⟩), (26, .val ⟨(.nums 3 .i64 x26z x26), [.l 26 0], true, some (.l 26 0)⟩), (27, .val (V.s (.int .i64 x27))), (28, .val (V.s (.int .i64 x28)))] []
theorem spec_Sha.s (k : Nat) (a0z : Bool) (a0 : List Int) : answer Try.prog spec_Sha.Cs 100000 spec_Sha.cuts [] Try.f157 (k + 1) [.v (.nums 5 .u8 a0z a0)] = spec_Sha.b (fun r => some (spec_Sha.enc r)) (fun x3z x3 x4z x4 x5 => rounds Try.prog spec_Sha.Cs (finish Try.prog [] Try.f157 [.v (.nums 5 .u8 a0z a0)]) 100000 k spec_Sha.K0 (spec_Sha.N0 x3z x3 x4z x4 x5)) (fun x6 x26z x26 x27 x28 => rounds Try.prog spec_Sha.Cs (finish Try.prog [] Try.f157 [.v (.nums 5 .u8 a0z a0)]) 100000 k spec_Sha.K1 (spec_Sha.N1 x6 x26z x26 x27 x28)) k a0z a0 := by kernel_rfl
theorem spec_Sha.s0 (k : Nat) (G : List Fr → St → Option Res) (a0z : Bool) (a0 : List Int) (yx3z : Bool) (yx3 : List Int) (yx4z : Bool) (yx4 : List Int) (yx5 : Int) : resume Try.prog (spec_Sha.Cs k) G (finish Try.prog [] Try.f157 [.v (.nums 5 .u8 a0z a0)]) 100000 spec_Sha.K0 (spec_Sha.N0 yx3z yx3 yx4z yx4 yx5) = spec_Sha.l0b (fun r => some (spec_Sha.enc r)) (fun x3z x3 x4z x4 x5 => G spec_Sha.K0 (spec_Sha.N0 x3z x3 x4z x4 x5)) (fun x6 x26z x26 x27 x28 => G spec_Sha.K1 (spec_Sha.N1 x6 x26z x26 x27 x28)) k yx3z yx3 yx4z yx4 yx5 := by kernel_rfl
theorem spec_Sha.s1 (k : Nat) (G : List Fr → St → Option Res) (a0z : Bool) (a0 : List Int) (yx6 : List Int) (yx26z : Bool) (yx26 : List Int) (yx27 : Int) (yx28 : Int) : resume Try.prog (spec_Sha.Cs k) G (finish Try.prog [] Try.f157 [.v (.nums 5 .u8 a0z a0)]) 100000 spec_Sha.K1 (spec_Sha.N1 yx6 yx26z yx26 yx27 yx28) = spec_Sha.l1b (fun r => some (spec_Sha.enc r)) (fun x3z x3 x4z x4 x5 => G spec_Sha.K0 (spec_Sha.N0 x3z x3 x4z x4 x5)) (fun x6 x26z x26 x27 x28 => G spec_Sha.K1 (spec_Sha.N1 x6 x26z x26 x27 x28)) k yx6 yx26z yx26 yx27 yx28 := by kernel_rfl
theorem spec_Sha.b_nat {R R' : Type} (e : R → R') (ret : Bool × List Int → Option R) (j0 : Bool → (List Int) → Bool → (List Int) → Int → Option R) (j1 : (List Int) → Bool → (List Int) → Int → Int → Option R) (k : Nat) (a0z : Bool) (a0 : List Int) : spec_Sha.b (fun r => (ret r).map e) (fun x3z x3 x4z x4 x5 => (j0 x3z x3 x4z x4 x5).map e) (fun x6 x26z x26 x27 x28 => (j1 x6 x26z x26 x27 x28).map e) k a0z a0 = (spec_Sha.b ret j0 j1 k a0z a0).map e := by
  unfold spec_Sha.b
  repeat' first | with_reducible refine nat_cond ?_ ?_ | with_reducible refine nat_bind fun _ => ?_ | rfl
theorem spec_Sha.l0b_nat {R R' : Type} (e : R → R') (ret : Bool × List Int → Option R) (j0 : Bool → (List Int) → Bool → (List Int) → Int → Option R) (j1 : (List Int) → Bool → (List Int) → Int → Int → Option R) (k : Nat) (x3z : Bool) (x3 : List Int) (x4z : Bool) (x4 : List Int) (x5 : Int) : spec_Sha.l0b (fun r => (ret r).map e) (fun x3z x3 x4z x4 x5 => (j0 x3z x3 x4z x4 x5).map e) (fun x6 x26z x26 x27 x28 => (j1 x6 x26z x26 x27 x28).map e) k x3z x3 x4z x4 x5 = (spec_Sha.l0b ret j0 j1 k x3z x3 x4z x4 x5).map e := by
  unfold spec_Sha.l0b
  repeat' first | with_reducible refine nat_cond ?_ ?_ | with_reducible refine nat_bind fun _ => ?_ | rfl
theorem spec_Sha.l1b_nat {R R' : Type} (e : R → R') (ret : Bool × List Int → Option R) (j0 : Bool → (List Int) → Bool → (List Int) → Int → Option R) (j1 : (List Int) → Bool → (List Int) → Int → Int → Option R) (k : Nat) (x6 : List Int) (x26z : Bool) (x26 : List Int) (x27 : Int) (x28 : Int) : spec_Sha.l1b (fun r => (ret r).map e) (fun x3z x3 x4z x4 x5 => (j0 x3z x3 x4z x4 x5).map e) (fun x6 x26z x26 x27 x28 => (j1 x6 x26z x26 x27 x28).map e) k x6 x26z x26 x27 x28 = (spec_Sha.l1b ret j0 j1 k x6 x26z x26 x27 x28).map e := by
  unfold spec_Sha.l1b
  repeat' first | with_reducible refine nat_cond ?_ ?_ | with_reducible refine nat_bind fun _ => ?_ | rfl
theorem spec_Sha.rounds_eq (a0z : Bool) (a0 : List Int) : ∀ k, (∀ (x3z : Bool) (x3 : List Int) (x4z : Bool) (x4 : List Int) (x5 : Int), rounds Try.prog spec_Sha.Cs (finish Try.prog [] Try.f157 [.v (.nums 5 .u8 a0z a0)]) 100000 k spec_Sha.K0 (spec_Sha.N0 x3z x3 x4z x4 x5) = (spec_Sha.l0 k x3z x3 x4z x4 x5).map spec_Sha.enc) ∧ (∀ (x6 : List Int) (x26z : Bool) (x26 : List Int) (x27 : Int) (x28 : Int), rounds Try.prog spec_Sha.Cs (finish Try.prog [] Try.f157 [.v (.nums 5 .u8 a0z a0)]) 100000 k spec_Sha.K1 (spec_Sha.N1 x6 x26z x26 x27 x28) = (spec_Sha.l1 k x6 x26z x26 x27 x28).map spec_Sha.enc)
  | 0 => ⟨fun _ _ _ _ _ => rfl, fun _ _ _ _ _ => rfl⟩
  | k + 1 => by
    have ih := spec_Sha.rounds_eq a0z a0 k
    refine ⟨fun _ _ _ _ _ => ?_, fun _ _ _ _ _ => ?_⟩
    · refine (spec_Sha.s0 k _ a0z a0 _ _ _ _ _).trans (Eq.trans ?_ (spec_Sha.l0b_nat spec_Sha.enc some (spec_Sha.l0 k) (spec_Sha.l1 k) k _ _ _ _ _))
      simp only [ih.1, ih.2, Option.map_some]
    · refine (spec_Sha.s1 k _ a0z a0 _ _ _ _ _).trans (Eq.trans ?_ (spec_Sha.l1b_nat spec_Sha.enc some (spec_Sha.l0 k) (spec_Sha.l1 k) k _ _ _ _ _))
      simp only [ih.1, ih.2, Option.map_some]
theorem spec_Sha.eq (k : Nat) (a0z : Bool) (a0 : List Int) : answer Try.prog spec_Sha.Cs 100000 spec_Sha.cuts [] Try.f157 (k + 1) [.v (.nums 5 .u8 a0z a0)] = (spec_Sha.f (k + 1) a0z a0).map spec_Sha.enc := by
  have ih := spec_Sha.rounds_eq a0z a0 k
  refine (spec_Sha.s k a0z a0).trans (Eq.trans ?_ (spec_Sha.b_nat spec_Sha.enc some (spec_Sha.l0 k) (spec_Sha.l1 k) k a0z a0))
  simp only [ih.1, ih.2, Option.map_some]
theorem spec_Sha.sound (k : Nat) : SoundF Try.prog 157 (fun a => (spec_Sha.ans k a).val) := by
  refine sound_plain (fun args res h => ?_) (fun t n => rfl)
  unfold spec_Sha.ans at h
  dsimp only at h
  split at h
  · cases k with
    | zero => cases h
    | succ k =>
      unfold Ans.val at h
      rw [← spec_Sha.eq] at h
      exact answer_sound mixed Try.func157 _ _ _ (k + 1) (fun j _ => tab_sound (tab_cons (spec_ShaInit.sound j) (tab_cons (spec_ShaPad.sound j) (tab_cons (spec_ShaBlock.sound j) (tab_nil))))) _ _ h
  · exact (Ans.no_val h).elim

/-! loop.example/g00790/spec.HeadHash -/
def spec_HeadHash.b {R : Type} (ret : Bool × List Int → Option R) (k : Nat) (a0_0 : Int) (a0_1 : Int) (a0_2 : Int) (a0_3 : Int) (a0_4 : Int) (a1_0 : Int) (a1_1 : Int) (a1_2 : Int) (a1_3z : Bool) (a1_3 : List Int) (a1_4z : Bool) (a1_4 : List Int) (a1_5 : Int) (a1_6 : Int) (a1_7z : Bool) (a1_7 : List Int) (a1_8z : Bool) (a1_8 : List Int) (a1_9z : Bool) (a1_9 : List T) : Option R :=
  (spec_PutHead.f k a0_0 a0_1 a0_2 a0_3 a0_4 false ([72] : List Int) a1_0 a1_1 a1_2 a1_3z a1_3 a1_4z a1_4 a1_5 a1_6 a1_7z a1_7 a1_8z a1_8 a1_9z a1_9).bind fun t0 => cond (!t0.2.2) (ret (true, ([] : List Int))) ((spec_Sha.f k t0.1 t0.2.1).bind fun t1 => ret (t1.1, t1.2))
def spec_HeadHash.f : Nat → Int → Int → Int → Int → Int → Int → Int → Int → Bool → (List Int) → Bool → (List Int) → Int → Int → Bool → (List Int) → Bool → (List Int) → Bool → (List T) → Option (Bool × List Int)
  | 0, _, _, _, _, _, _, _, _, _, _, _, _, _, _, _, _, _, _, _, _ => none
  | k + 1, a0_0, a0_1, a0_2, a0_3, a0_4, a1_0, a1_1, a1_2, a1_3z, a1_3, a1_4z, a1_4, a1_5, a1_6, a1_7z, a1_7, a1_8z, a1_8, a1_9z, a1_9 => spec_HeadHash.b some k a0_0 a0_1 a0_2 a0_3 a0_4 a1_0 a1_1 a1_2 a1_3z a1_3 a1_4z a1_4 a1_5 a1_6 a1_7z a1_7 a1_8z a1_8 a1_9z a1_9
def spec_HeadHash.enc (r : Bool × List Int) : Res := ⟨[.vals false [((.nums 5 .u8 r.1 r.2), true)]], []⟩
def spec_HeadHash.ans (k : Nat) : List Arg → Ans
  | [.v (.agg [(.int .i64 a0_0), (.int .i64 a0_1), (.int .i64 a0_2), (.int .i64 a0_3), (.int .i64 a0_4)]), .v (.agg [(.int .i64 a1_0), (.int .i64 a1_1), (.int .i64 a1_2), (.nums 5 .u8 a1_3z a1_3), (.nums 5 .u8 a1_4z a1_4), (.int .i64 a1_5), (.int .i64 a1_6), (.nums 5 .u8 a1_7z a1_7), (.nums 5 .u8 a1_8z a1_8), (.sl 45 a1_9z a1_9)])] => ⟨spec_HeadHash.f k a0_0 a0_1 a0_2 a0_3 a0_4 a1_0 a1_1 a1_2 a1_3z a1_3 a1_4z a1_4 a1_5 a1_6 a1_7z a1_7 a1_8z a1_8 a1_9z a1_9, spec_HeadHash.enc⟩
  | _ => Ans.no
def spec_HeadHash.Cs (k : Nat) : CallSem := tab [(156, spec_PutHead.ans k), (157, spec_Sha.ans k)]
def spec_HeadHash.cuts : List (Nat × Keep) := []
theorem spec_HeadHash.s (k : Nat) (a0_0 : Int) (a0_1 : Int) (a0_2 : Int) (a0_3 : Int) (a0_4 : Int) (a1_0 : Int) (a1_1 : Int) (a1_2 : Int) (a1_3z : Bool) (a1_3 : List Int) (a1_4z : Bool) (a1_4 : List Int) (a1_5 : Int) (a1_6 : Int) (a1_7z : Bool) (a1_7 : List Int) (a1_8z : Bool) (a1_8 : List Int) (a1_9z : Bool) (a1_9 : List T) : answer Try.prog spec_HeadHash.Cs 100000 spec_HeadHash.cuts [] Try.f83 (k + 1) [.v (.agg [(.int .i64 a0_0), (.int .i64 a0_1), (.int .i64 a0_2), (.int .i64 a0_3), (.int .i64 a0_4)]), .v (.agg [(.int .i64 a1_0), (.int .i64 a1_1), (.int .i64 a1_2), (.nums 5 .u8 a1_3z a1_3), (.nums 5 .u8 a1_4z a1_4), (.int .i64 a1_5), (.int .i64 a1_6), (.nums 5 .u8 a1_7z a1_7), (.nums 5 .u8 a1_8z a1_8), (.sl 45 a1_9z a1_9)])] = spec_HeadHash.b (fun r => some (spec_HeadHash.enc r)) k a0_0 a0_1 a0_2 a0_3 a0_4 a1_0 a1_1 a1_2 a1_3z a1_3 a1_4z a1_4 a1_5 a1_6 a1_7z a1_7 a1_8z a1_8 a1_9z a1_9 := by kernel_rfl
theorem spec_HeadHash.b_nat {R R' : Type} (e : R → R') (ret : Bool × List Int → Option R) (k : Nat) (a0_0 : Int) (a0_1 : Int) (a0_2 : Int) (a0_3 : Int) (a0_4 : Int) (a1_0 : Int) (a1_1 : Int) (a1_2 : Int) (a1_3z : Bool) (a1_3 : List Int) (a1_4z : Bool) (a1_4 : List Int) (a1_5 : Int) (a1_6 : Int) (a1_7z : Bool) (a1_7 : List Int) (a1_8z : Bool) (a1_8 : List Int) (a1_9z : Bool) (a1_9 : List T) : spec_HeadHash.b (fun r => (ret r).map e) k a0_0 a0_1 a0_2 a0_3 a0_4 a1_0 a1_1 a1_2 a1_3z a1_3 a1_4z a1_4 a1_5 a1_6 a1_7z a1_7 a1_8z a1_8 a1_9z a1_9 = (spec_HeadHash.b ret k a0_0 a0_1 a0_2 a0_3 a0_4 a1_0 a1_1 a1_2 a1_3z a1_3 a1_4z a1_4 a1_5 a1_6 a1_7z a1_7 a1_8z a1_8 a1_9z a1_9).map e := by
  unfold spec_HeadHash.b
  repeat' first | with_reducible refine nat_cond ?_ ?_ | with_reducible refine nat_bind fun _ => ?_ | rfl
theorem spec_HeadHash.eq (k : Nat) (a0_0 : Int) (a0_1 : Int) (a0_2 : Int) (a0_3 : Int) (a0_4 : Int) (a1_0 : Int) (a1_1 : Int) (a1_2 : Int) (a1_3z : Bool) (a1_3 : List Int) (a1_4z : Bool) (a1_4 : List Int) (a1_5 : Int) (a1_6 : Int) (a1_7z : Bool) (a1_7 : List Int) (a1_8z : Bool) (a1_8 : List Int) (a1_9z : Bool) (a1_9 : List T) : answer Try.prog spec_HeadHash.Cs 100000 spec_HeadHash.cuts [] Try.f83 (k + 1) [.v (.agg [(.int .i64 a0_0), (.int .i64 a0_1), (.int .i64 a0_2), (.int .i64 a0_3), (.int .i64 a0_4)]), .v (.agg [(.int .i64 a1_0), (.int .i64 a1_1), (.int .i64 a1_2), (.nums 5 .u8 a1_3z a1_3), (.nums 5 .u8 a1_4z a1_4), (.int .i64 a1_5), (.int .i64 a1_6), (.nums 5 .u8 a1_7z a1_7), (.nums 5 .u8 a1_8z a1_8), (.sl 45 a1_9z a1_9)])] = (spec_HeadHash.f (k + 1) a0_0 a0_1 a0_2 a0_3 a0_4 a1_0 a1_1 a1_2 a1_3z a1_3 a1_4z a1_4 a1_5 a1_6 a1_7z a1_7 a1_8z a1_8 a1_9z a1_9).map spec_HeadHash.enc := by
  refine (spec_HeadHash.s k a0_0 a0_1 a0_2 a0_3 a0_4 a1_0 a1_1 a1_2 a1_3z a1_3 a1_4z a1_4 a1_5 a1_6 a1_7z a1_7 a1_8z a1_8 a1_9z a1_9).trans (Eq.trans ?_ (spec_HeadHash.b_nat spec_HeadHash.enc some k a0_0 a0_1 a0_2 a0_3 a0_4 a1_0 a1_1 a1_2 a1_3z a1_3 a1_4z a1_4 a1_5 a1_6 a1_7z a1_7 a1_8z a1_8 a1_9z a1_9))
  simp only [Option.map_some]
theorem spec_HeadHash.sound (k : Nat) : SoundF Try.prog 83 (fun a => (spec_HeadHash.ans k a).val) := by
  refine sound_plain (fun args res h => ?_) (fun t n => rfl)
  unfold spec_HeadHash.ans at h
  dsimp only at h
  split at h
  · cases k with
    | zero => cases h
    | succ k =>
      unfold Ans.val at h
      rw [← spec_HeadHash.eq] at h
      exact answer_sound mixed Try.func83 _ _ _ (k + 1) (fun j _ => tab_sound (tab_cons (spec_PutHead.sound j) (tab_cons (spec_Sha.sound j) (tab_nil)))) _ _ h
  · exact (Ans.no_val h).elim

end Go.Proofs.YtadnejogdohfkaaG
