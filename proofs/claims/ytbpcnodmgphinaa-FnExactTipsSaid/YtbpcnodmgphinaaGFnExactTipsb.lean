/- What the functions compute, printed by a program of this repo; each is shown to be what the machine of values answers. No condition. -/
import Derived.Test.YtbpcnodmgphinaaProg
import Derived.KernelRfl
import Derived.Test.YtbpcnodmgphinaaGFnExactTipsa
namespace Go.Proofs.YtbpcnodmgphinaaG
open Go Go.Proofs.YtbpcnodmgphinaaRv Go.Proofs
set_option linter.unusedVariables false
set_option linter.unusedSimpArgs false
def spec_PutHead.b {R : Type} (ret : Bool × (List Int) × Bool → Option R) (k : Nat) (a0_0 a0_1 : Int) (a0_2 a0_3 a0_4 : Int) (a1z : Bool) (a1 : List Int) (a2_0 a2_1 a2_2 : Int) (a2_3z : Bool) (a2_3 : List Int) (a2_4z : Bool) (a2_4 : List Int) (a2_5 a2_6 : Int) (a2_7z : Bool) (a2_7 : List Int) (a2_8z : Bool) (a2_8 : List Int) (a2_9z : Bool) (a2_9 : List T) : Option R :=
  (spec_HeadOk.f k a0_0 a0_1 a0_2 a0_3 a0_4 a2_0 a2_1 a2_2 a2_3z a2_3 a2_4z a2_4 a2_5 a2_6 a2_7z a2_7 a2_8z a2_8 a2_9z a2_9).bind fun t0 => cond (!t0) (ret (true, ([] : List Int), false)) ((spec_l11Num.f k a1z a1 a2_0).bind fun t1 => (spec_l11Num.f k t1.1 t1.2 a2_1).bind fun t2 => (spec_l11Num.f k t2.1 t2.2 a2_2).bind fun t3 => cond (decide ((t3.2).length + (a2_3).length < 140737488355328)) (cond (decide (((t3.2 ++ a2_3)).length + (a2_4).length < 140737488355328)) ((spec_PutQc.f k a0_0 a0_1 a0_2 a0_3 a0_4 ((a2_4).isEmpty && ((a2_3).isEmpty && t3.1)) ((t3.2 ++ a2_3) ++ a2_4) a2_5 a2_6 a2_7z a2_7 a2_8z a2_8 a2_9z a2_9).bind fun t4 => ret (t4.1, t4.2.1, t4.2.2)) (none)) (none))
def spec_PutHead.f : Nat → Int → Int → Int → Int → Int → Bool → (List Int) → Int → Int → Int → Bool → (List Int) → Bool → (List Int) → Int → Int → Bool → (List Int) → Bool → (List Int) → Bool → (List T) → Option (Bool × (List Int) × Bool)
  | 0, _, _, _, _, _, _, _, _, _, _, _, _, _, _, _, _, _, _, _, _, _, _ => none
  | k + 1, a0_0, a0_1, a0_2, a0_3, a0_4, a1z, a1, a2_0, a2_1, a2_2, a2_3z, a2_3, a2_4z, a2_4, a2_5, a2_6, a2_7z, a2_7, a2_8z, a2_8, a2_9z, a2_9 => spec_PutHead.b some k a0_0 a0_1 a0_2 a0_3 a0_4 a1z a1 a2_0 a2_1 a2_2 a2_3z a2_3 a2_4z a2_4 a2_5 a2_6 a2_7z a2_7 a2_8z a2_8 a2_9z a2_9
def spec_PutHead.enc (r : Bool × (List Int) × Bool) : Res := ⟨[.vals false [((.nums 5 .u8 r.1 r.2.1), true)], .vals false [((.bool r.2.2), true)]], []⟩
def spec_PutHead.ans (k : Nat) : List Arg → Ans
  | [.v (.agg [(.int .i64 a0_0), (.int .i64 a0_1), (.int .i64 a0_2), (.int .i64 a0_3), (.int .i64 a0_4)]), .v (.nums 5 .u8 a1z a1), .v (.agg [(.int .i64 a2_0), (.int .i64 a2_1), (.int .i64 a2_2), (.nums 5 .u8 a2_3z a2_3), (.nums 5 .u8 a2_4z a2_4), (.int .i64 a2_5), (.int .i64 a2_6), (.nums 5 .u8 a2_7z a2_7), (.nums 5 .u8 a2_8z a2_8), (.sl 22 a2_9z a2_9)])] => ⟨spec_PutHead.f k a0_0 a0_1 a0_2 a0_3 a0_4 a1z a1 a2_0 a2_1 a2_2 a2_3z a2_3 a2_4z a2_4 a2_5 a2_6 a2_7z a2_7 a2_8z a2_8 a2_9z a2_9, spec_PutHead.enc⟩
  | _ => Ans.no
def spec_PutHead.Cs (k : Nat) : CallSem := tab [(157, spec_HeadOk.ans k), (217, spec_l11Num.ans k), (218, spec_PutQc.ans k)]
theorem spec_PutHead.eq (k : Nat) (a0_0 a0_1 : Int) (a0_2 a0_3 a0_4 : Int) (a1z : Bool) (a1 : List Int) (a2_0 a2_1 a2_2 : Int) (a2_3z : Bool) (a2_3 : List Int) (a2_4z : Bool) (a2_4 : List Int) (a2_5 a2_6 : Int) (a2_7z : Bool) (a2_7 : List Int) (a2_8z : Bool) (a2_8 : List Int) (a2_9z : Bool) (a2_9 : List T) : answer Try.prog spec_PutHead.Cs 100000 [] [] Try.f180 (k + 1) [.v (.agg [(.int .i64 a0_0), (.int .i64 a0_1), (.int .i64 a0_2), (.int .i64 a0_3), (.int .i64 a0_4)]), .v (.nums 5 .u8 a1z a1), .v (.agg [(.int .i64 a2_0), (.int .i64 a2_1), (.int .i64 a2_2), (.nums 5 .u8 a2_3z a2_3), (.nums 5 .u8 a2_4z a2_4), (.int .i64 a2_5), (.int .i64 a2_6), (.nums 5 .u8 a2_7z a2_7), (.nums 5 .u8 a2_8z a2_8), (.sl 22 a2_9z a2_9)])] = (spec_PutHead.f (k + 1) a0_0 a0_1 a0_2 a0_3 a0_4 a1z a1 a2_0 a2_1 a2_2 a2_3z a2_3 a2_4z a2_4 a2_5 a2_6 a2_7z a2_7 a2_8z a2_8 a2_9z a2_9).map spec_PutHead.enc := by
  refine Eq.trans (b := spec_PutHead.b (fun r => some (spec_PutHead.enc r)) k a0_0 a0_1 a0_2 a0_3 a0_4 a1z a1 a2_0 a2_1 a2_2 a2_3z a2_3 a2_4z a2_4 a2_5 a2_6 a2_7z a2_7 a2_8z a2_8 a2_9z a2_9) (by kernel_rfl) ?_
  show _ = (spec_PutHead.b some k a0_0 a0_1 a0_2 a0_3 a0_4 a1z a1 a2_0 a2_1 a2_2 a2_3z a2_3 a2_4z a2_4 a2_5 a2_6 a2_7z a2_7 a2_8z a2_8 a2_9z a2_9).map spec_PutHead.enc
  unfold spec_PutHead.b
  repeat' first | with_reducible refine nat_cond ?_ ?_ | with_reducible refine nat_bind fun _ => ?_ | rfl
theorem spec_PutHead.sound (k : Nat) : SoundF Try.prog 180 (fun a => (spec_PutHead.ans k a).val) := by
  refine sound_plain (fun args res h => ?_) (fun t n => rfl)
  unfold spec_PutHead.ans at h
  dsimp only at h
  split at h
  · cases k with
    | zero => cases h
    | succ k =>
      unfold Ans.val at h
      rw [← spec_PutHead.eq] at h
      exact answer_sound mixed Try.func180 _ _ _ (k + 1) (fun j _ => tab_sound (tab_cons (spec_HeadOk.sound j) (tab_cons (spec_l11Num.sound j) (tab_cons (spec_PutQc.sound j) (tab_nil))))) _ _ h
  · exact (Ans.no_val h).elim

def spec_ShaInit.b {R : Type} (ret : Bool × List Int → Option R) (k : Nat) : Option R :=
  ret (false, ([1779033703, 3144134277, 1013904242, 2773480762, 1359893119, 2600822924, 528734635, 1541459225] : List Int))
def spec_ShaInit.f : Nat → Option (Bool × List Int)
  | 0 => none
  | k + 1 => spec_ShaInit.b some k
def spec_ShaInit.enc (r : Bool × List Int) : Res := ⟨[.vals false [((.nums 3 .i64 r.1 r.2), true)]], []⟩
def spec_ShaInit.ans (k : Nat) : List Arg → Ans
  | [] => ⟨spec_ShaInit.f k, spec_ShaInit.enc⟩
  | _ => Ans.no
def spec_ShaInit.Cs (k : Nat) : CallSem := tab []
theorem spec_ShaInit.eq (k : Nat) : answer Try.prog spec_ShaInit.Cs 100000 [] [] Try.f219 (k + 1) [] = (spec_ShaInit.f (k + 1)).map spec_ShaInit.enc := by
  refine Eq.trans (b := spec_ShaInit.b (fun r => some (spec_ShaInit.enc r)) k) (by kernel_rfl) ?_
  show _ = (spec_ShaInit.b some k).map spec_ShaInit.enc
  unfold spec_ShaInit.b
  repeat' first | with_reducible refine nat_cond ?_ ?_ | with_reducible refine nat_bind fun _ => ?_ | rfl
theorem spec_ShaInit.sound (k : Nat) : SoundF Try.prog 219 (fun a => (spec_ShaInit.ans k a).val) := by
  refine sound_plain (fun args res h => ?_) (fun t n => rfl)
  unfold spec_ShaInit.ans at h
  dsimp only at h
  split at h
  · cases k with
    | zero => cases h
    | succ k =>
      unfold Ans.val at h
      rw [← spec_ShaInit.eq] at h
      exact answer_sound mixed Try.func219 _ _ _ (k + 1) (fun j _ => tab_sound (tab_nil)) _ _ h
  · exact (Ans.no_val h).elim

def spec_ShaPad.b {R : Type} (ret : Bool × List Int → Option R) (j0 : Bool → (List Int) → (List Int) → Option R) (j1 : (List Int) → Int → Int → Option R) (k : Nat) (a0z : Bool) (a0 : List Int) : Option R :=
  (spec_l01Copy.f k a0z a0).bind fun t0 => cond (decide ((t0.2).length + 1 < 140737488355328)) (j0 a0z a0 (t0.2 ++ ([128] : List Int))) (none)
def spec_ShaPad.l0b {R : Type} (ret : Bool × List Int → Option R) (j0 : Bool → (List Int) → (List Int) → Option R) (j1 : (List Int) → Int → Int → Option R) (k : Nat) (x0z : Bool) (x0 x3 : List Int) : Option R :=
  cond (!(decide ((Int.tmod ((x3).length : Int) 64) = 56))) (cond (decide ((x3).length + 1 < 140737488355328)) (j0 x0z x0 (x3 ++ ([0] : List Int))) (none)) (j1 x3 (RowKit.wrap64 ((8 : Int) * ((x0).length : Int))) 7)
def spec_ShaPad.l1b {R : Type} (ret : Bool × List Int → Option R) (j0 : Bool → (List Int) → (List Int) → Option R) (j1 : (List Int) → Int → Int → Option R) (k : Nat) (x3 : List Int) (x4 x5 : Int) : Option R :=
  cond (decide (x5 ≥ 0)) (cond (decide ((0 : Int) ≤ (RowKit.wrap64 ((8 : Int) * x5)))) (cond (decide ((x3).length + 1 < 140737488355328)) (j1 (x3 ++ ([(((shrI .i64 x4 (RowKit.wrap64 ((8 : Int) * x5)))) % 256)] : List Int)) x4 (RowKit.wrap64 (x5 - 1))) (none)) (none)) (ret (false, x3))
mutual
def spec_ShaPad.l0 : Nat → Bool → (List Int) → (List Int) → Option (Bool × List Int)
  | 0, _, _, _ => none
  | k + 1, x0z, x0, x3 => spec_ShaPad.l0b some (spec_ShaPad.l0 k) (spec_ShaPad.l1 k) k x0z x0 x3
def spec_ShaPad.l1 : Nat → (List Int) → Int → Int → Option (Bool × List Int)
  | 0, _, _, _ => none
  | k + 1, x3, x4, x5 => spec_ShaPad.l1b some (spec_ShaPad.l0 k) (spec_ShaPad.l1 k) k x3 x4 x5
end
def spec_ShaPad.f : Nat → Bool → (List Int) → Option (Bool × List Int)
  | 0, _, _ => none
  | k + 1, a0z, a0 => spec_ShaPad.b some (spec_ShaPad.l0 k) (spec_ShaPad.l1 k) k a0z a0
def spec_ShaPad.enc (r : Bool × List Int) : Res := ⟨[.vals false [((.nums 5 .u8 r.1 r.2), true)]], []⟩
def spec_ShaPad.ans (k : Nat) : List Arg → Ans
  | [.v (.nums 5 .u8 a0z a0)] => ⟨spec_ShaPad.f k a0z a0, spec_ShaPad.enc⟩
  | _ => Ans.no
def spec_ShaPad.Cs (k : Nat) : CallSem := tab [(155, spec_l01Copy.ans k)]
def spec_ShaPad.cuts : List (Nat × Keep) := [(28, ⟨[(0, some []), (3, none)], []⟩), (250, ⟨[(3, none), (4, some []), (5, some [])], []⟩)]
noncomputable def spec_ShaPad.K0 : List Fr := framesAt [true, true, false, false] (bodyOf Try.f220 spec_ShaPad.cuts) []
def spec_ShaPad.N0 (x0z : Bool) (x0 x3 : List Int) : St := stOf 33 33 1 [(0, .val ⟨(.nums 5 .u8 x0z x0), [], false, none⟩), (3, .val ⟨(.nums 5 .u8 false x3), [.l 3 0], true, some (.l 3 0)⟩)] []
noncomputable def spec_ShaPad.K1 : List Fr := framesAt [true, true, true, true, false, true, false] (bodyOf Try.f220 spec_ShaPad.cuts) []
def spec_ShaPad.N1 (x3 : List Int) (x4 x5 : Int) : St := stOf 33 33 1 [(3, .val ⟨(.nums 5 .u8 false x3), [.l 3 0], true, some (.l 3 0)⟩), (4, .val (V.s (.int .i64 x4))), (5, .val (V.s (.int .i64 x5)))] []
theorem spec_ShaPad.s0 (k : Nat) (G : List Fr → St → Option Res) (a0z : Bool) (a0 : List Int) (yx0z : Bool) (yx0 yx3 : List Int) : resume Try.prog (spec_ShaPad.Cs k) G (finish Try.prog [] Try.f220 [.v (.nums 5 .u8 a0z a0)]) 100000 spec_ShaPad.K0 (spec_ShaPad.N0 yx0z yx0 yx3) = spec_ShaPad.l0b (fun r => some (spec_ShaPad.enc r)) (fun x0z x0 x3 => G spec_ShaPad.K0 (spec_ShaPad.N0 x0z x0 x3)) (fun x3 x4 x5 => G spec_ShaPad.K1 (spec_ShaPad.N1 x3 x4 x5)) k yx0z yx0 yx3 := by kernel_rfl
theorem spec_ShaPad.s1 (k : Nat) (G : List Fr → St → Option Res) (a0z : Bool) (a0 yx3 : List Int) (yx4 yx5 : Int) : resume Try.prog (spec_ShaPad.Cs k) G (finish Try.prog [] Try.f220 [.v (.nums 5 .u8 a0z a0)]) 100000 spec_ShaPad.K1 (spec_ShaPad.N1 yx3 yx4 yx5) = spec_ShaPad.l1b (fun r => some (spec_ShaPad.enc r)) (fun x0z x0 x3 => G spec_ShaPad.K0 (spec_ShaPad.N0 x0z x0 x3)) (fun x3 x4 x5 => G spec_ShaPad.K1 (spec_ShaPad.N1 x3 x4 x5)) k yx3 yx4 yx5 := by kernel_rfl
theorem spec_ShaPad.bn {R R' : Type} (e : R → R') (ret : Bool × List Int → Option R) (j0 : Bool → (List Int) → (List Int) → Option R) (j1 : (List Int) → Int → Int → Option R) (k : Nat) (a0z : Bool) (a0 : List Int) : spec_ShaPad.b (fun r => (ret r).map e) (fun x0z x0 x3 => (j0 x0z x0 x3).map e) (fun x3 x4 x5 => (j1 x3 x4 x5).map e) k a0z a0 = (spec_ShaPad.b ret j0 j1 k a0z a0).map e := by
  unfold spec_ShaPad.b
  repeat' first | with_reducible refine nat_cond ?_ ?_ | with_reducible refine nat_bind fun _ => ?_ | rfl
theorem spec_ShaPad.l0n {R R' : Type} (e : R → R') (ret : Bool × List Int → Option R) (j0 : Bool → (List Int) → (List Int) → Option R) (j1 : (List Int) → Int → Int → Option R) (k : Nat) (x0z : Bool) (x0 x3 : List Int) : spec_ShaPad.l0b (fun r => (ret r).map e) (fun x0z x0 x3 => (j0 x0z x0 x3).map e) (fun x3 x4 x5 => (j1 x3 x4 x5).map e) k x0z x0 x3 = (spec_ShaPad.l0b ret j0 j1 k x0z x0 x3).map e := by
  unfold spec_ShaPad.l0b
  repeat' first | with_reducible refine nat_cond ?_ ?_ | with_reducible refine nat_bind fun _ => ?_ | rfl
theorem spec_ShaPad.l1n {R R' : Type} (e : R → R') (ret : Bool × List Int → Option R) (j0 : Bool → (List Int) → (List Int) → Option R) (j1 : (List Int) → Int → Int → Option R) (k : Nat) (x3 : List Int) (x4 x5 : Int) : spec_ShaPad.l1b (fun r => (ret r).map e) (fun x0z x0 x3 => (j0 x0z x0 x3).map e) (fun x3 x4 x5 => (j1 x3 x4 x5).map e) k x3 x4 x5 = (spec_ShaPad.l1b ret j0 j1 k x3 x4 x5).map e := by
  unfold spec_ShaPad.l1b
  repeat' first | with_reducible refine nat_cond ?_ ?_ | with_reducible refine nat_bind fun _ => ?_ | rfl
theorem spec_ShaPad.rq (a0z : Bool) (a0 : List Int) : ∀ k, (∀ (x0z : Bool) (x0 x3 : List Int), rounds Try.prog spec_ShaPad.Cs (finish Try.prog [] Try.f220 [.v (.nums 5 .u8 a0z a0)]) 100000 k spec_ShaPad.K0 (spec_ShaPad.N0 x0z x0 x3) = (spec_ShaPad.l0 k x0z x0 x3).map spec_ShaPad.enc) ∧ (∀ (x3 : List Int) (x4 x5 : Int), rounds Try.prog spec_ShaPad.Cs (finish Try.prog [] Try.f220 [.v (.nums 5 .u8 a0z a0)]) 100000 k spec_ShaPad.K1 (spec_ShaPad.N1 x3 x4 x5) = (spec_ShaPad.l1 k x3 x4 x5).map spec_ShaPad.enc)
  | 0 => ⟨fun _ _ _ => rfl, fun _ _ _ => rfl⟩
  | k + 1 => by
    have ih := spec_ShaPad.rq a0z a0 k
    refine ⟨fun _ _ _ => ?_, fun _ _ _ => ?_⟩
    · refine (spec_ShaPad.s0 k _ a0z a0 _ _ _).trans (Eq.trans ?_ (spec_ShaPad.l0n spec_ShaPad.enc some (spec_ShaPad.l0 k) (spec_ShaPad.l1 k) k _ _ _))
      simp only [ih.1, ih.2, Option.map_some]
    · refine (spec_ShaPad.s1 k _ a0z a0 _ _ _).trans (Eq.trans ?_ (spec_ShaPad.l1n spec_ShaPad.enc some (spec_ShaPad.l0 k) (spec_ShaPad.l1 k) k _ _ _))
      simp only [ih.1, ih.2, Option.map_some]
theorem spec_ShaPad.eq (k : Nat) (a0z : Bool) (a0 : List Int) : answer Try.prog spec_ShaPad.Cs 100000 spec_ShaPad.cuts [] Try.f220 (k + 1) [.v (.nums 5 .u8 a0z a0)] = (spec_ShaPad.f (k + 1) a0z a0).map spec_ShaPad.enc := by
  have ih := spec_ShaPad.rq a0z a0 k
  refine Eq.trans (b := spec_ShaPad.b (fun r => some (spec_ShaPad.enc r)) (fun x0z x0 x3 => rounds Try.prog spec_ShaPad.Cs (finish Try.prog [] Try.f220 [.v (.nums 5 .u8 a0z a0)]) 100000 k spec_ShaPad.K0 (spec_ShaPad.N0 x0z x0 x3)) (fun x3 x4 x5 => rounds Try.prog spec_ShaPad.Cs (finish Try.prog [] Try.f220 [.v (.nums 5 .u8 a0z a0)]) 100000 k spec_ShaPad.K1 (spec_ShaPad.N1 x3 x4 x5)) k a0z a0) (by kernel_rfl) (Eq.trans ?_ (spec_ShaPad.bn spec_ShaPad.enc some (spec_ShaPad.l0 k) (spec_ShaPad.l1 k) k a0z a0))
  simp only [ih.1, ih.2, Option.map_some]
theorem spec_ShaPad.sound (k : Nat) : SoundF Try.prog 220 (fun a => (spec_ShaPad.ans k a).val) := by
  refine sound_plain (fun args res h => ?_) (fun t n => rfl)
  unfold spec_ShaPad.ans at h
  dsimp only at h
  split at h
  · cases k with
    | zero => cases h
    | succ k =>
      unfold Ans.val at h
      rw [← spec_ShaPad.eq] at h
      exact answer_sound mixed Try.func220 _ _ _ (k + 1) (fun j _ => tab_sound (tab_cons (spec_l01Copy.sound j) (tab_nil))) _ _ h
  · exact (Ans.no_val h).elim

def spec_l04Word.b {R : Type} (ret : Bool → Option R) (k : Nat) (a0 : Int) : Option R :=
  (spec_l01In.f k a0 0 4294967295).bind fun t0 => ret t0
def spec_l04Word.f : Nat → Int → Option Bool
  | 0, _ => none
  | k + 1, a0 => spec_l04Word.b some k a0
def spec_l04Word.enc (r : Bool) : Res := ⟨[.vals false [((.bool r), true)]], []⟩
def spec_l04Word.ans (k : Nat) : List Arg → Ans
  | [.v (.int .i64 a0)] => ⟨spec_l04Word.f k a0, spec_l04Word.enc⟩
  | _ => Ans.no
def spec_l04Word.Cs (k : Nat) : CallSem := tab [(170, spec_l01In.ans k)]
theorem spec_l04Word.eq (k : Nat) (a0 : Int) : answer Try.prog spec_l04Word.Cs 100000 [] [] Try.f235 (k + 1) [.v (.int .i64 a0)] = (spec_l04Word.f (k + 1) a0).map spec_l04Word.enc := by
  refine Eq.trans (b := spec_l04Word.b (fun r => some (spec_l04Word.enc r)) k a0) (by kernel_rfl) ?_
  show _ = (spec_l04Word.b some k a0).map spec_l04Word.enc
  unfold spec_l04Word.b
  repeat' first | with_reducible refine nat_cond ?_ ?_ | with_reducible refine nat_bind fun _ => ?_ | rfl
theorem spec_l04Word.sound (k : Nat) : SoundF Try.prog 235 (fun a => (spec_l04Word.ans k a).val) := by
  refine sound_plain (fun args res h => ?_) (fun t n => rfl)
  unfold spec_l04Word.ans at h
  dsimp only at h
  split at h
  · cases k with
    | zero => cases h
    | succ k =>
      unfold Ans.val at h
      rw [← spec_l04Word.eq] at h
      exact answer_sound mixed Try.func235 _ _ _ (k + 1) (fun j _ => tab_sound (tab_cons (spec_l01In.sound j) (tab_nil))) _ _ h
  · exact (Ans.no_val h).elim

def spec_l04Turn.b {R : Type} (ret : Int → Option R) (k : Nat) (a0 a1 : Int) : Option R :=
  cond (decide ((0 : Int) ≤ a1)) (cond (decide ((0 : Int) ≤ (RowKit.wrap64 ((32 : Int) - a1)))) (ret (Go.bits .and .i64 (Go.bits .or .i64 (shrI .i64 a0 a1) (shlI .i64 a0 (RowKit.wrap64 ((32 : Int) - a1)))) 4294967295)) (none)) (none)
def spec_l04Turn.f : Nat → Int → Int → Option Int
  | 0, _, _ => none
  | k + 1, a0, a1 => spec_l04Turn.b some k a0 a1
def spec_l04Turn.enc (r : Int) : Res := ⟨[.vals false [((.int .i64 r), true)]], []⟩
def spec_l04Turn.ans (k : Nat) : List Arg → Ans
  | [.v (.int .i64 a0), .v (.int .i64 a1)] => ⟨spec_l04Turn.f k a0 a1, spec_l04Turn.enc⟩
  | _ => Ans.no
def spec_l04Turn.Cs (k : Nat) : CallSem := tab []
theorem spec_l04Turn.eq (k : Nat) (a0 a1 : Int) : answer Try.prog spec_l04Turn.Cs 100000 [] [] Try.f236 (k + 1) [.v (.int .i64 a0), .v (.int .i64 a1)] = (spec_l04Turn.f (k + 1) a0 a1).map spec_l04Turn.enc := by
  refine Eq.trans (b := spec_l04Turn.b (fun r => some (spec_l04Turn.enc r)) k a0 a1) (by kernel_rfl) ?_
  show _ = (spec_l04Turn.b some k a0 a1).map spec_l04Turn.enc
  unfold spec_l04Turn.b
  repeat' first | with_reducible refine nat_cond ?_ ?_ | with_reducible refine nat_bind fun _ => ?_ | rfl
theorem spec_l04Turn.sound (k : Nat) : SoundF Try.prog 236 (fun a => (spec_l04Turn.ans k a).val) := by
  refine sound_plain (fun args res h => ?_) (fun t n => rfl)
  unfold spec_l04Turn.ans at h
  dsimp only at h
  split at h
  · cases k with
    | zero => cases h
    | succ k =>
      unfold Ans.val at h
      rw [← spec_l04Turn.eq] at h
      exact answer_sound mixed Try.func236 _ _ _ (k + 1) (fun j _ => tab_sound (tab_nil)) _ _ h
  · exact (Ans.no_val h).elim

def spec_l04K.b {R : Type} (ret : Bool × List Int → Option R) (k : Nat) : Option R :=
  ret (false, ([1116352408, 1899447441, 3049323471, 3921009573, 961987163, 1508970993, 2453635748, 2870763221, 3624381080, 310598401, 607225278, 1426881987, 1925078388, 2162078206, 2614888103, 3248222580, 3835390401, 4022224774, 264347078, 604807628, 770255983, 1249150122, 1555081692, 1996064986, 2554220882, 2821834349, 2952996808, 3210313671, 3336571891, 3584528711, 113926993, 338241895, 666307205, 773529912, 1294757372, 1396182291, 1695183700, 1986661051, 2177026350, 2456956037, 2730485921, 2820302411, 3259730800, 3345764771, 3516065817, 3600352804, 4094571909, 275423344, 430227734, 506948616, 659060556, 883997877, 958139571, 1322822218, 1537002063, 1747873779, 1955562222, 2024104815, 2227730452, 2361852424, 2428436474, 2756734187, 3204031479, 3329325298] : List Int))
def spec_l04K.f : Nat → Option (Bool × List Int)
  | 0 => none
  | k + 1 => spec_l04K.b some k
def spec_l04K.enc (r : Bool × List Int) : Res := ⟨[.vals false [((.nums 3 .i64 r.1 r.2), true)]], []⟩
def spec_l04K.ans (k : Nat) : List Arg → Ans
  | [] => ⟨spec_l04K.f k, spec_l04K.enc⟩
  | _ => Ans.no
def spec_l04K.Cs (k : Nat) : CallSem := tab []
theorem spec_l04K.eq (k : Nat) : answer Try.prog spec_l04K.Cs 100000 [] [] Try.f237 (k + 1) [] = (spec_l04K.f (k + 1)).map spec_l04K.enc := by
  refine Eq.trans (b := spec_l04K.b (fun r => some (spec_l04K.enc r)) k) (by kernel_rfl) ?_
  show _ = (spec_l04K.b some k).map spec_l04K.enc
  unfold spec_l04K.b
  repeat' first | with_reducible refine nat_cond ?_ ?_ | with_reducible refine nat_bind fun _ => ?_ | rfl
theorem spec_l04K.sound (k : Nat) : SoundF Try.prog 237 (fun a => (spec_l04K.ans k a).val) := by
  refine sound_plain (fun args res h => ?_) (fun t n => rfl)
  unfold spec_l04K.ans at h
  dsimp only at h
  split at h
  · cases k with
    | zero => cases h
    | succ k =>
      unfold Ans.val at h
      rw [← spec_l04K.eq] at h
      exact answer_sound mixed Try.func237 _ _ _ (k + 1) (fun j _ => tab_sound (tab_nil)) _ _ h
  · exact (Ans.no_val h).elim

def spec_ShaBlock.b {R : Type} (ret : Bool × List Int → Option R) (j0 : Bool → (List Int) → Bool → (List Int) → Bool → (List Int) → Int → Int → Option R) (j1 : Bool → (List Int) → Bool → (List Int) → (List Int) → Int → Option R) (j2 : Bool → (List Int) → (List Int) → Int → Option R) (j3 : Bool → (List Int) → (List Int) → Bool → (List Int) → Bool → (List Int) → Int → Option R) (j4 : Bool → (List Int) → Bool → (List Int) → (List Int) → Int → Int → Option R) (k : Nat) (a0z : Bool) (a0 : List Int) (a1z : Bool) (a1 : List Int) : Option R :=
  cond (!(decide (((a0).length : Int) = 8))) (ret (true, ([] : List Int))) (cond (!(decide (((a1).length : Int) = 64))) (ret (true, ([] : List Int))) (j0 a0z a0 a1z a1 a0z a0 ((a0).length : Int) 0))
def spec_ShaBlock.l0b {R : Type} (ret : Bool × List Int → Option R) (j0 : Bool → (List Int) → Bool → (List Int) → Bool → (List Int) → Int → Int → Option R) (j1 : Bool → (List Int) → Bool → (List Int) → (List Int) → Int → Option R) (j2 : Bool → (List Int) → (List Int) → Int → Option R) (j3 : Bool → (List Int) → (List Int) → Bool → (List Int) → Bool → (List Int) → Int → Option R) (j4 : Bool → (List Int) → Bool → (List Int) → (List Int) → Int → Int → Option R) (k : Nat) (x0z : Bool) (x0 : List Int) (x1z : Bool) (x1 : List Int) (x31z : Bool) (x31 : List Int) (x32 x33 : Int) : Option R :=
  cond (decide (x33 < x32)) (cond (decide ((0 : Int) ≤ x33)) (cond (decide (x33 < ((x31).length : Int))) ((spec_l04Word.f k (rdI x31 x33)).bind fun t0 => cond (!t0) (ret (true, ([] : List Int))) (j0 x0z x0 x1z x1 x31z x31 x32 (RowKit.wrap64 (x33 + 1)))) (none)) (none)) (j1 x0z x0 x1z x1 ([] : List Int) 0)
def spec_ShaBlock.l1b {R : Type} (ret : Bool × List Int → Option R) (j0 : Bool → (List Int) → Bool → (List Int) → Bool → (List Int) → Int → Int → Option R) (j1 : Bool → (List Int) → Bool → (List Int) → (List Int) → Int → Option R) (j2 : Bool → (List Int) → (List Int) → Int → Option R) (j3 : Bool → (List Int) → (List Int) → Bool → (List Int) → Bool → (List Int) → Int → Option R) (j4 : Bool → (List Int) → Bool → (List Int) → (List Int) → Int → Int → Option R) (k : Nat) (x0z : Bool) (x0 : List Int) (x1z : Bool) (x1 x7 : List Int) (x8 : Int) : Option R :=
  cond (decide (x8 < 64)) (cond (decide ((0 : Int) ≤ x8)) (cond (decide (x8 < ((x1).length : Int))) (cond (decide ((0 : Int) ≤ (RowKit.wrap64 (x8 + 1)))) (cond (decide ((RowKit.wrap64 (x8 + 1)) < ((x1).length : Int))) (cond (decide ((0 : Int) ≤ (RowKit.wrap64 (x8 + 2)))) (cond (decide ((RowKit.wrap64 (x8 + 2)) < ((x1).length : Int))) (cond (decide ((0 : Int) ≤ (RowKit.wrap64 (x8 + 3)))) (cond (decide ((RowKit.wrap64 (x8 + 3)) < ((x1).length : Int))) (cond (decide ((x7).length + 1 < 17592186044416)) (j1 x0z x0 x1z x1 (x7 ++ ([(Go.bits .or .i64 (Go.bits .or .i64 (Go.bits .or .i64 (shlI .i64 (RowKit.wrap64 ((rdI x1 x8))) 24) (shlI .i64 (RowKit.wrap64 ((rdI x1 (RowKit.wrap64 (x8 + 1))))) 16)) (shlI .i64 (RowKit.wrap64 ((rdI x1 (RowKit.wrap64 (x8 + 2))))) 8)) (RowKit.wrap64 ((rdI x1 (RowKit.wrap64 (x8 + 3))))))] : List Int)) (RowKit.wrap64 (x8 + 4))) (none)) (none)) (none)) (none)) (none)) (none)) (none)) (none)) (none)) (j2 x0z x0 x7 16)
def spec_ShaBlock.l2b {R : Type} (ret : Bool × List Int → Option R) (j0 : Bool → (List Int) → Bool → (List Int) → Bool → (List Int) → Int → Int → Option R) (j1 : Bool → (List Int) → Bool → (List Int) → (List Int) → Int → Option R) (j2 : Bool → (List Int) → (List Int) → Int → Option R) (j3 : Bool → (List Int) → (List Int) → Bool → (List Int) → Bool → (List Int) → Int → Option R) (j4 : Bool → (List Int) → Bool → (List Int) → (List Int) → Int → Int → Option R) (k : Nat) (x0z : Bool) (x0 x7 : List Int) (x9 : Int) : Option R :=
  cond (decide (x9 < 64)) (cond (decide ((0 : Int) ≤ (RowKit.wrap64 (x9 - 15)))) (cond (decide ((RowKit.wrap64 (x9 - 15)) < ((x7).length : Int))) (cond (decide ((0 : Int) ≤ (RowKit.wrap64 (x9 - 2)))) (cond (decide ((RowKit.wrap64 (x9 - 2)) < ((x7).length : Int))) ((spec_l04Turn.f k (rdI x7 (RowKit.wrap64 (x9 - 15))) 7).bind fun t0 => (spec_l04Turn.f k (rdI x7 (RowKit.wrap64 (x9 - 15))) 18).bind fun t1 => (spec_l04Turn.f k (rdI x7 (RowKit.wrap64 (x9 - 2))) 17).bind fun t2 => (spec_l04Turn.f k (rdI x7 (RowKit.wrap64 (x9 - 2))) 19).bind fun t3 => cond (decide ((0 : Int) ≤ (RowKit.wrap64 (x9 - 16)))) (cond (decide ((RowKit.wrap64 (x9 - 16)) < ((x7).length : Int))) (cond (decide ((0 : Int) ≤ (RowKit.wrap64 (x9 - 7)))) (cond (decide ((RowKit.wrap64 (x9 - 7)) < ((x7).length : Int))) (cond (decide ((x7).length + 1 < 17592186044416)) (j2 x0z x0 (x7 ++ ([(Go.bits .and .i64 (RowKit.wrap64 ((RowKit.wrap64 ((RowKit.wrap64 ((rdI x7 (RowKit.wrap64 (x9 - 16))) + (Go.bits .xor .i64 (Go.bits .xor .i64 t0 t1) (shrI .i64 (rdI x7 (RowKit.wrap64 (x9 - 15))) 3)))) + (rdI x7 (RowKit.wrap64 (x9 - 7))))) + (Go.bits .xor .i64 (Go.bits .xor .i64 t2 t3) (shrI .i64 (rdI x7 (RowKit.wrap64 (x9 - 2))) 10)))) 4294967295)] : List Int)) (RowKit.wrap64 (x9 + 1))) (none)) (none)) (none)) (none)) (none)) (none)) (none)) (none)) (none)) ((spec_l04K.f k).bind fun t0 => cond (decide (0 + (x0).length < 17592186044416)) (j3 x0z x0 x7 t0.1 t0.2 ((x0).isEmpty && false) x0 0) (none))
def spec_ShaBlock.l3b {R : Type} (ret : Bool × List Int → Option R) (j0 : Bool → (List Int) → Bool → (List Int) → Bool → (List Int) → Int → Int → Option R) (j1 : Bool → (List Int) → Bool → (List Int) → (List Int) → Int → Option R) (j2 : Bool → (List Int) → (List Int) → Int → Option R) (j3 : Bool → (List Int) → (List Int) → Bool → (List Int) → Bool → (List Int) → Int → Option R) (j4 : Bool → (List Int) → Bool → (List Int) → (List Int) → Int → Int → Option R) (k : Nat) (x0z : Bool) (x0 x7 : List Int) (x14z : Bool) (x14 : List Int) (x15z : Bool) (x15 : List Int) (x16 : Int) : Option R :=
  cond (decide (x16 < 64)) (cond (decide ((4 : Int) < ((x15).length : Int))) (cond (decide ((0 : Int) < ((x15).length : Int))) (cond (decide ((7 : Int) < ((x15).length : Int))) ((spec_l04Turn.f k (rdI x15 4) 6).bind fun t0 => (spec_l04Turn.f k (rdI x15 4) 11).bind fun t1 => (spec_l04Turn.f k (rdI x15 4) 25).bind fun t2 => cond (decide ((5 : Int) < ((x15).length : Int))) (cond (decide ((6 : Int) < ((x15).length : Int))) (cond (decide ((0 : Int) ≤ x16)) (cond (decide (x16 < ((x14).length : Int))) (cond (decide ((0 : Int) ≤ x16)) (cond (decide (x16 < ((x7).length : Int))) ((spec_l04Turn.f k (rdI x15 0) 2).bind fun t3 => (spec_l04Turn.f k (rdI x15 0) 13).bind fun t4 => (spec_l04Turn.f k (rdI x15 0) 22).bind fun t5 => cond (decide ((1 : Int) < ((x15).length : Int))) (cond (decide ((2 : Int) < ((x15).length : Int))) (cond (decide ((1 : Int) < ((x15).length : Int))) (cond (decide ((2 : Int) < ((x15).length : Int))) (cond (decide ((0 : Int) < ((x15).length : Int))) (cond (decide ((1 : Int) < ((x15).length : Int))) (cond (decide ((2 : Int) < ((x15).length : Int))) (cond (decide ((3 : Int) < ((x15).length : Int))) (cond (decide ((4 : Int) < ((x15).length : Int))) (cond (decide ((5 : Int) < ((x15).length : Int))) (cond (decide ((6 : Int) < ((x15).length : Int))) (j3 x0z x0 x7 x14z x14 false ([(Go.bits .and .i64 (RowKit.wrap64 ((RowKit.wrap64 ((RowKit.wrap64 ((RowKit.wrap64 ((RowKit.wrap64 ((rdI x15 7) + (Go.bits .xor .i64 (Go.bits .xor .i64 t0 t1) t2))) + (Go.bits .xor .i64 (Go.bits .and .i64 (rdI x15 4) (rdI x15 5)) (Go.bits .and .i64 (Go.bits .xor .i64 4294967295 (rdI x15 4)) (rdI x15 6))))) + (rdI x14 x16))) + (rdI x7 x16))) + (RowKit.wrap64 ((Go.bits .xor .i64 (Go.bits .xor .i64 t3 t4) t5) + (Go.bits .xor .i64 (Go.bits .xor .i64 (Go.bits .and .i64 (rdI x15 0) (rdI x15 1)) (Go.bits .and .i64 (rdI x15 0) (rdI x15 2))) (Go.bits .and .i64 (rdI x15 1) (rdI x15 2))))))) 4294967295), (rdI x15 0), (rdI x15 1), (rdI x15 2), (Go.bits .and .i64 (RowKit.wrap64 ((rdI x15 3) + (RowKit.wrap64 ((RowKit.wrap64 ((RowKit.wrap64 ((RowKit.wrap64 ((rdI x15 7) + (Go.bits .xor .i64 (Go.bits .xor .i64 t0 t1) t2))) + (Go.bits .xor .i64 (Go.bits .and .i64 (rdI x15 4) (rdI x15 5)) (Go.bits .and .i64 (Go.bits .xor .i64 4294967295 (rdI x15 4)) (rdI x15 6))))) + (rdI x14 x16))) + (rdI x7 x16))))) 4294967295), (rdI x15 4), (rdI x15 5), (rdI x15 6)] : List Int) (RowKit.wrap64 (x16 + 1))) (none)) (none)) (none)) (none)) (none)) (none)) (none)) (none)) (none)) (none)) (none)) (none)) (none)) (none)) (none)) (none)) (none)) (none)) (none)) (none)) (j4 x0z x0 x15z x15 ([] : List Int) ((x0).length : Int) 0)
def spec_ShaBlock.l4b {R : Type} (ret : Bool × List Int → Option R) (j0 : Bool → (List Int) → Bool → (List Int) → Bool → (List Int) → Int → Int → Option R) (j1 : Bool → (List Int) → Bool → (List Int) → (List Int) → Int → Option R) (j2 : Bool → (List Int) → (List Int) → Int → Option R) (j3 : Bool → (List Int) → (List Int) → Bool → (List Int) → Bool → (List Int) → Int → Option R) (j4 : Bool → (List Int) → Bool → (List Int) → (List Int) → Int → Int → Option R) (k : Nat) (x0z : Bool) (x0 : List Int) (x15z : Bool) (x15 x21 : List Int) (x235 x236 : Int) : Option R :=
  cond (decide (x236 < x235)) (cond (decide ((0 : Int) ≤ x236)) (cond (decide (x236 < ((x0).length : Int))) (cond (decide ((0 : Int) ≤ x236)) (cond (decide (x236 < ((x15).length : Int))) (cond (decide ((x21).length + 1 < 17592186044416)) (j4 x0z x0 x15z x15 (x21 ++ ([(Go.bits .and .i64 (RowKit.wrap64 ((rdI x0 x236) + (rdI x15 x236))) 4294967295)] : List Int)) x235 (RowKit.wrap64 (x236 + 1))) (none)) (none)) (none)) (none)) (none)) (ret (false, x21))
mutual
def spec_ShaBlock.l0 : Nat → Bool → (List Int) → Bool → (List Int) → Bool → (List Int) → Int → Int → Option (Bool × List Int)
  | 0, _, _, _, _, _, _, _, _ => none
  | k + 1, x0z, x0, x1z, x1, x31z, x31, x32, x33 => spec_ShaBlock.l0b some (spec_ShaBlock.l0 k) (spec_ShaBlock.l1 k) (spec_ShaBlock.l2 k) (spec_ShaBlock.l3 k) (spec_ShaBlock.l4 k) k x0z x0 x1z x1 x31z x31 x32 x33
def spec_ShaBlock.l1 : Nat → Bool → (List Int) → Bool → (List Int) → (List Int) → Int → Option (Bool × List Int)
  | 0, _, _, _, _, _, _ => none
  | k + 1, x0z, x0, x1z, x1, x7, x8 => spec_ShaBlock.l1b some (spec_ShaBlock.l0 k) (spec_ShaBlock.l1 k) (spec_ShaBlock.l2 k) (spec_ShaBlock.l3 k) (spec_ShaBlock.l4 k) k x0z x0 x1z x1 x7 x8
def spec_ShaBlock.l2 : Nat → Bool → (List Int) → (List Int) → Int → Option (Bool × List Int)
  | 0, _, _, _, _ => none
  | k + 1, x0z, x0, x7, x9 => spec_ShaBlock.l2b some (spec_ShaBlock.l0 k) (spec_ShaBlock.l1 k) (spec_ShaBlock.l2 k) (spec_ShaBlock.l3 k) (spec_ShaBlock.l4 k) k x0z x0 x7 x9
def spec_ShaBlock.l3 : Nat → Bool → (List Int) → (List Int) → Bool → (List Int) → Bool → (List Int) → Int → Option (Bool × List Int)
  | 0, _, _, _, _, _, _, _, _ => none
  | k + 1, x0z, x0, x7, x14z, x14, x15z, x15, x16 => spec_ShaBlock.l3b some (spec_ShaBlock.l0 k) (spec_ShaBlock.l1 k) (spec_ShaBlock.l2 k) (spec_ShaBlock.l3 k) (spec_ShaBlock.l4 k) k x0z x0 x7 x14z x14 x15z x15 x16
def spec_ShaBlock.l4 : Nat → Bool → (List Int) → Bool → (List Int) → (List Int) → Int → Int → Option (Bool × List Int)
  | 0, _, _, _, _, _, _, _ => none
  | k + 1, x0z, x0, x15z, x15, x21, x235, x236 => spec_ShaBlock.l4b some (spec_ShaBlock.l0 k) (spec_ShaBlock.l1 k) (spec_ShaBlock.l2 k) (spec_ShaBlock.l3 k) (spec_ShaBlock.l4 k) k x0z x0 x15z x15 x21 x235 x236
end
def spec_ShaBlock.f : Nat → Bool → (List Int) → Bool → (List Int) → Option (Bool × List Int)
  | 0, _, _, _, _ => none
  | k + 1, a0z, a0, a1z, a1 => spec_ShaBlock.b some (spec_ShaBlock.l0 k) (spec_ShaBlock.l1 k) (spec_ShaBlock.l2 k) (spec_ShaBlock.l3 k) (spec_ShaBlock.l4 k) k a0z a0 a1z a1
def spec_ShaBlock.enc (r : Bool × List Int) : Res := ⟨[.vals false [((.nums 3 .i64 r.1 r.2), true)]], []⟩
def spec_ShaBlock.ans (k : Nat) : List Arg → Ans
  | [.v (.nums 3 .i64 a0z a0), .v (.nums 5 .u8 a1z a1)] => ⟨spec_ShaBlock.f k a0z a0 a1z a1, spec_ShaBlock.enc⟩
  | _ => Ans.no
def spec_ShaBlock.Cs (k : Nat) : CallSem := tab [(235, spec_l04Word.ans k), (236, spec_l04Turn.ans k), (237, spec_l04K.ans k)]
def spec_ShaBlock.cuts : List (Nat × Keep) := [(58, ⟨[(0, some []), (1, some []), (31, some []), (32, some []), (33, some [])], []⟩), (250, ⟨[(0, some []), (1, some []), (7, none), (8, some [])], []⟩), (506, ⟨[(0, some []), (7, none), (9, some [])], []⟩), (4090, ⟨[(0, some []), (7, none), (14, none), (15, none), (16, some [])], []⟩), (16378, ⟨[(0, some []), (15, none), (21, none), (235, some []), (236, some [])], []⟩)]
noncomputable def spec_ShaBlock.K0 : List Fr := framesAt [true, true, false, true, false] (bodyOf Try.f221 spec_ShaBlock.cuts) []
def spec_ShaBlock.N0 (x0z : Bool) (x0 : List Int) (x1z : Bool) (x1 : List Int) (x31z : Bool) (x31 : List Int) (x32 x33 : Int) : St := stOf 254 254 2 [(0, .val ⟨(.nums 3 .i64 x0z x0), [], false, none⟩), (1, .val ⟨(.nums 5 .u8 x1z x1), [], false, none⟩), (31, .val ⟨(.nums 3 .i64 x31z x31), [], false, none⟩), (32, .val (V.s (.int .i64 x32))), (33, .val (V.s (.int .i64 x33)))] []
noncomputable def spec_ShaBlock.K1 : List Fr := framesAt [true, true, true, true, false, true, false] (bodyOf Try.f221 spec_ShaBlock.cuts) []
def spec_ShaBlock.N1 (x0z : Bool) (x0 : List Int) (x1z : Bool) (x1 x7 : List Int) (x8 : Int) : St := stOf 254 254 2 [(0, .val ⟨(.nums 3 .i64 x0z x0), [], false, none⟩), (1, .val ⟨(.nums 5 .u8 x1z x1), [], false, none⟩), (7, .val ⟨(.nums 3 .i64 false x7), [.l 7 0], true, some (.l 7 0)⟩), (8, .val (V.s (.int .i64 x8)))] []
noncomputable def spec_ShaBlock.K2 : List Fr := framesAt [true, true, true, true, true, false, true, false] (bodyOf Try.f221 spec_ShaBlock.cuts) []
def spec_ShaBlock.N2 (x0z : Bool) (x0 x7 : List Int) (x9 : Int) : St := stOf 254 254 2 [(0, .val ⟨(.nums 3 .i64 x0z x0), [], false, none⟩), (7, .val ⟨(.nums 3 .i64 false x7), [.l 7 0], true, some (.l 7 0)⟩), (9, .val (V.s (.int .i64 x9)))] []
noncomputable def spec_ShaBlock.K3 : List Fr := framesAt [true, true, true, true, true, true, true, true, false, true, false] (bodyOf Try.f221 spec_ShaBlock.cuts) []
def spec_ShaBlock.N3 (x0z : Bool) (x0 x7 : List Int) (x14z : Bool) (x14 : List Int) (x15z : Bool) (x15 : List Int) (x16 : Int) : St := stOf 254 254 2 [(0, .val ⟨(.nums 3 .i64 x0z x0), [], false, none⟩), (7, .val ⟨(.nums 3 .i64 false x7), [.l 7 0], true, some (.l 7 0)⟩), (14, .val ⟨(.nums 3 .i64 x14z x14), [.l 14 0], true, some (.l 14 0)⟩), (15, .val ⟨(.nums 3 .i64 x15z x15), [.l 15 0], true, some (.l 15 0)⟩), (16, .val (V.s (.int .i64 x16)))] []
noncomputable def spec_ShaBlock.K4 : List Fr := framesAt [true, true, true, true, true, true, true, true, true, true, false, true, false] (bodyOf Try.f221 spec_ShaBlock.cuts) []
def spec_ShaBlock.N4 (x0z : Bool) (x0 : List Int) (x15z : Bool) (x15 x21 : List Int) (x235 x236 : Int) : St := stOf 254 254 2 [(0, .val ⟨(.nums 3 .i64 x0z x0), [], false, none⟩), (15, .val ⟨(.nums 3 .i64 x15z x15), [.l 15 0], true, some (.l 15 0)⟩), (21, .val ⟨(.nums 3 .i64 false x21), [.l 21 0], true, some (.l 21 0)⟩), (235, .val (V.s (.int .i64 x235))), (236, .val (V.s (.int .i64 x236)))] []
theorem spec_ShaBlock.s0 (k : Nat) (G : List Fr → St → Option Res) (a0z : Bool) (a0 : List Int) (a1z : Bool) (a1 : List Int) (yx0z : Bool) (yx0 : List Int) (yx1z : Bool) (yx1 : List Int) (yx31z : Bool) (yx31 : List Int) (yx32 yx33 : Int) : resume Try.prog (spec_ShaBlock.Cs k) G (finish Try.prog [] Try.f221 [.v (.nums 3 .i64 a0z a0), .v (.nums 5 .u8 a1z a1)]) 100000 spec_ShaBlock.K0 (spec_ShaBlock.N0 yx0z yx0 yx1z yx1 yx31z yx31 yx32 yx33) = spec_ShaBlock.l0b (fun r => some (spec_ShaBlock.enc r)) (fun x0z x0 x1z x1 x31z x31 x32 x33 => G spec_ShaBlock.K0 (spec_ShaBlock.N0 x0z x0 x1z x1 x31z x31 x32 x33)) (fun x0z x0 x1z x1 x7 x8 => G spec_ShaBlock.K1 (spec_ShaBlock.N1 x0z x0 x1z x1 x7 x8)) (fun x0z x0 x7 x9 => G spec_ShaBlock.K2 (spec_ShaBlock.N2 x0z x0 x7 x9)) (fun x0z x0 x7 x14z x14 x15z x15 x16 => G spec_ShaBlock.K3 (spec_ShaBlock.N3 x0z x0 x7 x14z x14 x15z x15 x16)) (fun x0z x0 x15z x15 x21 x235 x236 => G spec_ShaBlock.K4 (spec_ShaBlock.N4 x0z x0 x15z x15 x21 x235 x236)) k yx0z yx0 yx1z yx1 yx31z yx31 yx32 yx33 := by kernel_rfl
theorem spec_ShaBlock.s1 (k : Nat) (G : List Fr → St → Option Res) (a0z : Bool) (a0 : List Int) (a1z : Bool) (a1 : List Int) (yx0z : Bool) (yx0 : List Int) (yx1z : Bool) (yx1 yx7 : List Int) (yx8 : Int) : resume Try.prog (spec_ShaBlock.Cs k) G (finish Try.prog [] Try.f221 [.v (.nums 3 .i64 a0z a0), .v (.nums 5 .u8 a1z a1)]) 100000 spec_ShaBlock.K1 (spec_ShaBlock.N1 yx0z yx0 yx1z yx1 yx7 yx8) = spec_ShaBlock.l1b (fun r => some (spec_ShaBlock.enc r)) (fun x0z x0 x1z x1 x31z x31 x32 x33 => G spec_ShaBlock.K0 (spec_ShaBlock.N0 x0z x0 x1z x1 x31z x31 x32 x33)) (fun x0z x0 x1z x1 x7 x8 => G spec_ShaBlock.K1 (spec_ShaBlock.N1 x0z x0 x1z x1 x7 x8)) (fun x0z x0 x7 x9 => G spec_ShaBlock.K2 (spec_ShaBlock.N2 x0z x0 x7 x9)) (fun x0z x0 x7 x14z x14 x15z x15 x16 => G spec_ShaBlock.K3 (spec_ShaBlock.N3 x0z x0 x7 x14z x14 x15z x15 x16)) (fun x0z x0 x15z x15 x21 x235 x236 => G spec_ShaBlock.K4 (spec_ShaBlock.N4 x0z x0 x15z x15 x21 x235 x236)) k yx0z yx0 yx1z yx1 yx7 yx8 := by kernel_rfl
theorem spec_ShaBlock.s2 (k : Nat) (G : List Fr → St → Option Res) (a0z : Bool) (a0 : List Int) (a1z : Bool) (a1 : List Int) (yx0z : Bool) (yx0 yx7 : List Int) (yx9 : Int) : resume Try.prog (spec_ShaBlock.Cs k) G (finish Try.prog [] Try.f221 [.v (.nums 3 .i64 a0z a0), .v (.nums 5 .u8 a1z a1)]) 100000 spec_ShaBlock.K2 (spec_ShaBlock.N2 yx0z yx0 yx7 yx9) = spec_ShaBlock.l2b (fun r => some (spec_ShaBlock.enc r)) (fun x0z x0 x1z x1 x31z x31 x32 x33 => G spec_ShaBlock.K0 (spec_ShaBlock.N0 x0z x0 x1z x1 x31z x31 x32 x33)) (fun x0z x0 x1z x1 x7 x8 => G spec_ShaBlock.K1 (spec_ShaBlock.N1 x0z x0 x1z x1 x7 x8)) (fun x0z x0 x7 x9 => G spec_ShaBlock.K2 (spec_ShaBlock.N2 x0z x0 x7 x9)) (fun x0z x0 x7 x14z x14 x15z x15 x16 => G spec_ShaBlock.K3 (spec_ShaBlock.N3 x0z x0 x7 x14z x14 x15z x15 x16)) (fun x0z x0 x15z x15 x21 x235 x236 => G spec_ShaBlock.K4 (spec_ShaBlock.N4 x0z x0 x15z x15 x21 x235 x236)) k yx0z yx0 yx7 yx9 := by kernel_rfl
theorem spec_ShaBlock.s3 (k : Nat) (G : List Fr → St → Option Res) (a0z : Bool) (a0 : List Int) (a1z : Bool) (a1 : List Int) (yx0z : Bool) (yx0 yx7 : List Int) (yx14z : Bool) (yx14 : List Int) (yx15z : Bool) (yx15 : List Int) (yx16 : Int) : resume Try.prog (spec_ShaBlock.Cs k) G (finish Try.prog [] Try.f221 [.v (.nums 3 .i64 a0z a0), .v (.nums 5 .u8 a1z a1)]) 100000 spec_ShaBlock.K3 (spec_ShaBlock.N3 yx0z yx0 yx7 yx14z yx14 yx15z yx15 yx16) = spec_ShaBlock.l3b (fun r => some (spec_ShaBlock.enc r)) (fun x0z x0 x1z x1 x31z x31 x32 x33 => G spec_ShaBlock.K0 (spec_ShaBlock.N0 x0z x0 x1z x1 x31z x31 x32 x33)) (fun x0z x0 x1z x1 x7 x8 => G spec_ShaBlock.K1 (spec_ShaBlock.N1 x0z x0 x1z x1 x7 x8)) (fun x0z x0 x7 x9 => G spec_ShaBlock.K2 (spec_ShaBlock.N2 x0z x0 x7 x9)) (fun x0z x0 x7 x14z x14 x15z x15 x16 => G spec_ShaBlock.K3 (spec_ShaBlock.N3 x0z x0 x7 x14z x14 x15z x15 x16)) (fun x0z x0 x15z x15 x21 x235 x236 => G spec_ShaBlock.K4 (spec_ShaBlock.N4 x0z x0 x15z x15 x21 x235 x236)) k yx0z yx0 yx7 yx14z yx14 yx15z yx15 yx16 := by kernel_rfl
theorem spec_ShaBlock.s4 (k : Nat) (G : List Fr → St → Option Res) (a0z : Bool) (a0 : List Int) (a1z : Bool) (a1 : List Int) (yx0z : Bool) (yx0 : List Int) (yx15z : Bool) (yx15 yx21 : List Int) (yx235 yx236 : Int) : resume Try.prog (spec_ShaBlock.Cs k) G (finish Try.prog [] Try.f221 [.v (.nums 3 .i64 a0z a0), .v (.nums 5 .u8 a1z a1)]) 100000 spec_ShaBlock.K4 (spec_ShaBlock.N4 yx0z yx0 yx15z yx15 yx21 yx235 yx236) = spec_ShaBlock.l4b (fun r => some (spec_ShaBlock.enc r)) (fun x0z x0 x1z x1 x31z x31 x32 x33 => G spec_ShaBlock.K0 (spec_ShaBlock.N0 x0z x0 x1z x1 x31z x31 x32 x33)) (fun x0z x0 x1z x1 x7 x8 => G spec_ShaBlock.K1 (spec_ShaBlock.N1 x0z x0 x1z x1 x7 x8)) (fun x0z x0 x7 x9 => G spec_ShaBlock.K2 (spec_ShaBlock.N2 x0z x0 x7 x9)) (fun x0z x0 x7 x14z x14 x15z x15 x16 => G spec_ShaBlock.K3 (spec_ShaBlock.N3 x0z x0 x7 x14z x14 x15z x15 x16)) (fun x0z x0 x15z x15 x21 x235 x236 => G spec_ShaBlock.K4 (spec_ShaBlock.N4 x0z x0 x15z x15 x21 x235 x236)) k yx0z yx0 yx15z yx15 yx21 yx235 yx236 := by kernel_rfl
theorem spec_ShaBlock.bn {R R' : Type} (e : R → R') (ret : Bool × List Int → Option R) (j0 : Bool → (List Int) → Bool → (List Int) → Bool → (List Int) → Int → Int → Option R) (j1 : Bool → (List Int) → Bool → (List Int) → (List Int) → Int → Option R) (j2 : Bool → (List Int) → (List Int) → Int → Option R) (j3 : Bool → (List Int) → (List Int) → Bool → (List Int) → Bool → (List Int) → Int → Option R) (j4 : Bool → (List Int) → Bool → (List Int) → (List Int) → Int → Int → Option R) (k : Nat) (a0z : Bool) (a0 : List Int) (a1z : Bool) (a1 : List Int) : spec_ShaBlock.b (fun r => (ret r).map e) (fun x0z x0 x1z x1 x31z x31 x32 x33 => (j0 x0z x0 x1z x1 x31z x31 x32 x33).map e) (fun x0z x0 x1z x1 x7 x8 => (j1 x0z x0 x1z x1 x7 x8).map e) (fun x0z x0 x7 x9 => (j2 x0z x0 x7 x9).map e) (fun x0z x0 x7 x14z x14 x15z x15 x16 => (j3 x0z x0 x7 x14z x14 x15z x15 x16).map e) (fun x0z x0 x15z x15 x21 x235 x236 => (j4 x0z x0 x15z x15 x21 x235 x236).map e) k a0z a0 a1z a1 = (spec_ShaBlock.b ret j0 j1 j2 j3 j4 k a0z a0 a1z a1).map e := by
  unfold spec_ShaBlock.b
  repeat' first | with_reducible refine nat_cond ?_ ?_ | with_reducible refine nat_bind fun _ => ?_ | rfl
theorem spec_ShaBlock.l0n {R R' : Type} (e : R → R') (ret : Bool × List Int → Option R) (j0 : Bool → (List Int) → Bool → (List Int) → Bool → (List Int) → Int → Int → Option R) (j1 : Bool → (List Int) → Bool → (List Int) → (List Int) → Int → Option R) (j2 : Bool → (List Int) → (List Int) → Int → Option R) (j3 : Bool → (List Int) → (List Int) → Bool → (List Int) → Bool → (List Int) → Int → Option R) (j4 : Bool → (List Int) → Bool → (List Int) → (List Int) → Int → Int → Option R) (k : Nat) (x0z : Bool) (x0 : List Int) (x1z : Bool) (x1 : List Int) (x31z : Bool) (x31 : List Int) (x32 x33 : Int) : spec_ShaBlock.l0b (fun r => (ret r).map e) (fun x0z x0 x1z x1 x31z x31 x32 x33 => (j0 x0z x0 x1z x1 x31z x31 x32 x33).map e) (fun x0z x0 x1z x1 x7 x8 => (j1 x0z x0 x1z x1 x7 x8).map e) (fun x0z x0 x7 x9 => (j2 x0z x0 x7 x9).map e) (fun x0z x0 x7 x14z x14 x15z x15 x16 => (j3 x0z x0 x7 x14z x14 x15z x15 x16).map e) (fun x0z x0 x15z x15 x21 x235 x236 => (j4 x0z x0 x15z x15 x21 x235 x236).map e) k x0z x0 x1z x1 x31z x31 x32 x33 = (spec_ShaBlock.l0b ret j0 j1 j2 j3 j4 k x0z x0 x1z x1 x31z x31 x32 x33).map e := by
  unfold spec_ShaBlock.l0b
  repeat' first | with_reducible refine nat_cond ?_ ?_ | with_reducible refine nat_bind fun _ => ?_ | rfl
theorem spec_ShaBlock.l1n {R R' : Type} (e : R → R') (ret : Bool × List Int → Option R) (j0 : Bool → (List Int) → Bool → (List Int) → Bool → (List Int) → Int → Int → Option R) (j1 : Bool → (List Int) → Bool → (List Int) → (List Int) → Int → Option R) (j2 : Bool → (List Int) → (List Int) → Int → Option R) (j3 : Bool → (List Int) → (List Int) → Bool → (List Int) → Bool → (List Int) → Int → Option R) (j4 : Bool → (List Int) → Bool → (List Int) → (List Int) → Int → Int → Option R) (k : Nat) (x0z : Bool) (x0 : List Int) (x1z : Bool) (x1 x7 : List Int) (x8 : Int) : spec_ShaBlock.l1b (fun r => (ret r).map e) (fun x0z x0 x1z x1 x31z x31 x32 x33 => (j0 x0z x0 x1z x1 x31z x31 x32 x33).map e) (fun x0z x0 x1z x1 x7 x8 => (j1 x0z x0 x1z x1 x7 x8).map e) (fun x0z x0 x7 x9 => (j2 x0z x0 x7 x9).map e) (fun x0z x0 x7 x14z x14 x15z x15 x16 => (j3 x0z x0 x7 x14z x14 x15z x15 x16).map e) (fun x0z x0 x15z x15 x21 x235 x236 => (j4 x0z x0 x15z x15 x21 x235 x236).map e) k x0z x0 x1z x1 x7 x8 = (spec_ShaBlock.l1b ret j0 j1 j2 j3 j4 k x0z x0 x1z x1 x7 x8).map e := by
  unfold spec_ShaBlock.l1b
  repeat' first | with_reducible refine nat_cond ?_ ?_ | with_reducible refine nat_bind fun _ => ?_ | rfl
theorem spec_ShaBlock.l2b_nat {R R' : Type} (e : R → R') (ret : Bool × List Int → Option R) (j0 : Bool → (List Int) → Bool → (List Int) → Bool → (List Int) → Int → Int → Option R) (j1 : Bool → (List Int) → Bool → (List Int) → (List Int) → Int → Option R) (j2 : Bool → (List Int) → (List Int) → Int → Option R) (j3 : Bool → (List Int) → (List Int) → Bool → (List Int) → Bool → (List Int) → Int → Option R) (j4 : Bool → (List Int) → Bool → (List Int) → (List Int) → Int → Int → Option R) (k : Nat) (x0z : Bool) (x0 x7 : List Int) (x9 : Int) : spec_ShaBlock.l2b (fun r => (ret r).map e) (fun x0z x0 x1z x1 x31z x31 x32 x33 => (j0 x0z x0 x1z x1 x31z x31 x32 x33).map e) (fun x0z x0 x1z x1 x7 x8 => (j1 x0z x0 x1z x1 x7 x8).map e) (fun x0z x0 x7 x9 => (j2 x0z x0 x7 x9).map e) (fun x0z x0 x7 x14z x14 x15z x15 x16 => (j3 x0z x0 x7 x14z x14 x15z x15 x16).map e) (fun x0z x0 x15z x15 x21 x235 x236 => (j4 x0z x0 x15z x15 x21 x235 x236).map e) k x0z x0 x7 x9 = (spec_ShaBlock.l2b ret j0 j1 j2 j3 j4 k x0z x0 x7 x9).map e := by
  unfold spec_ShaBlock.l2b
  repeat' first | with_reducible refine nat_cond ?_ ?_ | with_reducible refine nat_bind fun _ => ?_ | rfl
theorem spec_ShaBlock.l3b_nat {R R' : Type} (e : R → R') (ret : Bool × List Int → Option R) (j0 : Bool → (List Int) → Bool → (List Int) → Bool → (List Int) → Int → Int → Option R) (j1 : Bool → (List Int) → Bool → (List Int) → (List Int) → Int → Option R) (j2 : Bool → (List Int) → (List Int) → Int → Option R) (j3 : Bool → (List Int) → (List Int) → Bool → (List Int) → Bool → (List Int) → Int → Option R) (j4 : Bool → (List Int) → Bool → (List Int) → (List Int) → Int → Int → Option R) (k : Nat) (x0z : Bool) (x0 x7 : List Int) (x14z : Bool) (x14 : List Int) (x15z : Bool) (x15 : List Int) (x16 : Int) : spec_ShaBlock.l3b (fun r => (ret r).map e) (fun x0z x0 x1z x1 x31z x31 x32 x33 => (j0 x0z x0 x1z x1 x31z x31 x32 x33).map e) (fun x0z x0 x1z x1 x7 x8 => (j1 x0z x0 x1z x1 x7 x8).map e) (fun x0z x0 x7 x9 => (j2 x0z x0 x7 x9).map e) (fun x0z x0 x7 x14z x14 x15z x15 x16 => (j3 x0z x0 x7 x14z x14 x15z x15 x16).map e) (fun x0z x0 x15z x15 x21 x235 x236 => (j4 x0z x0 x15z x15 x21 x235 x236).map e) k x0z x0 x7 x14z x14 x15z x15 x16 = (spec_ShaBlock.l3b ret j0 j1 j2 j3 j4 k x0z x0 x7 x14z x14 x15z x15 x16).map e := by
  unfold spec_ShaBlock.l3b
  repeat' first | with_reducible refine nat_cond ?_ ?_ | with_reducible refine nat_bind fun _ => ?_ | rfl
theorem spec_ShaBlock.l4b_nat {R R' : Type} (e : R → R') (ret : Bool × List Int → Option R) (j0 : Bool → (List Int) → Bool → (List Int) → Bool → (List Int) → Int → Int → Option R) (j1 : Bool → (List Int) → Bool → (List Int) → (List Int) → Int → Option R) (j2 : Bool → (List Int) → (List Int) → Int → Option R) (j3 : Bool → (List Int) → (List Int) → Bool → (List Int) → Bool → (List Int) → Int → Option R) (j4 : Bool → (List Int) → Bool → (List Int) → (List Int) → Int → Int → Option R) (k : Nat) (x0z : Bool) (x0 : List Int) (x15z : Bool) (x15 x21 : List Int) (x235 x236 : Int) : spec_ShaBlock.l4b (fun r => (ret r).map e) (fun x0z x0 x1z x1 x31z x31 x32 x33 => (j0 x0z x0 x1z x1 x31z x31 x32 x33).map e) (fun x0z x0 x1z x1 x7 x8 => (j1 x0z x0 x1z x1 x7 x8).map e) (fun x0z x0 x7 x9 => (j2 x0z x0 x7 x9).map e) (fun x0z x0 x7 x14z x14 x15z x15 x16 => (j3 x0z x0 x7 x14z x14 x15z x15 x16).map e) (fun x0z x0 x15z x15 x21 x235 x236 => (j4 x0z x0 x15z x15 x21 x235 x236).map e) k x0z x0 x15z x15 x21 x235 x236 = (spec_ShaBlock.l4b ret j0 j1 j2 j3 j4 k x0z x0 x15z x15 x21 x235 x236).map e := by
  unfold spec_ShaBlock.l4b
  repeat' first | with_reducible refine nat_cond ?_ ?_ | with_reducible refine nat_bind fun _ => ?_ | rfl
theorem spec_ShaBlock.rq (a0z : Bool) (a0 : List Int) (a1z : Bool) (a1 : List Int) : ∀ k, (∀ (x0z : Bool) (x0 : List Int) (x1z : Bool) (x1 : List Int) (x31z : Bool) (x31 : List Int) (x32 x33 : Int), rounds Try.prog spec_ShaBlock.Cs (finish Try.prog [] Try.f221 [.v (.nums 3 .i64 a0z a0), .v (.nums 5 .u8 a1z a1)]) 100000 k spec_ShaBlock.K0 (spec_ShaBlock.N0 x0z x0 x1z x1 x31z x31 x32 x33) = (spec_ShaBlock.l0 k x0z x0 x1z x1 x31z x31 x32 x33).map spec_ShaBlock.enc) ∧ (∀ (x0z : Bool) (x0 : List Int) (x1z : Bool) (x1 x7 : List Int) (x8 : Int), rounds Try.prog spec_ShaBlock.Cs (finish Try.prog [] Try.f221 [.v (.nums 3 .i64 a0z a0), .v (.nums 5 .u8 a1z a1)]) 100000 k spec_ShaBlock.K1 (spec_ShaBlock.N1 x0z x0 x1z x1 x7 x8) = (spec_ShaBlock.l1 k x0z x0 x1z x1 x7 x8).map spec_ShaBlock.enc) ∧ (∀ (x0z : Bool) (x0 x7 : List Int) (x9 : Int), rounds Try.prog spec_ShaBlock.Cs (finish Try.prog [] Try.f221 [.v (.nums 3 .i64 a0z a0), .v (.nums 5 .u8 a1z a1)]) 100000 k spec_ShaBlock.K2 (spec_ShaBlock.N2 x0z x0 x7 x9) = (spec_ShaBlock.l2 k x0z x0 x7 x9).map spec_ShaBlock.enc) ∧ (∀ (x0z : Bool) (x0 x7 : List Int) (x14z : Bool) (x14 : List Int) (x15z : Bool) (x15 : List Int) (x16 : Int), rounds Try.prog spec_ShaBlock.Cs (finish Try.prog [] Try.f221 [.v (.nums 3 .i64 a0z a0), .v (.nums 5 .u8 a1z a1)]) 100000 k spec_ShaBlock.K3 (spec_ShaBlock.N3 x0z x0 x7 x14z x14 x15z x15 x16) = (spec_ShaBlock.l3 k x0z x0 x7 x14z x14 x15z x15 x16).map spec_ShaBlock.enc) ∧ (∀ (x0z : Bool) (x0 : List Int) (x15z : Bool) (x15 x21 : List Int) (x235 x236 : Int), rounds Try.prog spec_ShaBlock.Cs (finish Try.prog [] Try.f221 [.v (.nums 3 .i64 a0z a0), .v (.nums 5 .u8 a1z a1)]) 100000 k spec_ShaBlock.K4 (spec_ShaBlock.N4 x0z x0 x15z x15 x21 x235 x236) = (spec_ShaBlock.l4 k x0z x0 x15z x15 x21 x235 x236).map spec_ShaBlock.enc)
  | 0 => ⟨fun _ _ _ _ _ _ _ _ => rfl, fun _ _ _ _ _ _ => rfl, fun _ _ _ _ => rfl, fun _ _ _ _ _ _ _ _ => rfl, fun _ _ _ _ _ _ _ => rfl⟩
  | k + 1 => by
    have ih := spec_ShaBlock.rq a0z a0 a1z a1 k
    refine ⟨fun _ _ _ _ _ _ _ _ => ?_, fun _ _ _ _ _ _ => ?_, fun _ _ _ _ => ?_, fun _ _ _ _ _ _ _ _ => ?_, fun _ _ _ _ _ _ _ => ?_⟩
    · refine (spec_ShaBlock.s0 k _ a0z a0 a1z a1 _ _ _ _ _ _ _ _).trans (Eq.trans ?_ (spec_ShaBlock.l0n spec_ShaBlock.enc some (spec_ShaBlock.l0 k) (spec_ShaBlock.l1 k) (spec_ShaBlock.l2 k) (spec_ShaBlock.l3 k) (spec_ShaBlock.l4 k) k _ _ _ _ _ _ _ _))
      simp only [ih.1, ih.2.1, ih.2.2.1, ih.2.2.2.1, ih.2.2.2.2, Option.map_some]
    · refine (spec_ShaBlock.s1 k _ a0z a0 a1z a1 _ _ _ _ _ _).trans (Eq.trans ?_ (spec_ShaBlock.l1n spec_ShaBlock.enc some (spec_ShaBlock.l0 k) (spec_ShaBlock.l1 k) (spec_ShaBlock.l2 k) (spec_ShaBlock.l3 k) (spec_ShaBlock.l4 k) k _ _ _ _ _ _))
      simp only [ih.1, ih.2.1, ih.2.2.1, ih.2.2.2.1, ih.2.2.2.2, Option.map_some]
    · refine (spec_ShaBlock.s2 k _ a0z a0 a1z a1 _ _ _ _).trans (Eq.trans ?_ (spec_ShaBlock.l2b_nat spec_ShaBlock.enc some (spec_ShaBlock.l0 k) (spec_ShaBlock.l1 k) (spec_ShaBlock.l2 k) (spec_ShaBlock.l3 k) (spec_ShaBlock.l4 k) k _ _ _ _))
      simp only [ih.1, ih.2.1, ih.2.2.1, ih.2.2.2.1, ih.2.2.2.2, Option.map_some]
    · refine (spec_ShaBlock.s3 k _ a0z a0 a1z a1 _ _ _ _ _ _ _ _).trans (Eq.trans ?_ (spec_ShaBlock.l3b_nat spec_ShaBlock.enc some (spec_ShaBlock.l0 k) (spec_ShaBlock.l1 k) (spec_ShaBlock.l2 k) (spec_ShaBlock.l3 k) (spec_ShaBlock.l4 k) k _ _ _ _ _ _ _ _))
      simp only [ih.1, ih.2.1, ih.2.2.1, ih.2.2.2.1, ih.2.2.2.2, Option.map_some]
    · refine (spec_ShaBlock.s4 k _ a0z a0 a1z a1 _ _ _ _ _ _ _).trans (Eq.trans ?_ (spec_ShaBlock.l4b_nat spec_ShaBlock.enc some (spec_ShaBlock.l0 k) (spec_ShaBlock.l1 k) (spec_ShaBlock.l2 k) (spec_ShaBlock.l3 k) (spec_ShaBlock.l4 k) k _ _ _ _ _ _ _))
      simp only [ih.1, ih.2.1, ih.2.2.1, ih.2.2.2.1, ih.2.2.2.2, Option.map_some]
theorem spec_ShaBlock.eq (k : Nat) (a0z : Bool) (a0 : List Int) (a1z : Bool) (a1 : List Int) : answer Try.prog spec_ShaBlock.Cs 100000 spec_ShaBlock.cuts [] Try.f221 (k + 1) [.v (.nums 3 .i64 a0z a0), .v (.nums 5 .u8 a1z a1)] = (spec_ShaBlock.f (k + 1) a0z a0 a1z a1).map spec_ShaBlock.enc := by
  have ih := spec_ShaBlock.rq a0z a0 a1z a1 k
  refine Eq.trans (b := spec_ShaBlock.b (fun r => some (spec_ShaBlock.enc r)) (fun x0z x0 x1z x1 x31z x31 x32 x33 => rounds Try.prog spec_ShaBlock.Cs (finish Try.prog [] Try.f221 [.v (.nums 3 .i64 a0z a0), .v (.nums 5 .u8 a1z a1)]) 100000 k spec_ShaBlock.K0 (spec_ShaBlock.N0 x0z x0 x1z x1 x31z x31 x32 x33)) (fun x0z x0 x1z x1 x7 x8 => rounds Try.prog spec_ShaBlock.Cs (finish Try.prog [] Try.f221 [.v (.nums 3 .i64 a0z a0), .v (.nums 5 .u8 a1z a1)]) 100000 k spec_ShaBlock.K1 (spec_ShaBlock.N1 x0z x0 x1z x1 x7 x8)) (fun x0z x0 x7 x9 => rounds Try.prog spec_ShaBlock.Cs (finish Try.prog [] Try.f221 [.v (.nums 3 .i64 a0z a0), .v (.nums 5 .u8 a1z a1)]) 100000 k spec_ShaBlock.K2 (spec_ShaBlock.N2 x0z x0 x7 x9)) (fun x0z x0 x7 x14z x14 x15z x15 x16 => rounds Try.prog spec_ShaBlock.Cs (finish Try.prog [] Try.f221 [.v (.nums 3 .i64 a0z a0), .v (.nums 5 .u8 a1z a1)]) 100000 k spec_ShaBlock.K3 (spec_ShaBlock.N3 x0z x0 x7 x14z x14 x15z x15 x16)) (fun x0z x0 x15z x15 x21 x235 x236 => rounds Try.prog spec_ShaBlock.Cs (finish Try.prog [] Try.f221 [.v (.nums 3 .i64 a0z a0), .v (.nums 5 .u8 a1z a1)]) 100000 k spec_ShaBlock.K4 (spec_ShaBlock.N4 x0z x0 x15z x15 x21 x235 x236)) k a0z a0 a1z a1) (by kernel_rfl) (Eq.trans ?_ (spec_ShaBlock.bn spec_ShaBlock.enc some (spec_ShaBlock.l0 k) (spec_ShaBlock.l1 k) (spec_ShaBlock.l2 k) (spec_ShaBlock.l3 k) (spec_ShaBlock.l4 k) k a0z a0 a1z a1))
  simp only [ih.1, ih.2.1, ih.2.2.1, ih.2.2.2.1, ih.2.2.2.2, Option.map_some]
theorem spec_ShaBlock.sound (k : Nat) : SoundF Try.prog 221 (fun a => (spec_ShaBlock.ans k a).val) := by
  refine sound_plain (fun args res h => ?_) (fun t n => rfl)
  unfold spec_ShaBlock.ans at h
  dsimp only at h
  split at h
  · cases k with
    | zero => cases h
    | succ k =>
      unfold Ans.val at h
      rw [← spec_ShaBlock.eq] at h
      exact answer_sound mixed Try.func221 _ _ _ (k + 1) (fun j _ => tab_sound (tab_cons (spec_l04Word.sound j) (tab_cons (spec_l04Turn.sound j) (tab_cons (spec_l04K.sound j) (tab_nil))))) _ _ h
  · exact (Ans.no_val h).elim

def spec_Sha.b {R : Type} (ret : Bool × List Int → Option R) (j0 : Bool → (List Int) → Bool → (List Int) → Int → Option R) (j1 : (List Int) → Bool → (List Int) → Int → Int → Option R) (k : Nat) (a0z : Bool) (a0 : List Int) : Option R :=
  (spec_ShaInit.f k).bind fun t0 => (spec_ShaPad.f k a0z a0).bind fun t1 => j0 t0.1 t0.2 t1.1 t1.2 0
def spec_Sha.l0b {R : Type} (ret : Bool × List Int → Option R) (j0 : Bool → (List Int) → Bool → (List Int) → Int → Option R) (j1 : (List Int) → Bool → (List Int) → Int → Int → Option R) (k : Nat) (x3z : Bool) (x3 : List Int) (x4z : Bool) (x4 : List Int) (x5 : Int) : Option R :=
  cond (decide (x5 < ((x4).length : Int))) (cond (decide ((0 : Int) ≤ (RowKit.wrap64 (x5 + 64)))) (cond (decide ((RowKit.wrap64 (x5 + 64)) ≤ ((x4).length : Int))) (cond (decide ((0 : Int) ≤ x5)) (cond (decide (x5 ≤ (RowKit.wrap64 (x5 + 64)))) ((spec_ShaBlock.f k x3z x3 x4z (((x4).take ((RowKit.wrap64 (x5 + 64))).toNat).drop (x5).toNat)).bind fun t0 => j0 t0.1 t0.2 x4z x4 (RowKit.wrap64 (x5 + 64))) (none)) (none)) (none)) (none)) (j1 ([] : List Int) x3z x3 ((x3).length : Int) 0)
def spec_Sha.l1b {R : Type} (ret : Bool × List Int → Option R) (j0 : Bool → (List Int) → Bool → (List Int) → Int → Option R) (j1 : (List Int) → Bool → (List Int) → Int → Int → Option R) (k : Nat) (x6 : List Int) (x26z : Bool) (x26 : List Int) (x27 x28 : Int) : Option R :=
  cond (decide (x28 < x27)) (cond (decide ((0 : Int) ≤ x28)) (cond (decide (x28 < ((x26).length : Int))) (cond (decide ((x6).length + 4 < 140737488355328)) (j1 (x6 ++ ([(((shrI .i64 (rdI x26 x28) 24)) % 256), (((shrI .i64 (rdI x26 x28) 16)) % 256), (((shrI .i64 (rdI x26 x28) 8)) % 256), (((rdI x26 x28)) % 256)] : List Int)) x26z x26 x27 (RowKit.wrap64 (x28 + 1))) (none)) (none)) (none)) (ret (false, x6))
mutual
def spec_Sha.l0 : Nat → Bool → (List Int) → Bool → (List Int) → Int → Option (Bool × List Int)
  | 0, _, _, _, _, _ => none
  | k + 1, x3z, x3, x4z, x4, x5 => spec_Sha.l0b some (spec_Sha.l0 k) (spec_Sha.l1 k) k x3z x3 x4z x4 x5
def spec_Sha.l1 : Nat → (List Int) → Bool → (List Int) → Int → Int → Option (Bool × List Int)
  | 0, _, _, _, _, _ => none
  | k + 1, x6, x26z, x26, x27, x28 => spec_Sha.l1b some (spec_Sha.l0 k) (spec_Sha.l1 k) k x6 x26z x26 x27 x28
end
def spec_Sha.f : Nat → Bool → (List Int) → Option (Bool × List Int)
  | 0, _, _ => none
  | k + 1, a0z, a0 => spec_Sha.b some (spec_Sha.l0 k) (spec_Sha.l1 k) k a0z a0
def spec_Sha.enc (r : Bool × List Int) : Res := ⟨[.vals false [((.nums 5 .u8 r.1 r.2), true)]], []⟩
def spec_Sha.ans (k : Nat) : List Arg → Ans
  | [.v (.nums 5 .u8 a0z a0)] => ⟨spec_Sha.f k a0z a0, spec_Sha.enc⟩
  | _ => Ans.no
def spec_Sha.Cs (k : Nat) : CallSem := tab [(219, spec_ShaInit.ans k), (220, spec_ShaPad.ans k), (221, spec_ShaBlock.ans k)]
def spec_Sha.cuts : List (Nat × Keep) := [(122, ⟨[(3, none), (4, none), (5, some [])], []⟩), (506, ⟨[(6, none), (26, none), (27, some []), (28, some [])], []⟩)]
noncomputable def spec_Sha.K0 : List Fr := framesAt [true, true, true, false, true, false] (bodyOf Try.f181 spec_Sha.cuts) []
def spec_Sha.N0 (x3z : Bool) (x3 : List Int) (x4z : Bool) (x4 : List Int) (x5 : Int) : St := stOf 48 48 1 [(3, .val ⟨(.nums 3 .i64 x3z x3), [.l 3 0], true, some (.l 3 0)⟩), (4, .val ⟨(.nums 5 .u8 x4z x4), [.l 4 0], true, some (.l 4 0)⟩), (5, .val (V.s (.int .i64 x5)))] []
noncomputable def spec_Sha.K1 : List Fr := framesAt [true, true, true, true, true, false, true, false] (bodyOf Try.f181 spec_Sha.cuts) []
def spec_Sha.N1 (x6 : List Int) (x26z : Bool) (x26 : List Int) (x27 x28 : Int) : St := stOf 48 48 1 [(6, .val ⟨(.nums 5 .u8 false x6), [.l 6 0], true, some (.l 6 0)⟩), (26, .val ⟨(.nums 3 .i64 x26z x26), [.l 26 0], true, some (.l 26 0)⟩), (27, .val (V.s (.int .i64 x27))), (28, .val (V.s (.int .i64 x28)))] []
theorem spec_Sha.s0 (k : Nat) (G : List Fr → St → Option Res) (a0z : Bool) (a0 : List Int) (yx3z : Bool) (yx3 : List Int) (yx4z : Bool) (yx4 : List Int) (yx5 : Int) : resume Try.prog (spec_Sha.Cs k) G (finish Try.prog [] Try.f181 [.v (.nums 5 .u8 a0z a0)]) 100000 spec_Sha.K0 (spec_Sha.N0 yx3z yx3 yx4z yx4 yx5) = spec_Sha.l0b (fun r => some (spec_Sha.enc r)) (fun x3z x3 x4z x4 x5 => G spec_Sha.K0 (spec_Sha.N0 x3z x3 x4z x4 x5)) (fun x6 x26z x26 x27 x28 => G spec_Sha.K1 (spec_Sha.N1 x6 x26z x26 x27 x28)) k yx3z yx3 yx4z yx4 yx5 := by kernel_rfl
theorem spec_Sha.s1 (k : Nat) (G : List Fr → St → Option Res) (a0z : Bool) (a0 yx6 : List Int) (yx26z : Bool) (yx26 : List Int) (yx27 yx28 : Int) : resume Try.prog (spec_Sha.Cs k) G (finish Try.prog [] Try.f181 [.v (.nums 5 .u8 a0z a0)]) 100000 spec_Sha.K1 (spec_Sha.N1 yx6 yx26z yx26 yx27 yx28) = spec_Sha.l1b (fun r => some (spec_Sha.enc r)) (fun x3z x3 x4z x4 x5 => G spec_Sha.K0 (spec_Sha.N0 x3z x3 x4z x4 x5)) (fun x6 x26z x26 x27 x28 => G spec_Sha.K1 (spec_Sha.N1 x6 x26z x26 x27 x28)) k yx6 yx26z yx26 yx27 yx28 := by kernel_rfl
theorem spec_Sha.bn {R R' : Type} (e : R → R') (ret : Bool × List Int → Option R) (j0 : Bool → (List Int) → Bool → (List Int) → Int → Option R) (j1 : (List Int) → Bool → (List Int) → Int → Int → Option R) (k : Nat) (a0z : Bool) (a0 : List Int) : spec_Sha.b (fun r => (ret r).map e) (fun x3z x3 x4z x4 x5 => (j0 x3z x3 x4z x4 x5).map e) (fun x6 x26z x26 x27 x28 => (j1 x6 x26z x26 x27 x28).map e) k a0z a0 = (spec_Sha.b ret j0 j1 k a0z a0).map e := by
  unfold spec_Sha.b
  repeat' first | with_reducible refine nat_cond ?_ ?_ | with_reducible refine nat_bind fun _ => ?_ | rfl
theorem spec_Sha.l0n {R R' : Type} (e : R → R') (ret : Bool × List Int → Option R) (j0 : Bool → (List Int) → Bool → (List Int) → Int → Option R) (j1 : (List Int) → Bool → (List Int) → Int → Int → Option R) (k : Nat) (x3z : Bool) (x3 : List Int) (x4z : Bool) (x4 : List Int) (x5 : Int) : spec_Sha.l0b (fun r => (ret r).map e) (fun x3z x3 x4z x4 x5 => (j0 x3z x3 x4z x4 x5).map e) (fun x6 x26z x26 x27 x28 => (j1 x6 x26z x26 x27 x28).map e) k x3z x3 x4z x4 x5 = (spec_Sha.l0b ret j0 j1 k x3z x3 x4z x4 x5).map e := by
  unfold spec_Sha.l0b
  repeat' first | with_reducible refine nat_cond ?_ ?_ | with_reducible refine nat_bind fun _ => ?_ | rfl
theorem spec_Sha.l1n {R R' : Type} (e : R → R') (ret : Bool × List Int → Option R) (j0 : Bool → (List Int) → Bool → (List Int) → Int → Option R) (j1 : (List Int) → Bool → (List Int) → Int → Int → Option R) (k : Nat) (x6 : List Int) (x26z : Bool) (x26 : List Int) (x27 x28 : Int) : spec_Sha.l1b (fun r => (ret r).map e) (fun x3z x3 x4z x4 x5 => (j0 x3z x3 x4z x4 x5).map e) (fun x6 x26z x26 x27 x28 => (j1 x6 x26z x26 x27 x28).map e) k x6 x26z x26 x27 x28 = (spec_Sha.l1b ret j0 j1 k x6 x26z x26 x27 x28).map e := by
  unfold spec_Sha.l1b
  repeat' first | with_reducible refine nat_cond ?_ ?_ | with_reducible refine nat_bind fun _ => ?_ | rfl
theorem spec_Sha.rq (a0z : Bool) (a0 : List Int) : ∀ k, (∀ (x3z : Bool) (x3 : List Int) (x4z : Bool) (x4 : List Int) (x5 : Int), rounds Try.prog spec_Sha.Cs (finish Try.prog [] Try.f181 [.v (.nums 5 .u8 a0z a0)]) 100000 k spec_Sha.K0 (spec_Sha.N0 x3z x3 x4z x4 x5) = (spec_Sha.l0 k x3z x3 x4z x4 x5).map spec_Sha.enc) ∧ (∀ (x6 : List Int) (x26z : Bool) (x26 : List Int) (x27 x28 : Int), rounds Try.prog spec_Sha.Cs (finish Try.prog [] Try.f181 [.v (.nums 5 .u8 a0z a0)]) 100000 k spec_Sha.K1 (spec_Sha.N1 x6 x26z x26 x27 x28) = (spec_Sha.l1 k x6 x26z x26 x27 x28).map spec_Sha.enc)
  | 0 => ⟨fun _ _ _ _ _ => rfl, fun _ _ _ _ _ => rfl⟩
  | k + 1 => by
    have ih := spec_Sha.rq a0z a0 k
    refine ⟨fun _ _ _ _ _ => ?_, fun _ _ _ _ _ => ?_⟩
    · refine (spec_Sha.s0 k _ a0z a0 _ _ _ _ _).trans (Eq.trans ?_ (spec_Sha.l0n spec_Sha.enc some (spec_Sha.l0 k) (spec_Sha.l1 k) k _ _ _ _ _))
      simp only [ih.1, ih.2, Option.map_some]
    · refine (spec_Sha.s1 k _ a0z a0 _ _ _ _ _).trans (Eq.trans ?_ (spec_Sha.l1n spec_Sha.enc some (spec_Sha.l0 k) (spec_Sha.l1 k) k _ _ _ _ _))
      simp only [ih.1, ih.2, Option.map_some]
theorem spec_Sha.eq (k : Nat) (a0z : Bool) (a0 : List Int) : answer Try.prog spec_Sha.Cs 100000 spec_Sha.cuts [] Try.f181 (k + 1) [.v (.nums 5 .u8 a0z a0)] = (spec_Sha.f (k + 1) a0z a0).map spec_Sha.enc := by
  have ih := spec_Sha.rq a0z a0 k
  refine Eq.trans (b := spec_Sha.b (fun r => some (spec_Sha.enc r)) (fun x3z x3 x4z x4 x5 => rounds Try.prog spec_Sha.Cs (finish Try.prog [] Try.f181 [.v (.nums 5 .u8 a0z a0)]) 100000 k spec_Sha.K0 (spec_Sha.N0 x3z x3 x4z x4 x5)) (fun x6 x26z x26 x27 x28 => rounds Try.prog spec_Sha.Cs (finish Try.prog [] Try.f181 [.v (.nums 5 .u8 a0z a0)]) 100000 k spec_Sha.K1 (spec_Sha.N1 x6 x26z x26 x27 x28)) k a0z a0) (by kernel_rfl) (Eq.trans ?_ (spec_Sha.bn spec_Sha.enc some (spec_Sha.l0 k) (spec_Sha.l1 k) k a0z a0))
  simp only [ih.1, ih.2, Option.map_some]
theorem spec_Sha.sound (k : Nat) : SoundF Try.prog 181 (fun a => (spec_Sha.ans k a).val) := by
  refine sound_plain (fun args res h => ?_) (fun t n => rfl)
  unfold spec_Sha.ans at h
  dsimp only at h
  split at h
  · cases k with
    | zero => cases h
    | succ k =>
      unfold Ans.val at h
      rw [← spec_Sha.eq] at h
      exact answer_sound mixed Try.func181 _ _ _ (k + 1) (fun j _ => tab_sound (tab_cons (spec_ShaInit.sound j) (tab_cons (spec_ShaPad.sound j) (tab_cons (spec_ShaBlock.sound j) (tab_nil))))) _ _ h
  · exact (Ans.no_val h).elim

def spec_HeadHash.b {R : Type} (ret : Bool × List Int → Option R) (k : Nat) (a0_0 a0_1 : Int) (a0_2 a0_3 : Int) (a0_4 a1_0 : Int) (a1_1 a1_2 : Int) (a1_3z : Bool) (a1_3 : List Int) (a1_4z : Bool) (a1_4 : List Int) (a1_5 a1_6 : Int) (a1_7z : Bool) (a1_7 : List Int) (a1_8z : Bool) (a1_8 : List Int) (a1_9z : Bool) (a1_9 : List T) : Option R :=
  (spec_PutHead.f k a0_0 a0_1 a0_2 a0_3 a0_4 false ([72] : List Int) a1_0 a1_1 a1_2 a1_3z a1_3 a1_4z a1_4 a1_5 a1_6 a1_7z a1_7 a1_8z a1_8 a1_9z a1_9).bind fun t0 => cond (!t0.2.2) (ret (true, ([] : List Int))) ((spec_Sha.f k t0.1 t0.2.1).bind fun t1 => ret (t1.1, t1.2))
def spec_HeadHash.f : Nat → Int → Int → Int → Int → Int → Int → Int → Int → Bool → (List Int) → Bool → (List Int) → Int → Int → Bool → (List Int) → Bool → (List Int) → Bool → (List T) → Option (Bool × List Int)
  | 0, _, _, _, _, _, _, _, _, _, _, _, _, _, _, _, _, _, _, _, _ => none
  | k + 1, a0_0, a0_1, a0_2, a0_3, a0_4, a1_0, a1_1, a1_2, a1_3z, a1_3, a1_4z, a1_4, a1_5, a1_6, a1_7z, a1_7, a1_8z, a1_8, a1_9z, a1_9 => spec_HeadHash.b some k a0_0 a0_1 a0_2 a0_3 a0_4 a1_0 a1_1 a1_2 a1_3z a1_3 a1_4z a1_4 a1_5 a1_6 a1_7z a1_7 a1_8z a1_8 a1_9z a1_9
def spec_HeadHash.enc (r : Bool × List Int) : Res := ⟨[.vals false [((.nums 5 .u8 r.1 r.2), true)]], []⟩
def spec_HeadHash.ans (k : Nat) : List Arg → Ans
  | [.v (.agg [(.int .i64 a0_0), (.int .i64 a0_1), (.int .i64 a0_2), (.int .i64 a0_3), (.int .i64 a0_4)]), .v (.agg [(.int .i64 a1_0), (.int .i64 a1_1), (.int .i64 a1_2), (.nums 5 .u8 a1_3z a1_3), (.nums 5 .u8 a1_4z a1_4), (.int .i64 a1_5), (.int .i64 a1_6), (.nums 5 .u8 a1_7z a1_7), (.nums 5 .u8 a1_8z a1_8), (.sl 22 a1_9z a1_9)])] => ⟨spec_HeadHash.f k a0_0 a0_1 a0_2 a0_3 a0_4 a1_0 a1_1 a1_2 a1_3z a1_3 a1_4z a1_4 a1_5 a1_6 a1_7z a1_7 a1_8z a1_8 a1_9z a1_9, spec_HeadHash.enc⟩
  | _ => Ans.no
def spec_HeadHash.Cs (k : Nat) : CallSem := tab [(180, spec_PutHead.ans k), (181, spec_Sha.ans k)]
theorem spec_HeadHash.eq (k : Nat) (a0_0 a0_1 : Int) (a0_2 a0_3 : Int) (a0_4 a1_0 : Int) (a1_1 a1_2 : Int) (a1_3z : Bool) (a1_3 : List Int) (a1_4z : Bool) (a1_4 : List Int) (a1_5 a1_6 : Int) (a1_7z : Bool) (a1_7 : List Int) (a1_8z : Bool) (a1_8 : List Int) (a1_9z : Bool) (a1_9 : List T) : answer Try.prog spec_HeadHash.Cs 100000 [] [] Try.f130 (k + 1) [.v (.agg [(.int .i64 a0_0), (.int .i64 a0_1), (.int .i64 a0_2), (.int .i64 a0_3), (.int .i64 a0_4)]), .v (.agg [(.int .i64 a1_0), (.int .i64 a1_1), (.int .i64 a1_2), (.nums 5 .u8 a1_3z a1_3), (.nums 5 .u8 a1_4z a1_4), (.int .i64 a1_5), (.int .i64 a1_6), (.nums 5 .u8 a1_7z a1_7), (.nums 5 .u8 a1_8z a1_8), (.sl 22 a1_9z a1_9)])] = (spec_HeadHash.f (k + 1) a0_0 a0_1 a0_2 a0_3 a0_4 a1_0 a1_1 a1_2 a1_3z a1_3 a1_4z a1_4 a1_5 a1_6 a1_7z a1_7 a1_8z a1_8 a1_9z a1_9).map spec_HeadHash.enc := by
  refine Eq.trans (b := spec_HeadHash.b (fun r => some (spec_HeadHash.enc r)) k a0_0 a0_1 a0_2 a0_3 a0_4 a1_0 a1_1 a1_2 a1_3z a1_3 a1_4z a1_4 a1_5 a1_6 a1_7z a1_7 a1_8z a1_8 a1_9z a1_9) (by kernel_rfl) ?_
  show _ = (spec_HeadHash.b some k a0_0 a0_1 a0_2 a0_3 a0_4 a1_0 a1_1 a1_2 a1_3z a1_3 a1_4z a1_4 a1_5 a1_6 a1_7z a1_7 a1_8z a1_8 a1_9z a1_9).map spec_HeadHash.enc
  unfold spec_HeadHash.b
  repeat' first | with_reducible refine nat_cond ?_ ?_ | with_reducible refine nat_bind fun _ => ?_ | rfl
theorem spec_HeadHash.sound (k : Nat) : SoundF Try.prog 130 (fun a => (spec_HeadHash.ans k a).val) := by
  refine sound_plain (fun args res h => ?_) (fun t n => rfl)
  unfold spec_HeadHash.ans at h
  dsimp only at h
  split at h
  · cases k with
    | zero => cases h
    | succ k =>
      unfold Ans.val at h
      rw [← spec_HeadHash.eq] at h
      exact answer_sound mixed Try.func130 _ _ _ (k + 1) (fun j _ => tab_sound (tab_cons (spec_PutHead.sound j) (tab_cons (spec_Sha.sound j) (tab_nil)))) _ _ h
  · exact (Ans.no_val h).elim

def spec_ForestOk.b {R : Type} (ret : Bool → Option R) (j0 : Bool → (List T) → Int → Int → Int → Int → Int → Int → Int → Bool → (List T) → Option R) (j1 : Bool → (List T) → Int → Int → Bool → (List T) → Int → Int → Int → Int → Int → Int → Int → Bool → (List T) → Int → Int → Int → Bool → (List Int) → Bool → (List Int) → Int → Int → Bool → (List Int) → Bool → (List Int) → Bool → (List T) → Option R) (k : Nat) (a0_0 a0_1 : Int) (a0_2 a0_3 a0_4 : Int) (a0_5z : Bool) (a0_5 : List T) : Option R :=
  (spec_LimitsOk.f k a0_0 a0_1 a0_2 a0_3 a0_4).bind fun t0 => cond (!t0) (ret false) (cond (decide (((a0_5).length : Int) > 10)) (ret false) (j0 a0_5z a0_5 ((a0_5).length : Int) 0 a0_0 a0_1 a0_2 a0_3 a0_4 a0_5z a0_5))
def spec_ForestOk.l0b {R : Type} (ret : Bool → Option R) (j0 : Bool → (List T) → Int → Int → Int → Int → Int → Int → Int → Bool → (List T) → Option R) (j1 : Bool → (List T) → Int → Int → Bool → (List T) → Int → Int → Int → Int → Int → Int → Int → Bool → (List T) → Int → Int → Int → Bool → (List Int) → Bool → (List Int) → Int → Int → Bool → (List Int) → Bool → (List Int) → Bool → (List T) → Option R) (k : Nat) (x18z : Bool) (x18 : List T) (x19 x20 : Int) (c1_0 c1_1 : Int) (c1_2 c1_3 c1_4 : Int) (c1_5z : Bool) (c1_5 : List T) : Option R :=
  cond (decide (x20 < x19)) (cond (decide ((0 : Int) ≤ x20)) (cond (decide (x20 < ((x18).length : Int))) ((spec_HeadOk.f k c1_0 c1_1 c1_2 c1_3 c1_4 (((((x18).getD (x20).toNat .bad).cells.getD 0 .bad)).toInt) (((((x18).getD (x20).toNat .bad).cells.getD 1 .bad)).toInt) (((((x18).getD (x20).toNat .bad).cells.getD 2 .bad)).toInt) (((((x18).getD (x20).toNat .bad).cells.getD 3 .bad)).isNil) (((((x18).getD (x20).toNat .bad).cells.getD 3 .bad)).toNums) (((((x18).getD (x20).toNat .bad).cells.getD 4 .bad)).isNil) (((((x18).getD (x20).toNat .bad).cells.getD 4 .bad)).toNums) (((((x18).getD (x20).toNat .bad).cells.getD 5 .bad)).toInt) (((((x18).getD (x20).toNat .bad).cells.getD 6 .bad)).toInt) (((((x18).getD (x20).toNat .bad).cells.getD 7 .bad)).isNil) (((((x18).getD (x20).toNat .bad).cells.getD 7 .bad)).toNums) (((((x18).getD (x20).toNat .bad).cells.getD 8 .bad)).isNil) (((((x18).getD (x20).toNat .bad).cells.getD 8 .bad)).toNums) (((((x18).getD (x20).toNat .bad).cells.getD 9 .bad)).isNil) (((((x18).getD (x20).toNat .bad).cells.getD 9 .bad)).toList)).bind fun t0 => cond (!t0) (ret false) (cond (decide ((0 : Int) ≤ x20)) (cond (decide (x20 ≤ ((c1_5).length : Int))) (cond (decide ((0 : Int) ≤ x20)) (j1 x18z x18 x19 x20 c1_5z (((c1_5).take (x20).toNat).drop 0) (((((c1_5).take (x20).toNat).drop 0)).length : Int) 0 c1_0 c1_1 c1_2 c1_3 c1_4 c1_5z c1_5 (((((x18).getD (x20).toNat .bad).cells.getD 0 .bad)).toInt) (((((x18).getD (x20).toNat .bad).cells.getD 1 .bad)).toInt) (((((x18).getD (x20).toNat .bad).cells.getD 2 .bad)).toInt) (((((x18).getD (x20).toNat .bad).cells.getD 3 .bad)).isNil) (((((x18).getD (x20).toNat .bad).cells.getD 3 .bad)).toNums) (((((x18).getD (x20).toNat .bad).cells.getD 4 .bad)).isNil) (((((x18).getD (x20).toNat .bad).cells.getD 4 .bad)).toNums) (((((x18).getD (x20).toNat .bad).cells.getD 5 .bad)).toInt) (((((x18).getD (x20).toNat .bad).cells.getD 6 .bad)).toInt) (((((x18).getD (x20).toNat .bad).cells.getD 7 .bad)).isNil) (((((x18).getD (x20).toNat .bad).cells.getD 7 .bad)).toNums) (((((x18).getD (x20).toNat .bad).cells.getD 8 .bad)).isNil) (((((x18).getD (x20).toNat .bad).cells.getD 8 .bad)).toNums) (((((x18).getD (x20).toNat .bad).cells.getD 9 .bad)).isNil) (((((x18).getD (x20).toNat .bad).cells.getD 9 .bad)).toList)) (none)) (none)) (none))) (none)) (none)) (ret true)
def spec_ForestOk.l1b {R : Type} (ret : Bool → Option R) (j0 : Bool → (List T) → Int → Int → Int → Int → Int → Int → Int → Bool → (List T) → Option R) (j1 : Bool → (List T) → Int → Int → Bool → (List T) → Int → Int → Int → Int → Int → Int → Int → Bool → (List T) → Int → Int → Int → Bool → (List Int) → Bool → (List Int) → Int → Int → Bool → (List Int) → Bool → (List Int) → Bool → (List T) → Option R) (k : Nat) (x18z : Bool) (x18 : List T) (x19 x20 : Int) (x33z : Bool) (x33 : List T) (x34 x35 : Int) (c1_0 c1_1 : Int) (c1_2 c1_3 c1_4 : Int) (c1_5z : Bool) (c1_5 : List T) (c4_0 c4_1 c4_2 : Int) (c4_3z : Bool) (c4_3 : List Int) (c4_4z : Bool) (c4_4 : List Int) (c4_5 c4_6 : Int) (c4_7z : Bool) (c4_7 : List Int) (c4_8z : Bool) (c4_8 : List Int) (c4_9z : Bool) (c4_9 : List T) : Option R :=
  cond (decide (x35 < x34)) (cond (decide ((0 : Int) ≤ x35)) (cond (decide (x35 < ((x33).length : Int))) ((spec_HeadHash.f k c1_0 c1_1 c1_2 c1_3 c1_4 (((((x33).getD (x35).toNat .bad).cells.getD 0 .bad)).toInt) (((((x33).getD (x35).toNat .bad).cells.getD 1 .bad)).toInt) (((((x33).getD (x35).toNat .bad).cells.getD 2 .bad)).toInt) (((((x33).getD (x35).toNat .bad).cells.getD 3 .bad)).isNil) (((((x33).getD (x35).toNat .bad).cells.getD 3 .bad)).toNums) (((((x33).getD (x35).toNat .bad).cells.getD 4 .bad)).isNil) (((((x33).getD (x35).toNat .bad).cells.getD 4 .bad)).toNums) (((((x33).getD (x35).toNat .bad).cells.getD 5 .bad)).toInt) (((((x33).getD (x35).toNat .bad).cells.getD 6 .bad)).toInt) (((((x33).getD (x35).toNat .bad).cells.getD 7 .bad)).isNil) (((((x33).getD (x35).toNat .bad).cells.getD 7 .bad)).toNums) (((((x33).getD (x35).toNat .bad).cells.getD 8 .bad)).isNil) (((((x33).getD (x35).toNat .bad).cells.getD 8 .bad)).toNums) (((((x33).getD (x35).toNat .bad).cells.getD 9 .bad)).isNil) (((((x33).getD (x35).toNat .bad).cells.getD 9 .bad)).toList)).bind fun t0 => (spec_HeadHash.f k c1_0 c1_1 c1_2 c1_3 c1_4 c4_0 c4_1 c4_2 c4_3z c4_3 c4_4z c4_4 c4_5 c4_6 c4_7z c4_7 c4_8z c4_8 c4_9z c4_9).bind fun t1 => (spec_SameBytes.f k t0.1 t0.2 t1.1 t1.2).bind fun t2 => cond t2 (ret false) (j1 x18z x18 x19 x20 x33z x33 x34 (RowKit.wrap64 (x35 + 1)) c1_0 c1_1 c1_2 c1_3 c1_4 c1_5z c1_5 c4_0 c4_1 c4_2 c4_3z c4_3 c4_4z c4_4 c4_5 c4_6 c4_7z c4_7 c4_8z c4_8 c4_9z c4_9)) (none)) (none)) (j0 x18z x18 x19 (RowKit.wrap64 (x20 + 1)) c1_0 c1_1 c1_2 c1_3 c1_4 c1_5z c1_5)
mutual
def spec_ForestOk.l0 : Nat → Bool → (List T) → Int → Int → Int → Int → Int → Int → Int → Bool → (List T) → Option Bool
  | 0, _, _, _, _, _, _, _, _, _, _, _ => none
  | k + 1, x18z, x18, x19, x20, c1_0, c1_1, c1_2, c1_3, c1_4, c1_5z, c1_5 => spec_ForestOk.l0b some (spec_ForestOk.l0 k) (spec_ForestOk.l1 k) k x18z x18 x19 x20 c1_0 c1_1 c1_2 c1_3 c1_4 c1_5z c1_5
def spec_ForestOk.l1 : Nat → Bool → (List T) → Int → Int → Bool → (List T) → Int → Int → Int → Int → Int → Int → Int → Bool → (List T) → Int → Int → Int → Bool → (List Int) → Bool → (List Int) → Int → Int → Bool → (List Int) → Bool → (List Int) → Bool → (List T) → Option Bool
  | 0, _, _, _, _, _, _, _, _, _, _, _, _, _, _, _, _, _, _, _, _, _, _, _, _, _, _, _, _, _, _ => none
  | k + 1, x18z, x18, x19, x20, x33z, x33, x34, x35, c1_0, c1_1, c1_2, c1_3, c1_4, c1_5z, c1_5, c4_0, c4_1, c4_2, c4_3z, c4_3, c4_4z, c4_4, c4_5, c4_6, c4_7z, c4_7, c4_8z, c4_8, c4_9z, c4_9 => spec_ForestOk.l1b some (spec_ForestOk.l0 k) (spec_ForestOk.l1 k) k x18z x18 x19 x20 x33z x33 x34 x35 c1_0 c1_1 c1_2 c1_3 c1_4 c1_5z c1_5 c4_0 c4_1 c4_2 c4_3z c4_3 c4_4z c4_4 c4_5 c4_6 c4_7z c4_7 c4_8z c4_8 c4_9z c4_9
end
def spec_ForestOk.f : Nat → Int → Int → Int → Int → Int → Bool → (List T) → Option Bool
  | 0, _, _, _, _, _, _, _ => none
  | k + 1, a0_0, a0_1, a0_2, a0_3, a0_4, a0_5z, a0_5 => spec_ForestOk.b some (spec_ForestOk.l0 k) (spec_ForestOk.l1 k) k a0_0 a0_1 a0_2 a0_3 a0_4 a0_5z a0_5
def spec_ForestOk.enc (r : Bool) : Res := ⟨[.vals false [((.bool r), true)]], []⟩
def spec_ForestOk.ans (k : Nat) : List Arg → Ans
  | [.v (.agg [(.int .i64 a0_0), (.int .i64 a0_1), (.int .i64 a0_2), (.int .i64 a0_3), (.int .i64 a0_4), (.sl 79 a0_5z a0_5)])] => ⟨spec_ForestOk.f k a0_0 a0_1 a0_2 a0_3 a0_4 a0_5z a0_5, spec_ForestOk.enc⟩
  | _ => Ans.no
def spec_ForestOk.Cs (k : Nat) : CallSem := tab [(179, spec_LimitsOk.ans k), (157, spec_HeadOk.ans k), (115, spec_SameBytes.ans k), (130, spec_HeadHash.ans k)]
def spec_ForestOk.cuts : List (Nat × Keep) := [(58, ⟨[(1, some []), (18, some []), (19, some []), (20, some [])], [(1, [some [], some [], some [], some [], some [], some []])]⟩), (29902, ⟨[(1, some []), (4, some []), (18, some []), (19, some []), (20, some []), (33, some []), (34, some []), (35, some [])], [(1, [some [], some [], some [], some [], some [], some []]), (4, [some [], some [], some [], some [], some [], some [], some [], some [], some [], some []])]⟩)]
noncomputable def spec_ForestOk.K0 : List Fr := framesAt [true, true, false, true, false] (bodyOf Try.f128 spec_ForestOk.cuts) []
def spec_ForestOk.N0 (x18z : Bool) (x18 : List T) (x19 x20 : Int) (c1_0 c1_1 : Int) (c1_2 c1_3 c1_4 : Int) (c1_5z : Bool) (c1_5 : List T) : St := stOf 50 50 1 [(1, .bp 1 0), (18, .val ⟨(.sl 79 x18z x18), [], false, none⟩), (19, .val (V.s (.int .i64 x19))), (20, .val (V.s (.int .i64 x20)))] [(1, .cells [V.s (.int .i64 c1_0), V.s (.int .i64 c1_1), V.s (.int .i64 c1_2), V.s (.int .i64 c1_3), V.s (.int .i64 c1_4), ⟨(.sl 79 c1_5z c1_5), [], false, none⟩])]
noncomputable def spec_ForestOk.K1 : List Fr := framesAt [true, true, false, true, false, false, true, true, false, false, true, true, true, false] (bodyOf Try.f128 spec_ForestOk.cuts) []
def spec_ForestOk.N1 (x18z : Bool) (x18 : List T) (x19 x20 : Int) (x33z : Bool) (x33 : List T) (x34 x35 : Int) (c1_0 c1_1 : Int) (c1_2 c1_3 c1_4 : Int) (c1_5z : Bool) (c1_5 : List T) (c4_0 c4_1 c4_2 : Int) (c4_3z : Bool) (c4_3 : List Int) (c4_4z : Bool) (c4_4 : List Int) (c4_5 c4_6 : Int) (c4_7z : Bool) (c4_7 : List Int) (c4_8z : Bool) (c4_8 : List Int) (c4_9z : Bool) (c4_9 : List T) : St := stOf 50 50 1 [(1, .bp 1 0), (4, .bp 4 0), (18, .val ⟨(.sl 79 x18z x18), [], false, none⟩), (19, .val (V.s (.int .i64 x19))), (20, .val (V.s (.int .i64 x20))), (33, .val ⟨(.sl 79 x33z x33), [], false, none⟩), (34, .val (V.s (.int .i64 x34))), (35, .val (V.s (.int .i64 x35)))] [(1, .cells [V.s (.int .i64 c1_0), V.s (.int .i64 c1_1), V.s (.int .i64 c1_2), V.s (.int .i64 c1_3), V.s (.int .i64 c1_4), ⟨(.sl 79 c1_5z c1_5), [], false, none⟩]), (4, .cells [V.s (.int .i64 c4_0), V.s (.int .i64 c4_1), V.s (.int .i64 c4_2), ⟨(.nums 5 .u8 c4_3z c4_3), [], false, none⟩, ⟨(.nums 5 .u8 c4_4z c4_4), [], false, none⟩, V.s (.int .i64 c4_5), V.s (.int .i64 c4_6), ⟨(.nums 5 .u8 c4_7z c4_7), [], false, none⟩, ⟨(.nums 5 .u8 c4_8z c4_8), [], false, none⟩, ⟨(.sl 22 c4_9z c4_9), [], false, none⟩])]
theorem spec_ForestOk.s0 (k : Nat) (G : List Fr → St → Option Res) (a0_0 a0_1 : Int) (a0_2 a0_3 a0_4 : Int) (a0_5z : Bool) (a0_5 : List T) (yx18z : Bool) (yx18 : List T) (yx19 yx20 : Int) (yc1_0 yc1_1 : Int) (yc1_2 yc1_3 yc1_4 : Int) (yc1_5z : Bool) (yc1_5 : List T) : resume Try.prog (spec_ForestOk.Cs k) G (finish Try.prog [] Try.f128 [.v (.agg [(.int .i64 a0_0), (.int .i64 a0_1), (.int .i64 a0_2), (.int .i64 a0_3), (.int .i64 a0_4), (.sl 79 a0_5z a0_5)])]) 100000 spec_ForestOk.K0 (spec_ForestOk.N0 yx18z yx18 yx19 yx20 yc1_0 yc1_1 yc1_2 yc1_3 yc1_4 yc1_5z yc1_5) = spec_ForestOk.l0b (fun r => some (spec_ForestOk.enc r)) (fun x18z x18 x19 x20 c1_0 c1_1 c1_2 c1_3 c1_4 c1_5z c1_5 => G spec_ForestOk.K0 (spec_ForestOk.N0 x18z x18 x19 x20 c1_0 c1_1 c1_2 c1_3 c1_4 c1_5z c1_5)) (fun x18z x18 x19 x20 x33z x33 x34 x35 c1_0 c1_1 c1_2 c1_3 c1_4 c1_5z c1_5 c4_0 c4_1 c4_2 c4_3z c4_3 c4_4z c4_4 c4_5 c4_6 c4_7z c4_7 c4_8z c4_8 c4_9z c4_9 => G spec_ForestOk.K1 (spec_ForestOk.N1 x18z x18 x19 x20 x33z x33 x34 x35 c1_0 c1_1 c1_2 c1_3 c1_4 c1_5z c1_5 c4_0 c4_1 c4_2 c4_3z c4_3 c4_4z c4_4 c4_5 c4_6 c4_7z c4_7 c4_8z c4_8 c4_9z c4_9)) k yx18z yx18 yx19 yx20 yc1_0 yc1_1 yc1_2 yc1_3 yc1_4 yc1_5z yc1_5 := by kernel_rfl
theorem spec_ForestOk.s1 (k : Nat) (G : List Fr → St → Option Res) (a0_0 a0_1 : Int) (a0_2 a0_3 a0_4 : Int) (a0_5z : Bool) (a0_5 : List T) (yx18z : Bool) (yx18 : List T) (yx19 yx20 : Int) (yx33z : Bool) (yx33 : List T) (yx34 yx35 : Int) (yc1_0 yc1_1 : Int) (yc1_2 yc1_3 yc1_4 : Int) (yc1_5z : Bool) (yc1_5 : List T) (yc4_0 yc4_1 yc4_2 : Int) (yc4_3z : Bool) (yc4_3 : List Int) (yc4_4z : Bool) (yc4_4 : List Int) (yc4_5 yc4_6 : Int) (yc4_7z : Bool) (yc4_7 : List Int) (yc4_8z : Bool) (yc4_8 : List Int) (yc4_9z : Bool) (yc4_9 : List T) : resume Try.prog (spec_ForestOk.Cs k) G (finish Try.prog [] Try.f128 [.v (.agg [(.int .i64 a0_0), (.int .i64 a0_1), (.int .i64 a0_2), (.int .i64 a0_3), (.int .i64 a0_4), (.sl 79 a0_5z a0_5)])]) 100000 spec_ForestOk.K1 (spec_ForestOk.N1 yx18z yx18 yx19 yx20 yx33z yx33 yx34 yx35 yc1_0 yc1_1 yc1_2 yc1_3 yc1_4 yc1_5z yc1_5 yc4_0 yc4_1 yc4_2 yc4_3z yc4_3 yc4_4z yc4_4 yc4_5 yc4_6 yc4_7z yc4_7 yc4_8z yc4_8 yc4_9z yc4_9) = spec_ForestOk.l1b (fun r => some (spec_ForestOk.enc r)) (fun x18z x18 x19 x20 c1_0 c1_1 c1_2 c1_3 c1_4 c1_5z c1_5 => G spec_ForestOk.K0 (spec_ForestOk.N0 x18z x18 x19 x20 c1_0 c1_1 c1_2 c1_3 c1_4 c1_5z c1_5)) (fun x18z x18 x19 x20 x33z x33 x34 x35 c1_0 c1_1 c1_2 c1_3 c1_4 c1_5z c1_5 c4_0 c4_1 c4_2 c4_3z c4_3 c4_4z c4_4 c4_5 c4_6 c4_7z c4_7 c4_8z c4_8 c4_9z c4_9 => G spec_ForestOk.K1 (spec_ForestOk.N1 x18z x18 x19 x20 x33z x33 x34 x35 c1_0 c1_1 c1_2 c1_3 c1_4 c1_5z c1_5 c4_0 c4_1 c4_2 c4_3z c4_3 c4_4z c4_4 c4_5 c4_6 c4_7z c4_7 c4_8z c4_8 c4_9z c4_9)) k yx18z yx18 yx19 yx20 yx33z yx33 yx34 yx35 yc1_0 yc1_1 yc1_2 yc1_3 yc1_4 yc1_5z yc1_5 yc4_0 yc4_1 yc4_2 yc4_3z yc4_3 yc4_4z yc4_4 yc4_5 yc4_6 yc4_7z yc4_7 yc4_8z yc4_8 yc4_9z yc4_9 := by kernel_rfl
theorem spec_ForestOk.bn {R R' : Type} (e : R → R') (ret : Bool → Option R) (j0 : Bool → (List T) → Int → Int → Int → Int → Int → Int → Int → Bool → (List T) → Option R) (j1 : Bool → (List T) → Int → Int → Bool → (List T) → Int → Int → Int → Int → Int → Int → Int → Bool → (List T) → Int → Int → Int → Bool → (List Int) → Bool → (List Int) → Int → Int → Bool → (List Int) → Bool → (List Int) → Bool → (List T) → Option R) (k : Nat) (a0_0 a0_1 : Int) (a0_2 a0_3 a0_4 : Int) (a0_5z : Bool) (a0_5 : List T) : spec_ForestOk.b (fun r => (ret r).map e) (fun x18z x18 x19 x20 c1_0 c1_1 c1_2 c1_3 c1_4 c1_5z c1_5 => (j0 x18z x18 x19 x20 c1_0 c1_1 c1_2 c1_3 c1_4 c1_5z c1_5).map e) (fun x18z x18 x19 x20 x33z x33 x34 x35 c1_0 c1_1 c1_2 c1_3 c1_4 c1_5z c1_5 c4_0 c4_1 c4_2 c4_3z c4_3 c4_4z c4_4 c4_5 c4_6 c4_7z c4_7 c4_8z c4_8 c4_9z c4_9 => (j1 x18z x18 x19 x20 x33z x33 x34 x35 c1_0 c1_1 c1_2 c1_3 c1_4 c1_5z c1_5 c4_0 c4_1 c4_2 c4_3z c4_3 c4_4z c4_4 c4_5 c4_6 c4_7z c4_7 c4_8z c4_8 c4_9z c4_9).map e) k a0_0 a0_1 a0_2 a0_3 a0_4 a0_5z a0_5 = (spec_ForestOk.b ret j0 j1 k a0_0 a0_1 a0_2 a0_3 a0_4 a0_5z a0_5).map e := by
  unfold spec_ForestOk.b
  repeat' first | with_reducible refine nat_cond ?_ ?_ | with_reducible refine nat_bind fun _ => ?_ | rfl
theorem spec_ForestOk.l0n {R R' : Type} (e : R → R') (ret : Bool → Option R) (j0 : Bool → (List T) → Int → Int → Int → Int → Int → Int → Int → Bool → (List T) → Option R) (j1 : Bool → (List T) → Int → Int → Bool → (List T) → Int → Int → Int → Int → Int → Int → Int → Bool → (List T) → Int → Int → Int → Bool → (List Int) → Bool → (List Int) → Int → Int → Bool → (List Int) → Bool → (List Int) → Bool → (List T) → Option R) (k : Nat) (x18z : Bool) (x18 : List T) (x19 x20 : Int) (c1_0 c1_1 : Int) (c1_2 c1_3 c1_4 : Int) (c1_5z : Bool) (c1_5 : List T) : spec_ForestOk.l0b (fun r => (ret r).map e) (fun x18z x18 x19 x20 c1_0 c1_1 c1_2 c1_3 c1_4 c1_5z c1_5 => (j0 x18z x18 x19 x20 c1_0 c1_1 c1_2 c1_3 c1_4 c1_5z c1_5).map e) (fun x18z x18 x19 x20 x33z x33 x34 x35 c1_0 c1_1 c1_2 c1_3 c1_4 c1_5z c1_5 c4_0 c4_1 c4_2 c4_3z c4_3 c4_4z c4_4 c4_5 c4_6 c4_7z c4_7 c4_8z c4_8 c4_9z c4_9 => (j1 x18z x18 x19 x20 x33z x33 x34 x35 c1_0 c1_1 c1_2 c1_3 c1_4 c1_5z c1_5 c4_0 c4_1 c4_2 c4_3z c4_3 c4_4z c4_4 c4_5 c4_6 c4_7z c4_7 c4_8z c4_8 c4_9z c4_9).map e) k x18z x18 x19 x20 c1_0 c1_1 c1_2 c1_3 c1_4 c1_5z c1_5 = (spec_ForestOk.l0b ret j0 j1 k x18z x18 x19 x20 c1_0 c1_1 c1_2 c1_3 c1_4 c1_5z c1_5).map e := by
  unfold spec_ForestOk.l0b
  repeat' first | with_reducible refine nat_cond ?_ ?_ | with_reducible refine nat_bind fun _ => ?_ | rfl
theorem spec_ForestOk.l1n {R R' : Type} (e : R → R') (ret : Bool → Option R) (j0 : Bool → (List T) → Int → Int → Int → Int → Int → Int → Int → Bool → (List T) → Option R) (j1 : Bool → (List T) → Int → Int → Bool → (List T) → Int → Int → Int → Int → Int → Int → Int → Bool → (List T) → Int → Int → Int → Bool → (List Int) → Bool → (List Int) → Int → Int → Bool → (List Int) → Bool → (List Int) → Bool → (List T) → Option R) (k : Nat) (x18z : Bool) (x18 : List T) (x19 x20 : Int) (x33z : Bool) (x33 : List T) (x34 x35 : Int) (c1_0 c1_1 : Int) (c1_2 c1_3 c1_4 : Int) (c1_5z : Bool) (c1_5 : List T) (c4_0 c4_1 c4_2 : Int) (c4_3z : Bool) (c4_3 : List Int) (c4_4z : Bool) (c4_4 : List Int) (c4_5 c4_6 : Int) (c4_7z : Bool) (c4_7 : List Int) (c4_8z : Bool) (c4_8 : List Int) (c4_9z : Bool) (c4_9 : List T) : spec_ForestOk.l1b (fun r => (ret r).map e) (fun x18z x18 x19 x20 c1_0 c1_1 c1_2 c1_3 c1_4 c1_5z c1_5 => (j0 x18z x18 x19 x20 c1_0 c1_1 c1_2 c1_3 c1_4 c1_5z c1_5).map e) (fun x18z x18 x19 x20 x33z x33 x34 x35 c1_0 c1_1 c1_2 c1_3 c1_4 c1_5z c1_5 c4_0 c4_1 c4_2 c4_3z c4_3 c4_4z c4_4 c4_5 c4_6 c4_7z c4_7 c4_8z c4_8 c4_9z c4_9 => (j1 x18z x18 x19 x20 x33z x33 x34 x35 c1_0 c1_1 c1_2 c1_3 c1_4 c1_5z c1_5 c4_0 c4_1 c4_2 c4_3z c4_3 c4_4z c4_4 c4_5 c4_6 c4_7z c4_7 c4_8z c4_8 c4_9z c4_9).map e) k x18z x18 x19 x20 x33z x33 x34 x35 c1_0 c1_1 c1_2 c1_3 c1_4 c1_5z c1_5 c4_0 c4_1 c4_2 c4_3z c4_3 c4_4z c4_4 c4_5 c4_6 c4_7z c4_7 c4_8z c4_8 c4_9z c4_9 = (spec_ForestOk.l1b ret j0 j1 k x18z x18 x19 x20 x33z x33 x34 x35 c1_0 c1_1 c1_2 c1_3 c1_4 c1_5z c1_5 c4_0 c4_1 c4_2 c4_3z c4_3 c4_4z c4_4 c4_5 c4_6 c4_7z c4_7 c4_8z c4_8 c4_9z c4_9).map e := by
  unfold spec_ForestOk.l1b
  repeat' first | with_reducible refine nat_cond ?_ ?_ | with_reducible refine nat_bind fun _ => ?_ | rfl
theorem spec_ForestOk.rq (a0_0 a0_1 : Int) (a0_2 a0_3 a0_4 : Int) (a0_5z : Bool) (a0_5 : List T) : ∀ k, (∀ (x18z : Bool) (x18 : List T) (x19 x20 : Int) (c1_0 c1_1 : Int) (c1_2 c1_3 c1_4 : Int) (c1_5z : Bool) (c1_5 : List T), rounds Try.prog spec_ForestOk.Cs (finish Try.prog [] Try.f128 [.v (.agg [(.int .i64 a0_0), (.int .i64 a0_1), (.int .i64 a0_2), (.int .i64 a0_3), (.int .i64 a0_4), (.sl 79 a0_5z a0_5)])]) 100000 k spec_ForestOk.K0 (spec_ForestOk.N0 x18z x18 x19 x20 c1_0 c1_1 c1_2 c1_3 c1_4 c1_5z c1_5) = (spec_ForestOk.l0 k x18z x18 x19 x20 c1_0 c1_1 c1_2 c1_3 c1_4 c1_5z c1_5).map spec_ForestOk.enc) ∧ (∀ (x18z : Bool) (x18 : List T) (x19 x20 : Int) (x33z : Bool) (x33 : List T) (x34 x35 : Int) (c1_0 c1_1 : Int) (c1_2 c1_3 c1_4 : Int) (c1_5z : Bool) (c1_5 : List T) (c4_0 c4_1 c4_2 : Int) (c4_3z : Bool) (c4_3 : List Int) (c4_4z : Bool) (c4_4 : List Int) (c4_5 c4_6 : Int) (c4_7z : Bool) (c4_7 : List Int) (c4_8z : Bool) (c4_8 : List Int) (c4_9z : Bool) (c4_9 : List T), rounds Try.prog spec_ForestOk.Cs (finish Try.prog [] Try.f128 [.v (.agg [(.int .i64 a0_0), (.int .i64 a0_1), (.int .i64 a0_2), (.int .i64 a0_3), (.int .i64 a0_4), (.sl 79 a0_5z a0_5)])]) 100000 k spec_ForestOk.K1 (spec_ForestOk.N1 x18z x18 x19 x20 x33z x33 x34 x35 c1_0 c1_1 c1_2 c1_3 c1_4 c1_5z c1_5 c4_0 c4_1 c4_2 c4_3z c4_3 c4_4z c4_4 c4_5 c4_6 c4_7z c4_7 c4_8z c4_8 c4_9z c4_9) = (spec_ForestOk.l1 k x18z x18 x19 x20 x33z x33 x34 x35 c1_0 c1_1 c1_2 c1_3 c1_4 c1_5z c1_5 c4_0 c4_1 c4_2 c4_3z c4_3 c4_4z c4_4 c4_5 c4_6 c4_7z c4_7 c4_8z c4_8 c4_9z c4_9).map spec_ForestOk.enc)
  | 0 => ⟨fun _ _ _ _ _ _ _ _ _ _ _ => rfl, fun _ _ _ _ _ _ _ _ _ _ _ _ _ _ _ _ _ _ _ _ _ _ _ _ _ _ _ _ _ _ => rfl⟩
  | k + 1 => by
    have ih := spec_ForestOk.rq a0_0 a0_1 a0_2 a0_3 a0_4 a0_5z a0_5 k
    refine ⟨fun _ _ _ _ _ _ _ _ _ _ _ => ?_, fun _ _ _ _ _ _ _ _ _ _ _ _ _ _ _ _ _ _ _ _ _ _ _ _ _ _ _ _ _ _ => ?_⟩
    · refine (spec_ForestOk.s0 k _ a0_0 a0_1 a0_2 a0_3 a0_4 a0_5z a0_5 _ _ _ _ _ _ _ _ _ _ _).trans (Eq.trans ?_ (spec_ForestOk.l0n spec_ForestOk.enc some (spec_ForestOk.l0 k) (spec_ForestOk.l1 k) k _ _ _ _ _ _ _ _ _ _ _))
      simp only [ih.1, ih.2, Option.map_some]
    · refine (spec_ForestOk.s1 k _ a0_0 a0_1 a0_2 a0_3 a0_4 a0_5z a0_5 _ _ _ _ _ _ _ _ _ _ _ _ _ _ _ _ _ _ _ _ _ _ _ _ _ _ _ _ _ _).trans (Eq.trans ?_ (spec_ForestOk.l1n spec_ForestOk.enc some (spec_ForestOk.l0 k) (spec_ForestOk.l1 k) k _ _ _ _ _ _ _ _ _ _ _ _ _ _ _ _ _ _ _ _ _ _ _ _ _ _ _ _ _ _))
      simp only [ih.1, ih.2, Option.map_some]
theorem spec_ForestOk.eq (k : Nat) (a0_0 a0_1 : Int) (a0_2 a0_3 a0_4 : Int) (a0_5z : Bool) (a0_5 : List T) : answer Try.prog spec_ForestOk.Cs 100000 spec_ForestOk.cuts [] Try.f128 (k + 1) [.v (.agg [(.int .i64 a0_0), (.int .i64 a0_1), (.int .i64 a0_2), (.int .i64 a0_3), (.int .i64 a0_4), (.sl 79 a0_5z a0_5)])] = (spec_ForestOk.f (k + 1) a0_0 a0_1 a0_2 a0_3 a0_4 a0_5z a0_5).map spec_ForestOk.enc := by
  have ih := spec_ForestOk.rq a0_0 a0_1 a0_2 a0_3 a0_4 a0_5z a0_5 k
  refine Eq.trans (b := spec_ForestOk.b (fun r => some (spec_ForestOk.enc r)) (fun x18z x18 x19 x20 c1_0 c1_1 c1_2 c1_3 c1_4 c1_5z c1_5 => rounds Try.prog spec_ForestOk.Cs (finish Try.prog [] Try.f128 [.v (.agg [(.int .i64 a0_0), (.int .i64 a0_1), (.int .i64 a0_2), (.int .i64 a0_3), (.int .i64 a0_4), (.sl 79 a0_5z a0_5)])]) 100000 k spec_ForestOk.K0 (spec_ForestOk.N0 x18z x18 x19 x20 c1_0 c1_1 c1_2 c1_3 c1_4 c1_5z c1_5)) (fun x18z x18 x19 x20 x33z x33 x34 x35 c1_0 c1_1 c1_2 c1_3 c1_4 c1_5z c1_5 c4_0 c4_1 c4_2 c4_3z c4_3 c4_4z c4_4 c4_5 c4_6 c4_7z c4_7 c4_8z c4_8 c4_9z c4_9 => rounds Try.prog spec_ForestOk.Cs (finish Try.prog [] Try.f128 [.v (.agg [(.int .i64 a0_0), (.int .i64 a0_1), (.int .i64 a0_2), (.int .i64 a0_3), (.int .i64 a0_4), (.sl 79 a0_5z a0_5)])]) 100000 k spec_ForestOk.K1 (spec_ForestOk.N1 x18z x18 x19 x20 x33z x33 x34 x35 c1_0 c1_1 c1_2 c1_3 c1_4 c1_5z c1_5 c4_0 c4_1 c4_2 c4_3z c4_3 c4_4z c4_4 c4_5 c4_6 c4_7z c4_7 c4_8z c4_8 c4_9z c4_9)) k a0_0 a0_1 a0_2 a0_3 a0_4 a0_5z a0_5) (by kernel_rfl) (Eq.trans ?_ (spec_ForestOk.bn spec_ForestOk.enc some (spec_ForestOk.l0 k) (spec_ForestOk.l1 k) k a0_0 a0_1 a0_2 a0_3 a0_4 a0_5z a0_5))
  simp only [ih.1, ih.2, Option.map_some]
theorem spec_ForestOk.sound (k : Nat) : SoundF Try.prog 128 (fun a => (spec_ForestOk.ans k a).val) := by
  refine sound_plain (fun args res h => ?_) (fun t n => rfl)
  unfold spec_ForestOk.ans at h
  dsimp only at h
  split at h
  · cases k with
    | zero => cases h
    | succ k =>
      unfold Ans.val at h
      rw [← spec_ForestOk.eq] at h
      exact answer_sound mixed Try.func128 _ _ _ (k + 1) (fun j _ => tab_sound (tab_cons (spec_LimitsOk.sound j) (tab_cons (spec_HeadOk.sound j) (tab_cons (spec_SameBytes.sound j) (tab_cons (spec_HeadHash.sound j) (tab_nil)))))) _ _ h
  · exact (Ans.no_val h).elim

def spec_Links.b {R : Type} (ret : Bool → Option R) (k : Nat) (a0_0 a0_1 : Int) (a0_2 a0_3 : Int) (a0_4 a1_0 : Int) (a1_1 a1_2 : Int) (a1_3z : Bool) (a1_3 : List Int) (a1_4z : Bool) (a1_4 : List Int) (a1_5 a1_6 : Int) (a1_7z : Bool) (a1_7 : List Int) (a1_8z : Bool) (a1_8 : List Int) (a1_9z : Bool) (a1_9 : List T) (a2_0 a2_1 a2_2 : Int) (a2_3z : Bool) (a2_3 : List Int) (a2_4z : Bool) (a2_4 : List Int) (a2_5 a2_6 : Int) (a2_7z : Bool) (a2_7 : List Int) (a2_8z : Bool) (a2_8 : List Int) (a2_9z : Bool) (a2_9 : List T) : Option R :=
  (spec_HeadOk.f k a0_0 a0_1 a0_2 a0_3 a0_4 a1_0 a1_1 a1_2 a1_3z a1_3 a1_4z a1_4 a1_5 a1_6 a1_7z a1_7 a1_8z a1_8 a1_9z a1_9).bind fun t0 => cond t0 ((spec_HeadOk.f k a0_0 a0_1 a0_2 a0_3 a0_4 a2_0 a2_1 a2_2 a2_3z a2_3 a2_4z a2_4 a2_5 a2_6 a2_7z a2_7 a2_8z a2_8 a2_9z a2_9).bind fun t1 => cond t1 ((spec_HeadHash.f k a0_0 a0_1 a0_2 a0_3 a0_4 a1_0 a1_1 a1_2 a1_3z a1_3 a1_4z a1_4 a1_5 a1_6 a1_7z a1_7 a1_8z a1_8 a1_9z a1_9).bind fun t2 => (spec_SameBytes.f k a2_3z a2_3 t2.1 t2.2).bind fun t3 => cond t3 (cond (decide (a2_5 = a1_0)) (ret (decide (a2_6 = a1_1))) (ret false)) (ret false)) (ret false)) (ret false)
def spec_Links.f : Nat → Int → Int → Int → Int → Int → Int → Int → Int → Bool → (List Int) → Bool → (List Int) → Int → Int → Bool → (List Int) → Bool → (List Int) → Bool → (List T) → Int → Int → Int → Bool → (List Int) → Bool → (List Int) → Int → Int → Bool → (List Int) → Bool → (List Int) → Bool → (List T) → Option Bool
  | 0, _, _, _, _, _, _, _, _, _, _, _, _, _, _, _, _, _, _, _, _, _, _, _, _, _, _, _, _, _, _, _, _, _, _, _ => none
  | k + 1, a0_0, a0_1, a0_2, a0_3, a0_4, a1_0, a1_1, a1_2, a1_3z, a1_3, a1_4z, a1_4, a1_5, a1_6, a1_7z, a1_7, a1_8z, a1_8, a1_9z, a1_9, a2_0, a2_1, a2_2, a2_3z, a2_3, a2_4z, a2_4, a2_5, a2_6, a2_7z, a2_7, a2_8z, a2_8, a2_9z, a2_9 => spec_Links.b some k a0_0 a0_1 a0_2 a0_3 a0_4 a1_0 a1_1 a1_2 a1_3z a1_3 a1_4z a1_4 a1_5 a1_6 a1_7z a1_7 a1_8z a1_8 a1_9z a1_9 a2_0 a2_1 a2_2 a2_3z a2_3 a2_4z a2_4 a2_5 a2_6 a2_7z a2_7 a2_8z a2_8 a2_9z a2_9
def spec_Links.enc (r : Bool) : Res := ⟨[.vals false [((.bool r), true)]], []⟩
def spec_Links.ans (k : Nat) : List Arg → Ans
  | [.v (.agg [(.int .i64 a0_0), (.int .i64 a0_1), (.int .i64 a0_2), (.int .i64 a0_3), (.int .i64 a0_4)]), .v (.agg [(.int .i64 a1_0), (.int .i64 a1_1), (.int .i64 a1_2), (.nums 5 .u8 a1_3z a1_3), (.nums 5 .u8 a1_4z a1_4), (.int .i64 a1_5), (.int .i64 a1_6), (.nums 5 .u8 a1_7z a1_7), (.nums 5 .u8 a1_8z a1_8), (.sl 22 a1_9z a1_9)]), .v (.agg [(.int .i64 a2_0), (.int .i64 a2_1), (.int .i64 a2_2), (.nums 5 .u8 a2_3z a2_3), (.nums 5 .u8 a2_4z a2_4), (.int .i64 a2_5), (.int .i64 a2_6), (.nums 5 .u8 a2_7z a2_7), (.nums 5 .u8 a2_8z a2_8), (.sl 22 a2_9z a2_9)])] => ⟨spec_Links.f k a0_0 a0_1 a0_2 a0_3 a0_4 a1_0 a1_1 a1_2 a1_3z a1_3 a1_4z a1_4 a1_5 a1_6 a1_7z a1_7 a1_8z a1_8 a1_9z a1_9 a2_0 a2_1 a2_2 a2_3z a2_3 a2_4z a2_4 a2_5 a2_6 a2_7z a2_7 a2_8z a2_8 a2_9z a2_9, spec_Links.enc⟩
  | _ => Ans.no
def spec_Links.Cs (k : Nat) : CallSem := tab [(157, spec_HeadOk.ans k), (115, spec_SameBytes.ans k), (130, spec_HeadHash.ans k)]
theorem spec_Links.eq (k : Nat) (a0_0 a0_1 : Int) (a0_2 a0_3 : Int) (a0_4 a1_0 : Int) (a1_1 a1_2 : Int) (a1_3z : Bool) (a1_3 : List Int) (a1_4z : Bool) (a1_4 : List Int) (a1_5 a1_6 : Int) (a1_7z : Bool) (a1_7 : List Int) (a1_8z : Bool) (a1_8 : List Int) (a1_9z : Bool) (a1_9 : List T) (a2_0 a2_1 a2_2 : Int) (a2_3z : Bool) (a2_3 : List Int) (a2_4z : Bool) (a2_4 : List Int) (a2_5 a2_6 : Int) (a2_7z : Bool) (a2_7 : List Int) (a2_8z : Bool) (a2_8 : List Int) (a2_9z : Bool) (a2_9 : List T) : answer Try.prog spec_Links.Cs 100000 [] [] Try.f129 (k + 1) [.v (.agg [(.int .i64 a0_0), (.int .i64 a0_1), (.int .i64 a0_2), (.int .i64 a0_3), (.int .i64 a0_4)]), .v (.agg [(.int .i64 a1_0), (.int .i64 a1_1), (.int .i64 a1_2), (.nums 5 .u8 a1_3z a1_3), (.nums 5 .u8 a1_4z a1_4), (.int .i64 a1_5), (.int .i64 a1_6), (.nums 5 .u8 a1_7z a1_7), (.nums 5 .u8 a1_8z a1_8), (.sl 22 a1_9z a1_9)]), .v (.agg [(.int .i64 a2_0), (.int .i64 a2_1), (.int .i64 a2_2), (.nums 5 .u8 a2_3z a2_3), (.nums 5 .u8 a2_4z a2_4), (.int .i64 a2_5), (.int .i64 a2_6), (.nums 5 .u8 a2_7z a2_7), (.nums 5 .u8 a2_8z a2_8), (.sl 22 a2_9z a2_9)])] = (spec_Links.f (k + 1) a0_0 a0_1 a0_2 a0_3 a0_4 a1_0 a1_1 a1_2 a1_3z a1_3 a1_4z a1_4 a1_5 a1_6 a1_7z a1_7 a1_8z a1_8 a1_9z a1_9 a2_0 a2_1 a2_2 a2_3z a2_3 a2_4z a2_4 a2_5 a2_6 a2_7z a2_7 a2_8z a2_8 a2_9z a2_9).map spec_Links.enc := by
  refine Eq.trans (b := spec_Links.b (fun r => some (spec_Links.enc r)) k a0_0 a0_1 a0_2 a0_3 a0_4 a1_0 a1_1 a1_2 a1_3z a1_3 a1_4z a1_4 a1_5 a1_6 a1_7z a1_7 a1_8z a1_8 a1_9z a1_9 a2_0 a2_1 a2_2 a2_3z a2_3 a2_4z a2_4 a2_5 a2_6 a2_7z a2_7 a2_8z a2_8 a2_9z a2_9) (by kernel_rfl) ?_
  show _ = (spec_Links.b some k a0_0 a0_1 a0_2 a0_3 a0_4 a1_0 a1_1 a1_2 a1_3z a1_3 a1_4z a1_4 a1_5 a1_6 a1_7z a1_7 a1_8z a1_8 a1_9z a1_9 a2_0 a2_1 a2_2 a2_3z a2_3 a2_4z a2_4 a2_5 a2_6 a2_7z a2_7 a2_8z a2_8 a2_9z a2_9).map spec_Links.enc
  unfold spec_Links.b
  repeat' first | with_reducible refine nat_cond ?_ ?_ | with_reducible refine nat_bind fun _ => ?_ | rfl
theorem spec_Links.sound (k : Nat) : SoundF Try.prog 129 (fun a => (spec_Links.ans k a).val) := by
  refine sound_plain (fun args res h => ?_) (fun t n => rfl)
  unfold spec_Links.ans at h
  dsimp only at h
  split at h
  · cases k with
    | zero => cases h
    | succ k =>
      unfold Ans.val at h
      rw [← spec_Links.eq] at h
      exact answer_sound mixed Try.func129 _ _ _ (k + 1) (fun j _ => tab_sound (tab_cons (spec_HeadOk.sound j) (tab_cons (spec_SameBytes.sound j) (tab_cons (spec_HeadHash.sound j) (tab_nil))))) _ _ h
  · exact (Ans.no_val h).elim

end Go.Proofs.YtbpcnodmgphinaaG
