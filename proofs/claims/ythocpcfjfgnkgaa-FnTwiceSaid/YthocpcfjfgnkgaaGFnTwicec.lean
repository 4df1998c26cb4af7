/- What the functions compute, printed by a program of this repo; each is shown to be what the machine of values answers. No condition. -/
import Derived.Test.YthocpcfjfgnkgaaProg
import Derived.KernelRfl
import Derived.Test.YthocpcfjfgnkgaaGFnTwiceb
namespace Go.Proofs.YthocpcfjfgnkgaaG
open Go Go.Proofs.YthocpcfjfgnkgaaRv Go.Proofs
set_option linter.unusedVariables false
set_option linter.unusedSimpArgs false
/-! loop.example/g00790/impl.areHashes -/
def impl_areHashes.b {R : Type} (ret : Bool → Option R) (j0 : Bool → (List T) → Int → Int → Option R) (k : Nat) (a0z : Bool) (a0 : List T) : Option R :=
  j0 a0z a0 ((a0).length : Int) 0
def impl_areHashes.l0b {R : Type} (ret : Bool → Option R) (j0 : Bool → (List T) → Int → Int → Option R) (k : Nat) (x5z : Bool) (x5 : List T) (x6 : Int) (x7 : Int) : Option R :=
  cond (decide (x7 < x6)) (cond (decide ((0 : Int) ≤ x7)) (cond (decide (x7 < ((x5).length : Int))) (cond (!(decide (((((((x5).getD (x7).toNat .bad).cells.getD 0 .bad)).toNums).length : Int) = 32))) (ret false) (j0 x5z x5 x6 (RowKit.wrap64 (x7 + 1)))) (none)) (none)) (ret true)
def impl_areHashes.l0 : Nat → Bool → (List T) → Int → Int → Option Bool
  | 0, _, _, _, _ => none
  | k + 1, x5z, x5, x6, x7 => impl_areHashes.l0b some (impl_areHashes.l0 k) k x5z x5 x6 x7
def impl_areHashes.f : Nat → Bool → (List T) → Option Bool
  | 0, _, _ => none
  | k + 1, a0z, a0 => impl_areHashes.b some (impl_areHashes.l0 k) k a0z a0
def impl_areHashes.enc (r : Bool) : Res := ⟨[.vals false [((.bool r), true)]], []⟩
def impl_areHashes.ans (k : Nat) : List Arg → Ans
  | [.v (.sl 22 a0z a0)] => ⟨impl_areHashes.f k a0z a0, impl_areHashes.enc⟩
  | _ => Ans.no
def impl_areHashes.Cs (k : Nat) : CallSem := tab []
def impl_areHashes.cuts : List (Nat × Keep) := [(26, ⟨[(5, some []), (6, some []), (7, some [])], []⟩)]
noncomputable def impl_areHashes.K0 : List Fr := framesAt [true, false, true, false] (bodyOf Try.f64 impl_areHashes.cuts) []
def impl_areHashes.N0 (x5z : Bool) (x5 : List T) (x6 : Int) (x7 : Int) : St := stOf 15 15 1 [(5, .val ⟨(.sl 22 x5z x5), [], false, none⟩), (6, .val (V.s (.int .i64 x6))), (7, .val (V.s (.int .i64 x7)))] []
theorem impl_areHashes.s (k : Nat) (a0z : Bool) (a0 : List T) : answer Try.prog impl_areHashes.Cs 100000 impl_areHashes.cuts [] Try.f64 (k + 1) [.v (.sl 22 a0z a0)] = impl_areHashes.b (fun r => some (impl_areHashes.enc r)) (fun x5z x5 x6 x7 => rounds Try.prog impl_areHashes.Cs (finish Try.prog [] Try.f64 [.v (.sl 22 a0z a0)]) 100000 k impl_areHashes.K0 (impl_areHashes.N0 x5z x5 x6 x7)) k a0z a0 := by kernel_rfl
theorem impl_areHashes.s0 (k : Nat) (G : List Fr → St → Option Res) (a0z : Bool) (a0 : List T) (yx5z : Bool) (yx5 : List T) (yx6 : Int) (yx7 : Int) : resume Try.prog (impl_areHashes.Cs k) G (finish Try.prog [] Try.f64 [.v (.sl 22 a0z a0)]) 100000 impl_areHashes.K0 (impl_areHashes.N0 yx5z yx5 yx6 yx7) = impl_areHashes.l0b (fun r => some (impl_areHashes.enc r)) (fun x5z x5 x6 x7 => G impl_areHashes.K0 (impl_areHashes.N0 x5z x5 x6 x7)) k yx5z yx5 yx6 yx7 := by kernel_rfl
theorem impl_areHashes.b_nat {R R' : Type} (e : R → R') (ret : Bool → Option R) (j0 : Bool → (List T) → Int → Int → Option R) (k : Nat) (a0z : Bool) (a0 : List T) : impl_areHashes.b (fun r => (ret r).map e) (fun x5z x5 x6 x7 => (j0 x5z x5 x6 x7).map e) k a0z a0 = (impl_areHashes.b ret j0 k a0z a0).map e := by
  unfold impl_areHashes.b
  repeat' first | with_reducible refine nat_cond ?_ ?_ | with_reducible refine nat_bind fun _ => ?_ | rfl
theorem impl_areHashes.l0b_nat {R R' : Type} (e : R → R') (ret : Bool → Option R) (j0 : Bool → (List T) → Int → Int → Option R) (k : Nat) (x5z : Bool) (x5 : List T) (x6 : Int) (x7 : Int) : impl_areHashes.l0b (fun r => (ret r).map e) (fun x5z x5 x6 x7 => (j0 x5z x5 x6 x7).map e) k x5z x5 x6 x7 = (impl_areHashes.l0b ret j0 k x5z x5 x6 x7).map e := by
  unfold impl_areHashes.l0b
  repeat' first | with_reducible refine nat_cond ?_ ?_ | with_reducible refine nat_bind fun _ => ?_ | rfl
theorem impl_areHashes.rounds_eq (a0z : Bool) (a0 : List T) : ∀ k, (∀ (x5z : Bool) (x5 : List T) (x6 : Int) (x7 : Int), rounds Try.prog impl_areHashes.Cs (finish Try.prog [] Try.f64 [.v (.sl 22 a0z a0)]) 100000 k impl_areHashes.K0 (impl_areHashes.N0 x5z x5 x6 x7) = (impl_areHashes.l0 k x5z x5 x6 x7).map impl_areHashes.enc)
  | 0 => fun _ _ _ _ => rfl
  | k + 1 => by
    have ih := impl_areHashes.rounds_eq a0z a0 k
    refine fun _ _ _ _ => ?_
    · refine (impl_areHashes.s0 k _ a0z a0 _ _ _ _).trans (Eq.trans ?_ (impl_areHashes.l0b_nat impl_areHashes.enc some (impl_areHashes.l0 k) k _ _ _ _))
      simp only [ih, Option.map_some]
theorem impl_areHashes.eq (k : Nat) (a0z : Bool) (a0 : List T) : answer Try.prog impl_areHashes.Cs 100000 impl_areHashes.cuts [] Try.f64 (k + 1) [.v (.sl 22 a0z a0)] = (impl_areHashes.f (k + 1) a0z a0).map impl_areHashes.enc := by
  have ih := impl_areHashes.rounds_eq a0z a0 k
  refine (impl_areHashes.s k a0z a0).trans (Eq.trans ?_ (impl_areHashes.b_nat impl_areHashes.enc some (impl_areHashes.l0 k) k a0z a0))
  simp only [ih, Option.map_some]
theorem impl_areHashes.sound (k : Nat) : SoundF Try.prog 64 (fun a => (impl_areHashes.ans k a).val) := by
  refine sound_plain (fun args res h => ?_) (fun t n => rfl)
  unfold impl_areHashes.ans at h
  dsimp only at h
  split at h
  · cases k with
    | zero => cases h
    | succ k =>
      unfold Ans.val at h
      rw [← impl_areHashes.eq] at h
      exact answer_sound mixed Try.func64 _ _ _ (k + 1) (fun j _ => tab_sound (tab_nil)) _ _ h
  · exact (Ans.no_val h).elim

/-! loop.example/g00790/impl.VoteBytes -/
def impl_VoteBytes.b {R : Type} (ret : Bool × List Int → Option R) (k : Nat) (a0 : Int) (a1 : Int) (a2z : Bool) (a2 : List Int) : Option R :=
  (impl_numbers.f k 86 false ([a0, a1] : List Int)).bind fun t0 => cond t0.1 (ret (true, ([] : List Int))) ((impl_areHashes.f k false ([(.nums 5 .u8 a2z a2)] : List T)).bind fun t1 => cond (!t1) (ret (true, ([] : List Int))) (cond (decide ((t0.2).length + (a2).length < 140737488355328)) (ret (((a2).isEmpty && t0.1), (t0.2 ++ a2))) (none)))
def impl_VoteBytes.f : Nat → Int → Int → Bool → (List Int) → Option (Bool × List Int)
  | 0, _, _, _, _ => none
  | k + 1, a0, a1, a2z, a2 => impl_VoteBytes.b some k a0 a1 a2z a2
def impl_VoteBytes.enc (r : Bool × List Int) : Res := ⟨[.vals false [((.nums 5 .u8 r.1 r.2), true)]], []⟩
def impl_VoteBytes.ans (k : Nat) : List Arg → Ans
  | [.v (.int .i64 a0), .v (.int .i64 a1), .v (.nums 5 .u8 a2z a2)] => ⟨impl_VoteBytes.f k a0 a1 a2z a2, impl_VoteBytes.enc⟩
  | _ => Ans.no
def impl_VoteBytes.Cs (k : Nat) : CallSem := tab [(63, impl_numbers.ans k), (64, impl_areHashes.ans k)]
def impl_VoteBytes.cuts : List (Nat × Keep) := []
theorem impl_VoteBytes.s (k : Nat) (a0 : Int) (a1 : Int) (a2z : Bool) (a2 : List Int) : answer Try.prog impl_VoteBytes.Cs 100000 impl_VoteBytes.cuts [] Try.f46 (k + 1) [.v (.int .i64 a0), .v (.int .i64 a1), .v (.nums 5 .u8 a2z a2)] = impl_VoteBytes.b (fun r => some (impl_VoteBytes.enc r)) k a0 a1 a2z a2 := by kernel_rfl
theorem impl_VoteBytes.b_nat {R R' : Type} (e : R → R') (ret : Bool × List Int → Option R) (k : Nat) (a0 : Int) (a1 : Int) (a2z : Bool) (a2 : List Int) : impl_VoteBytes.b (fun r => (ret r).map e) k a0 a1 a2z a2 = (impl_VoteBytes.b ret k a0 a1 a2z a2).map e := by
  unfold impl_VoteBytes.b
  repeat' first | with_reducible refine nat_cond ?_ ?_ | with_reducible refine nat_bind fun _ => ?_ | rfl
theorem impl_VoteBytes.eq (k : Nat) (a0 : Int) (a1 : Int) (a2z : Bool) (a2 : List Int) : answer Try.prog impl_VoteBytes.Cs 100000 impl_VoteBytes.cuts [] Try.f46 (k + 1) [.v (.int .i64 a0), .v (.int .i64 a1), .v (.nums 5 .u8 a2z a2)] = (impl_VoteBytes.f (k + 1) a0 a1 a2z a2).map impl_VoteBytes.enc := by
  refine (impl_VoteBytes.s k a0 a1 a2z a2).trans (Eq.trans ?_ (impl_VoteBytes.b_nat impl_VoteBytes.enc some k a0 a1 a2z a2))
  simp only [Option.map_some]
theorem impl_VoteBytes.sound (k : Nat) : SoundF Try.prog 46 (fun a => (impl_VoteBytes.ans k a).val) := by
  refine sound_plain (fun args res h => ?_) (fun t n => rfl)
  unfold impl_VoteBytes.ans at h
  dsimp only at h
  split at h
  · cases k with
    | zero => cases h
    | succ k =>
      unfold Ans.val at h
      rw [← impl_VoteBytes.eq] at h
      exact answer_sound mixed Try.func46 _ _ _ (k + 1) (fun j _ => tab_sound (tab_cons (impl_numbers.sound j) (tab_cons (impl_areHashes.sound j) (tab_nil)))) _ _ h
  · exact (Ans.no_val h).elim

/-! loop.example/g00790/impl.ShaInit -/
def impl_ShaInit.b {R : Type} (ret : Bool × List Int → Option R) (k : Nat) : Option R :=
  ret (false, ([1779033703, 3144134277, 1013904242, 2773480762, 1359893119, 2600822924, 528734635, 1541459225] : List Int))
def impl_ShaInit.f : Nat → Option (Bool × List Int)
  | 0 => none
  | k + 1 => impl_ShaInit.b some k
def impl_ShaInit.enc (r : Bool × List Int) : Res := ⟨[.vals false [((.nums 3 .i64 r.1 r.2), true)]], []⟩
def impl_ShaInit.ans (k : Nat) : List Arg → Ans
  | [] => ⟨impl_ShaInit.f k, impl_ShaInit.enc⟩
  | _ => Ans.no
def impl_ShaInit.Cs (k : Nat) : CallSem := tab []
def impl_ShaInit.cuts : List (Nat × Keep) := []
theorem impl_ShaInit.s (k : Nat) : answer Try.prog impl_ShaInit.Cs 100000 impl_ShaInit.cuts [] Try.f87 (k + 1) [] = impl_ShaInit.b (fun r => some (impl_ShaInit.enc r)) k := by kernel_rfl
theorem impl_ShaInit.b_nat {R R' : Type} (e : R → R') (ret : Bool × List Int → Option R) (k : Nat) : impl_ShaInit.b (fun r => (ret r).map e) k = (impl_ShaInit.b ret k).map e := by
  unfold impl_ShaInit.b
  repeat' first | with_reducible refine nat_cond ?_ ?_ | with_reducible refine nat_bind fun _ => ?_ | rfl
theorem impl_ShaInit.eq (k : Nat) : answer Try.prog impl_ShaInit.Cs 100000 impl_ShaInit.cuts [] Try.f87 (k + 1) [] = (impl_ShaInit.f (k + 1)).map impl_ShaInit.enc := by
  refine (impl_ShaInit.s k).trans (Eq.trans ?_ (impl_ShaInit.b_nat impl_ShaInit.enc some k))
  simp only [Option.map_some]
theorem impl_ShaInit.sound (k : Nat) : SoundF Try.prog 87 (fun a => (impl_ShaInit.ans k a).val) := by
  refine sound_plain (fun args res h => ?_) (fun t n => rfl)
  unfold impl_ShaInit.ans at h
  dsimp only at h
  split at h
  · cases k with
    | zero => cases h
    | succ k =>
      unfold Ans.val at h
      rw [← impl_ShaInit.eq] at h
      exact answer_sound mixed Try.func87 _ _ _ (k + 1) (fun j _ => tab_sound (tab_nil)) _ _ h
  · exact (Ans.no_val h).elim

/-! loop.example/g00790/impl.ShaPad -/
def impl_ShaPad.b {R : Type} (ret : Bool × List Int → Option R) (j0 : Bool → (List Int) → (List Int) → Option R) (j1 : Bool → (List Int) → (List Int) → Int → Option R) (k : Nat) (a0z : Bool) (a0 : List Int) : Option R :=
  (impl_copyBytes.f k a0z a0).bind fun t0 => cond (decide ((t0.2).length + 1 < 140737488355328)) (j0 a0z a0 (t0.2 ++ ([128] : List Int))) (none)
def impl_ShaPad.l0b {R : Type} (ret : Bool × List Int → Option R) (j0 : Bool → (List Int) → (List Int) → Option R) (j1 : Bool → (List Int) → (List Int) → Int → Option R) (k : Nat) (x0z : Bool) (x0 : List Int) (x3 : List Int) : Option R :=
  cond (!(decide ((Int.tmod ((x3).length : Int) 64) = 56))) (cond (decide ((x3).length + 1 < 140737488355328)) (j0 x0z x0 (x3 ++ ([0] : List Int))) (none)) (j1 x0z x0 x3 7)
def impl_ShaPad.l1b {R : Type} (ret : Bool × List Int → Option R) (j0 : Bool → (List Int) → (List Int) → Option R) (j1 : Bool → (List Int) → (List Int) → Int → Option R) (k : Nat) (x0z : Bool) (x0 : List Int) (x3 : List Int) (x4 : Int) : Option R :=
  cond (decide (x4 ≥ 0)) (cond (decide ((0 : Int) ≤ (RowKit.wrap64 ((8 : Int) * x4)))) (cond (decide ((x3).length + 1 < 140737488355328)) (j1 x0z x0 (x3 ++ ([(((shrI .i64 (RowKit.wrap64 ((8 : Int) * ((x0).length : Int))) (RowKit.wrap64 ((8 : Int) * x4)))) % 256)] : List Int)) (RowKit.wrap64 (x4 - 1))) (none)) (none)) (ret (false, x3))
mutual
def impl_ShaPad.l0 : Nat → Bool → (List Int) → (List Int) → Option (Bool × List Int)
  | 0, _, _, _ => none
  | k + 1, x0z, x0, x3 => impl_ShaPad.l0b some (impl_ShaPad.l0 k) (impl_ShaPad.l1 k) k x0z x0 x3
def impl_ShaPad.l1 : Nat → Bool → (List Int) → (List Int) → Int → Option (Bool × List Int)
  | 0, _, _, _, _ => none
  | k + 1, x0z, x0, x3, x4 => impl_ShaPad.l1b some (impl_ShaPad.l0 k) (impl_ShaPad.l1 k) k x0z x0 x3 x4
end
def impl_ShaPad.f : Nat → Bool → (List Int) → Option (Bool × List Int)
  | 0, _, _ => none
  | k + 1, a0z, a0 => impl_ShaPad.b some (impl_ShaPad.l0 k) (impl_ShaPad.l1 k) k a0z a0
def impl_ShaPad.enc (r : Bool × List Int) : Res := ⟨[.vals false [((.nums 5 .u8 r.1 r.2), true)]], []⟩
def impl_ShaPad.ans (k : Nat) : List Arg → Ans
  | [.v (.nums 5 .u8 a0z a0)] => ⟨impl_ShaPad.f k a0z a0, impl_ShaPad.enc⟩
  | _ => Ans.no
def impl_ShaPad.Cs (k : Nat) : CallSem := tab [(47, impl_copyBytes.ans k)]
def impl_ShaPad.cuts : List (Nat × Keep) := [(28, ⟨[(0, some []), (3, none)], []⟩), (122, ⟨[(0, some []), (3, none), (4, some [])], []⟩)]
noncomputable def impl_ShaPad.K0 : List Fr := framesAt [true, true, false, false] (bodyOf Try.f88 impl_ShaPad.cuts) []
def impl_ShaPad.N0 (x0z : Bool) (x0 : List Int) (x3 : List Int) : St := stOf 31 31 1 [(0, .val ⟨(.nums 5 .u8 x0z x0), [], false, none⟩), (3, .val ⟨(.nums 5 .u8 false x3), [.l 3 0], true, some (.l 3 0)⟩)] []
noncomputable def impl_ShaPad.K1 : List Fr := framesAt [true, true, true, false, true, false] (bodyOf Try.f88 impl_ShaPad.cuts) []
def impl_ShaPad.N1 (x0z : Bool) (x0 : List Int) (x3 : List Int) (x4 : Int) : St := stOf 31 31 1 [(0, .val ⟨(.nums 5 .u8 x0z x0), [], false, none⟩), (3, .val ⟨(.nums 5 .u8 false x3), [.l 3 0], true, some (.l 3 0)⟩), (4, .val (V.s (.int .i64 x4)))] []
theorem impl_ShaPad.s (k : Nat) (a0z : Bool) (a0 : List Int) : answer Try.prog impl_ShaPad.Cs 100000 impl_ShaPad.cuts [] Try.f88 (k + 1) [.v (.nums 5 .u8 a0z a0)] = impl_ShaPad.b (fun r => some (impl_ShaPad.enc r)) (fun x0z x0 x3 => rounds Try.prog impl_ShaPad.Cs (finish Try.prog [] Try.f88 [.v (.nums 5 .u8 a0z a0)]) 100000 k impl_ShaPad.K0 (impl_ShaPad.N0 x0z x0 x3)) (fun x0z x0 x3 x4 => rounds Try.prog impl_ShaPad.Cs (finish Try.prog [] Try.f88 [.v (.nums 5 .u8 a0z a0)]) 100000 k impl_ShaPad.K1 (impl_ShaPad.N1 x0z x0 x3 x4)) k a0z a0 := by kernel_rfl
theorem impl_ShaPad.s0 (k : Nat) (G : List Fr → St → Option Res) (a0z : Bool) (a0 : List Int) (yx0z : Bool) (yx0 : List Int) (yx3 : List Int) : resume Try.prog (impl_ShaPad.Cs k) G (finish Try.prog [] Try.f88 [.v (.nums 5 .u8 a0z a0)]) 100000 impl_ShaPad.K0 (impl_ShaPad.N0 yx0z yx0 yx3) = impl_ShaPad.l0b (fun r => some (impl_ShaPad.enc r)) (fun x0z x0 x3 => G impl_ShaPad.K0 (impl_ShaPad.N0 x0z x0 x3)) (fun x0z x0 x3 x4 => G impl_ShaPad.K1 (impl_ShaPad.N1 x0z x0 x3 x4)) k yx0z yx0 yx3 := by kernel_rfl
theorem impl_ShaPad.s1 (k : Nat) (G : List Fr → St → Option Res) (a0z : Bool) (a0 : List Int) (yx0z : Bool) (yx0 : List Int) (yx3 : List Int) (yx4 : Int) : resume Try.prog (impl_ShaPad.Cs k) G (finish Try.prog [] Try.f88 [.v (.nums 5 .u8 a0z a0)]) 100000 impl_ShaPad.K1 (impl_ShaPad.N1 yx0z yx0 yx3 yx4) = impl_ShaPad.l1b (fun r => some (impl_ShaPad.enc r)) (fun x0z x0 x3 => G impl_ShaPad.K0 (impl_ShaPad.N0 x0z x0 x3)) (fun x0z x0 x3 x4 => G impl_ShaPad.K1 (impl_ShaPad.N1 x0z x0 x3 x4)) k yx0z yx0 yx3 yx4 := by kernel_rfl
theorem impl_ShaPad.b_nat {R R' : Type} (e : R → R') (ret : Bool × List Int → Option R) (j0 : Bool → (List Int) → (List Int) → Option R) (j1 : Bool → (List Int) → (List Int) → Int → Option R) (k : Nat) (a0z : Bool) (a0 : List Int) : impl_ShaPad.b (fun r => (ret r).map e) (fun x0z x0 x3 => (j0 x0z x0 x3).map e) (fun x0z x0 x3 x4 => (j1 x0z x0 x3 x4).map e) k a0z a0 = (impl_ShaPad.b ret j0 j1 k a0z a0).map e := by
  unfold impl_ShaPad.b
  repeat' first | with_reducible refine nat_cond ?_ ?_ | with_reducible refine nat_bind fun _ => ?_ | rfl
theorem impl_ShaPad.l0b_nat {R R' : Type} (e : R → R') (ret : Bool × List Int → Option R) (j0 : Bool → (List Int) → (List Int) → Option R) (j1 : Bool → (List Int) → (List Int) → Int → Option R) (k : Nat) (x0z : Bool) (x0 : List Int) (x3 : List Int) : impl_ShaPad.l0b (fun r => (ret r).map e) (fun x0z x0 x3 => (j0 x0z x0 x3).map e) (fun x0z x0 x3 x4 => (j1 x0z x0 x3 x4).map e) k x0z x0 x3 = (impl_ShaPad.l0b ret j0 j1 k x0z x0 x3).map e := by
  unfold impl_ShaPad.l0b
  repeat' first | with_reducible refine nat_cond ?_ ?_ | with_reducible refine nat_bind fun _ => ?_ | rfl
theorem impl_ShaPad.l1b_nat {R R' : Type} (e : R → R') (ret : Bool × List Int → Option R) (j0 : Bool → (List Int) → (List Int) → Option R) (j1 : Bool → (List Int) → (List Int) → Int → Option R) (k : Nat) (x0z : Bool) (x0 : List Int) (x3 : List Int) (x4 : Int) : impl_ShaPad.l1b (fun r => (ret r).map e) (fun x0z x0 x3 => (j0 x0z x0 x3).map e) (fun x0z x0 x3 x4 => (j1 x0z x0 x3 x4).map e) k x0z x0 x3 x4 = (impl_ShaPad.l1b ret j0 j1 k x0z x0 x3 x4).map e := by
  unfold impl_ShaPad.l1b
  repeat' first | with_reducible refine nat_cond ?_ ?_ | with_reducible refine nat_bind fun _ => ?_ | rfl
theorem impl_ShaPad.rounds_eq (a0z : Bool) (a0 : List Int) : ∀ k, (∀ (x0z : Bool) (x0 : List Int) (x3 : List Int), rounds Try.prog impl_ShaPad.Cs (finish Try.prog [] Try.f88 [.v (.nums 5 .u8 a0z a0)]) 100000 k impl_ShaPad.K0 (impl_ShaPad.N0 x0z x0 x3) = (impl_ShaPad.l0 k x0z x0 x3).map impl_ShaPad.enc) ∧ (∀ (x0z : Bool) (x0 : List Int) (x3 : List Int) (x4 : Int), rounds Try.prog impl_ShaPad.Cs (finish Try.prog [] Try.f88 [.v (.nums 5 .u8 a0z a0)]) 100000 k impl_ShaPad.K1 (impl_ShaPad.N1 x0z x0 x3 x4) = (impl_ShaPad.l1 k x0z x0 x3 x4).map impl_ShaPad.enc)
  | 0 => ⟨fun _ _ _ => rfl, fun _ _ _ _ => rfl⟩
  | k + 1 => by
    have ih := impl_ShaPad.rounds_eq a0z a0 k
    refine ⟨fun _ _ _ => ?_, fun _ _ _ _ => ?_⟩
    · refine (impl_ShaPad.s0 k _ a0z a0 _ _ _).trans (Eq.trans ?_ (impl_ShaPad.l0b_nat impl_ShaPad.enc some (impl_ShaPad.l0 k) (impl_ShaPad.l1 k) k _ _ _))
      simp only [ih.1, ih.2, Option.map_some]
    · refine (impl_ShaPad.s1 k _ a0z a0 _ _ _ _).trans (Eq.trans ?_ (impl_ShaPad.l1b_nat impl_ShaPad.enc some (impl_ShaPad.l0 k) (impl_ShaPad.l1 k) k _ _ _ _))
      simp only [ih.1, ih.2, Option.map_some]
theorem impl_ShaPad.eq (k : Nat) (a0z : Bool) (a0 : List Int) : answer Try.prog impl_ShaPad.Cs 100000 impl_ShaPad.cuts [] Try.f88 (k + 1) [.v (.nums 5 .u8 a0z a0)] = (impl_ShaPad.f (k + 1) a0z a0).map impl_ShaPad.enc := by
  have ih := impl_ShaPad.rounds_eq a0z a0 k
  refine (impl_ShaPad.s k a0z a0).trans (Eq.trans ?_ (impl_ShaPad.b_nat impl_ShaPad.enc some (impl_ShaPad.l0 k) (impl_ShaPad.l1 k) k a0z a0))
  simp only [ih.1, ih.2, Option.map_some]
theorem impl_ShaPad.sound (k : Nat) : SoundF Try.prog 88 (fun a => (impl_ShaPad.ans k a).val) := by
  refine sound_plain (fun args res h => ?_) (fun t n => rfl)
  unfold impl_ShaPad.ans at h
  dsimp only at h
  split at h
  · cases k with
    | zero => cases h
    | succ k =>
      unfold Ans.val at h
      rw [← impl_ShaPad.eq] at h
      exact answer_sound mixed Try.func88 _ _ _ (k + 1) (fun j _ => tab_sound (tab_cons (impl_copyBytes.sound j) (tab_nil))) _ _ h
  · exact (Ans.no_val h).elim

/-! loop.example/g00790/impl.isWord -/
def impl_isWord.b {R : Type} (ret : Bool → Option R) (k : Nat) (a0 : Int) : Option R :=
  (impl_within.f k a0 0 4294967295).bind fun t0 => ret t0
def impl_isWord.f : Nat → Int → Option Bool
  | 0, _ => none
  | k + 1, a0 => impl_isWord.b some k a0
def impl_isWord.enc (r : Bool) : Res := ⟨[.vals false [((.bool r), true)]], []⟩
def impl_isWord.ans (k : Nat) : List Arg → Ans
  | [.v (.int .i64 a0)] => ⟨impl_isWord.f k a0, impl_isWord.enc⟩
  | _ => Ans.no
def impl_isWord.Cs (k : Nat) : CallSem := tab [(29, impl_within.ans k)]
def impl_isWord.cuts : List (Nat × Keep) := []
theorem impl_isWord.s (k : Nat) (a0 : Int) : answer Try.prog impl_isWord.Cs 100000 impl_isWord.cuts [] Try.f101 (k + 1) [.v (.int .i64 a0)] = impl_isWord.b (fun r => some (impl_isWord.enc r)) k a0 := by kernel_rfl
theorem impl_isWord.b_nat {R R' : Type} (e : R → R') (ret : Bool → Option R) (k : Nat) (a0 : Int) : impl_isWord.b (fun r => (ret r).map e) k a0 = (impl_isWord.b ret k a0).map e := by
  unfold impl_isWord.b
  repeat' first | with_reducible refine nat_cond ?_ ?_ | with_reducible refine nat_bind fun _ => ?_ | rfl
theorem impl_isWord.eq (k : Nat) (a0 : Int) : answer Try.prog impl_isWord.Cs 100000 impl_isWord.cuts [] Try.f101 (k + 1) [.v (.int .i64 a0)] = (impl_isWord.f (k + 1) a0).map impl_isWord.enc := by
  refine (impl_isWord.s k a0).trans (Eq.trans ?_ (impl_isWord.b_nat impl_isWord.enc some k a0))
  simp only [Option.map_some]
theorem impl_isWord.sound (k : Nat) : SoundF Try.prog 101 (fun a => (impl_isWord.ans k a).val) := by
  refine sound_plain (fun args res h => ?_) (fun t n => rfl)
  unfold impl_isWord.ans at h
  dsimp only at h
  split at h
  · cases k with
    | zero => cases h
    | succ k =>
      unfold Ans.val at h
      rw [← impl_isWord.eq] at h
      exact answer_sound mixed Try.func101 _ _ _ (k + 1) (fun j _ => tab_sound (tab_cons (impl_within.sound j) (tab_nil))) _ _ h
  · exact (Ans.no_val h).elim

/-! loop.example/g00790/impl.rounds -/
def impl_rounds.b {R : Type} (ret : Bool × List Int → Option R) (k : Nat) : Option R :=
  ret (false, ([1116352408, 1899447441, 3049323471, 3921009573, 961987163, 1508970993, 2453635748, 2870763221, 3624381080, 310598401, 607225278, 1426881987, 1925078388, 2162078206, 2614888103, 3248222580, 3835390401, 4022224774, 264347078, 604807628, 770255983, 1249150122, 1555081692, 1996064986, 2554220882, 2821834349, 2952996808, 3210313671, 3336571891, 3584528711, 113926993, 338241895, 666307205, 773529912, 1294757372, 1396182291, 1695183700, 1986661051, 2177026350, 2456956037, 2730485921, 2820302411, 3259730800, 3345764771, 3516065817, 3600352804, 4094571909, 275423344, 430227734, 506948616, 659060556, 883997877, 958139571, 1322822218, 1537002063, 1747873779, 1955562222, 2024104815, 2227730452, 2361852424, 2428436474, 2756734187, 3204031479, 3329325298] : List Int))
def impl_rounds.f : Nat → Option (Bool × List Int)
  | 0 => none
  | k + 1 => impl_rounds.b some k
def impl_rounds.enc (r : Bool × List Int) : Res := ⟨[.vals false [((.nums 3 .i64 r.1 r.2), true)]], []⟩
def impl_rounds.ans (k : Nat) : List Arg → Ans
  | [] => ⟨impl_rounds.f k, impl_rounds.enc⟩
  | _ => Ans.no
def impl_rounds.Cs (k : Nat) : CallSem := tab []
def impl_rounds.cuts : List (Nat × Keep) := []
theorem impl_rounds.s (k : Nat) : answer Try.prog impl_rounds.Cs 100000 impl_rounds.cuts [] Try.f102 (k + 1) [] = impl_rounds.b (fun r => some (impl_rounds.enc r)) k := by kernel_rfl
theorem impl_rounds.b_nat {R R' : Type} (e : R → R') (ret : Bool × List Int → Option R) (k : Nat) : impl_rounds.b (fun r => (ret r).map e) k = (impl_rounds.b ret k).map e := by
  unfold impl_rounds.b
  repeat' first | with_reducible refine nat_cond ?_ ?_ | with_reducible refine nat_bind fun _ => ?_ | rfl
theorem impl_rounds.eq (k : Nat) : answer Try.prog impl_rounds.Cs 100000 impl_rounds.cuts [] Try.f102 (k + 1) [] = (impl_rounds.f (k + 1)).map impl_rounds.enc := by
  refine (impl_rounds.s k).trans (Eq.trans ?_ (impl_rounds.b_nat impl_rounds.enc some k))
  simp only [Option.map_some]
theorem impl_rounds.sound (k : Nat) : SoundF Try.prog 102 (fun a => (impl_rounds.ans k a).val) := by
  refine sound_plain (fun args res h => ?_) (fun t n => rfl)
  unfold impl_rounds.ans at h
  dsimp only at h
  split at h
  · cases k with
    | zero => cases h
    | succ k =>
      unfold Ans.val at h
      rw [← impl_rounds.eq] at h
      exact answer_sound mixed Try.func102 _ _ _ (k + 1) (fun j _ => tab_sound (tab_nil)) _ _ h
  · exact (Ans.no_val h).elim

/-! loop.example/g00790/impl.TurnRight -/
def impl_TurnRight.b {R : Type} (ret : Int → Option R) (k : Nat) (a0 : Int) (a1 : Int) : Option R :=
  (impl_isWord.f k a0).bind fun t0 => cond (!t0) (ret 0) ((impl_within.f k a1 0 31).bind fun t1 => cond (!t1) (ret 0) (cond (decide ((0 : Int) ≤ a1)) (cond (decide ((0 : Int) ≤ (RowKit.wrap64 ((32 : Int) - a1)))) (ret (Go.bits .and .i64 (Go.bits .or .i64 (shrI .i64 a0 a1) (shlI .i64 a0 (RowKit.wrap64 ((32 : Int) - a1)))) 4294967295)) (none)) (none)))
def impl_TurnRight.f : Nat → Int → Int → Option Int
  | 0, _, _ => none
  | k + 1, a0, a1 => impl_TurnRight.b some k a0 a1
def impl_TurnRight.enc (r : Int) : Res := ⟨[.vals false [((.int .i64 r), true)]], []⟩
def impl_TurnRight.ans (k : Nat) : List Arg → Ans
  | [.v (.int .i64 a0), .v (.int .i64 a1)] => ⟨impl_TurnRight.f k a0 a1, impl_TurnRight.enc⟩
  | _ => Ans.no
def impl_TurnRight.Cs (k : Nat) : CallSem := tab [(29, impl_within.ans k), (101, impl_isWord.ans k)]
def impl_TurnRight.cuts : List (Nat × Keep) := []
theorem impl_TurnRight.s (k : Nat) (a0 : Int) (a1 : Int) : answer Try.prog impl_TurnRight.Cs 100000 impl_TurnRight.cuts [] Try.f103 (k + 1) [.v (.int .i64 a0), .v (.int .i64 a1)] = impl_TurnRight.b (fun r => some (impl_TurnRight.enc r)) k a0 a1 := by kernel_rfl
theorem impl_TurnRight.b_nat {R R' : Type} (e : R → R') (ret : Int → Option R) (k : Nat) (a0 : Int) (a1 : Int) : impl_TurnRight.b (fun r => (ret r).map e) k a0 a1 = (impl_TurnRight.b ret k a0 a1).map e := by
  unfold impl_TurnRight.b
  repeat' first | with_reducible refine nat_cond ?_ ?_ | with_reducible refine nat_bind fun _ => ?_ | rfl
theorem impl_TurnRight.eq (k : Nat) (a0 : Int) (a1 : Int) : answer Try.prog impl_TurnRight.Cs 100000 impl_TurnRight.cuts [] Try.f103 (k + 1) [.v (.int .i64 a0), .v (.int .i64 a1)] = (impl_TurnRight.f (k + 1) a0 a1).map impl_TurnRight.enc := by
  refine (impl_TurnRight.s k a0 a1).trans (Eq.trans ?_ (impl_TurnRight.b_nat impl_TurnRight.enc some k a0 a1))
  simp only [Option.map_some]
theorem impl_TurnRight.sound (k : Nat) : SoundF Try.prog 103 (fun a => (impl_TurnRight.ans k a).val) := by
  refine sound_plain (fun args res h => ?_) (fun t n => rfl)
  unfold impl_TurnRight.ans at h
  dsimp only at h
  split at h
  · cases k with
    | zero => cases h
    | succ k =>
      unfold Ans.val at h
      rw [← impl_TurnRight.eq] at h
      exact answer_sound mixed Try.func103 _ _ _ (k + 1) (fun j _ => tab_sound (tab_cons (impl_within.sound j) (tab_cons (impl_isWord.sound j) (tab_nil)))) _ _ h
  · exact (Ans.no_val h).elim

/-! loop.example/g00790/impl.ShaBlock -/
def impl_ShaBlock.b {R : Type} (ret : Bool × List Int → Option R) (j0 : Bool → (List Int) → Bool → (List Int) → Bool → (List Int) → Int → Int → Option R) (j1 : Bool → (List Int) → Bool → (List Int) → Bool → (List Int) → Int → (List Int) → Option R) (j2 : Bool → (List Int) → Bool → (List Int) → Int → (List Int) → Option R) (j3 : Bool → (List Int) → Bool → (List Int) → Int → (List Int) → (List Int) → Option R) (j4 : Bool → (List Int) → (List Int) → Int → (List Int) → Option R) (k : Nat) (a0z : Bool) (a0 : List Int) (a1z : Bool) (a1 : List Int) : Option R :=
  cond (!(decide (((a0).length : Int) = 8))) (ret (true, ([] : List Int))) (cond (!(decide (((a1).length : Int) = 64))) (ret (true, ([] : List Int))) (j0 a0z a0 a1z a1 a0z a0 ((a0).length : Int) 0))
def impl_ShaBlock.l0b {R : Type} (ret : Bool × List Int → Option R) (j0 : Bool → (List Int) → Bool → (List Int) → Bool → (List Int) → Int → Int → Option R) (j1 : Bool → (List Int) → Bool → (List Int) → Bool → (List Int) → Int → (List Int) → Option R) (j2 : Bool → (List Int) → Bool → (List Int) → Int → (List Int) → Option R) (j3 : Bool → (List Int) → Bool → (List Int) → Int → (List Int) → (List Int) → Option R) (j4 : Bool → (List Int) → (List Int) → Int → (List Int) → Option R) (k : Nat) (x0z : Bool) (x0 : List Int) (x1z : Bool) (x1 : List Int) (x33z : Bool) (x33 : List Int) (x34 : Int) (x35 : Int) : Option R :=
  cond (decide (x35 < x34)) (cond (decide ((0 : Int) ≤ x35)) (cond (decide (x35 < ((x33).length : Int))) ((impl_isWord.f k (rdI x33 x35)).bind fun t0 => cond (!t0) (ret (true, ([] : List Int))) (j0 x0z x0 x1z x1 x33z x33 x34 (RowKit.wrap64 (x35 + 1)))) (none)) (none)) ((impl_rounds.f k).bind fun t0 => j1 x0z x0 x1z x1 t0.1 t0.2 0 ([0, 0, 0, 0, 0, 0, 0, 0, 0, 0, 0, 0, 0, 0, 0, 0, 0, 0, 0, 0, 0, 0, 0, 0, 0, 0, 0, 0, 0, 0, 0, 0, 0, 0, 0, 0, 0, 0, 0, 0, 0, 0, 0, 0, 0, 0, 0, 0, 0, 0, 0, 0, 0, 0, 0, 0, 0, 0, 0, 0, 0, 0, 0, 0] : List Int))
def impl_ShaBlock.l1b {R : Type} (ret : Bool × List Int → Option R) (j0 : Bool → (List Int) → Bool → (List Int) → Bool → (List Int) → Int → Int → Option R) (j1 : Bool → (List Int) → Bool → (List Int) → Bool → (List Int) → Int → (List Int) → Option R) (j2 : Bool → (List Int) → Bool → (List Int) → Int → (List Int) → Option R) (j3 : Bool → (List Int) → Bool → (List Int) → Int → (List Int) → (List Int) → Option R) (j4 : Bool → (List Int) → (List Int) → Int → (List Int) → Option R) (k : Nat) (x0z : Bool) (x0 : List Int) (x1z : Bool) (x1 : List Int) (x8z : Bool) (x8 : List Int) (x46 : Int) (c7 : List Int) : Option R :=
  cond (decide (x46 < 16)) (cond (decide ((0 : Int) ≤ (RowKit.wrap64 ((4 : Int) * x46)))) (cond (decide ((RowKit.wrap64 ((4 : Int) * x46)) < ((x1).length : Int))) (cond (decide ((0 : Int) ≤ (RowKit.wrap64 ((RowKit.wrap64 ((4 : Int) * x46)) + 1)))) (cond (decide ((RowKit.wrap64 ((RowKit.wrap64 ((4 : Int) * x46)) + 1)) < ((x1).length : Int))) (cond (decide ((0 : Int) ≤ (RowKit.wrap64 ((RowKit.wrap64 ((4 : Int) * x46)) + 2)))) (cond (decide ((RowKit.wrap64 ((RowKit.wrap64 ((4 : Int) * x46)) + 2)) < ((x1).length : Int))) (cond (decide ((0 : Int) ≤ (RowKit.wrap64 ((RowKit.wrap64 ((4 : Int) * x46)) + 3)))) (cond (decide ((RowKit.wrap64 ((RowKit.wrap64 ((4 : Int) * x46)) + 3)) < ((x1).length : Int))) (cond (decide ((0 : Int) ≤ x46)) (cond (decide (x46 < 64)) (j1 x0z x0 x1z x1 x8z x8 (RowKit.wrap64 (x46 + 1)) ((c7).set (x46).toNat (Go.bits .or .i64 (Go.bits .or .i64 (Go.bits .or .i64 (shlI .i64 (RowKit.wrap64 ((rdI x1 (RowKit.wrap64 ((4 : Int) * x46))))) 24) (shlI .i64 (RowKit.wrap64 ((rdI x1 (RowKit.wrap64 ((RowKit.wrap64 ((4 : Int) * x46)) + 1))))) 16)) (shlI .i64 (RowKit.wrap64 ((rdI x1 (RowKit.wrap64 ((RowKit.wrap64 ((4 : Int) * x46)) + 2))))) 8)) (RowKit.wrap64 ((rdI x1 (RowKit.wrap64 ((RowKit.wrap64 ((4 : Int) * x46)) + 3)))))))) (none)) (none)) (none)) (none)) (none)) (none)) (none)) (none)) (none)) (none)) (j2 x0z x0 x8z x8 16 c7)
def impl_ShaBlock.l2b {R : Type} (ret : Bool × List Int → Option R) (j0 : Bool → (List Int) → Bool → (List Int) → Bool → (List Int) → Int → Int → Option R) (j1 : Bool → (List Int) → Bool → (List Int) → Bool → (List Int) → Int → (List Int) → Option R) (j2 : Bool → (List Int) → Bool → (List Int) → Int → (List Int) → Option R) (j3 : Bool → (List Int) → Bool → (List Int) → Int → (List Int) → (List Int) → Option R) (j4 : Bool → (List Int) → (List Int) → Int → (List Int) → Option R) (k : Nat) (x0z : Bool) (x0 : List Int) (x8z : Bool) (x8 : List Int) (x11 : Int) (c7 : List Int) : Option R :=
  cond (decide (x11 < 64)) (cond (decide ((0 : Int) ≤ (RowKit.wrap64 (x11 - 15)))) (cond (decide ((RowKit.wrap64 (x11 - 15)) < 64)) (cond (decide ((0 : Int) ≤ (RowKit.wrap64 (x11 - 2)))) (cond (decide ((RowKit.wrap64 (x11 - 2)) < 64)) ((impl_TurnRight.f k (rdI c7 (RowKit.wrap64 (x11 - 15))) 7).bind fun t0 => (impl_TurnRight.f k (rdI c7 (RowKit.wrap64 (x11 - 15))) 18).bind fun t1 => (impl_TurnRight.f k (rdI c7 (RowKit.wrap64 (x11 - 2))) 17).bind fun t2 => (impl_TurnRight.f k (rdI c7 (RowKit.wrap64 (x11 - 2))) 19).bind fun t3 => cond (decide ((0 : Int) ≤ (RowKit.wrap64 (x11 - 16)))) (cond (decide ((RowKit.wrap64 (x11 - 16)) < 64)) (cond (decide ((0 : Int) ≤ (RowKit.wrap64 (x11 - 7)))) (cond (decide ((RowKit.wrap64 (x11 - 7)) < 64)) (cond (decide ((0 : Int) ≤ x11)) (cond (decide (x11 < 64)) (j2 x0z x0 x8z x8 (RowKit.wrap64 (x11 + 1)) ((c7).set (x11).toNat (Go.bits .and .i64 (RowKit.wrap64 ((RowKit.wrap64 ((RowKit.wrap64 ((rdI c7 (RowKit.wrap64 (x11 - 16))) + (Go.bits .xor .i64 (Go.bits .xor .i64 t0 t1) (shrI .i64 (rdI c7 (RowKit.wrap64 (x11 - 15))) 3)))) + (rdI c7 (RowKit.wrap64 (x11 - 7))))) + (Go.bits .xor .i64 (Go.bits .xor .i64 t2 t3) (shrI .i64 (rdI c7 (RowKit.wrap64 (x11 - 2))) 10)))) 4294967295))) (none)) (none)) (none)) (none)) (none)) (none)) (none)) (none)) (none)) (none)) (j3 x0z x0 x8z x8 0 c7 ((x0).take 8 ++ (([0, 0, 0, 0, 0, 0, 0, 0] : List Int)).drop (x0).length))
def impl_ShaBlock.l3b {R : Type} (ret : Bool × List Int → Option R) (j0 : Bool → (List Int) → Bool → (List Int) → Bool → (List Int) → Int → Int → Option R) (j1 : Bool → (List Int) → Bool → (List Int) → Bool → (List Int) → Int → (List Int) → Option R) (j2 : Bool → (List Int) → Bool → (List Int) → Int → (List Int) → Option R) (j3 : Bool → (List Int) → Bool → (List Int) → Int → (List Int) → (List Int) → Option R) (j4 : Bool → (List Int) → (List Int) → Int → (List Int) → Option R) (k : Nat) (x0z : Bool) (x0 : List Int) (x8z : Bool) (x8 : List Int) (x132 : Int) (c7 : List Int) (c9 : List Int) : Option R :=
  cond (decide (x132 < 64)) ((impl_TurnRight.f k (rdI c9 4) 6).bind fun t0 => (impl_TurnRight.f k (rdI c9 4) 11).bind fun t1 => (impl_TurnRight.f k (rdI c9 4) 25).bind fun t2 => cond (decide ((0 : Int) ≤ x132)) (cond (decide (x132 < ((x8).length : Int))) (cond (decide ((0 : Int) ≤ x132)) (cond (decide (x132 < 64)) ((impl_TurnRight.f k (rdI c9 0) 2).bind fun t3 => (impl_TurnRight.f k (rdI c9 0) 13).bind fun t4 => (impl_TurnRight.f k (rdI c9 0) 22).bind fun t5 => j3 x0z x0 x8z x8 (RowKit.wrap64 (x132 + 1)) c7 ([(Go.bits .and .i64 (RowKit.wrap64 ((RowKit.wrap64 ((RowKit.wrap64 ((RowKit.wrap64 ((RowKit.wrap64 ((rdI c9 7) + (Go.bits .xor .i64 (Go.bits .xor .i64 t0 t1) t2))) + (Go.bits .or .i64 (Go.bits .and .i64 (rdI c9 4) (rdI c9 5)) (Go.bits .and .i64 (Go.bits .xor .i64 (rdI c9 4) 4294967295) (rdI c9 6))))) + (rdI x8 x132))) + (rdI c7 x132))) + (RowKit.wrap64 ((Go.bits .xor .i64 (Go.bits .xor .i64 t3 t4) t5) + (Go.bits .or .i64 (Go.bits .or .i64 (Go.bits .and .i64 (rdI c9 0) (rdI c9 1)) (Go.bits .and .i64 (rdI c9 0) (rdI c9 2))) (Go.bits .and .i64 (rdI c9 1) (rdI c9 2))))))) 4294967295), (rdI c9 0), (rdI c9 1), (rdI c9 2), (Go.bits .and .i64 (RowKit.wrap64 ((rdI c9 3) + (RowKit.wrap64 ((RowKit.wrap64 ((RowKit.wrap64 ((RowKit.wrap64 ((rdI c9 7) + (Go.bits .xor .i64 (Go.bits .xor .i64 t0 t1) t2))) + (Go.bits .or .i64 (Go.bits .and .i64 (rdI c9 4) (rdI c9 5)) (Go.bits .and .i64 (Go.bits .xor .i64 (rdI c9 4) 4294967295) (rdI c9 6))))) + (rdI x8 x132))) + (rdI c7 x132))))) 4294967295), (rdI c9 4), (rdI c9 5), (rdI c9 6)] : List Int)) (none)) (none)) (none)) (none)) (j4 x0z x0 ([] : List Int) 0 c9)
def impl_ShaBlock.l4b {R : Type} (ret : Bool × List Int → Option R) (j0 : Bool → (List Int) → Bool → (List Int) → Bool → (List Int) → Int → Int → Option R) (j1 : Bool → (List Int) → Bool → (List Int) → Bool → (List Int) → Int → (List Int) → Option R) (j2 : Bool → (List Int) → Bool → (List Int) → Int → (List Int) → Option R) (j3 : Bool → (List Int) → Bool → (List Int) → Int → (List Int) → (List Int) → Option R) (j4 : Bool → (List Int) → (List Int) → Int → (List Int) → Option R) (k : Nat) (x0z : Bool) (x0 : List Int) (x23 : List Int) (x218 : Int) (c9 : List Int) : Option R :=
  cond (decide (x218 < 8)) (cond (decide ((0 : Int) ≤ x218)) (cond (decide (x218 < ((x0).length : Int))) (cond (decide ((0 : Int) ≤ x218)) (cond (decide (x218 < 8)) (cond (decide ((x23).length + 1 < 17592186044416)) (j4 x0z x0 (x23 ++ ([(Go.bits .and .i64 (RowKit.wrap64 ((rdI x0 x218) + (rdI c9 x218))) 4294967295)] : List Int)) (RowKit.wrap64 (x218 + 1)) c9) (none)) (none)) (none)) (none)) (none)) (ret (false, x23))
mutual
def impl_ShaBlock.l0 : Nat → Bool → (List Int) → Bool → (List Int) → Bool → (List Int) → Int → Int → Option (Bool × List Int)
  | 0, _, _, _, _, _, _, _, _ => none
  | k + 1, x0z, x0, x1z, x1, x33z, x33, x34, x35 => impl_ShaBlock.l0b some (impl_ShaBlock.l0 k) (impl_ShaBlock.l1 k) (impl_ShaBlock.l2 k) (impl_ShaBlock.l3 k) (impl_ShaBlock.l4 k) k x0z x0 x1z x1 x33z x33 x34 x35
def impl_ShaBlock.l1 : Nat → Bool → (List Int) → Bool → (List Int) → Bool → (List Int) → Int → (List Int) → Option (Bool × List Int)
  | 0, _, _, _, _, _, _, _, _ => none
  | k + 1, x0z, x0, x1z, x1, x8z, x8, x46, c7 => impl_ShaBlock.l1b some (impl_ShaBlock.l0 k) (impl_ShaBlock.l1 k) (impl_ShaBlock.l2 k) (impl_ShaBlock.l3 k) (impl_ShaBlock.l4 k) k x0z x0 x1z x1 x8z x8 x46 c7
def impl_ShaBlock.l2 : Nat → Bool → (List Int) → Bool → (List Int) → Int → (List Int) → Option (Bool × List Int)
  | 0, _, _, _, _, _, _ => none
  | k + 1, x0z, x0, x8z, x8, x11, c7 => impl_ShaBlock.l2b some (impl_ShaBlock.l0 k) (impl_ShaBlock.l1 k) (impl_ShaBlock.l2 k) (impl_ShaBlock.l3 k) (impl_ShaBlock.l4 k) k x0z x0 x8z x8 x11 c7
def impl_ShaBlock.l3 : Nat → Bool → (List Int) → Bool → (List Int) → Int → (List Int) → (List Int) → Option (Bool × List Int)
  | 0, _, _, _, _, _, _, _ => none
  | k + 1, x0z, x0, x8z, x8, x132, c7, c9 => impl_ShaBlock.l3b some (impl_ShaBlock.l0 k) (impl_ShaBlock.l1 k) (impl_ShaBlock.l2 k) (impl_ShaBlock.l3 k) (impl_ShaBlock.l4 k) k x0z x0 x8z x8 x132 c7 c9
def impl_ShaBlock.l4 : Nat → Bool → (List Int) → (List Int) → Int → (List Int) → Option (Bool × List Int)
  | 0, _, _, _, _, _ => none
  | k + 1, x0z, x0, x23, x218, c9 => impl_ShaBlock.l4b some (impl_ShaBlock.l0 k) (impl_ShaBlock.l1 k) (impl_ShaBlock.l2 k) (impl_ShaBlock.l3 k) (impl_ShaBlock.l4 k) k x0z x0 x23 x218 c9
end
def impl_ShaBlock.f : Nat → Bool → (List Int) → Bool → (List Int) → Option (Bool × List Int)
  | 0, _, _, _, _ => none
  | k + 1, a0z, a0, a1z, a1 => impl_ShaBlock.b some (impl_ShaBlock.l0 k) (impl_ShaBlock.l1 k) (impl_ShaBlock.l2 k) (impl_ShaBlock.l3 k) (impl_ShaBlock.l4 k) k a0z a0 a1z a1
def impl_ShaBlock.enc (r : Bool × List Int) : Res := ⟨[.vals false [((.nums 3 .i64 r.1 r.2), true)]], []⟩
def impl_ShaBlock.ans (k : Nat) : List Arg → Ans
  | [.v (.nums 3 .i64 a0z a0), .v (.nums 5 .u8 a1z a1)] => ⟨impl_ShaBlock.f k a0z a0 a1z a1, impl_ShaBlock.enc⟩
  | _ => Ans.no
def impl_ShaBlock.Cs (k : Nat) : CallSem := tab [(101, impl_isWord.ans k), (102, impl_rounds.ans k), (103, impl_TurnRight.ans k)]
def impl_ShaBlock.cuts : List (Nat × Keep) := [(58, ⟨[(0, some []), (1, some []), (33, some []), (34, some []), (35, some [])], []⟩), (250, ⟨[(0, some []), (1, some []), (7, some []), (8, none), (9, some []), (46, some [])], []⟩), (506, ⟨[(0, some []), (7, some []), (8, none), (9, some []), (11, some [])], []⟩), (2042, ⟨[(0, some []), (7, some []), (8, none), (9, some []), (132, some [])], []⟩), (8186, ⟨[(0, some []), (9, some []), (23, none), (218, some [])], []⟩)]
noncomputable def impl_ShaBlock.K0 : List Fr := framesAt [true, true, false, true, false] (bodyOf Try.f89 impl_ShaBlock.cuts) []
def impl_ShaBlock.N0 (x0z : Bool) (x0 : List Int) (x1z : Bool) (x1 : List Int) (x33z : Bool) (x33 : List Int) (x34 : Int) (x35 : Int) : St := stOf 235 235 2 [(0, .val ⟨(.nums 3 .i64 x0z x0), [], false, none⟩), (1, .val ⟨(.nums 5 .u8 x1z x1), [], false, none⟩), (33, .val ⟨(.nums 3 .i64 x33z x33), [], false, none⟩), (34, .val (V.s (.int .i64 x34))), (35, .val (V.s (.int .i64 x35)))] []
noncomputable def impl_ShaBlock.K1 : List Fr := framesAt [true, true, true, true, false, true, false] (bodyOf Try.f89 impl_ShaBlock.cuts) []
def impl_ShaBlock.N1 (x0z : Bool) (x0 : List Int) (x1z : Bool) (x1 : List Int) (x8z : Bool) (x8 : List Int) (x46 : Int) (c7 : List Int) : St := stOf 235 235 2 [(0, .val ⟨(.nums 3 .i64 x0z x0), [], false, none⟩), (1, .val ⟨(.nums 5 .u8 x1z x1), [], false, none⟩), (7, .bp 7 0), (8, .val ⟨(.nums 3 .i64 x8z x8), [.l 8 0], true, some (.l 8 0)⟩), (9, .bp 9 0), (46, .val (V.s (.int .i64 x46)))] [(7, .arr .i64 64 c7), (9, .arr .i64 8 ([0, 0, 0, 0, 0, 0, 0, 0] : List Int))]
noncomputable def impl_ShaBlock.K2 : List Fr := framesAt [true, true, true, true, true, false, true, false] (bodyOf Try.f89 impl_ShaBlock.cuts) []
def impl_ShaBlock.N2 (x0z : Bool) (x0 : List Int) (x8z : Bool) (x8 : List Int) (x11 : Int) (c7 : List Int) : St := stOf 235 235 2 [(0, .val ⟨(.nums 3 .i64 x0z x0), [], false, none⟩), (7, .bp 7 0), (8, .val ⟨(.nums 3 .i64 x8z x8), [.l 8 0], true, some (.l 8 0)⟩), (9, .bp 9 0), (11, .val (V.s (.int .i64 x11)))] [(7, .arr .i64 64 c7), (9, .arr .i64 8 ([0, 0, 0, 0, 0, 0, 0, 0] : List Int))]
noncomputable def impl_ShaBlock.K3 : List Fr := framesAt [true, true, true, true, true, true, true, false, true, false] (bodyOf Try.f89 impl_ShaBlock.cuts) []
def impl_ShaBlock.N3 (x0z : Bool) (x0 : List Int) (x8z : Bool) (x8 : List Int) (x132 : Int) (c7 : List Int) (c9 : List Int) : St := stOf 235 235 2 [(0, .val ⟨(.nums 3 .i64 x0z x0), [], false, none⟩), (7, .bp 7 0), (8, .val ⟨(.nums 3 .i64 x8z x8), [.l 8 0], true, some (.l 8 0)⟩), (9, .bp 9 0), (132, .val (V.s (.int .i64 x132)))] [(7, .arr .i64 64 c7), (9, .arr .i64 8 c9)]
noncomputable def impl_ShaBlock.K4 : List Fr := framesAt [true, true, true, true, true, true, true, true, true, false, true, false] (bodyOf Try.f89 impl_ShaBlock.cuts) []
def impl_ShaBlock.N4 (x0z : Bool) (x0 : List Int) (x23 : List Int) (x218 : Int) (c9 : List Int) : St := stOf 235 235 2 [(0, .val ⟨(.nums 3 .i64 x0z x0), [], false, none⟩), (9, .bp 9 0), (23, .val ⟨(.nums 3 .i64 false x23), [.l 23 0], true, some (.l 23 0)⟩), (218, .val (V.s (.int .i64 x218)))] [(9, .arr .i64 8 c9)]
theorem impl_ShaBlock.s (k : Nat) (a0z : Bool) (a0 : List Int) (a1z : Bool) (a1 : List Int) : answer Try.prog impl_ShaBlock.Cs 100000 impl_ShaBlock.cuts [] Try.f89 (k + 1) [.v (.nums 3 .i64 a0z a0), .v (.nums 5 .u8 a1z a1)] = impl_ShaBlock.b (fun r => some (impl_ShaBlock.enc r)) (fun x0z x0 x1z x1 x33z x33 x34 x35 => rounds Try.prog impl_ShaBlock.Cs (finish Try.prog [] Try.f89 [.v (.nums 3 .i64 a0z a0), .v (.nums 5 .u8 a1z a1)]) 100000 k impl_ShaBlock.K0 (impl_ShaBlock.N0 x0z x0 x1z x1 x33z x33 x34 x35)) (fun x0z x0 x1z x1 x8z x8 x46 c7 => rounds Try.prog impl_ShaBlock.Cs (finish Try.prog [] Try.f89 [.v (.nums 3 .i64 a0z a0), .v (.nums 5 .u8 a1z a1)]) 100000 k impl_ShaBlock.K1 (impl_ShaBlock.N1 x0z x0 x1z x1 x8z x8 x46 c7)) (fun x0z x0 x8z x8 x11 c7 => rounds Try.prog impl_ShaBlock.Cs (finish Try.prog [] Try.f89 [.v (.nums 3 .i64 a0z a0), .v (.nums 5 .u8 a1z a1)]) 100000 k impl_ShaBlock.K2 (impl_ShaBlock.N2 x0z x0 x8z x8 x11 c7)) (fun x0z x0 x8z x8 x132 c7 c9 => rounds Try.prog impl_ShaBlock.Cs (finish Try.prog [] Try.f89 [.v (.nums 3 .i64 a0z a0), .v (.nums 5 .u8 a1z a1)]) 100000 k impl_ShaBlock.K3 (impl_ShaBlock.N3 x0z x0 x8z x8 x132 c7 c9)) (fun x0z x0 x23 x218 c9 => rounds Try.prog impl_ShaBlock.Cs (finish Try.prog [] Try.f89 [.v (.nums 3 .i64 a0z a0), .v (.nums 5 .u8 a1z a1)]) 100000 k impl_ShaBlock.K4 (impl_ShaBlock.N4 x0z x0 x23 x218 c9)) k a0z a0 a1z a1 := by kernel_rfl
theorem impl_ShaBlock.s0 (k : Nat) (G : List Fr → St → Option Res) (a0z : Bool) (a0 : List Int) (a1z : Bool) (a1 : List Int) (yx0z : Bool) (yx0 : List Int) (yx1z : Bool) (yx1 : List Int) (yx33z : Bool) (yx33 : List Int) (yx34 : Int) (yx35 : Int) : resume Try.prog (impl_ShaBlock.Cs k) G (finish Try.prog [] Try.f89 [.v (.nums 3 .i64 a0z a0), .v (.nums 5 .u8 a1z a1)]) 100000 impl_ShaBlock.K0 (impl_ShaBlock.N0 yx0z yx0 yx1z yx1 yx33z yx33 yx34 yx35) = impl_ShaBlock.l0b (fun r => some (impl_ShaBlock.enc r)) (fun x0z x0 x1z x1 x33z x33 x34 x35 => G impl_ShaBlock.K0 (impl_ShaBlock.N0 x0z x0 x1z x1 x33z x33 x34 x35)) (fun x0z x0 x1z x1 x8z x8 x46 c7 => G impl_ShaBlock.K1 (impl_ShaBlock.N1 x0z x0 x1z x1 x8z x8 x46 c7)) (fun x0z x0 x8z x8 x11 c7 => G impl_ShaBlock.K2 (impl_ShaBlock.N2 x0z x0 x8z x8 x11 c7)) (fun x0z x0 x8z x8 x132 c7 c9 => G impl_ShaBlock.K3 (impl_ShaBlock.N3 x0z x0 x8z x8 x132 c7 c9)) (fun x0z x0 x23 x218 c9 => G impl_ShaBlock.K4 (impl_ShaBlock.N4 x0z x0 x23 x218 c9)) k yx0z yx0 yx1z yx1 yx33z yx33 yx34 yx35 := by kernel_rfl
theorem impl_ShaBlock.s1 (k : Nat) (G : List Fr → St → Option Res) (a0z : Bool) (a0 : List Int) (a1z : Bool) (a1 : List Int) (yx0z : Bool) (yx0 : List Int) (yx1z : Bool) (yx1 : List Int) (yx8z : Bool) (yx8 : List Int) (yx46 : Int) (yc7 : List Int) : resume Try.prog (impl_ShaBlock.Cs k) G (finish Try.prog [] Try.f89 [.v (.nums 3 .i64 a0z a0), .v (.nums 5 .u8 a1z a1)]) 100000 impl_ShaBlock.K1 (impl_ShaBlock.N1 yx0z yx0 yx1z yx1 yx8z yx8 yx46 yc7) = impl_ShaBlock.l1b (fun r => some (impl_ShaBlock.enc r)) (fun x0z x0 x1z x1 x33z x33 x34 x35 => G impl_ShaBlock.K0 (impl_ShaBlock.N0 x0z x0 x1z x1 x33z x33 x34 x35)) (fun x0z x0 x1z x1 x8z x8 x46 c7 => G impl_ShaBlock.K1 (impl_ShaBlock.N1 x0z x0 x1z x1 x8z x8 x46 c7)) (fun x0z x0 x8z x8 x11 c7 => G impl_ShaBlock.K2 (impl_ShaBlock.N2 x0z x0 x8z x8 x11 c7)) (fun x0z x0 x8z x8 x132 c7 c9 => G impl_ShaBlock.K3 (impl_ShaBlock.N3 x0z x0 x8z x8 x132 c7 c9)) (fun x0z x0 x23 x218 c9 => G impl_ShaBlock.K4 (impl_ShaBlock.N4 x0z x0 x23 x218 c9)) k yx0z yx0 yx1z yx1 yx8z yx8 yx46 yc7 := by kernel_rfl
theorem impl_ShaBlock.s2 (k : Nat) (G : List Fr → St → Option Res) (a0z : Bool) (a0 : List Int) (a1z : Bool) (a1 : List Int) (yx0z : Bool) (yx0 : List Int) (yx8z : Bool) (yx8 : List Int) (yx11 : Int) (yc7 : List Int) : resume Try.prog (impl_ShaBlock.Cs k) G (finish Try.prog [] Try.f89 [.v (.nums 3 .i64 a0z a0), .v (.nums 5 .u8 a1z a1)]) 100000 impl_ShaBlock.K2 (impl_ShaBlock.N2 yx0z yx0 yx8z yx8 yx11 yc7) = impl_ShaBlock.l2b (fun r => some (impl_ShaBlock.enc r)) (fun x0z x0 x1z x1 x33z x33 x34 x35 => G impl_ShaBlock.K0 (impl_ShaBlock.N0 x0z x0 x1z x1 x33z x33 x34 x35)) (fun x0z x0 x1z x1 x8z x8 x46 c7 => G impl_ShaBlock.K1 (impl_ShaBlock.N1 x0z x0 x1z x1 x8z x8 x46 c7)) (fun x0z x0 x8z x8 x11 c7 => G impl_ShaBlock.K2 (impl_ShaBlock.N2 x0z x0 x8z x8 x11 c7)) (fun x0z x0 x8z x8 x132 c7 c9 => G impl_ShaBlock.K3 (impl_ShaBlock.N3 x0z x0 x8z x8 x132 c7 c9)) (fun x0z x0 x23 x218 c9 => G impl_ShaBlock.K4 (impl_ShaBlock.N4 x0z x0 x23 x218 c9)) k yx0z yx0 yx8z yx8 yx11 yc7 := by kernel_rfl
theorem impl_ShaBlock.s3 (k : Nat) (G : List Fr → St → Option Res) (a0z : Bool) (a0 : List Int) (a1z : Bool) (a1 : List Int) (yx0z : Bool) (yx0 : List Int) (yx8z : Bool) (yx8 : List Int) (yx132 : Int) (yc7 : List Int) (yc9 : List Int) : resume Try.prog (impl_ShaBlock.Cs k) G (finish Try.prog [] Try.f89 [.v (.nums 3 .i64 a0z a0), .v (.nums 5 .u8 a1z a1)]) 100000 impl_ShaBlock.K3 (impl_ShaBlock.N3 yx0z yx0 yx8z yx8 yx132 yc7 yc9) = impl_ShaBlock.l3b (fun r => some (impl_ShaBlock.enc r)) (fun x0z x0 x1z x1 x33z x33 x34 x35 => G impl_ShaBlock.K0 (impl_ShaBlock.N0 x0z x0 x1z x1 x33z x33 x34 x35)) (fun x0z x0 x1z x1 x8z x8 x46 c7 => G impl_ShaBlock.K1 (impl_ShaBlock.N1 x0z x0 x1z x1 x8z x8 x46 c7)) (fun x0z x0 x8z x8 x11 c7 => G impl_ShaBlock.K2 (impl_ShaBlock.N2 x0z x0 x8z x8 x11 c7)) (fun x0z x0 x8z x8 x132 c7 c9 => G impl_ShaBlock.K3 (impl_ShaBlock.N3 x0z x0 x8z x8 x132 c7 c9)) (fun x0z x0 x23 x218 c9 => G impl_ShaBlock.K4 (impl_ShaBlock.N4 x0z x0 x23 x218 c9)) k yx0z yx0 yx8z yx8 yx132 yc7 yc9 := by kernel_rfl
theorem impl_ShaBlock.s4 (k : Nat) (G : List Fr → St → Option Res) (a0z : Bool) (a0 : List Int) (a1z : Bool) (a1 : List Int) (yx0z : Bool) (yx0 : List Int) (yx23 : List Int) (yx218 : Int) (yc9 : List Int) : resume Try.prog (impl_ShaBlock.Cs k) G (finish Try.prog [] Try.f89 [.v (.nums 3 .i64 a0z a0), .v (.nums 5 .u8 a1z a1)]) 100000 impl_ShaBlock.K4 (impl_ShaBlock.N4 yx0z yx0 yx23 yx218 yc9) = impl_ShaBlock.l4b (fun r => some (impl_ShaBlock.enc r)) (fun x0z x0 x1z x1 x33z x33 x34 x35 => G impl_ShaBlock.K0 (impl_ShaBlock.N0 x0z x0 x1z x1 x33z x33 x34 x35)) (fun x0z x0 x1z x1 x8z x8 x46 c7 => G impl_ShaBlock.K1 (impl_ShaBlock.N1 x0z x0 x1z x1 x8z x8 x46 c7)) (fun x0z x0 x8z x8 x11 c7 => G impl_ShaBlock.K2 (impl_ShaBlock.N2 x0z x0 x8z x8 x11 c7)) (fun x0z x0 x8z x8 x132 c7 c9 => G impl_ShaBlock.K3 (impl_ShaBlock.N3 x0z x0 x8z x8 x132 c7 c9)) (fun x0z x0 x23 x218 c9 => G impl_ShaBlock.K4 (impl_ShaBlock.N4 x0z x0 x23 x218 c9)) k yx0z yx0 yx23 yx218 yc9 := by kernel_rfl
theorem impl_ShaBlock.b_nat {R R' : Type} (e : R → R') (ret : Bool × List Int → Option R) (j0 : Bool → (List Int) → Bool → (List Int) → Bool → (List Int) → Int → Int → Option R) (j1 : Bool → (List Int) → Bool → (List Int) → Bool → (List Int) → Int → (List Int) → Option R) (j2 : Bool → (List Int) → Bool → (List Int) → Int → (List Int) → Option R) (j3 : Bool → (List Int) → Bool → (List Int) → Int → (List Int) → (List Int) → Option R) (j4 : Bool → (List Int) → (List Int) → Int → (List Int) → Option R) (k : Nat) (a0z : Bool) (a0 : List Int) (a1z : Bool) (a1 : List Int) : impl_ShaBlock.b (fun r => (ret r).map e) (fun x0z x0 x1z x1 x33z x33 x34 x35 => (j0 x0z x0 x1z x1 x33z x33 x34 x35).map e) (fun x0z x0 x1z x1 x8z x8 x46 c7 => (j1 x0z x0 x1z x1 x8z x8 x46 c7).map e) (fun x0z x0 x8z x8 x11 c7 => (j2 x0z x0 x8z x8 x11 c7).map e) (fun x0z x0 x8z x8 x132 c7 c9 => (j3 x0z x0 x8z x8 x132 c7 c9).map e) (fun x0z x0 x23 x218 c9 => (j4 x0z x0 x23 x218 c9).map e) k a0z a0 a1z a1 = (impl_ShaBlock.b ret j0 j1 j2 j3 j4 k a0z a0 a1z a1).map e := by
  unfold impl_ShaBlock.b
  repeat' first | with_reducible refine nat_cond ?_ ?_ | with_reducible refine nat_bind fun _ => ?_ | rfl
theorem impl_ShaBlock.l0b_nat {R R' : Type} (e : R → R') (ret : Bool × List Int → Option R) (j0 : Bool → (List Int) → Bool → (List Int) → Bool → (List Int) → Int → Int → Option R) (j1 : Bool → (List Int) → Bool → (List Int) → Bool → (List Int) → Int → (List Int) → Option R) (j2 : Bool → (List Int) → Bool → (List Int) → Int → (List Int) → Option R) (j3 : Bool → (List Int) → Bool → (List Int) → Int → (List Int) → (List Int) → Option R) (j4 : Bool → (List Int) → (List Int) → Int → (List Int) → Option R) (k : Nat) (x0z : Bool) (x0 : List Int) (x1z : Bool) (x1 : List Int) (x33z : Bool) (x33 : List Int) (x34 : Int) (x35 : Int) : impl_ShaBlock.l0b (fun r => (ret r).map e) (fun x0z x0 x1z x1 x33z x33 x34 x35 => (j0 x0z x0 x1z x1 x33z x33 x34 x35).map e) (fun x0z x0 x1z x1 x8z x8 x46 c7 => (j1 x0z x0 x1z x1 x8z x8 x46 c7).map e) (fun x0z x0 x8z x8 x11 c7 => (j2 x0z x0 x8z x8 x11 c7).map e) (fun x0z x0 x8z x8 x132 c7 c9 => (j3 x0z x0 x8z x8 x132 c7 c9).map e) (fun x0z x0 x23 x218 c9 => (j4 x0z x0 x23 x218 c9).map e) k x0z x0 x1z x1 x33z x33 x34 x35 = (impl_ShaBlock.l0b ret j0 j1 j2 j3 j4 k x0z x0 x1z x1 x33z x33 x34 x35).map e := by
  unfold impl_ShaBlock.l0b
  repeat' first | with_reducible refine nat_cond ?_ ?_ | with_reducible refine nat_bind fun _ => ?_ | rfl
theorem impl_ShaBlock.l1b_nat {R R' : Type} (e : R → R') (ret : Bool × List Int → Option R) (j0 : Bool → (List Int) → Bool → (List Int) → Bool → (List Int) → Int → Int → Option R) (j1 : Bool → (List Int) → Bool → (List Int) → Bool → (List Int) → Int → (List Int) → Option R) (j2 : Bool → (List Int) → Bool → (List Int) → Int → (List Int) → Option R) (j3 : Bool → (List Int) → Bool → (List Int) → Int → (List Int) → (List Int) → Option R) (j4 : Bool → (List Int) → (List Int) → Int → (List Int) → Option R) (k : Nat) (x0z : Bool) (x0 : List Int) (x1z : Bool) (x1 : List Int) (x8z : Bool) (x8 : List Int) (x46 : Int) (c7 : List Int) : impl_ShaBlock.l1b (fun r => (ret r).map e) (fun x0z x0 x1z x1 x33z x33 x34 x35 => (j0 x0z x0 x1z x1 x33z x33 x34 x35).map e) (fun x0z x0 x1z x1 x8z x8 x46 c7 => (j1 x0z x0 x1z x1 x8z x8 x46 c7).map e) (fun x0z x0 x8z x8 x11 c7 => (j2 x0z x0 x8z x8 x11 c7).map e) (fun x0z x0 x8z x8 x132 c7 c9 => (j3 x0z x0 x8z x8 x132 c7 c9).map e) (fun x0z x0 x23 x218 c9 => (j4 x0z x0 x23 x218 c9).map e) k x0z x0 x1z x1 x8z x8 x46 c7 = (impl_ShaBlock.l1b ret j0 j1 j2 j3 j4 k x0z x0 x1z x1 x8z x8 x46 c7).map e := by
  unfold impl_ShaBlock.l1b
  repeat' first | with_reducible refine nat_cond ?_ ?_ | with_reducible refine nat_bind fun _ => ?_ | rfl
theorem impl_ShaBlock.l2b_nat {R R' : Type} (e : R → R') (ret : Bool × List Int → Option R) (j0 : Bool → (List Int) → Bool → (List Int) → Bool → (List Int) → Int → Int → Option R) (j1 : Bool → (List Int) → Bool → (List Int) → Bool → (List Int) → Int → (List Int) → Option R) (j2 : Bool → (List Int) → Bool → (List Int) → Int → (List Int) → Option R) (j3 : Bool → (List Int) → Bool → (List Int) → Int → (List Int) → (List Int) → Option R) (j4 : Bool → (List Int) → (List Int) → Int → (List Int) → Option R) (k : Nat) (x0z : Bool) (x0 : List Int) (x8z : Bool) (x8 : List Int) (x11 : Int) (c7 : List Int) : impl_ShaBlock.l2b (fun r => (ret r).map e) (fun x0z x0 x1z x1 x33z x33 x34 x35 => (j0 x0z x0 x1z x1 x33z x33 x34 x35).map e) (fun x0z x0 x1z x1 x8z x8 x46 c7 => (j1 x0z x0 x1z x1 x8z x8 x46 c7).map e) (fun x0z x0 x8z x8 x11 c7 => (j2 x0z x0 x8z x8 x11 c7).map e) (fun x0z x0 x8z x8 x132 c7 c9 => (j3 x0z x0 x8z x8 x132 c7 c9).map e) (fun x0z x0 x23 x218 c9 => (j4 x0z x0 x23 x218 c9).map e) k x0z x0 x8z x8 x11 c7 = (impl_ShaBlock.l2b ret j0 j1 j2 j3 j4 k x0z x0 x8z x8 x11 c7).map e := by
  unfold impl_ShaBlock.l2b
  repeat' first | with_reducible refine nat_cond ?_ ?_ | with_reducible refine nat_bind fun _ => ?_ | rfl
theorem impl_ShaBlock.l3b_nat {R R' : Type} (e : R → R') (ret : Bool × List Int → Option R) (j0 : Bool → (List Int) → Bool → (List Int) → Bool → (List Int) → Int → Int → Option R) (j1 : Bool → (List Int) → Bool → (List Int) → Bool → (List Int) → Int → (List Int) → Option R) (j2 : Bool → (List Int) → Bool → (List Int) → Int → (List Int) → Option R) (j3 : Bool → (List Int) → Bool → (List Int) → Int → (List Int) → (List Int) → Option R) (j4 : Bool → (List Int) → (List Int) → Int → (List Int) → Option R) (k : Nat) (x0z : Bool) (x0 : List Int) (x8z : Bool) (x8 : List Int) (x132 : Int) (c7 : List Int) (c9 : List Int) : impl_ShaBlock.l3b (fun r => (ret r).map e) (fun x0z x0 x1z x1 x33z x33 x34 x35 => (j0 x0z x0 x1z x1 x33z x33 x34 x35).map e) (fun x0z x0 x1z x1 x8z x8 x46 c7 => (j1 x0z x0 x1z x1 x8z x8 x46 c7).map e) (fun x0z x0 x8z x8 x11 c7 => (j2 x0z x0 x8z x8 x11 c7).map e) (fun x0z x0 x8z x8 x132 c7 c9 => (j3 x0z x0 x8z x8 x132 c7 c9).map e) (fun x0z x0 x23 x218 c9 => (j4 x0z x0 x23 x218 c9).map e) k x0z x0 x8z x8 x132 c7 c9 = (impl_ShaBlock.l3b ret j0 j1 j2 j3 j4 k x0z x0 x8z x8 x132 c7 c9).map e := by
  unfold impl_ShaBlock.l3b
  repeat' first | with_reducible refine nat_cond ?_ ?_ | with_reducible refine nat_bind fun _ => ?_ | rfl
theorem impl_ShaBlock.l4b_nat {R R' : Type} (e : R → R') (ret : Bool × List Int → Option R) (j0 : Bool → (List Int) → Bool → (List Int) → Bool → (List Int) → Int → Int → Option R) (j1 : Bool → (List Int) → Bool → (List Int) → Bool → (List Int) → Int → (List Int) → Option R) (j2 : Bool → (List Int) → Bool → (List Int) → Int → (List Int) → Option R) (j3 : Bool → (List Int) → Bool → (List Int) → Int → (List Int) → (List Int) → Option R) (j4 : Bool → (List Int) → (List Int) → Int → (List Int) → Option R) (k : Nat) (x0z : Bool) (x0 : List Int) (x23 : List Int) (x218 : Int) (c9 : List Int) : impl_ShaBlock.l4b (fun r => (ret r).map e) (fun x0z x0 x1z x1 x33z x33 x34 x35 => (j0 x0z x0 x1z x1 x33z x33 x34 x35).map e) (fun x0z x0 x1z x1 x8z x8 x46 c7 => (j1 x0z x0 x1z x1 x8z x8 x46 c7).map e) (fun x0z x0 x8z x8 x11 c7 => (j2 x0z x0 x8z x8 x11 c7).map e) (fun x0z x0 x8z x8 x132 c7 c9 => (j3 x0z x0 x8z x8 x132 c7 c9).map e) (fun x0z x0 x23 x218 c9 => (j4 x0z x0 x23 x218 c9).map e) k x0z x0 x23 x218 c9 = (impl_ShaBlock.l4b ret j0 j1 j2 j3 j4 k x0z x0 x23 x218 c9).map e := by
  unfold impl_ShaBlock.l4b
  repeat' first | with_reducible refine nat_cond ?_ ?_ | with_reducible refine nat_bind fun _ => ?_ | rfl
theorem impl_ShaBlock.rounds_eq (a0z : Bool) (a0 : List Int) (a1z : Bool) (a1 : List Int) : ∀ k, (∀ (x0z : Bool) (x0 : List Int) (x1z : Bool) (x1 : List Int) (x33z : Bool) (x33 : List Int) (x34 : Int) (x35 : Int), rounds Try.prog impl_ShaBlock.Cs (finish Try.prog [] Try.f89 [.v (.nums 3 .i64 a0z a0), .v (.nums 5 .u8 a1z a1)]) 100000 k impl_ShaBlock.K0 (impl_ShaBlock.N0 x0z x0 x1z x1 x33z x33 x34 x35) = (impl_ShaBlock.l0 k x0z x0 x1z x1 x33z x33 x34 x35).map impl_ShaBlock.enc) ∧ (∀ (x0z : Bool) (x0 : List Int) (x1z : Bool) (x1 : List Int) (x8z : Bool) (x8 : List Int) (x46 : Int) (c7 : List Int), rounds Try.prog impl_ShaBlock.Cs (finish Try.prog [] Try.f89 [.v (.nums 3 .i64 a0z a0), .v (.nums 5 .u8 a1z a1)]) 100000 k impl_ShaBlock.K1 (impl_ShaBlock.N1 x0z x0 x1z x1 x8z x8 x46 c7) = (impl_ShaBlock.l1 k x0z x0 x1z x1 x8z x8 x46 c7).map impl_ShaBlock.enc) ∧ (∀ (x0z : Bool) (x0 : List Int) (x8z : Bool) (x8 : List Int) (x11 : Int) (c7 : List Int), rounds Try.prog impl_ShaBlock.Cs (finish Try.prog [] Try.f89 [.v (.nums 3 .i64 a0z a0), .v (.nums 5 .u8 a1z a1)]) 100000 k impl_ShaBlock.K2 (impl_ShaBlock.N2 x0z x0 x8z x8 x11 c7) = (impl_ShaBlock.l2 k x0z x0 x8z x8 x11 c7).map impl_ShaBlock.enc) ∧ (∀ (x0z : Bool) (x0 : List Int) (x8z : Bool) (x8 : List Int) (x132 : Int) (c7 : List Int) (c9 : List Int), rounds Try.prog impl_ShaBlock.Cs (finish Try.prog [] Try.f89 [.v (.nums 3 .i64 a0z a0), .v (.nums 5 .u8 a1z a1)]) 100000 k impl_ShaBlock.K3 (impl_ShaBlock.N3 x0z x0 x8z x8 x132 c7 c9) = (impl_ShaBlock.l3 k x0z x0 x8z x8 x132 c7 c9).map impl_ShaBlock.enc) ∧ (∀ (x0z : Bool) (x0 : List Int) (x23 : List Int) (x218 : Int) (c9 : List Int), rounds Try.prog impl_ShaBlock.Cs (finish Try.prog [] Try.f89 [.v (.nums 3 .i64 a0z a0), .v (.nums 5 .u8 a1z a1)]) 100000 k impl_ShaBlock.K4 (impl_ShaBlock.N4 x0z x0 x23 x218 c9) = (impl_ShaBlock.l4 k x0z x0 x23 x218 c9).map impl_ShaBlock.enc)
  | 0 => ⟨fun _ _ _ _ _ _ _ _ => rfl, fun _ _ _ _ _ _ _ _ => rfl, fun _ _ _ _ _ _ => rfl, fun _ _ _ _ _ _ _ => rfl, fun _ _ _ _ _ => rfl⟩
  | k + 1 => by
    have ih := impl_ShaBlock.rounds_eq a0z a0 a1z a1 k
    refine ⟨fun _ _ _ _ _ _ _ _ => ?_, fun _ _ _ _ _ _ _ _ => ?_, fun _ _ _ _ _ _ => ?_, fun _ _ _ _ _ _ _ => ?_, fun _ _ _ _ _ => ?_⟩
    · refine (impl_ShaBlock.s0 k _ a0z a0 a1z a1 _ _ _ _ _ _ _ _).trans (Eq.trans ?_ (impl_ShaBlock.l0b_nat impl_ShaBlock.enc some (impl_ShaBlock.l0 k) (impl_ShaBlock.l1 k) (impl_ShaBlock.l2 k) (impl_ShaBlock.l3 k) (impl_ShaBlock.l4 k) k _ _ _ _ _ _ _ _))
      simp only [ih.1, ih.2.1, ih.2.2.1, ih.2.2.2.1, ih.2.2.2.2, Option.map_some]
    · refine (impl_ShaBlock.s1 k _ a0z a0 a1z a1 _ _ _ _ _ _ _ _).trans (Eq.trans ?_ (impl_ShaBlock.l1b_nat impl_ShaBlock.enc some (impl_ShaBlock.l0 k) (impl_ShaBlock.l1 k) (impl_ShaBlock.l2 k) (impl_ShaBlock.l3 k) (impl_ShaBlock.l4 k) k _ _ _ _ _ _ _ _))
      simp only [ih.1, ih.2.1, ih.2.2.1, ih.2.2.2.1, ih.2.2.2.2, Option.map_some]
    · refine (impl_ShaBlock.s2 k _ a0z a0 a1z a1 _ _ _ _ _ _).trans (Eq.trans ?_ (impl_ShaBlock.l2b_nat impl_ShaBlock.enc some (impl_ShaBlock.l0 k) (impl_ShaBlock.l1 k) (impl_ShaBlock.l2 k) (impl_ShaBlock.l3 k) (impl_ShaBlock.l4 k) k _ _ _ _ _ _))
      simp only [ih.1, ih.2.1, ih.2.2.1, ih.2.2.2.1, ih.2.2.2.2, Option.map_some]
    · refine (impl_ShaBlock.s3 k _ a0z a0 a1z a1 _ _ _ _ _ _ _).trans (Eq.trans ?_ (impl_ShaBlock.l3b_nat impl_ShaBlock.enc some (impl_ShaBlock.l0 k) (impl_ShaBlock.l1 k) (impl_ShaBlock.l2 k) (impl_ShaBlock.l3 k) (impl_ShaBlock.l4 k) k _ _ _ _ _ _ _))
      simp only [ih.1, ih.2.1, ih.2.2.1, ih.2.2.2.1, ih.2.2.2.2, Option.map_some]
    · refine (impl_ShaBlock.s4 k _ a0z a0 a1z a1 _ _ _ _ _).trans (Eq.trans ?_ (impl_ShaBlock.l4b_nat impl_ShaBlock.enc some (impl_ShaBlock.l0 k) (impl_ShaBlock.l1 k) (impl_ShaBlock.l2 k) (impl_ShaBlock.l3 k) (impl_ShaBlock.l4 k) k _ _ _ _ _))
      simp only [ih.1, ih.2.1, ih.2.2.1, ih.2.2.2.1, ih.2.2.2.2, Option.map_some]
theorem impl_ShaBlock.eq (k : Nat) (a0z : Bool) (a0 : List Int) (a1z : Bool) (a1 : List Int) : answer Try.prog impl_ShaBlock.Cs 100000 impl_ShaBlock.cuts [] Try.f89 (k + 1) [.v (.nums 3 .i64 a0z a0), .v (.nums 5 .u8 a1z a1)] = (impl_ShaBlock.f (k + 1) a0z a0 a1z a1).map impl_ShaBlock.enc := by
  have ih := impl_ShaBlock.rounds_eq a0z a0 a1z a1 k
  refine (impl_ShaBlock.s k a0z a0 a1z a1).trans (Eq.trans ?_ (impl_ShaBlock.b_nat impl_ShaBlock.enc some (impl_ShaBlock.l0 k) (impl_ShaBlock.l1 k) (impl_ShaBlock.l2 k) (impl_ShaBlock.l3 k) (impl_ShaBlock.l4 k) k a0z a0 a1z a1))
  simp only [ih.1, ih.2.1, ih.2.2.1, ih.2.2.2.1, ih.2.2.2.2, Option.map_some]
theorem impl_ShaBlock.sound (k : Nat) : SoundF Try.prog 89 (fun a => (impl_ShaBlock.ans k a).val) := by
  refine sound_plain (fun args res h => ?_) (fun t n => rfl)
  unfold impl_ShaBlock.ans at h
  dsimp only at h
  split at h
  · cases k with
    | zero => cases h
    | succ k =>
      unfold Ans.val at h
      rw [← impl_ShaBlock.eq] at h
      exact answer_sound mixed Try.func89 _ _ _ (k + 1) (fun j _ => tab_sound (tab_cons (impl_isWord.sound j) (tab_cons (impl_rounds.sound j) (tab_cons (impl_TurnRight.sound j) (tab_nil))))) _ _ h
  · exact (Ans.no_val h).elim

/-! loop.example/g00790/impl.Sha -/
def impl_Sha.b {R : Type} (ret : Bool × List Int → Option R) (j0 : Bool → (List Int) → Bool → (List Int) → Int → Option R) (j1 : (List Int) → Bool → (List Int) → Int → Int → Option R) (k : Nat) (a0z : Bool) (a0 : List Int) : Option R :=
  (impl_ShaInit.f k).bind fun t0 => (impl_ShaPad.f k a0z a0).bind fun t1 => j0 t0.1 t0.2 t1.1 t1.2 0
def impl_Sha.l0b {R : Type} (ret : Bool × List Int → Option R) (j0 : Bool → (List Int) → Bool → (List Int) → Int → Option R) (j1 : (List Int) → Bool → (List Int) → Int → Int → Option R) (k : Nat) (x3z : Bool) (x3 : List Int) (x4z : Bool) (x4 : List Int) (x5 : Int) : Option R :=
  cond (decide (x5 < ((x4).length : Int))) (cond (decide ((0 : Int) ≤ (RowKit.wrap64 (x5 + 64)))) (cond (decide ((RowKit.wrap64 (x5 + 64)) ≤ ((x4).length : Int))) (cond (decide ((0 : Int) ≤ x5)) (cond (decide (x5 ≤ (RowKit.wrap64 (x5 + 64)))) ((impl_ShaBlock.f k x3z x3 x4z (((x4).take ((RowKit.wrap64 (x5 + 64))).toNat).drop (x5).toNat)).bind fun t0 => j0 t0.1 t0.2 x4z x4 (RowKit.wrap64 (x5 + 64))) (none)) (none)) (none)) (none)) (j1 ([] : List Int) x3z x3 ((x3).length : Int) 0)
def impl_Sha.l1b {R : Type} (ret : Bool × List Int → Option R) (j0 : Bool → (List Int) → Bool → (List Int) → Int → Option R) (j1 : (List Int) → Bool → (List Int) → Int → Int → Option R) (k : Nat) (x6 : List Int) (x26z : Bool) (x26 : List Int) (x27 : Int) (x28 : Int) : Option R :=
  cond (decide (x28 < x27)) (cond (decide ((0 : Int) ≤ x28)) (cond (decide (x28 < ((x26).length : Int))) (cond (decide ((x6).length + 4 < 140737488355328)) (j1 (x6 ++ ([(((shrI .i64 (rdI x26 x28) 24)) % 256), (((shrI .i64 (rdI x26 x28) 16)) % 256), (((shrI .i64 (rdI x26 x28) 8)) % 256), (((rdI x26 x28)) % 256)] : List Int)) x26z x26 x27 (RowKit.wrap64 (x28 + 1))) (none)) (none)) (none)) (ret (false, x6))
mutual
def impl_Sha.l0 : Nat → Bool → (List Int) → Bool → (List Int) → Int → Option (Bool × List Int)
  | 0, _, _, _, _, _ => none
  | k + 1, x3z, x3, x4z, x4, x5 => impl_Sha.l0b some (impl_Sha.l0 k) (impl_Sha.l1 k) k x3z x3 x4z x4 x5
def impl_Sha.l1 : Nat → (List Int) → Bool → (List Int) → Int → Int → Option (Bool × List Int)
  | 0, _, _, _, _, _ => none
  | k + 1, x6, x26z, x26, x27, x28 => impl_Sha.l1b some (impl_Sha.l0 k) (impl_Sha.l1 k) k x6 x26z x26 x27 x28
end
def impl_Sha.f : Nat → Bool → (List Int) → Option (Bool × List Int)
  | 0, _, _ => none
  | k + 1, a0z, a0 => impl_Sha.b some (impl_Sha.l0 k) (impl_Sha.l1 k) k a0z a0
def impl_Sha.enc (r : Bool × List Int) : Res := ⟨[.vals false [((.nums 5 .u8 r.1 r.2), true)]], []⟩
def impl_Sha.ans (k : Nat) : List Arg → Ans
  | [.v (.nums 5 .u8 a0z a0)] => ⟨impl_Sha.f k a0z a0, impl_Sha.enc⟩
  | _ => Ans.no
def impl_Sha.Cs (k : Nat) : CallSem := tab [(87, impl_ShaInit.ans k), (88, impl_ShaPad.ans k), (89, impl_ShaBlock.ans k)]
def impl_Sha.cuts : List (Nat × Keep) := [(58, ⟨[(3, none), (4, none), (5, some [])], []⟩), (250, ⟨[(6, none), (26, none), (27, some []), (28, some [])], []⟩)]
noncomputable def impl_Sha.K0 : List Fr := framesAt [true, true, false, true, false] (bodyOf Try.f66 impl_Sha.cuts) []
def impl_Sha.N0 (x3z : Bool) (x3 : List Int) (x4z : Bool) (x4 : List Int) (x5 : Int) : St := stOf 48 48 1 [(3, .val ⟨(.nums 3 .i64 x3z x3), [.l 3 0], true, some (.l 3 0)⟩), (4, .val ⟨(.nums 5 .u8 x4z x4), [.l 4 0], true, some (.l 4 0)⟩), (5, .val (V.s (.int .i64 x5)))] []
noncomputable def impl_Sha.K1 : List Fr := framesAt [true, true, true, true, false, true, false] (bodyOf Try.f66 impl_Sha.cuts) []
def impl_Sha.N1 (x6 : List Int) (x26z : Bool) (x26 : List Int) (x27 : Int) (x28 : Int) : St := stOf 48 48 1 [(6, .val ⟨(.nums 5 .u8 false x6), [.l 6 0], true, some (.l 6 0)⟩), (26, .val ⟨(.nums 3 .i64 x26z x26), [.l 26 0], true, some (.l 26 0)⟩), (27, .val (V.s (.int .i64 x27))), (28, .val (V.s (.int .i64 x28)))] []
theorem impl_Sha.s (k : Nat) (a0z : Bool) (a0 : List Int) : answer Try.prog impl_Sha.Cs 100000 impl_Sha.cuts [] Try.f66 (k + 1) [.v (.nums 5 .u8 a0z a0)] = impl_Sha.b (fun r => some (impl_Sha.enc r)) (fun x3z x3 x4z x4 x5 => rounds Try.prog impl_Sha.Cs (finish Try.prog [] Try.f66 [.v (.nums 5 .u8 a0z a0)]) 100000 k impl_Sha.K0 (impl_Sha.N0 x3z x3 x4z x4 x5)) (fun x6 x26z x26 x27 x28 => rounds Try.prog impl_Sha.Cs (finish Try.prog [] Try.f66 [.v (.nums 5 .u8 a0z a0)]) 100000 k impl_Sha.K1 (impl_Sha.N1 x6 x26z x26 x27 x28)) k a0z a0 := by kernel_rfl
theorem impl_Sha.s0 (k : Nat) (G : List Fr → St → Option Res) (a0z : Bool) (a0 : List Int) (yx3z : Bool) (yx3 : List Int) (yx4z : Bool) (yx4 : List Int) (yx5 : Int) : resume Try.prog (impl_Sha.Cs k) G (finish Try.prog [] Try.f66 [.v (.nums 5 .u8 a0z a0)]) 100000 impl_Sha.K0 (impl_Sha.N0 yx3z yx3 yx4z yx4 yx5) = impl_Sha.l0b (fun r => some (impl_Sha.enc r)) (fun x3z x3 x4z x4 x5 => G impl_Sha.K0 (impl_Sha.N0 x3z x3 x4z x4 x5)) (fun x6 x26z x26 x27 x28 => G impl_Sha.K1 (impl_Sha.N1 x6 x26z x26 x27 x28)) k yx3z yx3 yx4z yx4 yx5 := by kernel_rfl
theorem impl_Sha.s1 (k : Nat) (G : List Fr → St → Option Res) (a0z : Bool) (a0 : List Int) (yx6 : List Int) (yx26z : Bool) (yx26 : List Int) (yx27 : Int) (yx28 : Int) : resume Try.prog (impl_Sha.Cs k) G (finish Try.prog [] Try.f66 [.v (.nums 5 .u8 a0z a0)]) 100000 impl_Sha.K1 (impl_Sha.N1 yx6 yx26z yx26 yx27 yx28) = impl_Sha.l1b (fun r => some (impl_Sha.enc r)) (fun x3z x3 x4z x4 x5 => G impl_Sha.K0 (impl_Sha.N0 x3z x3 x4z x4 x5)) (fun x6 x26z x26 x27 x28 => G impl_Sha.K1 (impl_Sha.N1 x6 x26z x26 x27 x28)) k yx6 yx26z yx26 yx27 yx28 := by kernel_rfl
theorem impl_Sha.b_nat {R R' : Type} (e : R → R') (ret : Bool × List Int → Option R) (j0 : Bool → (List Int) → Bool → (List Int) → Int → Option R) (j1 : (List Int) → Bool → (List Int) → Int → Int → Option R) (k : Nat) (a0z : Bool) (a0 : List Int) : impl_Sha.b (fun r => (ret r).map e) (fun x3z x3 x4z x4 x5 => (j0 x3z x3 x4z x4 x5).map e) (fun x6 x26z x26 x27 x28 => (j1 x6 x26z x26 x27 x28).map e) k a0z a0 = (impl_Sha.b ret j0 j1 k a0z a0).map e := by
  unfold impl_Sha.b
  repeat' first | with_reducible refine nat_cond ?_ ?_ | with_reducible refine nat_bind fun _ => ?_ | rfl
theorem impl_Sha.l0b_nat {R R' : Type} (e : R → R') (ret : Bool × List Int → Option R) (j0 : Bool → (List Int) → Bool → (List Int) → Int → Option R) (j1 : (List Int) → Bool → (List Int) → Int → Int → Option R) (k : Nat) (x3z : Bool) (x3 : List Int) (x4z : Bool) (x4 : List Int) (x5 : Int) : impl_Sha.l0b (fun r => (ret r).map e) (fun x3z x3 x4z x4 x5 => (j0 x3z x3 x4z x4 x5).map e) (fun x6 x26z x26 x27 x28 => (j1 x6 x26z x26 x27 x28).map e) k x3z x3 x4z x4 x5 = (impl_Sha.l0b ret j0 j1 k x3z x3 x4z x4 x5).map e := by
  unfold impl_Sha.l0b
  repeat' first | with_reducible refine nat_cond ?_ ?_ | with_reducible refine nat_bind fun _ => ?_ | rfl
theorem impl_Sha.l1b_nat {R R' : Type} (e : R → R') (ret : Bool × List Int → Option R) (j0 : Bool → (List Int) → Bool → (List Int) → Int → Option R) (j1 : (List Int) → Bool → (List Int) → Int → Int → Option R) (k : Nat) (x6 : List Int) (x26z : Bool) (x26 : List Int) (x27 : Int) (x28 : Int) : impl_Sha.l1b (fun r => (ret r).map e) (fun x3z x3 x4z x4 x5 => (j0 x3z x3 x4z x4 x5).map e) (fun x6 x26z x26 x27 x28 => (j1 x6 x26z x26 x27 x28).map e) k x6 x26z x26 x27 x28 = (impl_Sha.l1b ret j0 j1 k x6 x26z x26 x27 x28).map e := by
  unfold impl_Sha.l1b
  repeat' first | with_reducible refine nat_cond ?_ ?_ | with_reducible refine nat_bind fun _ => ?_ | rfl
theorem impl_Sha.rounds_eq (a0z : Bool) (a0 : List Int) : ∀ k, (∀ (x3z : Bool) (x3 : List Int) (x4z : Bool) (x4 : List Int) (x5 : Int), rounds Try.prog impl_Sha.Cs (finish Try.prog [] Try.f66 [.v (.nums 5 .u8 a0z a0)]) 100000 k impl_Sha.K0 (impl_Sha.N0 x3z x3 x4z x4 x5) = (impl_Sha.l0 k x3z x3 x4z x4 x5).map impl_Sha.enc) ∧ (∀ (x6 : List Int) (x26z : Bool) (x26 : List Int) (x27 : Int) (x28 : Int), rounds Try.prog impl_Sha.Cs (finish Try.prog [] Try.f66 [.v (.nums 5 .u8 a0z a0)]) 100000 k impl_Sha.K1 (impl_Sha.N1 x6 x26z x26 x27 x28) = (impl_Sha.l1 k x6 x26z x26 x27 x28).map impl_Sha.enc)
  | 0 => ⟨fun _ _ _ _ _ => rfl, fun _ _ _ _ _ => rfl⟩
  | k + 1 => by
    have ih := impl_Sha.rounds_eq a0z a0 k
    refine ⟨fun _ _ _ _ _ => ?_, fun _ _ _ _ _ => ?_⟩
    · refine (impl_Sha.s0 k _ a0z a0 _ _ _ _ _).trans (Eq.trans ?_ (impl_Sha.l0b_nat impl_Sha.enc some (impl_Sha.l0 k) (impl_Sha.l1 k) k _ _ _ _ _))
      simp only [ih.1, ih.2, Option.map_some]
    · refine (impl_Sha.s1 k _ a0z a0 _ _ _ _ _).trans (Eq.trans ?_ (impl_Sha.l1b_nat impl_Sha.enc some (impl_Sha.l0 k) (impl_Sha.l1 k) k _ _ _ _ _))
      simp only [ih.1, ih.2, Option.map_some]
theorem impl_Sha.eq (k : Nat) (a0z : Bool) (a0 : List Int) : answer Try.prog impl_Sha.Cs 100000 impl_Sha.cuts [] Try.f66 (k + 1) [.v (.nums 5 .u8 a0z a0)] = (impl_Sha.f (k + 1) a0z a0).map impl_Sha.enc := by
  have ih := impl_Sha.rounds_eq a0z a0 k
  refine (impl_Sha.s k a0z a0).trans (Eq.trans ?_ (impl_Sha.b_nat impl_Sha.enc some (impl_Sha.l0 k) (impl_Sha.l1 k) k a0z a0))
  simp only [ih.1, ih.2, Option.map_some]
theorem impl_Sha.sound (k : Nat) : SoundF Try.prog 66 (fun a => (impl_Sha.ans k a).val) := by
  refine sound_plain (fun args res h => ?_) (fun t n => rfl)
  unfold impl_Sha.ans at h
  dsimp only at h
  split at h
  · cases k with
    | zero => cases h
    | succ k =>
      unfold Ans.val at h
      rw [← impl_Sha.eq] at h
      exact answer_sound mixed Try.func66 _ _ _ (k + 1) (fun j _ => tab_sound (tab_cons (impl_ShaInit.sound j) (tab_cons (impl_ShaPad.sound j) (tab_cons (impl_ShaBlock.sound j) (tab_nil))))) _ _ h
  · exact (Ans.no_val h).elim

/-! loop.example/g00790/impl.MacKey -/
def impl_MacKey.b {R : Type} (ret : Bool × List Int → Option R) (k : Nat) (a0z : Bool) (a0 : List Int) : Option R :=
  cond (decide (((a0).length : Int) > 64)) ((impl_Sha.f k a0z a0).bind fun t0 => ret (false, ((t0.2).take ((List.replicate 64 (0 : Int))).length ++ ((List.replicate 64 (0 : Int))).drop (t0.2).length))) (ret (false, ((a0).take ((List.replicate 64 (0 : Int))).length ++ ((List.replicate 64 (0 : Int))).drop (a0).length)))
def impl_MacKey.f : Nat → Bool → (List Int) → Option (Bool × List Int)
  | 0, _, _ => none
  | k + 1, a0z, a0 => impl_MacKey.b some k a0z a0
def impl_MacKey.enc (r : Bool × List Int) : Res := ⟨[.vals false [((.nums 5 .u8 r.1 r.2), true)]], []⟩
def impl_MacKey.ans (k : Nat) : List Arg → Ans
  | [.v (.nums 5 .u8 a0z a0)] => ⟨impl_MacKey.f k a0z a0, impl_MacKey.enc⟩
  | _ => Ans.no
def impl_MacKey.Cs (k : Nat) : CallSem := tab [(66, impl_Sha.ans k)]
def impl_MacKey.cuts : List (Nat × Keep) := []
theorem impl_MacKey.s (k : Nat) (a0z : Bool) (a0 : List Int) : answer Try.prog impl_MacKey.Cs 100000 impl_MacKey.cuts [] Try.f65 (k + 1) [.v (.nums 5 .u8 a0z a0)] = impl_MacKey.b (fun r => some (impl_MacKey.enc r)) k a0z a0 := by kernel_rfl
theorem impl_MacKey.b_nat {R R' : Type} (e : R → R') (ret : Bool × List Int → Option R) (k : Nat) (a0z : Bool) (a0 : List Int) : impl_MacKey.b (fun r => (ret r).map e) k a0z a0 = (impl_MacKey.b ret k a0z a0).map e := by
  unfold impl_MacKey.b
  repeat' first | with_reducible refine nat_cond ?_ ?_ | with_reducible refine nat_bind fun _ => ?_ | rfl
theorem impl_MacKey.eq (k : Nat) (a0z : Bool) (a0 : List Int) : answer Try.prog impl_MacKey.Cs 100000 impl_MacKey.cuts [] Try.f65 (k + 1) [.v (.nums 5 .u8 a0z a0)] = (impl_MacKey.f (k + 1) a0z a0).map impl_MacKey.enc := by
  refine (impl_MacKey.s k a0z a0).trans (Eq.trans ?_ (impl_MacKey.b_nat impl_MacKey.enc some k a0z a0))
  simp only [Option.map_some]
theorem impl_MacKey.sound (k : Nat) : SoundF Try.prog 65 (fun a => (impl_MacKey.ans k a).val) := by
  refine sound_plain (fun args res h => ?_) (fun t n => rfl)
  unfold impl_MacKey.ans at h
  dsimp only at h
  split at h
  · cases k with
    | zero => cases h
    | succ k =>
      unfold Ans.val at h
      rw [← impl_MacKey.eq] at h
      exact answer_sound mixed Try.func65 _ _ _ (k + 1) (fun j _ => tab_sound (tab_cons (impl_Sha.sound j) (tab_nil))) _ _ h
  · exact (Ans.no_val h).elim

/-! loop.example/g00790/impl.masked -/
def impl_masked.b {R : Type} (ret : Bool × List Int → Option R) (j0 : Int → (List Int) → Bool → (List Int) → Int → Int → Option R) (k : Nat) (a0z : Bool) (a0 : List Int) (a1 : Int) : Option R :=
  j0 a1 ([] : List Int) a0z a0 ((a0).length : Int) 0
def impl_masked.l0b {R : Type} (ret : Bool × List Int → Option R) (j0 : Int → (List Int) → Bool → (List Int) → Int → Int → Option R) (k : Nat) (x1 : Int) (x5 : List Int) (x9z : Bool) (x9 : List Int) (x10 : Int) (x11 : Int) : Option R :=
  cond (decide (x11 < x10)) (cond (decide ((0 : Int) ≤ x11)) (cond (decide (x11 < ((x9).length : Int))) (cond (decide ((x5).length + 1 < 140737488355328)) (j0 x1 (x5 ++ ([(Go.bits .xor .u8 (rdI x9 x11) x1)] : List Int)) x9z x9 x10 (RowKit.wrap64 (x11 + 1))) (none)) (none)) (none)) (ret (false, x5))
def impl_masked.l0 : Nat → Int → (List Int) → Bool → (List Int) → Int → Int → Option (Bool × List Int)
  | 0, _, _, _, _, _, _ => none
  | k + 1, x1, x5, x9z, x9, x10, x11 => impl_masked.l0b some (impl_masked.l0 k) k x1 x5 x9z x9 x10 x11
def impl_masked.f : Nat → Bool → (List Int) → Int → Option (Bool × List Int)
  | 0, _, _, _ => none
  | k + 1, a0z, a0, a1 => impl_masked.b some (impl_masked.l0 k) k a0z a0 a1
def impl_masked.enc (r : Bool × List Int) : Res := ⟨[.vals false [((.nums 5 .u8 r.1 r.2), true)]], []⟩
def impl_masked.ans (k : Nat) : List Arg → Ans
  | [.v (.nums 5 .u8 a0z a0), .v (.int .u8 a1)] => ⟨impl_masked.f k a0z a0 a1, impl_masked.enc⟩
  | _ => Ans.no
def impl_masked.Cs (k : Nat) : CallSem := tab []
def impl_masked.cuts : List (Nat × Keep) := [(58, ⟨[(1, some []), (5, none), (9, some []), (10, some []), (11, some [])], []⟩)]
noncomputable def impl_masked.K0 : List Fr := framesAt [true, true, false, true, false] (bodyOf Try.f67 impl_masked.cuts) []
def impl_masked.N0 (x1 : Int) (x5 : List Int) (x9z : Bool) (x9 : List Int) (x10 : Int) (x11 : Int) : St := stOf 23 23 2 [(1, .val (V.s (.int .u8 x1))), (5, .val ⟨(.nums 5 .u8 false x5), [.l 5 0], true, some (.l 5 0)⟩), (9, .val ⟨(.nums 5 .u8 x9z x9), [], false, none⟩), (10, .val (V.s (.int .i64 x10))), (11, .val (V.s (.int .i64 x11)))] []
theorem impl_masked.s (k : Nat) (a0z : Bool) (a0 : List Int) (a1 : Int) : answer Try.prog impl_masked.Cs 100000 impl_masked.cuts [] Try.f67 (k + 1) [.v (.nums 5 .u8 a0z a0), .v (.int .u8 a1)] = impl_masked.b (fun r => some (impl_masked.enc r)) (fun x1 x5 x9z x9 x10 x11 => rounds Try.prog impl_masked.Cs (finish Try.prog [] Try.f67 [.v (.nums 5 .u8 a0z a0), .v (.int .u8 a1)]) 100000 k impl_masked.K0 (impl_masked.N0 x1 x5 x9z x9 x10 x11)) k a0z a0 a1 := by kernel_rfl
theorem impl_masked.s0 (k : Nat) (G : List Fr → St → Option Res) (a0z : Bool) (a0 : List Int) (a1 : Int) (yx1 : Int) (yx5 : List Int) (yx9z : Bool) (yx9 : List Int) (yx10 : Int) (yx11 : Int) : resume Try.prog (impl_masked.Cs k) G (finish Try.prog [] Try.f67 [.v (.nums 5 .u8 a0z a0), .v (.int .u8 a1)]) 100000 impl_masked.K0 (impl_masked.N0 yx1 yx5 yx9z yx9 yx10 yx11) = impl_masked.l0b (fun r => some (impl_masked.enc r)) (fun x1 x5 x9z x9 x10 x11 => G impl_masked.K0 (impl_masked.N0 x1 x5 x9z x9 x10 x11)) k yx1 yx5 yx9z yx9 yx10 yx11 := by kernel_rfl
theorem impl_masked.b_nat {R R' : Type} (e : R → R') (ret : Bool × List Int → Option R) (j0 : Int → (List Int) → Bool → (List Int) → Int → Int → Option R) (k : Nat) (a0z : Bool) (a0 : List Int) (a1 : Int) : impl_masked.b (fun r => (ret r).map e) (fun x1 x5 x9z x9 x10 x11 => (j0 x1 x5 x9z x9 x10 x11).map e) k a0z a0 a1 = (impl_masked.b ret j0 k a0z a0 a1).map e := by
  unfold impl_masked.b
  repeat' first | with_reducible refine nat_cond ?_ ?_ | with_reducible refine nat_bind fun _ => ?_ | rfl
theorem impl_masked.l0b_nat {R R' : Type} (e : R → R') (ret : Bool × List Int → Option R) (j0 : Int → (List Int) → Bool → (List Int) → Int → Int → Option R) (k : Nat) (x1 : Int) (x5 : List Int) (x9z : Bool) (x9 : List Int) (x10 : Int) (x11 : Int) : impl_masked.l0b (fun r => (ret r).map e) (fun x1 x5 x9z x9 x10 x11 => (j0 x1 x5 x9z x9 x10 x11).map e) k x1 x5 x9z x9 x10 x11 = (impl_masked.l0b ret j0 k x1 x5 x9z x9 x10 x11).map e := by
  unfold impl_masked.l0b
  repeat' first | with_reducible refine nat_cond ?_ ?_ | with_reducible refine nat_bind fun _ => ?_ | rfl
theorem impl_masked.rounds_eq (a0z : Bool) (a0 : List Int) (a1 : Int) : ∀ k, (∀ (x1 : Int) (x5 : List Int) (x9z : Bool) (x9 : List Int) (x10 : Int) (x11 : Int), rounds Try.prog impl_masked.Cs (finish Try.prog [] Try.f67 [.v (.nums 5 .u8 a0z a0), .v (.int .u8 a1)]) 100000 k impl_masked.K0 (impl_masked.N0 x1 x5 x9z x9 x10 x11) = (impl_masked.l0 k x1 x5 x9z x9 x10 x11).map impl_masked.enc)
  | 0 => fun _ _ _ _ _ _ => rfl
  | k + 1 => by
    have ih := impl_masked.rounds_eq a0z a0 a1 k
    refine fun _ _ _ _ _ _ => ?_
    · refine (impl_masked.s0 k _ a0z a0 a1 _ _ _ _ _ _).trans (Eq.trans ?_ (impl_masked.l0b_nat impl_masked.enc some (impl_masked.l0 k) k _ _ _ _ _ _))
      simp only [ih, Option.map_some]
theorem impl_masked.eq (k : Nat) (a0z : Bool) (a0 : List Int) (a1 : Int) : answer Try.prog impl_masked.Cs 100000 impl_masked.cuts [] Try.f67 (k + 1) [.v (.nums 5 .u8 a0z a0), .v (.int .u8 a1)] = (impl_masked.f (k + 1) a0z a0 a1).map impl_masked.enc := by
  have ih := impl_masked.rounds_eq a0z a0 a1 k
  refine (impl_masked.s k a0z a0 a1).trans (Eq.trans ?_ (impl_masked.b_nat impl_masked.enc some (impl_masked.l0 k) k a0z a0 a1))
  simp only [ih, Option.map_some]
theorem impl_masked.sound (k : Nat) : SoundF Try.prog 67 (fun a => (impl_masked.ans k a).val) := by
  refine sound_plain (fun args res h => ?_) (fun t n => rfl)
  unfold impl_masked.ans at h
  dsimp only at h
  split at h
  · cases k with
    | zero => cases h
    | succ k =>
      unfold Ans.val at h
      rw [← impl_masked.eq] at h
      exact answer_sound mixed Try.func67 _ _ _ (k + 1) (fun j _ => tab_sound (tab_nil)) _ _ h
  · exact (Ans.no_val h).elim

/-! loop.example/g00790/impl.Mac -/
def impl_Mac.b {R : Type} (ret : Bool × List Int → Option R) (k : Nat) (a0z : Bool) (a0 : List Int) (a1z : Bool) (a1 : List Int) : Option R :=
  (impl_MacKey.f k a0z a0).bind fun t0 => (impl_masked.f k t0.1 t0.2 92).bind fun t1 => (impl_masked.f k t0.1 t0.2 54).bind fun t2 => cond (decide ((t2.2).length + (a1).length < 140737488355328)) ((impl_Sha.f k ((a1).isEmpty && t2.1) (t2.2 ++ a1)).bind fun t3 => cond (decide ((t1.2).length + (t3.2).length < 140737488355328)) ((impl_Sha.f k ((t3.2).isEmpty && t1.1) (t1.2 ++ t3.2)).bind fun t4 => ret (t4.1, t4.2)) (none)) (none)
def impl_Mac.f : Nat → Bool → (List Int) → Bool → (List Int) → Option (Bool × List Int)
  | 0, _, _, _, _ => none
  | k + 1, a0z, a0, a1z, a1 => impl_Mac.b some k a0z a0 a1z a1
def impl_Mac.enc (r : Bool × List Int) : Res := ⟨[.vals false [((.nums 5 .u8 r.1 r.2), true)]], []⟩
def impl_Mac.ans (k : Nat) : List Arg → Ans
  | [.v (.nums 5 .u8 a0z a0), .v (.nums 5 .u8 a1z a1)] => ⟨impl_Mac.f k a0z a0 a1z a1, impl_Mac.enc⟩
  | _ => Ans.no
def impl_Mac.Cs (k : Nat) : CallSem := tab [(65, impl_MacKey.ans k), (66, impl_Sha.ans k), (67, impl_masked.ans k)]
def impl_Mac.cuts : List (Nat × Keep) := []
theorem impl_Mac.s (k : Nat) (a0z : Bool) (a0 : List Int) (a1z : Bool) (a1 : List Int) : answer Try.prog impl_Mac.Cs 100000 impl_Mac.cuts [] Try.f48 (k + 1) [.v (.nums 5 .u8 a0z a0), .v (.nums 5 .u8 a1z a1)] = impl_Mac.b (fun r => some (impl_Mac.enc r)) k a0z a0 a1z a1 := by kernel_rfl
theorem impl_Mac.b_nat {R R' : Type} (e : R → R') (ret : Bool × List Int → Option R) (k : Nat) (a0z : Bool) (a0 : List Int) (a1z : Bool) (a1 : List Int) : impl_Mac.b (fun r => (ret r).map e) k a0z a0 a1z a1 = (impl_Mac.b ret k a0z a0 a1z a1).map e := by
  unfold impl_Mac.b
  repeat' first | with_reducible refine nat_cond ?_ ?_ | with_reducible refine nat_bind fun _ => ?_ | rfl
theorem impl_Mac.eq (k : Nat) (a0z : Bool) (a0 : List Int) (a1z : Bool) (a1 : List Int) : answer Try.prog impl_Mac.Cs 100000 impl_Mac.cuts [] Try.f48 (k + 1) [.v (.nums 5 .u8 a0z a0), .v (.nums 5 .u8 a1z a1)] = (impl_Mac.f (k + 1) a0z a0 a1z a1).map impl_Mac.enc := by
  refine (impl_Mac.s k a0z a0 a1z a1).trans (Eq.trans ?_ (impl_Mac.b_nat impl_Mac.enc some k a0z a0 a1z a1))
  simp only [Option.map_some]
theorem impl_Mac.sound (k : Nat) : SoundF Try.prog 48 (fun a => (impl_Mac.ans k a).val) := by
  refine sound_plain (fun args res h => ?_) (fun t n => rfl)
  unfold impl_Mac.ans at h
  dsimp only at h
  split at h
  · cases k with
    | zero => cases h
    | succ k =>
      unfold Ans.val at h
      rw [← impl_Mac.eq] at h
      exact answer_sound mixed Try.func48 _ _ _ (k + 1) (fun j _ => tab_sound (tab_cons (impl_MacKey.sound j) (tab_cons (impl_Sha.sound j) (tab_cons (impl_masked.sound j) (tab_nil))))) _ _ h
  · exact (Ans.no_val h).elim

/-! loop.example/g00790/impl.SignVote -/
def impl_SignVote.b {R : Type} (ret : Int × Int × Bool × (List Int) × Int × Bool × (List Int) × Bool → Option R) (k : Nat) (a0_0z : Bool) (a0_0 : List T) (a1 : Int) (a2 : Int) (a3z : Bool) (a3 : List Int) (a4 : Int) : Option R :=
  (impl_VoteBytes.f k a1 a2 a3z a3).bind fun t0 => (impl_TableOk.f k a0_0z a0_0).bind fun t1 => cond (!t1) (ret (0, 0, true, ([] : List Int), 0, true, ([] : List Int), false)) (cond t0.1 (ret (0, 0, true, ([] : List Int), 0, true, ([] : List Int), false)) ((impl_within.f k a4 0 (RowKit.wrap64 (((a0_0).length : Int) - 1))).bind fun t2 => cond (!t2) (ret (0, 0, true, ([] : List Int), 0, true, ([] : List Int), false)) ((impl_copyBytes.f k a3z a3).bind fun t3 => cond (decide ((0 : Int) ≤ a4)) (cond (decide (a4 < ((a0_0).length : Int))) ((impl_Mac.f k (((((a0_0).getD (a4).toNat .bad).cells.getD 1 .bad)).isNil) (((((a0_0).getD (a4).toNat .bad).cells.getD 1 .bad)).toNums) t0.1 t0.2).bind fun t4 => ret (a1, a2, t3.1, t3.2, a4, t4.1, t4.2, true)) (none)) (none))))
def impl_SignVote.f : Nat → Bool → (List T) → Int → Int → Bool → (List Int) → Int → Option (Int × Int × Bool × (List Int) × Int × Bool × (List Int) × Bool)
  | 0, _, _, _, _, _, _, _ => none
  | k + 1, a0_0z, a0_0, a1, a2, a3z, a3, a4 => impl_SignVote.b some k a0_0z a0_0 a1 a2 a3z a3 a4
def impl_SignVote.enc (r : Int × Int × Bool × (List Int) × Int × Bool × (List Int) × Bool) : Res := ⟨[.vals true [((.int .i64 r.1), true), ((.int .i64 r.2.1), true), ((.nums 5 .u8 r.2.2.1 r.2.2.2.1), true), ((.int .i64 r.2.2.2.2.1), true), ((.nums 5 .u8 r.2.2.2.2.2.1 r.2.2.2.2.2.2.1), true)], .vals false [((.bool r.2.2.2.2.2.2.2), true)]], []⟩
def impl_SignVote.ans (k : Nat) : List Arg → Ans
  | [.v (.agg [(.sl 82 a0_0z a0_0)]), .v (.int .i64 a1), .v (.int .i64 a2), .v (.nums 5 .u8 a3z a3), .v (.int .i64 a4)] => ⟨impl_SignVote.f k a0_0z a0_0 a1 a2 a3z a3 a4, impl_SignVote.enc⟩
  | _ => Ans.no
def impl_SignVote.Cs (k : Nat) : CallSem := tab [(42, impl_TableOk.ans k), (29, impl_within.ans k), (46, impl_VoteBytes.ans k), (47, impl_copyBytes.ans k), (48, impl_Mac.ans k)]
def impl_SignVote.cuts : List (Nat × Keep) := []
theorem impl_SignVote.s (k : Nat) (a0_0z : Bool) (a0_0 : List T) (a1 : Int) (a2 : Int) (a3z : Bool) (a3 : List Int) (a4 : Int) : answer Try.prog impl_SignVote.Cs 100000 impl_SignVote.cuts [] Try.f27 (k + 1) [.v (.agg [(.sl 82 a0_0z a0_0)]), .v (.int .i64 a1), .v (.int .i64 a2), .v (.nums 5 .u8 a3z a3), .v (.int .i64 a4)] = impl_SignVote.b (fun r => some (impl_SignVote.enc r)) k a0_0z a0_0 a1 a2 a3z a3 a4 := by kernel_rfl
theorem impl_SignVote.b_nat {R R' : Type} (e : R → R') (ret : Int × Int × Bool × (List Int) × Int × Bool × (List Int) × Bool → Option R) (k : Nat) (a0_0z : Bool) (a0_0 : List T) (a1 : Int) (a2 : Int) (a3z : Bool) (a3 : List Int) (a4 : Int) : impl_SignVote.b (fun r => (ret r).map e) k a0_0z a0_0 a1 a2 a3z a3 a4 = (impl_SignVote.b ret k a0_0z a0_0 a1 a2 a3z a3 a4).map e := by
  unfold impl_SignVote.b
  repeat' first | with_reducible refine nat_cond ?_ ?_ | with_reducible refine nat_bind fun _ => ?_ | rfl
theorem impl_SignVote.eq (k : Nat) (a0_0z : Bool) (a0_0 : List T) (a1 : Int) (a2 : Int) (a3z : Bool) (a3 : List Int) (a4 : Int) : answer Try.prog impl_SignVote.Cs 100000 impl_SignVote.cuts [] Try.f27 (k + 1) [.v (.agg [(.sl 82 a0_0z a0_0)]), .v (.int .i64 a1), .v (.int .i64 a2), .v (.nums 5 .u8 a3z a3), .v (.int .i64 a4)] = (impl_SignVote.f (k + 1) a0_0z a0_0 a1 a2 a3z a3 a4).map impl_SignVote.enc := by
  refine (impl_SignVote.s k a0_0z a0_0 a1 a2 a3z a3 a4).trans (Eq.trans ?_ (impl_SignVote.b_nat impl_SignVote.enc some k a0_0z a0_0 a1 a2 a3z a3 a4))
  simp only [Option.map_some]
theorem impl_SignVote.sound (k : Nat) : SoundF Try.prog 27 (fun a => (impl_SignVote.ans k a).val) := by
  refine sound_plain (fun args res h => ?_) (fun t n => rfl)
  unfold impl_SignVote.ans at h
  dsimp only at h
  split at h
  · cases k with
    | zero => cases h
    | succ k =>
      unfold Ans.val at h
      rw [← impl_SignVote.eq] at h
      exact answer_sound mixed Try.func27 _ _ _ (k + 1) (fun j _ => tab_sound (tab_cons (impl_TableOk.sound j) (tab_cons (impl_within.sound j) (tab_cons (impl_VoteBytes.sound j) (tab_cons (impl_copyBytes.sound j) (tab_cons (impl_Mac.sound j) (tab_nil))))))) _ _ h
  · exact (Ans.no_val h).elim

/-! loop.example/g00790/impl.SameBytes -/
def impl_SameBytes.b {R : Type} (ret : Bool → Option R) (k : Nat) (a0z : Bool) (a0 : List Int) (a1z : Bool) (a1 : List Int) : Option R :=
  ret (decide ((strOf a0) = (strOf a1)))
def impl_SameBytes.f : Nat → Bool → (List Int) → Bool → (List Int) → Option Bool
  | 0, _, _, _, _ => none
  | k + 1, a0z, a0, a1z, a1 => impl_SameBytes.b some k a0z a0 a1z a1
def impl_SameBytes.enc (r : Bool) : Res := ⟨[.vals false [((.bool r), true)]], []⟩
def impl_SameBytes.ans (k : Nat) : List Arg → Ans
  | [.v (.nums 5 .u8 a0z a0), .v (.nums 5 .u8 a1z a1)] => ⟨impl_SameBytes.f k a0z a0 a1z a1, impl_SameBytes.enc⟩
  | _ => Ans.no
def impl_SameBytes.Cs (k : Nat) : CallSem := tab []
def impl_SameBytes.cuts : List (Nat × Keep) := []
theorem impl_SameBytes.s (k : Nat) (a0z : Bool) (a0 : List Int) (a1z : Bool) (a1 : List Int) : answer Try.prog impl_SameBytes.Cs 100000 impl_SameBytes.cuts [] Try.f7 (k + 1) [.v (.nums 5 .u8 a0z a0), .v (.nums 5 .u8 a1z a1)] = impl_SameBytes.b (fun r => some (impl_SameBytes.enc r)) k a0z a0 a1z a1 := by kernel_rfl
theorem impl_SameBytes.b_nat {R R' : Type} (e : R → R') (ret : Bool → Option R) (k : Nat) (a0z : Bool) (a0 : List Int) (a1z : Bool) (a1 : List Int) : impl_SameBytes.b (fun r => (ret r).map e) k a0z a0 a1z a1 = (impl_SameBytes.b ret k a0z a0 a1z a1).map e := by
  unfold impl_SameBytes.b
  repeat' first | with_reducible refine nat_cond ?_ ?_ | with_reducible refine nat_bind fun _ => ?_ | rfl
theorem impl_SameBytes.eq (k : Nat) (a0z : Bool) (a0 : List Int) (a1z : Bool) (a1 : List Int) : answer Try.prog impl_SameBytes.Cs 100000 impl_SameBytes.cuts [] Try.f7 (k + 1) [.v (.nums 5 .u8 a0z a0), .v (.nums 5 .u8 a1z a1)] = (impl_SameBytes.f (k + 1) a0z a0 a1z a1).map impl_SameBytes.enc := by
  refine (impl_SameBytes.s k a0z a0 a1z a1).trans (Eq.trans ?_ (impl_SameBytes.b_nat impl_SameBytes.enc some k a0z a0 a1z a1))
  simp only [Option.map_some]
theorem impl_SameBytes.sound (k : Nat) : SoundF Try.prog 7 (fun a => (impl_SameBytes.ans k a).val) := by
  refine sound_plain (fun args res h => ?_) (fun t n => rfl)
  unfold impl_SameBytes.ans at h
  dsimp only at h
  split at h
  · cases k with
    | zero => cases h
    | succ k =>
      unfold Ans.val at h
      rw [← impl_SameBytes.eq] at h
      exact answer_sound mixed Try.func7 _ _ _ (k + 1) (fun j _ => tab_sound (tab_nil)) _ _ h
  · exact (Ans.no_val h).elim

/-! loop.example/g00790/impl.VoteSame -/
def impl_VoteSame.b {R : Type} (ret : Bool → Option R) (k : Nat) (a0_0 : Int) (a0_1 : Int) (a0_2z : Bool) (a0_2 : List Int) (a0_3 : Int) (a0_4z : Bool) (a0_4 : List Int) (a1_0 : Int) (a1_1 : Int) (a1_2z : Bool) (a1_2 : List Int) (a1_3 : Int) (a1_4z : Bool) (a1_4 : List Int) : Option R :=
  cond (decide (a0_0 = a1_0)) (cond (decide (a0_1 = a1_1)) (cond (decide (a0_3 = a1_3)) ((impl_SameBytes.f k a0_2z a0_2 a1_2z a1_2).bind fun t0 => cond t0 ((impl_SameBytes.f k a0_4z a0_4 a1_4z a1_4).bind fun t1 => ret t1) (ret false)) (ret false)) (ret false)) (ret false)
def impl_VoteSame.f : Nat → Int → Int → Bool → (List Int) → Int → Bool → (List Int) → Int → Int → Bool → (List Int) → Int → Bool → (List Int) → Option Bool
  | 0, _, _, _, _, _, _, _, _, _, _, _, _, _, _ => none
  | k + 1, a0_0, a0_1, a0_2z, a0_2, a0_3, a0_4z, a0_4, a1_0, a1_1, a1_2z, a1_2, a1_3, a1_4z, a1_4 => impl_VoteSame.b some k a0_0 a0_1 a0_2z a0_2 a0_3 a0_4z a0_4 a1_0 a1_1 a1_2z a1_2 a1_3 a1_4z a1_4
def impl_VoteSame.enc (r : Bool) : Res := ⟨[.vals false [((.bool r), true)]], []⟩
def impl_VoteSame.ans (k : Nat) : List Arg → Ans
  | [.v (.agg [(.int .i64 a0_0), (.int .i64 a0_1), (.nums 5 .u8 a0_2z a0_2), (.int .i64 a0_3), (.nums 5 .u8 a0_4z a0_4)]), .v (.agg [(.int .i64 a1_0), (.int .i64 a1_1), (.nums 5 .u8 a1_2z a1_2), (.int .i64 a1_3), (.nums 5 .u8 a1_4z a1_4)])] => ⟨impl_VoteSame.f k a0_0 a0_1 a0_2z a0_2 a0_3 a0_4z a0_4 a1_0 a1_1 a1_2z a1_2 a1_3 a1_4z a1_4, impl_VoteSame.enc⟩
  | _ => Ans.no
def impl_VoteSame.Cs (k : Nat) : CallSem := tab [(7, impl_SameBytes.ans k)]
def impl_VoteSame.cuts : List (Nat × Keep) := []
theorem impl_VoteSame.s (k : Nat) (a0_0 : Int) (a0_1 : Int) (a0_2z : Bool) (a0_2 : List Int) (a0_3 : Int) (a0_4z : Bool) (a0_4 : List Int) (a1_0 : Int) (a1_1 : Int) (a1_2z : Bool) (a1_2 : List Int) (a1_3 : Int) (a1_4z : Bool) (a1_4 : List Int) : answer Try.prog impl_VoteSame.Cs 100000 impl_VoteSame.cuts [] Try.f28 (k + 1) [.v (.agg [(.int .i64 a0_0), (.int .i64 a0_1), (.nums 5 .u8 a0_2z a0_2), (.int .i64 a0_3), (.nums 5 .u8 a0_4z a0_4)]), .v (.agg [(.int .i64 a1_0), (.int .i64 a1_1), (.nums 5 .u8 a1_2z a1_2), (.int .i64 a1_3), (.nums 5 .u8 a1_4z a1_4)])] = impl_VoteSame.b (fun r => some (impl_VoteSame.enc r)) k a0_0 a0_1 a0_2z a0_2 a0_3 a0_4z a0_4 a1_0 a1_1 a1_2z a1_2 a1_3 a1_4z a1_4 := by kernel_rfl
theorem impl_VoteSame.b_nat {R R' : Type} (e : R → R') (ret : Bool → Option R) (k : Nat) (a0_0 : Int) (a0_1 : Int) (a0_2z : Bool) (a0_2 : List Int) (a0_3 : Int) (a0_4z : Bool) (a0_4 : List Int) (a1_0 : Int) (a1_1 : Int) (a1_2z : Bool) (a1_2 : List Int) (a1_3 : Int) (a1_4z : Bool) (a1_4 : List Int) : impl_VoteSame.b (fun r => (ret r).map e) k a0_0 a0_1 a0_2z a0_2 a0_3 a0_4z a0_4 a1_0 a1_1 a1_2z a1_2 a1_3 a1_4z a1_4 = (impl_VoteSame.b ret k a0_0 a0_1 a0_2z a0_2 a0_3 a0_4z a0_4 a1_0 a1_1 a1_2z a1_2 a1_3 a1_4z a1_4).map e := by
  unfold impl_VoteSame.b
  repeat' first | with_reducible refine nat_cond ?_ ?_ | with_reducible refine nat_bind fun _ => ?_ | rfl
theorem impl_VoteSame.eq (k : Nat) (a0_0 : Int) (a0_1 : Int) (a0_2z : Bool) (a0_2 : List Int) (a0_3 : Int) (a0_4z : Bool) (a0_4 : List Int) (a1_0 : Int) (a1_1 : Int) (a1_2z : Bool) (a1_2 : List Int) (a1_3 : Int) (a1_4z : Bool) (a1_4 : List Int) : answer Try.prog impl_VoteSame.Cs 100000 impl_VoteSame.cuts [] Try.f28 (k + 1) [.v (.agg [(.int .i64 a0_0), (.int .i64 a0_1), (.nums 5 .u8 a0_2z a0_2), (.int .i64 a0_3), (.nums 5 .u8 a0_4z a0_4)]), .v (.agg [(.int .i64 a1_0), (.int .i64 a1_1), (.nums 5 .u8 a1_2z a1_2), (.int .i64 a1_3), (.nums 5 .u8 a1_4z a1_4)])] = (impl_VoteSame.f (k + 1) a0_0 a0_1 a0_2z a0_2 a0_3 a0_4z a0_4 a1_0 a1_1 a1_2z a1_2 a1_3 a1_4z a1_4).map impl_VoteSame.enc := by
  refine (impl_VoteSame.s k a0_0 a0_1 a0_2z a0_2 a0_3 a0_4z a0_4 a1_0 a1_1 a1_2z a1_2 a1_3 a1_4z a1_4).trans (Eq.trans ?_ (impl_VoteSame.b_nat impl_VoteSame.enc some k a0_0 a0_1 a0_2z a0_2 a0_3 a0_4z a0_4 a1_0 a1_1 a1_2z a1_2 a1_3 a1_4z a1_4))
  simp only [Option.map_some]
theorem impl_VoteSame.sound (k : Nat) : SoundF Try.prog 28 (fun a => (impl_VoteSame.ans k a).val) := by
  refine sound_plain (fun args res h => ?_) (fun t n => rfl)
  unfold impl_VoteSame.ans at h
  dsimp only at h
  split at h
  · cases k with
    | zero => cases h
    | succ k =>
      unfold Ans.val at h
      rw [← impl_VoteSame.eq] at h
      exact answer_sound mixed Try.func28 _ _ _ (k + 1) (fun j _ => tab_sound (tab_cons (impl_SameBytes.sound j) (tab_nil))) _ _ h
  · exact (Ans.no_val h).elim

/-! loop.example/g00790/impl.VoteGood -/
def impl_VoteGood.b {R : Type} (ret : Bool → Option R) (k : Nat) (a0_0z : Bool) (a0_0 : List T) (a1_0 : Int) (a1_1 : Int) (a1_2z : Bool) (a1_2 : List Int) (a1_3 : Int) (a1_4z : Bool) (a1_4 : List Int) : Option R :=
  (impl_SignVote.f k a0_0z a0_0 a1_0 a1_1 a1_2z a1_2 a1_3).bind fun t0 => cond t0.2.2.2.2.2.2.2 ((impl_VoteSame.f k t0.1 t0.2.1 t0.2.2.1 t0.2.2.2.1 t0.2.2.2.2.1 t0.2.2.2.2.2.1 t0.2.2.2.2.2.2.1 a1_0 a1_1 a1_2z a1_2 a1_3 a1_4z a1_4).bind fun t1 => ret t1) (ret false)
def impl_VoteGood.f : Nat → Bool → (List T) → Int → Int → Bool → (List Int) → Int → Bool → (List Int) → Option Bool
  | 0, _, _, _, _, _, _, _, _, _ => none
  | k + 1, a0_0z, a0_0, a1_0, a1_1, a1_2z, a1_2, a1_3, a1_4z, a1_4 => impl_VoteGood.b some k a0_0z a0_0 a1_0 a1_1 a1_2z a1_2 a1_3 a1_4z a1_4
def impl_VoteGood.enc (r : Bool) : Res := ⟨[.vals false [((.bool r), true)]], []⟩
def impl_VoteGood.ans (k : Nat) : List Arg → Ans
  | [.v (.agg [(.sl 82 a0_0z a0_0)]), .v (.agg [(.int .i64 a1_0), (.int .i64 a1_1), (.nums 5 .u8 a1_2z a1_2), (.int .i64 a1_3), (.nums 5 .u8 a1_4z a1_4)])] => ⟨impl_VoteGood.f k a0_0z a0_0 a1_0 a1_1 a1_2z a1_2 a1_3 a1_4z a1_4, impl_VoteGood.enc⟩
  | _ => Ans.no
def impl_VoteGood.Cs (k : Nat) : CallSem := tab [(27, impl_SignVote.ans k), (28, impl_VoteSame.ans k)]
def impl_VoteGood.cuts : List (Nat × Keep) := []
theorem impl_VoteGood.s (k : Nat) (a0_0z : Bool) (a0_0 : List T) (a1_0 : Int) (a1_1 : Int) (a1_2z : Bool) (a1_2 : List Int) (a1_3 : Int) (a1_4z : Bool) (a1_4 : List Int) : answer Try.prog impl_VoteGood.Cs 100000 impl_VoteGood.cuts [] Try.f8 (k + 1) [.v (.agg [(.sl 82 a0_0z a0_0)]), .v (.agg [(.int .i64 a1_0), (.int .i64 a1_1), (.nums 5 .u8 a1_2z a1_2), (.int .i64 a1_3), (.nums 5 .u8 a1_4z a1_4)])] = impl_VoteGood.b (fun r => some (impl_VoteGood.enc r)) k a0_0z a0_0 a1_0 a1_1 a1_2z a1_2 a1_3 a1_4z a1_4 := by kernel_rfl
theorem impl_VoteGood.b_nat {R R' : Type} (e : R → R') (ret : Bool → Option R) (k : Nat) (a0_0z : Bool) (a0_0 : List T) (a1_0 : Int) (a1_1 : Int) (a1_2z : Bool) (a1_2 : List Int) (a1_3 : Int) (a1_4z : Bool) (a1_4 : List Int) : impl_VoteGood.b (fun r => (ret r).map e) k a0_0z a0_0 a1_0 a1_1 a1_2z a1_2 a1_3 a1_4z a1_4 = (impl_VoteGood.b ret k a0_0z a0_0 a1_0 a1_1 a1_2z a1_2 a1_3 a1_4z a1_4).map e := by
  unfold impl_VoteGood.b
  repeat' first | with_reducible refine nat_cond ?_ ?_ | with_reducible refine nat_bind fun _ => ?_ | rfl
theorem impl_VoteGood.eq (k : Nat) (a0_0z : Bool) (a0_0 : List T) (a1_0 : Int) (a1_1 : Int) (a1_2z : Bool) (a1_2 : List Int) (a1_3 : Int) (a1_4z : Bool) (a1_4 : List Int) : answer Try.prog impl_VoteGood.Cs 100000 impl_VoteGood.cuts [] Try.f8 (k + 1) [.v (.agg [(.sl 82 a0_0z a0_0)]), .v (.agg [(.int .i64 a1_0), (.int .i64 a1_1), (.nums 5 .u8 a1_2z a1_2), (.int .i64 a1_3), (.nums 5 .u8 a1_4z a1_4)])] = (impl_VoteGood.f (k + 1) a0_0z a0_0 a1_0 a1_1 a1_2z a1_2 a1_3 a1_4z a1_4).map impl_VoteGood.enc := by
  refine (impl_VoteGood.s k a0_0z a0_0 a1_0 a1_1 a1_2z a1_2 a1_3 a1_4z a1_4).trans (Eq.trans ?_ (impl_VoteGood.b_nat impl_VoteGood.enc some k a0_0z a0_0 a1_0 a1_1 a1_2z a1_2 a1_3 a1_4z a1_4))
  simp only [Option.map_some]
theorem impl_VoteGood.sound (k : Nat) : SoundF Try.prog 8 (fun a => (impl_VoteGood.ans k a).val) := by
  refine sound_plain (fun args res h => ?_) (fun t n => rfl)
  unfold impl_VoteGood.ans at h
  dsimp only at h
  split at h
  · cases k with
    | zero => cases h
    | succ k =>
      unfold Ans.val at h
      rw [← impl_VoteGood.eq] at h
      exact answer_sound mixed Try.func8 _ _ _ (k + 1) (fun j _ => tab_sound (tab_cons (impl_SignVote.sound j) (tab_cons (impl_VoteSame.sound j) (tab_nil)))) _ _ h
  · exact (Ans.no_val h).elim

/-! loop.example/g00790/impl.Twice$1$1$1 -/
def impl_Twice_1_1_1.b {R : Type} (ret : Bool → Option R) (k : Nat) (a0_0 : Int) (a0_1 : Int) (a0_2z : Bool) (a0_2 : List Int) (a0_3 : Int) (a0_4z : Bool) (a0_4 : List Int) (a1_0 : Int) (a1_1 : Int) (a1_2z : Bool) (a1_2 : List Int) (a1_3 : Int) (a1_4z : Bool) (a1_4 : List Int) : Option R :=
  cond (decide (a1_0 = a0_0)) ((impl_SameBytes.f k a1_2z a1_2 a0_2z a0_2).bind fun t0 => ret (!t0)) (ret false)
def impl_Twice_1_1_1.f : Nat → Int → Int → Bool → (List Int) → Int → Bool → (List Int) → Int → Int → Bool → (List Int) → Int → Bool → (List Int) → Option Bool
  | 0, _, _, _, _, _, _, _, _, _, _, _, _, _, _ => none
  | k + 1, a0_0, a0_1, a0_2z, a0_2, a0_3, a0_4z, a0_4, a1_0, a1_1, a1_2z, a1_2, a1_3, a1_4z, a1_4 => impl_Twice_1_1_1.b some k a0_0 a0_1 a0_2z a0_2 a0_3 a0_4z a0_4 a1_0 a1_1 a1_2z a1_2 a1_3 a1_4z a1_4
def impl_Twice_1_1_1.enc (r : Bool) : Res := ⟨[.vals false [((.bool r), true)]], []⟩
def impl_Twice_1_1_1.ans (k : Nat) : List Arg → Ans
  | [.v (.agg [(.int .i64 a0_0), (.int .i64 a0_1), (.nums 5 .u8 a0_2z a0_2), (.int .i64 a0_3), (.nums 5 .u8 a0_4z a0_4)]), .v (.ptr [(.int .i64 a1_0), (.int .i64 a1_1), (.nums 5 .u8 a1_2z a1_2), (.int .i64 a1_3), (.nums 5 .u8 a1_4z a1_4)])] => ⟨impl_Twice_1_1_1.f k a0_0 a0_1 a0_2z a0_2 a0_3 a0_4z a0_4 a1_0 a1_1 a1_2z a1_2 a1_3 a1_4z a1_4, impl_Twice_1_1_1.enc⟩
  | _ => Ans.no
def impl_Twice_1_1_1.Cs (k : Nat) : CallSem := tab [(7, impl_SameBytes.ans k)]
def impl_Twice_1_1_1.cuts : List (Nat × Keep) := []
theorem impl_Twice_1_1_1.s (k : Nat) (a0_0 : Int) (a0_1 : Int) (a0_2z : Bool) (a0_2 : List Int) (a0_3 : Int) (a0_4z : Bool) (a0_4 : List Int) (a1_0 : Int) (a1_1 : Int) (a1_2z : Bool) (a1_2 : List Int) (a1_3 : Int) (a1_4z : Bool) (a1_4 : List Int) : answer Try.prog impl_Twice_1_1_1.Cs 100000 impl_Twice_1_1_1.cuts [] Try.f26 (k + 1) [.v (.agg [(.int .i64 a0_0), (.int .i64 a0_1), (.nums 5 .u8 a0_2z a0_2), (.int .i64 a0_3), (.nums 5 .u8 a0_4z a0_4)]), .v (.ptr [(.int .i64 a1_0), (.int .i64 a1_1), (.nums 5 .u8 a1_2z a1_2), (.int .i64 a1_3), (.nums 5 .u8 a1_4z a1_4)])] = impl_Twice_1_1_1.b (fun r => some (impl_Twice_1_1_1.enc r)) k a0_0 a0_1 a0_2z a0_2 a0_3 a0_4z a0_4 a1_0 a1_1 a1_2z a1_2 a1_3 a1_4z a1_4 := by kernel_rfl
theorem impl_Twice_1_1_1.b_nat {R R' : Type} (e : R → R') (ret : Bool → Option R) (k : Nat) (a0_0 : Int) (a0_1 : Int) (a0_2z : Bool) (a0_2 : List Int) (a0_3 : Int) (a0_4z : Bool) (a0_4 : List Int) (a1_0 : Int) (a1_1 : Int) (a1_2z : Bool) (a1_2 : List Int) (a1_3 : Int) (a1_4z : Bool) (a1_4 : List Int) : impl_Twice_1_1_1.b (fun r => (ret r).map e) k a0_0 a0_1 a0_2z a0_2 a0_3 a0_4z a0_4 a1_0 a1_1 a1_2z a1_2 a1_3 a1_4z a1_4 = (impl_Twice_1_1_1.b ret k a0_0 a0_1 a0_2z a0_2 a0_3 a0_4z a0_4 a1_0 a1_1 a1_2z a1_2 a1_3 a1_4z a1_4).map e := by
  unfold impl_Twice_1_1_1.b
  repeat' first | with_reducible refine nat_cond ?_ ?_ | with_reducible refine nat_bind fun _ => ?_ | rfl
theorem impl_Twice_1_1_1.eq (k : Nat) (a0_0 : Int) (a0_1 : Int) (a0_2z : Bool) (a0_2 : List Int) (a0_3 : Int) (a0_4z : Bool) (a0_4 : List Int) (a1_0 : Int) (a1_1 : Int) (a1_2z : Bool) (a1_2 : List Int) (a1_3 : Int) (a1_4z : Bool) (a1_4 : List Int) : answer Try.prog impl_Twice_1_1_1.Cs 100000 impl_Twice_1_1_1.cuts [] Try.f26 (k + 1) [.v (.agg [(.int .i64 a0_0), (.int .i64 a0_1), (.nums 5 .u8 a0_2z a0_2), (.int .i64 a0_3), (.nums 5 .u8 a0_4z a0_4)]), .v (.ptr [(.int .i64 a1_0), (.int .i64 a1_1), (.nums 5 .u8 a1_2z a1_2), (.int .i64 a1_3), (.nums 5 .u8 a1_4z a1_4)])] = (impl_Twice_1_1_1.f (k + 1) a0_0 a0_1 a0_2z a0_2 a0_3 a0_4z a0_4 a1_0 a1_1 a1_2z a1_2 a1_3 a1_4z a1_4).map impl_Twice_1_1_1.enc := by
  refine (impl_Twice_1_1_1.s k a0_0 a0_1 a0_2z a0_2 a0_3 a0_4z a0_4 a1_0 a1_1 a1_2z a1_2 a1_3 a1_4z a1_4).trans (Eq.trans ?_ (impl_Twice_1_1_1.b_nat impl_Twice_1_1_1.enc some k a0_0 a0_1 a0_2z a0_2 a0_3 a0_4z a0_4 a1_0 a1_1 a1_2z a1_2 a1_3 a1_4z a1_4))
  simp only [Option.map_some]
theorem impl_Twice_1_1_1.sound (k : Nat) : SoundF Try.prog 26 (fun a => (impl_Twice_1_1_1.ans k a).val) := by
  refine sound_plain (fun args res h => ?_) (fun t n => rfl)
  unfold impl_Twice_1_1_1.ans at h
  dsimp only at h
  split at h
  · cases k with
    | zero => cases h
    | succ k =>
      unfold Ans.val at h
      rw [← impl_Twice_1_1_1.eq] at h
      exact answer_sound mixed Try.func26 _ _ _ (k + 1) (fun j _ => tab_sound (tab_cons (impl_SameBytes.sound j) (tab_nil))) _ _ h
  · exact (Ans.no_val h).elim

/-! loop.example/g00790/impl.hasVote$1 -/
def impl_hasVote_1_v1.b {R : Type} (ret : Bool → Option R) (k : Nat) (a0_0 : Int) (a0_1 : Int) (a0_2z : Bool) (a0_2 : List Int) (a0_3 : Int) (a0_4z : Bool) (a0_4 : List Int) (a1_0 : Int) (a2_0_0_0 : Int) (a2_0_0_1 : Int) (a2_0_0_2z : Bool) (a2_0_0_2 : List Int) (a2_0_0_3 : Int) (a2_0_0_4z : Bool) (a2_0_0_4 : List Int) (a3_0z : Bool) (a3_0 : List T) : Option R :=
  cond (decide (a0_3 = a1_0)) ((impl_Twice_1_1_1.f k a0_0 a0_1 a0_2z a0_2 a0_3 a0_4z a0_4 a2_0_0_0 a2_0_0_1 a2_0_0_2z a2_0_0_2 a2_0_0_3 a2_0_0_4z a2_0_0_4).bind fun t0 => cond t0 ((impl_VoteGood.f k a3_0z a3_0 a0_0 a0_1 a0_2z a0_2 a0_3 a0_4z a0_4).bind fun t1 => ret t1) (ret false)) (ret false)
def impl_hasVote_1_v1.f : Nat → Int → Int → Bool → (List Int) → Int → Bool → (List Int) → Int → Int → Int → Bool → (List Int) → Int → Bool → (List Int) → Bool → (List T) → Option Bool
  | 0, _, _, _, _, _, _, _, _, _, _, _, _, _, _, _, _, _ => none
  | k + 1, a0_0, a0_1, a0_2z, a0_2, a0_3, a0_4z, a0_4, a1_0, a2_0_0_0, a2_0_0_1, a2_0_0_2z, a2_0_0_2, a2_0_0_3, a2_0_0_4z, a2_0_0_4, a3_0z, a3_0 => impl_hasVote_1_v1.b some k a0_0 a0_1 a0_2z a0_2 a0_3 a0_4z a0_4 a1_0 a2_0_0_0 a2_0_0_1 a2_0_0_2z a2_0_0_2 a2_0_0_3 a2_0_0_4z a2_0_0_4 a3_0z a3_0
def impl_hasVote_1_v1.enc (r : Bool) : Res := ⟨[.vals false [((.bool r), true)]], []⟩
def impl_hasVote_1_v1.ans (k : Nat) : List Arg → Ans
  | [.v (.agg [(.int .i64 a0_0), (.int .i64 a0_1), (.nums 5 .u8 a0_2z a0_2), (.int .i64 a0_3), (.nums 5 .u8 a0_4z a0_4)]), .v (.ptr [(.int .i64 a1_0)]), .v (.ptr [(.fn 26 [(.ptr [(.int .i64 a2_0_0_0), (.int .i64 a2_0_0_1), (.nums 5 .u8 a2_0_0_2z a2_0_0_2), (.int .i64 a2_0_0_3), (.nums 5 .u8 a2_0_0_4z a2_0_0_4)])])]), .v (.ptr [(.sl 82 a3_0z a3_0)])] => ⟨impl_hasVote_1_v1.f k a0_0 a0_1 a0_2z a0_2 a0_3 a0_4z a0_4 a1_0 a2_0_0_0 a2_0_0_1 a2_0_0_2z a2_0_0_2 a2_0_0_3 a2_0_0_4z a2_0_0_4 a3_0z a3_0, impl_hasVote_1_v1.enc⟩
  | _ => Ans.no
def impl_hasVote_1_v1.Cs (k : Nat) : CallSem := tab [(8, impl_VoteGood.ans k), (26, impl_Twice_1_1_1.ans k)]
def impl_hasVote_1_v1.cuts : List (Nat × Keep) := []
theorem impl_hasVote_1_v1.s (k : Nat) (a0_0 : Int) (a0_1 : Int) (a0_2z : Bool) (a0_2 : List Int) (a0_3 : Int) (a0_4z : Bool) (a0_4 : List Int) (a1_0 : Int) (a2_0_0_0 : Int) (a2_0_0_1 : Int) (a2_0_0_2z : Bool) (a2_0_0_2 : List Int) (a2_0_0_3 : Int) (a2_0_0_4z : Bool) (a2_0_0_4 : List Int) (a3_0z : Bool) (a3_0 : List T) : answer Try.prog impl_hasVote_1_v1.Cs 100000 impl_hasVote_1_v1.cuts [] Try.f45 (k + 1) [.v (.agg [(.int .i64 a0_0), (.int .i64 a0_1), (.nums 5 .u8 a0_2z a0_2), (.int .i64 a0_3), (.nums 5 .u8 a0_4z a0_4)]), .v (.ptr [(.int .i64 a1_0)]), .v (.ptr [(.fn 26 [(.ptr [(.int .i64 a2_0_0_0), (.int .i64 a2_0_0_1), (.nums 5 .u8 a2_0_0_2z a2_0_0_2), (.int .i64 a2_0_0_3), (.nums 5 .u8 a2_0_0_4z a2_0_0_4)])])]), .v (.ptr [(.sl 82 a3_0z a3_0)])] = impl_hasVote_1_v1.b (fun r => some (impl_hasVote_1_v1.enc r)) k a0_0 a0_1 a0_2z a0_2 a0_3 a0_4z a0_4 a1_0 a2_0_0_0 a2_0_0_1 a2_0_0_2z a2_0_0_2 a2_0_0_3 a2_0_0_4z a2_0_0_4 a3_0z a3_0 := by kernel_rfl
theorem impl_hasVote_1_v1.b_nat {R R' : Type} (e : R → R') (ret : Bool → Option R) (k : Nat) (a0_0 : Int) (a0_1 : Int) (a0_2z : Bool) (a0_2 : List Int) (a0_3 : Int) (a0_4z : Bool) (a0_4 : List Int) (a1_0 : Int) (a2_0_0_0 : Int) (a2_0_0_1 : Int) (a2_0_0_2z : Bool) (a2_0_0_2 : List Int) (a2_0_0_3 : Int) (a2_0_0_4z : Bool) (a2_0_0_4 : List Int) (a3_0z : Bool) (a3_0 : List T) : impl_hasVote_1_v1.b (fun r => (ret r).map e) k a0_0 a0_1 a0_2z a0_2 a0_3 a0_4z a0_4 a1_0 a2_0_0_0 a2_0_0_1 a2_0_0_2z a2_0_0_2 a2_0_0_3 a2_0_0_4z a2_0_0_4 a3_0z a3_0 = (impl_hasVote_1_v1.b ret k a0_0 a0_1 a0_2z a0_2 a0_3 a0_4z a0_4 a1_0 a2_0_0_0 a2_0_0_1 a2_0_0_2z a2_0_0_2 a2_0_0_3 a2_0_0_4z a2_0_0_4 a3_0z a3_0).map e := by
  unfold impl_hasVote_1_v1.b
  repeat' first | with_reducible refine nat_cond ?_ ?_ | with_reducible refine nat_bind fun _ => ?_ | rfl
theorem impl_hasVote_1_v1.eq (k : Nat) (a0_0 : Int) (a0_1 : Int) (a0_2z : Bool) (a0_2 : List Int) (a0_3 : Int) (a0_4z : Bool) (a0_4 : List Int) (a1_0 : Int) (a2_0_0_0 : Int) (a2_0_0_1 : Int) (a2_0_0_2z : Bool) (a2_0_0_2 : List Int) (a2_0_0_3 : Int) (a2_0_0_4z : Bool) (a2_0_0_4 : List Int) (a3_0z : Bool) (a3_0 : List T) : answer Try.prog impl_hasVote_1_v1.Cs 100000 impl_hasVote_1_v1.cuts [] Try.f45 (k + 1) [.v (.agg [(.int .i64 a0_0), (.int .i64 a0_1), (.nums 5 .u8 a0_2z a0_2), (.int .i64 a0_3), (.nums 5 .u8 a0_4z a0_4)]), .v (.ptr [(.int .i64 a1_0)]), .v (.ptr [(.fn 26 [(.ptr [(.int .i64 a2_0_0_0), (.int .i64 a2_0_0_1), (.nums 5 .u8 a2_0_0_2z a2_0_0_2), (.int .i64 a2_0_0_3), (.nums 5 .u8 a2_0_0_4z a2_0_0_4)])])]), .v (.ptr [(.sl 82 a3_0z a3_0)])] = (impl_hasVote_1_v1.f (k + 1) a0_0 a0_1 a0_2z a0_2 a0_3 a0_4z a0_4 a1_0 a2_0_0_0 a2_0_0_1 a2_0_0_2z a2_0_0_2 a2_0_0_3 a2_0_0_4z a2_0_0_4 a3_0z a3_0).map impl_hasVote_1_v1.enc := by
  refine (impl_hasVote_1_v1.s k a0_0 a0_1 a0_2z a0_2 a0_3 a0_4z a0_4 a1_0 a2_0_0_0 a2_0_0_1 a2_0_0_2z a2_0_0_2 a2_0_0_3 a2_0_0_4z a2_0_0_4 a3_0z a3_0).trans (Eq.trans ?_ (impl_hasVote_1_v1.b_nat impl_hasVote_1_v1.enc some k a0_0 a0_1 a0_2z a0_2 a0_3 a0_4z a0_4 a1_0 a2_0_0_0 a2_0_0_1 a2_0_0_2z a2_0_0_2 a2_0_0_3 a2_0_0_4z a2_0_0_4 a3_0z a3_0))
  simp only [Option.map_some]
theorem impl_hasVote_1_v1.sound (k : Nat) : SoundF Try.prog 45 (fun a => (impl_hasVote_1_v1.ans k a).val) := by
  refine sound_plain (fun args res h => ?_) (fun t n => rfl)
  unfold impl_hasVote_1_v1.ans at h
  dsimp only at h
  split at h
  · cases k with
    | zero => cases h
    | succ k =>
      unfold Ans.val at h
      rw [← impl_hasVote_1_v1.eq] at h
      exact answer_sound mixed Try.func45 _ _ _ (k + 1) (fun j _ => tab_sound (tab_cons (impl_VoteGood.sound j) (tab_cons (impl_Twice_1_1_1.sound j) (tab_nil)))) _ _ h
  · exact (Ans.no_val h).elim

end Go.Proofs.YthocpcfjfgnkgaaG
