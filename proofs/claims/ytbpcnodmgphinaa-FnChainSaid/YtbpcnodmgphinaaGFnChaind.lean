/- What the functions compute, printed by a program of this repo; each is shown to be what the machine of values answers. No condition. -/
import Derived.Test.YtbpcnodmgphinaaProg
import Derived.KernelRfl
import Derived.Test.YtbpcnodmgphinaaGFnChainc
namespace Go.Proofs.YtbpcnodmgphinaaG
open Go Go.Proofs.YtbpcnodmgphinaaRv Go.Proofs
set_option linter.unusedVariables false
set_option linter.unusedSimpArgs false
def impl_ShaPad.b {R : Type} (ret : Bool × List Int → Option R) (j0 : Bool → (List Int) → (List Int) → Option R) (j1 : Bool → (List Int) → (List Int) → Int → Option R) (k : Nat) (a0z : Bool) (a0 : List Int) : Option R :=
  (impl_copyBytes.f k a0z a0).bind fun t0 => cond (decide ((t0.2).length + 1 < 140737488355328)) (j0 a0z a0 (t0.2 ++ ([128] : List Int))) (none)
def impl_ShaPad.l0b {R : Type} (ret : Bool × List Int → Option R) (j0 : Bool → (List Int) → (List Int) → Option R) (j1 : Bool → (List Int) → (List Int) → Int → Option R) (k : Nat) (x0z : Bool) (x0 x3 : List Int) : Option R :=
  cond (!(decide ((Int.tmod ((x3).length : Int) 64) = 56))) (cond (decide ((x3).length + 1 < 140737488355328)) (j0 x0z x0 (x3 ++ ([0] : List Int))) (none)) (j1 x0z x0 x3 7)
def impl_ShaPad.l1b {R : Type} (ret : Bool × List Int → Option R) (j0 : Bool → (List Int) → (List Int) → Option R) (j1 : Bool → (List Int) → (List Int) → Int → Option R) (k : Nat) (x0z : Bool) (x0 x3 : List Int) (x4 : Int) : Option R :=
  cond (decide (x4 ≥ 0)) (cond (decide ((0 : Int) ≤ (RowKit.wrap64 ((8 : Int) * x4)))) (cond (decide ((x3).length + 1 < 140737488355328)) (j1 x0z x0 (x3 ++ ([(((shrI .i64 (RowKit.wrap64 ((8 : Int) * ((x0).length : Int))) (RowKit.wrap64 ((8 : Int) * x4)))) % 256)] : List Int)) (RowKit.wrap64 (x4 - 1))) (none)) (none)) (ret (false, x3))
mutual
def impl_ShaPad.l0 : Nat → Bool → (List Int) → (List Int) → Option (Bool × List Int)
  | 0, _, _, _ => none
  | k + 1, x0z, x0, x3 => impl_ShaPad.l0b some (impl_ShaPad.l0 k) (impl_ShaPad.l1 k) k x0z x0 x3
def impl_ShaPad.l1 : Nat → Bool → (List Int) → (List Int) → Int → Option (Bool × List Int)
  | 0, _, _, _, _ => none
  | k + 1, x0z, x0, x3, x4 => impl_ShaPad.l1b some (impl_ShaPad.l0 k) (impl_ShaPad.l1 k) k x0z x0 x3 x4
end
def impl_ShaPad.f : Nat → Bool → (List Int) → Option (Bool × List Int)
  | 0, _, _ => none
  | k + 1, a0z, a0 => impl_ShaPad.b some (impl_ShaPad.l0 k) (impl_ShaPad.l1 k) k a0z a0
def impl_ShaPad.enc (r : Bool × List Int) : Res := ⟨[.vals false [((.nums 5 .u8 r.1 r.2), true)]], []⟩
def impl_ShaPad.ans (k : Nat) : List Arg → Ans
  | [.v (.nums 5 .u8 a0z a0)] => ⟨impl_ShaPad.f k a0z a0, impl_ShaPad.enc⟩
  | _ => Ans.no
def impl_ShaPad.Cs (k : Nat) : CallSem := tab [(80, impl_copyBytes.ans k)]
def impl_ShaPad.cuts : List (Nat × Keep) := [(28, ⟨[(0, some []), (3, none)], []⟩), (122, ⟨[(0, some []), (3, none), (4, some [])], []⟩)]
noncomputable def impl_ShaPad.K0 : List Fr := framesAt [true, true, false, false] (bodyOf Try.f164 impl_ShaPad.cuts) []
def impl_ShaPad.N0 (x0z : Bool) (x0 x3 : List Int) : St := stOf 31 31 1 [(0, .val ⟨(.nums 5 .u8 x0z x0), [], false, none⟩), (3, .val ⟨(.nums 5 .u8 false x3), [.l 3 0], true, some (.l 3 0)⟩)] []
noncomputable def impl_ShaPad.K1 : List Fr := framesAt [true, true, true, false, true, false] (bodyOf Try.f164 impl_ShaPad.cuts) []
def impl_ShaPad.N1 (x0z : Bool) (x0 x3 : List Int) (x4 : Int) : St := stOf 31 31 1 [(0, .val ⟨(.nums 5 .u8 x0z x0), [], false, none⟩), (3, .val ⟨(.nums 5 .u8 false x3), [.l 3 0], true, some (.l 3 0)⟩), (4, .val (V.s (.int .i64 x4)))] []
theorem impl_ShaPad.s0 (k : Nat) (G : List Fr → St → Option Res) (a0z : Bool) (a0 : List Int) (yx0z : Bool) (yx0 yx3 : List Int) : resume Try.prog (impl_ShaPad.Cs k) G (finish Try.prog [] Try.f164 [.v (.nums 5 .u8 a0z a0)]) 100000 impl_ShaPad.K0 (impl_ShaPad.N0 yx0z yx0 yx3) = impl_ShaPad.l0b (fun r => some (impl_ShaPad.enc r)) (fun x0z x0 x3 => G impl_ShaPad.K0 (impl_ShaPad.N0 x0z x0 x3)) (fun x0z x0 x3 x4 => G impl_ShaPad.K1 (impl_ShaPad.N1 x0z x0 x3 x4)) k yx0z yx0 yx3 := by kernel_rfl
theorem impl_ShaPad.s1 (k : Nat) (G : List Fr → St → Option Res) (a0z : Bool) (a0 : List Int) (yx0z : Bool) (yx0 yx3 : List Int) (yx4 : Int) : resume Try.prog (impl_ShaPad.Cs k) G (finish Try.prog [] Try.f164 [.v (.nums 5 .u8 a0z a0)]) 100000 impl_ShaPad.K1 (impl_ShaPad.N1 yx0z yx0 yx3 yx4) = impl_ShaPad.l1b (fun r => some (impl_ShaPad.enc r)) (fun x0z x0 x3 => G impl_ShaPad.K0 (impl_ShaPad.N0 x0z x0 x3)) (fun x0z x0 x3 x4 => G impl_ShaPad.K1 (impl_ShaPad.N1 x0z x0 x3 x4)) k yx0z yx0 yx3 yx4 := by kernel_rfl
theorem impl_ShaPad.bn {R R' : Type} (e : R → R') (ret : Bool × List Int → Option R) (j0 : Bool → (List Int) → (List Int) → Option R) (j1 : Bool → (List Int) → (List Int) → Int → Option R) (k : Nat) (a0z : Bool) (a0 : List Int) : impl_ShaPad.b (fun r => (ret r).map e) (fun x0z x0 x3 => (j0 x0z x0 x3).map e) (fun x0z x0 x3 x4 => (j1 x0z x0 x3 x4).map e) k a0z a0 = (impl_ShaPad.b ret j0 j1 k a0z a0).map e := by
  unfold impl_ShaPad.b
  repeat' first | with_reducible refine nat_cond ?_ ?_ | with_reducible refine nat_bind fun _ => ?_ | rfl
theorem impl_ShaPad.l0n {R R' : Type} (e : R → R') (ret : Bool × List Int → Option R) (j0 : Bool → (List Int) → (List Int) → Option R) (j1 : Bool → (List Int) → (List Int) → Int → Option R) (k : Nat) (x0z : Bool) (x0 x3 : List Int) : impl_ShaPad.l0b (fun r => (ret r).map e) (fun x0z x0 x3 => (j0 x0z x0 x3).map e) (fun x0z x0 x3 x4 => (j1 x0z x0 x3 x4).map e) k x0z x0 x3 = (impl_ShaPad.l0b ret j0 j1 k x0z x0 x3).map e := by
  unfold impl_ShaPad.l0b
  repeat' first | with_reducible refine nat_cond ?_ ?_ | with_reducible refine nat_bind fun _ => ?_ | rfl
theorem impl_ShaPad.l1n {R R' : Type} (e : R → R') (ret : Bool × List Int → Option R) (j0 : Bool → (List Int) → (List Int) → Option R) (j1 : Bool → (List Int) → (List Int) → Int → Option R) (k : Nat) (x0z : Bool) (x0 x3 : List Int) (x4 : Int) : impl_ShaPad.l1b (fun r => (ret r).map e) (fun x0z x0 x3 => (j0 x0z x0 x3).map e) (fun x0z x0 x3 x4 => (j1 x0z x0 x3 x4).map e) k x0z x0 x3 x4 = (impl_ShaPad.l1b ret j0 j1 k x0z x0 x3 x4).map e := by
  unfold impl_ShaPad.l1b
  repeat' first | with_reducible refine nat_cond ?_ ?_ | with_reducible refine nat_bind fun _ => ?_ | rfl
theorem impl_ShaPad.rq (a0z : Bool) (a0 : List Int) : ∀ k, (∀ (x0z : Bool) (x0 x3 : List Int), rounds Try.prog impl_ShaPad.Cs (finish Try.prog [] Try.f164 [.v (.nums 5 .u8 a0z a0)]) 100000 k impl_ShaPad.K0 (impl_ShaPad.N0 x0z x0 x3) = (impl_ShaPad.l0 k x0z x0 x3).map impl_ShaPad.enc) ∧ (∀ (x0z : Bool) (x0 x3 : List Int) (x4 : Int), rounds Try.prog impl_ShaPad.Cs (finish Try.prog [] Try.f164 [.v (.nums 5 .u8 a0z a0)]) 100000 k impl_ShaPad.K1 (impl_ShaPad.N1 x0z x0 x3 x4) = (impl_ShaPad.l1 k x0z x0 x3 x4).map impl_ShaPad.enc)
  | 0 => ⟨fun _ _ _ => rfl, fun _ _ _ _ => rfl⟩
  | k + 1 => by
    have ih := impl_ShaPad.rq a0z a0 k
    refine ⟨fun _ _ _ => ?_, fun _ _ _ _ => ?_⟩
    · refine (impl_ShaPad.s0 k _ a0z a0 _ _ _).trans (Eq.trans ?_ (impl_ShaPad.l0n impl_ShaPad.enc some (impl_ShaPad.l0 k) (impl_ShaPad.l1 k) k _ _ _))
      simp only [ih.1, ih.2, Option.map_some]
    · refine (impl_ShaPad.s1 k _ a0z a0 _ _ _ _).trans (Eq.trans ?_ (impl_ShaPad.l1n impl_ShaPad.enc some (impl_ShaPad.l0 k) (impl_ShaPad.l1 k) k _ _ _ _))
      simp only [ih.1, ih.2, Option.map_some]
theorem impl_ShaPad.eq (k : Nat) (a0z : Bool) (a0 : List Int) : answer Try.prog impl_ShaPad.Cs 100000 impl_ShaPad.cuts [] Try.f164 (k + 1) [.v (.nums 5 .u8 a0z a0)] = (impl_ShaPad.f (k + 1) a0z a0).map impl_ShaPad.enc := by
  have ih := impl_ShaPad.rq a0z a0 k
  refine Eq.trans (b := impl_ShaPad.b (fun r => some (impl_ShaPad.enc r)) (fun x0z x0 x3 => rounds Try.prog impl_ShaPad.Cs (finish Try.prog [] Try.f164 [.v (.nums 5 .u8 a0z a0)]) 100000 k impl_ShaPad.K0 (impl_ShaPad.N0 x0z x0 x3)) (fun x0z x0 x3 x4 => rounds Try.prog impl_ShaPad.Cs (finish Try.prog [] Try.f164 [.v (.nums 5 .u8 a0z a0)]) 100000 k impl_ShaPad.K1 (impl_ShaPad.N1 x0z x0 x3 x4)) k a0z a0) (by kernel_rfl) (Eq.trans ?_ (impl_ShaPad.bn impl_ShaPad.enc some (impl_ShaPad.l0 k) (impl_ShaPad.l1 k) k a0z a0))
  simp only [ih.1, ih.2, Option.map_some]
theorem impl_ShaPad.sound (k : Nat) : SoundF Try.prog 164 (fun a => (impl_ShaPad.ans k a).val) := by
  refine sound_plain (fun args res h => ?_) (fun t n => rfl)
  unfold impl_ShaPad.ans at h
  dsimp only at h
  split at h
  · cases k with
    | zero => cases h
    | succ k =>
      unfold Ans.val at h
      rw [← impl_ShaPad.eq] at h
      exact answer_sound mixed Try.func164 _ _ _ (k + 1) (fun j _ => tab_sound (tab_cons (impl_copyBytes.sound j) (tab_nil))) _ _ h
  · exact (Ans.no_val h).elim

def impl_isWord.b {R : Type} (ret : Bool → Option R) (k : Nat) (a0 : Int) : Option R :=
  (impl_within.f k a0 0 4294967295).bind fun t0 => ret t0
def impl_isWord.f : Nat → Int → Option Bool
  | 0, _ => none
  | k + 1, a0 => impl_isWord.b some k a0
def impl_isWord.enc (r : Bool) : Res := ⟨[.vals false [((.bool r), true)]], []⟩
def impl_isWord.ans (k : Nat) : List Arg → Ans
  | [.v (.int .i64 a0)] => ⟨impl_isWord.f k a0, impl_isWord.enc⟩
  | _ => Ans.no
def impl_isWord.Cs (k : Nat) : CallSem := tab [(79, impl_within.ans k)]
theorem impl_isWord.eq (k : Nat) (a0 : Int) : answer Try.prog impl_isWord.Cs 100000 [] [] Try.f199 (k + 1) [.v (.int .i64 a0)] = (impl_isWord.f (k + 1) a0).map impl_isWord.enc := by
  refine Eq.trans (b := impl_isWord.b (fun r => some (impl_isWord.enc r)) k a0) (by kernel_rfl) ?_
  show _ = (impl_isWord.b some k a0).map impl_isWord.enc
  unfold impl_isWord.b
  repeat' first | with_reducible refine nat_cond ?_ ?_ | with_reducible refine nat_bind fun _ => ?_ | rfl
theorem impl_isWord.sound (k : Nat) : SoundF Try.prog 199 (fun a => (impl_isWord.ans k a).val) := by
  refine sound_plain (fun args res h => ?_) (fun t n => rfl)
  unfold impl_isWord.ans at h
  dsimp only at h
  split at h
  · cases k with
    | zero => cases h
    | succ k =>
      unfold Ans.val at h
      rw [← impl_isWord.eq] at h
      exact answer_sound mixed Try.func199 _ _ _ (k + 1) (fun j _ => tab_sound (tab_cons (impl_within.sound j) (tab_nil))) _ _ h
  · exact (Ans.no_val h).elim

def impl_rounds.b {R : Type} (ret : Bool × List Int → Option R) (k : Nat) : Option R :=
  ret (false, ([1116352408, 1899447441, 3049323471, 3921009573, 961987163, 1508970993, 2453635748, 2870763221, 3624381080, 310598401, 607225278, 1426881987, 1925078388, 2162078206, 2614888103, 3248222580, 3835390401, 4022224774, 264347078, 604807628, 770255983, 1249150122, 1555081692, 1996064986, 2554220882, 2821834349, 2952996808, 3210313671, 3336571891, 3584528711, 113926993, 338241895, 666307205, 773529912, 1294757372, 1396182291, 1695183700, 1986661051, 2177026350, 2456956037, 2730485921, 2820302411, 3259730800, 3345764771, 3516065817, 3600352804, 4094571909, 275423344, 430227734, 506948616, 659060556, 883997877, 958139571, 1322822218, 1537002063, 1747873779, 1955562222, 2024104815, 2227730452, 2361852424, 2428436474, 2756734187, 3204031479, 3329325298] : List Int))
def impl_rounds.f : Nat → Option (Bool × List Int)
  | 0 => none
  | k + 1 => impl_rounds.b some k
def impl_rounds.enc (r : Bool × List Int) : Res := ⟨[.vals false [((.nums 3 .i64 r.1 r.2), true)]], []⟩
def impl_rounds.ans (k : Nat) : List Arg → Ans
  | [] => ⟨impl_rounds.f k, impl_rounds.enc⟩
  | _ => Ans.no
def impl_rounds.Cs (k : Nat) : CallSem := tab []
theorem impl_rounds.eq (k : Nat) : answer Try.prog impl_rounds.Cs 100000 [] [] Try.f200 (k + 1) [] = (impl_rounds.f (k + 1)).map impl_rounds.enc := by
  refine Eq.trans (b := impl_rounds.b (fun r => some (impl_rounds.enc r)) k) (by kernel_rfl) ?_
  show _ = (impl_rounds.b some k).map impl_rounds.enc
  unfold impl_rounds.b
  repeat' first | with_reducible refine nat_cond ?_ ?_ | with_reducible refine nat_bind fun _ => ?_ | rfl
theorem impl_rounds.sound (k : Nat) : SoundF Try.prog 200 (fun a => (impl_rounds.ans k a).val) := by
  refine sound_plain (fun args res h => ?_) (fun t n => rfl)
  unfold impl_rounds.ans at h
  dsimp only at h
  split at h
  · cases k with
    | zero => cases h
    | succ k =>
      unfold Ans.val at h
      rw [← impl_rounds.eq] at h
      exact answer_sound mixed Try.func200 _ _ _ (k + 1) (fun j _ => tab_sound (tab_nil)) _ _ h
  · exact (Ans.no_val h).elim

def impl_TurnRight.b {R : Type} (ret : Int → Option R) (k : Nat) (a0 a1 : Int) : Option R :=
  (impl_isWord.f k a0).bind fun t0 => cond (!t0) (ret 0) ((impl_within.f k a1 0 31).bind fun t1 => cond (!t1) (ret 0) (cond (decide ((0 : Int) ≤ a1)) (cond (decide ((0 : Int) ≤ (RowKit.wrap64 ((32 : Int) - a1)))) (ret (Go.bits .and .i64 (Go.bits .or .i64 (shrI .i64 a0 a1) (shlI .i64 a0 (RowKit.wrap64 ((32 : Int) - a1)))) 4294967295)) (none)) (none)))
def impl_TurnRight.f : Nat → Int → Int → Option Int
  | 0, _, _ => none
  | k + 1, a0, a1 => impl_TurnRight.b some k a0 a1
def impl_TurnRight.enc (r : Int) : Res := ⟨[.vals false [((.int .i64 r), true)]], []⟩
def impl_TurnRight.ans (k : Nat) : List Arg → Ans
  | [.v (.int .i64 a0), .v (.int .i64 a1)] => ⟨impl_TurnRight.f k a0 a1, impl_TurnRight.enc⟩
  | _ => Ans.no
def impl_TurnRight.Cs (k : Nat) : CallSem := tab [(79, impl_within.ans k), (199, impl_isWord.ans k)]
theorem impl_TurnRight.eq (k : Nat) (a0 a1 : Int) : answer Try.prog impl_TurnRight.Cs 100000 [] [] Try.f201 (k + 1) [.v (.int .i64 a0), .v (.int .i64 a1)] = (impl_TurnRight.f (k + 1) a0 a1).map impl_TurnRight.enc := by
  refine Eq.trans (b := impl_TurnRight.b (fun r => some (impl_TurnRight.enc r)) k a0 a1) (by kernel_rfl) ?_
  show _ = (impl_TurnRight.b some k a0 a1).map impl_TurnRight.enc
  unfold impl_TurnRight.b
  repeat' first | with_reducible refine nat_cond ?_ ?_ | with_reducible refine nat_bind fun _ => ?_ | rfl
theorem impl_TurnRight.sound (k : Nat) : SoundF Try.prog 201 (fun a => (impl_TurnRight.ans k a).val) := by
  refine sound_plain (fun args res h => ?_) (fun t n => rfl)
  unfold impl_TurnRight.ans at h
  dsimp only at h
  split at h
  · cases k with
    | zero => cases h
    | succ k =>
      unfold Ans.val at h
      rw [← impl_TurnRight.eq] at h
      exact answer_sound mixed Try.func201 _ _ _ (k + 1) (fun j _ => tab_sound (tab_cons (impl_within.sound j) (tab_cons (impl_isWord.sound j) (tab_nil)))) _ _ h
  · exact (Ans.no_val h).elim

def impl_ShaBlock.b {R : Type} (ret : Bool × List Int → Option R) (j0 : Bool → (List Int) → Bool → (List Int) → Bool → (List Int) → Int → Int → Option R) (j1 : Bool → (List Int) → Bool → (List Int) → Bool → (List Int) → Int → (List Int) → Option R) (j2 : Bool → (List Int) → Bool → (List Int) → Int → (List Int) → Option R) (j3 : Bool → (List Int) → Bool → (List Int) → Int → (List Int) → (List Int) → Option R) (j4 : Bool → (List Int) → (List Int) → Int → (List Int) → Option R) (k : Nat) (a0z : Bool) (a0 : List Int) (a1z : Bool) (a1 : List Int) : Option R :=
  cond (!(decide (((a0).length : Int) = 8))) (ret (true, ([] : List Int))) (cond (!(decide (((a1).length : Int) = 64))) (ret (true, ([] : List Int))) (j0 a0z a0 a1z a1 a0z a0 ((a0).length : Int) 0))
def impl_ShaBlock.l0b {R : Type} (ret : Bool × List Int → Option R) (j0 : Bool → (List Int) → Bool → (List Int) → Bool → (List Int) → Int → Int → Option R) (j1 : Bool → (List Int) → Bool → (List Int) → Bool → (List Int) → Int → (List Int) → Option R) (j2 : Bool → (List Int) → Bool → (List Int) → Int → (List Int) → Option R) (j3 : Bool → (List Int) → Bool → (List Int) → Int → (List Int) → (List Int) → Option R) (j4 : Bool → (List Int) → (List Int) → Int → (List Int) → Option R) (k : Nat) (x0z : Bool) (x0 : List Int) (x1z : Bool) (x1 : List Int) (x33z : Bool) (x33 : List Int) (x34 x35 : Int) : Option R :=
  cond (decide (x35 < x34)) (cond (decide ((0 : Int) ≤ x35)) (cond (decide (x35 < ((x33).length : Int))) ((impl_isWord.f k (rdI x33 x35)).bind fun t0 => cond (!t0) (ret (true, ([] : List Int))) (j0 x0z x0 x1z x1 x33z x33 x34 (RowKit.wrap64 (x35 + 1)))) (none)) (none)) ((impl_rounds.f k).bind fun t0 => j1 x0z x0 x1z x1 t0.1 t0.2 0 ([0, 0, 0, 0, 0, 0, 0, 0, 0, 0, 0, 0, 0, 0, 0, 0, 0, 0, 0, 0, 0, 0, 0, 0, 0, 0, 0, 0, 0, 0, 0, 0, 0, 0, 0, 0, 0, 0, 0, 0, 0, 0, 0, 0, 0, 0, 0, 0, 0, 0, 0, 0, 0, 0, 0, 0, 0, 0, 0, 0, 0, 0, 0, 0] : List Int))
def impl_ShaBlock.l1b {R : Type} (ret : Bool × List Int → Option R) (j0 : Bool → (List Int) → Bool → (List Int) → Bool → (List Int) → Int → Int → Option R) (j1 : Bool → (List Int) → Bool → (List Int) → Bool → (List Int) → Int → (List Int) → Option R) (j2 : Bool → (List Int) → Bool → (List Int) → Int → (List Int) → Option R) (j3 : Bool → (List Int) → Bool → (List Int) → Int → (List Int) → (List Int) → Option R) (j4 : Bool → (List Int) → (List Int) → Int → (List Int) → Option R) (k : Nat) (x0z : Bool) (x0 : List Int) (x1z : Bool) (x1 : List Int) (x8z : Bool) (x8 : List Int) (x46 : Int) (c7 : List Int) : Option R :=
  cond (decide (x46 < 16)) (cond (decide ((0 : Int) ≤ (RowKit.wrap64 ((4 : Int) * x46)))) (cond (decide ((RowKit.wrap64 ((4 : Int) * x46)) < ((x1).length : Int))) (cond (decide ((0 : Int) ≤ (RowKit.wrap64 ((RowKit.wrap64 ((4 : Int) * x46)) + 1)))) (cond (decide ((RowKit.wrap64 ((RowKit.wrap64 ((4 : Int) * x46)) + 1)) < ((x1).length : Int))) (cond (decide ((0 : Int) ≤ (RowKit.wrap64 ((RowKit.wrap64 ((4 : Int) * x46)) + 2)))) (cond (decide ((RowKit.wrap64 ((RowKit.wrap64 ((4 : Int) * x46)) + 2)) < ((x1).length : Int))) (cond (decide ((0 : Int) ≤ (RowKit.wrap64 ((RowKit.wrap64 ((4 : Int) * x46)) + 3)))) (cond (decide ((RowKit.wrap64 ((RowKit.wrap64 ((4 : Int) * x46)) + 3)) < ((x1).length : Int))) (cond (decide ((0 : Int) ≤ x46)) (cond (decide (x46 < 64)) (j1 x0z x0 x1z x1 x8z x8 (RowKit.wrap64 (x46 + 1)) ((c7).set (x46).toNat (Go.bits .or .i64 (Go.bits .or .i64 (Go.bits .or .i64 (shlI .i64 (RowKit.wrap64 ((rdI x1 (RowKit.wrap64 ((4 : Int) * x46))))) 24) (shlI .i64 (RowKit.wrap64 ((rdI x1 (RowKit.wrap64 ((RowKit.wrap64 ((4 : Int) * x46)) + 1))))) 16)) (shlI .i64 (RowKit.wrap64 ((rdI x1 (RowKit.wrap64 ((RowKit.wrap64 ((4 : Int) * x46)) + 2))))) 8)) (RowKit.wrap64 ((rdI x1 (RowKit.wrap64 ((RowKit.wrap64 ((4 : Int) * x46)) + 3)))))))) (none)) (none)) (none)) (none)) (none)) (none)) (none)) (none)) (none)) (none)) (j2 x0z x0 x8z x8 16 c7)
def impl_ShaBlock.l2b {R : Type} (ret : Bool × List Int → Option R) (j0 : Bool → (List Int) → Bool → (List Int) → Bool → (List Int) → Int → Int → Option R) (j1 : Bool → (List Int) → Bool → (List Int) → Bool → (List Int) → Int → (List Int) → Option R) (j2 : Bool → (List Int) → Bool → (List Int) → Int → (List Int) → Option R) (j3 : Bool → (List Int) → Bool → (List Int) → Int → (List Int) → (List Int) → Option R) (j4 : Bool → (List Int) → (List Int) → Int → (List Int) → Option R) (k : Nat) (x0z : Bool) (x0 : List Int) (x8z : Bool) (x8 : List Int) (x11 : Int) (c7 : List Int) : Option R :=
  cond (decide (x11 < 64)) (cond (decide ((0 : Int) ≤ (RowKit.wrap64 (x11 - 15)))) (cond (decide ((RowKit.wrap64 (x11 - 15)) < 64)) (cond (decide ((0 : Int) ≤ (RowKit.wrap64 (x11 - 2)))) (cond (decide ((RowKit.wrap64 (x11 - 2)) < 64)) ((impl_TurnRight.f k (rdI c7 (RowKit.wrap64 (x11 - 15))) 7).bind fun t0 => (impl_TurnRight.f k (rdI c7 (RowKit.wrap64 (x11 - 15))) 18).bind fun t1 => (impl_TurnRight.f k (rdI c7 (RowKit.wrap64 (x11 - 2))) 17).bind fun t2 => (impl_TurnRight.f k (rdI c7 (RowKit.wrap64 (x11 - 2))) 19).bind fun t3 => cond (decide ((0 : Int) ≤ (RowKit.wrap64 (x11 - 16)))) (cond (decide ((RowKit.wrap64 (x11 - 16)) < 64)) (cond (decide ((0 : Int) ≤ (RowKit.wrap64 (x11 - 7)))) (cond (decide ((RowKit.wrap64 (x11 - 7)) < 64)) (cond (decide ((0 : Int) ≤ x11)) (cond (decide (x11 < 64)) (j2 x0z x0 x8z x8 (RowKit.wrap64 (x11 + 1)) ((c7).set (x11).toNat (Go.bits .and .i64 (RowKit.wrap64 ((RowKit.wrap64 ((RowKit.wrap64 ((rdI c7 (RowKit.wrap64 (x11 - 16))) + (Go.bits .xor .i64 (Go.bits .xor .i64 t0 t1) (shrI .i64 (rdI c7 (RowKit.wrap64 (x11 - 15))) 3)))) + (rdI c7 (RowKit.wrap64 (x11 - 7))))) + (Go.bits .xor .i64 (Go.bits .xor .i64 t2 t3) (shrI .i64 (rdI c7 (RowKit.wrap64 (x11 - 2))) 10)))) 4294967295))) (none)) (none)) (none)) (none)) (none)) (none)) (none)) (none)) (none)) (none)) (j3 x0z x0 x8z x8 0 c7 ((x0).take 8 ++ (([0, 0, 0, 0, 0, 0, 0, 0] : List Int)).drop (x0).length))
def impl_ShaBlock.l3b {R : Type} (ret : Bool × List Int → Option R) (j0 : Bool → (List Int) → Bool → (List Int) → Bool → (List Int) → Int → Int → Option R) (j1 : Bool → (List Int) → Bool → (List Int) → Bool → (List Int) → Int → (List Int) → Option R) (j2 : Bool → (List Int) → Bool → (List Int) → Int → (List Int) → Option R) (j3 : Bool → (List Int) → Bool → (List Int) → Int → (List Int) → (List Int) → Option R) (j4 : Bool → (List Int) → (List Int) → Int → (List Int) → Option R) (k : Nat) (x0z : Bool) (x0 : List Int) (x8z : Bool) (x8 : List Int) (x132 : Int) (c7 c9 : List Int) : Option R :=
  cond (decide (x132 < 64)) ((impl_TurnRight.f k (rdI c9 4) 6).bind fun t0 => (impl_TurnRight.f k (rdI c9 4) 11).bind fun t1 => (impl_TurnRight.f k (rdI c9 4) 25).bind fun t2 => cond (decide ((0 : Int) ≤ x132)) (cond (decide (x132 < ((x8).length : Int))) (cond (decide ((0 : Int) ≤ x132)) (cond (decide (x132 < 64)) ((impl_TurnRight.f k (rdI c9 0) 2).bind fun t3 => (impl_TurnRight.f k (rdI c9 0) 13).bind fun t4 => (impl_TurnRight.f k (rdI c9 0) 22).bind fun t5 => j3 x0z x0 x8z x8 (RowKit.wrap64 (x132 + 1)) c7 ([(Go.bits .and .i64 (RowKit.wrap64 ((RowKit.wrap64 ((RowKit.wrap64 ((RowKit.wrap64 ((RowKit.wrap64 ((rdI c9 7) + (Go.bits .xor .i64 (Go.bits .xor .i64 t0 t1) t2))) + (Go.bits .or .i64 (Go.bits .and .i64 (rdI c9 4) (rdI c9 5)) (Go.bits .and .i64 (Go.bits .xor .i64 (rdI c9 4) 4294967295) (rdI c9 6))))) + (rdI x8 x132))) + (rdI c7 x132))) + (RowKit.wrap64 ((Go.bits .xor .i64 (Go.bits .xor .i64 t3 t4) t5) + (Go.bits .or .i64 (Go.bits .or .i64 (Go.bits .and .i64 (rdI c9 0) (rdI c9 1)) (Go.bits .and .i64 (rdI c9 0) (rdI c9 2))) (Go.bits .and .i64 (rdI c9 1) (rdI c9 2))))))) 4294967295), (rdI c9 0), (rdI c9 1), (rdI c9 2), (Go.bits .and .i64 (RowKit.wrap64 ((rdI c9 3) + (RowKit.wrap64 ((RowKit.wrap64 ((RowKit.wrap64 ((RowKit.wrap64 ((rdI c9 7) + (Go.bits .xor .i64 (Go.bits .xor .i64 t0 t1) t2))) + (Go.bits .or .i64 (Go.bits .and .i64 (rdI c9 4) (rdI c9 5)) (Go.bits .and .i64 (Go.bits .xor .i64 (rdI c9 4) 4294967295) (rdI c9 6))))) + (rdI x8 x132))) + (rdI c7 x132))))) 4294967295), (rdI c9 4), (rdI c9 5), (rdI c9 6)] : List Int)) (none)) (none)) (none)) (none)) (j4 x0z x0 ([] : List Int) 0 c9)
def impl_ShaBlock.l4b {R : Type} (ret : Bool × List Int → Option R) (j0 : Bool → (List Int) → Bool → (List Int) → Bool → (List Int) → Int → Int → Option R) (j1 : Bool → (List Int) → Bool → (List Int) → Bool → (List Int) → Int → (List Int) → Option R) (j2 : Bool → (List Int) → Bool → (List Int) → Int → (List Int) → Option R) (j3 : Bool → (List Int) → Bool → (List Int) → Int → (List Int) → (List Int) → Option R) (j4 : Bool → (List Int) → (List Int) → Int → (List Int) → Option R) (k : Nat) (x0z : Bool) (x0 x23 : List Int) (x218 : Int) (c9 : List Int) : Option R :=
  cond (decide (x218 < 8)) (cond (decide ((0 : Int) ≤ x218)) (cond (decide (x218 < ((x0).length : Int))) (cond (decide ((0 : Int) ≤ x218)) (cond (decide (x218 < 8)) (cond (decide ((x23).length + 1 < 17592186044416)) (j4 x0z x0 (x23 ++ ([(Go.bits .and .i64 (RowKit.wrap64 ((rdI x0 x218) + (rdI c9 x218))) 4294967295)] : List Int)) (RowKit.wrap64 (x218 + 1)) c9) (none)) (none)) (none)) (none)) (none)) (ret (false, x23))
mutual
def impl_ShaBlock.l0 : Nat → Bool → (List Int) → Bool → (List Int) → Bool → (List Int) → Int → Int → Option (Bool × List Int)
  | 0, _, _, _, _, _, _, _, _ => none
  | k + 1, x0z, x0, x1z, x1, x33z, x33, x34, x35 => impl_ShaBlock.l0b some (impl_ShaBlock.l0 k) (impl_ShaBlock.l1 k) (impl_ShaBlock.l2 k) (impl_ShaBlock.l3 k) (impl_ShaBlock.l4 k) k x0z x0 x1z x1 x33z x33 x34 x35
def impl_ShaBlock.l1 : Nat → Bool → (List Int) → Bool → (List Int) → Bool → (List Int) → Int → (List Int) → Option (Bool × List Int)
  | 0, _, _, _, _, _, _, _, _ => none
  | k + 1, x0z, x0, x1z, x1, x8z, x8, x46, c7 => impl_ShaBlock.l1b some (impl_ShaBlock.l0 k) (impl_ShaBlock.l1 k) (impl_ShaBlock.l2 k) (impl_ShaBlock.l3 k) (impl_ShaBlock.l4 k) k x0z x0 x1z x1 x8z x8 x46 c7
def impl_ShaBlock.l2 : Nat → Bool → (List Int) → Bool → (List Int) → Int → (List Int) → Option (Bool × List Int)
  | 0, _, _, _, _, _, _ => none
  | k + 1, x0z, x0, x8z, x8, x11, c7 => impl_ShaBlock.l2b some (impl_ShaBlock.l0 k) (impl_ShaBlock.l1 k) (impl_ShaBlock.l2 k) (impl_ShaBlock.l3 k) (impl_ShaBlock.l4 k) k x0z x0 x8z x8 x11 c7
def impl_ShaBlock.l3 : Nat → Bool → (List Int) → Bool → (List Int) → Int → (List Int) → (List Int) → Option (Bool × List Int)
  | 0, _, _, _, _, _, _, _ => none
  | k + 1, x0z, x0, x8z, x8, x132, c7, c9 => impl_ShaBlock.l3b some (impl_ShaBlock.l0 k) (impl_ShaBlock.l1 k) (impl_ShaBlock.l2 k) (impl_ShaBlock.l3 k) (impl_ShaBlock.l4 k) k x0z x0 x8z x8 x132 c7 c9
def impl_ShaBlock.l4 : Nat → Bool → (List Int) → (List Int) → Int → (List Int) → Option (Bool × List Int)
  | 0, _, _, _, _, _ => none
  | k + 1, x0z, x0, x23, x218, c9 => impl_ShaBlock.l4b some (impl_ShaBlock.l0 k) (impl_ShaBlock.l1 k) (impl_ShaBlock.l2 k) (impl_ShaBlock.l3 k) (impl_ShaBlock.l4 k) k x0z x0 x23 x218 c9
end
def impl_ShaBlock.f : Nat → Bool → (List Int) → Bool → (List Int) → Option (Bool × List Int)
  | 0, _, _, _, _ => none
  | k + 1, a0z, a0, a1z, a1 => impl_ShaBlock.b some (impl_ShaBlock.l0 k) (impl_ShaBlock.l1 k) (impl_ShaBlock.l2 k) (impl_ShaBlock.l3 k) (impl_ShaBlock.l4 k) k a0z a0 a1z a1
def impl_ShaBlock.enc (r : Bool × List Int) : Res := ⟨[.vals false [((.nums 3 .i64 r.1 r.2), true)]], []⟩
def impl_ShaBlock.ans (k : Nat) : List Arg → Ans
  | [.v (.nums 3 .i64 a0z a0), .v (.nums 5 .u8 a1z a1)] => ⟨impl_ShaBlock.f k a0z a0 a1z a1, impl_ShaBlock.enc⟩
  | _ => Ans.no
def impl_ShaBlock.Cs (k : Nat) : CallSem := tab [(199, impl_isWord.ans k), (200, impl_rounds.ans k), (201, impl_TurnRight.ans k)]
def impl_ShaBlock.cuts : List (Nat × Keep) := [(58, ⟨[(0, some []), (1, some []), (33, some []), (34, some []), (35, some [])], []⟩), (250, ⟨[(0, some []), (1, some []), (7, some []), (8, none), (9, some []), (46, some [])], []⟩), (506, ⟨[(0, some []), (7, some []), (8, none), (9, some []), (11, some [])], []⟩), (2042, ⟨[(0, some []), (7, some []), (8, none), (9, some []), (132, some [])], []⟩), (8186, ⟨[(0, some []), (9, some []), (23, none), (218, some [])], []⟩)]
noncomputable def impl_ShaBlock.K0 : List Fr := framesAt [true, true, false, true, false] (bodyOf Try.f165 impl_ShaBlock.cuts) []
def impl_ShaBlock.N0 (x0z : Bool) (x0 : List Int) (x1z : Bool) (x1 : List Int) (x33z : Bool) (x33 : List Int) (x34 x35 : Int) : St := stOf 235 235 2 [(0, .val ⟨(.nums 3 .i64 x0z x0), [], false, none⟩), (1, .val ⟨(.nums 5 .u8 x1z x1), [], false, none⟩), (33, .val ⟨(.nums 3 .i64 x33z x33), [], false, none⟩), (34, .val (V.s (.int .i64 x34))), (35, .val (V.s (.int .i64 x35)))] []
noncomputable def impl_ShaBlock.K1 : List Fr := framesAt [true, true, true, true, false, true, false] (bodyOf Try.f165 impl_ShaBlock.cuts) []
def impl_ShaBlock.N1 (x0z : Bool) (x0 : List Int) (x1z : Bool) (x1 : List Int) (x8z : Bool) (x8 : List Int) (x46 : Int) (c7 : List Int) : St := stOf 235 235 2 [(0, .val ⟨(.nums 3 .i64 x0z x0), [], false, none⟩), (1, .val ⟨(.nums 5 .u8 x1z x1), [], false, none⟩), (7, .bp 7 0), (8, .val ⟨(.nums 3 .i64 x8z x8), [.l 8 0], true, some (.l 8 0)⟩), (9, .bp 9 0), (46, .val (V.s (.int .i64 x46)))] [(7, .arr .i64 64 c7), (9, .arr .i64 8 ([0, 0, 0, 0, 0, 0, 0, 0] : List Int))]
noncomputable def impl_ShaBlock.K2 : List Fr := framesAt [true, true, true, true, true, false, true, false] (bodyOf Try.f165 impl_ShaBlock.cuts) []
def impl_ShaBlock.N2 (x0z : Bool) (x0 : List Int) (x8z : Bool) (x8 : List Int) (x11 : Int) (c7 : List Int) : St := stOf 235 235 2 [(0, .val ⟨(.nums 3 .i64 x0z x0), [], false, none⟩), (7, .bp 7 0), (8, .val ⟨(.nums 3 .i64 x8z x8), [.l 8 0], true, some (.l 8 0)⟩), (9, .bp 9 0), (11, .val (V.s (.int .i64 x11)))] [(7, .arr .i64 64 c7), (9, .arr .i64 8 ([0, 0, 0, 0, 0, 0, 0, 0] : List Int))]
noncomputable def impl_ShaBlock.K3 : List Fr := framesAt [true, true, true, true, true, true, true, false, true, false] (bodyOf Try.f165 impl_ShaBlock.cuts) []
def impl_ShaBlock.N3 (x0z : Bool) (x0 : List Int) (x8z : Bool) (x8 : List Int) (x132 : Int) (c7 c9 : List Int) : St := stOf 235 235 2 [(0, .val ⟨(.nums 3 .i64 x0z x0), [], false, none⟩), (7, .bp 7 0), (8, .val ⟨(.nums 3 .i64 x8z x8), [.l 8 0], true, some (.l 8 0)⟩), (9, .bp 9 0), (132, .val (V.s (.int .i64 x132)))] [(7, .arr .i64 64 c7), (9, .arr .i64 8 c9)]
noncomputable def impl_ShaBlock.K4 : List Fr := framesAt [true, true, true, true, true, true, true, true, true, false, true, false] (bodyOf Try.f165 impl_ShaBlock.cuts) []
def impl_ShaBlock.N4 (x0z : Bool) (x0 x23 : List Int) (x218 : Int) (c9 : List Int) : St := stOf 235 235 2 [(0, .val ⟨(.nums 3 .i64 x0z x0), [], false, none⟩), (9, .bp 9 0), (23, .val ⟨(.nums 3 .i64 false x23), [.l 23 0], true, some (.l 23 0)⟩), (218, .val (V.s (.int .i64 x218)))] [(9, .arr .i64 8 c9)]
theorem impl_ShaBlock.s0 (k : Nat) (G : List Fr → St → Option Res) (a0z : Bool) (a0 : List Int) (a1z : Bool) (a1 : List Int) (yx0z : Bool) (yx0 : List Int) (yx1z : Bool) (yx1 : List Int) (yx33z : Bool) (yx33 : List Int) (yx34 yx35 : Int) : resume Try.prog (impl_ShaBlock.Cs k) G (finish Try.prog [] Try.f165 [.v (.nums 3 .i64 a0z a0), .v (.nums 5 .u8 a1z a1)]) 100000 impl_ShaBlock.K0 (impl_ShaBlock.N0 yx0z yx0 yx1z yx1 yx33z yx33 yx34 yx35) = impl_ShaBlock.l0b (fun r => some (impl_ShaBlock.enc r)) (fun x0z x0 x1z x1 x33z x33 x34 x35 => G impl_ShaBlock.K0 (impl_ShaBlock.N0 x0z x0 x1z x1 x33z x33 x34 x35)) (fun x0z x0 x1z x1 x8z x8 x46 c7 => G impl_ShaBlock.K1 (impl_ShaBlock.N1 x0z x0 x1z x1 x8z x8 x46 c7)) (fun x0z x0 x8z x8 x11 c7 => G impl_ShaBlock.K2 (impl_ShaBlock.N2 x0z x0 x8z x8 x11 c7)) (fun x0z x0 x8z x8 x132 c7 c9 => G impl_ShaBlock.K3 (impl_ShaBlock.N3 x0z x0 x8z x8 x132 c7 c9)) (fun x0z x0 x23 x218 c9 => G impl_ShaBlock.K4 (impl_ShaBlock.N4 x0z x0 x23 x218 c9)) k yx0z yx0 yx1z yx1 yx33z yx33 yx34 yx35 := by kernel_rfl
theorem impl_ShaBlock.s1 (k : Nat) (G : List Fr → St → Option Res) (a0z : Bool) (a0 : List Int) (a1z : Bool) (a1 : List Int) (yx0z : Bool) (yx0 : List Int) (yx1z : Bool) (yx1 : List Int) (yx8z : Bool) (yx8 : List Int) (yx46 : Int) (yc7 : List Int) : resume Try.prog (impl_ShaBlock.Cs k) G (finish Try.prog [] Try.f165 [.v (.nums 3 .i64 a0z a0), .v (.nums 5 .u8 a1z a1)]) 100000 impl_ShaBlock.K1 (impl_ShaBlock.N1 yx0z yx0 yx1z yx1 yx8z yx8 yx46 yc7) = impl_ShaBlock.l1b (fun r => some (impl_ShaBlock.enc r)) (fun x0z x0 x1z x1 x33z x33 x34 x35 => G impl_ShaBlock.K0 (impl_ShaBlock.N0 x0z x0 x1z x1 x33z x33 x34 x35)) (fun x0z x0 x1z x1 x8z x8 x46 c7 => G impl_ShaBlock.K1 (impl_ShaBlock.N1 x0z x0 x1z x1 x8z x8 x46 c7)) (fun x0z x0 x8z x8 x11 c7 => G impl_ShaBlock.K2 (impl_ShaBlock.N2 x0z x0 x8z x8 x11 c7)) (fun x0z x0 x8z x8 x132 c7 c9 => G impl_ShaBlock.K3 (impl_ShaBlock.N3 x0z x0 x8z x8 x132 c7 c9)) (fun x0z x0 x23 x218 c9 => G impl_ShaBlock.K4 (impl_ShaBlock.N4 x0z x0 x23 x218 c9)) k yx0z yx0 yx1z yx1 yx8z yx8 yx46 yc7 := by kernel_rfl
theorem impl_ShaBlock.s2 (k : Nat) (G : List Fr → St → Option Res) (a0z : Bool) (a0 : List Int) (a1z : Bool) (a1 : List Int) (yx0z : Bool) (yx0 : List Int) (yx8z : Bool) (yx8 : List Int) (yx11 : Int) (yc7 : List Int) : resume Try.prog (impl_ShaBlock.Cs k) G (finish Try.prog [] Try.f165 [.v (.nums 3 .i64 a0z a0), .v (.nums 5 .u8 a1z a1)]) 100000 impl_ShaBlock.K2 (impl_ShaBlock.N2 yx0z yx0 yx8z yx8 yx11 yc7) = impl_ShaBlock.l2b (fun r => some (impl_ShaBlock.enc r)) (fun x0z x0 x1z x1 x33z x33 x34 x35 => G impl_ShaBlock.K0 (impl_ShaBlock.N0 x0z x0 x1z x1 x33z x33 x34 x35)) (fun x0z x0 x1z x1 x8z x8 x46 c7 => G impl_ShaBlock.K1 (impl_ShaBlock.N1 x0z x0 x1z x1 x8z x8 x46 c7)) (fun x0z x0 x8z x8 x11 c7 => G impl_ShaBlock.K2 (impl_ShaBlock.N2 x0z x0 x8z x8 x11 c7)) (fun x0z x0 x8z x8 x132 c7 c9 => G impl_ShaBlock.K3 (impl_ShaBlock.N3 x0z x0 x8z x8 x132 c7 c9)) (fun x0z x0 x23 x218 c9 => G impl_ShaBlock.K4 (impl_ShaBlock.N4 x0z x0 x23 x218 c9)) k yx0z yx0 yx8z yx8 yx11 yc7 := by kernel_rfl
theorem impl_ShaBlock.s3 (k : Nat) (G : List Fr → St → Option Res) (a0z : Bool) (a0 : List Int) (a1z : Bool) (a1 : List Int) (yx0z : Bool) (yx0 : List Int) (yx8z : Bool) (yx8 : List Int) (yx132 : Int) (yc7 yc9 : List Int) : resume Try.prog (impl_ShaBlock.Cs k) G (finish Try.prog [] Try.f165 [.v (.nums 3 .i64 a0z a0), .v (.nums 5 .u8 a1z a1)]) 100000 impl_ShaBlock.K3 (impl_ShaBlock.N3 yx0z yx0 yx8z yx8 yx132 yc7 yc9) = impl_ShaBlock.l3b (fun r => some (impl_ShaBlock.enc r)) (fun x0z x0 x1z x1 x33z x33 x34 x35 => G impl_ShaBlock.K0 (impl_ShaBlock.N0 x0z x0 x1z x1 x33z x33 x34 x35)) (fun x0z x0 x1z x1 x8z x8 x46 c7 => G impl_ShaBlock.K1 (impl_ShaBlock.N1 x0z x0 x1z x1 x8z x8 x46 c7)) (fun x0z x0 x8z x8 x11 c7 => G impl_ShaBlock.K2 (impl_ShaBlock.N2 x0z x0 x8z x8 x11 c7)) (fun x0z x0 x8z x8 x132 c7 c9 => G impl_ShaBlock.K3 (impl_ShaBlock.N3 x0z x0 x8z x8 x132 c7 c9)) (fun x0z x0 x23 x218 c9 => G impl_ShaBlock.K4 (impl_ShaBlock.N4 x0z x0 x23 x218 c9)) k yx0z yx0 yx8z yx8 yx132 yc7 yc9 := by kernel_rfl
theorem impl_ShaBlock.s4 (k : Nat) (G : List Fr → St → Option Res) (a0z : Bool) (a0 : List Int) (a1z : Bool) (a1 : List Int) (yx0z : Bool) (yx0 yx23 : List Int) (yx218 : Int) (yc9 : List Int) : resume Try.prog (impl_ShaBlock.Cs k) G (finish Try.prog [] Try.f165 [.v (.nums 3 .i64 a0z a0), .v (.nums 5 .u8 a1z a1)]) 100000 impl_ShaBlock.K4 (impl_ShaBlock.N4 yx0z yx0 yx23 yx218 yc9) = impl_ShaBlock.l4b (fun r => some (impl_ShaBlock.enc r)) (fun x0z x0 x1z x1 x33z x33 x34 x35 => G impl_ShaBlock.K0 (impl_ShaBlock.N0 x0z x0 x1z x1 x33z x33 x34 x35)) (fun x0z x0 x1z x1 x8z x8 x46 c7 => G impl_ShaBlock.K1 (impl_ShaBlock.N1 x0z x0 x1z x1 x8z x8 x46 c7)) (fun x0z x0 x8z x8 x11 c7 => G impl_ShaBlock.K2 (impl_ShaBlock.N2 x0z x0 x8z x8 x11 c7)) (fun x0z x0 x8z x8 x132 c7 c9 => G impl_ShaBlock.K3 (impl_ShaBlock.N3 x0z x0 x8z x8 x132 c7 c9)) (fun x0z x0 x23 x218 c9 => G impl_ShaBlock.K4 (impl_ShaBlock.N4 x0z x0 x23 x218 c9)) k yx0z yx0 yx23 yx218 yc9 := by kernel_rfl
theorem impl_ShaBlock.bn {R R' : Type} (e : R → R') (ret : Bool × List Int → Option R) (j0 : Bool → (List Int) → Bool → (List Int) → Bool → (List Int) → Int → Int → Option R) (j1 : Bool → (List Int) → Bool → (List Int) → Bool → (List Int) → Int → (List Int) → Option R) (j2 : Bool → (List Int) → Bool → (List Int) → Int → (List Int) → Option R) (j3 : Bool → (List Int) → Bool → (List Int) → Int → (List Int) → (List Int) → Option R) (j4 : Bool → (List Int) → (List Int) → Int → (List Int) → Option R) (k : Nat) (a0z : Bool) (a0 : List Int) (a1z : Bool) (a1 : List Int) : impl_ShaBlock.b (fun r => (ret r).map e) (fun x0z x0 x1z x1 x33z x33 x34 x35 => (j0 x0z x0 x1z x1 x33z x33 x34 x35).map e) (fun x0z x0 x1z x1 x8z x8 x46 c7 => (j1 x0z x0 x1z x1 x8z x8 x46 c7).map e) (fun x0z x0 x8z x8 x11 c7 => (j2 x0z x0 x8z x8 x11 c7).map e) (fun x0z x0 x8z x8 x132 c7 c9 => (j3 x0z x0 x8z x8 x132 c7 c9).map e) (fun x0z x0 x23 x218 c9 => (j4 x0z x0 x23 x218 c9).map e) k a0z a0 a1z a1 = (impl_ShaBlock.b ret j0 j1 j2 j3 j4 k a0z a0 a1z a1).map e := by
  unfold impl_ShaBlock.b
  repeat' first | with_reducible refine nat_cond ?_ ?_ | with_reducible refine nat_bind fun _ => ?_ | rfl
theorem impl_ShaBlock.l0n {R R' : Type} (e : R → R') (ret : Bool × List Int → Option R) (j0 : Bool → (List Int) → Bool → (List Int) → Bool → (List Int) → Int → Int → Option R) (j1 : Bool → (List Int) → Bool → (List Int) → Bool → (List Int) → Int → (List Int) → Option R) (j2 : Bool → (List Int) → Bool → (List Int) → Int → (List Int) → Option R) (j3 : Bool → (List Int) → Bool → (List Int) → Int → (List Int) → (List Int) → Option R) (j4 : Bool → (List Int) → (List Int) → Int → (List Int) → Option R) (k : Nat) (x0z : Bool) (x0 : List Int) (x1z : Bool) (x1 : List Int) (x33z : Bool) (x33 : List Int) (x34 x35 : Int) : impl_ShaBlock.l0b (fun r => (ret r).map e) (fun x0z x0 x1z x1 x33z x33 x34 x35 => (j0 x0z x0 x1z x1 x33z x33 x34 x35).map e) (fun x0z x0 x1z x1 x8z x8 x46 c7 => (j1 x0z x0 x1z x1 x8z x8 x46 c7).map e) (fun x0z x0 x8z x8 x11 c7 => (j2 x0z x0 x8z x8 x11 c7).map e) (fun x0z x0 x8z x8 x132 c7 c9 => (j3 x0z x0 x8z x8 x132 c7 c9).map e) (fun x0z x0 x23 x218 c9 => (j4 x0z x0 x23 x218 c9).map e) k x0z x0 x1z x1 x33z x33 x34 x35 = (impl_ShaBlock.l0b ret j0 j1 j2 j3 j4 k x0z x0 x1z x1 x33z x33 x34 x35).map e := by
  unfold impl_ShaBlock.l0b
  repeat' first | with_reducible refine nat_cond ?_ ?_ | with_reducible refine nat_bind fun _ => ?_ | rfl
theorem impl_ShaBlock.l1n {R R' : Type} (e : R → R') (ret : Bool × List Int → Option R) (j0 : Bool → (List Int) → Bool → (List Int) → Bool → (List Int) → Int → Int → Option R) (j1 : Bool → (List Int) → Bool → (List Int) → Bool → (List Int) → Int → (List Int) → Option R) (j2 : Bool → (List Int) → Bool → (List Int) → Int → (List Int) → Option R) (j3 : Bool → (List Int) → Bool → (List Int) → Int → (List Int) → (List Int) → Option R) (j4 : Bool → (List Int) → (List Int) → Int → (List Int) → Option R) (k : Nat) (x0z : Bool) (x0 : List Int) (x1z : Bool) (x1 : List Int) (x8z : Bool) (x8 : List Int) (x46 : Int) (c7 : List Int) : impl_ShaBlock.l1b (fun r => (ret r).map e) (fun x0z x0 x1z x1 x33z x33 x34 x35 => (j0 x0z x0 x1z x1 x33z x33 x34 x35).map e) (fun x0z x0 x1z x1 x8z x8 x46 c7 => (j1 x0z x0 x1z x1 x8z x8 x46 c7).map e) (fun x0z x0 x8z x8 x11 c7 => (j2 x0z x0 x8z x8 x11 c7).map e) (fun x0z x0 x8z x8 x132 c7 c9 => (j3 x0z x0 x8z x8 x132 c7 c9).map e) (fun x0z x0 x23 x218 c9 => (j4 x0z x0 x23 x218 c9).map e) k x0z x0 x1z x1 x8z x8 x46 c7 = (impl_ShaBlock.l1b ret j0 j1 j2 j3 j4 k x0z x0 x1z x1 x8z x8 x46 c7).map e := by
  unfold impl_ShaBlock.l1b
  repeat' first | with_reducible refine nat_cond ?_ ?_ | with_reducible refine nat_bind fun _ => ?_ | rfl
theorem impl_ShaBlock.l2b_nat {R R' : Type} (e : R → R') (ret : Bool × List Int → Option R) (j0 : Bool → (List Int) → Bool → (List Int) → Bool → (List Int) → Int → Int → Option R) (j1 : Bool → (List Int) → Bool → (List Int) → Bool → (List Int) → Int → (List Int) → Option R) (j2 : Bool → (List Int) → Bool → (List Int) → Int → (List Int) → Option R) (j3 : Bool → (List Int) → Bool → (List Int) → Int → (List Int) → (List Int) → Option R) (j4 : Bool → (List Int) → (List Int) → Int → (List Int) → Option R) (k : Nat) (x0z : Bool) (x0 : List Int) (x8z : Bool) (x8 : List Int) (x11 : Int) (c7 : List Int) : impl_ShaBlock.l2b (fun r => (ret r).map e) (fun x0z x0 x1z x1 x33z x33 x34 x35 => (j0 x0z x0 x1z x1 x33z x33 x34 x35).map e) (fun x0z x0 x1z x1 x8z x8 x46 c7 => (j1 x0z x0 x1z x1 x8z x8 x46 c7).map e) (fun x0z x0 x8z x8 x11 c7 => (j2 x0z x0 x8z x8 x11 c7).map e) (fun x0z x0 x8z x8 x132 c7 c9 => (j3 x0z x0 x8z x8 x132 c7 c9).map e) (fun x0z x0 x23 x218 c9 => (j4 x0z x0 x23 x218 c9).map e) k x0z x0 x8z x8 x11 c7 = (impl_ShaBlock.l2b ret j0 j1 j2 j3 j4 k x0z x0 x8z x8 x11 c7).map e := by
  unfold impl_ShaBlock.l2b
  repeat' first | with_reducible refine nat_cond ?_ ?_ | with_reducible refine nat_bind fun _ => ?_ | rfl
theorem impl_ShaBlock.l3b_nat {R R' : Type} (e : R → R') (ret : Bool × List Int → Option R) (j0 : Bool → (List Int) → Bool → (List Int) → Bool → (List Int) → Int → Int → Option R) (j1 : Bool → (List Int) → Bool → (List Int) → Bool → (List Int) → Int → (List Int) → Option R) (j2 : Bool → (List Int) → Bool → (List Int) → Int → (List Int) → Option R) (j3 : Bool → (List Int) → Bool → (List Int) → Int → (List Int) → (List Int) → Option R) (j4 : Bool → (List Int) → (List Int) → Int → (List Int) → Option R) (k : Nat) (x0z : Bool) (x0 : List Int) (x8z : Bool) (x8 : List Int) (x132 : Int) (c7 c9 : List Int) : impl_ShaBlock.l3b (fun r => (ret r).map e) (fun x0z x0 x1z x1 x33z x33 x34 x35 => (j0 x0z x0 x1z x1 x33z x33 x34 x35).map e) (fun x0z x0 x1z x1 x8z x8 x46 c7 => (j1 x0z x0 x1z x1 x8z x8 x46 c7).map e) (fun x0z x0 x8z x8 x11 c7 => (j2 x0z x0 x8z x8 x11 c7).map e) (fun x0z x0 x8z x8 x132 c7 c9 => (j3 x0z x0 x8z x8 x132 c7 c9).map e) (fun x0z x0 x23 x218 c9 => (j4 x0z x0 x23 x218 c9).map e) k x0z x0 x8z x8 x132 c7 c9 = (impl_ShaBlock.l3b ret j0 j1 j2 j3 j4 k x0z x0 x8z x8 x132 c7 c9).map e := by
  unfold impl_ShaBlock.l3b
  repeat' first | with_reducible refine nat_cond ?_ ?_ | with_reducible refine nat_bind fun _ => ?_ | rfl
theorem impl_ShaBlock.l4b_nat {R R' : Type} (e : R → R') (ret : Bool × List Int → Option R) (j0 : Bool → (List Int) → Bool → (List Int) → Bool → (List Int) → Int → Int → Option R) (j1 : Bool → (List Int) → Bool → (List Int) → Bool → (List Int) → Int → (List Int) → Option R) (j2 : Bool → (List Int) → Bool → (List Int) → Int → (List Int) → Option R) (j3 : Bool → (List Int) → Bool → (List Int) → Int → (List Int) → (List Int) → Option R) (j4 : Bool → (List Int) → (List Int) → Int → (List Int) → Option R) (k : Nat) (x0z : Bool) (x0 x23 : List Int) (x218 : Int) (c9 : List Int) : impl_ShaBlock.l4b (fun r => (ret r).map e) (fun x0z x0 x1z x1 x33z x33 x34 x35 => (j0 x0z x0 x1z x1 x33z x33 x34 x35).map e) (fun x0z x0 x1z x1 x8z x8 x46 c7 => (j1 x0z x0 x1z x1 x8z x8 x46 c7).map e) (fun x0z x0 x8z x8 x11 c7 => (j2 x0z x0 x8z x8 x11 c7).map e) (fun x0z x0 x8z x8 x132 c7 c9 => (j3 x0z x0 x8z x8 x132 c7 c9).map e) (fun x0z x0 x23 x218 c9 => (j4 x0z x0 x23 x218 c9).map e) k x0z x0 x23 x218 c9 = (impl_ShaBlock.l4b ret j0 j1 j2 j3 j4 k x0z x0 x23 x218 c9).map e := by
  unfold impl_ShaBlock.l4b
  repeat' first | with_reducible refine nat_cond ?_ ?_ | with_reducible refine nat_bind fun _ => ?_ | rfl
theorem impl_ShaBlock.rq (a0z : Bool) (a0 : List Int) (a1z : Bool) (a1 : List Int) : ∀ k, (∀ (x0z : Bool) (x0 : List Int) (x1z : Bool) (x1 : List Int) (x33z : Bool) (x33 : List Int) (x34 x35 : Int), rounds Try.prog impl_ShaBlock.Cs (finish Try.prog [] Try.f165 [.v (.nums 3 .i64 a0z a0), .v (.nums 5 .u8 a1z a1)]) 100000 k impl_ShaBlock.K0 (impl_ShaBlock.N0 x0z x0 x1z x1 x33z x33 x34 x35) = (impl_ShaBlock.l0 k x0z x0 x1z x1 x33z x33 x34 x35).map impl_ShaBlock.enc) ∧ (∀ (x0z : Bool) (x0 : List Int) (x1z : Bool) (x1 : List Int) (x8z : Bool) (x8 : List Int) (x46 : Int) (c7 : List Int), rounds Try.prog impl_ShaBlock.Cs (finish Try.prog [] Try.f165 [.v (.nums 3 .i64 a0z a0), .v (.nums 5 .u8 a1z a1)]) 100000 k impl_ShaBlock.K1 (impl_ShaBlock.N1 x0z x0 x1z x1 x8z x8 x46 c7) = (impl_ShaBlock.l1 k x0z x0 x1z x1 x8z x8 x46 c7).map impl_ShaBlock.enc) ∧ (∀ (x0z : Bool) (x0 : List Int) (x8z : Bool) (x8 : List Int) (x11 : Int) (c7 : List Int), rounds Try.prog impl_ShaBlock.Cs (finish Try.prog [] Try.f165 [.v (.nums 3 .i64 a0z a0), .v (.nums 5 .u8 a1z a1)]) 100000 k impl_ShaBlock.K2 (impl_ShaBlock.N2 x0z x0 x8z x8 x11 c7) = (impl_ShaBlock.l2 k x0z x0 x8z x8 x11 c7).map impl_ShaBlock.enc) ∧ (∀ (x0z : Bool) (x0 : List Int) (x8z : Bool) (x8 : List Int) (x132 : Int) (c7 c9 : List Int), rounds Try.prog impl_ShaBlock.Cs (finish Try.prog [] Try.f165 [.v (.nums 3 .i64 a0z a0), .v (.nums 5 .u8 a1z a1)]) 100000 k impl_ShaBlock.K3 (impl_ShaBlock.N3 x0z x0 x8z x8 x132 c7 c9) = (impl_ShaBlock.l3 k x0z x0 x8z x8 x132 c7 c9).map impl_ShaBlock.enc) ∧ (∀ (x0z : Bool) (x0 x23 : List Int) (x218 : Int) (c9 : List Int), rounds Try.prog impl_ShaBlock.Cs (finish Try.prog [] Try.f165 [.v (.nums 3 .i64 a0z a0), .v (.nums 5 .u8 a1z a1)]) 100000 k impl_ShaBlock.K4 (impl_ShaBlock.N4 x0z x0 x23 x218 c9) = (impl_ShaBlock.l4 k x0z x0 x23 x218 c9).map impl_ShaBlock.enc)
  | 0 => ⟨fun _ _ _ _ _ _ _ _ => rfl, fun _ _ _ _ _ _ _ _ => rfl, fun _ _ _ _ _ _ => rfl, fun _ _ _ _ _ _ _ => rfl, fun _ _ _ _ _ => rfl⟩
  | k + 1 => by
    have ih := impl_ShaBlock.rq a0z a0 a1z a1 k
    refine ⟨fun _ _ _ _ _ _ _ _ => ?_, fun _ _ _ _ _ _ _ _ => ?_, fun _ _ _ _ _ _ => ?_, fun _ _ _ _ _ _ _ => ?_, fun _ _ _ _ _ => ?_⟩
    · refine (impl_ShaBlock.s0 k _ a0z a0 a1z a1 _ _ _ _ _ _ _ _).trans (Eq.trans ?_ (impl_ShaBlock.l0n impl_ShaBlock.enc some (impl_ShaBlock.l0 k) (impl_ShaBlock.l1 k) (impl_ShaBlock.l2 k) (impl_ShaBlock.l3 k) (impl_ShaBlock.l4 k) k _ _ _ _ _ _ _ _))
      simp only [ih.1, ih.2.1, ih.2.2.1, ih.2.2.2.1, ih.2.2.2.2, Option.map_some]
    · refine (impl_ShaBlock.s1 k _ a0z a0 a1z a1 _ _ _ _ _ _ _ _).trans (Eq.trans ?_ (impl_ShaBlock.l1n impl_ShaBlock.enc some (impl_ShaBlock.l0 k) (impl_ShaBlock.l1 k) (impl_ShaBlock.l2 k) (impl_ShaBlock.l3 k) (impl_ShaBlock.l4 k) k _ _ _ _ _ _ _ _))
      simp only [ih.1, ih.2.1, ih.2.2.1, ih.2.2.2.1, ih.2.2.2.2, Option.map_some]
    · refine (impl_ShaBlock.s2 k _ a0z a0 a1z a1 _ _ _ _ _ _).trans (Eq.trans ?_ (impl_ShaBlock.l2b_nat impl_ShaBlock.enc some (impl_ShaBlock.l0 k) (impl_ShaBlock.l1 k) (impl_ShaBlock.l2 k) (impl_ShaBlock.l3 k) (impl_ShaBlock.l4 k) k _ _ _ _ _ _))
      simp only [ih.1, ih.2.1, ih.2.2.1, ih.2.2.2.1, ih.2.2.2.2, Option.map_some]
    · refine (impl_ShaBlock.s3 k _ a0z a0 a1z a1 _ _ _ _ _ _ _).trans (Eq.trans ?_ (impl_ShaBlock.l3b_nat impl_ShaBlock.enc some (impl_ShaBlock.l0 k) (impl_ShaBlock.l1 k) (impl_ShaBlock.l2 k) (impl_ShaBlock.l3 k) (impl_ShaBlock.l4 k) k _ _ _ _ _ _ _))
      simp only [ih.1, ih.2.1, ih.2.2.1, ih.2.2.2.1, ih.2.2.2.2, Option.map_some]
    · refine (impl_ShaBlock.s4 k _ a0z a0 a1z a1 _ _ _ _ _).trans (Eq.trans ?_ (impl_ShaBlock.l4b_nat impl_ShaBlock.enc some (impl_ShaBlock.l0 k) (impl_ShaBlock.l1 k) (impl_ShaBlock.l2 k) (impl_ShaBlock.l3 k) (impl_ShaBlock.l4 k) k _ _ _ _ _))
      simp only [ih.1, ih.2.1, ih.2.2.1, ih.2.2.2.1, ih.2.2.2.2, Option.map_some]
theorem impl_ShaBlock.eq (k : Nat) (a0z : Bool) (a0 : List Int) (a1z : Bool) (a1 : List Int) : answer Try.prog impl_ShaBlock.Cs 100000 impl_ShaBlock.cuts [] Try.f165 (k + 1) [.v (.nums 3 .i64 a0z a0), .v (.nums 5 .u8 a1z a1)] = (impl_ShaBlock.f (k + 1) a0z a0 a1z a1).map impl_ShaBlock.enc := by
  have ih := impl_ShaBlock.rq a0z a0 a1z a1 k
  refine Eq.trans (b := impl_ShaBlock.b (fun r => some (impl_ShaBlock.enc r)) (fun x0z x0 x1z x1 x33z x33 x34 x35 => rounds Try.prog impl_ShaBlock.Cs (finish Try.prog [] Try.f165 [.v (.nums 3 .i64 a0z a0), .v (.nums 5 .u8 a1z a1)]) 100000 k impl_ShaBlock.K0 (impl_ShaBlock.N0 x0z x0 x1z x1 x33z x33 x34 x35)) (fun x0z x0 x1z x1 x8z x8 x46 c7 => rounds Try.prog impl_ShaBlock.Cs (finish Try.prog [] Try.f165 [.v (.nums 3 .i64 a0z a0), .v (.nums 5 .u8 a1z a1)]) 100000 k impl_ShaBlock.K1 (impl_ShaBlock.N1 x0z x0 x1z x1 x8z x8 x46 c7)) (fun x0z x0 x8z x8 x11 c7 => rounds Try.prog impl_ShaBlock.Cs (finish Try.prog [] Try.f165 [.v (.nums 3 .i64 a0z a0), .v (.nums 5 .u8 a1z a1)]) 100000 k impl_ShaBlock.K2 (impl_ShaBlock.N2 x0z x0 x8z x8 x11 c7)) (fun x0z x0 x8z x8 x132 c7 c9 => rounds Try.prog impl_ShaBlock.Cs (finish Try.prog [] Try.f165 [.v (.nums 3 .i64 a0z a0), .v (.nums 5 .u8 a1z a1)]) 100000 k impl_ShaBlock.K3 (impl_ShaBlock.N3 x0z x0 x8z x8 x132 c7 c9)) (fun x0z x0 x23 x218 c9 => rounds Try.prog impl_ShaBlock.Cs (finish Try.prog [] Try.f165 [.v (.nums 3 .i64 a0z a0), .v (.nums 5 .u8 a1z a1)]) 100000 k impl_ShaBlock.K4 (impl_ShaBlock.N4 x0z x0 x23 x218 c9)) k a0z a0 a1z a1) (by kernel_rfl) (Eq.trans ?_ (impl_ShaBlock.bn impl_ShaBlock.enc some (impl_ShaBlock.l0 k) (impl_ShaBlock.l1 k) (impl_ShaBlock.l2 k) (impl_ShaBlock.l3 k) (impl_ShaBlock.l4 k) k a0z a0 a1z a1))
  simp only [ih.1, ih.2.1, ih.2.2.1, ih.2.2.2.1, ih.2.2.2.2, Option.map_some]
theorem impl_ShaBlock.sound (k : Nat) : SoundF Try.prog 165 (fun a => (impl_ShaBlock.ans k a).val) := by
  refine sound_plain (fun args res h => ?_) (fun t n => rfl)
  unfold impl_ShaBlock.ans at h
  dsimp only at h
  split at h
  · cases k with
    | zero => cases h
    | succ k =>
      unfold Ans.val at h
      rw [← impl_ShaBlock.eq] at h
      exact answer_sound mixed Try.func165 _ _ _ (k + 1) (fun j _ => tab_sound (tab_cons (impl_isWord.sound j) (tab_cons (impl_rounds.sound j) (tab_cons (impl_TurnRight.sound j) (tab_nil))))) _ _ h
  · exact (Ans.no_val h).elim

def impl_Sha.b {R : Type} (ret : Bool × List Int → Option R) (j0 : Bool → (List Int) → Bool → (List Int) → Int → Option R) (j1 : (List Int) → Bool → (List Int) → Int → Int → Option R) (k : Nat) (a0z : Bool) (a0 : List Int) : Option R :=
  (impl_ShaInit.f k).bind fun t0 => (impl_ShaPad.f k a0z a0).bind fun t1 => j0 t0.1 t0.2 t1.1 t1.2 0
def impl_Sha.l0b {R : Type} (ret : Bool × List Int → Option R) (j0 : Bool → (List Int) → Bool → (List Int) → Int → Option R) (j1 : (List Int) → Bool → (List Int) → Int → Int → Option R) (k : Nat) (x3z : Bool) (x3 : List Int) (x4z : Bool) (x4 : List Int) (x5 : Int) : Option R :=
  cond (decide (x5 < ((x4).length : Int))) (cond (decide ((0 : Int) ≤ (RowKit.wrap64 (x5 + 64)))) (cond (decide ((RowKit.wrap64 (x5 + 64)) ≤ ((x4).length : Int))) (cond (decide ((0 : Int) ≤ x5)) (cond (decide (x5 ≤ (RowKit.wrap64 (x5 + 64)))) ((impl_ShaBlock.f k x3z x3 x4z (((x4).take ((RowKit.wrap64 (x5 + 64))).toNat).drop (x5).toNat)).bind fun t0 => j0 t0.1 t0.2 x4z x4 (RowKit.wrap64 (x5 + 64))) (none)) (none)) (none)) (none)) (j1 ([] : List Int) x3z x3 ((x3).length : Int) 0)
def impl_Sha.l1b {R : Type} (ret : Bool × List Int → Option R) (j0 : Bool → (List Int) → Bool → (List Int) → Int → Option R) (j1 : (List Int) → Bool → (List Int) → Int → Int → Option R) (k : Nat) (x6 : List Int) (x26z : Bool) (x26 : List Int) (x27 x28 : Int) : Option R :=
  cond (decide (x28 < x27)) (cond (decide ((0 : Int) ≤ x28)) (cond (decide (x28 < ((x26).length : Int))) (cond (decide ((x6).length + 4 < 140737488355328)) (j1 (x6 ++ ([(((shrI .i64 (rdI x26 x28) 24)) % 256), (((shrI .i64 (rdI x26 x28) 16)) % 256), (((shrI .i64 (rdI x26 x28) 8)) % 256), (((rdI x26 x28)) % 256)] : List Int)) x26z x26 x27 (RowKit.wrap64 (x28 + 1))) (none)) (none)) (none)) (ret (false, x6))
mutual
def impl_Sha.l0 : Nat → Bool → (List Int) → Bool → (List Int) → Int → Option (Bool × List Int)
  | 0, _, _, _, _, _ => none
  | k + 1, x3z, x3, x4z, x4, x5 => impl_Sha.l0b some (impl_Sha.l0 k) (impl_Sha.l1 k) k x3z x3 x4z x4 x5
def impl_Sha.l1 : Nat → (List Int) → Bool → (List Int) → Int → Int → Option (Bool × List Int)
  | 0, _, _, _, _, _ => none
  | k + 1, x6, x26z, x26, x27, x28 => impl_Sha.l1b some (impl_Sha.l0 k) (impl_Sha.l1 k) k x6 x26z x26 x27 x28
end
def impl_Sha.f : Nat → Bool → (List Int) → Option (Bool × List Int)
  | 0, _, _ => none
  | k + 1, a0z, a0 => impl_Sha.b some (impl_Sha.l0 k) (impl_Sha.l1 k) k a0z a0
def impl_Sha.enc (r : Bool × List Int) : Res := ⟨[.vals false [((.nums 5 .u8 r.1 r.2), true)]], []⟩
def impl_Sha.ans (k : Nat) : List Arg → Ans
  | [.v (.nums 5 .u8 a0z a0)] => ⟨impl_Sha.f k a0z a0, impl_Sha.enc⟩
  | _ => Ans.no
def impl_Sha.Cs (k : Nat) : CallSem := tab [(163, impl_ShaInit.ans k), (164, impl_ShaPad.ans k), (165, impl_ShaBlock.ans k)]
def impl_Sha.cuts : List (Nat × Keep) := [(58, ⟨[(3, none), (4, none), (5, some [])], []⟩), (250, ⟨[(6, none), (26, none), (27, some []), (28, some [])], []⟩)]
noncomputable def impl_Sha.K0 : List Fr := framesAt [true, true, false, true, false] (bodyOf Try.f104 impl_Sha.cuts) []
def impl_Sha.N0 (x3z : Bool) (x3 : List Int) (x4z : Bool) (x4 : List Int) (x5 : Int) : St := stOf 48 48 1 [(3, .val ⟨(.nums 3 .i64 x3z x3), [.l 3 0], true, some (.l 3 0)⟩), (4, .val ⟨(.nums 5 .u8 x4z x4), [.l 4 0], true, some (.l 4 0)⟩), (5, .val (V.s (.int .i64 x5)))] []
noncomputable def impl_Sha.K1 : List Fr := framesAt [true, true, true, true, false, true, false] (bodyOf Try.f104 impl_Sha.cuts) []
def impl_Sha.N1 (x6 : List Int) (x26z : Bool) (x26 : List Int) (x27 x28 : Int) : St := stOf 48 48 1 [(6, .val ⟨(.nums 5 .u8 false x6), [.l 6 0], true, some (.l 6 0)⟩), (26, .val ⟨(.nums 3 .i64 x26z x26), [.l 26 0], true, some (.l 26 0)⟩), (27, .val (V.s (.int .i64 x27))), (28, .val (V.s (.int .i64 x28)))] []
theorem impl_Sha.s0 (k : Nat) (G : List Fr → St → Option Res) (a0z : Bool) (a0 : List Int) (yx3z : Bool) (yx3 : List Int) (yx4z : Bool) (yx4 : List Int) (yx5 : Int) : resume Try.prog (impl_Sha.Cs k) G (finish Try.prog [] Try.f104 [.v (.nums 5 .u8 a0z a0)]) 100000 impl_Sha.K0 (impl_Sha.N0 yx3z yx3 yx4z yx4 yx5) = impl_Sha.l0b (fun r => some (impl_Sha.enc r)) (fun x3z x3 x4z x4 x5 => G impl_Sha.K0 (impl_Sha.N0 x3z x3 x4z x4 x5)) (fun x6 x26z x26 x27 x28 => G impl_Sha.K1 (impl_Sha.N1 x6 x26z x26 x27 x28)) k yx3z yx3 yx4z yx4 yx5 := by kernel_rfl
theorem impl_Sha.s1 (k : Nat) (G : List Fr → St → Option Res) (a0z : Bool) (a0 yx6 : List Int) (yx26z : Bool) (yx26 : List Int) (yx27 yx28 : Int) : resume Try.prog (impl_Sha.Cs k) G (finish Try.prog [] Try.f104 [.v (.nums 5 .u8 a0z a0)]) 100000 impl_Sha.K1 (impl_Sha.N1 yx6 yx26z yx26 yx27 yx28) = impl_Sha.l1b (fun r => some (impl_Sha.enc r)) (fun x3z x3 x4z x4 x5 => G impl_Sha.K0 (impl_Sha.N0 x3z x3 x4z x4 x5)) (fun x6 x26z x26 x27 x28 => G impl_Sha.K1 (impl_Sha.N1 x6 x26z x26 x27 x28)) k yx6 yx26z yx26 yx27 yx28 := by kernel_rfl
theorem impl_Sha.bn {R R' : Type} (e : R → R') (ret : Bool × List Int → Option R) (j0 : Bool → (List Int) → Bool → (List Int) → Int → Option R) (j1 : (List Int) → Bool → (List Int) → Int → Int → Option R) (k : Nat) (a0z : Bool) (a0 : List Int) : impl_Sha.b (fun r => (ret r).map e) (fun x3z x3 x4z x4 x5 => (j0 x3z x3 x4z x4 x5).map e) (fun x6 x26z x26 x27 x28 => (j1 x6 x26z x26 x27 x28).map e) k a0z a0 = (impl_Sha.b ret j0 j1 k a0z a0).map e := by
  unfold impl_Sha.b
  repeat' first | with_reducible refine nat_cond ?_ ?_ | with_reducible refine nat_bind fun _ => ?_ | rfl
theorem impl_Sha.l0n {R R' : Type} (e : R → R') (ret : Bool × List Int → Option R) (j0 : Bool → (List Int) → Bool → (List Int) → Int → Option R) (j1 : (List Int) → Bool → (List Int) → Int → Int → Option R) (k : Nat) (x3z : Bool) (x3 : List Int) (x4z : Bool) (x4 : List Int) (x5 : Int) : impl_Sha.l0b (fun r => (ret r).map e) (fun x3z x3 x4z x4 x5 => (j0 x3z x3 x4z x4 x5).map e) (fun x6 x26z x26 x27 x28 => (j1 x6 x26z x26 x27 x28).map e) k x3z x3 x4z x4 x5 = (impl_Sha.l0b ret j0 j1 k x3z x3 x4z x4 x5).map e := by
  unfold impl_Sha.l0b
  repeat' first | with_reducible refine nat_cond ?_ ?_ | with_reducible refine nat_bind fun _ => ?_ | rfl
theorem impl_Sha.l1n {R R' : Type} (e : R → R') (ret : Bool × List Int → Option R) (j0 : Bool → (List Int) → Bool → (List Int) → Int → Option R) (j1 : (List Int) → Bool → (List Int) → Int → Int → Option R) (k : Nat) (x6 : List Int) (x26z : Bool) (x26 : List Int) (x27 x28 : Int) : impl_Sha.l1b (fun r => (ret r).map e) (fun x3z x3 x4z x4 x5 => (j0 x3z x3 x4z x4 x5).map e) (fun x6 x26z x26 x27 x28 => (j1 x6 x26z x26 x27 x28).map e) k x6 x26z x26 x27 x28 = (impl_Sha.l1b ret j0 j1 k x6 x26z x26 x27 x28).map e := by
  unfold impl_Sha.l1b
  repeat' first | with_reducible refine nat_cond ?_ ?_ | with_reducible refine nat_bind fun _ => ?_ | rfl
theorem impl_Sha.rq (a0z : Bool) (a0 : List Int) : ∀ k, (∀ (x3z : Bool) (x3 : List Int) (x4z : Bool) (x4 : List Int) (x5 : Int), rounds Try.prog impl_Sha.Cs (finish Try.prog [] Try.f104 [.v (.nums 5 .u8 a0z a0)]) 100000 k impl_Sha.K0 (impl_Sha.N0 x3z x3 x4z x4 x5) = (impl_Sha.l0 k x3z x3 x4z x4 x5).map impl_Sha.enc) ∧ (∀ (x6 : List Int) (x26z : Bool) (x26 : List Int) (x27 x28 : Int), rounds Try.prog impl_Sha.Cs (finish Try.prog [] Try.f104 [.v (.nums 5 .u8 a0z a0)]) 100000 k impl_Sha.K1 (impl_Sha.N1 x6 x26z x26 x27 x28) = (impl_Sha.l1 k x6 x26z x26 x27 x28).map impl_Sha.enc)
  | 0 => ⟨fun _ _ _ _ _ => rfl, fun _ _ _ _ _ => rfl⟩
  | k + 1 => by
    have ih := impl_Sha.rq a0z a0 k
    refine ⟨fun _ _ _ _ _ => ?_, fun _ _ _ _ _ => ?_⟩
    · refine (impl_Sha.s0 k _ a0z a0 _ _ _ _ _).trans (Eq.trans ?_ (impl_Sha.l0n impl_Sha.enc some (impl_Sha.l0 k) (impl_Sha.l1 k) k _ _ _ _ _))
      simp only [ih.1, ih.2, Option.map_some]
    · refine (impl_Sha.s1 k _ a0z a0 _ _ _ _ _).trans (Eq.trans ?_ (impl_Sha.l1n impl_Sha.enc some (impl_Sha.l0 k) (impl_Sha.l1 k) k _ _ _ _ _))
      simp only [ih.1, ih.2, Option.map_some]
theorem impl_Sha.eq (k : Nat) (a0z : Bool) (a0 : List Int) : answer Try.prog impl_Sha.Cs 100000 impl_Sha.cuts [] Try.f104 (k + 1) [.v (.nums 5 .u8 a0z a0)] = (impl_Sha.f (k + 1) a0z a0).map impl_Sha.enc := by
  have ih := impl_Sha.rq a0z a0 k
  refine Eq.trans (b := impl_Sha.b (fun r => some (impl_Sha.enc r)) (fun x3z x3 x4z x4 x5 => rounds Try.prog impl_Sha.Cs (finish Try.prog [] Try.f104 [.v (.nums 5 .u8 a0z a0)]) 100000 k impl_Sha.K0 (impl_Sha.N0 x3z x3 x4z x4 x5)) (fun x6 x26z x26 x27 x28 => rounds Try.prog impl_Sha.Cs (finish Try.prog [] Try.f104 [.v (.nums 5 .u8 a0z a0)]) 100000 k impl_Sha.K1 (impl_Sha.N1 x6 x26z x26 x27 x28)) k a0z a0) (by kernel_rfl) (Eq.trans ?_ (impl_Sha.bn impl_Sha.enc some (impl_Sha.l0 k) (impl_Sha.l1 k) k a0z a0))
  simp only [ih.1, ih.2, Option.map_some]
theorem impl_Sha.sound (k : Nat) : SoundF Try.prog 104 (fun a => (impl_Sha.ans k a).val) := by
  refine sound_plain (fun args res h => ?_) (fun t n => rfl)
  unfold impl_Sha.ans at h
  dsimp only at h
  split at h
  · cases k with
    | zero => cases h
    | succ k =>
      unfold Ans.val at h
      rw [← impl_Sha.eq] at h
      exact answer_sound mixed Try.func104 _ _ _ (k + 1) (fun j _ => tab_sound (tab_cons (impl_ShaInit.sound j) (tab_cons (impl_ShaPad.sound j) (tab_cons (impl_ShaBlock.sound j) (tab_nil))))) _ _ h
  · exact (Ans.no_val h).elim

def impl_HeadHash.b {R : Type} (ret : Bool × List Int → Option R) (k : Nat) (a0_0 a0_1 : Int) (a0_2 a0_3 : Int) (a0_4 a1_0 : Int) (a1_1 a1_2 : Int) (a1_3z : Bool) (a1_3 : List Int) (a1_4z : Bool) (a1_4 : List Int) (a1_5 a1_6 : Int) (a1_7z : Bool) (a1_7 : List Int) (a1_8z : Bool) (a1_8 : List Int) (a1_9z : Bool) (a1_9 : List T) : Option R :=
  (impl_PutHead.f k a0_0 a0_1 a0_2 a0_3 a0_4 false ([72] : List Int) a1_0 a1_1 a1_2 a1_3z a1_3 a1_4z a1_4 a1_5 a1_6 a1_7z a1_7 a1_8z a1_8 a1_9z a1_9).bind fun t0 => cond (!t0.2.2) (ret (true, ([] : List Int))) ((impl_Sha.f k t0.1 t0.2.1).bind fun t1 => ret (t1.1, t1.2))
def impl_HeadHash.f : Nat → Int → Int → Int → Int → Int → Int → Int → Int → Bool → (List Int) → Bool → (List Int) → Int → Int → Bool → (List Int) → Bool → (List Int) → Bool → (List T) → Option (Bool × List Int)
  | 0, _, _, _, _, _, _, _, _, _, _, _, _, _, _, _, _, _, _, _, _ => none
  | k + 1, a0_0, a0_1, a0_2, a0_3, a0_4, a1_0, a1_1, a1_2, a1_3z, a1_3, a1_4z, a1_4, a1_5, a1_6, a1_7z, a1_7, a1_8z, a1_8, a1_9z, a1_9 => impl_HeadHash.b some k a0_0 a0_1 a0_2 a0_3 a0_4 a1_0 a1_1 a1_2 a1_3z a1_3 a1_4z a1_4 a1_5 a1_6 a1_7z a1_7 a1_8z a1_8 a1_9z a1_9
def impl_HeadHash.enc (r : Bool × List Int) : Res := ⟨[.vals false [((.nums 5 .u8 r.1 r.2), true)]], []⟩
def impl_HeadHash.ans (k : Nat) : List Arg → Ans
  | [.v (.agg [(.int .i64 a0_0), (.int .i64 a0_1), (.int .i64 a0_2), (.int .i64 a0_3), (.int .i64 a0_4)]), .v (.agg [(.int .i64 a1_0), (.int .i64 a1_1), (.int .i64 a1_2), (.nums 5 .u8 a1_3z a1_3), (.nums 5 .u8 a1_4z a1_4), (.int .i64 a1_5), (.int .i64 a1_6), (.nums 5 .u8 a1_7z a1_7), (.nums 5 .u8 a1_8z a1_8), (.sl 22 a1_9z a1_9)])] => ⟨impl_HeadHash.f k a0_0 a0_1 a0_2 a0_3 a0_4 a1_0 a1_1 a1_2 a1_3z a1_3 a1_4z a1_4 a1_5 a1_6 a1_7z a1_7 a1_8z a1_8 a1_9z a1_9, impl_HeadHash.enc⟩
  | _ => Ans.no
def impl_HeadHash.Cs (k : Nat) : CallSem := tab [(103, impl_PutHead.ans k), (104, impl_Sha.ans k)]
theorem impl_HeadHash.eq (k : Nat) (a0_0 a0_1 : Int) (a0_2 a0_3 : Int) (a0_4 a1_0 : Int) (a1_1 a1_2 : Int) (a1_3z : Bool) (a1_3 : List Int) (a1_4z : Bool) (a1_4 : List Int) (a1_5 a1_6 : Int) (a1_7z : Bool) (a1_7 : List Int) (a1_8z : Bool) (a1_8 : List Int) (a1_9z : Bool) (a1_9 : List T) : answer Try.prog impl_HeadHash.Cs 100000 [] [] Try.f40 (k + 1) [.v (.agg [(.int .i64 a0_0), (.int .i64 a0_1), (.int .i64 a0_2), (.int .i64 a0_3), (.int .i64 a0_4)]), .v (.agg [(.int .i64 a1_0), (.int .i64 a1_1), (.int .i64 a1_2), (.nums 5 .u8 a1_3z a1_3), (.nums 5 .u8 a1_4z a1_4), (.int .i64 a1_5), (.int .i64 a1_6), (.nums 5 .u8 a1_7z a1_7), (.nums 5 .u8 a1_8z a1_8), (.sl 22 a1_9z a1_9)])] = (impl_HeadHash.f (k + 1) a0_0 a0_1 a0_2 a0_3 a0_4 a1_0 a1_1 a1_2 a1_3z a1_3 a1_4z a1_4 a1_5 a1_6 a1_7z a1_7 a1_8z a1_8 a1_9z a1_9).map impl_HeadHash.enc := by
  refine Eq.trans (b := impl_HeadHash.b (fun r => some (impl_HeadHash.enc r)) k a0_0 a0_1 a0_2 a0_3 a0_4 a1_0 a1_1 a1_2 a1_3z a1_3 a1_4z a1_4 a1_5 a1_6 a1_7z a1_7 a1_8z a1_8 a1_9z a1_9) (by kernel_rfl) ?_
  show _ = (impl_HeadHash.b some k a0_0 a0_1 a0_2 a0_3 a0_4 a1_0 a1_1 a1_2 a1_3z a1_3 a1_4z a1_4 a1_5 a1_6 a1_7z a1_7 a1_8z a1_8 a1_9z a1_9).map impl_HeadHash.enc
  unfold impl_HeadHash.b
  repeat' first | with_reducible refine nat_cond ?_ ?_ | with_reducible refine nat_bind fun _ => ?_ | rfl
theorem impl_HeadHash.sound (k : Nat) : SoundF Try.prog 40 (fun a => (impl_HeadHash.ans k a).val) := by
  refine sound_plain (fun args res h => ?_) (fun t n => rfl)
  unfold impl_HeadHash.ans at h
  dsimp only at h
  split at h
  · cases k with
    | zero => cases h
    | succ k =>
      unfold Ans.val at h
      rw [← impl_HeadHash.eq] at h
      exact answer_sound mixed Try.func40 _ _ _ (k + 1) (fun j _ => tab_sound (tab_cons (impl_PutHead.sound j) (tab_cons (impl_Sha.sound j) (tab_nil)))) _ _ h
  · exact (Ans.no_val h).elim

def impl_Links.b {R : Type} (ret : Bool → Option R) (k : Nat) (a0_0 a0_1 : Int) (a0_2 a0_3 : Int) (a0_4 a1_0 : Int) (a1_1 a1_2 : Int) (a1_3z : Bool) (a1_3 : List Int) (a1_4z : Bool) (a1_4 : List Int) (a1_5 a1_6 : Int) (a1_7z : Bool) (a1_7 : List Int) (a1_8z : Bool) (a1_8 : List Int) (a1_9z : Bool) (a1_9 : List T) (a2_0 a2_1 a2_2 : Int) (a2_3z : Bool) (a2_3 : List Int) (a2_4z : Bool) (a2_4 : List Int) (a2_5 a2_6 : Int) (a2_7z : Bool) (a2_7 : List Int) (a2_8z : Bool) (a2_8 : List Int) (a2_9z : Bool) (a2_9 : List T) : Option R :=
  (impl_HeadOk.f k a0_0 a0_1 a0_2 a0_3 a0_4 a1_0 a1_1 a1_2 a1_3z a1_3 a1_4z a1_4 a1_5 a1_6 a1_7z a1_7 a1_8z a1_8 a1_9z a1_9).bind fun t0 => cond t0 ((impl_HeadOk.f k a0_0 a0_1 a0_2 a0_3 a0_4 a2_0 a2_1 a2_2 a2_3z a2_3 a2_4z a2_4 a2_5 a2_6 a2_7z a2_7 a2_8z a2_8 a2_9z a2_9).bind fun t1 => cond t1 ((impl_HeadHash.f k a0_0 a0_1 a0_2 a0_3 a0_4 a1_0 a1_1 a1_2 a1_3z a1_3 a1_4z a1_4 a1_5 a1_6 a1_7z a1_7 a1_8z a1_8 a1_9z a1_9).bind fun t2 => (impl_SameBytes.f k a2_3z a2_3 t2.1 t2.2).bind fun t3 => cond t3 (cond (decide (a2_5 = a1_0)) (ret (decide (a2_6 = a1_1))) (ret false)) (ret false)) (ret false)) (ret false)
def impl_Links.f : Nat → Int → Int → Int → Int → Int → Int → Int → Int → Bool → (List Int) → Bool → (List Int) → Int → Int → Bool → (List Int) → Bool → (List Int) → Bool → (List T) → Int → Int → Int → Bool → (List Int) → Bool → (List Int) → Int → Int → Bool → (List Int) → Bool → (List Int) → Bool → (List T) → Option Bool
  | 0, _, _, _, _, _, _, _, _, _, _, _, _, _, _, _, _, _, _, _, _, _, _, _, _, _, _, _, _, _, _, _, _, _, _, _ => none
  | k + 1, a0_0, a0_1, a0_2, a0_3, a0_4, a1_0, a1_1, a1_2, a1_3z, a1_3, a1_4z, a1_4, a1_5, a1_6, a1_7z, a1_7, a1_8z, a1_8, a1_9z, a1_9, a2_0, a2_1, a2_2, a2_3z, a2_3, a2_4z, a2_4, a2_5, a2_6, a2_7z, a2_7, a2_8z, a2_8, a2_9z, a2_9 => impl_Links.b some k a0_0 a0_1 a0_2 a0_3 a0_4 a1_0 a1_1 a1_2 a1_3z a1_3 a1_4z a1_4 a1_5 a1_6 a1_7z a1_7 a1_8z a1_8 a1_9z a1_9 a2_0 a2_1 a2_2 a2_3z a2_3 a2_4z a2_4 a2_5 a2_6 a2_7z a2_7 a2_8z a2_8 a2_9z a2_9
def impl_Links.enc (r : Bool) : Res := ⟨[.vals false [((.bool r), true)]], []⟩
def impl_Links.ans (k : Nat) : List Arg → Ans
  | [.v (.agg [(.int .i64 a0_0), (.int .i64 a0_1), (.int .i64 a0_2), (.int .i64 a0_3), (.int .i64 a0_4)]), .v (.agg [(.int .i64 a1_0), (.int .i64 a1_1), (.int .i64 a1_2), (.nums 5 .u8 a1_3z a1_3), (.nums 5 .u8 a1_4z a1_4), (.int .i64 a1_5), (.int .i64 a1_6), (.nums 5 .u8 a1_7z a1_7), (.nums 5 .u8 a1_8z a1_8), (.sl 22 a1_9z a1_9)]), .v (.agg [(.int .i64 a2_0), (.int .i64 a2_1), (.int .i64 a2_2), (.nums 5 .u8 a2_3z a2_3), (.nums 5 .u8 a2_4z a2_4), (.int .i64 a2_5), (.int .i64 a2_6), (.nums 5 .u8 a2_7z a2_7), (.nums 5 .u8 a2_8z a2_8), (.sl 22 a2_9z a2_9)])] => ⟨impl_Links.f k a0_0 a0_1 a0_2 a0_3 a0_4 a1_0 a1_1 a1_2 a1_3z a1_3 a1_4z a1_4 a1_5 a1_6 a1_7z a1_7 a1_8z a1_8 a1_9z a1_9 a2_0 a2_1 a2_2 a2_3z a2_3 a2_4z a2_4 a2_5 a2_6 a2_7z a2_7 a2_8z a2_8 a2_9z a2_9, impl_Links.enc⟩
  | _ => Ans.no
def impl_Links.Cs (k : Nat) : CallSem := tab [(102, impl_HeadOk.ans k), (32, impl_SameBytes.ans k), (40, impl_HeadHash.ans k)]
theorem impl_Links.eq (k : Nat) (a0_0 a0_1 : Int) (a0_2 a0_3 : Int) (a0_4 a1_0 : Int) (a1_1 a1_2 : Int) (a1_3z : Bool) (a1_3 : List Int) (a1_4z : Bool) (a1_4 : List Int) (a1_5 a1_6 : Int) (a1_7z : Bool) (a1_7 : List Int) (a1_8z : Bool) (a1_8 : List Int) (a1_9z : Bool) (a1_9 : List T) (a2_0 a2_1 a2_2 : Int) (a2_3z : Bool) (a2_3 : List Int) (a2_4z : Bool) (a2_4 : List Int) (a2_5 a2_6 : Int) (a2_7z : Bool) (a2_7 : List Int) (a2_8z : Bool) (a2_8 : List Int) (a2_9z : Bool) (a2_9 : List T) : answer Try.prog impl_Links.Cs 100000 [] [] Try.f39 (k + 1) [.v (.agg [(.int .i64 a0_0), (.int .i64 a0_1), (.int .i64 a0_2), (.int .i64 a0_3), (.int .i64 a0_4)]), .v (.agg [(.int .i64 a1_0), (.int .i64 a1_1), (.int .i64 a1_2), (.nums 5 .u8 a1_3z a1_3), (.nums 5 .u8 a1_4z a1_4), (.int .i64 a1_5), (.int .i64 a1_6), (.nums 5 .u8 a1_7z a1_7), (.nums 5 .u8 a1_8z a1_8), (.sl 22 a1_9z a1_9)]), .v (.agg [(.int .i64 a2_0), (.int .i64 a2_1), (.int .i64 a2_2), (.nums 5 .u8 a2_3z a2_3), (.nums 5 .u8 a2_4z a2_4), (.int .i64 a2_5), (.int .i64 a2_6), (.nums 5 .u8 a2_7z a2_7), (.nums 5 .u8 a2_8z a2_8), (.sl 22 a2_9z a2_9)])] = (impl_Links.f (k + 1) a0_0 a0_1 a0_2 a0_3 a0_4 a1_0 a1_1 a1_2 a1_3z a1_3 a1_4z a1_4 a1_5 a1_6 a1_7z a1_7 a1_8z a1_8 a1_9z a1_9 a2_0 a2_1 a2_2 a2_3z a2_3 a2_4z a2_4 a2_5 a2_6 a2_7z a2_7 a2_8z a2_8 a2_9z a2_9).map impl_Links.enc := by
  refine Eq.trans (b := impl_Links.b (fun r => some (impl_Links.enc r)) k a0_0 a0_1 a0_2 a0_3 a0_4 a1_0 a1_1 a1_2 a1_3z a1_3 a1_4z a1_4 a1_5 a1_6 a1_7z a1_7 a1_8z a1_8 a1_9z a1_9 a2_0 a2_1 a2_2 a2_3z a2_3 a2_4z a2_4 a2_5 a2_6 a2_7z a2_7 a2_8z a2_8 a2_9z a2_9) (by kernel_rfl) ?_
  show _ = (impl_Links.b some k a0_0 a0_1 a0_2 a0_3 a0_4 a1_0 a1_1 a1_2 a1_3z a1_3 a1_4z a1_4 a1_5 a1_6 a1_7z a1_7 a1_8z a1_8 a1_9z a1_9 a2_0 a2_1 a2_2 a2_3z a2_3 a2_4z a2_4 a2_5 a2_6 a2_7z a2_7 a2_8z a2_8 a2_9z a2_9).map impl_Links.enc
  unfold impl_Links.b
  repeat' first | with_reducible refine nat_cond ?_ ?_ | with_reducible refine nat_bind fun _ => ?_ | rfl
theorem impl_Links.sound (k : Nat) : SoundF Try.prog 39 (fun a => (impl_Links.ans k a).val) := by
  refine sound_plain (fun args res h => ?_) (fun t n => rfl)
  unfold impl_Links.ans at h
  dsimp only at h
  split at h
  · cases k with
    | zero => cases h
    | succ k =>
      unfold Ans.val at h
      rw [← impl_Links.eq] at h
      exact answer_sound mixed Try.func39 _ _ _ (k + 1) (fun j _ => tab_sound (tab_cons (impl_HeadOk.sound j) (tab_cons (impl_SameBytes.sound j) (tab_cons (impl_HeadHash.sound j) (tab_nil))))) _ _ h
  · exact (Ans.no_val h).elim

def impl_ChainCode.b {R : Type} (ret : Int → Option R) (j0 : Bool → (List T) → Int → Int → Int → Int → Int → Int → Option R) (k : Nat) (a0_0 a0_1 : Int) (a0_2 a0_3 a0_4 : Int) (a1z : Bool) (a1 : List T) : Option R :=
  cond (decide (((a1).length : Int) = 0)) (ret 1) ((impl_areHeads.f k a0_0 a0_1 a0_2 a0_3 a0_4 a1z a1).bind fun t0 => cond (!t0) (ret 1) (j0 a1z a1 1 a0_0 a0_1 a0_2 a0_3 a0_4))
def impl_ChainCode.l0b {R : Type} (ret : Int → Option R) (j0 : Bool → (List T) → Int → Int → Int → Int → Int → Int → Option R) (k : Nat) (x1z : Bool) (x1 : List T) (x5 c2_0 : Int) (c2_1 c2_2 : Int) (c2_3 c2_4 : Int) : Option R :=
  cond (decide (x5 < ((x1).length : Int))) (cond (decide ((0 : Int) ≤ (RowKit.wrap64 (x5 - 1)))) (cond (decide ((RowKit.wrap64 (x5 - 1)) < ((x1).length : Int))) (cond (decide ((0 : Int) ≤ x5)) (cond (decide (x5 < ((x1).length : Int))) ((impl_Links.f k c2_0 c2_1 c2_2 c2_3 c2_4 (((((x1).getD ((RowKit.wrap64 (x5 - 1))).toNat .bad).cells.getD 0 .bad)).toInt) (((((x1).getD ((RowKit.wrap64 (x5 - 1))).toNat .bad).cells.getD 1 .bad)).toInt) (((((x1).getD ((RowKit.wrap64 (x5 - 1))).toNat .bad).cells.getD 2 .bad)).toInt) (((((x1).getD ((RowKit.wrap64 (x5 - 1))).toNat .bad).cells.getD 3 .bad)).isNil) (((((x1).getD ((RowKit.wrap64 (x5 - 1))).toNat .bad).cells.getD 3 .bad)).toNums) (((((x1).getD ((RowKit.wrap64 (x5 - 1))).toNat .bad).cells.getD 4 .bad)).isNil) (((((x1).getD ((RowKit.wrap64 (x5 - 1))).toNat .bad).cells.getD 4 .bad)).toNums) (((((x1).getD ((RowKit.wrap64 (x5 - 1))).toNat .bad).cells.getD 5 .bad)).toInt) (((((x1).getD ((RowKit.wrap64 (x5 - 1))).toNat .bad).cells.getD 6 .bad)).toInt) (((((x1).getD ((RowKit.wrap64 (x5 - 1))).toNat .bad).cells.getD 7 .bad)).isNil) (((((x1).getD ((RowKit.wrap64 (x5 - 1))).toNat .bad).cells.getD 7 .bad)).toNums) (((((x1).getD ((RowKit.wrap64 (x5 - 1))).toNat .bad).cells.getD 8 .bad)).isNil) (((((x1).getD ((RowKit.wrap64 (x5 - 1))).toNat .bad).cells.getD 8 .bad)).toNums) (((((x1).getD ((RowKit.wrap64 (x5 - 1))).toNat .bad).cells.getD 9 .bad)).isNil) (((((x1).getD ((RowKit.wrap64 (x5 - 1))).toNat .bad).cells.getD 9 .bad)).toList) (((((x1).getD (x5).toNat .bad).cells.getD 0 .bad)).toInt) (((((x1).getD (x5).toNat .bad).cells.getD 1 .bad)).toInt) (((((x1).getD (x5).toNat .bad).cells.getD 2 .bad)).toInt) (((((x1).getD (x5).toNat .bad).cells.getD 3 .bad)).isNil) (((((x1).getD (x5).toNat .bad).cells.getD 3 .bad)).toNums) (((((x1).getD (x5).toNat .bad).cells.getD 4 .bad)).isNil) (((((x1).getD (x5).toNat .bad).cells.getD 4 .bad)).toNums) (((((x1).getD (x5).toNat .bad).cells.getD 5 .bad)).toInt) (((((x1).getD (x5).toNat .bad).cells.getD 6 .bad)).toInt) (((((x1).getD (x5).toNat .bad).cells.getD 7 .bad)).isNil) (((((x1).getD (x5).toNat .bad).cells.getD 7 .bad)).toNums) (((((x1).getD (x5).toNat .bad).cells.getD 8 .bad)).isNil) (((((x1).getD (x5).toNat .bad).cells.getD 8 .bad)).toNums) (((((x1).getD (x5).toNat .bad).cells.getD 9 .bad)).isNil) (((((x1).getD (x5).toNat .bad).cells.getD 9 .bad)).toList)).bind fun t0 => cond (!t0) (ret 4) (j0 x1z x1 (RowKit.wrap64 (x5 + 1)) c2_0 c2_1 c2_2 c2_3 c2_4)) (none)) (none)) (none)) (none)) (ret 0)
def impl_ChainCode.l0 : Nat → Bool → (List T) → Int → Int → Int → Int → Int → Int → Option Int
  | 0, _, _, _, _, _, _, _, _ => none
  | k + 1, x1z, x1, x5, c2_0, c2_1, c2_2, c2_3, c2_4 => impl_ChainCode.l0b some (impl_ChainCode.l0 k) k x1z x1 x5 c2_0 c2_1 c2_2 c2_3 c2_4
def impl_ChainCode.f : Nat → Int → Int → Int → Int → Int → Bool → (List T) → Option Int
  | 0, _, _, _, _, _, _, _ => none
  | k + 1, a0_0, a0_1, a0_2, a0_3, a0_4, a1z, a1 => impl_ChainCode.b some (impl_ChainCode.l0 k) k a0_0 a0_1 a0_2 a0_3 a0_4 a1z a1
def impl_ChainCode.enc (r : Int) : Res := ⟨[.vals false [((.int .i64 r), true)]], []⟩
def impl_ChainCode.ans (k : Nat) : List Arg → Ans
  | [.v (.agg [(.int .i64 a0_0), (.int .i64 a0_1), (.int .i64 a0_2), (.int .i64 a0_3), (.int .i64 a0_4)]), .v (.sl 79 a1z a1)] => ⟨impl_ChainCode.f k a0_0 a0_1 a0_2 a0_3 a0_4 a1z a1, impl_ChainCode.enc⟩
  | _ => Ans.no
def impl_ChainCode.Cs (k : Nat) : CallSem := tab [(101, impl_areHeads.ans k), (39, impl_Links.ans k)]
def impl_ChainCode.cuts : List (Nat × Keep) := [(58, ⟨[(1, some []), (2, some []), (5, some [])], [(2, [some [], some [], some [], some [], some []])]⟩)]
noncomputable def impl_ChainCode.K0 : List Fr := framesAt [true, true, false, true, false] (bodyOf Try.f38 impl_ChainCode.cuts) []
def impl_ChainCode.N0 (x1z : Bool) (x1 : List T) (x5 c2_0 : Int) (c2_1 c2_2 : Int) (c2_3 c2_4 : Int) : St := stOf 33 33 2 [(1, .val ⟨(.sl 79 x1z x1), [], false, none⟩), (2, .bp 2 0), (5, .val (V.s (.int .i64 x5)))] [(2, .cells [V.s (.int .i64 c2_0), V.s (.int .i64 c2_1), V.s (.int .i64 c2_2), V.s (.int .i64 c2_3), V.s (.int .i64 c2_4)])]
theorem impl_ChainCode.s0 (k : Nat) (G : List Fr → St → Option Res) (a0_0 a0_1 : Int) (a0_2 a0_3 a0_4 : Int) (a1z : Bool) (a1 : List T) (yx1z : Bool) (yx1 : List T) (yx5 yc2_0 : Int) (yc2_1 yc2_2 : Int) (yc2_3 yc2_4 : Int) : resume Try.prog (impl_ChainCode.Cs k) G (finish Try.prog [] Try.f38 [.v (.agg [(.int .i64 a0_0), (.int .i64 a0_1), (.int .i64 a0_2), (.int .i64 a0_3), (.int .i64 a0_4)]), .v (.sl 79 a1z a1)]) 100000 impl_ChainCode.K0 (impl_ChainCode.N0 yx1z yx1 yx5 yc2_0 yc2_1 yc2_2 yc2_3 yc2_4) = impl_ChainCode.l0b (fun r => some (impl_ChainCode.enc r)) (fun x1z x1 x5 c2_0 c2_1 c2_2 c2_3 c2_4 => G impl_ChainCode.K0 (impl_ChainCode.N0 x1z x1 x5 c2_0 c2_1 c2_2 c2_3 c2_4)) k yx1z yx1 yx5 yc2_0 yc2_1 yc2_2 yc2_3 yc2_4 := by kernel_rfl
theorem impl_ChainCode.bn {R R' : Type} (e : R → R') (ret : Int → Option R) (j0 : Bool → (List T) → Int → Int → Int → Int → Int → Int → Option R) (k : Nat) (a0_0 a0_1 : Int) (a0_2 a0_3 a0_4 : Int) (a1z : Bool) (a1 : List T) : impl_ChainCode.b (fun r => (ret r).map e) (fun x1z x1 x5 c2_0 c2_1 c2_2 c2_3 c2_4 => (j0 x1z x1 x5 c2_0 c2_1 c2_2 c2_3 c2_4).map e) k a0_0 a0_1 a0_2 a0_3 a0_4 a1z a1 = (impl_ChainCode.b ret j0 k a0_0 a0_1 a0_2 a0_3 a0_4 a1z a1).map e := by
  unfold impl_ChainCode.b
  repeat' first | with_reducible refine nat_cond ?_ ?_ | with_reducible refine nat_bind fun _ => ?_ | rfl
theorem impl_ChainCode.l0n {R R' : Type} (e : R → R') (ret : Int → Option R) (j0 : Bool → (List T) → Int → Int → Int → Int → Int → Int → Option R) (k : Nat) (x1z : Bool) (x1 : List T) (x5 c2_0 : Int) (c2_1 c2_2 : Int) (c2_3 c2_4 : Int) : impl_ChainCode.l0b (fun r => (ret r).map e) (fun x1z x1 x5 c2_0 c2_1 c2_2 c2_3 c2_4 => (j0 x1z x1 x5 c2_0 c2_1 c2_2 c2_3 c2_4).map e) k x1z x1 x5 c2_0 c2_1 c2_2 c2_3 c2_4 = (impl_ChainCode.l0b ret j0 k x1z x1 x5 c2_0 c2_1 c2_2 c2_3 c2_4).map e := by
  unfold impl_ChainCode.l0b
  repeat' first | with_reducible refine nat_cond ?_ ?_ | with_reducible refine nat_bind fun _ => ?_ | rfl
theorem impl_ChainCode.rq (a0_0 a0_1 : Int) (a0_2 a0_3 a0_4 : Int) (a1z : Bool) (a1 : List T) : ∀ k, (∀ (x1z : Bool) (x1 : List T) (x5 c2_0 : Int) (c2_1 c2_2 : Int) (c2_3 c2_4 : Int), rounds Try.prog impl_ChainCode.Cs (finish Try.prog [] Try.f38 [.v (.agg [(.int .i64 a0_0), (.int .i64 a0_1), (.int .i64 a0_2), (.int .i64 a0_3), (.int .i64 a0_4)]), .v (.sl 79 a1z a1)]) 100000 k impl_ChainCode.K0 (impl_ChainCode.N0 x1z x1 x5 c2_0 c2_1 c2_2 c2_3 c2_4) = (impl_ChainCode.l0 k x1z x1 x5 c2_0 c2_1 c2_2 c2_3 c2_4).map impl_ChainCode.enc)
  | 0 => fun _ _ _ _ _ _ _ _ => rfl
  | k + 1 => by
    have ih := impl_ChainCode.rq a0_0 a0_1 a0_2 a0_3 a0_4 a1z a1 k
    refine fun _ _ _ _ _ _ _ _ => ?_
    · refine (impl_ChainCode.s0 k _ a0_0 a0_1 a0_2 a0_3 a0_4 a1z a1 _ _ _ _ _ _ _ _).trans (Eq.trans ?_ (impl_ChainCode.l0n impl_ChainCode.enc some (impl_ChainCode.l0 k) k _ _ _ _ _ _ _ _))
      simp only [ih, Option.map_some]
theorem impl_ChainCode.eq (k : Nat) (a0_0 a0_1 : Int) (a0_2 a0_3 a0_4 : Int) (a1z : Bool) (a1 : List T) : answer Try.prog impl_ChainCode.Cs 100000 impl_ChainCode.cuts [] Try.f38 (k + 1) [.v (.agg [(.int .i64 a0_0), (.int .i64 a0_1), (.int .i64 a0_2), (.int .i64 a0_3), (.int .i64 a0_4)]), .v (.sl 79 a1z a1)] = (impl_ChainCode.f (k + 1) a0_0 a0_1 a0_2 a0_3 a0_4 a1z a1).map impl_ChainCode.enc := by
  have ih := impl_ChainCode.rq a0_0 a0_1 a0_2 a0_3 a0_4 a1z a1 k
  refine Eq.trans (b := impl_ChainCode.b (fun r => some (impl_ChainCode.enc r)) (fun x1z x1 x5 c2_0 c2_1 c2_2 c2_3 c2_4 => rounds Try.prog impl_ChainCode.Cs (finish Try.prog [] Try.f38 [.v (.agg [(.int .i64 a0_0), (.int .i64 a0_1), (.int .i64 a0_2), (.int .i64 a0_3), (.int .i64 a0_4)]), .v (.sl 79 a1z a1)]) 100000 k impl_ChainCode.K0 (impl_ChainCode.N0 x1z x1 x5 c2_0 c2_1 c2_2 c2_3 c2_4)) k a0_0 a0_1 a0_2 a0_3 a0_4 a1z a1) (by kernel_rfl) (Eq.trans ?_ (impl_ChainCode.bn impl_ChainCode.enc some (impl_ChainCode.l0 k) k a0_0 a0_1 a0_2 a0_3 a0_4 a1z a1))
  simp only [ih, Option.map_some]
theorem impl_ChainCode.sound (k : Nat) : SoundF Try.prog 38 (fun a => (impl_ChainCode.ans k a).val) := by
  refine sound_plain (fun args res h => ?_) (fun t n => rfl)
  unfold impl_ChainCode.ans at h
  dsimp only at h
  split at h
  · cases k with
    | zero => cases h
    | succ k =>
      unfold Ans.val at h
      rw [← impl_ChainCode.eq] at h
      exact answer_sound mixed Try.func38 _ _ _ (k + 1) (fun j _ => tab_sound (tab_cons (impl_areHeads.sound j) (tab_cons (impl_Links.sound j) (tab_nil)))) _ _ h
  · exact (Ans.no_val h).elim

def impl_TableOk.b {R : Type} (ret : Bool → Option R) (j0 : Bool → (List T) → Int → Int → Bool → (List T) → Option R) (k : Nat) (a0_0z : Bool) (a0_0 : List T) : Option R :=
  j0 a0_0z a0_0 ((a0_0).length : Int) 0 a0_0z a0_0
def impl_TableOk.l0b {R : Type} (ret : Bool → Option R) (j0 : Bool → (List T) → Int → Int → Bool → (List T) → Option R) (k : Nat) (x6z : Bool) (x6 : List T) (x7 x8 : Int) (c1_0z : Bool) (c1_0 : List T) : Option R :=
  cond (decide (x8 < x7)) (cond (decide ((0 : Int) ≤ x8)) (cond (decide (x8 < ((x6).length : Int))) ((impl_within.f k (((((x6).getD (x8).toNat .bad).cells.getD 0 .bad)).toInt) 1 1099511627776).bind fun t0 => cond (!t0) (ret false) ((impl_within.f k ((((((x6).getD (x8).toNat .bad).cells.getD 1 .bad)).toNums).length : Int) 1 64).bind fun t1 => cond (!t1) (ret false) (j0 x6z x6 x7 (RowKit.wrap64 (x8 + 1)) c1_0z c1_0))) (none)) (none)) ((impl_within.f k ((c1_0).length : Int) 1 10).bind fun t0 => ret t0)
def impl_TableOk.l0 : Nat → Bool → (List T) → Int → Int → Bool → (List T) → Option Bool
  | 0, _, _, _, _, _, _ => none
  | k + 1, x6z, x6, x7, x8, c1_0z, c1_0 => impl_TableOk.l0b some (impl_TableOk.l0 k) k x6z x6 x7 x8 c1_0z c1_0
def impl_TableOk.f : Nat → Bool → (List T) → Option Bool
  | 0, _, _ => none
  | k + 1, a0_0z, a0_0 => impl_TableOk.b some (impl_TableOk.l0 k) k a0_0z a0_0
def impl_TableOk.enc (r : Bool) : Res := ⟨[.vals false [((.bool r), true)]], []⟩
def impl_TableOk.ans (k : Nat) : List Arg → Ans
  | [.v (.agg [(.sl 44 a0_0z a0_0)])] => ⟨impl_TableOk.f k a0_0z a0_0, impl_TableOk.enc⟩
  | _ => Ans.no
def impl_TableOk.Cs (k : Nat) : CallSem := tab [(79, impl_within.ans k)]
def impl_TableOk.cuts : List (Nat × Keep) := [(26, ⟨[(1, some []), (6, some []), (7, some []), (8, some [])], [(1, [some []])]⟩)]
noncomputable def impl_TableOk.K0 : List Fr := framesAt [true, false, true, false] (bodyOf Try.f78 impl_TableOk.cuts) []
def impl_TableOk.N0 (x6z : Bool) (x6 : List T) (x7 x8 : Int) (c1_0z : Bool) (c1_0 : List T) : St := stOf 28 28 1 [(1, .bp 1 0), (6, .val ⟨(.sl 44 x6z x6), [], false, none⟩), (7, .val (V.s (.int .i64 x7))), (8, .val (V.s (.int .i64 x8)))] [(1, .cells [⟨(.sl 44 c1_0z c1_0), [], false, none⟩])]
theorem impl_TableOk.s0 (k : Nat) (G : List Fr → St → Option Res) (a0_0z : Bool) (a0_0 : List T) (yx6z : Bool) (yx6 : List T) (yx7 yx8 : Int) (yc1_0z : Bool) (yc1_0 : List T) : resume Try.prog (impl_TableOk.Cs k) G (finish Try.prog [] Try.f78 [.v (.agg [(.sl 44 a0_0z a0_0)])]) 100000 impl_TableOk.K0 (impl_TableOk.N0 yx6z yx6 yx7 yx8 yc1_0z yc1_0) = impl_TableOk.l0b (fun r => some (impl_TableOk.enc r)) (fun x6z x6 x7 x8 c1_0z c1_0 => G impl_TableOk.K0 (impl_TableOk.N0 x6z x6 x7 x8 c1_0z c1_0)) k yx6z yx6 yx7 yx8 yc1_0z yc1_0 := by kernel_rfl
theorem impl_TableOk.bn {R R' : Type} (e : R → R') (ret : Bool → Option R) (j0 : Bool → (List T) → Int → Int → Bool → (List T) → Option R) (k : Nat) (a0_0z : Bool) (a0_0 : List T) : impl_TableOk.b (fun r => (ret r).map e) (fun x6z x6 x7 x8 c1_0z c1_0 => (j0 x6z x6 x7 x8 c1_0z c1_0).map e) k a0_0z a0_0 = (impl_TableOk.b ret j0 k a0_0z a0_0).map e := by
  unfold impl_TableOk.b
  repeat' first | with_reducible refine nat_cond ?_ ?_ | with_reducible refine nat_bind fun _ => ?_ | rfl
theorem impl_TableOk.l0n {R R' : Type} (e : R → R') (ret : Bool → Option R) (j0 : Bool → (List T) → Int → Int → Bool → (List T) → Option R) (k : Nat) (x6z : Bool) (x6 : List T) (x7 x8 : Int) (c1_0z : Bool) (c1_0 : List T) : impl_TableOk.l0b (fun r => (ret r).map e) (fun x6z x6 x7 x8 c1_0z c1_0 => (j0 x6z x6 x7 x8 c1_0z c1_0).map e) k x6z x6 x7 x8 c1_0z c1_0 = (impl_TableOk.l0b ret j0 k x6z x6 x7 x8 c1_0z c1_0).map e := by
  unfold impl_TableOk.l0b
  repeat' first | with_reducible refine nat_cond ?_ ?_ | with_reducible refine nat_bind fun _ => ?_ | rfl
theorem impl_TableOk.rq (a0_0z : Bool) (a0_0 : List T) : ∀ k, (∀ (x6z : Bool) (x6 : List T) (x7 x8 : Int) (c1_0z : Bool) (c1_0 : List T), rounds Try.prog impl_TableOk.Cs (finish Try.prog [] Try.f78 [.v (.agg [(.sl 44 a0_0z a0_0)])]) 100000 k impl_TableOk.K0 (impl_TableOk.N0 x6z x6 x7 x8 c1_0z c1_0) = (impl_TableOk.l0 k x6z x6 x7 x8 c1_0z c1_0).map impl_TableOk.enc)
  | 0 => fun _ _ _ _ _ _ => rfl
  | k + 1 => by
    have ih := impl_TableOk.rq a0_0z a0_0 k
    refine fun _ _ _ _ _ _ => ?_
    · refine (impl_TableOk.s0 k _ a0_0z a0_0 _ _ _ _ _ _).trans (Eq.trans ?_ (impl_TableOk.l0n impl_TableOk.enc some (impl_TableOk.l0 k) k _ _ _ _ _ _))
      simp only [ih, Option.map_some]
theorem impl_TableOk.eq (k : Nat) (a0_0z : Bool) (a0_0 : List T) : answer Try.prog impl_TableOk.Cs 100000 impl_TableOk.cuts [] Try.f78 (k + 1) [.v (.agg [(.sl 44 a0_0z a0_0)])] = (impl_TableOk.f (k + 1) a0_0z a0_0).map impl_TableOk.enc := by
  have ih := impl_TableOk.rq a0_0z a0_0 k
  refine Eq.trans (b := impl_TableOk.b (fun r => some (impl_TableOk.enc r)) (fun x6z x6 x7 x8 c1_0z c1_0 => rounds Try.prog impl_TableOk.Cs (finish Try.prog [] Try.f78 [.v (.agg [(.sl 44 a0_0z a0_0)])]) 100000 k impl_TableOk.K0 (impl_TableOk.N0 x6z x6 x7 x8 c1_0z c1_0)) k a0_0z a0_0) (by kernel_rfl) (Eq.trans ?_ (impl_TableOk.bn impl_TableOk.enc some (impl_TableOk.l0 k) k a0_0z a0_0))
  simp only [ih, Option.map_some]
theorem impl_TableOk.sound (k : Nat) : SoundF Try.prog 78 (fun a => (impl_TableOk.ans k a).val) := by
  refine sound_plain (fun args res h => ?_) (fun t n => rfl)
  unfold impl_TableOk.ans at h
  dsimp only at h
  split at h
  · cases k with
    | zero => cases h
    | succ k =>
      unfold Ans.val at h
      rw [← impl_TableOk.eq] at h
      exact answer_sound mixed Try.func78 _ _ _ (k + 1) (fun j _ => tab_sound (tab_cons (impl_within.sound j) (tab_nil))) _ _ h
  · exact (Ans.no_val h).elim

def impl_belongs.b {R : Type} (ret : Bool → Option R) (k : Nat) (a0_0 a0_1 : Int) (a0_2 a0_3 a0_4 : Int) (a1_0z : Bool) (a1_0 : List T) : Option R :=
  (impl_LimitsOk.f k a0_0 a0_1 a0_2 a0_3 a0_4).bind fun t0 => cond t0 ((impl_TableOk.f k a1_0z a1_0).bind fun t1 => cond t1 (ret (decide (((a1_0).length : Int) = a0_0))) (ret false)) (ret false)
def impl_belongs.f : Nat → Int → Int → Int → Int → Int → Bool → (List T) → Option Bool
  | 0, _, _, _, _, _, _, _ => none
  | k + 1, a0_0, a0_1, a0_2, a0_3, a0_4, a1_0z, a1_0 => impl_belongs.b some k a0_0 a0_1 a0_2 a0_3 a0_4 a1_0z a1_0
def impl_belongs.enc (r : Bool) : Res := ⟨[.vals false [((.bool r), true)]], []⟩
def impl_belongs.ans (k : Nat) : List Arg → Ans
  | [.v (.agg [(.int .i64 a0_0), (.int .i64 a0_1), (.int .i64 a0_2), (.int .i64 a0_3), (.int .i64 a0_4)]), .v (.agg [(.sl 44 a1_0z a1_0)])] => ⟨impl_belongs.f k a0_0 a0_1 a0_2 a0_3 a0_4 a1_0z a1_0, impl_belongs.enc⟩
  | _ => Ans.no
def impl_belongs.Cs (k : Nat) : CallSem := tab [(92, impl_LimitsOk.ans k), (78, impl_TableOk.ans k)]
theorem impl_belongs.eq (k : Nat) (a0_0 a0_1 : Int) (a0_2 a0_3 a0_4 : Int) (a1_0z : Bool) (a1_0 : List T) : answer Try.prog impl_belongs.Cs 100000 [] [] Try.f87 (k + 1) [.v (.agg [(.int .i64 a0_0), (.int .i64 a0_1), (.int .i64 a0_2), (.int .i64 a0_3), (.int .i64 a0_4)]), .v (.agg [(.sl 44 a1_0z a1_0)])] = (impl_belongs.f (k + 1) a0_0 a0_1 a0_2 a0_3 a0_4 a1_0z a1_0).map impl_belongs.enc := by
  refine Eq.trans (b := impl_belongs.b (fun r => some (impl_belongs.enc r)) k a0_0 a0_1 a0_2 a0_3 a0_4 a1_0z a1_0) (by kernel_rfl) ?_
  show _ = (impl_belongs.b some k a0_0 a0_1 a0_2 a0_3 a0_4 a1_0z a1_0).map impl_belongs.enc
  unfold impl_belongs.b
  repeat' first | with_reducible refine nat_cond ?_ ?_ | with_reducible refine nat_bind fun _ => ?_ | rfl
theorem impl_belongs.sound (k : Nat) : SoundF Try.prog 87 (fun a => (impl_belongs.ans k a).val) := by
  refine sound_plain (fun args res h => ?_) (fun t n => rfl)
  unfold impl_belongs.ans at h
  dsimp only at h
  split at h
  · cases k with
    | zero => cases h
    | succ k =>
      unfold Ans.val at h
      rw [← impl_belongs.eq] at h
      exact answer_sound mixed Try.func87 _ _ _ (k + 1) (fun j _ => tab_sound (tab_cons (impl_LimitsOk.sound j) (tab_cons (impl_TableOk.sound j) (tab_nil)))) _ _ h
  · exact (Ans.no_val h).elim

def impl_QcVotes.b {R : Type} (ret : Bool × List T → Option R) (j0 : (List T) → Bool → (List Int) → Int → Int → Int → Int → Bool → (List Int) → Bool → (List Int) → Bool → (List T) → Option R) (k : Nat) (a0_0 a0_1 : Int) (a0_2z : Bool) (a0_2 : List Int) (a0_3z : Bool) (a0_3 : List Int) (a0_4z : Bool) (a0_4 : List T) : Option R :=
  (impl_BitsCount.f k a0_3z a0_3).bind fun t0 => cond (!(decide (((a0_4).length : Int) = t0))) (ret (true, ([] : List T))) ((impl_BitsList.f k a0_3z a0_3).bind fun t1 => j0 ([] : List T) t1.1 t1.2 ((t1.2).length : Int) 0 a0_0 a0_1 a0_2z a0_2 a0_3z a0_3 a0_4z a0_4)
def impl_QcVotes.l0b {R : Type} (ret : Bool × List T → Option R) (j0 : (List T) → Bool → (List Int) → Int → Int → Int → Int → Bool → (List Int) → Bool → (List Int) → Bool → (List T) → Option R) (k : Nat) (x3 : List T) (x16z : Bool) (x16 : List Int) (x17 x18 : Int) (c1_0 c1_1 : Int) (c1_2z : Bool) (c1_2 : List Int) (c1_3z : Bool) (c1_3 : List Int) (c1_4z : Bool) (c1_4 : List T) : Option R :=
  cond (decide (x18 < x17)) (cond (decide ((0 : Int) ≤ x18)) (cond (decide (x18 < ((x16).length : Int))) ((impl_copyBytes.f k c1_2z c1_2).bind fun t0 => cond (decide ((0 : Int) ≤ x18)) (cond (decide (x18 < ((c1_4).length : Int))) ((impl_copyBytes.f k (((((c1_4).getD (x18).toNat .bad).cells.getD 0 .bad)).isNil) (((((c1_4).getD (x18).toNat .bad).cells.getD 0 .bad)).toNums)).bind fun t1 => cond (decide ((x3).length + 1 < 1954687338268)) (j0 (x3 ++ ([(.agg [(.int .i64 c1_0), (.int .i64 c1_1), (.nums 5 .u8 t0.1 t0.2), (.int .i64 (rdI x16 x18)), (.nums 5 .u8 t1.1 t1.2)])] : List T)) x16z x16 x17 (RowKit.wrap64 (x18 + 1)) c1_0 c1_1 c1_2z c1_2 c1_3z c1_3 c1_4z c1_4) (none)) (none)) (none)) (none)) (none)) (ret (false, x3))
def impl_QcVotes.l0 : Nat → (List T) → Bool → (List Int) → Int → Int → Int → Int → Bool → (List Int) → Bool → (List Int) → Bool → (List T) → Option (Bool × List T)
  | 0, _, _, _, _, _, _, _, _, _, _, _, _, _ => none
  | k + 1, x3, x16z, x16, x17, x18, c1_0, c1_1, c1_2z, c1_2, c1_3z, c1_3, c1_4z, c1_4 => impl_QcVotes.l0b some (impl_QcVotes.l0 k) k x3 x16z x16 x17 x18 c1_0 c1_1 c1_2z c1_2 c1_3z c1_3 c1_4z c1_4
def impl_QcVotes.f : Nat → Int → Int → Bool → (List Int) → Bool → (List Int) → Bool → (List T) → Option (Bool × List T)
  | 0, _, _, _, _, _, _, _, _ => none
  | k + 1, a0_0, a0_1, a0_2z, a0_2, a0_3z, a0_3, a0_4z, a0_4 => impl_QcVotes.b some (impl_QcVotes.l0 k) k a0_0 a0_1 a0_2z a0_2 a0_3z a0_3 a0_4z a0_4
def impl_QcVotes.enc (r : Bool × List T) : Res := ⟨[.vals false [((.sl 33 r.1 r.2), true)]], []⟩
def impl_QcVotes.ans (k : Nat) : List Arg → Ans
  | [.v (.agg [(.int .i64 a0_0), (.int .i64 a0_1), (.nums 5 .u8 a0_2z a0_2), (.nums 5 .u8 a0_3z a0_3), (.sl 22 a0_4z a0_4)])] => ⟨impl_QcVotes.f k a0_0 a0_1 a0_2z a0_2 a0_3z a0_3 a0_4z a0_4, impl_QcVotes.enc⟩
  | _ => Ans.no
def impl_QcVotes.Cs (k : Nat) : CallSem := tab [(89, impl_BitsList.ans k), (25, impl_BitsCount.ans k), (80, impl_copyBytes.ans k)]
def impl_QcVotes.cuts : List (Nat × Keep) := [(122, ⟨[(1, some []), (3, none), (16, none), (17, some []), (18, some [])], [(1, [some [], some [], some [], some [], some []])]⟩)]
noncomputable def impl_QcVotes.K0 : List Fr := framesAt [true, true, true, false, true, false] (bodyOf Try.f24 impl_QcVotes.cuts) []
def impl_QcVotes.N0 (x3 : List T) (x16z : Bool) (x16 : List Int) (x17 x18 : Int) (c1_0 c1_1 : Int) (c1_2z : Bool) (c1_2 : List Int) (c1_3z : Bool) (c1_3 : List Int) (c1_4z : Bool) (c1_4 : List T) : St := stOf 43 43 1 [(1, .bp 1 0), (3, .val ⟨(.sl 33 false x3), [.l 3 0], true, some (.l 3 0)⟩), (16, .val ⟨(.nums 3 .i64 x16z x16), [.l 16 0], true, some (.l 16 0)⟩), (17, .val (V.s (.int .i64 x17))), (18, .val (V.s (.int .i64 x18)))] [(1, .cells [V.s (.int .i64 c1_0), V.s (.int .i64 c1_1), ⟨(.nums 5 .u8 c1_2z c1_2), [], false, none⟩, ⟨(.nums 5 .u8 c1_3z c1_3), [], false, none⟩, ⟨(.sl 22 c1_4z c1_4), [], false, none⟩])]
theorem impl_QcVotes.s0 (k : Nat) (G : List Fr → St → Option Res) (a0_0 a0_1 : Int) (a0_2z : Bool) (a0_2 : List Int) (a0_3z : Bool) (a0_3 : List Int) (a0_4z : Bool) (a0_4 yx3 : List T) (yx16z : Bool) (yx16 : List Int) (yx17 yx18 : Int) (yc1_0 yc1_1 : Int) (yc1_2z : Bool) (yc1_2 : List Int) (yc1_3z : Bool) (yc1_3 : List Int) (yc1_4z : Bool) (yc1_4 : List T) : resume Try.prog (impl_QcVotes.Cs k) G (finish Try.prog [] Try.f24 [.v (.agg [(.int .i64 a0_0), (.int .i64 a0_1), (.nums 5 .u8 a0_2z a0_2), (.nums 5 .u8 a0_3z a0_3), (.sl 22 a0_4z a0_4)])]) 100000 impl_QcVotes.K0 (impl_QcVotes.N0 yx3 yx16z yx16 yx17 yx18 yc1_0 yc1_1 yc1_2z yc1_2 yc1_3z yc1_3 yc1_4z yc1_4) = impl_QcVotes.l0b (fun r => some (impl_QcVotes.enc r)) (fun x3 x16z x16 x17 x18 c1_0 c1_1 c1_2z c1_2 c1_3z c1_3 c1_4z c1_4 => G impl_QcVotes.K0 (impl_QcVotes.N0 x3 x16z x16 x17 x18 c1_0 c1_1 c1_2z c1_2 c1_3z c1_3 c1_4z c1_4)) k yx3 yx16z yx16 yx17 yx18 yc1_0 yc1_1 yc1_2z yc1_2 yc1_3z yc1_3 yc1_4z yc1_4 := by kernel_rfl
theorem impl_QcVotes.bn {R R' : Type} (e : R → R') (ret : Bool × List T → Option R) (j0 : (List T) → Bool → (List Int) → Int → Int → Int → Int → Bool → (List Int) → Bool → (List Int) → Bool → (List T) → Option R) (k : Nat) (a0_0 a0_1 : Int) (a0_2z : Bool) (a0_2 : List Int) (a0_3z : Bool) (a0_3 : List Int) (a0_4z : Bool) (a0_4 : List T) : impl_QcVotes.b (fun r => (ret r).map e) (fun x3 x16z x16 x17 x18 c1_0 c1_1 c1_2z c1_2 c1_3z c1_3 c1_4z c1_4 => (j0 x3 x16z x16 x17 x18 c1_0 c1_1 c1_2z c1_2 c1_3z c1_3 c1_4z c1_4).map e) k a0_0 a0_1 a0_2z a0_2 a0_3z a0_3 a0_4z a0_4 = (impl_QcVotes.b ret j0 k a0_0 a0_1 a0_2z a0_2 a0_3z a0_3 a0_4z a0_4).map e := by
  unfold impl_QcVotes.b
  repeat' first | with_reducible refine nat_cond ?_ ?_ | with_reducible refine nat_bind fun _ => ?_ | rfl
theorem impl_QcVotes.l0n {R R' : Type} (e : R → R') (ret : Bool × List T → Option R) (j0 : (List T) → Bool → (List Int) → Int → Int → Int → Int → Bool → (List Int) → Bool → (List Int) → Bool → (List T) → Option R) (k : Nat) (x3 : List T) (x16z : Bool) (x16 : List Int) (x17 x18 : Int) (c1_0 c1_1 : Int) (c1_2z : Bool) (c1_2 : List Int) (c1_3z : Bool) (c1_3 : List Int) (c1_4z : Bool) (c1_4 : List T) : impl_QcVotes.l0b (fun r => (ret r).map e) (fun x3 x16z x16 x17 x18 c1_0 c1_1 c1_2z c1_2 c1_3z c1_3 c1_4z c1_4 => (j0 x3 x16z x16 x17 x18 c1_0 c1_1 c1_2z c1_2 c1_3z c1_3 c1_4z c1_4).map e) k x3 x16z x16 x17 x18 c1_0 c1_1 c1_2z c1_2 c1_3z c1_3 c1_4z c1_4 = (impl_QcVotes.l0b ret j0 k x3 x16z x16 x17 x18 c1_0 c1_1 c1_2z c1_2 c1_3z c1_3 c1_4z c1_4).map e := by
  unfold impl_QcVotes.l0b
  repeat' first | with_reducible refine nat_cond ?_ ?_ | with_reducible refine nat_bind fun _ => ?_ | rfl
theorem impl_QcVotes.rq (a0_0 a0_1 : Int) (a0_2z : Bool) (a0_2 : List Int) (a0_3z : Bool) (a0_3 : List Int) (a0_4z : Bool) (a0_4 : List T) : ∀ k, (∀ (x3 : List T) (x16z : Bool) (x16 : List Int) (x17 x18 : Int) (c1_0 c1_1 : Int) (c1_2z : Bool) (c1_2 : List Int) (c1_3z : Bool) (c1_3 : List Int) (c1_4z : Bool) (c1_4 : List T), rounds Try.prog impl_QcVotes.Cs (finish Try.prog [] Try.f24 [.v (.agg [(.int .i64 a0_0), (.int .i64 a0_1), (.nums 5 .u8 a0_2z a0_2), (.nums 5 .u8 a0_3z a0_3), (.sl 22 a0_4z a0_4)])]) 100000 k impl_QcVotes.K0 (impl_QcVotes.N0 x3 x16z x16 x17 x18 c1_0 c1_1 c1_2z c1_2 c1_3z c1_3 c1_4z c1_4) = (impl_QcVotes.l0 k x3 x16z x16 x17 x18 c1_0 c1_1 c1_2z c1_2 c1_3z c1_3 c1_4z c1_4).map impl_QcVotes.enc)
  | 0 => fun _ _ _ _ _ _ _ _ _ _ _ _ _ => rfl
  | k + 1 => by
    have ih := impl_QcVotes.rq a0_0 a0_1 a0_2z a0_2 a0_3z a0_3 a0_4z a0_4 k
    refine fun _ _ _ _ _ _ _ _ _ _ _ _ _ => ?_
    · refine (impl_QcVotes.s0 k _ a0_0 a0_1 a0_2z a0_2 a0_3z a0_3 a0_4z a0_4 _ _ _ _ _ _ _ _ _ _ _ _ _).trans (Eq.trans ?_ (impl_QcVotes.l0n impl_QcVotes.enc some (impl_QcVotes.l0 k) k _ _ _ _ _ _ _ _ _ _ _ _ _))
      simp only [ih, Option.map_some]
theorem impl_QcVotes.eq (k : Nat) (a0_0 a0_1 : Int) (a0_2z : Bool) (a0_2 : List Int) (a0_3z : Bool) (a0_3 : List Int) (a0_4z : Bool) (a0_4 : List T) : answer Try.prog impl_QcVotes.Cs 100000 impl_QcVotes.cuts [] Try.f24 (k + 1) [.v (.agg [(.int .i64 a0_0), (.int .i64 a0_1), (.nums 5 .u8 a0_2z a0_2), (.nums 5 .u8 a0_3z a0_3), (.sl 22 a0_4z a0_4)])] = (impl_QcVotes.f (k + 1) a0_0 a0_1 a0_2z a0_2 a0_3z a0_3 a0_4z a0_4).map impl_QcVotes.enc := by
  have ih := impl_QcVotes.rq a0_0 a0_1 a0_2z a0_2 a0_3z a0_3 a0_4z a0_4 k
  refine Eq.trans (b := impl_QcVotes.b (fun r => some (impl_QcVotes.enc r)) (fun x3 x16z x16 x17 x18 c1_0 c1_1 c1_2z c1_2 c1_3z c1_3 c1_4z c1_4 => rounds Try.prog impl_QcVotes.Cs (finish Try.prog [] Try.f24 [.v (.agg [(.int .i64 a0_0), (.int .i64 a0_1), (.nums 5 .u8 a0_2z a0_2), (.nums 5 .u8 a0_3z a0_3), (.sl 22 a0_4z a0_4)])]) 100000 k impl_QcVotes.K0 (impl_QcVotes.N0 x3 x16z x16 x17 x18 c1_0 c1_1 c1_2z c1_2 c1_3z c1_3 c1_4z c1_4)) k a0_0 a0_1 a0_2z a0_2 a0_3z a0_3 a0_4z a0_4) (by kernel_rfl) (Eq.trans ?_ (impl_QcVotes.bn impl_QcVotes.enc some (impl_QcVotes.l0 k) k a0_0 a0_1 a0_2z a0_2 a0_3z a0_3 a0_4z a0_4))
  simp only [ih, Option.map_some]
theorem impl_QcVotes.sound (k : Nat) : SoundF Try.prog 24 (fun a => (impl_QcVotes.ans k a).val) := by
  refine sound_plain (fun args res h => ?_) (fun t n => rfl)
  unfold impl_QcVotes.ans at h
  dsimp only at h
  split at h
  · cases k with
    | zero => cases h
    | succ k =>
      unfold Ans.val at h
      rw [← impl_QcVotes.eq] at h
      exact answer_sound mixed Try.func24 _ _ _ (k + 1) (fun j _ => tab_sound (tab_cons (impl_BitsList.sound j) (tab_cons (impl_BitsCount.sound j) (tab_cons (impl_copyBytes.sound j) (tab_nil))))) _ _ h
  · exact (Ans.no_val h).elim

def impl_numbers.b {R : Type} (ret : Bool × List Int → Option R) (j0 : Bool → (List Int) → Bool → (List Int) → Int → Int → Option R) (k : Nat) (a0 : Int) (a1z : Bool) (a1 : List Int) : Option R :=
  j0 false ([a0] : List Int) a1z a1 ((a1).length : Int) 0
def impl_numbers.l0b {R : Type} (ret : Bool × List Int → Option R) (j0 : Bool → (List Int) → Bool → (List Int) → Int → Int → Option R) (k : Nat) (x5z : Bool) (x5 : List Int) (x12z : Bool) (x12 : List Int) (x13 x14 : Int) : Option R :=
  cond (decide (x14 < x13)) (cond (decide ((0 : Int) ≤ x14)) (cond (decide (x14 < ((x12).length : Int))) ((impl_PutVar.f k x5z x5 (rdI x12 x14)).bind fun t0 => cond (!t0.2.2) (ret (true, ([] : List Int))) (j0 t0.1 t0.2.1 x12z x12 x13 (RowKit.wrap64 (x14 + 1)))) (none)) (none)) (ret (x5z, x5))
def impl_numbers.l0 : Nat → Bool → (List Int) → Bool → (List Int) → Int → Int → Option (Bool × List Int)
  | 0, _, _, _, _, _, _ => none
  | k + 1, x5z, x5, x12z, x12, x13, x14 => impl_numbers.l0b some (impl_numbers.l0 k) k x5z x5 x12z x12 x13 x14
def impl_numbers.f : Nat → Int → Bool → (List Int) → Option (Bool × List Int)
  | 0, _, _, _ => none
  | k + 1, a0, a1z, a1 => impl_numbers.b some (impl_numbers.l0 k) k a0 a1z a1
def impl_numbers.enc (r : Bool × List Int) : Res := ⟨[.vals false [((.nums 5 .u8 r.1 r.2), true)]], []⟩
def impl_numbers.ans (k : Nat) : List Arg → Ans
  | [.v (.int .u8 a0), .v (.nums 3 .i64 a1z a1)] => ⟨impl_numbers.f k a0 a1z a1, impl_numbers.enc⟩
  | _ => Ans.no
def impl_numbers.Cs (k : Nat) : CallSem := tab [(150, impl_PutVar.ans k)]
def impl_numbers.cuts : List (Nat × Keep) := [(58, ⟨[(5, none), (12, some []), (13, some []), (14, some [])], []⟩)]
noncomputable def impl_numbers.K0 : List Fr := framesAt [true, true, false, true, false] (bodyOf Try.f84 impl_numbers.cuts) []
def impl_numbers.N0 (x5z : Bool) (x5 : List Int) (x12z : Bool) (x12 : List Int) (x13 x14 : Int) : St := stOf 29 29 2 [(5, .val ⟨(.nums 5 .u8 x5z x5), [.l 5 0], true, some (.l 5 0)⟩), (12, .val ⟨(.nums 3 .i64 x12z x12), [], false, none⟩), (13, .val (V.s (.int .i64 x13))), (14, .val (V.s (.int .i64 x14)))] []
theorem impl_numbers.s0 (k : Nat) (G : List Fr → St → Option Res) (a0 : Int) (a1z : Bool) (a1 : List Int) (yx5z : Bool) (yx5 : List Int) (yx12z : Bool) (yx12 : List Int) (yx13 yx14 : Int) : resume Try.prog (impl_numbers.Cs k) G (finish Try.prog [] Try.f84 [.v (.int .u8 a0), .v (.nums 3 .i64 a1z a1)]) 100000 impl_numbers.K0 (impl_numbers.N0 yx5z yx5 yx12z yx12 yx13 yx14) = impl_numbers.l0b (fun r => some (impl_numbers.enc r)) (fun x5z x5 x12z x12 x13 x14 => G impl_numbers.K0 (impl_numbers.N0 x5z x5 x12z x12 x13 x14)) k yx5z yx5 yx12z yx12 yx13 yx14 := by kernel_rfl
theorem impl_numbers.bn {R R' : Type} (e : R → R') (ret : Bool × List Int → Option R) (j0 : Bool → (List Int) → Bool → (List Int) → Int → Int → Option R) (k : Nat) (a0 : Int) (a1z : Bool) (a1 : List Int) : impl_numbers.b (fun r => (ret r).map e) (fun x5z x5 x12z x12 x13 x14 => (j0 x5z x5 x12z x12 x13 x14).map e) k a0 a1z a1 = (impl_numbers.b ret j0 k a0 a1z a1).map e := by
  unfold impl_numbers.b
  repeat' first | with_reducible refine nat_cond ?_ ?_ | with_reducible refine nat_bind fun _ => ?_ | rfl
theorem impl_numbers.l0n {R R' : Type} (e : R → R') (ret : Bool × List Int → Option R) (j0 : Bool → (List Int) → Bool → (List Int) → Int → Int → Option R) (k : Nat) (x5z : Bool) (x5 : List Int) (x12z : Bool) (x12 : List Int) (x13 x14 : Int) : impl_numbers.l0b (fun r => (ret r).map e) (fun x5z x5 x12z x12 x13 x14 => (j0 x5z x5 x12z x12 x13 x14).map e) k x5z x5 x12z x12 x13 x14 = (impl_numbers.l0b ret j0 k x5z x5 x12z x12 x13 x14).map e := by
  unfold impl_numbers.l0b
  repeat' first | with_reducible refine nat_cond ?_ ?_ | with_reducible refine nat_bind fun _ => ?_ | rfl
theorem impl_numbers.rq (a0 : Int) (a1z : Bool) (a1 : List Int) : ∀ k, (∀ (x5z : Bool) (x5 : List Int) (x12z : Bool) (x12 : List Int) (x13 x14 : Int), rounds Try.prog impl_numbers.Cs (finish Try.prog [] Try.f84 [.v (.int .u8 a0), .v (.nums 3 .i64 a1z a1)]) 100000 k impl_numbers.K0 (impl_numbers.N0 x5z x5 x12z x12 x13 x14) = (impl_numbers.l0 k x5z x5 x12z x12 x13 x14).map impl_numbers.enc)
  | 0 => fun _ _ _ _ _ _ => rfl
  | k + 1 => by
    have ih := impl_numbers.rq a0 a1z a1 k
    refine fun _ _ _ _ _ _ => ?_
    · refine (impl_numbers.s0 k _ a0 a1z a1 _ _ _ _ _ _).trans (Eq.trans ?_ (impl_numbers.l0n impl_numbers.enc some (impl_numbers.l0 k) k _ _ _ _ _ _))
      simp only [ih, Option.map_some]
theorem impl_numbers.eq (k : Nat) (a0 : Int) (a1z : Bool) (a1 : List Int) : answer Try.prog impl_numbers.Cs 100000 impl_numbers.cuts [] Try.f84 (k + 1) [.v (.int .u8 a0), .v (.nums 3 .i64 a1z a1)] = (impl_numbers.f (k + 1) a0 a1z a1).map impl_numbers.enc := by
  have ih := impl_numbers.rq a0 a1z a1 k
  refine Eq.trans (b := impl_numbers.b (fun r => some (impl_numbers.enc r)) (fun x5z x5 x12z x12 x13 x14 => rounds Try.prog impl_numbers.Cs (finish Try.prog [] Try.f84 [.v (.int .u8 a0), .v (.nums 3 .i64 a1z a1)]) 100000 k impl_numbers.K0 (impl_numbers.N0 x5z x5 x12z x12 x13 x14)) k a0 a1z a1) (by kernel_rfl) (Eq.trans ?_ (impl_numbers.bn impl_numbers.enc some (impl_numbers.l0 k) k a0 a1z a1))
  simp only [ih, Option.map_some]
theorem impl_numbers.sound (k : Nat) : SoundF Try.prog 84 (fun a => (impl_numbers.ans k a).val) := by
  refine sound_plain (fun args res h => ?_) (fun t n => rfl)
  unfold impl_numbers.ans at h
  dsimp only at h
  split at h
  · cases k with
    | zero => cases h
    | succ k =>
      unfold Ans.val at h
      rw [← impl_numbers.eq] at h
      exact answer_sound mixed Try.func84 _ _ _ (k + 1) (fun j _ => tab_sound (tab_cons (impl_PutVar.sound j) (tab_nil))) _ _ h
  · exact (Ans.no_val h).elim

def impl_VoteBytes.b {R : Type} (ret : Bool × List Int → Option R) (k : Nat) (a0 a1 : Int) (a2z : Bool) (a2 : List Int) : Option R :=
  (impl_numbers.f k 86 false ([a0, a1] : List Int)).bind fun t0 => cond t0.1 (ret (true, ([] : List Int))) ((impl_areHashes.f k false ([(.nums 5 .u8 a2z a2)] : List T)).bind fun t1 => cond (!t1) (ret (true, ([] : List Int))) (cond (decide ((t0.2).length + (a2).length < 140737488355328)) (ret (((a2).isEmpty && t0.1), (t0.2 ++ a2))) (none)))
def impl_VoteBytes.f : Nat → Int → Int → Bool → (List Int) → Option (Bool × List Int)
  | 0, _, _, _, _ => none
  | k + 1, a0, a1, a2z, a2 => impl_VoteBytes.b some k a0 a1 a2z a2
def impl_VoteBytes.enc (r : Bool × List Int) : Res := ⟨[.vals false [((.nums 5 .u8 r.1 r.2), true)]], []⟩
def impl_VoteBytes.ans (k : Nat) : List Arg → Ans
  | [.v (.int .i64 a0), .v (.int .i64 a1), .v (.nums 5 .u8 a2z a2)] => ⟨impl_VoteBytes.f k a0 a1 a2z a2, impl_VoteBytes.enc⟩
  | _ => Ans.no
def impl_VoteBytes.Cs (k : Nat) : CallSem := tab [(85, impl_areHashes.ans k), (84, impl_numbers.ans k)]
theorem impl_VoteBytes.eq (k : Nat) (a0 a1 : Int) (a2z : Bool) (a2 : List Int) : answer Try.prog impl_VoteBytes.Cs 100000 [] [] Try.f20 (k + 1) [.v (.int .i64 a0), .v (.int .i64 a1), .v (.nums 5 .u8 a2z a2)] = (impl_VoteBytes.f (k + 1) a0 a1 a2z a2).map impl_VoteBytes.enc := by
  refine Eq.trans (b := impl_VoteBytes.b (fun r => some (impl_VoteBytes.enc r)) k a0 a1 a2z a2) (by kernel_rfl) ?_
  show _ = (impl_VoteBytes.b some k a0 a1 a2z a2).map impl_VoteBytes.enc
  unfold impl_VoteBytes.b
  repeat' first | with_reducible refine nat_cond ?_ ?_ | with_reducible refine nat_bind fun _ => ?_ | rfl
theorem impl_VoteBytes.sound (k : Nat) : SoundF Try.prog 20 (fun a => (impl_VoteBytes.ans k a).val) := by
  refine sound_plain (fun args res h => ?_) (fun t n => rfl)
  unfold impl_VoteBytes.ans at h
  dsimp only at h
  split at h
  · cases k with
    | zero => cases h
    | succ k =>
      unfold Ans.val at h
      rw [← impl_VoteBytes.eq] at h
      exact answer_sound mixed Try.func20 _ _ _ (k + 1) (fun j _ => tab_sound (tab_cons (impl_areHashes.sound j) (tab_cons (impl_numbers.sound j) (tab_nil)))) _ _ h
  · exact (Ans.no_val h).elim

def impl_MacKey.b {R : Type} (ret : Bool × List Int → Option R) (k : Nat) (a0z : Bool) (a0 : List Int) : Option R :=
  cond (decide (((a0).length : Int) > 64)) ((impl_Sha.f k a0z a0).bind fun t0 => ret (false, ((t0.2).take ((List.replicate 64 (0 : Int))).length ++ ((List.replicate 64 (0 : Int))).drop (t0.2).length))) (ret (false, ((a0).take ((List.replicate 64 (0 : Int))).length ++ ((List.replicate 64 (0 : Int))).drop (a0).length)))
def impl_MacKey.f : Nat → Bool → (List Int) → Option (Bool × List Int)
  | 0, _, _ => none
  | k + 1, a0z, a0 => impl_MacKey.b some k a0z a0
def impl_MacKey.enc (r : Bool × List Int) : Res := ⟨[.vals false [((.nums 5 .u8 r.1 r.2), true)]], []⟩
def impl_MacKey.ans (k : Nat) : List Arg → Ans
  | [.v (.nums 5 .u8 a0z a0)] => ⟨impl_MacKey.f k a0z a0, impl_MacKey.enc⟩
  | _ => Ans.no
def impl_MacKey.Cs (k : Nat) : CallSem := tab [(104, impl_Sha.ans k)]
theorem impl_MacKey.eq (k : Nat) (a0z : Bool) (a0 : List Int) : answer Try.prog impl_MacKey.Cs 100000 [] [] Try.f148 (k + 1) [.v (.nums 5 .u8 a0z a0)] = (impl_MacKey.f (k + 1) a0z a0).map impl_MacKey.enc := by
  refine Eq.trans (b := impl_MacKey.b (fun r => some (impl_MacKey.enc r)) k a0z a0) (by kernel_rfl) ?_
  show _ = (impl_MacKey.b some k a0z a0).map impl_MacKey.enc
  unfold impl_MacKey.b
  repeat' first | with_reducible refine nat_cond ?_ ?_ | with_reducible refine nat_bind fun _ => ?_ | rfl
theorem impl_MacKey.sound (k : Nat) : SoundF Try.prog 148 (fun a => (impl_MacKey.ans k a).val) := by
  refine sound_plain (fun args res h => ?_) (fun t n => rfl)
  unfold impl_MacKey.ans at h
  dsimp only at h
  split at h
  · cases k with
    | zero => cases h
    | succ k =>
      unfold Ans.val at h
      rw [← impl_MacKey.eq] at h
      exact answer_sound mixed Try.func148 _ _ _ (k + 1) (fun j _ => tab_sound (tab_cons (impl_Sha.sound j) (tab_nil))) _ _ h
  · exact (Ans.no_val h).elim

end Go.Proofs.YtbpcnodmgphinaaG
